/- Texts joined: ChkW10, RC10, RI7, RPar1, RPar2, RPar3, RPar4, RPar5, RPar6, RPar7, RPar8. -/
import Derived.Test.YtcbpcianefpniaaGreatDoorBRowIR1
import Derived.Test.YtcbpcianefpniaaGreatDoorBRowIR2
import Derived.Test.YtcbpcianefpniaaGreatDoorBRowIR4
import Derived.Test.YtcbpcianefpniaaGreatDoorBRowIR6
import Derived.Test.YtcbpcianefpniaaGreatDoorBRowIR7
set_option linter.unusedVariables false
set_option linter.unusedSimpArgs false
namespace Go.Proofs.YtcbpcianefpniaaGreatDoor.Chk
open Go.GL Go.RowKit Go.Stele
set_option maxRecDepth 100000
set_option maxHeartbeats 4000000
def encArG (a:Nm×Int):LV:=.agg [str a.1,int .i64 a.2]
def encPrG (vars:List Nm) (arrays:List (Nm×Int)) (fs:List FnD):LV:=.agg [.list (vars.map str),.list (arrays.map encArG),.list (fs.map encFn)]
theorem freshE_zero:∀ (l known:List Nm),freshE known l=0→l.Nodup∧(∀ s∈l,s ∉ known)∧∀ s∈l,isNm s=true
 |[],known,_=>⟨List.nodup_nil,fun s h=>(List.not_mem_nil h).elim,fun s h=>(List.not_mem_nil h).elim⟩
 |s::l,known,h=>by
  rw[freshE] at h
  split at h
  ·cases h
  rename_i h1
  split at h
  ·cases h
  rename_i h2
  obtain ⟨h3,h4,h5⟩:=freshE_zero l _ h
  refine ⟨List.nodup_cons.2 ⟨fun hm=>h4 s hm (List.mem_cons_self ..),h3⟩,?_,?_⟩
  ·intro x hx
   rcases List.mem_cons.1 hx with rfl|hx
   ·exact h2
   ·exact fun hk=>h4 x hx (List.mem_cons_of_mem _ hk)
  ·intro x hx
   rcases List.mem_cons.1 hx with rfl|hx
   ·simpa using h1
   ·exact h5 x hx
theorem isNm_short {s:Nm} (h:isNm s=true):s.length≤1000:=by
 unfold isNm at h
 simp only[Bool.and_eq_true,decide_eq_true_eq] at h
 omega
theorem orE_ne {a b:Int} (h:a≠0):orE a b=a:=by
 unfold orE
 exact if_pos h
theorem ndFs_append:∀ a b:List FnD,ndFs (a++b)=ndFs a+ndFs b
 |[],b=>by rw[List.nil_append,ndFs,Nat.zero_add]
 |x::a,b=>by rw[List.cons_append,ndFs,ndFs,ndFs_append a b];omega
theorem errFs_zero {vars arrays later:List Nm}:∀ (l:List FnD) (known:List FSum),errFs vars arrays later known l=0→∀ f∈l,∃ k,errF vars arrays later k f=0
 |[],_,_,f,h=>(List.not_mem_nil h).elim
 |g::l,known,h,f,hf=>by
  rw[errFs,orE_zero] at h
  rcases List.mem_cons.1 hf with rfl|hf
  ·exact ⟨known,h.1⟩
  ·exact errFs_zero l _ h.2 f hf
theorem errF_names {vars arrays later:List Nm} {k:List FSum} {f:FnD} (h:errF vars arrays later k f=0):∀ x∈f.params++f.locals,x.length≤1000:=by
 unfold errF at h
 rw[orE_zero] at h
 intro x hx
 exact isNm_short ((freshE_zero _ _ h.1).2.2 x hx)
theorem find_last {l:List FSum} {m:FSum} (hn:(l.map (·.name)).Nodup) (hm:l.getLast? = some m):(l.find? fun g=>decide (g.name=m.name))=some m:=by
 obtain ⟨ys,rfl⟩:=List.getLast?_eq_some_iff.1 hm
 rw[List.find?_append]
 have h1:(ys.find? fun g=>decide (g.name=m.name))=none:=by
  rw[List.find?_eq_none]
  intro g hg
  simp only[decide_eq_true_eq]
  intro h2
  rw[List.map_append] at hn
  exact (List.nodup_append.1 hn).2.2 _ (List.mem_map_of_mem hg) _ (List.mem_map_of_mem (List.mem_singleton_self m)) h2
 rw[h1,Option.none_or,List.find?_cons_of_pos]
 exact decide_eq_true rfl
theorem sumFs_names {vars arrays later:List Nm}:∀ (l:List FnD) (known:List FSum),(sumFs vars arrays later known l).map (·.name)=known.map (·.name)++l.map (·.name)
 |[],known=>by rw[sumFs];simp
 |f::l,known=>by
  rw[sumFs,sumFs_names l]
  simp[sumF]
theorem fresh_step {pre l:List Nm} {s:Nm} {FR:Int} (h:freshE pre (s::l)=FR) (h0:newE pre s=0):freshE (pre++[s]) l=FR:=by
 rw[←h,freshE_cons,h0,freshE_iff l (pre++[s]) (s::pre) (fun x=>by simp[or_comm])]
 rfl
theorem fresh_bad {pre l:List Nm} {s:Nm} {FR RA E:Int} (hI:orE FR RA=E) (h:freshE pre (s::l)=FR) (h0:newE pre s≠0):E=newE pre s:=by
 rw[←hI,←h,freshE_cons,orE_ne (a:=orE _ _) (by rw[orE_ne h0];exact h0),orE_ne h0]
attribute [local irreducible] LOps LCode LStep LCalls Go.GL.Pure QThen QBlock RetPost LQ LAny LLate LLateOp LS
section
variable {B0:Nat} {w0:World}
theorem program_spec {k:KB} {o:Value} {d:Nat} (vars:List Nm) (arrays:List (Nm×Int)) (fs:List FnD) (hk1:k.G=[]) (hk2:k.V=[]) (hk3:k.A=[]) (hk4:k.F=[]) (hv6:vars.length≤1000000) (ha6:arrays.length≤1000000) (har:∀ a∈arrays,-9223372036854775808≤a.2∧a.2<9223372036854775808) (hnd:ndFs fs≤1000000) :
  LCalls (KC B0 w0) 41 [ptr k.cb 0,encPrG vars arrays fs] (pgH k o d) (PostE (checkP vars arrays fs) (fun H=>H=[])):=by
 have hf6:fs.length≤1000000:=Nat.le_trans (ndFs_len fs) hnd
 generalize hI:checkP vars arrays fs=E
 unfold checkP at hI
 generalize hFR:freshE [] (vars++arrays.map (·.1)++fs.map (·.name))=FR at hI
 generalize hSZ:sizesE 0 (arrays.map (·.2))=SZ at hI
 generalize hFS:errFs vars (arrays.map (·.1)) (fs.map (·.name)) [] fs=FS at hI
 generalize hSS:sumFs vars (arrays.map (·.1)) (fs.map (·.name)) [] fs=SS at hI
 generalize hMN:mainE vars fs SS=MN at hI
 generalize hRA:orE SZ (orE FS MN)=RA at hI
 refine cI Tryz.func41 rfl (n:=147) rfl rfl rfl ?_
 refine gai ?_
 refine oS (S.box rfl fun b3=>?_) rfl
 refine gaa ?_
 refine oL (fun kk ls H'=>∃ (pre l1:List Nm) (G1 V1:KV) (g1 g2:Nat),vars=pre++l1∧kk=l1.length∧ls=[(0,ptr k.cb 0),(3,ptr b3 0),(18,.list (vars.map str)),(19,int .i64 ((vars.map str).length:Int)),(20,iv pre.length)] ∧
   H'=(b3,.cells 33 [.list (vars.map str),.list (arrays.map encArG),.list (fs.map encFn)])::pgH { k with G:=G1,g1:=g1,V:=V1,g2:=g2 } o d∧IsSet G1 pre∧IsSet V1 pre∧freshE pre (l1++arrays.map (·.1)++fs.map (·.name))=FR)
  ⟨_,_,_,⟨[],vars,k.G,k.V,k.g1,k.g2,rfl,rfl,rfl,rfl,by rw[hk1];exact IsSet.nil,by rw[hk2];exact IsSet.nil,hFR⟩,⟨rfl,rfl,rfl,rfl,rfl,trivial⟩,HSub.refl _⟩ ?_
 rintro kk ls H' ⟨pre,l1,G1,V1,g1,g2,hLe,rfl,rfl,rfl,hG1,hV1,hE⟩ j hj
 have hb2:pre.length≤1000000:=by
  have:=congrArg List.length hLe
  rw[List.length_append] at this
  omega
 refine gak ?_
 refine oC rfl (fun hc=>?_) (fun hc=>?_)
 ·have hlen:=zt hc
  rw[List.length_map,hLe,List.length_append] at hlen
  obtain ⟨s,l2,rfl⟩:∃ a l2,l1=a::l2:=by
   cases l1 with
   |nil=>simp at hlen
   |cons a l2=>exact ⟨a,l2,rfl⟩
  rw[List.cons_append,List.cons_append] at hE
  refine gan ?_
  refine oP (xR (el':=str s) (cs:=[str s]) rfl rfl zo (by rw[hLe];exact get_mid str pre s l2) rfl rfl) rfl ?_
  refine gaa ?_
  refine oS (S.callE (F:=[_]) [_,_] rfl (Inp.swap1) (global_spec (k:={ k with G:=G1,g1:=g1,V:=V1,g2:=g2 }) (o:=o) (d:=d) hG1 s) (fun H2 h0 hP=>?_) (fun nm h0 e' he'=>?_)) rfl
  rotate_left
  ·refine gah ?_
   exact panE (he'.trans hj) (fresh_bad hI hE h0) h0
  obtain ⟨g1',rfl⟩:=hP
  refine LOps.perm (Inp.swap1 (H:=pgH _ _ _)).symm ?_
  refine gaa ?_
  refine oS (S.kvSet (k:=s) (lv:=bool true) rfl rfl rfl zp3 fun g2'=>?_) rfl
  refine ga0 ?_
  refine ⟨l2.length,_,_,Nat.lt_succ_self _,⟨pre++[s],l2,GL.kvPut G1 s (bool true),GL.kvPut V1 s (bool true),g1',g2',by rw[hLe];simp,rfl,rfl,rfl,hG1.add s,hV1.add s,fresh_step hE h0⟩,⟨rfl,rfl,rfl,rfl,int_eq (by simp),trivial⟩,?_,hj⟩
  repeat first
   |exact HSub.nil _
   |refine zhP zb2 ?_
 have hlen:=zf hc
 rw[List.length_map,hLe,List.length_append] at hlen
 obtain rfl:l1=[]:=by
  cases l1 with
  |nil=>rfl
  |cons a l2=>simp at hlen;omega
 rw[List.append_nil] at hLe
 subst hLe
 rw[List.nil_append] at hE
 clear hlen hc hb2
 refine gaa ?_
 refine oL (fun kk ls H'=>∃ (pre l1:List (Nm×Int)) (G1 A1:KV) (g1 g3:Nat),arrays=pre++l1∧kk=l1.length∧ls=[(0,ptr k.cb 0),(3,ptr b3 0),(34,.list (arrays.map encArG)),(35,int .i64 ((arrays.map encArG).length:Int)),(36,iv pre.length)] ∧
   H'=(b3,.cells 33 [.list (vars.map str),.list (arrays.map encArG),.list (fs.map encFn)])::pgH { k with G:=G1,g1:=g1,V:=V1,g2:=g2,A:=A1,g3:=g3 } o d∧IsSet G1 (vars++pre.map (·.1))∧IsSet A1 (pre.map (·.1))∧freshE (vars++pre.map (·.1)) (l1.map (·.1)++fs.map (·.name))=FR)
  ⟨_,_,_,⟨[],arrays,G1,k.A,g1,k.g3,rfl,rfl,rfl,rfl,by simpa using hG1,by rw[hk3];exact IsSet.nil,by simpa using hE⟩,⟨rfl,rfl,rfl,rfl,rfl,trivial⟩,HSub.refl _⟩ ?_
 clear hG1 hE G1 g1
 rintro kk ls H' ⟨pre,l1,G1,A1,g1,g3,hLe,rfl,rfl,rfl,hG1,hA1,hE⟩ j hj2
 have hb2:pre.length≤1000000:=by
  have:=congrArg List.length hLe
  rw[List.length_append] at this
  omega
 refine gak ?_
 refine oC rfl (fun hc=>?_) (fun hc=>?_)
 ·have hlen:=zt hc
  rw[List.length_map,hLe,List.length_append] at hlen
  obtain ⟨s,l2,rfl⟩:∃ a l2,l1=a::l2:=by
   cases l1 with
   |nil=>simp at hlen
   |cons a l2=>exact ⟨a,l2,rfl⟩
  rw[List.map_cons,List.cons_append] at hE
  refine gan ?_
  refine oP (xR (el':=encArG s) (cs:=[str s.1,int .i64 s.2]) rfl rfl zo (by rw[hLe];exact get_mid encArG pre s l2) rfl rfl) rfl ?_
  refine gac ?_
  refine oS (S.alloc fun b7=>?_) rfl
  refine gaa ?_
  refine oS (S.callE (F:=[_,_]) [_,_] rfl (List.perm_append_comm (l₁:=[_,_])) (global_spec (k:={ k with G:=G1,g1:=g1,V:=V1,g2:=g2,A:=A1,g3:=g3 }) (o:=o) (d:=d) hG1 s.1) (fun H2 h0 hP=>?_) (fun nm h0 e' he'=>?_)) rfl
  rotate_left
  ·refine gah ?_
   exact panE (he'.trans (hj2.trans hj)) (fresh_bad hI hE h0) h0
  obtain ⟨g1',rfl⟩:=hP
  refine LOps.weak (H':=[(b7,.cells 60 [str s.1,int .i64 s.2]),(k.cb,.cells 104 [.atom (.map (some k.gm)),.atom (.map (some k.vm)),.atom (.map (some k.am)),.atom (.map (some k.fm)),str k.name,.atom o,int .i64 (d:Int)]),(b3,.cells 33 [.list (vars.map str),.list (arrays.map encArG),.list (fs.map encFn)]),
   (k.gm,.map (kvs (GL.kvPut G1 s.1 (bool true))) g1'),(k.vm,.map (kvs V1) g2),(k.am,.map (kvs A1) g3),(k.fm,.map (kvs k.F) k.g4)]) ?_ ?_
  ·repeat first
    |exact HSub.nil _
    |refine zhP zb2 ?_
  refine gap ?_
  refine LCode.draw (m:=7) rfl [(b7,.cells 60 [str s.1,int .i64 s.2]),(k.cb,.cells 104 [.atom (.map (some k.gm)),.atom (.map (some k.vm)),.atom (.map (some k.am)),.atom (.map (some k.fm)),str k.name,.atom o,int .i64 (d:Int)])] ?_
  refine aT 0 rfl rfl (Pure.mv (lv:=.atom _) rfl) ?_
  refine aT 1 rfl rfl (Pure.nilCheckH rfl) ?_
  refine aT 2 rfl rfl (Pure.fieldH rfl) ?_
  refine aT 3 rfl rfl (Pure.loadH (c:=.atom _) rfl zm1 rfl) ?_
  refine aT 4 rfl rfl (Pure.fieldH rfl) ?_
  refine aT 5 rfl rfl (Pure.loadH (c:=.atom _) rfl zm0 rfl) ?_
  refine LAny.late ?_ (zhP pH zhp)
  refine lO 6 (lS (H1:=[(k.am,.map (kvs A1) g3)]) rfl (.inl rfl) rfl (show Pick _ _ _ from pT zp4) (zhP pH zhp) (S.kvSet (k:=s.1) (lv:=bool true) rfl rfl rfl pH fun g3'=>?_))
  refine lD zk ?_
  refine ga0 ?_
  refine ⟨l2.length,_,_,Nat.lt_succ_self _,⟨pre++[s],l2,GL.kvPut G1 s.1 (bool true),GL.kvPut A1 s.1 (bool true),g1',g3',by rw[hLe];simp,rfl,rfl,rfl,by simpa using hG1.add s.1,by simpa using hA1.add s.1,by simpa using fresh_step hE h0⟩,⟨rfl,rfl,rfl,rfl,int_eq (by simp),trivial⟩,?_,hj2⟩
  repeat first
   |exact HSub.nil _
   |refine zhP zb2 ?_
 have hlen:=zf hc
 rw[List.length_map,hLe,List.length_append] at hlen
 obtain rfl:l1=[]:=by
  cases l1 with
  |nil=>rfl
  |cons a l2=>simp at hlen;omega
 rw[List.append_nil] at hLe
 subst hLe
 rw[List.map_nil,List.nil_append] at hE
 clear hlen hc hb2
 refine gaa ?_
 refine oL (fun kk ls H'=>∃ (pre l1:List FnD) (G1:KV) (g1:Nat),fs=pre++l1∧kk=l1.length∧ls=[(0,ptr k.cb 0),(3,ptr b3 0),(52,.list (fs.map encFn)),(53,int .i64 ((fs.map encFn).length:Int)),(54,iv pre.length)] ∧
   H'=(b3,.cells 33 [.list (vars.map str),.list (arrays.map encArG),.list (fs.map encFn)])::pgH { k with G:=G1,g1:=g1,V:=V1,g2:=g2,A:=A1,g3:=g3 } o d∧IsSet G1 (vars++arrays.map (·.1)++pre.map (·.name))∧freshE (vars++arrays.map (·.1)++pre.map (·.name)) (l1.map (·.name))=FR)
  ⟨_,_,_,⟨[],fs,G1,g1,rfl,rfl,rfl,rfl,by simpa using hG1,by simpa using hE⟩,⟨rfl,rfl,rfl,rfl,rfl,trivial⟩,HSub.refl _⟩ ?_
 clear hG1 hE G1 g1
 rintro kk ls H' ⟨pre,l1,G1,g1,hLe,rfl,rfl,rfl,hG1,hE⟩ j hj3
 have hb2:pre.length≤1000000:=by
  have:=congrArg List.length hLe
  rw[List.length_append] at this
  omega
 refine gak ?_
 refine oC rfl (fun hc=>?_) (fun hc=>?_)
 ·have hlen:=zt hc
  rw[List.length_map,hLe,List.length_append] at hlen
  obtain ⟨s,l2,rfl⟩:∃ a l2,l1=a::l2:=by
   cases l1 with
   |nil=>simp at hlen
   |cons a l2=>exact ⟨a,l2,rfl⟩
  rw[List.map_cons] at hE
  refine gan ?_
  refine oP (xR (el':=encFn s) (cs:=[_,_,_,_]) rfl rfl zo (by rw[hLe];exact get_mid encFn pre s l2) rfl rfl) rfl ?_
  refine ga3 ?_
  refine oS (S.alloc fun b7=>?_) rfl
  refine gaa ?_
  refine oS (S.callE (F:=[_,_]) [_,_] rfl (List.perm_append_comm (l₁:=[_,_])) (global_spec (k:={ k with G:=G1,g1:=g1,V:=V1,g2:=g2,A:=A1,g3:=g3 }) (o:=o) (d:=d) hG1 s.name) (fun H2 h0 hP=>?_) (fun nm h0 e' he'=>?_)) rfl
  rotate_left
  ·refine gah ?_
   exact panE (he'.trans (hj3.trans (hj2.trans hj))) (fresh_bad hI hE h0) h0
  obtain ⟨g1',rfl⟩:=hP
  refine LOps.perm (List.perm_append_comm (l₂:=[_,_])) ?_
  refine ga0 ?_
  refine ⟨l2.length,_,_,Nat.lt_succ_self _,⟨pre++[s],l2,GL.kvPut G1 s.name (bool true),g1',by rw[hLe];simp,rfl,rfl,rfl,by simpa using hG1.add s.name,by simpa using fresh_step hE h0⟩,⟨rfl,rfl,rfl,rfl,int_eq (by simp),trivial⟩,zhD zhr,hj3⟩
 have hlen:=zf hc
 rw[List.length_map,hLe,List.length_append] at hlen
 obtain rfl:l1=[]:=by
  cases l1 with
  |nil=>rfl
  |cons a l2=>simp at hlen;omega
 rw[List.append_nil] at hLe
 subst hLe
 have hFR0:FR=0:=hE.symm
 clear hlen hc hb2 hE
 rw[hFR0] at hI
 have hnod:=(freshE_zero _ _ (hFR.trans hFR0)).1
 have hnmok:=(freshE_zero _ _ (hFR.trans hFR0)).2.2
 have hI1:RA=E:=by rw[←hI];rfl
 rw[←hRA] at hI1
 clear hI hRA hFR
 have hPr:0≤(0:Int)∧(0:Int)≤150000:=⟨by decide,by decide⟩
 refine gaa ?_
 refine oL (fun kk ls H'=>∃ (pre l1:List (Nm×Int)) (T:Int),arrays=pre++l1∧kk=l1.length∧ls=[(0,ptr k.cb 0),(3,ptr b3 0),(10,int .i64 T),(64,.list (arrays.map encArG)),(65,int .i64 ((arrays.map encArG).length:Int)),(66,iv pre.length)] ∧
   H'=(b3,.cells 33 [.list (vars.map str),.list (arrays.map encArG),.list (fs.map encFn)])::pgH { k with G:=G1,g1:=g1,V:=V1,g2:=g2,A:=A1,g3:=g3 } o d∧(0≤T∧T≤150000)∧sizesE T (l1.map (·.2))=SZ)
  ⟨_,_,_,⟨[],arrays,0,rfl,rfl,rfl,rfl,hPr,hSZ⟩,⟨rfl,rfl,rfl,rfl,rfl,rfl,trivial⟩,HSub.refl _⟩ ?_
 clear hSZ
 rintro kk ls H' ⟨pre,l1,T,hLe,rfl,rfl,rfl,⟨hT1,hT2⟩,hE⟩ j hj4
 have hb2:pre.length≤1000000:=by
  have:=congrArg List.length hLe
  rw[List.length_append] at this
  omega
 refine gak ?_
 refine oC rfl (fun hc=>?_) (fun hc=>?_)
 ·have hlen:=zt hc
  rw[List.length_map,hLe,List.length_append] at hlen
  obtain ⟨s,l2,rfl⟩:∃ a l2,l1=a::l2:=by
   cases l1 with
   |nil=>simp at hlen
   |cons a l2=>exact ⟨a,l2,rfl⟩
  obtain ⟨hs1,hs2⟩:=har s (by rw[hLe];exact List.mem_append_right _ (List.mem_cons_self ..))
  rw[List.map_cons,sizesE] at hE
  refine gan ?_
  refine oP (xR (el':=encArG s) (cs:=[str s.1,int .i64 s.2]) rfl rfl zo (by rw[hLe];exact get_mid encArG pre s l2) rfl rfl) rfl ?_
  refine gac ?_
  refine oS (S.alloc fun b7=>?_) rfl
  refine gaa ?_
  refine oB 72 rfl (fun h1=>?_) (fun h1=>?_)
  rotate_left
  ·have h2:s.2≤0:=by have:=zf h1;omega
   rw[if_pos h2] at hE
   refine oS (S.callK (H1:=[]) (F:=_) [_,_,_] rfl zpr (req_spec false s.1 2 (by decide)) (fun h=>absurd h (by decide)) (fun nm _ e' he'=>?_)) rfl
   refine gah ?_
   exact panE (he'.trans (hj4.trans (hj3.trans (hj2.trans hj)))) (by rw[←hI1,←hE];rfl) (by decide)
  have h2:¬ s.2≤0:=by have:=zt h1;omega
  rw[if_neg h2] at hE
  refine oS (S.callK (H1:=[]) (F:=_) [_,_,_] rfl zpr (req_spec true s.1 2 (by decide)) (fun _=>?_) (fun nm h=>absurd rfl h)) rfl
  refine gaa ?_
  refine oB 80 rfl (fun h3=>?_) (fun h3=>?_)
  rotate_left
  ·have h4:150000-T<s.2:=by have:=zf h3;omega
   rw[if_pos h4] at hE
   refine oS (S.callK (H1:=[]) (F:=_) [_,_,_] rfl zpr (req_spec false s.1 6 (by decide)) (fun h=>absurd h (by decide)) (fun nm _ e' he'=>?_)) rfl
   refine gah ?_
   exact panE (he'.trans (hj4.trans (hj3.trans (hj2.trans hj)))) (by rw[←hI1,←hE];rfl) (by decide)
  have h4:¬ 150000-T<s.2:=by have:=zt h3;omega
  rw[if_neg h4] at hE
  refine oS (S.callK (H1:=[]) (F:=_) [_,_,_] rfl zpr (req_spec true s.1 6 (by decide)) (fun _=>?_) (fun nm h=>absurd rfl h)) rfl
  refine gab ?_
  exact ⟨l2.length,_,_,Nat.lt_succ_self _,⟨pre++[s],l2,T+s.2,by rw[hLe];simp,rfl,rfl,rfl,⟨by omega,by omega⟩,hE⟩,⟨rfl,rfl,rfl,rfl,rfl,int_eq (by simp),trivial⟩,zhD zhr,hj4⟩
 have hlen:=zf hc
 rw[List.length_map,hLe,List.length_append] at hlen
 obtain rfl:l1=[]:=by
  cases l1 with
  |nil=>rfl
  |cons a l2=>simp at hlen;omega
 have hSZ0:SZ=0:=by rw[←hE];rfl
 rw[hSZ0] at hI1
 have hI2:orE FS MN=E:=by rw[←hI1];rfl
 clear hI1 hlen hc hb2 hLe hE
 have hnf:(fs.map (·.name)).Nodup:=(List.nodup_append.1 hnod).2.1
 have hds:j.ds=[]:=hj4.trans (hj3.trans (hj2.trans hj))
 clear hj hj2 hj3 hj4
 refine gaa ?_
 refine oL (fun kk ls H'=>∃ (pre l1:List FnD) (known:List FSum) (F1:KV) (g4:Nat) (nm:Nm) (o1:Value) (d1:Nat),fs=pre++l1∧kk=l1.length∧ls=[(0,ptr k.cb 0),(3,ptr b3 0),(90,.list (fs.map encFn)),(91,int .i64 ((fs.map encFn).length:Int)),(92,iv pre.length)] ∧
   H'=(b3,.cells 33 [.list (vars.map str),.list (arrays.map encArG),.list (fs.map encFn)])::pgH { k with name:=nm,G:=G1,g1:=g1,V:=V1,g2:=g2,A:=A1,g3:=g3,F:=F1,g4:=g4 } o1 d1∧(∀ n,GL.kvGet F1 n=(known.find? fun g=>decide (g.name=n)).map encSum)∧known.map (·.name)=pre.map (·.name) ∧
   errFs vars (arrays.map (·.1)) (fs.map (·.name)) known l1=FS∧sumFs vars (arrays.map (·.1)) (fs.map (·.name)) known l1=SS∧KnB (8 * ndFs pre) pre.length known)
  ⟨_,_,_,⟨[],fs,[],k.F,k.g4,k.name,o,d,rfl,rfl,rfl,rfl,fun n=>by rw[hk4];rfl,rfl,hFS,hSS,fun x hx=>(List.not_mem_nil hx).elim⟩,⟨rfl,rfl,rfl,rfl,rfl,trivial⟩,HSub.refl _⟩ ?_
 rintro kk ls H' ⟨pre,l1,known,F1,g4,nm,o1,d1,hLe,rfl,rfl,rfl,hF,hkn,hE,hS,hB⟩ j2 hj2
 have hb2:pre.length≤1000000:=by
  have:=congrArg List.length hLe
  rw[List.length_append] at this
  omega
 refine gak ?_
 refine oC rfl (fun hc=>?_) (fun hc=>?_)
 ·have hlen:=zt hc
  rw[List.length_map,hLe,List.length_append] at hlen
  obtain ⟨s,l2,rfl⟩:∃ a l2,l1=a::l2:=by
   cases l1 with
   |nil=>simp at hlen
   |cons a l2=>exact ⟨a,l2,rfl⟩
  have hsz:ndFs pre+ndF s≤1000000:=by
   have:=hnd
   rw[hLe,ndFs_append,ndFs] at this
   omega
  have hnew:s.name ∉ known.map (·.name):=by
   rw[hkn]
   have:=hnf
   rw[hLe,List.map_append,List.map_cons] at this
   intro hm
   exact (List.nodup_append.1 this).2.2 _ hm _ (List.mem_cons_self ..) rfl
  rw[errFs] at hE
  rw[sumFs] at hS
  refine gan ?_
  refine oP (xR (el':=encFn s) (cs:=[_,_,_,_]) rfl rfl zo (by rw[hLe];exact get_mid encFn pre s l2) rfl rfl) rfl ?_
  refine ga3 ?_
  refine oS (S.alloc fun b7=>?_) rfl
  refine gaa ?_
  refine oS (S.callE (F:=[_,_]) [_,_] rfl (List.perm_append_comm (l₁:=[_,_])) (function_spec (vars:=vars) (arrays:=arrays.map (·.1)) (later:=fs.map (·.name)) (known:=known) (k:={ k with name:=nm,G:=G1,g1:=g1,V:=V1,g2:=g2,A:=A1,g3:=g3,F:=F1,g4:=g4 }) (o:=o1) (d:=d1) s hG1 hV1 hA1 hF hnew hB zo zo zo) (fun H2 h0 hP=>?_) (fun nm h0 e' he'=>?_)) rfl
  rotate_left
  ·refine gah ?_
   exact panE (he'.trans (hj2.trans hds)) (by rw[←hI2,←hE,orE_ne (a:=orE _ _) (by rw[orE_ne h0];exact h0),orE_ne h0]) h0
  obtain ⟨nm',o',d',F',g4',hF',rfl⟩:=hP
  refine LOps.perm (List.perm_append_comm (l₂:=[_,_])) ?_
  refine ga0 ?_
  refine ⟨l2.length,_,_,Nat.lt_succ_self _,⟨pre++[s],l2,known++[sumF vars (arrays.map (·.1)) (fs.map (·.name)) known s],F',g4',nm',o',d',by rw[hLe];simp,rfl,rfl,rfl,hF',?_,by rw[←hE,h0];rfl,hS,?_⟩,⟨rfl,rfl,rfl,rfl,int_eq (by simp),trivial⟩,zhD zhr,hj2⟩
  ·rw[List.map_append,List.map_append,hkn]
   rfl
  ·have h1:=sumF_le (vars:=vars) (arrays:=arrays.map (·.1)) (later:=fs.map (·.name)) (f:=s) hB
   have h2:ndFs (pre++[s])=ndFs pre+ndF s:=by rw[ndFs_append,ndFs,ndFs];rfl
   intro g hg
   rw[h2,List.length_append,List.length_singleton]
   rcases List.mem_append.1 hg with hg|hg
   ·obtain ⟨a1,a2,a3⟩:=hB g hg
    exact ⟨by omega,by omega,by omega⟩
   ·obtain rfl:=List.mem_singleton.1 hg
    obtain ⟨a1,a2,a3⟩:=h1
    exact ⟨by omega,by omega,by omega⟩
 have hlen:=zf hc
 rw[List.length_map,hLe,List.length_append] at hlen
 obtain rfl:l1=[]:=by
  cases l1 with
  |nil=>rfl
  |cons a l2=>simp at hlen;omega
 have hFS0:FS=0:=by rw[←hE];rfl
 have hknS:known=SS:=by rw[←hS];rfl
 rw[hFS0] at hI2
 have hI3:MN=E:=by rw[←hI2];rfl
 clear hlen hc hb2 hLe hE
 subst hknS
 have hall:=errFs_zero fs [] (hFS.trans hFS0)
 have hnn:∀ f∈fs,f.name.length≤1000∧∀ x∈f.params++f.locals,x.length≤1000:=fun f hf=>by
  obtain ⟨kk,hk⟩:=hall f hf
  exact ⟨isNm_short (hnmok f.name (List.mem_append_right _ (List.mem_map_of_mem hf))),errF_names hk⟩
 have hsm:∀ f∈fs,SmF f:=fun f hf=>smF_of (Nat.le_trans (ndFs_mem hf) hnd)
 have hds2:=hj2.trans hds
 unfold mainE at hMN
 refine gaa ?_
 cases hfl:fs.getLast? with
 |none=>
  have hf0:fs=[]:=List.getLast?_eq_none_iff.1 hfl
  rw[hfl] at hMN
  refine oB 105 rfl (fun h=>absurd (zt h) (by rw[hf0];decide)) (fun _=>?_)
  refine gag ?_
  refine oS (S.callK (H1:=[]) (F:=_) [_,_,_] rfl zpr (req_spec false [109,97,105,110] 9 (by decide)) (fun h=>absurd h (by decide)) (fun nm _ e' he'=>?_)) rfl
  refine gao ?_
  exact panE (he'.trans hds2) (hI3.symm.trans hMN.symm) (by decide)
 |some f=>
  obtain ⟨ys,hys⟩:=List.getLast?_eq_some_iff.1 hfl
  have hln:(fs.map encFn).length=ys.length+1:=by rw[List.length_map,hys,List.length_append];rfl
  have hl6:(fs.map encFn).length≤1000000:=by rw[List.length_map];exact hf6
  have hn0:(0:Int)≤((fs.map encFn).length:Int)-1:=by omega
  have hget:(fs.map encFn)[(((fs.map encFn).length:Int)-1).toNat]? = some (encFn f):=by
   rw[show (((fs.map encFn).length:Int)-1).toNat=ys.length by omega,hys,List.map_append]
   rw[List.getElem?_append_right (by rw[List.length_map];exact Nat.le_refl _),List.length_map,Nat.sub_self]
   rfl
  have hnms:known.map (·.name)=fs.map (·.name):=by
   rw[←hSS,sumFs_names]
   rfl
  obtain ⟨m,hm⟩:∃ m,known.getLast? = some m:=by
   cases hx:known.getLast? with
   |some m=>exact ⟨m,rfl⟩
   |none=>
    rw[List.getLast?_eq_none_iff.1 hx,hys] at hnms
    simp at hnms
  have hmf:m.name=f.name:=by
   have h1:=congrArg List.getLast? hnms
   rw[List.getLast?_map,List.getLast?_map,hm,hfl] at h1
   exact Option.some.inj h1
  have hfind:=find_last (by rw[hnms];exact hnf) hm
  rw[hfl,hm] at hMN
  replace hMN:(if f.name=[109,97,105,110]∧f.params=[] then (if (scalarsP vars fs).length≤8000∧m.need≤200∧m.depth≤60 then 0 else 6) else 9)=MN:=hMN
  rw[hI3] at hMN
  refine oB 105 rfl (fun _=>?_) (fun h=>absurd (show ((fs.map encFn).length:Int) > 0 by omega) (zf h))
  refine gac ?_
  first|refine LOps.want rfl rfl ?_|skip
  refine oP (xR (el':=encFn f) (n:=((fs.map encFn).length:Int)-1) (cs:=[str f.name,.list (f.params.map str),.list (f.locals.map str),.list (f.body.map encS)]) rfl rfl hn0 hget rfl rfl) rfl ?_
  refine gac ?_
  refine oB 115 rfl (fun h1=>?_) (fun h1=>?_)
  rotate_left
  ·rw[if_neg (fun h=>zf h1 h.1)] at hMN
   refine gag ?_
   refine oS (S.callK (H1:=[]) (F:=_) [_,_,_] rfl zpr (req_spec false [109,97,105,110] 9 (by decide)) (fun h=>absurd h (by decide)) (fun nm _ e' he'=>?_)) rfl
   refine gao ?_
   exact panE (he'.trans hds2) hMN.symm (by decide)
  have hmain:f.name=[109,97,105,110]:=zt h1
  refine gac ?_
  first|refine LOps.want rfl rfl ?_|skip
  refine oP (xR (el':=encFn f) (n:=((fs.map encFn).length:Int)-1) (cs:=[str f.name,.list (f.params.map str),.list (f.locals.map str),.list (f.body.map encS)]) rfl rfl hn0 hget rfl rfl) rfl ?_
  refine gac ?_
  refine oB 125 rfl (fun h2=>?_) (fun h2=>?_)
  rotate_left
  ·rw[if_neg (fun h=>zf h2 (by rw[h.2];rfl))] at hMN
   refine oS (S.callK (H1:=[]) (F:=_) [_,_,_] rfl zpr (req_spec false [109,97,105,110] 9 (by decide)) (fun h=>absurd h (by decide)) (fun nm _ e' he'=>?_)) rfl
   refine gao ?_
   exact panE (he'.trans hds2) hMN.symm (by decide)
  have hpar:f.params=[]:=by
   have h3:=zt h2
   rw[List.length_map] at h3
   exact List.length_eq_zero_iff.1 zo
  rw[if_pos ⟨hmain,hpar⟩] at hMN
  refine oS (S.callK (H1:=[]) (F:=_) [_,_,_] rfl zpr (req_spec true [109,97,105,110] 9 (by decide)) (fun _=>?_) (fun nm h=>absurd rfl h)) rfl
  have hgF:GL.kvGet F1 [109,97,105,110]=some (encSum m):=by
   rw[hF,←hmain,←hmf,hfind]
   rfl
  refine gaa ?_
  refine oP (Pure.kvHit rfl rfl zm5 hgF) rfl ?_
  refine oS (S.alloc fun b16=>?_) rfl
  refine gaa ?_
  refine oS (S.fn [_] rfl (scalars_specG (.list (arrays.map encArG)) hv6 hf6 hsm hnn) ?_) rfl
  refine gac ?_
  refine oB 136 rfl (fun h3=>?_) (fun h3=>?_)
  rotate_left
  ·have hbad:¬ ((scalarsP vars fs).length≤8000∧m.need≤200∧m.depth≤60):=fun h=>zf h3 (by rw[List.length_map];have:=h.1;omega)
   rw[if_neg hbad] at hMN
   refine gag ?_
   refine oS (S.callK (H1:=[]) (F:=_) [_,_,_] rfl zpr (req_spec false [109,97,105,110] 6 (by decide)) (fun h=>absurd h (by decide)) (fun nm _ e' he'=>?_)) rfl
   exact panE (he'.trans hds2) hMN.symm (by decide)
  have h3':(scalarsP vars fs).length≤8000:=by
   have:=zt h3
   rw[List.length_map] at this
   omega
  refine gac ?_
  refine oB 141 rfl (fun h4=>?_) (fun h4=>?_)
  rotate_left
  ·have hbad:¬ ((scalarsP vars fs).length≤8000∧m.need≤200∧m.depth≤60):=fun h=>zf h4 (by have:=h.2.1;omega)
   rw[if_neg hbad] at hMN
   refine gag ?_
   refine oS (S.callK (H1:=[]) (F:=_) [_,_,_] rfl zpr (req_spec false [109,97,105,110] 6 (by decide)) (fun h=>absurd h (by decide)) (fun nm _ e' he'=>?_)) rfl
   exact panE (he'.trans hds2) hMN.symm (by decide)
  have h4':m.need≤200:=by
   have:=zt h4
   omega
  refine gac ?_
  refine oB 145 rfl (fun h5=>?_) (fun h5=>?_)
  rotate_left
  ·have hbad:¬ ((scalarsP vars fs).length≤8000∧m.need≤200∧m.depth≤60):=fun h=>zf h5 (by have:=h.2.2;omega)
   rw[if_neg hbad] at hMN
   refine oS (S.callK (H1:=[]) (F:=_) [_,_,_] rfl zpr (req_spec false [109,97,105,110] 6 (by decide)) (fun h=>absurd h (by decide)) (fun nm _ e' he'=>?_)) rfl
   exact panE (he'.trans hds2) hMN.symm (by decide)
  have h5':m.depth≤60:=by
   have:=zt h5
   omega
  rw[if_pos ⟨h3',h4',h5'⟩] at hMN
  refine oS (S.callK (H1:=[]) (F:=_) [_,_,_] rfl zpr (req_spec true [109,97,105,110] 6 (by decide)) (fun _=>?_) (fun nm h=>absurd rfl h)) rfl
  refine gap ?_
  exact retEn hds2 rN hMN.symm rfl zhn rfl
end
end Go.Proofs.YtcbpcianefpniaaGreatDoor.Chk
namespace Go.Proofs.YtcbpcianefpniaaGreatDoor.RC
open Go.GL Go.RowKit Go.Stele
open Go.Proofs.YtcbpcianefpniaaGreatDoor.Chk (encArG encPrG freshE_zero isNm_short ndFs_append errFs_zero errF_names)
set_option maxRecDepth 100000
set_option maxHeartbeats 4000000
@[reducible] def pgmH (b:Nat) (vars:List Nm) (arrays:List (Nm×Int)) (fs:List FnD):Nat×LObj:=prH b vars (.list (arrays.map encArG)) fs
def PostC (e:Int) (r:LRes) (H:Heap):Prop:=H=[]∧∃ nm,r=.ret (.tuple [str nm,int .i64 e])
section
variable {C:Ctx} {n:Nat} {e:Env} {H:Heap}
theorem retC {rs:List ResultVar} {vs:List LV} {nm:Nm} {er:Int} (hd:e.ds=[]) (h:AllRes C n e H rs vs) (hv:resLV vs=.tuple [str nm,int .i64 er]):RetPost C n rs (PostC er) .ret e H:=
 rR hd h zhn ⟨rfl,nm,by rw[hv]⟩
end
theorem sums_len (vars arrays later:List Nm) (fs:List FnD):(sumFs vars arrays later [] fs).length=fs.length:=by
 have:=congrArg List.length (sumFs_names vars arrays later fs [])
 simpa using this
theorem last_ix {A B:Type} (g:A→B) {l:List A} {x:A} {n:Nat} (h:l.getLast? = some x) (hn:l.length=n):(l.map g)[((n:Int)-1).toNat]? = some (g x):=by
 rw[List.getLast?_eq_getElem?] at h
 subst hn
 rw[List.getElem?_map,show ((l.length:Int)-1).toNat=l.length-1 by omega,h]
 rfl
attribute [local irreducible] LOps LCode LStep LCalls Go.GL.Pure QThen QBlock RetPost LQ LAny LLate LLateOp LS
section
variable {B0:Nat} {w0:World}
theorem rcheck_spec (vars:List Nm) (arrays:List (Nm×Int)) (fs:List FnD) (hv6:vars.length≤1000000) (ha6:arrays.length≤1000000) (har:∀ a∈arrays,-9223372036854775808≤a.2∧a.2<9223372036854775808) (hnd:ndFs fs≤1000000) :
  LCalls (KC B0 w0) 27 [encPrG vars arrays fs] [] (PostC (checkP vars arrays fs)):=by
 have hfl:=ndFs_len fs
 rw[←refCheck_eq]
 generalize hE:refCheck vars arrays fs=E
 unfold refCheck at hE
 unfold encPrG
 refine cI Tryz.func27 rfl (n:=199) rfl rfl rfl ?_
 refine gai ?_
 refine oS (S.box rfl fun b1=>?_) rfl
 refine ga2 ?_
 refine oS (S.litA (es:=[]) [] rfl eN rfl rfl rfl fun b4=>?_) rfl
 refine oS (S.litA (es:=[]) [] rfl eN rfl rfl rfl fun b5=>?_) rfl
 refine gaa ?_
 refine oL (fun k ls H'=>∃ (pre l1:List (Nm×Int)) (v4:LV) (H4:Heap),arrays=pre++l1∧k=l1.length∧ls=[(1,ptr b1 0),(4,v4),(5,.app b5 0 1 []),(28,.list (arrays.map encArG)),(29,int .i64 ((arrays.map encArG).length:Int)),(30,int .i64 (pre.length:Int))] ∧
   H'=pgmH b1 vars arrays fs::(b5,.row 0)::H4∧GL.Acc 1 v4 ((pre.map (·.1)).map str) H4 [])
  ⟨_,_,_,⟨[],arrays,.app b4 0 1 [],[(b4,.row 0)],rfl,rfl,rfl,rfl,Acc.row⟩,⟨rfl,rfl,rfl,rfl,rfl,rfl,trivial⟩,⟨[],by simpa using (List.perm_append_comm (l₁:=[_,_]) (l₂:=[_]))⟩⟩ ?_
 rintro k ls H' ⟨pre,l1,v4,H4,hL,rfl,rfl,rfl,hacc4⟩ j hj
 have hb:=pre_le hL ha6
 refine gak ?_
 refine oC rfl (fun hc=>?_) (fun hc=>?_)
 ·obtain ⟨a,l2,rfl⟩:=more hL hc
  refine gan ?_
  refine oP (xR (el':=encArG a) (cs:=[_,_]) rfl rfl zo (by rw[hL];exact get_mid encArG pre a l2) rfl rfl) rfl ?_
  refine gac ?_
  refine oS (S.alloc fun b7=>?_) rfl
  refine gaa ?_
  refine oP (Pure.mv (lv:=v4) rfl) rfl ?_
  refine gad ?_
  refine oS (S.lit (es:=[a.1].map str) [_] rfl (eC rfl rfl eN) rfl rfl rfl ?_) rfl
  refine oS (S.accF (A:=[_,_,_]) (H1:=H4) (List.perm_append_comm (l₁:=[_,_,_])) rfl hacc4 rfl (strs_len _) (strs_ok _) (by simp;omega) fun v6 H6 hacc6=>?_) rfl
  refine oP (Pure.as (lv:=v6) rfl) rfl ?_
  refine ga0 ?_
  exact ⟨l2.length,_,_,Nat.lt_succ_self _,⟨pre++[a],l2,v6,H6,snoc hL,rfl,rfl,rfl,by rw[List.map_append,List.map_append];exact hacc6⟩,⟨rfl,rfl,rfl,rfl,rfl,int_eq (by simp),trivial⟩,zhD zhr,hj⟩
 obtain rfl:=none_left hL hc
 rw[List.append_nil] at hL
 rw[←hL] at hacc4
 have harl:(arrays.map (·.1)).length=arrays.length:=List.length_map _
 generalize hA:arrays.map (·.1)=A at hacc4 hE harl
 refine gad ?_
 refine LCode.sub (d:=4) rfl hacc4.sub ?_
 refine LCode.weak (H':=[pgmH b1 vars arrays fs,(b5,.row 0)]) ⟨H4,List.Perm.refl _⟩ ?_
 refine gaa ?_
 refine oL (fun k ls H'=>∃ (pre l1:List FnD) (v5:LV) (H5:Heap),fs=pre++l1∧k=l1.length∧ls=[(1,ptr b1 0),(4,.list (A.map str)),(5,v5),(41,.list (fs.map encFn)),(42,int .i64 ((fs.map encFn).length:Int)),(43,int .i64 (pre.length:Int))] ∧
   H'=pgmH b1 vars arrays fs::H5∧GL.Acc 1 v5 ((pre.map (·.name)).map str) H5 [])
  ⟨_,_,_,⟨[],fs,.app b5 0 1 [],[(b5,.row 0)],rfl,rfl,rfl,rfl,Acc.row⟩,⟨rfl,rfl,rfl,rfl,rfl,rfl,trivial⟩,HSub.refl _⟩ ?_
 rintro k ls H' ⟨pre2,l1,v5,H5,hL2,rfl,rfl,rfl,hacc5⟩ j2 hj2
 have hb2:=pre_le hL2 (show fs.length≤1000000 by omega)
 refine gak ?_
 refine oC rfl (fun hc=>?_) (fun hc=>?_)
 ·obtain ⟨a,l2,rfl⟩:=more hL2 hc
  refine gan ?_
  refine oP (xR (el':=encFn a) (cs:=[_,_,_,_]) rfl rfl zo (by rw[hL2];exact get_mid encFn pre2 a l2) rfl rfl) rfl ?_
  refine ga3 ?_
  refine oS (S.alloc fun b9=>?_) rfl
  refine gaa ?_
  refine oP (Pure.mv (lv:=v5) rfl) rfl ?_
  refine gad ?_
  refine oS (S.lit (es:=[a.name].map str) [_] rfl (eC rfl rfl eN) rfl rfl rfl ?_) rfl
  refine oS (S.accF (A:=[_,_]) (H1:=H5) (List.perm_append_comm (l₁:=[_,_])) rfl hacc5 rfl (strs_len _) (strs_ok _) (by simp;omega) fun v6 H6 hacc6=>?_) rfl
  refine oP (Pure.as (lv:=v6) rfl) rfl ?_
  refine ga0 ?_
  exact ⟨l2.length,_,_,Nat.lt_succ_self _,⟨pre2++[a],l2,v6,H6,snoc hL2,rfl,rfl,rfl,by rw[List.map_append,List.map_append];exact hacc6⟩,⟨rfl,rfl,rfl,rfl,rfl,int_eq (by simp),trivial⟩,zhD zhr,hj2⟩
 obtain rfl:=none_left hL2 hc
 rw[List.append_nil] at hL2
 rw[←hL2] at hacc5
 have hfnl:(fs.map (·.name)).length=fs.length:=List.length_map _
 have hdist0:=fun h=>dist_of (vars:=vars) (arrays:=A) (fs:=fs) h
 have hnames0:∀ h:freshE [] (vars++A++fs.map (·.name))=0,∀ f∈fs,f.name.length≤1000:=fun h f hf=>isNm_short ((freshE_zero _ _ h).2.2 f.name (List.mem_append_right _ (List.mem_map_of_mem hf)))
 have hMeas:=fun (h1:freshE [] (vars++A++fs.map (·.name))=0) h2=>Measure_spec (B0:=B0) (w0:=w0) (vars:=vars) (arrays:=A) (fs:=fs) (.list (arrays.map encArG)) hnd (hdist0 h1) h2
 have hslen:=sums_len vars A (fs.map (·.name)) fs
 have hlens:((sumFs vars A (fs.map (·.name)) [] fs).map (·.name))=fs.map (·.name):=by rw[sumFs_names];rfl
 generalize hF:fs.map (·.name)=F at hacc5 hE hfnl hdist0 hnames0 hMeas hslen hlens
 refine gad ?_
 refine LCode.sub (d:=5) rfl hacc5.sub ?_
 refine LCode.weak (H':=[pgmH b1 vars arrays fs]) ⟨H5,List.Perm.refl _⟩ ?_
 refine gai ?_
 refine oS (S.litA (es:=[]) [] rfl eN rfl rfl rfl fun b6=>?_) rfl
 refine gac ?_
 refine oS (S.accF (A:=[_]) (H1:=[(b6,.row 0)]) zpr rfl Acc.row rfl (strs_len _) (strs_ok _) (by simp;omega) fun v1 H1 h1=>?_) rfl
 refine gad ?_
 refine oS (S.accF (A:=[_]) (H1:=H1) (List.perm_append_comm (l₁:=[_])) rfl h1 rfl (strs_len _) (strs_ok _) (by simp;omega) fun v2 H2 h2=>?_) rfl
 refine gad ?_
 refine oS (S.accF (A:=[_]) (H1:=H2) (List.perm_append_comm (l₁:=[_])) rfl h2 rfl (strs_len _) (strs_ok _) (by simp;omega) fun v3 H3 h3=>?_) rfl
 have e3:([]++vars.map str++A.map str++F.map str:List LV)=(vars++A++F).map str:=by simp
 rw[e3] at h3
 refine LOps.sub 61 rfl h3.sub ?_
 refine LOps.weak (H':=[pgmH b1 vars arrays fs]) ⟨H3,List.Perm.refl _⟩ ?_
 have hfr:LCalls (KC B0 w0) 52 [nilSlice,.list ((vars++A++F).map str)] [] (PostF [] (vars++A++F)):=LCalls.argsSub (bs:=[.list (([]:List Nm).map str),.list ((vars++A++F).map str)]) ⟨LV.Sub.nil,LV.Sub.refl _,trivial⟩ (fresh_spec [] _ (Nat.zero_le _) (by rw[List.length_append,List.length_append];omega))
 refine oS (S.callH (H1:=[]) (F:=[_]) [_,_] rfl zpr hfr ?_ (by
  rintro ch H' ⟨rfl,nm,f1,f2⟩
  by_cases h0:freshE [] (vars++A++F)=0
  ·cases f1 h0
  ·cases f2 h0)) rfl
 rintro lv H' ⟨rfl,nm,f1,f2⟩
 by_cases h0:freshE [] (vars++A++F)=0
 rotate_left
 ·cases f2 h0
  have hE':freshE [] (vars++A++F)=E:=by rw[←hE];exact (Chk.orE_ne h0).symm
  refine gac ?_
  refine oS (S.alloc fun b11=>?_) rfl
  refine gaa ?_
  refine oC rfl (fun _=>?_) (fun hd=>?_)
  rotate_left
  ·have h2:(!decide (freshE [] (vars++A++F)=0))=false:=hd
   simp at h2
   exact absurd h2 (by simpa using h0)
  refine gad ?_
  refine LCode.quiet zk ?_
  refine gaf ?_
  exact retC (nm:=nm) (hj2.trans hj) (rC (zrt rfl) (zra rfl)) (by rw[hE'];rfl)
 have e0:=f1 h0
 rw[List.nil_append] at e0
 cases e0
 rw[h0] at hE
 replace hE:orE (sizesE 0 (arrays.map (·.2))) (orE (errFs vars A F [] fs) (mainE vars fs (refFs vars A F [] fs)))=E:=hE
 refine gac ?_
 refine oS (S.alloc fun b11=>?_) rfl
 refine gaa ?_
 refine oC rfl (fun hd=>by cases hd) (fun _=>?_)
 refine gaa ?_
 refine oL (fun k ls H'=>∃ (pre l1:List (Nm×Int)) (T:Int),arrays=pre++l1∧k=l1.length∧ls=[(1,ptr b1 0),(4,.list (A.map str)),(5,.list (F.map str)),(10,.list ((vars++A++F).map str)),(12,int .i64 T),(73,.list (arrays.map encArG)),(74,int .i64 ((arrays.map encArG).length:Int)),(75,int .i64 (pre.length:Int))] ∧
   H'=[pgmH b1 vars arrays fs]∧0≤T∧T≤150000∧orE (sizesE T (l1.map (·.2))) (orE (errFs vars A F [] fs) (mainE vars fs (refFs vars A F [] fs)))=E)
  ⟨_,_,_,⟨[],arrays,0,rfl,rfl,rfl,rfl,by omega,by omega,hE⟩,⟨rfl,rfl,rfl,rfl,rfl,rfl,rfl,rfl,trivial⟩,zhD zhr⟩ ?_
 rintro k ls H' ⟨pre3,l1,T,hL3,rfl,rfl,rfl,hT0,hT1,hI⟩ j3 hj3
 have hb3:=pre_le hL3 ha6
 have hds:=hj3.trans (hj2.trans hj)
 refine gak ?_
 refine oC rfl (fun hc=>?_) (fun hc=>?_)
 ·obtain ⟨a,l2,rfl⟩:=more hL3 hc
  obtain ⟨ar1,ar2⟩:=har a (by rw[hL3];simp)
  rw[List.map_cons,sizesE] at hI
  refine gan ?_
  refine oP (xR (el':=encArG a) (cs:=[_,_]) rfl rfl zo (by rw[hL3];exact get_mid encArG pre3 a l2) rfl rfl) rfl ?_
  refine gac ?_
  refine oS (S.alloc fun b14=>?_) rfl
  refine gaa ?_
  refine oC rfl (fun h5=>?_) (fun h5=>?_)
  ·rw[if_pos (zt h5)] at hI
   refine gab ?_
   exact retC (nm:=a.1) hds (rC (zrt rfl) (zra rfl)) (by rw[←hI];rfl)
  have h5':=zf h5
  rw[if_neg h5'] at hI
  refine gaa ?_
  refine oC rfl (fun h6=>?_) (fun h6=>?_)
  ·rw[if_pos (zt h6)] at hI
   refine gab ?_
   exact retC (nm:=a.1) hds (rC (zrt rfl) (zra rfl)) (by rw[←hI];rfl)
  have h6':=zf h6
  rw[if_neg h6'] at hI
  refine gab ?_
  exact ⟨l2.length,_,_,Nat.lt_succ_self _,⟨pre3++[a],l2,T+a.2,snoc hL3,rfl,rfl,rfl,by omega,by omega,hI⟩,⟨rfl,rfl,rfl,rfl,rfl,rfl,rfl,int_eq (by simp),trivial⟩,zhD zhr,hj3⟩
 obtain rfl:=none_left hL3 hc
 replace hI:orE (errFs vars A F [] fs) (mainE vars fs (refFs vars A F [] fs))=E:=hI
 clear hE
 refine gaa ?_
 refine oL (fun k ls H'=>∃ (pre l1:List FnD) (known:List FSum),fs=pre++l1∧k=l1.length∧ls=[(1,ptr b1 0),(4,.list (A.map str)),(5,.list (F.map str)),(10,.list ((vars++A++F).map str)),(97,.list (fs.map encFn)),(98,int .i64 ((fs.map encFn).length:Int)),(99,int .i64 (pre.length:Int))] ∧
   H'=[pgmH b1 vars arrays fs]∧known.map (fun s=>(s.name,s.params))=pre.map (fun f=>(f.name,f.params.length))∧(errFs vars A F known l1=0→errFs vars A F [] fs=0)∧orE (errFs vars A F known l1) (mainE vars fs (refFs vars A F [] fs))=E)
  ⟨_,_,_,⟨[],fs,[],rfl,rfl,rfl,rfl,rfl,id,hI⟩,⟨rfl,rfl,rfl,rfl,rfl,rfl,rfl,trivial⟩,HSub.refl _⟩ ?_
 rintro k ls H' ⟨pre4,l1,known,hL4,rfl,rfl,rfl,hkn,hz,hI4⟩ j4 hj4
 have hb4:=pre_le hL4 (show fs.length≤1000000 by omega)
 have hds4:=hj4.trans hds
 refine gak ?_
 refine oC rfl (fun hc=>?_) (fun hc=>?_)
 ·obtain ⟨f,l2,rfl⟩:=more hL4 hc
  have hfm:f∈fs:=by rw[hL4];simp
  have hndf:=ndFs_mem hfm
  have hndf':1+f.params.length+f.locals.length+ndSs f.body≤1000000:=by unfold ndF at hndf;omega
  rw[errFs,errF,orE_assoc,orE_assoc] at hI4
  rw[errFs,errF] at hz
  have hsc:ScOk (envF vars A F known f) pre4:=by
   refine ⟨hkn,?_,?_,?_,?_,?_,fun g hg=>?_⟩
   ·show (f.params++f.locals).length≤_
    rw[List.length_append];omega
   ·show vars.length≤_
    omega
   ·show A.length≤_
    omega
   ·show F.length≤_
    omega
   ·omega
   ·have h7:=ndFs_mem (show g∈fs by rw[hL4];exact List.mem_append_left _ hg)
    unfold ndF at h7
    omega
  have hbody:=body_spec (B0:=B0) (w0:=w0) (own:=f.name) hsc 1000001 zo f.body zo
  refine gab ?_
  refine oP (xR (el':=encFn f) (cs:=[_,_,_,_]) rfl rfl zo (by rw[hL4];exact get_mid encFn pre4 f l2) rfl rfl) rfl ?_
  refine ga3 ?_
  refine oS (S.alloc fun b16=>?_) rfl
  refine gaf ?_
  refine LCode.draw (m:=8) rfl [fnH b16 f] ?_
  refine aT 1 rfl rfl (Pure.fieldH rfl) ?_
  refine aT 2 rfl rfl (Pure.loadH (c:=.list _) rfl zm0 rfl) ?_
  refine aT 4 rfl rfl (Pure.fieldH rfl) ?_
  refine aT 5 rfl rfl (Pure.loadH (c:=.list _) rfl zm0 rfl) ?_
  refine LAny.late ?_ zhp
  refine lO 0 (lS (H1:=[]) rfl (.inl rfl) rfl zpr zhp (S.litA (es:=[]) [] rfl eN rfl rfl rfl fun b7=>?_))
  refine lO 3 (lS (H1:=[(b7,.row 0)]) rfl (.inl rfl) rfl zpr zhp (S.acc (F:=[]) rfl Acc.row rfl (strs_len _) (strs_ok _) (by simp;omega) fun v1 H1 h1=>?_))
  refine lO 6 (lS (H1:=H1) rfl (.inl rfl) rfl zpr zhp (S.acc (F:=[]) rfl h1 rfl (strs_len _) (strs_ok _) (by simp;omega) fun v2 H2 h2=>?_))
  have e2:([]++f.params.map str++f.locals.map str:List LV)=(f.params++f.locals).map str:=by simp
  rw[e2] at h2
  refine lO 7 (lH rfl rfl (Pure.as (lv:=v2) rfl) ?_)
  refine lD zk ?_
  refine gap ?_
  refine LCode.sub (d:=17) rfl h2.sub ?_
  refine LCode.weak (H':=[fnH b16 f,pgmH b1 vars arrays fs]) ⟨H2,List.perm_append_comm⟩ ?_
  refine gab ?_
  refine oS (S.callH (H1:=[]) (F:=[_,_]) [_,_] rfl zpr (fresh_spec (vars++A++F) (f.params++f.locals) (by rw[List.length_append,List.length_append];omega) (by rw[List.length_append];omega)) ?_ (by
   rintro ch H' ⟨rfl,nm,f1,f2⟩
   by_cases h0:freshE (vars++A++F) (f.params++f.locals)=0
   ·cases f1 h0
   ·cases f2 h0)) rfl
  rintro lv H' ⟨rfl,nm,f1,f2⟩
  by_cases h0:freshE (vars++A++F) (f.params++f.locals)=0
  rotate_left
  ·cases f2 h0
   rw[Chk.orE_ne h0] at hI4
   refine gac ?_
   refine oS (S.alloc fun b19=>?_) rfl
   refine gaa ?_
   refine oC rfl (fun _=>?_) (fun hd=>?_)
   rotate_left
   ·have h2:(!decide (freshE (vars++A++F) (f.params++f.locals)=0))=false:=hd
    simp at h2
    exact absurd h2 (by simpa using h0)
   refine gad ?_
   refine LCode.quiet zk ?_
   refine gaf ?_
   exact retC (nm:=nm) hds4 (rC (zrt rfl) (zra rfl)) (by rw[←hI4];rfl)
  cases f1 h0
  rw[h0] at hI4 hz
  replace hI4:orE (errSs (envF vars A F known f) f.body) (orE (errFs vars A F (known++[sumF vars A F known f]) l2) (mainE vars fs (refFs vars A F [] fs)))=E:=hI4
  replace hz:orE (errSs (envF vars A F known f) f.body) (errFs vars A F (known++[sumF vars A F known f]) l2)=0→errFs vars A F [] fs=0:=hz
  refine gac ?_
  refine oS (S.alloc fun b19=>?_) rfl
  refine gaa ?_
  refine oC rfl (fun hd=>by cases hd) (fun _=>?_)
  refine gad ?_
  refine LCode.weak (H':=[fnH b16 f,pgmH b1 vars arrays fs]) (zhD zhr) ?_
  refine LCode.draw (m:=14) rfl [fnH b16 f,pgmH b1 vars arrays fs] ?_
  refine aT 0 rfl rfl (Pure.fieldH rfl) ?_
  refine aT 1 rfl rfl (Pure.loadH (c:=.atom _) rfl zm0 rfl) ?_
  refine aT 2 rfl rfl (Pure.mv (lv:=.list _) rfl) ?_
  refine aT 3 rfl rfl (Pure.fieldH rfl) ?_
  refine aT 4 rfl rfl (Pure.loadH (c:=.list _) rfl zm1 rfl) ?_
  refine aT 5 rfl rfl (Pure.mv (lv:=.list _) rfl) ?_
  refine aT 6 rfl rfl (Pure.fieldH rfl) ?_
  refine aT 7 rfl rfl (Pure.loadH (c:=.list _) rfl zm1 rfl) ?_
  refine aT 8 rfl rfl (Pure.mv (lv:=.atom _) rfl) ?_
  refine LAny.take (i:=9) zhr rfl zk zk zk rfl (Pure.sliceTo (g:=encFn) (pre:=pre4) (l1:=f::l2) (by rw[←hL4];rfl) rfl (encFn_len _)) ?_
  refine aT 10 rfl rfl (Pure.mv (lv:=.list _) rfl) ?_
  refine aT 11 rfl rfl (Pure.bld _ (cs:=[_,_,_,_,_,_]) rfl) ?_
  refine LAny.late ?_ zhr
  refine lO 12 (lS (H1:=[]) rfl (.inl rfl) rfl zpr zhr (S.alloc fun b20=>?_))
  refine lO 13 (lS (H1:=[_]) rfl (.inl rfl) rfl zpr zhr (S.store (n:=6) (cs':=[_,_,_,_,_,_]) rfl pH rfl rfl rfl rfl rfl ?_))
  refine lD zk ?_
  refine gaa ?_
  refine oS (S.pb [_,_] rfl hbody fun nm=>?_) rfl
  refine oS (S.alloc fun b21=>?_) rfl
  refine gaa ?_
  by_cases h1:errSs (envF vars A F known f) f.body=0
  ·rw[h1] at hI4 hz ⊢
   refine oC rfl (fun hd=>by cases hd) (fun _=>?_)
   refine gab ?_
   exact ⟨l2.length,_,_,Nat.lt_succ_self _,⟨pre4++[f],l2,known++[sumF vars A F known f],snoc hL4,rfl,rfl,rfl,by rw[List.map_append,List.map_append,hkn];rfl,hz,hI4⟩,⟨rfl,rfl,rfl,rfl,rfl,rfl,int_eq (by simp),trivial⟩,zhD (zhD (zhD zhr)),hj4⟩
  ·rw[Chk.orE_ne h1] at hI4
   refine oC rfl (fun _=>?_) (fun hd=>?_)
   rotate_left
   ·have h2:(!decide (errSs (envF vars A F known f) f.body=0))=false:=hd
    simp at h2
    exact absurd h2 h1
   refine gad ?_
   refine LCode.quiet zk ?_
   refine gaf ?_
   exact retC (nm:=nm) hds4 (rC (zrt rfl) (zra rfl)) (by rw[←hI4];rfl)
 obtain rfl:=none_left hL4 hc
 have hz0:errFs vars A F [] fs=0:=hz rfl
 replace hI4:mainE vars fs (refFs vars A F [] fs)=E:=hI4
 rw[refFs_eq fs [] (by rw[List.nil_append];exact hdist0 h0) hz0] at hI4
 have hM:=hMeas h0 hz0
 have hown:∀ f∈fs,∀ x∈f.params++f.locals,x.length≤1000:=fun f hf=>by
  obtain ⟨k,hk⟩:=errFs_zero _ _ hz0 f hf
  exact errF_names hk
 have hnn:∀ f∈fs,f.name.length≤1000∧∀ x∈f.params++f.locals,x.length≤1000:=fun f hf=>⟨hnames0 h0 f hf,hown f hf⟩
 have hsm:∀ f∈fs,SmF f:=fun f hf=>smF_of (Nat.le_trans (ndFs_mem hf) hnd)
 clear hz hI hMeas
 unfold mainE at hI4
 refine gaa ?_
 cases hfl2:fs.getLast? with
 |none=>
  have hnil:=List.getLast?_eq_none_iff.1 hfl2
  rw[hfl2] at hI4
  refine oB 153 rfl (fun _=>?_) (fun h=>absurd (by rw[hnil];rfl) (zf h))
  refine gad ?_
  refine oC rfl (fun _=>?_) (fun hd=>by cases hd)
  refine gau ?_
  exact retC (nm:=[109,97,105,110]) hds4 (rC (zrt rfl) (zra rfl)) (by rw[←hI4];rfl)
 |some f=>
  have hfm:f∈fs:=List.mem_of_getLast? hfl2
  have hpos:0<fs.length:=List.length_pos_of_mem hfm
  have hml:((fs.map encFn).length:Int)=(fs.length:Int):=by rw[List.length_map]
  obtain ⟨m,hm⟩:∃ m,(sumFs vars A F [] fs).getLast? = some m:=by
   cases hx:(sumFs vars A F [] fs).getLast? with
   |some m=>exact ⟨m,rfl⟩
   |none=>
    rw[List.getLast?_eq_none_iff.1 hx] at hslen
    simp at hslen
    omega
  rw[hfl2,hm] at hI4
  replace hI4:(if f.name=[109,97,105,110]∧f.params=[] then (if (scalarsP vars fs).length≤8000∧m.need≤200∧m.depth≤60 then 0 else 6) else 9)=E:=hI4
  have hget:(fs.map encFn)[(((fs.map encFn).length:Int)-1).toNat]? = some (encFn f):=by rw[hml];exact last_ix encFn hfl2 rfl
  have hg1:(((sumFs vars A F [] fs).map (·.need)).map iv)[(((fs.map encFn).length:Int)-1).toNat]? = some (iv m.need):=by
   rw[hml,List.map_map]
   exact last_ix _ hm hslen
  have hg2:(((sumFs vars A F [] fs).map (·.depth)).map iv)[(((fs.map encFn).length:Int)-1).toNat]? = some (iv m.depth):=by
   rw[hml,List.map_map]
   exact last_ix _ hm hslen
  have hn0:0≤((fs.map encFn).length:Int)-1:=by omega
  have hml2:((fs.map encFn).length:Int)≤1000000:=by omega
  refine oB 153 rfl (fun h=>?_) (fun _=>?_)
  ·have:=zt h
   omega
  refine gac ?_
  refine oP (xR (el':=encFn f) (n:=((fs.map encFn).length:Int)-1) (cs:=[_,_,_,_]) rfl rfl hn0 hget rfl rfl) rfl ?_
  refine gac ?_
  by_cases h1:f.name=[109,97,105,110]
  rotate_left
  ·rw[if_neg (fun h=>h1 h.1)] at hI4
   refine oB 163 (b:=!decide (f.name=[109,97,105,110])) rfl (fun _=>?_) (fun h=>absurd (by simpa using h) h1)
   refine gad ?_
   refine oC rfl (fun _=>?_) (fun hd=>by cases hd)
   refine gau ?_
   exact retC (nm:=[109,97,105,110]) hds4 (rC (zrt rfl) (zra rfl)) (by rw[←hI4];rfl)
  refine oB 163 (b:=!decide (f.name=[109,97,105,110])) rfl (fun h=>?_) (fun _=>?_)
  ·simp[h1] at h
  refine gac ?_
  refine oP (xR (el':=encFn f) (n:=((fs.map encFn).length:Int)-1) (cs:=[_,_,_,_]) rfl rfl hn0 hget rfl rfl) rfl ?_
  refine gac ?_
  refine oC rfl (fun h2=>?_) (fun h2=>?_)
  ·have h3:=zt h2
   rw[List.length_map] at h3
   rw[if_neg (fun h=>by rw[h.2] at h3;simp at h3)] at hI4
   refine gau ?_
   exact retC (nm:=[109,97,105,110]) hds4 (rC (zrt rfl) (zra rfl)) (by rw[←hI4];rfl)
  have hpar:f.params=[]:=by
   have h3:=zf h2
   rw[List.length_map] at h3
   exact List.length_eq_zero_iff.1 zo
  rw[if_pos ⟨h1,hpar⟩] at hI4
  refine gaa ?_
  refine oS (S.fn [_] rfl hM ?_) rfl
  refine gaa ?_
  refine oS (S.fn [_] rfl (rscalars_spec (.list (arrays.map encArG)) hv6 zo hsm hnn) ?_) rfl
  refine gac ?_
  refine oB 183 rfl (fun h3=>?_) (fun h3=>?_)
  ·have h4:=zt h3
   rw[List.length_map] at h4
   rw[if_neg (fun h=>by have:=h.1;omega)] at hI4
   refine gad ?_
   refine oC rfl (fun _=>?_) (fun hd=>by cases hd)
   refine gau ?_
   exact retC (nm:=[109,97,105,110]) hds4 (rC (zrt rfl) (zra rfl)) (by rw[←hI4];rfl)
  have h3':=zf h3
  rw[List.length_map] at h3'
  refine gac ?_
  refine oP (xR (el':=iv m.need) (n:=((fs.map encFn).length:Int)-1) (cs:=[_]) rfl rfl hn0 hg1 rfl rfl) rfl ?_
  refine gac ?_
  refine oB 191 rfl (fun h4=>?_) (fun h4=>?_)
  ·have h5:=zt h4
   rw[if_neg (fun h=>by have:=h.2.1;omega)] at hI4
   refine gad ?_
   refine oC rfl (fun _=>?_) (fun hd=>by cases hd)
   refine gau ?_
   exact retC (nm:=[109,97,105,110]) hds4 (rC (zrt rfl) (zra rfl)) (by rw[←hI4];rfl)
  have h4':=zf h4
  refine gac ?_
  refine oP (xR (el':=iv m.depth) (n:=((fs.map encFn).length:Int)-1) (cs:=[_]) rfl rfl hn0 hg2 rfl rfl) rfl ?_
  refine gac ?_
  refine oC rfl (fun h5=>?_) (fun h5=>?_)
  ·have h6:=zt h5
   rw[if_neg (fun h=>by have:=h.2.2;omega)] at hI4
   refine gau ?_
   exact retC (nm:=[109,97,105,110]) hds4 (rC (zrt rfl) (zra rfl)) (by rw[←hI4];rfl)
  have h5':=zf h5
  rw[if_pos ⟨by omega,by omega,by omega⟩] at hI4
  refine gab ?_
  exact retC (nm:=[]) hds4 (rC (zrt rfl) (zra rfl)) (by rw[←hI4];rfl)
end
end Go.Proofs.YtcbpcianefpniaaGreatDoor.RC
namespace Go.Proofs.YtcbpcianefpniaaGreatDoor.RI
open Go.GL Go.RowKit Go.Stele
open Go.Proofs.YtcbpcianefpniaaGreatDoor.Inp (u32 u32_eq wrapU arKV arH Cfg CfgOk Good progH outH runQ arH0 arH_start irErr endI_eq swap1 last_get last_main)
open Go.Proofs.YtcbpcianefpniaaGreatDoor.RC (get_mid more none_left pre_le snoc PostC)
set_option maxRecDepth 100000
set_option maxHeartbeats 4000000
@[reducible] def st0H (rb sm am:Nat) (p:Pr) (inp:List Nat) (steps:Int):Nat×LObj:=(rb,.cells 79 [.list (p.vars.map str),.list (p.arrays.map encAr),.list (p.funcs.map encFn),.atom (.map (some sm)),.atom (.map (some am)),.list (inp.map u32),nilSlice,int .i64 0,int .i64 steps])
attribute [local irreducible] LOps LCode LStep LCalls Go.GL.Pure QThen QBlock RetPost LQ LAny LLate LLateOp LS
section
variable {B0:Nat} {w0:World}
theorem rrun_spec {p:Pr} (hsm:SmP p) (hnum:∀ f∈p.funcs,numSs f.body) (hchk:LCalls (KC B0 w0) 27 [encPr p] [] (PostC (checkPr p))) {inp:List Nat} (hin:∀ v∈inp,Lt v) (steps:Int) :
  LCalls (KC B0 w0) 17 [encPr p,.list (inp.map u32),int .i64 steps] [] (Ret (Inp.encO (runQ p inp steps))):=by
 refine cI Tryz.func17 rfl (n:=83) rfl rfl rfl ?_
 refine gai ?_
 refine oS (S.box rfl fun b3=>?_) rfl
 refine oS (S.alloc fun b6=>?_) rfl
 refine gaa ?_
 refine oS (S.callH (H1:=[]) (F:=[_,_]) [_] rfl zpr hchk ?_ (by rintro ch H' ⟨_,nm,h⟩;cases h)) rfl
 rintro lv H' ⟨rfl,nm,h⟩
 cases h
 refine gaa ?_
 by_cases hc0:checkPr p=0
 rotate_left
 ·refine oC rfl (fun hc=>?_) (fun hc=>?_)
  ·refine gaa ?_
   exact retRet rfl (rC (rA (k:=3) rfl zb0 rfl zsr) rN) (by unfold runQ;rw[if_neg hc0];rfl)
  ·have h2:(!decide (checkPr p=0))=false:=hc
   simp at h2
   exact absurd h2 hc0
 refine oC rfl (fun hc=>?_) (fun _=>?_)
 ·have h2:(!decide (checkPr p=0))=true:=hc
  simp[hc0] at h2
 have hq:runQ p inp steps=limitI p inp steps:=by unfold runQ;rw[if_pos hc0]
 rw[hq]
 unfold limitI
 refine gaa ?_
 refine oC rfl (fun hc=>?_) (fun hc=>?_)
 ·have h1:100000000<steps:=zt hc
  rw[if_pos h1]
  refine gaa ?_
  exact retRet rfl (rC (rA (k:=3) rfl zb0 rfl zsr) rN) rfl
 have h1:¬ 100000000<steps:=zf hc
 rw[if_neg h1]
 refine gaa ?_
 refine oC rfl (fun hc=>?_) (fun hc=>?_)
 ·have h2:steps≤0:=zt hc
  rw[if_pos h2]
  refine gaa ?_
  exact retRet rfl (rC (rA (k:=3) rfl zb0 rfl zsr) rN) rfl
 have h2:¬ steps≤0:=zf hc
 rw[if_neg h2]
 have hv:=valid_of hc0
 have hshort:=short_of hc0
 have hand:(p.arrays.map (·.name)).Nodup:=(List.nodup_append.1 (List.nodup_append.1 (fresh_zero _ _ hv.names).1).1).2.1
 have hvars6:p.arrays.length≤1000000:=hsm.arrays
 have hfun6:p.funcs.length≤1000000:=hsm.funcs
 refine gaa ?_
 refine oS (S.kvNew fun sm=>?_) rfl
 refine oS (S.kvNew fun am=>?_) rfl
 refine gac ?_
 refine oS (S.box rfl fun rb=>?_) rfl
 refine gab ?_
 refine oL (fun k ls H'=>∃ (pre l1:List Ar) (ab:List (List UInt8×Nat×Nat)) (ca:Nat),p.arrays=pre++l1∧k=l1.length∧ab.map (fun q=>(q.1,q.2.2))=pre.map (fun a=>(a.name,a.size))∧ls=[(3,ptr b3 0),(6,ptr b6 0),(9,ptr rb 0),(10,int .i64 (pre.length:Int))] ∧
   H'=progH b3 p::st0H rb sm am p inp steps::(am,.map (kvs (arKV ab)) ca)::(sm,.map (kvs []) 0)::outH b6::arH0 ab)
  ⟨_,_,_,⟨[],p.arrays,[],0,rfl,rfl,rfl,rfl,rfl⟩,⟨rfl,rfl,rfl,rfl,trivial⟩,⟨[],by
   have e:List.Perm (st0H rb sm am p inp steps::(am,LObj.map (kvs []) 0)::(sm,LObj.map (kvs []) 0)::outH b6::progH b3 p::[]) (progH b3 p::st0H rb sm am p inp steps::(am,LObj.map (kvs []) 0)::(sm,LObj.map (kvs []) 0)::outH b6::[]):=List.perm_middle (l₁:=[_,_,_,_])
   rw[List.append_nil]
   exact e⟩⟩ ?_
 rintro k ls H' ⟨pre,l1,ab,ca,hL,rfl,hab,rfl,rfl⟩ j hj
 have hb:=pre_le hL hvars6
 refine gaa ?_
 refine oC rfl (fun hd=>?_) (fun hd=>?_)
 ·obtain ⟨x,l2,rfl⟩:=more (g:=encAr) hL hd
  have hxs:=hv.sizes x (by rw[hL];exact List.mem_append_right _ (List.mem_cons_self ..))
  have hnew:x.name ∉ (arKV ab).map (·.1):=by
   have e:(arKV ab).map (·.1)=pre.map (·.name):=by
    have h1:(ab.map (fun q=>(q.1,q.2.2))).map (·.1)=(pre.map (fun a=>(a.name,a.size))).map (·.1):=by rw[hab]
    rw[List.map_map,List.map_map] at h1
    unfold arKV
    rw[List.map_map]
    exact h1
   rw[e]
   rw[hL,List.map_append] at hand
   intro hm
   exact (List.nodup_append.1 hand).2.2 x.name hm x.name (List.mem_cons_self ..) rfl
  refine gad ?_
  refine LCode.draw (m:=18) rfl [progH b3 p,st0H rb sm am p inp steps] ?_
  refine aT 0 rfl rfl (Pure.mv (lv:=.atom _) rfl) ?_
  refine aT 1 rfl rfl (Pure.nilCheckH rfl) ?_
  refine aT 2 rfl rfl (Pure.fieldH rfl) ?_
  refine aT 3 rfl rfl (Pure.loadH (c:=.atom _) rfl zm1 rfl) ?_
  refine aT 4 rfl rfl (Pure.fieldH rfl) ?_
  refine aT 5 rfl rfl (Pure.loadH (c:=.list _) rfl zm0 rfl) ?_
  refine aT 6 rfl rfl (Pure.mv (lv:=.atom _) rfl) ?_
  refine aT 7 rfl rfl (xR (el':=encAr x) (cs:=[_,_]) rfl rfl zo (by rw[hL];exact get_mid encAr pre x l2) rfl rfl) ?_
  refine aT 8 rfl rfl (Pure.field1 rfl rfl) ?_
  refine aT 9 rfl rfl (Pure.loadRef (c:=.atom _) rfl rfl) ?_
  refine aT 10 rfl rfl (Pure.fieldH rfl) ?_
  refine aT 11 rfl rfl (Pure.loadH (c:=.list _) rfl zm0 rfl) ?_
  refine aT 12 rfl rfl (Pure.mv (lv:=.atom _) rfl) ?_
  refine aT 13 rfl rfl (xR (el':=encAr x) (cs:=[_,_]) rfl rfl zo (by rw[hL];exact get_mid encAr pre x l2) rfl rfl) ?_
  refine aT 14 rfl rfl (Pure.field1 rfl rfl) ?_
  refine aT 15 rfl rfl (Pure.loadRef (c:=.atom _) rfl rfl) ?_
  refine LAny.late ?_ hsub_left
  refine lO 16 (lS (H1:=[]) rfl (.inl rfl) rfl zpr hsub_left (S.makeRow (n:=x.size) rfl rfl zo zo fun b=>?_))
  refine lO 17 (lS (H1:=[(am,.map (kvs (arKV ab)) ca)]) (F:=([_,progH b3 p,st0H rb sm am p inp steps]++((sm,.map (kvs []) 0)::outH b6::arH0 ab))) rfl (.inl rfl) rfl (List.perm_middle (l₁:=[_,_,_])) (zhD hsub_left) (S.kvSet (k:=x.name) rfl rfl rfl pH fun ca2=>?_))
  rw[kv_new hnew]
  refine lD zk ?_
  refine gab ?_
  exact ⟨l2.length,_,_,Nat.lt_succ_self _,⟨pre++[x],l2,ab++[(x.name,b,x.size)],ca2,snoc hL,rfl,by rw[List.map_append,List.map_append,hab];rfl,rfl,rfl⟩,⟨rfl,rfl,rfl,int_eq (by simp),trivial⟩,⟨[],by
   have e1:arKV (ab++[(x.name,b,x.size)])=arKV ab++[(x.name,rowV b x.size)]:=by unfold arKV;rw[List.map_append];rfl
   have e2:arH0 (ab++[(x.name,b,x.size)])=arH0 ab++[(b,LObj.cells 43 (List.replicate x.size (u32 0)))]:=by unfold arH0;rw[List.map_append];rfl
   rw[e1,e2,List.append_nil]
   have g:∀ (a r q s m o:Nat×LObj) (A:Heap),List.Perm (a::r::q::s::m::o::A) (q::s::a::m::o::(A++[r])):=fun a r q s m o A=>
    ((List.perm_append_comm (l₁:=[a,r]) (l₂:=[q,s])).append_right (m::o::A)).trans (List.Perm.cons q (List.Perm.cons s (List.Perm.cons a (swap1 (x:=r) (H:=m::o::A)))))
   exact g _ _ _ _ _ _ _⟩,hj⟩
 obtain rfl:=none_left (g:=encAr) hL hd
 rw[List.append_nil] at hL
 rw[←hL] at hab
 obtain ⟨lim,rfl⟩:∃ lim:Nat,steps=(lim:Int):=⟨steps.toNat,by omega⟩
 have hlim:lim≤100000000:=by omega
 rw[Int.toNat_natCast]
 obtain ⟨har,hal⟩:=arH_start hand hab inp lim
 have hm1:=hv.main.1
 have hfl2:(p.funcs.map encFn).length≤1000000:=by rw[List.length_map];exact hfun6
 have hfl3:1≤(p.funcs.map encFn).length:=by
  rw[List.length_map]
  exact List.length_pos_of_mem hm1
 have hlast:=last_main hm1
 obtain ⟨kn,hvb,hkn⟩:=hv.bodies _ hm1
 have hsmm:=hsm.each _ hm1
 have hC:CfgOk ⟨p,rb,0,0,sm,am,0,0,0,ca,0,(scalarsP p.vars p.funcs).map (fun k=>(k,0)),ab,lim⟩:=⟨hv,hnum,by rw[List.map_map];exact List.map_id _,by
   have h1:(ab.map (fun q=>(q.1,q.2.2))).map (·.1)=(p.arrays.map (fun a=>(a.name,a.size))).map (·.1):=by rw[hab]
   rw[List.map_map,List.map_map] at h1
   exact h1,hsm,fun q hq=>by
   have h1:(q.1,q.2.2)∈p.arrays.map (fun a=>(a.name,a.size)):=by rw[←hab];exact List.mem_map.2 ⟨q,hq,rfl⟩
   obtain ⟨a,ha,he⟩:=List.mem_map.1 h1
   injection he with e1 e2
   rw[←e2]
   exact (hv.sizes a ha).2,hlim,hshort.1,hshort.2⟩
 have hst0:StR ⟨p,rb,0,0,sm,am,0,0,0,ca,0,(scalarsP p.vars p.funcs).map (fun k=>(k,0)),ab,lim⟩ (startI p inp lim) (st0H rb sm am p inp lim::(sm,.map (kvs []) 0)::(am,.map (kvs (arKV ab)) ca)::arH0 ab):=by
  refine ⟨hal,Nat.le_refl _,nilSlice,[],[],0,Acc.nil,fun k=>.inr ⟨rfl,rfl⟩,?_⟩
  show _=(rb,LObj.cells 79 (runRC _ _ _))::_::_::(arH ab (startI p inp lim)++[])
  have e0:lim-(startI p inp lim).left=0:=Nat.sub_self lim
  rw[har,List.append_nil]
  unfold runRC
  simp only[e0]
  rfl
 have hgood:Inp.Good (⟨p,rb,0,0,sm,am,0,0,0,ca,0,(scalarsP p.vars p.funcs).map (fun k=>(k,0)),ab,lim⟩:Cfg) lim (startI p inp lim):=by
  refine ⟨⟨fun k=>by show Lt 0;unfold Lt;decide,fun x v hv=>?_,hin⟩,Nat.le_refl _,by show 0+lim≤lim;omega⟩
  have h1:v∈(match p.arrays.find? fun a=>decide (a.name=x) with
   |some a=>List.replicate a.size 0
   |none=>[]):=hv
  split at h1
  ·rw[(List.mem_replicate.1 h1).2]
   unfold Lt;decide
  ·cases h1
 generalize hcdef:(⟨p,rb,0,0,sm,am,0,0,0,ca,0,(scalarsP p.vars p.funcs).map (fun k=>(k,0)),ab,lim⟩:Cfg)=c at hC hst0 hgood
 have hcp:c.p=p:=by rw[←hcdef]
 have hcl:c.lim=lim:=by rw[←hcdef]
 have hcr:c.rb=rb:=by rw[←hcdef]
 have hblk:=rblock_spec (B0:=B0) (w0:=w0) hC (rrun_all hC lim).2 (mainI p) kn (mainI p).body (startI p inp lim) _ (by rw[hcp];exact hm1) (by rw[hcp];exact hkn) (by rw[←hcdef];exact hvb) (hnum _ hm1) hsmm.body hsmm.stmts hgood hst0
 rw[hcp,hcr] at hblk
 refine gaa ?_
 refine oP (xR (el':=encFn (mainI p)) (n:=((p.funcs.map encFn).length:Int)-1) (cs:=[_,_,_,_]) rfl rfl zo (last_get encFn hlast) rfl rfl) rfl ?_
 refine ga3 ?_
 refine oS (S.alloc fun b11=>?_) rfl
 refine gaa ?_
 refine oS (S.callR (H1:=st0H rb sm am p inp lim::(sm,.map (kvs []) 0)::(am,.map (kvs (arKV ab)) ca)::arH0 ab) (F:=[fnH b11 (mainI p),progH b3 p,outH b6]) [_,_,_] rfl (by
  have g:∀ (f q s a m o:Nat×LObj) (A:Heap),List.Perm (f::q::s::a::m::o::A) ((s::m::a::A)++[f,q,o]):=fun f q s a m o A=>by
   refine (List.Perm.cons f (List.Perm.cons q ((List.Perm.cons s ((List.Perm.swap m a _).trans (List.Perm.cons m (List.Perm.cons a (swap1 (x:=o) (H:=A))))))))).trans ?_
   have:=List.perm_append_comm (l₁:=[f,q]) (l₂:=s::m::a::(A++[o]))
   refine this.trans ?_
   show List.Perm ((s::m::a::(A++[o]))++[f,q]) ((s::m::a::A)++[f,q,o])
   simp only[List.cons_append,List.append_assoc]
   exact List.Perm.cons _ (List.Perm.cons _ (List.Perm.cons _ (List.Perm.append_left A (List.perm_append_comm (l₁:=[o]) (l₂:=[f,q])))))
  exact g _ _ _ _ _ _ _) hblk (fun v9 en er H9 hP=>?_)) rfl
 refine oS (S.alloc fun b12=>?_) rfl
 have hfin:runI p inp lim=⟨(blkR (stI p lim (mainI p)) (mainI p).body (startI p inp lim)).st.out,irErr (blkR (stI p lim (mainI p)) (mainI p).body (startI p inp lim)),lim-(blkR (stI p lim (mainI p)) (mainI p).body (startI p inp lim)).st.left⟩:=by
  unfold runI
  exact endI_eq _ _
 rw[hfin]
 generalize blkR (stI p lim (mainI p)) (mainI p).body (startI p inp lim)=R at hP ⊢
 obtain ⟨her,hsR⟩:er=irErr R∧StR c R.st H9:=by
  cases R with
  |ok r s2=>exact ⟨hP.ok.2.2.1,hP.ok.2.2.2⟩
  |stop e s2=>exact ⟨hP.stop.2.2.1,hP.stop.2.2.2⟩
 rw[←her]
 obtain ⟨_,hle,v,Ha,m,ck,hacc,hsc,rfl⟩:=hsR
 refine LOps.perm (H':=resH b12 0 0 0::fnH b11 (mainI p)::progH b3 p::outH b6::stRH c R.st v m ck Ha) (List.Perm.cons _ (List.perm_append_comm (l₂:=[_,_,_]))) ?_
 have hmem:∀ (x y z u:Nat×LObj),(rb,LObj.cells 79 (runRC c R.st v))∈x::y::z::u::stRH c R.st v m ck Ha:=fun x y z u=>by
  rw[←hcr]
  exact List.Mem.tail _ zm3
 refine gac ?_
 refine LCode.tail 12 zk ?_
 refine gaf ?_
 refine LS.pure (Pure.loadH (c:=v) rfl (hmem _ _ _ _) rfl) rfl ?_
 have hconv:∀ (e:Env) (H:Heap) (dst:Option Nat) (ty:TypeId) (pos:String) (aft:Array Edge) (g:Option (Nat×Bool)) (x:Operand),e.ev x=v→GL.Pure (KC B0 w0) ⟨dst,.convert 42 9 x,ty,pos,aft,g⟩ e H (str R.st.out):=fun e H dst ty pos aft g x hx=>by
  have he:=hacc.elems
  by_cases h0:R.st.out=[]
  ·rw[h0] at he ⊢
   exact Inp.Pure.bytesStr0 (by rw[hx,he];rfl)
  ·exact GL.Pure.bytesStr (by rw[hx,he];rfl) h0
 refine LS.pure (hconv _ _ _ _ _ _ _ _ rfl) rfl ?_
 refine gaf ?_
 refine LS.pure (Pure.loadH (c:=int .i64 ((c.lim-R.st.left:Nat):Int)) rfl (hmem _ _ _ _) rfl) rfl ?_
 refine gac ?_
 refine retRet hj (rC (rA (k:=3) rfl zb0 rfl zsr) rN) ?_
 rw[hcl]
 rfl
end
end Go.Proofs.YtcbpcianefpniaaGreatDoor.RI
namespace Go.Proofs.YtcbpcianefpniaaGreatDoor
open Go.GL Go.RowKit Go.Stele
set_option maxRecDepth 100000
set_option maxHeartbeats 4000000
@[reducible] def rdH (rb:Nat) (T:List Tok) (i:Nat) (op ln er:Int):Nat×LObj:=(rb,.cells 108 [.list (T.map encTok),int .i64 i,int .i64 op,int .i64 ln,int .i64 er])
def Wf (T:List Tok) (o i:Nat) (op ln er:Int):Prop:=er=0→ln=0∧i≤T.length∧op=(o:Int)∧o≤100
def stO {A:Type} (o i:Nat) (ln er:Int) (g:Nat→Nat→OR A):OR A:=if er=0 then g i o else some (.err ln er)
def PostB {A:Type} (B:A→Prop) (rb:Nat) (T:List Tok) (o:Nat) (enc:A→LV) (r:Res A):LRes→Heap→Prop:=fun res H=>
 ∃ v i op ln er,B v∧Wf T o i op ln er∧stO o i ln er (fun i o=>some (.ok v i o))=some r∧res=.ret (enc v)∧H=[rdH rb T i op ln er]
@[reducible] def PostQ {A:Type} (rb:Nat) (T:List Tok) (o:Nat) (enc:A→LV) (r:Res A):LRes→Heap→Prop:=PostB (fun _=>True) rb T o enc r
theorem stO_dead {A:Type} {o i:Nat} {ln er:Int} {g:Nat→Nat→OR A} (h:er≠0):stO o i ln er g=some (.err ln er):=if_neg h
theorem stO_ok {A:Type} {o i:Nat} {ln:Int} {g:Nat→Nat→OR A}:stO o i ln 0 g=g i o:=rfl
theorem stO_t {A:Type} {T:List Tok} {o i:Nat} {ln:Int} {xs:List (List UInt8)} {g h:Nat→Nat→OR A} {r:Res A} (ht:isTok T i xs=true) (hr:stO o i ln 0 (fun i o=>if isTok T i xs then g i o else h i o)=some r):stO o i ln 0 g=some r:=by
 rw[stO_ok,ht] at hr
 exact hr
theorem stO_f {A:Type} {T:List Tok} {o i:Nat} {ln er:Int} {xs:List (List UInt8)} {g h:Nat→Nat→OR A} {r:Res A} (ht:(decide (er=0) && isTok T i xs)=false) (hr:stO o i ln er (fun i o=>if isTok T i xs then g i o else h i o)=some r):stO o i ln er h=some r:=by
 by_cases he:er=0
 ·subst he
  have:isTok T i xs=false:=by simpa using ht
  rw[stO_ok,this] at hr
  exact hr
 ·rw[stO_dead he] at hr ⊢
  exact hr
theorem stO_go {A B:Type} {o o' i i':Nat} {ln er ln' er':Int} {g:Nat→Nat→OR A} {k:A→Nat→Nat→OR B} {r1:Res A} {r:Res B} {v:A} (h1:stO o i ln er g=some r1) (hr:stO o i ln er (fun i o=>obind (g i o) k)=some r)
  (h2:stO o' i' ln' er' (fun i o=>some (.ok v i o))=some r1):stO o' i' ln' er' (k v)=some r:=by
 by_cases he:er=0
 ·subst he
  rw[stO_ok] at h1 hr
  rw[h1] at hr
  by_cases he':er'=0
  ·subst he'
   rw[stO_ok] at h2 ⊢
   cases h2
   exact hr
  ·rw[stO_dead he'] at h2 ⊢
   cases h2
   exact hr
 ·rw[stO_dead he] at h1 hr
  cases h1
  by_cases he':er'=0
  ·subst he'
   rw[stO_ok] at h2
   cases h2
  ·rw[stO_dead he'] at h2 ⊢
   cases h2
   exact hr
theorem stO_some {A B:Type} {o i:Nat} {ln er:Int} {g:Nat→Nat→OR A} {k:A→Nat→Nat→OR B} {r:Res B} (hr:stO o i ln er (fun i o=>obind (g i o) k)=some r):∃ r1,stO o i ln er g=some r1:=by
 by_cases he:er=0
 ·subst he
  rw[stO_ok] at hr
  rcases obind_some hr with ⟨v,i1,o1,h,_⟩|⟨l,e,h,_⟩
  ·exact ⟨_,h⟩
  ·exact ⟨_,h⟩
 ·exact ⟨_,stO_dead he⟩
section steps
variable {C:Ctx} {e:Env} {H:Heap} {dst:Option Nat} {ty:TypeId} {pos:String} {aft:Array Edge} {gd:Option (Nat×Bool)} {K:LV→Heap→Prop} {X:List PanicEntry→Heap→Prop}
theorem stO_alive {A:Type} {o o' i i':Nat} {ln er ln' er':Int} {g:Nat→Nat→OR A} {r1:Res A} {v:A} (h1:stO o i ln er g=some r1) (h2:stO o' i' ln' er' (fun i o=>some (.ok v i o))=some r1) (h:er'=0):er=0∧g i o=some (.ok v i' o'):=by
 subst h
 rw[stO_ok] at h2
 cases h2
 by_cases he:er=0
 ·subst he
  exact ⟨rfl,h1⟩
 ·rw[stO_dead he] at h1
  cases h1
theorem S.callB {A B:Type} {enc:A→LV} {P:A→Prop} {rb o o' i:Nat} {op ln er:Int} {T:List Tok} {f:FuncId} [TEnter C.P f] {g:Nat→Nat→OR A} {k:A→Nat→Nat→OR B} {r:Res B} (args:List Operand) {ats:Array TypeId} {av:List LV} {F:Heap} (has:args.map e.ev=av) (hp:Pick (rdH rb T i op ln er) H F)
  (hr:stO o i ln er (fun i o=>obind (g i o) k)=some r) (hc:∀ r1,stO o i ln er g=some r1→LCalls C f av [rdH rb T i op ln er] (PostB P rb T o' enc r1))
  (hk:∀ v i' op' ln' er',P v→Wf T o' i' op' ln' er'→(er'=0→er=0∧g i o=some (.ok v i' o'))→stO o' i' ln' er' (k v)=some r→K (enc v) (rdH rb T i' op' ln' er'::F)) :
  LStep C ⟨dst,.call { callee:=.value (.func f),args:=args.toArray,argTypes:=ats },ty,pos,aft,gd⟩ e H K X:=by
 obtain ⟨r1,h1⟩:=stO_some hr
 refine S.call1 args has hp (hc r1 h1) ?_ ?_
 ·rintro v H' ⟨u,i',op',ln',er',hb,hw,h2,h3,rfl⟩
  cases h3
  exact hk _ _ _ _ _ hb hw (stO_alive h1 h2) (stO_go h1 hr h2)
 ·rintro ch H' ⟨u,i',op',ln',er',hb,hw,h2,h3,_⟩
  cases h3
theorem S.callQ {A B:Type} {enc:A→LV} {rb o o' i:Nat} {op ln er:Int} {T:List Tok} {f:FuncId} [TEnter C.P f] {g:Nat→Nat→OR A} {k:A→Nat→Nat→OR B} {r:Res B} (args:List Operand) {ats:Array TypeId} {av:List LV} {F:Heap} (has:args.map e.ev=av) (hp:Pick (rdH rb T i op ln er) H F)
  (hr:stO o i ln er (fun i o=>obind (g i o) k)=some r) (hc:∀ r1,stO o i ln er g=some r1→LCalls C f av [rdH rb T i op ln er] (PostQ rb T o' enc r1))
  (hk:∀ v i' op' ln' er',Wf T o' i' op' ln' er'→(er'=0→er=0∧g i o=some (.ok v i' o'))→stO o' i' ln' er' (k v)=some r→K (enc v) (rdH rb T i' op' ln' er'::F)) :
  LStep C ⟨dst,.call { callee:=.value (.func f),args:=args.toArray,argTypes:=ats },ty,pos,aft,gd⟩ e H K X:=
 S.callB args has hp hr hc fun v i' op' ln' er' _=>hk v i' op' ln' er'
theorem retQ {A:Type} {enc:A→LV} {r:Res A} {rb o i:Nat} {op ln er:Int} {T:List Tok} {n:Nat} {rs:List ResultVar} {vs:List LV} {v:A} (hd:e.ds=[]) (h:AllRes C n e H rs vs) (hw:Wf T o i op ln er) (hr:stO o i ln er (fun i o=>some (.ok v i o))=some r) (hv:resLV vs=enc v) (hH:HSub [rdH rb T i op ln er] H) :
  RetPost C n rs (PostQ rb T o enc r) .ret e H:=rR hd h hH ⟨v,i,op,ln,er,trivial,hw,hr,by rw[hv],rfl⟩
theorem retQn {A:Type} {enc:A→LV} {r:Res A} {rb o i:Nat} {op ln er:Int} {T:List Tok} {n:Nat} {rs:List ResultVar} {vs:List LV} {v:A} (hd:e.ds=[]) (h:AllRes C n e H rs vs) (hw:Wf T o i op ln er) (hr:stO o i ln er (fun i o=>some (.ok v i o))=some r) (hv:resLV vs=enc v) (hH:HSub [rdH rb T i op ln er] H) :
  RetPost C n rs (PostQ rb T o enc r) .normal e H:=RetPost.normal hd h hH ⟨v,i,op,ln,er,trivial,hw,hr,by rw[hv],rfl⟩
theorem retB {A:Type} {enc:A→LV} {P:A→Prop} {r:Res A} {rb o i:Nat} {op ln er:Int} {T:List Tok} {n:Nat} {rs:List ResultVar} {vs:List LV} {v:A} (hd:e.ds=[]) (h:AllRes C n e H rs vs) (hb:P v) (hw:Wf T o i op ln er) (hr:stO o i ln er (fun i o=>some (.ok v i o))=some r) (hv:resLV vs=enc v) (hH:HSub [rdH rb T i op ln er] H) :
  RetPost C n rs (PostB P rb T o enc r) .ret e H:=rR hd h hH ⟨v,i,op,ln,er,hb,hw,hr,by rw[hv],rfl⟩
end steps
theorem wf_dead {T:List Tok} {o i:Nat} {op ln er:Int} (h:er≠0):Wf T o i op ln er:=fun h'=>absurd h' h
theorem tok_none {T:List Tok} {i:Nat} (h:T.length≤i) (xs:List (List UInt8)):isTok T i xs=false:=by rw[isTok,List.getElem?_eq_none h]
theorem tok_at {T:List Tok} {i:Nat} (h:i<T.length) (xs:List (List UInt8)):isTok T i xs=((decide (T[i].kind=3) || decide (T[i].kind=4)) && xs.contains T[i].text):=by rw[isTok,List.getElem?_eq_getElem h]
theorem kind_at {T:List Tok} {i:Nat} (h:i<T.length):kindAt T i=T[i].kind:=by rw[kindAt,List.getElem?_eq_getElem h]
theorem kind_none {T:List Tok} {i:Nat} (h:T.length≤i):kindAt T i=0:=by rw[kindAt,List.getElem?_eq_none h]
attribute [local irreducible] LOps LCode LStep LCalls Go.GL.Pure QThen QBlock RetPost LQ LAny LLate LLateOp
section
variable {B0:Nat} {w0:World}
theorem qnext_spec (rb:Nat) (T:List Tok) (i:Nat) (op ln er:Int) (x:List UInt8) (hT:T.length≤100000) :
  LCalls (KC B0 w0) 43 [ptr rb 0,str x] [rdH rb T i op ln er] (fun r H=>r=.ret (bool (decide (er=0) && isTok T i [x]))∧H=[rdH rb T i op ln er]):=by
 refine cI Tryz.func43 rfl (n:=65) rfl rfl rfl ?_
 refine ga2 ?_
 refine LCode.cut [(4,bool (decide (er=0) && isTok T i [x]))] ?_ (fun j hj=>?_)
 ·refine LCode.quiet zk ?_
  refine gac ?_
  refine LQ.bcase 10 rfl (fun h=>?_) (fun h=>?_)
  ·rw[h]
   refine gaf ?_
   refine LQ.bcase 22 rfl (fun h1=>?_) (fun h1=>?_)
   ·have hlt:i<T.length:=by have:=zt h1;simp only[List.length_map] at this;omega
    rw[tok_at hlt]
    refine gaf ?_
    refine LQ.pure (xR (el':=encTok T[i]) (cs:=[_,_,_]) rfl rfl zo (map_get _ _ _ hlt) rfl rfl) rfl ?_
    refine gac ?_
    refine LQ.bcase 35 rfl (fun h2=>?_) (fun h2=>?_)
    ·refine gaf ?_
     refine LQ.pure (xR (el':=encTok T[i]) (cs:=[_,_,_]) rfl rfl zo (map_get _ _ _ hlt) rfl rfl) rfl ?_
     refine gac ?_
     exact ⟨⟨bool_eq (by rw[h2];simp),trivial⟩,rfl,rfl⟩
    ·refine gaf ?_
     refine LQ.pure (xR (el':=encTok T[i]) (cs:=[_,_,_]) rfl rfl zo (map_get _ _ _ hlt) rfl rfl) rfl ?_
     refine gac ?_
     refine LQ.bcase 50 rfl (fun h3=>?_) (fun h3=>?_)
     ·refine gaf ?_
      refine LQ.pure (xR (el':=encTok T[i]) (cs:=[_,_,_]) rfl rfl zo (map_get _ _ _ hlt) rfl rfl) rfl ?_
      refine gac ?_
      exact ⟨⟨bool_eq (by rw[h3];simp),trivial⟩,rfl,rfl⟩
     ·refine gaf ?_
      exact ⟨⟨bool_eq (by rw[h2,h3];rfl),trivial⟩,rfl,rfl⟩
   ·have hge:T.length≤i:=by have:=zf h1;simp only[List.length_map] at this;omega
    rw[tok_none hge]
    refine gaf ?_
    exact ⟨⟨rfl,trivial⟩,rfl,rfl⟩
  ·rw[h]
   refine gaf ?_
   exact ⟨⟨rfl,trivial⟩,rfl,rfl⟩
 ·refine gam ?_
  exact rR hj (zra rfl) zhr ⟨rfl,rfl⟩
theorem qkind_spec (rb:Nat) (T:List Tok) (i:Nat) (op ln er:Int) (k:Int) (hk:k≠0) (hT:T.length≤100000) :
  LCalls (KC B0 w0) 97 [ptr rb 0,int .i64 k] [rdH rb T i op ln er] (fun r H=>r=.ret (bool (decide (er=0) && decide (kindAt T i=k)))∧H=[rdH rb T i op ln er]):=by
 refine cI Tryz.func97 rfl (n:=37) rfl rfl rfl ?_
 refine ga2 ?_
 refine LCode.cut [(4,bool (decide (er=0) && decide (kindAt T i=k)))] ?_ (fun j hj=>?_)
 ·refine LCode.quiet zk ?_
  refine gac ?_
  refine LQ.bcase 10 rfl (fun h=>?_) (fun h=>?_)
  ·rw[h]
   refine gaf ?_
   refine LQ.bcase 22 rfl (fun h1=>?_) (fun h1=>?_)
   ·have hlt:i<T.length:=by have:=zt h1;simp only[List.length_map] at this;omega
    rw[kind_at hlt]
    refine gaf ?_
    refine LQ.pure (xR (el':=encTok T[i]) (cs:=[_,_,_]) rfl rfl zo (map_get _ _ _ hlt) rfl rfl) rfl ?_
    refine gac ?_
    exact ⟨⟨rfl,trivial⟩,rfl,rfl⟩
   ·have hge:T.length≤i:=by have:=zf h1;simp only[List.length_map] at this;omega
    rw[kind_none hge]
    refine gaf ?_
    exact ⟨⟨bool_eq (by simp[hk.symm]),trivial⟩,rfl,rfl⟩
  ·rw[h]
   refine gaf ?_
   exact ⟨⟨rfl,trivial⟩,rfl,rfl⟩
 ·refine gam ?_
  exact rR hj (zra rfl) zhr ⟨rfl,rfl⟩
theorem qfail_dead (rb:Nat) (T:List Tok) (i:Nat) (op ln er x:Int) (he:er≠0) :
  LCalls (KC B0 w0) 51 [ptr rb 0,int .i64 x] [rdH rb T i op ln er] (fun r H=>r=.ret (.tuple [])∧H=[rdH rb T i op ln er]):=by
 refine cI Tryz.func51 rfl (n:=53) rfl rfl rfl ?_
 refine gab ?_
 refine oC rfl (fun hc=>?_) (fun hc=>?_)
 ·refine gal ?_
  exact rR rfl rN zhr ⟨rfl,rfl⟩
 ·exact absurd (by simpa using hc) he
theorem qfail_alive (rb:Nat) (T:List Tok) (i:Nat) (op:Int) (x:Int) (hT:T.length≤100000) (h0:0<T.length) (hi:i≤1000000) :
  LCalls (KC B0 w0) 51 [ptr rb 0,int .i64 x] [rdH rb T i op 0 0] (fun r H=>r=.ret (.tuple [])∧H=[rdH rb T i op (failLine T i) x]):=by
 have hml:(T.map encTok).length=T.length:=List.length_map _
 have hlast:T.length-1<T.length:=by omega
 refine cI Tryz.func51 rfl (n:=53) rfl rfl rfl ?_
 refine gab ?_
 refine oC rfl (fun hc=>?_) (fun hc=>?_)
 ·cases hc
 refine gaa ?_
 refine LCode.tail 16 zk ?_
 refine gaf ?_
 refine LS.pure (xR (n:=((T.length-1:Nat):Int)) (el':=encTok T[T.length-1]) (cs:=[_,_,_]) rfl (int_eq (by rw[hml];omega)) zo (map_get _ _ _ hlast) rfl rfl) rfl ?_
 refine gaf ?_
 refine LCode.quiet zk ?_
 refine gaf ?_
 refine oC rfl (fun h1=>?_) (fun h1=>?_)
 ·have hlt:i<T.length:=by have:=zt h1;simp only[List.length_map] at this;omega
  refine LCode.tail 14 zk ?_
  refine gaf ?_
  refine LS.pure (xR (el':=encTok T[i]) (cs:=[_,_,_]) rfl rfl zo (map_get _ _ _ hlt) rfl rfl) rfl ?_
  refine gaf ?_
  exact RetPost.normal rfl rN zhr ⟨rfl,by rw[failLine,Nat.min_eq_left zo,List.getElem?_eq_getElem hlt]⟩
 ·have hge:T.length≤i:=by have:=zf h1;simp only[List.length_map] at this;omega
  refine gas ?_
  exact RetPost.normal rfl rN zhr ⟨rfl,by rw[failLine,Nat.min_eq_right zo,List.getElem?_eq_getElem hlast]⟩
end
end Go.Proofs.YtcbpcianefpniaaGreatDoor
namespace Go.Proofs.YtcbpcianefpniaaGreatDoor
open Go.GL Go.RowKit Go.Stele
set_option maxRecDepth 100000
set_option maxHeartbeats 4000000
attribute [local irreducible] LOps LCode LStep LCalls Go.GL.Pure QThen QBlock RetPost LQ LAny LLate LLateOp LS
section
variable {B0:Nat} {w0:World}
theorem qwant_spec (rb:Nat) (T:List Tok) (o i:Nat) (op ln er:Int) (x:List UInt8) (hT:T.length≤100000) (h0:0<T.length) (hw:Wf T o i op ln er) (r:Res Unit) (hr:stO o i ln er (fun i o=>some (sNeed T x i o))=some r) :
  LCalls (KC B0 w0) 45 [ptr rb 0,str x] [rdH rb T i op ln er] (PostQ rb T o encU r):=by
 refine cI Tryz.func45 rfl (n:=16) rfl rfl rfl ?_
 refine gae ?_
 refine oS (S.fnH [_,_] rfl pH (qnext_spec rb T i op ln er x hT) ?_) rfl
 refine gap ?_
 refine oC rfl (fun hc=>?_) (fun hc=>?_)
 ·obtain ⟨he,ht⟩:=Bool.and_eq_true_iff.1 hc
  obtain rfl:=zt he
  obtain ⟨rfl,hi,rfl,ho⟩:=hw rfl
  have hlt:=isTok_lt ht
  rw[stO_ok,sNeed,if_pos ht] at hr
  refine gaa ?_
  exact retQ (v:=()) (i:=i+1) (ln:=0) (er:=0) rfl rN (fun _=>⟨rfl,hlt,rfl,ho⟩) hr rfl zhr
 ·by_cases he:er=0
  ·subst he
   obtain ⟨rfl,hi,rfl,ho⟩:=hw rfl
   have ht:isTok T i [x]=false:=by simpa using hc
   rw[stO_ok,sNeed,if_neg (by rw[ht];decide)] at hr
   refine gax ?_
   refine oS (S.fnH [_,_] rfl pH (qfail_alive rb T i o 3 hT h0 zo) ?_) rfl
   refine gap ?_
   exact retQn (v:=()) rfl rN (wf_dead (by decide)) (by rw[stO_dead (by decide)];exact hr) rfl zhr
  ·rw[stO_dead he] at hr
   refine gax ?_
   refine oS (S.fnH [_,_] rfl pH (qfail_dead rb T i op ln er 3 he) ?_) rfl
   refine gap ?_
   exact retQn (v:=()) rfl rN (wf_dead he) (by rw[stO_dead he];exact hr) rfl zhr
theorem qenter_spec (rb:Nat) (T:List Tok) (o i:Nat) (op ln er:Int) (x:List UInt8) (hT:T.length≤100000) (h0:0<T.length) (hw:Wf T o i op ln er) (r:Res Unit) (hr:stO o i ln er (fun i o=>some (sBegin T x i o))=some r) :
  LCalls (KC B0 w0) 47 [ptr rb 0,str x] [rdH rb T i op ln er] (PostQ rb T (o+1) encU r):=by
 refine cI Tryz.func47 rfl (n:=31) rfl rfl rfl ?_
 refine gae ?_
 refine oS (S.fnH [_,_] rfl pH (qnext_spec rb T i op ln er x hT) ?_) rfl
 refine gac ?_
 refine oC rfl (fun hc=>?_) (fun hc=>?_)
 ·have hc':(decide (er=0) && isTok T i [x])=false:=by simpa only[Bool.not_eq_true'] using hc
  by_cases he:er=0
  ·subst he
   obtain ⟨rfl,hi,rfl,ho⟩:=hw rfl
   have ht:isTok T i [x]=false:=by simpa using hc'
   rw[stO_ok,sBegin,if_neg (by rw[ht];decide)] at hr
   refine gae ?_
   refine oS (S.fnH [_,_] rfl pH (qfail_alive rb T i o 3 hT h0 zo) ?_) rfl
   refine gal ?_
   exact retQ (v:=()) rfl rN (wf_dead (by decide)) (by rw[stO_dead (by decide)];exact hr) rfl zhr
  ·rw[stO_dead he] at hr
   refine gae ?_
   refine oS (S.fnH [_,_] rfl pH (qfail_dead rb T i op ln er 3 he) ?_) rfl
   refine gal ?_
   exact retQ (v:=()) rfl rN (wf_dead he) (by rw[stO_dead he];exact hr) rfl zhr
 ·have hc':(decide (er=0) && isTok T i [x])=true:=by simpa only[Bool.not_eq_false'] using hc
  obtain ⟨he,ht⟩:=Bool.and_eq_true_iff.1 hc'
  obtain rfl:=zt he
  obtain ⟨rfl,hi,rfl,ho⟩:=hw rfl
  have hlt:=isTok_lt ht
  rw[stO_ok,sBegin,if_pos ht] at hr
  refine gab ?_
  refine oC rfl (fun h1=>?_) (fun h1=>?_)
  ·have h1':(o:Int)=100:=zt h1
   rw[if_pos zo] at hr
   refine gae ?_
   refine oS (S.fnH [_,_] rfl pH (qfail_alive rb T i o 6 hT h0 zo) ?_) rfl
   refine gal ?_
   exact retQ (v:=()) rfl rN (wf_dead (by decide)) (by rw[stO_dead (by decide)];exact hr) rfl zhr
  ·have h1':¬ (o:Int)=100:=zf h1
   rw[if_neg zo] at hr
   refine gaa ?_
   exact retQn (v:=()) (i:=i+1) (ln:=0) (er:=0) rfl rN (fun _=>⟨rfl,hlt,by omega,by omega⟩) hr rfl zhr
theorem qleave_spec (rb:Nat) (T:List Tok) (o i:Nat) (op ln er:Int) (x:List UInt8) (hT:T.length≤100000) (h0:0<T.length) (hw:Wf T (o+1) i op ln er) (r:Res Unit) (hr:stO (o+1) i ln er (fun i o=>some (sEnd T x i o))=some r) :
  LCalls (KC B0 w0) 49 [ptr rb 0,str x] [rdH rb T i op ln er] (PostQ rb T o encU r):=by
 refine cI Tryz.func49 rfl (n:=14) rfl rfl rfl ?_
 refine gae ?_
 have hr':stO (o+1) i ln er (fun i o=>obind (some (sNeed T x i o)) fun _ i o=>some (.ok () i (o-1)))=some r:=by
  rw[←hr]
  congr 1
  funext i o
  unfold sEnd
  cases sNeed T x i o <;> rfl
 refine oS (S.callQ (rb:=rb) (T:=T) (o:=o+1) (o':=o+1) [_,_] rfl pH hr' (fun r1 h1=>qwant_spec rb T (o+1) i op ln er x hT h0 hw r1 h1) fun v i' op' ln' er' hw' _ hr'=>?_) rfl
 refine gab ?_
 by_cases he:er'=0
 ·subst he
  obtain ⟨rfl,hi,rfl,ho⟩:=hw' rfl
  refine gac ?_
  exact retQn (v:=()) (ln:=0) (er:=0) rfl rN (fun _=>⟨rfl,hi,by omega,by omega⟩) hr' rfl zhr
 ·refine oP (Pure.subW rfl rfl) rfl ?_
  refine gac ?_
  exact retQn (v:=()) rfl rN (wf_dead he) ((stO_dead he).trans ((stO_dead he).symm.trans hr')) rfl zhr
theorem qname_spec (rb:Nat) (T:List Tok) (o i:Nat) (op ln er:Int) (hT:T.length≤100000) (h0:0<T.length) (hw:Wf T o i op ln er) (r:Res (List UInt8)) (hr:stO o i ln er (fun i o=>some (sWord T 2 i o))=some r) :
  LCalls (KC B0 w0) 46 [ptr rb 0] [rdH rb T i op ln er] (PostQ rb T o str r):=by
 refine cI Tryz.func46 rfl (n:=27) rfl rfl rfl ?_
 refine gav ?_
 refine oS (S.fnH [_,_] rfl pH (qkind_spec rb T i op ln er 2 (by decide) hT) ?_) rfl
 refine gac ?_
 refine oC rfl (fun hc=>?_) (fun hc=>?_)
 ·have hc':(decide (er=0) && decide (kindAt T i=2))=false:=by simpa only[Bool.not_eq_true'] using hc
  by_cases he:er=0
  ·subst he
   obtain ⟨rfl,hi,rfl,ho⟩:=hw rfl
   have hk:¬ kindAt T i=2:=by simpa using hc'
   have hs:sWord T 2 i o=synErr T i:=by
    unfold sWord
    unfold kindAt at hk
    split
    ·rename_i t ht
     rw[ht] at hk
     rw[if_neg hk]
    ·rfl
   rw[stO_ok,hs] at hr
   refine gae ?_
   refine oS (S.fnH [_,_] rfl pH (qfail_alive rb T i o 3 hT h0 zo) ?_) rfl
   refine gau ?_
   exact retQ (v:=[]) rfl (zra rfl) (wf_dead (by decide)) (by rw[stO_dead (by decide)];exact hr) rfl zhr
  ·rw[stO_dead he] at hr
   refine gae ?_
   refine oS (S.fnH [_,_] rfl pH (qfail_dead rb T i op ln er 3 he) ?_) rfl
   refine gau ?_
   exact retQ (v:=[]) rfl (zra rfl) (wf_dead he) (by rw[stO_dead he];exact hr) rfl zhr
 ·have hc':(decide (er=0) && decide (kindAt T i=2))=true:=by simpa only[Bool.not_eq_false'] using hc
  obtain ⟨he,hk⟩:=Bool.and_eq_true_iff.1 hc'
  obtain rfl:=zt he
  obtain ⟨rfl,hi,rfl,ho⟩:=hw rfl
  have hk:=zt hk
  have hlt:i<T.length:=by
   rcases Nat.lt_or_ge i T.length with h|h
   ·exact h
   ·rw[kind_none h] at hk;cases hk
  rw[kind_at hlt] at hk
  have hs:sWord T 2 i o=.ok T[i].text (i+1) o:=by rw[sWord,List.getElem?_eq_getElem hlt];simp only;rw[if_pos hk]
  rw[stO_ok,hs] at hr
  refine gaa ?_
  refine LCode.cutTo [(2,str T[i].text)] [rdH rb T (i+1) o 0 0] ?_ (fun j hj=>?_)
  ·refine LCode.quiet zk ?_
   refine gaf ?_
   refine LQ.pure (xR (n:=((i:Nat):Int)) (el':=encTok T[i]) (cs:=[_,_,_]) rfl (int_eq zo) zo (map_get _ _ _ hlt) rfl rfl) rfl ?_
   refine gaf ?_
   exact ⟨⟨rfl,trivial⟩,rfl,rfl⟩
  ·refine gam ?_
   exact retQ (v:=T[i].text) (i:=i+1) (ln:=0) (er:=0) hj (zra rfl) (fun _=>⟨rfl,hlt,rfl,ho⟩) hr rfl zhr
end
end Go.Proofs.YtcbpcianefpniaaGreatDoor
namespace Go.Proofs.YtcbpcianefpniaaGreatDoor
open Go.GL Go.RowKit Go.Stele
set_option maxRecDepth 100000
set_option maxHeartbeats 4000000
structure RTOK (T:List Tok):Prop where
 len:T.length≤100000
 pos:0<T.length
 ok:∀ t∈T,TokOk t
 kw:∀ t∈T,t.kind=3→keywords.contains t.text=true
def pv (a:Nat) (l:List UInt8):Nat:=l.foldl (fun a c=>10 * a+(c.toNat-48)) a
theorem pv_append (a:Nat) (l m:List UInt8):pv a (l++m)=pv (pv a l) m:=List.foldl_append ..
theorem pv_ge:∀ (l:List UInt8) (a:Nat),a≤pv a l
 |[],a=>Nat.le_refl _
 |c::l,a=>by
  have:=pv_ge l (10 * a+(c.toNat-48))
  show a≤pv (10 * a+(c.toNat-48)) l
  omega
theorem pv_dec (u:Nat):pv 0 (Go.Lib.decDigits u)=u:=by
 induction u using Nat.strongRecOn with
 |ind u ih=>
  by_cases h:u<10
  ·rw[Go.Lib.decDigits_one h]
   show 10 * 0+((UInt8.ofNat (48+u)).toNat-48)=u
   rw[digit_toNat h]
   omega
  ·rw[Go.Lib.decDigits,dif_neg h,pv_append,ih (u / 10) zo]
   show 10 * (u / 10)+((UInt8.ofNat (48+u % 10)).toNat-48)=u
   rw[digit_toNat zo]
   omega
theorem pv_take (l:List UInt8) (i:Nat):pv 0 (l.take i)≤pv 0 l:=by
 have:pv 0 l=pv (pv 0 (l.take i)) (l.drop i):=by rw[←pv_append,List.take_append_drop]
 rw[this]
 exact pv_ge _ _
theorem wrapU (x:Int):IntKind.u32.wrap x=x % 4294967296:=by
 simp only[IntKind.wrap,IntKind.bits,IntKind.signed,Bool.false_and]
 simp
def refLevel (op:List UInt8):Int:=
 if op=[124,124] then 1 else if op=[38,38] then 2 else if op=[61,61]∨op=[33,61]∨op=[60]∨op=[62]∨op=[60,61]∨op=[62,61] then 3 else if op=[94] then 4 else if op=[43]∨op=[45] then 5 else if op=[42]∨op=[47]∨op=[37] then 6 else 0
def allOps:List (List UInt8):=[[124,124],[38,38],[61,61],[33,61],[60],[62],[60,61],[62,61],[94],[43],[45],[42],[47],[37]]
theorem refLevel_in:∀ op∈allOps,∀ k∈List.range 6,decide (refLevel op=(k:Int)+1)=(lvOps k).contains op:=by decide +kernel
theorem lv_sub:∀ k∈List.range 6,∀ op∈lvOps k,op∈allOps:=by decide +kernel
theorem refLevel_out {op:List UInt8} (h:op ∉ allOps):refLevel op=0:=by
 simp only[allOps,List.mem_cons,List.not_mem_nil,or_false,not_or] at h
 obtain ⟨h1,h2,h3,h4,h5,h6,h7,h8,h9,h10,h11,h12,h13,h14⟩:=h
 unfold refLevel
 rw[if_neg h1,if_neg h2,if_neg (by simp[*]),if_neg h9,if_neg (by simp[*]),if_neg (by simp[*])]
theorem refLevel_eq (op:List UInt8) {k:Nat} (hk:k≤5):decide (refLevel op=(k:Int)+1)=(lvOps k).contains op:=by
 have hm:k∈List.range 6:=List.mem_range.2 zo
 by_cases h:op∈allOps
 ·exact refLevel_in op h k hm
 ·rw[refLevel_out h]
  have h1:(lvOps k).contains op=false:=by
   cases hc:(lvOps k).contains op with
   |false=>rfl
   |true=>exact absurd (lv_sub k hm op (List.contains_iff_mem.1 hc)) h
  rw[h1]
  simp
  omega
theorem kw_noop:∀ x∈keywords,∀ k∈List.range 6,(lvOps k).contains x=false:=by decide +kernel
theorem ops_ne:∀ k∈List.range 6,∀ op∈lvOps k,op≠[]:=by decide +kernel
theorem op_sign {T:List Tok} (hT:RTOK T) {i k:Nat} (hk:k≤5):isTok T i (lvOps k)=(decide (kindAt T i=4) && decide (refLevel (textAt T i)=(k:Int)+1)):=by
 have hm:k∈List.range 6:=List.mem_range.2 zo
 rcases Nat.lt_or_ge i T.length with hi|hi
 ·rw[tok_at hi,kind_at hi,textAt,List.getElem?_eq_getElem hi,refLevel_eq _ hk]
  cases h3:decide (T[i].kind=3) with
  |false=>rfl
  |true=>
   have h3':=zt h3
   have:=kw_noop _ (List.contains_iff_mem.1 (hT.kw _ (List.getElem_mem hi) h3')) k hm
   rw[this]
   simp
 ·rw[tok_none hi,kind_none hi]
  rfl
attribute [local irreducible] LOps LCode LStep LCalls Go.GL.Pure QThen QBlock RetPost LQ LAny LLate LLateOp LS
section
variable {B0:Nat} {w0:World}
theorem qnumber_specB (rb:Nat) (T:List Tok) (hT:RTOK T) (o i:Nat) (op ln er:Int) (hw:Wf T o i op ln er) (r:Res Nat) (hr:stO o i ln er (fun i o=>some (sNumber T i o))=some r) :
  LCalls (KC B0 w0) 48 [ptr rb 0] [rdH rb T i op ln er] (PostB (fun n:Nat=>n<4294967296) rb T o (fun n:Nat=>int .u32 n) r):=by
 have hl:=hT.len
 refine cI Tryz.func48 rfl (n:=44) rfl rfl rfl ?_
 refine gav ?_
 refine oS (S.fnH [_,_] rfl pH (qkind_spec rb T i op ln er 1 (by decide) hl) ?_) rfl
 refine gac ?_
 refine oC rfl (fun hc=>?_) (fun hc=>?_)
 ·have hc':(decide (er=0) && decide (kindAt T i=1))=false:=by simpa only[Bool.not_eq_true'] using hc
  by_cases he:er=0
  ·subst he
   obtain ⟨rfl,hi,rfl,ho⟩:=hw rfl
   have hk:¬ kindAt T i=1:=by simpa using hc'
   have hs:sNumber T i o=synErr T i:=by
    unfold sNumber sWord
    unfold kindAt at hk
    split
    ·rename_i t ht
     rw[ht] at hk
     rw[if_neg hk]
     rfl
    ·rfl
   rw[stO_ok,hs] at hr
   refine gae ?_
   refine oS (S.fnH [_,_] rfl pH (qfail_alive rb T i o 3 hl hT.pos zo) ?_) rfl
   refine gau ?_
   exact retB (v:=0) rfl (zra rfl) (by decide) (wf_dead (by decide)) (by rw[stO_dead (by decide)];exact hr) rfl zhr
  ·rw[stO_dead he] at hr
   refine gae ?_
   refine oS (S.fnH [_,_] rfl pH (qfail_dead rb T i op ln er 3 he) ?_) rfl
   refine gau ?_
   exact retB (v:=0) rfl (zra rfl) (by decide) (wf_dead he) (by rw[stO_dead he];exact hr) rfl zhr
 ·have hc':(decide (er=0) && decide (kindAt T i=1))=true:=by simpa only[Bool.not_eq_false'] using hc
  obtain ⟨he,hk⟩:=Bool.and_eq_true_iff.1 hc'
  obtain rfl:=zt he
  obtain ⟨rfl,hi,rfl,ho⟩:=hw rfl
  have hk:=zt hk
  have hlt:i<T.length:=by
   rcases Nat.lt_or_ge i T.length with h|h
   ·exact h
   ·rw[kind_none h] at hk;cases hk
  rw[kind_at hlt] at hk
  obtain ⟨htl,htn⟩:=hT.ok _ (List.getElem_mem hlt)
  obtain ⟨u,hu,hp,htx⟩:=htn hk
  have hs:sNumber T i o=.ok u (i+1) o:=by
   unfold sNumber sWord
   rw[List.getElem?_eq_getElem hlt]
   simp only
   rw[if_pos hk]
   show Res.ok (numOf T[i].text) (i+1) o=_
   rw[numOf,hp]
  rw[stO_ok,hs] at hr
  refine gad ?_
  refine LCode.cut [(0,ptr rb 0),(3,str T[i].text)] ?_ (fun j hj=>?_)
  ·refine LCode.quiet zk ?_
   refine gaf ?_
   refine LQ.pure (xR (el':=encTok T[i]) (cs:=[_,_,_]) rfl rfl zo (map_get _ _ _ hlt) rfl rfl) rfl ?_
   refine gaf ?_
   exact ⟨⟨rfl,rfl,trivial⟩,rfl,rfl⟩
  have hpu:pv 0 T[i].text=u:=by rw[htx,pv_dec]
  have hdig:∀ c∈T[i].text,48≤c.toNat∧c.toNat≤57:=fun c hc=>by
   rw[htx] at hc
   have:=dec_digits u c hc
   unfold isDigit cv at this
   rw[Bool.and_eq_true,decide_eq_true_eq,decide_eq_true_eq] at this
   omega
  generalize T[i].text=s at hpu hdig htl
  refine gaa ?_
  refine oL (fun k ls H=>∃ m:Nat,m≤s.length∧k=s.length-m∧ls=[(3,str s),(4,int .u32 (pv 0 (s.take m))),(5,int .i64 m)]∧H=[rdH rb T (i+1) o 0 0])
   ⟨_,_,_,⟨0,Nat.zero_le _,rfl,rfl,rfl⟩,⟨rfl,rfl,rfl,trivial⟩,HSub.refl _⟩ ?_
  rintro k ls H ⟨m,hm,rfl,rfl,rfl⟩ j2 hj2
  refine gaa ?_
  refine oC rfl (fun h1=>?_) (fun h1=>?_)
  ·have hmlt:m<s.length:=by have:=zt h1;omega
   obtain ⟨hd1,hd2⟩:=hdig _ (List.getElem_mem hmlt)
   have hstep:pv 0 (s.take (m+1))=10 * pv 0 (s.take m)+(s[m].toNat-48):=by
    rw[List.take_succ_eq_append_getElem hmlt,pv_append]
    rfl
   have hle:=pv_take s (m+1)
   refine gab ?_
   refine oP (Pure.mulW rfl rfl) rfl ?_
   refine gaz ?_
   refine oP (Pure.sindex (c:=s[m]) rfl rfl zo (by simp)) rfl ?_
   refine gac ?_
   refine oP (Pure.addW rfl rfl) rfl ?_
   refine oP (Pure.subW rfl rfl) rfl ?_
   refine gab ?_
   exact ⟨_,_,_,by omega,⟨m+1,by omega,rfl,rfl,rfl⟩,⟨rfl,int_eq (by simp only[wrapU];rw[hstep];omega),int_eq zo,trivial⟩,HSub.refl _,hj2⟩
  ·have hm':m=s.length:=by have:=zf h1;omega
   subst hm'
   rw[List.take_length,hpu]
   refine gab ?_
   exact retB (v:=u) (ln:=0) (er:=0) (hj2.trans hj) (zra rfl) hu (fun _=>⟨rfl,hlt,rfl,ho⟩) hr rfl zhr
theorem qnumber_spec (rb:Nat) (T:List Tok) (hT:RTOK T) (o i:Nat) (op ln er:Int) (hw:Wf T o i op ln er) (r:Res Nat) (hr:stO o i ln er (fun i o=>some (sNumber T i o))=some r) :
  LCalls (KC B0 w0) 48 [ptr rb 0] [rdH rb T i op ln er] (PostQ rb T o (fun n:Nat=>int .u32 n) r):=
 LCalls.mono (qnumber_specB rb T hT o i op ln er hw r hr) fun _ _ ⟨v,i,op,ln,er,_,h⟩=>⟨v,i,op,ln,er,trivial,h⟩
theorem Level_spec (op:List UInt8):LCalls (KC B0 w0) 220 [str op] [] (Ret (int .i64 (refLevel op))):=by
 refine cI Tryz.func220 rfl (n:=24) rfl rfl rfl ?_
 unfold refLevel
 refine gab ?_
 refine oC rfl (fun h1=>?_) (fun h1=>?_)
 ·refine ga1 ?_
  exact retRet rfl (zra rfl) (by rw[if_pos (zt h1)];rfl)
 rw[if_neg (zf h1)]
 refine gaj ?_
 refine oC rfl (fun h2=>?_) (fun h2=>?_)
 ·refine ga1 ?_
  exact retRet rfl (zra rfl) (by rw[if_pos (zt h2)];rfl)
 rw[if_neg (zf h2)]
 refine gaj ?_
 refine LCode.cut [(3,str op),(8,bool (decide (op=[61,61]∨op=[33,61]∨op=[60]∨op=[62]∨op=[60,61]∨op=[62,61])))] ?_ (fun j hj=>?_)
 ·refine oC rfl (fun h3=>?_) (fun h3=>?_)
  ·refine gas ?_
   exact ⟨⟨rfl,bool_eq (by simp[zt h3]),trivial⟩,rfl,rfl⟩
  refine gaj ?_
  refine oC rfl (fun h4=>?_) (fun h4=>?_)
  ·refine gas ?_
   exact ⟨⟨rfl,bool_eq (by simp[zt h4]),trivial⟩,rfl,rfl⟩
  refine gaj ?_
  refine oC rfl (fun h5=>?_) (fun h5=>?_)
  ·refine gas ?_
   exact ⟨⟨rfl,bool_eq (by simp[zt h5]),trivial⟩,rfl,rfl⟩
  refine gaj ?_
  refine oC rfl (fun h6=>?_) (fun h6=>?_)
  ·refine gas ?_
   exact ⟨⟨rfl,bool_eq (by simp[zt h6]),trivial⟩,rfl,rfl⟩
  refine gaj ?_
  refine oC rfl (fun h7=>?_) (fun h7=>?_)
  ·refine gas ?_
   exact ⟨⟨rfl,bool_eq (by simp[zt h7]),trivial⟩,rfl,rfl⟩
  refine gaj ?_
  exact ⟨⟨rfl,bool_eq (by simp[zf h3,zf h4,zf h5,zf h6,zf h7]),trivial⟩,rfl,rfl⟩
 refine oC rfl (fun h3=>?_) (fun h3=>?_)
 ·refine ga1 ?_
  exact retRet hj (zra rfl) (by rw[if_pos (zt h3)];rfl)
 rw[if_neg (zf h3)]
 refine gaj ?_
 refine oC rfl (fun h4=>?_) (fun h4=>?_)
 ·refine ga1 ?_
  exact retRet hj (zra rfl) (by rw[if_pos (zt h4)];rfl)
 rw[if_neg (zf h4)]
 refine gaj ?_
 refine LCode.cut [(3,str op),(17,bool (decide (op=[43]∨op=[45])))] ?_ (fun j2 hj2=>?_)
 ·refine oC rfl (fun h5=>?_) (fun h5=>?_)
  ·refine gas ?_
   exact ⟨⟨rfl,bool_eq (by simp[zt h5]),trivial⟩,rfl,rfl⟩
  refine gaj ?_
  exact ⟨⟨rfl,bool_eq (by simp[zf h5]),trivial⟩,rfl,rfl⟩
 refine oC rfl (fun h5=>?_) (fun h5=>?_)
 ·refine ga1 ?_
  exact retRet (hj2.trans hj) (zra rfl) (by rw[if_pos (zt h5)];rfl)
 rw[if_neg (zf h5)]
 refine gaj ?_
 refine LCode.cut [(3,str op),(20,bool (decide (op=[42]∨op=[47]∨op=[37])))] ?_ (fun j3 hj3=>?_)
 ·refine oC rfl (fun h6=>?_) (fun h6=>?_)
  ·refine gas ?_
   exact ⟨⟨rfl,bool_eq (by simp[zt h6]),trivial⟩,rfl,rfl⟩
  refine gaj ?_
  refine oC rfl (fun h7=>?_) (fun h7=>?_)
  ·refine gas ?_
   exact ⟨⟨rfl,bool_eq (by simp[zt h7]),trivial⟩,rfl,rfl⟩
  refine gaj ?_
  exact ⟨⟨rfl,bool_eq (by simp[zf h6,zf h7]),trivial⟩,rfl,rfl⟩
 refine oC rfl (fun h6=>?_) (fun h6=>?_)
 ·refine ga1 ?_
  exact retRet (hj3.trans (hj2.trans hj)) (zra rfl) (by rw[if_pos (zt h6)];rfl)
 rw[if_neg (zf h6)]
 refine gab ?_
 exact retRet (hj3.trans (hj2.trans hj)) (zra rfl) rfl
end
end Go.Proofs.YtcbpcianefpniaaGreatDoor
namespace Go.Proofs.YtcbpcianefpniaaGreatDoor
open Go.GL Go.RowKit Go.Stele
set_option maxRecDepth 100000
set_option maxHeartbeats 4000000
attribute [local irreducible] LOps LCode LStep LCalls Go.GL.Pure QThen QBlock RetPost LQ LAny LLate LLateOp LS
def qNames (l:List (List UInt8)):LV:=.list (l.map str)
theorem sWord_ok' {T:List Tok} {k:Int} {i op i' op':Nat} {s:List UInt8} (h:sWord T k i op=.ok s i' op'):i'=i+1∧op'=op:=by
 unfold sWord at h
 split at h
 ·split at h
  ·cases h
   exact ⟨rfl,rfl⟩
  ·cases h
 ·cases h
theorem namesLoop_end {T:List Tok} {o i k:Nat} {ln er:Int} {l:List (List UInt8)} {r:Res (List (List UInt8))} (hc:(decide (er=0) && isTok T i [[44]])=false) (h:stO o i ln er (sNamesLoop T k l)=some r):stO o i ln er (fun i o=>some (.ok l i o))=some r:=by
 by_cases he:er=0
 ·subst he
  have ht:isTok T i [[44]]=false:=by simpa using hc
  rw[stO_ok] at h ⊢
  cases k with
  |zero=>rw[sNamesLoop] at h;cases h
  |succ k=>
   rw[sNamesLoop,if_neg (by rw[ht];decide)] at h
   exact h
 ·rw[stO_dead he] at h ⊢
  exact h
section
variable {B0:Nat} {w0:World}
theorem qnames_spec (rb:Nat) (T:List Tok) (hT:RTOK T) (f o i:Nat) (op ln er:Int) (hw:Wf T o i op ln er) (r:Res (List (List UInt8))) (hr:stO o i ln er (sNames T f)=some r) :
  LCalls (KC B0 w0) 44 [ptr rb 0] [rdH rb T i op ln er] (PostB (fun l=>l.length≤200000) rb T o qNames r):=by
 have hl:=hT.len
 change stO o i ln er (fun i o=>obind (some (sWord T 2 i o)) fun s i o=>sNamesLoop T f [s] i o)=some r at hr
 refine cI Tryz.func44 rfl (n:=22) rfl rfl rfl ?_
 refine gav ?_
 refine oS (S.callQ [_] rfl pH hr (fun r1 h1=>qname_spec rb T o i op ln er hl hT.pos hw r1 h1) fun s i1 op1 ln1 er1 hw1 hal hr1=>?_) rfl
 refine oS (S.litA [_] rfl (eC rfl rfl eN) rfl rfl rfl fun b=>?_) rfl
 refine gac ?_
 refine oL (fun k ls H=>∃ (v:LV) (l:List (List UInt8)) (i2:Nat) (op2 ln2 er2:Int) (Ha:Heap),ls=[(0,ptr rb 0),(3,v)]∧H=rdH rb T i2 op2 ln2 er2::Ha∧Acc 1 v (l.map str) Ha []∧Wf T o i2 op2 ln2 er2∧l.length≤T.length+5∧(er2=0→l.length≤i2+1)∧stO o i2 ln2 er2 (sNamesLoop T k l)=some r)
  ⟨f,_,rdH rb T i1 op1 ln1 er1::[(b,.row 1)],⟨.app b 1 1 [str s],[s],i1,op1,ln1,er1,_,rfl,rfl,Acc.row,hw1,by simp,fun _=>by simp,hr1⟩,⟨rfl,rfl,trivial⟩,zhP zp1 zhr⟩ ?_
 rintro k ls H ⟨v,l,i2,op2,ln2,er2,Ha,rfl,rfl,hacc,hw2,hll,hla,hI⟩ j hj
 refine gae ?_
 refine oS (S.fnH [_,_] rfl pH (qnext_spec rb T i2 op2 ln2 er2 [44] hl) ?_) rfl
 refine gap ?_
 refine oC rfl (fun hc=>?_) (fun hc=>?_)
 ·obtain ⟨he,ht⟩:=Bool.and_eq_true_iff.1 hc
  obtain rfl:=zt he
  obtain ⟨rfl,hi2,rfl,ho⟩:=hw2 rfl
  have hlt:=isTok_lt ht
  have hla:=hla rfl
  obtain ⟨k,rfl⟩:∃ k',k=k'+1:=by
   cases k with
   |zero=>rw[stO_ok,sNamesLoop] at hI;cases hI
   |succ k=>exact ⟨k,rfl⟩
  rw[stO_ok,sNamesLoop,if_pos ht] at hI
  have hI':stO o (i2+1) 0 0 (fun i o=>obind (some (sWord T 2 i o)) fun s i o=>sNamesLoop T k (l++[s]) i o)=some r:=hI
  refine gaa ?_
  refine oP (Pure.mv (lv:=v) rfl) rfl ?_
  refine gaz ?_
  refine oS (S.callQ (i:=i2+1) (op:=(o:Int)) [_] rfl pH hI' (fun r1 h1=>qname_spec rb T o (i2+1) o 0 0 hl hT.pos (fun _=>⟨rfl,hlt,rfl,ho⟩) r1 h1) fun s2 i3 op3 ln3 er3 hw3 hal3 hI3=>?_) rfl
  refine oS (S.lit [_] rfl (eC rfl rfl eN) rfl rfl rfl ?_) rfl
  refine oS (S.acc1 rfl hacc rfl (by simp;rfl) rfl (by simp;omega) fun v' H' hacc'=>?_) rfl
  refine oP (Pure.as (lv:=v') rfl) rfl ?_
  refine gad ?_
  exact ⟨k,_,_,by omega,⟨v',l++[s2],i3,op3,ln3,er3,H',rfl,rfl,by rw[List.map_append];exact hacc',hw3,by simp;omega,fun h3=>by
   obtain ⟨_,h4⟩:=hal3 h3
   injection h4 with h4
   obtain ⟨rfl,_⟩:=sWord_ok' h4
   simp
   omega,hI3⟩,⟨rfl,rfl,trivial⟩,HSub.refl _,hj⟩
 ·have hend:=namesLoop_end hc hI
  refine gab ?_
  refine oP (Pure.mv (lv:=v) rfl) rfl ?_
  refine oP (Pure.as (lv:=v) rfl) rfl ?_
  refine gam ?_
  exact retB (v:=l) hj (rC (rT (v:=v) rfl hacc.sub) rN) (by show l.length≤200000;omega) hw2 hend rfl zhp
def opAt (T:List Tok) (i:Nat) (er:Int) (k:Nat):List UInt8:=if (decide (er=0) && isTok T i (lvOps k))=true then textAt T i else []
theorem qbinary_spec (rb:Nat) (T:List Tok) (hT:RTOK T) (k i:Nat) (hk:k≤5) (op ln er:Int) :
  LCalls (KC B0 w0) 203 [ptr rb 0,int .i64 ((k:Int)+1)] [rdH rb T i op ln er] (fun r H=>r=.ret (str (opAt T i er k))∧H=[rdH rb T i op ln er]):=by
 have hl:=hT.len
 unfold opAt
 rw[op_sign hT hk]
 have hks:=qkind_spec (B0:=B0) (w0:=w0) rb T i op ln er 4 (by decide) hl
 refine cI Tryz.func203 rfl (n:=35) rfl rfl rfl ?_
 refine ga2 ?_
 cases hb:(decide (er=0) && decide (kindAt T i=4)) with
 |false=>
  rw[hb] at hks
  have hb2:(decide (er=0) && (decide (kindAt T i=4) && decide (refLevel (textAt T i)=(k:Int)+1)))=false:=by rw[←Bool.and_assoc,hb,Bool.false_and]
  rw[hb2,if_neg (by decide)]
  refine LCode.draw (m:=19) rfl [] ?_
  refine aT 0 rfl rfl (Pure.mv (lv:=.atom _) rfl) ?_
  refine LAny.late ?_ zhn
  refine lO 1 (lS (H1:=[rdH rb T i op ln er]) (F:=[]) rfl (.inl rfl) rfl zpr zhr (S.fnH [_,_] rfl pH hks ?_))
  refine LLate.any [rdH rb T i op ln er] (fun p hp=>by cases hp) ?_
  refine aT 2 rfl rfl (Pure.not rfl) ?_
  refine aT 3 rfl rfl (Pure.mv (lv:=.atom _) rfl) ?_
  refine LAny.takeSkip (i:=4) rfl rfl rfl rfl zk zk zk rfl ?_
  refine LAny.takeSkip (i:=5) rfl rfl rfl rfl zk zk zk rfl ?_
  refine LAny.takeSkip (i:=6) rfl rfl rfl rfl zk zk zk rfl ?_
  refine LAny.takeSkip (i:=7) rfl rfl rfl rfl zk zk zk rfl ?_
  refine LAny.takeSkip (i:=8) rfl rfl rfl rfl zk zk zk rfl ?_
  refine LAny.takeSkip (i:=9) rfl rfl rfl rfl zk zk zk rfl ?_
  refine LAny.takeSkip (i:=10) rfl rfl rfl rfl zk zk zk rfl ?_
  refine LAny.takeSkip (i:=11) rfl rfl rfl rfl zk zk zk rfl ?_
  refine LAny.takeSkip (i:=12) rfl rfl rfl rfl zk zk zk rfl ?_
  refine LAny.takeSkip (i:=13) rfl rfl rfl rfl zk zk zk rfl ?_
  refine LAny.takeSkip (i:=14) rfl rfl rfl rfl zk zk zk rfl ?_
  refine LAny.takeSkip (i:=15) rfl rfl rfl rfl zk zk zk rfl ?_
  refine LAny.takeSkip (i:=16) rfl rfl rfl rfl zk zk zk rfl ?_
  refine LAny.takeSkip (i:=17) rfl rfl rfl rfl zk zk zk rfl ?_
  refine aT 18 rfl rfl (Pure.pickT (lv:=.atom _) rfl rfl) ?_
  refine LAny.late (lD zk ?_) zhr
  refine gap ?_
  refine oC rfl (fun h=>?_) (fun h=>?_)
  ·refine gau ?_
   exact rR rfl (zra rfl) zhr ⟨rfl,rfl⟩
  ·cases h
 |true=>
  rw[hb] at hks
  obtain ⟨he,hk4⟩:=Bool.and_eq_true_iff.1 hb
  rw[he,hk4,Bool.true_and,Bool.true_and]
  have hk4:=zt hk4
  have hlt:i<T.length:=by
   rcases Nat.lt_or_ge i T.length with h|h
   ·exact h
   ·rw[kind_none h] at hk4;cases hk4
  have htx:textAt T i=T[i].text:=by rw[textAt,List.getElem?_eq_getElem hlt]
  rw[htx]
  refine LCode.draw (m:=19) rfl [] ?_
  refine aT 0 rfl rfl (Pure.mv (lv:=.atom _) rfl) ?_
  refine LAny.late ?_ zhn
  refine lO 1 (lS (H1:=[rdH rb T i op ln er]) (F:=[]) rfl (.inl rfl) rfl zpr zhr (S.fnH [_,_] rfl pH hks ?_))
  refine LLate.any [rdH rb T i op ln er] (fun p hp=>by cases hp) ?_
  refine aT 2 rfl rfl (Pure.not rfl) ?_
  refine aT 3 rfl rfl (Pure.mv (lv:=.atom _) rfl) ?_
  refine LAny.tkW 4 rfl rfl rfl rfl (Pure.mv (lv:=.atom _) rfl) ?_
  refine LAny.tkW 5 rfl rfl rfl rfl (Pure.nilCheckH rfl) ?_
  refine LAny.tkW 6 rfl rfl rfl rfl (Pure.fieldH rfl) ?_
  refine LAny.tkW 7 rfl rfl rfl rfl (Pure.loadH (c:=.list _) rfl zm0 rfl) ?_
  refine LAny.tkW 8 rfl rfl rfl rfl (Pure.mv (lv:=.atom _) rfl) ?_
  refine LAny.tkW 9 rfl rfl rfl rfl (Pure.nilCheckH rfl) ?_
  refine LAny.tkW 10 rfl rfl rfl rfl (Pure.fieldH rfl) ?_
  refine LAny.tkW 11 rfl rfl rfl rfl (Pure.loadH (c:=.atom _) rfl zm0 rfl) ?_
  refine LAny.takeWant (i:=12) zhr rfl rfl rfl zk zk zk rfl (xR (el':=encTok T[i]) (cs:=[_,_,_]) rfl rfl zo (map_get _ _ _ hlt) rfl rfl) ?_
  refine LAny.tkW 13 rfl rfl rfl rfl (Pure.field1 rfl rfl) ?_
  refine LAny.tkW 14 rfl rfl rfl rfl (Pure.loadRef (c:=.atom _) rfl rfl) ?_
  refine LAny.tkW 16 rfl rfl rfl rfl (Pure.mv (lv:=.atom _) rfl) ?_
  refine LAny.late ?_ zhr
  refine lO 15 (lS (H1:=[]) (F:=[rdH rb T i op ln er]) rfl (.inr ⟨_,_,_,rfl,rfl,rfl⟩) rfl zpr zhr (S.fn [_] rfl (Level_spec T[i].text) ?_))
  refine LLate.any [rdH rb T i op ln er] (fun p hp=>hp) ?_
  refine LAny.tkW 17 rfl rfl rfl rfl (Pure.neq rfl rfl) ?_
  refine aT 18 rfl rfl (Pure.pickF (lv:=.atom _) rfl rfl) ?_
  refine LAny.late (lD zk ?_) zhr
  refine gap ?_
  refine oC rfl (fun h=>?_) (fun h=>?_)
  ·have h':decide (refLevel T[i].text=(k:Int)+1)=false:=by simpa only[Bool.not_eq_true'] using h
   rw[h',if_neg (by decide)]
   refine gau ?_
   exact rR rfl (zra rfl) zhr ⟨rfl,rfl⟩
  ·have h':decide (refLevel T[i].text=(k:Int)+1)=true:=by simpa only[Bool.not_eq_false'] using h
   rw[h',if_pos rfl]
   refine gad ?_
   refine LCode.cutTo [(4,str T[i].text)] [rdH rb T i op ln er] ?_ (fun j hj=>?_)
   ·refine LCode.quiet zk ?_
    refine gaf ?_
    refine LQ.pure (xR (el':=encTok T[i]) (cs:=[_,_,_]) rfl rfl zo (map_get _ _ _ hlt) rfl rfl) rfl ?_
    refine gaf ?_
    exact ⟨⟨rfl,trivial⟩,rfl,rfl⟩
   ·refine gam ?_
    exact rR hj (zra rfl) zhr ⟨rfl,rfl⟩
end
end Go.Proofs.YtcbpcianefpniaaGreatDoor
namespace Go.Proofs.YtcbpcianefpniaaGreatDoor
open Go.GL Go.RowKit Go.Stele
set_option maxRecDepth 100000
set_option maxHeartbeats 4000000
attribute [local irreducible] LOps LCode LStep LCalls Go.GL.Pure QThen QBlock RetPost LQ LAny LLate LLateOp LS
def qExs (l:List Ex):LV:=.list (l.map encE)
def EC (B0:Nat) (w0:World) (rb:Nat) (T:List Tok) (f:Nat):Prop:=∀ (k o i:Nat) (op ln er:Int) (r:Res Ex),k≤6→Wf T o i op ln er→stO o i ln er (eLev T f k)=some r →
 LCalls (KC B0 w0) 182 [ptr rb 0,int .i64 ((k:Int)+1)] [rdH rb T i op ln er] (PostQ rb T o encE r)
def UC (B0:Nat) (w0:World) (rb:Nat) (T:List Tok) (f:Nat):Prop:=∀ (o i:Nat) (r:Res Ex),i≤T.length→o≤100→eUnary T f i o=some r→LCalls (KC B0 w0) 202 [ptr rb 0] [rdH rb T i o 0 0] (PostQ rb T o encE r)
def PC (B0:Nat) (w0:World) (rb:Nat) (T:List Tok) (f:Nat):Prop:=∀ (o i:Nat) (r:Res Ex),i≤T.length→o≤100→ePrim T f i o=some r→LCalls (KC B0 w0) 219 [ptr rb 0] [rdH rb T i o 0 0] (PostQ rb T o encE r)
def AC (B0:Nat) (w0:World) (rb:Nat) (T:List Tok) (f:Nat):Prop:=∀ (o i:Nat) (r:Res (List Ex)),i≤T.length→o≤100→eArgs T f i o=some r→LCalls (KC B0 w0) 184 [ptr rb 0] [rdH rb T i o 0 0] (PostQ rb T o qExs r)
theorem stO_pure {A:Type} {o i:Nat} {ln er:Int} {g:Nat→Nat→OR A} {r:Res A} (h:stO o i ln er g=some r):stO o i ln er (fun i o=>obind (g i o) fun v i o=>some (.ok v i o))=some r:=by
 rw[←h]
 unfold stO
 split
 ·show obind (g i o) (fun v i o=>some (.ok v i o))=g i o
  cases g i o with
  |none=>rfl
  |some q=>cases q <;> rfl
 ·rfl
theorem obind_assoc {A B C:Type} (r:OR A) (f:A→Nat→Nat→OR B) (g:B→Nat→Nat→OR C):obind (obind r f) g=obind r fun v i o=>obind (f v i o) g:=by
 cases r with
 |none=>rfl
 |some q=>cases q <;> rfl
theorem tok_excl {T:List Tok} {i:Nat} {x y:List UInt8} (h:isTok T i [x]=true) (hne:x≠y):isTok T i [y]=false:=by
 unfold isTok at h ⊢
 split at h
 ·rw[Bool.and_eq_true] at h
  have h2:=h.2
  simp only[List.contains_cons,List.contains_nil,Bool.or_false,beq_iff_eq] at h2 ⊢
  rw[h2,Bool.and_eq_false_iff]
  right
  simpa using hne
 ·cases h
theorem tok_kind1 {T:List Tok} {i:Nat} {k:Int} (h:kindAt T i=k) (h3:k≠3) (h4:k≠4) (xs:List (List UInt8)):isTok T i xs=false:=by
 unfold isTok
 unfold kindAt at h
 split
 ·rename_i t ht
  rw[ht] at h
  simp only at h
  rw[h]
  simp[h3,h4]
 ·rfl
theorem andz {b:Bool}:(decide ((0:Int)=0) && b)=b:=by simp
def LoopSt (T:List Tok) (o k kk:Nat) (e:Ex) (i:Nat) (ln er:Int) (s:List UInt8) (r:Res Ex):Prop:=
 (s≠[]∧er=0∧isTok T i (lvOps k)=true∧s=textAt T i∧eLoop T kk k e i o=some r)∨(s=[]∧stO o i ln er (fun i o=>some (.ok e i o))=some r)
theorem mkLoop {T:List Tok} {o k kk:Nat} {e:Ex} {i:Nat} {ln er:Int} {r:Res Ex} (hk:k≤5) (h:stO o i ln er (fun i o=>eLoop T kk k e i o)=some r):LoopSt T o k kk e i ln er (opAt T i er k) r:=by
 unfold opAt
 cases hc:(decide (er=0) && isTok T i (lvOps k)) with
 |true=>
  rw[if_pos rfl]
  obtain ⟨he,ht⟩:=Bool.and_eq_true_iff.1 hc
  obtain rfl:=zt he
  refine .inl ⟨?_,rfl,ht,rfl,h⟩
  have hlt:=isTok_lt ht
  rw[tok_at hlt] at ht
  rw[textAt,List.getElem?_eq_getElem hlt]
  exact ops_ne k (List.mem_range.2 zo) _ (List.contains_iff_mem.1 (Bool.and_eq_true_iff.1 ht).2)
 |false=>
  rw[if_neg (by decide)]
  refine .inr ⟨rfl,?_⟩
  by_cases he:er=0
  ·subst he
   have ht:isTok T i (lvOps k)=false:=by simpa using hc
   rw[stO_ok] at h ⊢
   cases kk with
   |zero=>rw[eLoop] at h;cases h
   |succ kk=>
    rw[eLoop,if_neg (by rw[ht];decide)] at h
    exact h
  ·rw[stO_dead he] at h ⊢
   exact h
theorem args_first {A:Type} {T:List Tok} {f o i:Nat} {ln er:Int} {K:List Ex→Nat→Nat→OR A} {r:Res A} (hc:(decide (er=0) && isTok T i [[41]])=false) (h:stO o i ln er (fun i o=>obind (eArgsLoop T f [] i o) K)=some r) :
  ∃ g,g≤f∧stO o i ln er (fun i o=>obind (eLev T g 0 i o) fun e i o=>obind (eArgsLoop T g [e] i o) K)=some r:=by
 by_cases he:er=0
 ·subst he
  have ht:isTok T i [[41]]=false:=by simpa using hc
  rw[stO_ok] at h
  cases f with
  |zero=>rw[eArgsLoop] at h;cases h
  |succ g=>
   rw[eArgsLoop,if_neg (by rw[ht];decide),if_pos rfl] at h
   refine ⟨g,by omega,?_⟩
   rw[stO_ok,←obind_assoc]
   exact h
 ·rw[stO_dead he] at h
  exact ⟨0,Nat.zero_le _,by rw[stO_dead he];exact h⟩
theorem args_none {A:Type} {T:List Tok} {f o i:Nat} {ln:Int} {K:List Ex→Nat→Nat→OR A} {r:Res A} (ht:isTok T i [[41]]=true) (h:stO o i ln 0 (fun i o=>obind (eArgsLoop T f [] i o) K)=some r):stO o i ln 0 (K [])=some r:=by
 rw[stO_ok] at h ⊢
 cases f with
 |zero=>rw[eArgsLoop] at h;cases h
 |succ g=>
  rw[eArgsLoop,if_pos ht] at h
  exact h
theorem args_next {A:Type} {T:List Tok} {f o i:Nat} {ln:Int} {l:List Ex} {K:List Ex→Nat→Nat→OR A} {r:Res A} (ht:isTok T i [[44]]=true) (hne:l≠[]) (h:stO o i ln 0 (fun i o=>obind (eArgsLoop T f l i o) K)=some r) :
  ∃ g,f=g+1∧stO o (i+1) ln 0 (fun i o=>obind (eLev T g 0 i o) fun e i o=>obind (eArgsLoop T g (l++[e]) i o) K)=some r:=by
 rw[stO_ok] at h
 cases f with
 |zero=>rw[eArgsLoop] at h;cases h
 |succ g=>
  rw[eArgsLoop,if_neg (by rw[tok_excl ht (by decide)];decide),if_neg hne,sNeed,if_pos ht] at h
  refine ⟨g,rfl,?_⟩
  rw[stO_ok,←obind_assoc]
  exact h
theorem args_end {T:List Tok} {f o i:Nat} {ln er:Int} {l:List Ex} {r:Res (List Ex)} (hc:(decide (er=0) && isTok T i [[44]])=false) (hne:l≠[])
  (h:stO o i ln er (fun i o=>obind (eArgsLoop T f l i o) fun l i o=>obind (some (sEnd T [41] i o)) fun _ i o=>some (.ok l i o))=some r):stO o i ln er (fun i o=>obind (some (sEnd T [41] i o)) fun _ i o=>some (.ok l i o))=some r:=by
 by_cases he:er=0
 ·subst he
  have ht:isTok T i [[44]]=false:=by simpa using hc
  rw[stO_ok] at h ⊢
  cases f with
  |zero=>rw[eArgsLoop] at h;cases h
  |succ g=>
   rw[eArgsLoop] at h
   split at h
   ·exact h
   ·rename_i h41
    rw[sNeed,if_neg (by rw[ht];decide)] at h
    rw[sEnd,sNeed,if_neg h41]
    exact h
 ·rw[stO_dead he] at h ⊢
  exact h
theorem lev_good {T:List Tok} {f k i o i' o':Nat} {e:Ex} (h:eLev T f k i o=some (.ok e i' o')):i<i'∧(i≤T.length→i'≤T.length):=by
 obtain ⟨g1,g2,g3,g4⟩:=(ex_good T f).1 k i o _ h
 exact ⟨g2 rfl,g3⟩
section
variable {B0:Nat} {w0:World}
theorem qexpr_spec (rb:Nat) (T:List Tok) (hT:RTOK T) (f:Nat) (hE:∀ g,g<f→EC B0 w0 rb T g) (hU:∀ g,g<f→UC B0 w0 rb T g):EC B0 w0 rb T f:=by
 intro k o i op ln er r hk hw hr
 have hl:=hT.len
 refine cI Tryz.func182 rfl (n:=49) rfl rfl rfl ?_
 refine gai ?_
 refine oS (S.alloc fun b4=>?_) rfl
 refine gaa ?_
 refine oC rfl (fun hc=>?_) (fun hc=>?_)
 ·have he:er≠0:=by simpa using hc
  rw[stO_dead he] at hr
  refine gaa ?_
  exact retQ (v:=.mk [] 0 [] []) rfl (rC (rA (k:=4) rfl zm0 rfl (LV.Sub.agg (bs:=[_,_,_,.list []]) ⟨LV.Sub.refl _,LV.Sub.refl _,LV.Sub.refl _,LV.Sub.nil,trivial⟩)) rN) (wf_dead he) (by rw[stO_dead he];exact hr) rfl (zhD zhr)
 obtain rfl:er=0:=by simpa using hc
 obtain ⟨rfl,hi,rfl,ho⟩:=hw rfl
 rw[stO_ok] at hr
 obtain ⟨f,rfl⟩:∃ g,f=g+1:=by
  cases f with
  |zero=>rw[eLev] at hr;cases hr
  |succ g=>exact ⟨g,rfl⟩
 rw[eLev] at hr
 refine gab ?_
 refine oC rfl (fun h7=>?_) (fun h7=>?_)
 ·have hk6:k=6:=by have:=zt h7;omega
  rw[if_pos hk6] at hr
  have hr':=stO_pure (o:=o) (i:=i) (ln:=0) (er:=0) (g:=eUnary T f) hr
  refine gae ?_
  refine oS (S.callQ [_] rfl zp1 hr' (fun r1 h1=>hU f zo o i r1 hi ho h1) fun v i1 op1 ln1 er1 hw1 hal hr1=>?_) rfl
  refine gac ?_
  exact retQ (v:=v) rfl (rC (rA rfl zm0 rfl zsr) rN) hw1 hr1 rfl (zhD zhr)
 have hk5:k≤5:=by have:=zf h7;omega
 rw[if_neg zo] at hr
 have hr':stO o i 0 0 (fun i o=>obind (eLev T f (k+1) i o) fun e i o=>eLoop T f k e i o)=some r:=hr
 refine gab ?_
 refine oS (S.callQ [_,_] rfl zp1 hr' (fun r1 h1=>hE f zo (k+1) o i o 0 0 r1 zo (fun _=>⟨rfl,hi,rfl,ho⟩) h1) fun e i1 op1 ln1 er1 hw1 hal hr1=>?_) rfl
 refine oS (S.alloc fun b5=>?_) rfl
 refine gaa ?_
 refine oS (S.fnH [_,_] rfl zp1 (qbinary_spec rb T hT k i1 hk5 op1 ln1 er1) ?_) rfl
 refine gad ?_
 refine oL (fun kk ls H=>∃ (e:Ex) (i2:Nat) (op2 ln2 er2:Int) (s:List UInt8),kk≤f∧ls=[(0,ptr rb 0),(1,int .i64 ((k:Int)+1)),(4,ptr b4 0),(5,ptr b5 0),(6,str s)] ∧
   H=[rdH rb T i2 op2 ln2 er2,(b5,.cells 170 [str (exOp e),int .u32 (exNum e),str (exName e),.list (encArgs e)]),(b4,.cells 170 [str [],int .u32 0,str [],nilSlice])]∧Wf T o i2 op2 ln2 er2∧LoopSt T o k kk e i2 ln2 er2 s r)
  ⟨f,_,_,⟨e,i1,op1,ln1,er1,_,Nat.le_refl _,rfl,rfl,hw1,mkLoop hk5 hr1⟩,⟨rfl,rfl,rfl,rfl,rfl,trivial⟩,HSub.refl _⟩ ?_
 rintro kk ls H ⟨e,i2,op2,ln2,er2,s,hkf,rfl,rfl,hw2,hS⟩ j hj
 refine gaa ?_
 refine oC rfl (fun hs=>?_) (fun hs=>?_)
 ·have hne:s≠[]:=by simpa using hs
  rcases hS with ⟨_,rfl,ht,rfl,hI⟩|⟨h,_⟩
  case inr=>exact absurd h hne
  obtain ⟨rfl,hi2,rfl,_⟩:=hw2 rfl
  have hlt:=isTok_lt ht
  obtain ⟨kk,rfl⟩:∃ g,kk=g+1:=by
   cases kk with
   |zero=>rw[eLoop] at hI;cases hI
   |succ g=>exact ⟨g,rfl⟩
  rw[eLoop,if_pos ht] at hI
  have hI':stO o (i2+1) 0 0 (fun i o=>obind (eLev T kk (k+1) i o) fun e2 i o=>if k=2 then some (.ok (.mk (textAt T i2) 0 [] [e,e2]) i o) else eLoop T kk k (.mk (textAt T i2) 0 [] [e,e2]) i o)=some r:=hI
  refine gaa ?_
  refine oS (S.callQ (i:=i2+1) (op:=(o:Int)) [_,_] rfl pH hI' (fun r1 h1=>hE kk zo (k+1) o (i2+1) o 0 0 r1 zo (fun _=>⟨rfl,hlt,rfl,ho⟩) h1) fun e2 i3 op3 ln3 er3 hw3 hal3 hI3=>?_) rfl
  refine oS (S.alloc fun b7=>?_) rfl
  refine gaa ?_
  refine oS (S.lit (es:=[encE e,encE e2]) [_,_] rfl (eC rfl rfl (eC rfl rfl eN)) rfl rfl rfl ?_) rfl
  refine gaa ?_
  refine oS (S.fnH [_,_] rfl zp2 (qbinary_spec rb T hT k i3 hk5 op3 ln3 er3) ?_) rfl
  refine gab ?_
  refine oC rfl (fun h3=>?_) (fun h3=>?_)
  ·have hk2:k=2:=by have:=zt h3;omega
   simp only[hk2,if_true] at hI3
   refine gab ?_
   exact ⟨kk,_,_,by omega,⟨.mk (textAt T i2) 0 [] [e,e2],i3,op3,ln3,er3,[],by omega,rfl,rfl,hw3,.inr ⟨rfl,hI3⟩⟩,⟨rfl,rfl,rfl,rfl,rfl,trivial⟩,zhP pH (zhP pH (zhD zhr)),hj⟩
  ·have hk2:¬ k=2:=by have:=zf h3;omega
   simp only[hk2,if_false] at hI3
   refine gad ?_
   exact ⟨kk,_,_,by omega,⟨.mk (textAt T i2) 0 [] [e,e2],i3,op3,ln3,er3,_,by omega,rfl,rfl,hw3,mkLoop hk5 hI3⟩,⟨rfl,rfl,rfl,rfl,rfl,trivial⟩,zhP pH (zhP pH (zhD zhr)),hj⟩
 ·have he:s=[]:=by simpa using hs
  rcases hS with ⟨h,_⟩|⟨_,hI⟩
  case inl=>exact absurd he h
  refine gaa ?_
  exact retQ (v:=e) hj (rC (rA rfl zm0 rfl zsr) rN) hw2 hI rfl (zhP zp1 zhn)
end
end Go.Proofs.YtcbpcianefpniaaGreatDoor
namespace Go.Proofs.YtcbpcianefpniaaGreatDoor
open Go.GL Go.RowKit Go.Stele
set_option maxRecDepth 100000
set_option maxHeartbeats 4000000
attribute [local irreducible] LOps LCode LStep LCalls Go.GL.Pure QThen QBlock RetPost LQ LAny LLate LLateOp LS
section
variable {B0:Nat} {w0:World}
theorem qargs_spec (rb:Nat) (T:List Tok) (hT:RTOK T) (f:Nat) (hE:∀ g,g<f→EC B0 w0 rb T g):AC B0 w0 rb T f:=by
 intro o i r hi ho hr
 have hl:=hT.len
 obtain ⟨f,rfl⟩:∃ g,f=g+1:=by
  cases f with
  |zero=>rw[eArgs] at hr;cases hr
  |succ g=>exact ⟨g,rfl⟩
 rw[eArgs] at hr
 have hr':stO o i 0 0 (fun i o=>obind (some (sBegin T [40] i o)) fun _ i o=>obind (eArgsLoop T f [] i o) fun l i o=>obind (some (sEnd T [41] i o)) fun _ i o=>some (.ok l i o))=some r:=hr
 refine cI Tryz.func184 rfl (n:=31) rfl rfl rfl ?_
 refine gav ?_
 refine oS (S.callQ (op:=(o:Int)) [_,_] rfl pH hr' (fun r1 h1=>qenter_spec rb T o i o 0 0 [40] hl hT.pos (fun _=>⟨rfl,hi,rfl,ho⟩) r1 h1) fun u i1 op1 ln1 er1 hw1 hal1 hr1=>?_) rfl
 refine gaq ?_
 refine oS (S.fnH [_,_] rfl pH (qnext_spec rb T i1 op1 ln1 er1 [41] hl) ?_) rfl
 refine gac ?_
 refine oC rfl (fun hc=>?_) (fun hc=>?_)
 ·have hc':(decide (er1=0) && isTok T i1 [[41]])=false:=by simpa only[Bool.not_eq_true'] using hc
  obtain ⟨g,hg,hr2⟩:=args_first hc' hr1
  refine gae ?_
  refine oS (S.callQ [_,_] rfl pH hr2 (fun r1 h1=>hE g zo 0 (o+1) i1 op1 ln1 er1 r1 zo hw1 h1) fun e i2 op2 ln2 er2 hw2 hal2 hr3=>?_) rfl
  refine oS (S.lit [_] rfl (eC rfl rfl eN) rfl rfl rfl ?_) rfl
  refine oS (S.acc1 (H1:=[]) rfl Acc.nil rfl (by simp;rfl) rfl (by simp) fun v0 H0 hacc0=>?_) rfl
  refine oP (Pure.as (lv:=v0) rfl) rfl ?_
  refine gad ?_
  refine oL (fun k ls H=>∃ (v:LV) (l:List Ex) (i3:Nat) (op3 ln3 er3:Int) (Ha:Heap),k≤g∧ls=[(0,ptr rb 0),(3,v)]∧H=rdH rb T i3 op3 ln3 er3::Ha∧Acc 4 v (l.map encE) Ha []∧Wf T (o+1) i3 op3 ln3 er3∧l≠[]∧l.length≤T.length+5∧(er3=0→l.length≤i3+1) ∧
    stO (o+1) i3 ln3 er3 (fun i o=>obind (eArgsLoop T k l i o) fun l i o=>obind (some (sEnd T [41] i o)) fun _ i o=>some (.ok l i o))=some r)
   ⟨g,_,_,⟨v0,[e],i2,op2,ln2,er2,H0,Nat.le_refl _,rfl,rfl,hacc0,hw2,by simp,by simp,fun _=>by simp,hr3⟩,⟨rfl,rfl,trivial⟩,HSub.refl _⟩ ?_
  rintro k ls H ⟨v,l,i3,op3,ln3,er3,Ha,hkg,rfl,rfl,hacc,hw3,hne,hll,hla,hI⟩ j hj
  refine gae ?_
  refine oS (S.fnH [_,_] rfl pH (qnext_spec rb T i3 op3 ln3 er3 [44] hl) ?_) rfl
  refine gap ?_
  refine oC rfl (fun hd=>?_) (fun hd=>?_)
  ·obtain ⟨he,ht⟩:=Bool.and_eq_true_iff.1 hd
   obtain rfl:=zt he
   obtain ⟨rfl,hi3,rfl,ho3⟩:=hw3 rfl
   have hlt:=isTok_lt ht
   have hla:=hla rfl
   obtain ⟨k,rfl,hI2⟩:=args_next ht hne hI
   refine gaa ?_
   refine oP (Pure.mv (lv:=v) rfl) rfl ?_
   refine gaz ?_
   refine oS (S.callQ (i:=i3+1) (op:=((o+1:Nat):Int)) [_,_] rfl pH hI2 (fun r1 h1=>hE k zo 0 (o+1) (i3+1) _ 0 0 r1 zo (fun _=>⟨rfl,hlt,rfl,ho3⟩) h1) fun e2 i4 op4 ln4 er4 hw4 hal4 hI4=>?_) rfl
   refine oS (S.lit [_] rfl (eC rfl rfl eN) rfl rfl rfl ?_) rfl
   refine oS (S.acc1 rfl hacc rfl (by simp;rfl) rfl (by simp;omega) fun v' H' hacc'=>?_) rfl
   refine oP (Pure.as (lv:=v') rfl) rfl ?_
   refine gad ?_
   exact ⟨k,_,_,by omega,⟨v',l++[e2],i4,op4,ln4,er4,H',by omega,rfl,rfl,by rw[List.map_append];exact hacc',hw4,by simp,by simp;omega,fun h4=>by
    obtain ⟨_,h5⟩:=hal4 h4
    have:=(lev_good h5).1
    simp
    omega,hI4⟩,⟨rfl,rfl,trivial⟩,HSub.refl _,hj⟩
  ·have hI2:=args_end hd hne hI
   refine gab ?_
   refine oS (S.callQ [_,_] rfl pH hI2 (fun r1 h1=>qleave_spec rb T o i3 op3 ln3 er3 [41] hl hT.pos hw3 r1 h1) fun u2 i5 op5 ln5 er5 hw5 hal5 hr5=>?_) rfl
   refine gak ?_
   refine oP (Pure.mv (lv:=v) rfl) rfl ?_
   refine oP (Pure.as (lv:=v) rfl) rfl ?_
   refine gam ?_
   exact retQ (v:=l) hj (rC (rT (v:=v) rfl hacc.sub) rN) hw5 hr5 rfl zhp
 ·have hc':(decide (er1=0) && isTok T i1 [[41]])=true:=by simpa only[Bool.not_eq_false'] using hc
  obtain ⟨he,ht⟩:=Bool.and_eq_true_iff.1 hc'
  obtain rfl:=zt he
  have hr2:=args_none ht hr1
  refine gax ?_
  refine oS (S.callQ [_,_] rfl pH hr2 (fun r1 h1=>qleave_spec rb T o i1 op1 ln1 0 [41] hl hT.pos hw1 r1 h1) fun u2 i5 op5 ln5 er5 hw5 hal5 hr5=>?_) rfl
  refine gab ?_
  exact retQ (v:=[]) rfl (rC (rT (v:=nilSlice) rfl LV.Sub.nil) rN) hw5 hr5 rfl zhp
theorem qprim_spec (rb:Nat) (T:List Tok) (hT:RTOK T) (f:Nat) (hE:∀ g,g<f→EC B0 w0 rb T g) (hA:∀ g,g<f→AC B0 w0 rb T g):PC B0 w0 rb T f:=by
 intro o i r hi ho hr
 have hl:=hT.len
 have hw:Wf T o i (o:Int) 0 0:=fun _=>⟨rfl,hi,rfl,ho⟩
 obtain ⟨f,rfl⟩:∃ g,f=g+1:=by
  cases f with
  |zero=>rw[ePrim] at hr;cases hr
  |succ g=>exact ⟨g,rfl⟩
 rw[ePrim] at hr
 refine cI Tryz.func219 rfl (n:=42) rfl rfl rfl ?_
 refine gai ?_
 refine oS (S.alloc fun b2=>?_) rfl
 refine gaq ?_
 refine oS (S.fnH [_,_] rfl zp1 (qkind_spec rb T i o 0 0 1 (by decide) hl) ?_) rfl
 refine gap ?_
 refine oC rfl (fun hk=>?_) (fun hk=>?_)
 ·rw[andz] at hk
  have hk:=zt hk
  rw[if_neg (by rw[tok_kind1 hk (by decide) (by decide)];decide),if_pos hk] at hr
  have hr':stO o i 0 0 (fun i o=>obind (some (sNumber T i o)) fun n i o=>some (.ok (.mk nNum n [] []) i o))=some r:=hr
  refine gae ?_
  refine oS (S.callQ [_] rfl pH hr' (fun r1 h1=>qnumber_spec rb T hT o i o 0 0 hw r1 h1) fun n i1 op1 ln1 er1 hw1 hal1 hr1=>?_) rfl
  refine gac ?_
  exact retQ (v:=.mk nNum n [] []) rfl (rC (rA (k:=4) rfl zm0 rfl (LV.Sub.agg (bs:=[_,_,_,.list []]) ⟨LV.Sub.refl _,LV.Sub.refl _,LV.Sub.refl _,LV.Sub.nil,trivial⟩)) rN) hw1 hr1 rfl (zhD zhr)
 rw[andz] at hk
 have hk:=zf hk
 refine gax ?_
 refine oS (S.fnH [_,_] rfl pH (qnext_spec rb T i o 0 0 [40] hl) ?_) rfl
 refine gap ?_
 refine oC rfl (fun hp=>?_) (fun hp=>?_)
 ·rw[andz] at hp
  rw[if_pos hp] at hr
  have hr':stO o i 0 0 (fun i o=>obind (some (sBegin T [40] i o)) fun _ i o=>obind (eLev T f 0 i o) fun e i o=>obind (some (sEnd T [41] i o)) fun _ i o=>some (.ok e i o))=some r:=hr
  refine gae ?_
  refine oS (S.callQ [_,_] rfl pH hr' (fun r1 h1=>qenter_spec rb T o i o 0 0 [40] hl hT.pos hw r1 h1) fun u i1 op1 ln1 er1 hw1 hal1 hr1=>?_) rfl
  refine gaq ?_
  refine oS (S.callQ [_,_] rfl pH hr1 (fun r1 h1=>hE f zo 0 (o+1) i1 op1 ln1 er1 r1 zo hw1 h1) fun e i2 op2 ln2 er2 hw2 hal2 hr2=>?_) rfl
  refine oS (S.alloc fun b3=>?_) rfl
  refine gaa ?_
  refine oS (S.callQ [_,_] rfl zp1 hr2 (fun r1 h1=>qleave_spec rb T o i2 op2 ln2 er2 [41] hl hT.pos hw2 r1 h1) fun u2 i3 op3 ln3 er3 hw3 hal3 hr3=>?_) rfl
  refine gaa ?_
  exact retQ (v:=e) rfl (rC (rA rfl zm0 rfl zsr) rN) hw3 hr3 rfl (zhP zp1 zhn)
 rw[andz] at hp
 rw[if_neg (by rw[hp];decide),if_neg hk] at hr
 have hr':stO o i 0 0 (fun i o=>obind (some (sWord T 2 i o)) fun s i' op'=>if isTok T i' [[91]] then obind (eIndex T f i' op') fun e i' op'=>some (.ok (.mk nElem 0 s [e]) i' op')
   else if isTok T i' [[40]] then obind (eArgs T f i' op') fun l i' op'=>some (.ok (.mk nCall 0 s l) i' op') else some (.ok (.mk nVar 0 s []) i' op'))=some r:=hr
 refine gax ?_
 refine oS (S.callQ [_] rfl pH hr' (fun r1 h1=>qname_spec rb T o i o 0 0 hl hT.pos hw r1 h1) fun s i1 op1 ln1 er1 hw1 hal1 hr1=>?_) rfl
 refine gav ?_
 refine oS (S.fnH [_,_] rfl pH (qnext_spec rb T i1 op1 ln1 er1 [40] hl) ?_) rfl
 refine gap ?_
 refine oC rfl (fun hq=>?_) (fun hq=>?_)
 ·obtain ⟨he,ht⟩:=Bool.and_eq_true_iff.1 hq
  obtain rfl:=zt he
  obtain ⟨rfl,hi1,rfl,ho1⟩:=hw1 rfl
  have hr2:stO o i1 0 0 (fun i o=>obind (eArgs T f i o) fun l i o=>some (.ok (.mk nCall 0 s l) i o))=some r:=by
   rw[stO_ok] at hr1 ⊢
   rw[if_neg (by rw[tok_excl ht (by decide)];decide),if_pos ht] at hr1
   exact hr1
  refine gae ?_
  refine oS (S.callQ [_] rfl pH hr2 (fun r1 h1=>hA f zo o i1 r1 hi1 ho1 h1) fun l i2 op2 ln2 er2 hw2 hal2 hr3=>?_) rfl
  refine gac ?_
  exact retQ (v:=.mk nCall 0 s l) rfl (rC (rA rfl zm0 rfl zsr) rN) hw2 hr3 (by rw[encE_mk];rfl) (zhP zp1 zhn)
 refine gax ?_
 refine oS (S.fnH [_,_] rfl pH (qnext_spec rb T i1 op1 ln1 er1 [91] hl) ?_) rfl
 refine gap ?_
 refine oC rfl (fun hx=>?_) (fun hx=>?_)
 ·obtain ⟨he,ht⟩:=Bool.and_eq_true_iff.1 hx
  obtain rfl:=zt he
  obtain ⟨rfl,hi1,rfl,ho1⟩:=hw1 rfl
  have hr2:=stO_t ht hr1
  rw[stO_ok] at hr2
  obtain ⟨g,rfl⟩:∃ g,f=g+1:=by
   cases f with
   |zero=>rw[eIndex] at hr2;cases hr2
   |succ g=>exact ⟨g,rfl⟩
  rw[eIndex,obind_assoc] at hr2
  simp only[obind_assoc] at hr2
  have hr3:stO o i1 0 0 (fun i o=>obind (some (sBegin T [91] i o)) fun _ i o=>obind (eLev T g 0 i o) fun e i o=>obind (some (sEnd T [93] i o)) fun _ i o=>some (.ok (.mk nElem 0 s [e]) i o))=some r:=hr2
  refine gae ?_
  refine oS (S.callQ [_,_] rfl pH hr3 (fun r1 h1=>qenter_spec rb T o i1 o 0 0 [91] hl hT.pos hw1 r1 h1) fun u i2 op2 ln2 er2 hw2 hal2 hr4=>?_) rfl
  refine gaq ?_
  refine oS (S.callQ [_,_] rfl pH hr4 (fun r1 h1=>hE g zo 0 (o+1) i2 op2 ln2 er2 r1 zo hw2 h1) fun e i3 op3 ln3 er3 hw3 hal3 hr5=>?_) rfl
  refine oS (S.alloc fun b5=>?_) rfl
  refine gaa ?_
  refine oS (S.callQ [_,_] rfl zp1 hr5 (fun r1 h1=>qleave_spec rb T o i3 op3 ln3 er3 [93] hl hT.pos hw3 r1 h1) fun u2 i4 op4 ln4 er4 hw4 hal4 hr6=>?_) rfl
  refine gaa ?_
  refine oS (S.lit (es:=[encE e]) [_] rfl (eC rfl rfl eN) rfl rfl rfl ?_) rfl
  refine gac ?_
  exact retQ (v:=.mk nElem 0 s [e]) rfl (rC (rA rfl zm0 rfl zsr) rN) hw4 hr6 rfl (zhP zp1 zhn)
 have hr2:=stO_f hq (stO_f hx hr1)
 refine gaa ?_
 exact retQ (v:=.mk nVar 0 s []) rfl (rC (rA (k:=4) rfl zm0 rfl (LV.Sub.agg (bs:=[_,_,_,.list []]) ⟨LV.Sub.refl _,LV.Sub.refl _,LV.Sub.refl _,LV.Sub.nil,trivial⟩)) rN) hw1 hr2 rfl (zhP zp1 zhn)
theorem qun_spec (rb:Nat) (T:List Tok) (hT:RTOK T) (f:Nat) (hU:∀ g,g<f→UC B0 w0 rb T g) (hP:∀ g,g<f→PC B0 w0 rb T g):UC B0 w0 rb T f:=by
 intro o i r hi ho hr
 have hl:=hT.len
 have hw:Wf T o i (o:Int) 0 0:=fun _=>⟨rfl,hi,rfl,ho⟩
 obtain ⟨f,rfl⟩:∃ g,f=g+1:=by
  cases f with
  |zero=>rw[eUnary] at hr;cases hr
  |succ g=>exact ⟨g,rfl⟩
 rw[eUnary] at hr
 refine cI Tryz.func202 rfl (n:=36) rfl rfl rfl ?_
 refine gai ?_
 refine oS (S.alloc fun b2=>?_) rfl
 refine gav ?_
 refine oS (S.fnH [_,_] rfl zp1 (qnext_spec rb T i o 0 0 [45] hl) ?_) rfl
 refine gap ?_
 refine oC rfl (fun hm=>?_) (fun hm=>?_)
 ·rw[andz] at hm
  rw[if_pos hm] at hr
  have hr':stO o i 0 0 (fun i o=>obind (some (sBegin T [45] i o)) fun _ i o=>obind (eUnary T f i o) fun e i o=>some (.ok (.mk nNeg 0 [] [e]) i (o-1)))=some r:=hr
  refine gav ?_
  refine oS (S.fnH [_,_] rfl pH (qnext_spec rb T i o 0 0 [33] hl) ?_) rfl
  refine gap ?_
  refine oC rfl (fun hn=>?_) (fun hn=>?_)
  ·rw[andz,tok_excl hm (by decide)] at hn
   cases hn
  refine gab ?_
  refine oC rfl (fun hz=>?_) (fun hz=>?_)
  ·exact absurd hz (by decide)
  refine gax ?_
  refine oS (S.callQ [_,_] rfl pH hr' (fun r1 h1=>qenter_spec rb T o i o 0 0 [45] hl hT.pos hw r1 h1) fun u i1 op1 ln1 er1 hw1 hal1 hr1=>?_) rfl
  refine gab ?_
  refine oC rfl (fun hd=>?_) (fun hd=>?_)
  ·have he:er1≠0:=by simpa using hd
   rw[stO_dead he] at hr1
   refine gaa ?_
   exact retQ (v:=.mk [] 0 [] []) rfl (rC (rA (k:=4) rfl zm0 rfl (LV.Sub.agg (bs:=[_,_,_,.list []]) ⟨LV.Sub.refl _,LV.Sub.refl _,LV.Sub.refl _,LV.Sub.nil,trivial⟩)) rN) (wf_dead he) (by rw[stO_dead he];exact hr1) rfl (zhP zp1 zhn)
  obtain rfl:er1=0:=by simpa using hd
  obtain ⟨rfl,hi1,rfl,ho1⟩:=hw1 rfl
  refine gax ?_
  refine oS (S.callQ [_] rfl pH hr1 (fun r1 h1=>hU f zo (o+1) i1 r1 hi1 ho1 h1) fun e i2 op2 ln2 er2 hw2 hal2 hr2=>?_) rfl
  refine oS (S.alloc fun b5=>?_) rfl
  refine gaa ?_
  by_cases he:er2=0
  ·subst he
   obtain ⟨rfl,hi2,rfl,ho2⟩:=hw2 rfl
   refine gaa ?_
   refine oS (S.lit (es:=[encE e]) [_] rfl (eC rfl rfl eN) rfl rfl rfl ?_) rfl
   refine gac ?_
   exact retQ (v:=.mk nNeg 0 [] [e]) (ln:=0) (er:=0) rfl (rC (rA rfl zm0 rfl zsr) rN) (fun _=>⟨rfl,hi2,by omega,ho⟩) hr2 rfl (zhP zp1 zhn)
  ·refine oP (Pure.subW rfl rfl) rfl ?_
   refine gaa ?_
   refine oS (S.lit (es:=[encE e]) [_] rfl (eC rfl rfl eN) rfl rfl rfl ?_) rfl
   refine gac ?_
   exact retQ (v:=.mk nNeg 0 [] [e]) rfl (rC (rA rfl zm0 rfl zsr) rN) (wf_dead he) ((stO_dead he).trans ((stO_dead he).symm.trans hr2)) rfl (zhP zp1 zhn)
 rw[andz] at hm
 rw[if_neg (by rw[hm];decide)] at hr
 refine gax ?_
 refine oS (S.fnH [_,_] rfl pH (qnext_spec rb T i o 0 0 [33] hl) ?_) rfl
 refine gap ?_
 refine oC rfl (fun hn=>?_) (fun hn=>?_)
 ·rw[andz] at hn
  rw[if_pos hn] at hr
  have hr':stO o i 0 0 (fun i o=>obind (some (sBegin T [33] i o)) fun _ i o=>obind (eUnary T f i o) fun e i o=>some (.ok (.mk nNot 0 [] [e]) i (o-1)))=some r:=hr
  refine gab ?_
  refine oC rfl (fun hz=>?_) (fun hz=>?_)
  ·exact absurd hz (by decide)
  refine gax ?_
  refine oS (S.callQ [_,_] rfl pH hr' (fun r1 h1=>qenter_spec rb T o i o 0 0 [33] hl hT.pos hw r1 h1) fun u i1 op1 ln1 er1 hw1 hal1 hr1=>?_) rfl
  refine gab ?_
  refine oC rfl (fun hd=>?_) (fun hd=>?_)
  ·have he:er1≠0:=by simpa using hd
   rw[stO_dead he] at hr1
   refine gaa ?_
   exact retQ (v:=.mk [] 0 [] []) rfl (rC (rA (k:=4) rfl zm0 rfl (LV.Sub.agg (bs:=[_,_,_,.list []]) ⟨LV.Sub.refl _,LV.Sub.refl _,LV.Sub.refl _,LV.Sub.nil,trivial⟩)) rN) (wf_dead he) (by rw[stO_dead he];exact hr1) rfl (zhP zp1 zhn)
  obtain rfl:er1=0:=by simpa using hd
  obtain ⟨rfl,hi1,rfl,ho1⟩:=hw1 rfl
  refine gax ?_
  refine oS (S.callQ [_] rfl pH hr1 (fun r1 h1=>hU f zo (o+1) i1 r1 hi1 ho1 h1) fun e i2 op2 ln2 er2 hw2 hal2 hr2=>?_) rfl
  refine oS (S.alloc fun b5=>?_) rfl
  refine gaa ?_
  by_cases he:er2=0
  ·subst he
   obtain ⟨rfl,hi2,rfl,ho2⟩:=hw2 rfl
   refine gaa ?_
   refine oS (S.lit (es:=[encE e]) [_] rfl (eC rfl rfl eN) rfl rfl rfl ?_) rfl
   refine gac ?_
   exact retQ (v:=.mk nNot 0 [] [e]) (ln:=0) (er:=0) rfl (rC (rA rfl zm0 rfl zsr) rN) (fun _=>⟨rfl,hi2,by omega,ho⟩) hr2 rfl (zhP zp1 zhn)
  ·refine oP (Pure.subW rfl rfl) rfl ?_
   refine gaa ?_
   refine oS (S.lit (es:=[encE e]) [_] rfl (eC rfl rfl eN) rfl rfl rfl ?_) rfl
   refine gac ?_
   exact retQ (v:=.mk nNot 0 [] [e]) rfl (rC (rA rfl zm0 rfl zsr) rN) (wf_dead he) ((stO_dead he).trans ((stO_dead he).symm.trans hr2)) rfl (zhP zp1 zhn)
 rw[andz] at hn
 rw[if_neg (by rw[hn];decide)] at hr
 have hr':=stO_pure (o:=o) (i:=i) (ln:=0) (er:=0) (g:=ePrim T f) hr
 refine gab ?_
 refine oC rfl (fun hz=>?_) (fun hz=>?_)
 ·refine gae ?_
  refine oS (S.callQ [_] rfl pH hr' (fun r1 h1=>hP f zo o i r1 hi ho h1) fun v i1 op1 ln1 er1 hw1 hal hr1=>?_) rfl
  refine gac ?_
  exact retQ (v:=v) rfl (rC (rA rfl zm0 rfl zsr) rN) hw1 hr1 rfl (zhP zp1 zhn)
 ·exact absurd hz (by decide)
theorem ex_all (rb:Nat) (T:List Tok) (hT:RTOK T) (f:Nat):EC B0 w0 rb T f∧UC B0 w0 rb T f∧PC B0 w0 rb T f∧AC B0 w0 rb T f:=by
 induction f using Nat.strongRecOn with
 |ind f ih=>
  exact ⟨qexpr_spec rb T hT f (fun g hg=>(ih g hg).1) (fun g hg=>(ih g hg).2.1),qun_spec rb T hT f (fun g hg=>(ih g hg).2.1) (fun g hg=>(ih g hg).2.2.1),
   qprim_spec rb T hT f (fun g hg=>(ih g hg).1) (fun g hg=>(ih g hg).2.2.2),qargs_spec rb T hT f (fun g hg=>(ih g hg).1)⟩
end
end Go.Proofs.YtcbpcianefpniaaGreatDoor
namespace Go.Proofs.YtcbpcianefpniaaGreatDoor
open Go.GL Go.RowKit Go.Stele
set_option maxRecDepth 100000
set_option maxHeartbeats 4000000
attribute [local irreducible] LOps LCode LStep LCalls Go.GL.Pure QThen QBlock RetPost LQ LAny LLate LLateOp LS
def qSms (l:List Sm):LV:=.list (l.map encS)
def SC (B0:Nat) (w0:World) (rb:Nat) (T:List Tok) (f:Nat):Prop:=∀ (o i:Nat) (r:Res (List Sm)),i≤T.length→o≤100→sStmts T f [] i o=some r→LCalls (KC B0 w0) 98 [ptr rb 0] [rdH rb T i o 0 0] (PostQ rb T o qSms r)
def TC (B0:Nat) (w0:World) (rb:Nat) (T:List Tok) (f:Nat):Prop:=∀ (o i:Nat) (r:Res Sm),i≤T.length→o≤100→sStmt T f i o=some r→LCalls (KC B0 w0) 152 [ptr rb 0] [rdH rb T i o 0 0] (PostQ rb T o encS r)
def BC (B0:Nat) (w0:World) (rb:Nat) (T:List Tok) (f:Nat):Prop:=∀ (o i:Nat) (op ln er:Int) (r:Res (List Sm)),Wf T o i op ln er→stO o i ln er (sBlock T f)=some r→LCalls (KC B0 w0) 183 [ptr rb 0] [rdH rb T i op ln er] (PostQ rb T o qSms r)
theorem stmt_good {T:List Tok} {f i o i' o':Nat} {s:Sm} (h:sStmt T f i o=some (.ok s i' o')):i<i':=((st_good T f).2.2.1 i o _ h).2.1 rfl
section
variable {B0:Nat} {w0:World}
theorem qstmts_dead (rb:Nat) (T:List Tok) (hT:RTOK T) (o i:Nat) (op ln er:Int) (he:er≠0):LCalls (KC B0 w0) 98 [ptr rb 0] [rdH rb T i op ln er] (PostQ rb T o qSms (.err ln er)):=by
 refine cI Tryz.func98 rfl (n:=32) rfl rfl rfl ?_
 refine gab ?_
 refine oL (fun k ls H=>ls=[(0,ptr rb 0),(3,nilSlice)]∧H=[rdH rb T i op ln er])
  ⟨0,_,_,⟨rfl,rfl⟩,⟨rfl,rfl,trivial⟩,HSub.refl _⟩ ?_
 rintro k ls H ⟨rfl,rfl⟩ j hj
 have hz:decide (er=0)=false:=decide_eq_false he
 refine gab ?_
 refine oB 9 rfl (fun h=>?_) (fun h=>?_)
 ·rw[hz] at h
  cases h
 refine gag ?_
 refine oC rfl (fun h2=>?_) (fun h2=>?_)
 ·cases h2
 refine gab ?_
 exact retQ (v:=[]) hj (rC (rT (v:=nilSlice) rfl LV.Sub.nil) rN) (wf_dead he) (stO_dead he) rfl zhr
theorem qblock_spec (rb:Nat) (T:List Tok) (hT:RTOK T) (f:Nat) (hS:∀ g,g<f→SC B0 w0 rb T g):BC B0 w0 rb T f:=by
 intro o i op ln er r hw hr
 have hl:=hT.len
 obtain ⟨g,hg,hr'⟩:∃ g,(g<f∨sStmts T g []=fun _ _=>none)∧stO o i ln er (fun i o=>obind (some (sBegin T [123] i o)) fun _ i o=>obind (sStmts T g [] i o) fun l i o=>obind (some (sEnd T [125] i o)) fun _ i o=>some (.ok l i o))=some r:=by
  cases f with
  |zero=>
   refine ⟨0,.inr (by funext i o;rw[sStmts]),?_⟩
   by_cases he:er=0
   ·subst he
    rw[stO_ok,sBlock] at hr
    cases hr
   ·rw[stO_dead he] at hr ⊢
    exact hr
  |succ g=>
   refine ⟨g,.inl zo,?_⟩
   rw[←hr]
   congr 1
   funext i o
   rw[sBlock]
 refine cI Tryz.func183 rfl (n:=11) rfl rfl rfl ?_
 refine gav ?_
 refine oS (S.callQ [_,_] rfl pH hr' (fun r1 h1=>qenter_spec rb T o i op ln er [123] hl hT.pos hw r1 h1) fun u i1 op1 ln1 er1 hw1 hal1 hr1=>?_) rfl
 refine gaq ?_
 refine oS (S.callQ (enc:=qSms) (o':=o+1) [_] rfl pH hr1 (fun r1 h1=>?_) fun l i2 op2 ln2 er2 hw2 hal2 hr2=>?_) rfl
 ·by_cases he:er1=0
  ·subst he
   obtain ⟨rfl,hi1,rfl,ho1⟩:=hw1 rfl
   rw[stO_ok] at h1
   rcases hg with hg|hg
   ·exact hS g hg (o+1) i1 r1 hi1 ho1 h1
   ·rw[hg] at h1
    cases h1
  ·rw[stO_dead he] at h1
   cases h1
   exact qstmts_dead rb T hT (o+1) i1 op1 ln1 er1 he
 refine gaa ?_
 refine oS (S.callQ [_,_] rfl pH hr2 (fun r1 h1=>qleave_spec rb T o i2 op2 ln2 er2 [125] hl hT.pos hw2 r1 h1) fun u2 i3 op3 ln3 er3 hw3 hal3 hr3=>?_) rfl
 refine gaa ?_
 exact retQ (v:=l) rfl (rC (rT (v:=.list _) rfl zsr) rN) hw3 hr3 rfl zhr
theorem qstmts_spec (rb:Nat) (T:List Tok) (hT:RTOK T) (f:Nat) (hS:∀ g,g<f→TC B0 w0 rb T g):SC B0 w0 rb T f:=by
 intro o i r hi ho hr
 have hl:=hT.len
 have hml:(T.map encTok).length=T.length:=List.length_map _
 refine cI Tryz.func98 rfl (n:=32) rfl rfl rfl ?_
 refine gab ?_
 refine oL (fun k ls H=>∃ (v:LV) (l:List Sm) (i2:Nat) (op2 ln2 er2:Int) (Ha:Heap),k≤f∧ls=[(0,ptr rb 0),(3,v)]∧H=rdH rb T i2 op2 ln2 er2::Ha∧Acc 6 v (l.map encS) Ha []∧Wf T o i2 op2 ln2 er2∧l.length≤T.length+5∧(er2=0→l.length≤i2+1)∧stO o i2 ln2 er2 (sStmts T k l)=some r)
  ⟨f,_,rdH rb T i o 0 0::[],⟨nilSlice,[],i,o,0,0,_,Nat.le_refl _,rfl,rfl,Acc.nil,fun _=>⟨rfl,hi,rfl,ho⟩,by simp,fun _=>by simp,hr⟩,⟨rfl,rfl,trivial⟩,HSub.refl _⟩ ?_
 rintro k ls H ⟨v,l,i2,op2,ln2,er2,Ha,hkf,rfl,rfl,hacc,hw2,hll,hla,hI⟩ j hj
 by_cases he:er2=0
 case neg=>
  have hz:decide (er2=0)=false:=decide_eq_false he
  rw[stO_dead he] at hI
  refine gab ?_
  refine oB 9 rfl (fun h=>?_) (fun h=>?_)
  ·rw[hz] at h
   cases h
  refine gag ?_
  refine oC rfl (fun h2=>?_) (fun h2=>?_)
  ·cases h2
  refine gab ?_
  refine oP (Pure.mv (lv:=v) rfl) rfl ?_
  refine oP (Pure.as (lv:=v) rfl) rfl ?_
  refine gam ?_
  exact retQ (v:=l) hj (rC (rT (v:=v) rfl hacc.sub) rN) hw2 ((stO_dead he).trans hI) rfl zhp
 subst he
 obtain ⟨rfl,hi2,rfl,ho2⟩:=hw2 rfl
 have hla:=hla rfl
 rw[stO_ok] at hI
 obtain ⟨k,rfl⟩:∃ k',k=k'+1:=by
  cases k with
  |zero=>rw[sStmts] at hI;cases hI
  |succ k=>exact ⟨k,rfl⟩
 rw[sStmts] at hI
 refine gab ?_
 refine oB 9 rfl (fun h=>?_) (fun h=>?_)
 case refine_2=>cases h
 refine oS (S.fnH [_,_] rfl pH (qnext_spec rb T i2 o 0 0 [125] hl) ?_) rfl
 refine gac ?_
 refine oC rfl (fun hc=>?_) (fun hc=>?_)
 ·have hc':isTok T i2 [[125]]=false:=by
   rw[Bool.not_eq_true',andz] at hc
   exact hc
  rw[if_neg (by rw[hc'];decide)] at hI
  refine gad ?_
  refine LCode.cut [(0,ptr rb 0),(3,v),(23,bool (decide (T.length≤i2)))] ?_ (fun j2 hj2=>?_)
  ·refine LCode.quiet zk ?_
   refine gaf ?_
   exact ⟨⟨rfl,rfl,bool_eq (by rw[decide_eq_decide];simp),trivial⟩,rfl,rfl⟩
  refine oC rfl (fun hd=>?_) (fun hd=>?_)
  ·have hge:T.length≤i2:=zt hd
   have hfa:sStmt T k i2 o=none∨sStmt T k i2 o=some (synErr T i2):=by
    have htn:∀ xs,isTok T i2 xs=false:=tok_none hge
    have hwd:∀ n,sWord T n i2 o=synErr T i2:=fun n=>by
     unfold sWord
     rw[List.getElem?_eq_none hge]
    cases k with
    |zero=>left;rw[sStmt]
    |succ k=>
     rw[sStmt,if_neg (by rw[htn];decide),if_neg (by rw[htn];decide)]
     cases k with
     |zero=>left;rw[sSimple];rfl
     |succ k=>
      right
      rw[sSimple,if_neg (by rw[htn];decide),if_neg (by rw[htn];decide),hwd]
      rfl
   rcases hfa with hfa|hfa
   ·rw[hfa] at hI
    cases hI
   rw[hfa] at hI
   refine gae ?_
   refine oS (S.fnH [_,_] rfl pH (qfail_alive rb T i2 o 3 hl hT.pos zo) ?_) rfl
   refine ga1 ?_
   exact retQ (v:=[]) (hj2.trans hj) (rC (rT (v:=nilSlice) rfl LV.Sub.nil) rN) (wf_dead (by decide)) ((stO_dead (by decide)).trans hI) rfl zhp
  have hI':stO o i2 0 0 (fun i o=>obind (sStmt T k i o) fun s i o=>sStmts T k (l++[s]) i o)=some r:=hI
  refine gan ?_
  refine oP (Pure.mv (lv:=v) rfl) rfl ?_
  refine gaz ?_
  refine oS (S.callQ (op:=(o:Int)) [_] rfl pH hI' (fun r1 h1=>hS k zo o i2 r1 hi2 ho2 h1) fun s i4 op4 ln4 er4 hw4 hal4 hI4=>?_) rfl
  refine oS (S.lit [_] rfl (eC rfl rfl eN) rfl rfl rfl ?_) rfl
  refine oS (S.acc1 rfl hacc rfl (by simp;rfl) rfl (by simp;omega) fun v' H' hacc'=>?_) rfl
  refine oP (Pure.as (lv:=v') rfl) rfl ?_
  refine gad ?_
  exact ⟨k,_,_,by omega,⟨v',l++[s],i4,op4,ln4,er4,H',by omega,rfl,rfl,by rw[List.map_append];exact hacc',hw4,by simp;omega,fun h4=>by
   obtain ⟨_,h5⟩:=hal4 h4
   have:=stmt_good h5
   simp
   omega,hI4⟩,⟨rfl,rfl,trivial⟩,HSub.refl _,hj2.trans hj⟩
 ·have hc':isTok T i2 [[125]]=true:=by
   rw[Bool.not_eq_false',andz] at hc
   exact hc
  rw[if_pos hc'] at hI
  refine gab ?_
  refine oP (Pure.mv (lv:=v) rfl) rfl ?_
  refine oP (Pure.as (lv:=v) rfl) rfl ?_
  refine gam ?_
  exact retQ (v:=l) (ln:=0) (er:=0) hj (rC (rT (v:=v) rfl hacc.sub) rN) (fun _=>⟨rfl,hi2,rfl,ho2⟩) hI rfl zhp
end
end Go.Proofs.YtcbpcianefpniaaGreatDoor
namespace Go.Proofs.YtcbpcianefpniaaGreatDoor
open Go.GL Go.RowKit Go.Stele
set_option maxRecDepth 100000
set_option maxHeartbeats 4000000
attribute [local irreducible] LOps LCode LStep LCalls Go.GL.Pure QThen QBlock RetPost LQ LAny LLate LLateOp LS
section
variable {B0:Nat} {w0:World}
theorem qstmt_spec (rb:Nat) (T:List Tok) (hT:RTOK T) (f:Nat) (hB:∀ g,g<f→BC B0 w0 rb T g):TC B0 w0 rb T f:=by
 intro o i r hi ho hr
 have hl:=hT.len
 have hE:=fun g=>(ex_all (B0:=B0) (w0:=w0) rb T hT g).1
 have hA:=fun g=>(ex_all (B0:=B0) (w0:=w0) rb T hT g).2.2.2
 have hw:Wf T o i (o:Int) 0 0:=fun _=>⟨rfl,hi,rfl,ho⟩
 obtain ⟨f,rfl⟩:∃ g,f=g+1:=by
  cases f with
  |zero=>rw[sStmt] at hr;cases hr
  |succ g=>exact ⟨g,rfl⟩
 rw[sStmt] at hr
 refine cI Tryz.func152 rfl (n:=118) rfl rfl rfl ?_
 refine gai ?_
 refine oS (S.alloc fun b2=>?_) rfl
 refine gak ?_
 refine oS (S.alloc fun b3=>?_) rfl
 refine gab ?_
 refine oS (S.fnH [_,_] rfl zp2 (qnext_spec rb T i o 0 0 kwIf hl) ?_) rfl
 refine gay ?_
 refine oC rfl (fun hc=>?_) (fun hc=>?_)
 ·rw[andz] at hc
  have hlt:=isTok_lt hc
  rw[if_pos hc] at hr
  have hr':stO o (i+1) 0 0 (fun i o=>obind (eLev T f 0 i o) fun e i' op'=>obind (sBlock T f i' op') fun th i' op'=>
   if isTok T i' [kwElse] then obind (sBlock T f (i'+1) op') fun el i' op'=>some (.ok (.mk 3 [] [] [e] th el) i' op') else some (.ok (.mk 3 [] [] [e] th []) i' op'))=some r:=hr
  refine gaa ?_
  refine oS (S.callQ (i:=i+1) (op:=(o:Int)) [_,_] rfl zp1 hr' (fun r1 h1=>hE f 0 o (i+1) o 0 0 r1 zo (fun _=>⟨rfl,hlt,rfl,ho⟩) h1) fun e i1 op1 ln1 er1 hw1 hal1 hr1=>?_) rfl
  refine oS (S.lit (es:=[encE e]) [_] rfl (eC rfl rfl eN) rfl rfl rfl ?_) rfl
  refine gaa ?_
  refine oS (S.callQ [_] rfl zp1 hr1 (fun r1 h1=>hB f zo o i1 op1 ln1 er1 r1 hw1 h1) fun th i2 op2 ln2 er2 hw2 hal2 hr2=>?_) rfl
  refine gaa ?_
  refine oS (S.fnH [_,_] rfl zp1 (qnext_spec rb T i2 op2 ln2 er2 kwElse hl) ?_) rfl
  refine gap ?_
  refine oC rfl (fun hd=>?_) (fun hd=>?_)
  ·obtain ⟨he,ht⟩:=Bool.and_eq_true_iff.1 hd
   obtain rfl:=zt he
   obtain ⟨rfl,hi2,rfl,ho2⟩:=hw2 rfl
   have hlt2:=isTok_lt ht
   have hr3a:=stO_t ht hr2
   have hr3:stO o (i2+1) 0 0 (fun i o=>obind (sBlock T f i o) fun el i o=>some (.ok (.mk 3 [] [] [e] th el) i o))=some r:=hr3a
   refine gaa ?_
   refine oS (S.callQ (i:=i2+1) (op:=(o:Int)) [_] rfl pH hr3 (fun r1 h1=>hB f zo o (i2+1) o 0 0 r1 (fun _=>⟨rfl,hlt2,rfl,ho⟩) h1) fun el i3 op3 ln3 er3 hw3 hal3 hr4=>?_) rfl
   refine gaa ?_
   exact retQ (v:=.mk 3 [] [] [e] th el) rfl (rC (rA (k:=6) rfl zm0 rfl (LV.Sub.agg (bs:=[_,_,.list [],_,_,_]) ⟨LV.Sub.refl _,LV.Sub.refl _,LV.Sub.nil,LV.Sub.refl _,LV.Sub.refl _,LV.Sub.refl _,trivial⟩)) rN) hw3 hr4 (by rw[encS_mk];rfl) (zhP zp2 zhn)
  ·have hr3:=stO_f hd hr2
   refine gaa ?_
   exact retQ (v:=.mk 3 [] [] [e] th []) rfl (rC (rA (k:=6) rfl zm0 rfl (LV.Sub.agg (bs:=[_,_,.list [],_,_,.list []]) ⟨LV.Sub.refl _,LV.Sub.refl _,LV.Sub.nil,LV.Sub.refl _,LV.Sub.refl _,LV.Sub.nil,trivial⟩)) rN) hw2 hr3 (by rw[encS_mk];rfl) (zhP zp1 zhn)
 rw[andz] at hc
 rw[if_neg (by rw[hc];decide)] at hr
 refine gae ?_
 refine oS (S.fnH [_,_] rfl pH (qnext_spec rb T i o 0 0 kwWhile hl) ?_) rfl
 refine gay ?_
 refine oC rfl (fun hc2=>?_) (fun hc2=>?_)
 ·rw[andz] at hc2
  have hlt:=isTok_lt hc2
  rw[if_pos hc2] at hr
  have hr':stO o (i+1) 0 0 (fun i o=>obind (eLev T f 0 i o) fun e i' op'=>obind (sBlock T f i' op') fun th i' op'=>some (.ok (.mk 4 [] [] [e] th []) i' op'))=some r:=hr
  refine gaa ?_
  refine oS (S.callQ (i:=i+1) (op:=(o:Int)) [_,_] rfl zp1 hr' (fun r1 h1=>hE f 0 o (i+1) o 0 0 r1 zo (fun _=>⟨rfl,hlt,rfl,ho⟩) h1) fun e i1 op1 ln1 er1 hw1 hal1 hr1=>?_) rfl
  refine oS (S.lit (es:=[encE e]) [_] rfl (eC rfl rfl eN) rfl rfl rfl ?_) rfl
  refine gaa ?_
  refine oS (S.callQ [_] rfl zp1 hr1 (fun r1 h1=>hB f zo o i1 op1 ln1 er1 r1 hw1 h1) fun th i2 op2 ln2 er2 hw2 hal2 hr2=>?_) rfl
  refine gaa ?_
  exact retQ (v:=.mk 4 [] [] [e] th []) rfl (rC (rA (k:=6) rfl zm0 rfl (LV.Sub.agg (bs:=[_,_,.list [],_,_,.list []]) ⟨LV.Sub.refl _,LV.Sub.refl _,LV.Sub.nil,LV.Sub.refl _,LV.Sub.refl _,LV.Sub.nil,trivial⟩)) rN) hw2 hr2 (by rw[encS_mk];rfl) (zhP zp2 zhn)
 rw[andz] at hc2
 rw[if_neg (by rw[hc2];decide)] at hr
 obtain ⟨g,rfl⟩:∃ g,f=g+1:=by
  cases f with
  |zero=>rw[sSimple] at hr;cases hr
  |succ g=>exact ⟨g,rfl⟩
 rw[sSimple] at hr
 refine gae ?_
 refine oS (S.fnH [_,_] rfl pH (qnext_spec rb T i o 0 0 kwReturn hl) ?_) rfl
 refine gay ?_
 refine oC rfl (fun hc3=>?_) (fun hc3=>?_)
 ·rw[andz] at hc3
  have hlt:=isTok_lt hc3
  rw[if_pos hc3,obind_assoc] at hr
  have hr':stO o (i+1) 0 0 (fun i o=>obind (eLev T g 0 i o) fun e i o=>obind (some (sNeed T [59] i o)) fun _ i o=>some (.ok (.mk 5 [] [] [e] [] []) i o))=some r:=hr
  refine gaa ?_
  refine oS (S.callQ (i:=i+1) (op:=(o:Int)) [_,_] rfl zp1 hr' (fun r1 h1=>hE g 0 o (i+1) o 0 0 r1 zo (fun _=>⟨rfl,hlt,rfl,ho⟩) h1) fun e i1 op1 ln1 er1 hw1 hal1 hr1=>?_) rfl
  refine oS (S.lit (es:=[encE e]) [_] rfl (eC rfl rfl eN) rfl rfl rfl ?_) rfl
  refine gaa ?_
  refine oS (S.callQ [_,_] rfl zp1 hr1 (fun r1 h1=>qwant_spec rb T o _ _ _ _ [59] hl hT.pos hw1 r1 h1) fun u8 i8 op8 ln8 er8 hw8 hal8 hr8=>?_) rfl
  refine gaa ?_
  exact retQ (v:=.mk 5 [] [] [e] [] []) rfl (rC (rA (k:=6) rfl zm0 rfl (LV.Sub.agg (bs:=[_,_,.list _,.list _,.list [],.list []]) ⟨LV.Sub.refl _,LV.Sub.refl _,LV.Sub.nil,LV.Sub.refl _,LV.Sub.nil,LV.Sub.nil,trivial⟩)) rN) hw8 hr8 (by rw[encS_mk];rfl) (zhP zp1 zhn)
 rw[andz] at hc3
 rw[if_neg (by rw[hc3];decide)] at hr
 refine gae ?_
 refine oS (S.fnH [_,_] rfl pH (qnext_spec rb T i o 0 0 kwHalt hl) ?_) rfl
 refine gay ?_
 refine oC rfl (fun hc4=>?_) (fun hc4=>?_)
 ·rw[andz] at hc4
  have hlt:=isTok_lt hc4
  rw[if_pos hc4] at hr
  have hr':stO o (i+1) 0 0 (fun i o=>obind (some (sNeed T [59] i o)) fun _ i o=>some (.ok (.mk 7 [] [] [] [] []) i o))=some r:=hr
  have hw':Wf T o (i+1) (o:Int) 0 0:=fun _=>⟨rfl,hlt,rfl,ho⟩
  refine gaa ?_
  refine oS (S.callQ (i:=i+1) (op:=(o:Int)) [_,_] rfl zp1 hr' (fun r1 h1=>qwant_spec rb T o _ _ _ _ [59] hl hT.pos hw' r1 h1) fun u8 i8 op8 ln8 er8 hw8 hal8 hr8=>?_) rfl
  refine gaa ?_
  exact retQ (v:=.mk 7 [] [] [] [] []) rfl (rC (rA (k:=6) rfl zm0 rfl (LV.Sub.agg (bs:=[_,_,.list [],.list [],.list [],.list []]) ⟨LV.Sub.refl _,LV.Sub.refl _,LV.Sub.nil,LV.Sub.nil,LV.Sub.nil,LV.Sub.nil,trivial⟩)) rN) hw8 hr8 (by rw[encS_mk];rfl) (zhP zp1 zhn)
 rw[andz] at hc4
 rw[if_neg (by rw[hc4];decide),obind_assoc] at hr
 have hr':stO o i 0 0 (fun i o=>obind (some (sWord T 2 i o)) fun s i' op'=>obind (if isTok T i' [[40]] then obind (eArgs T g i' op') fun l i' op'=>some (.ok (.mk 6 [] [] [.mk nCall 0 s l] [] []) i' op')
   else if isTok T i' [[91]] then obind (eIndex T g i' op') fun x i' op'=>obind (some (sNeed T [61] i' op')) fun _ i' op'=>obind (eLev T g 0 i' op') fun e i' op'=>some (.ok (.mk 2 s [x] [e] [] []) i' op')
   else obind (some (sNeed T [61] i' op')) fun _ i' op'=>obind (eLev T g 0 i' op') fun e i' op'=>some (.ok (.mk 1 s [] [e] [] []) i' op')) fun s i o=>obind (some (sNeed T [59] i o)) fun _ i o=>some (.ok s i o))=some r:=hr
 refine gae ?_
 refine oS (S.callQ [_] rfl pH hr' (fun r1 h1=>qname_spec rb T o i o 0 0 hl hT.pos hw r1 h1) fun s i1 op1 ln1 er1 hw1 hal1 hr1=>?_) rfl
 refine gaa ?_
 refine oS (S.fnH [_,_] rfl zp1 (qnext_spec rb T i1 op1 ln1 er1 [40] hl) ?_) rfl
 refine gap ?_
 refine oC rfl (fun hq=>?_) (fun hq=>?_)
 ·obtain ⟨he,ht⟩:=Bool.and_eq_true_iff.1 hq
  obtain rfl:=zt he
  obtain ⟨rfl,hi1,rfl,ho1⟩:=hw1 rfl
  have hr2:stO o i1 0 0 (fun i o=>obind (eArgs T g i o) fun l i o=>obind (some (sNeed T [59] i o)) fun _ i o=>some (.ok (.mk 6 [] [] [.mk nCall 0 s l] [] []) i o))=some r:=by
   rw[stO_ok] at hr1 ⊢
   rw[if_pos ht,obind_assoc] at hr1
   exact hr1
  refine gaa ?_
  refine LCode.draw (m:=8) rfl [] ?_
  refine aT 0 rfl rfl (Pure.fieldH rfl) ?_
  refine aT 2 rfl rfl (Pure.mv (lv:=.atom _) rfl) ?_
  refine LAny.late ?_ zhn
  refine LLate.two (i:=1) (j:=3) zk ?_ ?_
  ·refine lH rfl rfl (Pure.loadH (c:=str s) rfl zm0 rfl) ?_
   refine lO 3 (lW rfl (.inl rfl) rfl (S.callQ [_] rfl zp1 hr2 (fun r1 h1=>hA g o i1 r1 hi1 ho1 h1) fun l i2 op2 ln2 er2 hw2 hal2 hr3=>?_))
   refine lO 4 (lH rfl rfl (Pure.bld _ (cs:=[_,_,_,_]) rfl) ?_)
   refine lO 5 (lW rfl (.inl rfl) rfl (S.lit [_] rfl (eC rfl rfl eN) rfl rfl rfl ?_))
   refine lO 6 (lH rfl rfl (Pure.fieldH rfl) ?_)
   refine lO 7 (lW rfl (.inl rfl) rfl (S.store (cs':=[_,_,_,_,_,_]) rfl zp1 rfl rfl rfl rfl rfl ?_))
   refine lD zk ?_
   refine gaa ?_
   refine oS (S.callQ [_,_] rfl zp1 hr3 (fun r1 h1=>qwant_spec rb T o _ _ _ _ [59] hl hT.pos hw2 r1 h1) fun u8 i8 op8 ln8 er8 hw8 hal8 hr8=>?_) rfl
   refine gaa ?_
   exact retQ (v:=.mk 6 [] [] [.mk nCall 0 s l] [] []) rfl (rC (rA (k:=6) rfl zm0 rfl (LV.Sub.agg (bs:=[_,_,.list [],_,.list [],.list []]) ⟨LV.Sub.refl _,LV.Sub.refl _,LV.Sub.nil,LV.Sub.refl _,LV.Sub.nil,LV.Sub.nil,trivial⟩)) rN) hw8 hr8 (by rw[encS_mk];show _=LV.agg [_,_,_,.list [encE (.mk nCall 0 s l)],_,_];rw[encE_mk];rfl) (zhP zp1 zhn)
  ·refine lW rfl (.inl rfl) rfl (S.callQ [_] rfl zp1 hr2 (fun r1 h1=>hA g o i1 r1 hi1 ho1 h1) fun l i2 op2 ln2 er2 hw2 hal2 hr3=>?_)
   refine lO 1 (lH rfl rfl (Pure.loadH (c:=str s) rfl zm1 rfl) ?_)
   refine lO 4 (lH rfl rfl (Pure.bld _ (cs:=[_,_,_,_]) rfl) ?_)
   refine lO 5 (lW rfl (.inl rfl) rfl (S.lit [_] rfl (eC rfl rfl eN) rfl rfl rfl ?_))
   refine lO 6 (lH rfl rfl (Pure.fieldH rfl) ?_)
   refine lO 7 (lW rfl (.inl rfl) rfl (S.store (cs':=[_,_,_,_,_,_]) rfl zp1 rfl rfl rfl rfl rfl ?_))
   refine lD zk ?_
   refine gaa ?_
   refine oS (S.callQ [_,_] rfl zp1 hr3 (fun r1 h1=>qwant_spec rb T o _ _ _ _ [59] hl hT.pos hw2 r1 h1) fun u8 i8 op8 ln8 er8 hw8 hal8 hr8=>?_) rfl
   refine gaa ?_
   exact retQ (v:=.mk 6 [] [] [.mk nCall 0 s l] [] []) rfl (rC (rA (k:=6) rfl zm0 rfl (LV.Sub.agg (bs:=[_,_,.list [],_,.list [],.list []]) ⟨LV.Sub.refl _,LV.Sub.refl _,LV.Sub.nil,LV.Sub.refl _,LV.Sub.nil,LV.Sub.nil,trivial⟩)) rN) hw8 hr8 (by rw[encS_mk];show _=LV.agg [_,_,_,.list [encE (.mk nCall 0 s l)],_,_];rw[encE_mk];rfl) (zhP zp1 zhn)
 refine gaa ?_
 refine oS (S.fnH [_,_] rfl zp1 (qnext_spec rb T i1 op1 ln1 er1 [91] hl) ?_) rfl
 refine gap ?_
 refine oC rfl (fun hx=>?_) (fun hx=>?_)
 ·obtain ⟨he,ht⟩:=Bool.and_eq_true_iff.1 hx
  obtain rfl:=zt he
  obtain ⟨rfl,hi1,rfl,ho1⟩:=hw1 rfl
  rw[stO_ok] at hr1
  rw[if_neg (by rw[tok_excl ht (by decide)];decide),if_pos ht] at hr1
  obtain ⟨q,rfl⟩:∃ q,g=q+1:=by
   cases g with
   |zero=>rw[eIndex] at hr1;cases hr1
   |succ q=>exact ⟨q,rfl⟩
  rw[eIndex] at hr1
  simp only[obind_assoc] at hr1
  have hr2:stO o i1 0 0 (fun i o=>obind (some (sBegin T [91] i o)) fun _ i o=>obind (eLev T q 0 i o) fun x i o=>obind (some (sEnd T [93] i o)) fun _ i o=>obind (some (sNeed T [61] i o)) fun _ i o=>obind (eLev T (q+1) 0 i o) fun e i o=>
   obind (some (sNeed T [59] i o)) fun _ i o=>some (.ok (.mk 2 s [x] [e] [] []) i o))=some r:=hr1
  refine gaa ?_
  refine oS (S.callQ [_,_] rfl zp1 hr2 (fun r1 h1=>qenter_spec rb T o i1 o 0 0 [91] hl hT.pos hw1 r1 h1) fun u i2 op2 ln2 er2 hw2 hal2 hr3=>?_) rfl
  refine gaq ?_
  refine oS (S.callQ [_,_] rfl pH hr3 (fun r1 h1=>hE q 0 (o+1) i2 op2 ln2 er2 r1 zo hw2 h1) fun x i3 op3 ln3 er3 hw3 hal3 hr4=>?_) rfl
  refine oS (S.lit (es:=[encE x]) [_] rfl (eC rfl rfl eN) rfl rfl rfl ?_) rfl
  refine gaa ?_
  refine oS (S.callQ [_,_] rfl zp1 hr4 (fun r1 h1=>qleave_spec rb T o i3 op3 ln3 er3 [93] hl hT.pos hw3 r1 h1) fun u2 i4 op4 ln4 er4 hw4 hal4 hr5=>?_) rfl
  refine gaq ?_
  refine oS (S.callQ [_,_] rfl pH hr5 (fun r1 h1=>qwant_spec rb T o i4 op4 ln4 er4 [61] hl hT.pos hw4 r1 h1) fun u3 i5 op5 ln5 er5 hw5 hal5 hr6=>?_) rfl
  refine gaq ?_
  refine oS (S.callQ [_,_] rfl pH hr6 (fun r1 h1=>hE (q+1) 0 o i5 op5 ln5 er5 r1 zo hw5 h1) fun e i6 op6 ln6 er6 hw6 hal6 hr7=>?_) rfl
  refine oS (S.lit (es:=[encE e]) [_] rfl (eC rfl rfl eN) rfl rfl rfl ?_) rfl
  refine gaa ?_
  refine oS (S.callQ [_,_] rfl zp1 hr7 (fun r1 h1=>qwant_spec rb T o _ _ _ _ [59] hl hT.pos hw6 r1 h1) fun u8 i8 op8 ln8 er8 hw8 hal8 hr8=>?_) rfl
  refine gaa ?_
  exact retQ (v:=.mk 2 s [x] [e] [] []) rfl (rC (rA (k:=6) rfl zm0 rfl (LV.Sub.agg (bs:=[_,_,.list _,.list _,.list [],.list []]) ⟨LV.Sub.refl _,LV.Sub.refl _,LV.Sub.refl _,LV.Sub.refl _,LV.Sub.nil,LV.Sub.nil,trivial⟩)) rN) hw8 hr8 (by rw[encS_mk];rfl) (zhP zp1 zhn)
 have hr2:stO o i1 ln1 er1 (fun i o=>obind (some (sNeed T [61] i o)) fun _ i o=>obind (eLev T g 0 i o) fun e i o=>obind (some (sNeed T [59] i o)) fun _ i o=>some (.ok (.mk 1 s [] [e] [] []) i o))=some r:=by
  by_cases he:er1=0
  ·subst he
   have h1:isTok T i1 [[40]]=false:=by rw[andz] at hq;exact hq
   have h2:isTok T i1 [[91]]=false:=by rw[andz] at hx;exact hx
   rw[stO_ok] at hr1 ⊢
   rw[if_neg (by rw[h1];decide),if_neg (by rw[h2];decide)] at hr1
   simp only[obind_assoc] at hr1
   exact hr1
  ·rw[stO_dead he] at hr1 ⊢
   exact hr1
 refine gax ?_
 refine oS (S.callQ [_,_] rfl pH hr2 (fun r1 h1=>qwant_spec rb T o i1 op1 ln1 er1 [61] hl hT.pos hw1 r1 h1) fun u3 i5 op5 ln5 er5 hw5 hal5 hr6=>?_) rfl
 refine gaq ?_
 refine oS (S.callQ [_,_] rfl pH hr6 (fun r1 h1=>hE g 0 o i5 op5 ln5 er5 r1 zo hw5 h1) fun e i6 op6 ln6 er6 hw6 hal6 hr7=>?_) rfl
 refine oS (S.lit (es:=[encE e]) [_] rfl (eC rfl rfl eN) rfl rfl rfl ?_) rfl
 refine gaa ?_
 refine oS (S.callQ [_,_] rfl zp1 hr7 (fun r1 h1=>qwant_spec rb T o _ _ _ _ [59] hl hT.pos hw6 r1 h1) fun u8 i8 op8 ln8 er8 hw8 hal8 hr8=>?_) rfl
 refine gaa ?_
 exact retQ (v:=.mk 1 s [] [e] [] []) rfl (rC (rA (k:=6) rfl zm0 rfl (LV.Sub.agg (bs:=[_,_,.list _,.list _,.list [],.list []]) ⟨LV.Sub.refl _,LV.Sub.refl _,LV.Sub.nil,LV.Sub.refl _,LV.Sub.nil,LV.Sub.nil,trivial⟩)) rN) hw8 hr8 (by rw[encS_mk];rfl) (zhP zp1 zhn)
theorem qst_all (rb:Nat) (T:List Tok) (hT:RTOK T) (f:Nat):BC B0 w0 rb T f∧SC B0 w0 rb T f∧TC B0 w0 rb T f:=by
 induction f using Nat.strongRecOn with
 |ind f ih=>
  exact ⟨qblock_spec rb T hT f (fun g hg=>(ih g hg).2.1),qstmts_spec rb T hT f (fun g hg=>(ih g hg).2.2),qstmt_spec rb T hT f (fun g hg=>(ih g hg).1)⟩
end
end Go.Proofs.YtcbpcianefpniaaGreatDoor
