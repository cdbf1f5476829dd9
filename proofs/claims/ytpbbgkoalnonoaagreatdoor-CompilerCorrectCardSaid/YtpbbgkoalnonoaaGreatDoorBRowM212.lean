/- Texts joined: ChkW10, ChkW11, InpNodes, InpX3, GlMut, GlClear, GlIntKey, MchOk, MchA, GlIntKey2, MchB. -/
import Derived.Test.YtpbbgkoalnonoaaGreatDoorBRowM24
import Derived.Test.YtpbbgkoalnonoaaGreatDoorBRowM25
import Derived.Test.YtpbbgkoalnonoaaGreatDoorBRowM26
import Derived.Test.YtpbbgkoalnonoaaGreatDoorBRowM27
import Derived.Test.YtpbbgkoalnonoaaGreatDoorBRowM28
import Derived.Test.YtpbbgkoalnonoaaGreatDoorBRowM210
import Derived.Test.YtpbbgkoalnonoaaGreatDoorBRowM211
set_option linter.unusedVariables false
set_option linter.unusedSimpArgs false
set_option maxRecDepth 100000
set_option maxHeartbeats 4000000
namespace Go.Proofs.YtpbbgkoalnonoaaGreatDoor.Chk
open Go.GL Go.RowKit Go.Stele
def encArG (a:Nm×Int):LV:=.agg [str a.1,int .i64 a.2]
def encPrG (vars:List Nm) (arrays:List (Nm×Int)) (fs:List FnD):LV:=.agg [.list (vars.map str),.list (arrays.map encArG),.list (fs.map encFn)]
theorem freshE_zero:∀ (l known:List Nm),freshE known l=0→l.Nodup∧(∀ s∈l,s ∉ known)∧∀ s∈l,isNm s=true
 |[],known,_=>⟨List.nodup_nil,fun s h=>(List.not_mem_nil h).elim,fun s h=>(List.not_mem_nil h).elim⟩
 |s::l,known,h=>by
  rw[freshE] at h
  split at h
  ·cases h
  rename_i h1
  split at h
  ·cases h
  rename_i h2
  obtain ⟨h3,h4,h5⟩:=freshE_zero l _ h
  refine ⟨List.nodup_cons.2 ⟨fun hm=>h4 s hm zMs,h3⟩,?_,?_⟩
  ·intro x hx
   rcases zMi.1 hx with rfl|hx
   ·exact h2
   ·exact fun hk=>h4 x hx (zMo _ hk)
  ·intro x hx
   rcases zMi.1 hx with rfl|hx
   ·simpa using h1
   ·exact h5 x hx
theorem isNm_short {s:Nm} (h:isNm s=true):s.length≤1000:=by
 unfold isNm at h
 simp only[zBa,zDe] at h
 omega
theorem orE_ne {a b:Int} (h:a≠0):orE a b=a:=by
 unfold orE
 exact if_pos h
theorem ndFs_append:∀ a b:List FnD,ndFs (a++b)=ndFs a+ndFs b
 |[],b=>by rw[List.nil_append,ndFs,Nat.zero_add]
 |x::a,b=>by rw[List.cons_append,ndFs,ndFs,ndFs_append a b];omega
theorem errFs_zero {vars arrays later:List Nm}:∀ (l:List FnD) (known:List FSum),errFs vars arrays later known l=0→∀ f∈l,∃ k,errF vars arrays later k f=0
 |[],_,_,f,h=>(List.not_mem_nil h).elim
 |g::l,known,h,f,hf=>by
  rw[errFs,orE_zero] at h
  rcases zMi.1 hf with rfl|hf
  ·exact ⟨known,h.1⟩
  ·exact errFs_zero l _ h.2 f hf
theorem errF_names {vars arrays later:List Nm} {k:List FSum} {f:FnD} (h:errF vars arrays later k f=0):∀ x∈f.params++f.locals,x.length≤1000:=by
 unfold errF at h
 rw[orE_zero] at h
 intro x hx
 exact isNm_short ((freshE_zero _ _ h.1).2.2 x hx)
theorem find_last {l:List FSum} {m:FSum} (hn:(l.map (·.name)).Nodup) (hm:l.getLast? = some m):(l.find? fun g=>decide (g.name=m.name))=some m:=by
 obtain ⟨ys,rfl⟩:=List.getLast?_eq_some_iff.1 hm
 rw[List.find?_append]
 have h1:(ys.find? fun g=>decide (g.name=m.name))=none:=by
  rw[List.find?_eq_none]
  intro g hg
  simp only[zDe]
  intro h2
  rw[zMa] at hn
  exact (List.nodup_append.1 hn).2.2 _ (List.mem_map_of_mem hg) _ (List.mem_map_of_mem (List.mem_singleton_self m)) h2
 rw[h1,Option.none_or,List.find?_cons_of_pos]
 exact decide_eq_true rfl
theorem sumFs_names {vars arrays later:List Nm}:∀ (l:List FnD) (known:List FSum),(sumFs vars arrays later known l).map (·.name)=known.map (·.name)++l.map (·.name)
 |[],known=>by rw[sumFs];simp
 |f::l,known=>by
  rw[sumFs,sumFs_names l]
  simp[sumF]
theorem fresh_step {pre l:List Nm} {s:Nm} {FR:Int} (h:freshE pre (s::l)=FR) (h0:newE pre s=0):freshE (pre++[s]) l=FR:=by
 rw[←h,freshE_cons,h0,freshE_iff l (pre++[s]) (s::pre) (fun x=>by simp[or_comm])]
 try rfl
theorem fresh_bad {pre l:List Nm} {s:Nm} {FR RA E:Int} (hI:orE FR RA=E) (h:freshE pre (s::l)=FR) (h0:newE pre s≠0):E=newE pre s:=by
 rw[←hI,←h,freshE_cons,orE_ne (a:=orE _ _) (by rw[orE_ne h0];exact h0),orE_ne h0]
attribute [local irreducible] LOps LCode LStep LCalls Go.GL.Pure QThen QBlock RetPost LQ LAny LLate LLateOp LS
section
variable {B0:Nat} {w0:World}
theorem program_spec {k:KB} {o:Value} {d:Nat} (vars:List Nm) (arrays:List (Nm×Int)) (fs:List FnD) (hk1:k.G=[]) (hk2:k.V=[]) (hk3:k.A=[]) (hk4:k.F=[]) (hv6:vars.length≤2000000) (ha6:arrays.length≤2000000) (har:∀ a∈arrays,-9223372036854775808≤a.2∧a.2<9223372036854775808) (hnd:ndFs fs≤2000000) :
  LCalls (KC B0 w0) 45 [ptr k.cb 0,encPrG vars arrays fs] (pgH k o d) (PostE (checkP vars arrays fs) (fun H=>H=[])):=by
 have hf6:fs.length≤2000000:=zNt (ndFs_len fs) hnd
 generalize hI:checkP vars arrays fs=E
 unfold checkP at hI
 generalize hFR:freshE [] (vars++arrays.map (·.1)++fs.map (·.name))=FR at hI
 generalize hSZ:sizesE 0 (arrays.map (·.2))=SZ at hI
 generalize hFS:errFs vars (arrays.map (·.1)) (fs.map (·.name)) [] fs=FS at hI
 generalize hSS:sumFs vars (arrays.map (·.1)) (fs.map (·.name)) [] fs=SS at hI
 generalize hMN:mainE vars fs SS=MN at hI
 generalize hRA:orE SZ (orE FS MN)=RA at hI
 refine cI Tryz.func45 rfl (n:=147) rfl rfl rfl ?_
 refine gag ?_
 refine oS (S.box rfl fun b3=>?_) rfl
 refine gac ?_
 refine oL (fun kk ls H'=>∃ (pre l1:List Nm) (G1 V1:KV) (g1 g2:Nat),vars=pre++l1∧kk=l1.length∧ls=[(0,ptr k.cb 0),(3,ptr b3 0),(18,.list (vars.map str)),(19,int .i64 ((vars.map str).length:Int)),(20,iv pre.length)] ∧
   H'=(b3,.cells 26 [.list (vars.map str),.list (arrays.map encArG),.list (fs.map encFn)])::pgH { k with G:=G1,g1:=g1,V:=V1,g2:=g2 } o d∧IsSet G1 pre∧IsSet V1 pre∧freshE pre (l1++arrays.map (·.1)++fs.map (·.name))=FR)
  ⟨_,_,_,⟨[],vars,k.G,k.V,k.g1,k.g2,rfl,rfl,rfl,rfl,by rw[hk1];exact IsSet.nil,by rw[hk2];exact IsSet.nil,hFR⟩,⟨rfl,rfl,rfl,rfl,rfl,trivial⟩,zhR _⟩ ?_
 rintro kk ls H' ⟨pre,l1,G1,V1,g1,g2,hLe,rfl,rfl,rfl,hG1,hV1,hE⟩ j hj
 have hb2:pre.length≤2000000:=by
  have:=congrArg List.length hLe
  rw[zLa] at this
  omega
 refine gal ?_
 refine oC rfl (fun hc=>?_) (fun hc=>?_)
 ·have hlen:=zt hc
  rw[zLm,hLe,zLa] at hlen
  obtain ⟨s,l2,rfl⟩:∃ a l2,l1=a::l2:=by
   cases l1 with
   |nil=>simp at hlen
   |cons a l2=>exact ⟨a,l2,rfl⟩
  rw[List.cons_append,List.cons_append] at hE
  refine gam ?_
  refine oP (xR (el':=str s) (cs:=[str s]) rfl rfl zo (by rw[hLe];exact get_mid str pre s l2) rfl rfl) rfl ?_
  refine gab ?_
  refine oS (S.callE (F:=[_]) [_,_] rfl (Inp.swap1) (global_spec (k:={ k with G:=G1,g1:=g1,V:=V1,g2:=g2 }) (o:=o) (d:=d) hG1 s) (fun H2 h0 hP=>?_) (fun nm h0 e' he'=>?_)) rfl
  rotate_left
  ·refine gae ?_
   exact panE (he'.trans hj) (fresh_bad hI hE h0) h0
  obtain ⟨g1',rfl⟩:=hP
  refine LOps.perm (Inp.swap1 (H:=pgH _ _ _)).symm ?_
  refine gab ?_
  refine oS (S.kvSet (k:=s) (lv:=bool true) rfl rfl rfl zp3 fun g2'=>?_) rfl
  refine gaq ?_
  refine ⟨l2.length,_,_,Nat.lt_succ_self _,⟨pre++[s],l2,GL.kvPut G1 s (bool true),GL.kvPut V1 s (bool true),g1',g2',by rw[hLe];simp,rfl,rfl,rfl,hG1.add s,hV1.add s,fresh_step hE h0⟩,⟨rfl,rfl,rfl,rfl,int_eq (by simp),trivial⟩,?_,hj⟩
  repeat first
   |exact HSub.nil _
   |refine zhP zb2 ?_
 have hlen:=zf hc
 rw[zLm,hLe,zLa] at hlen
 obtain rfl:l1=[]:=by
  cases l1 with
  |nil=>rfl
  |cons a l2=>simp at hlen;omega
 rw[zLz] at hLe
 subst hLe
 rw[List.nil_append] at hE
 clear hlen hc hb2
 refine gac ?_
 refine oL (fun kk ls H'=>∃ (pre l1:List (Nm×Int)) (G1 A1:KV) (g1 g3:Nat),arrays=pre++l1∧kk=l1.length∧ls=[(0,ptr k.cb 0),(3,ptr b3 0),(34,.list (arrays.map encArG)),(35,int .i64 ((arrays.map encArG).length:Int)),(36,iv pre.length)] ∧
   H'=(b3,.cells 26 [.list (vars.map str),.list (arrays.map encArG),.list (fs.map encFn)])::pgH { k with G:=G1,g1:=g1,V:=V1,g2:=g2,A:=A1,g3:=g3 } o d∧IsSet G1 (vars++pre.map (·.1))∧IsSet A1 (pre.map (·.1))∧freshE (vars++pre.map (·.1)) (l1.map (·.1)++fs.map (·.name))=FR)
  ⟨_,_,_,⟨[],arrays,G1,k.A,g1,k.g3,rfl,rfl,rfl,rfl,by simpa using hG1,by rw[hk3];exact IsSet.nil,by simpa using hE⟩,⟨rfl,rfl,rfl,rfl,rfl,trivial⟩,zhR _⟩ ?_
 clear hG1 hE G1 g1
 rintro kk ls H' ⟨pre,l1,G1,A1,g1,g3,hLe,rfl,rfl,rfl,hG1,hA1,hE⟩ j hj2
 have hb2:pre.length≤2000000:=by
  have:=congrArg List.length hLe
  rw[zLa] at this
  omega
 refine gal ?_
 refine oC rfl (fun hc=>?_) (fun hc=>?_)
 ·have hlen:=zt hc
  rw[zLm,hLe,zLa] at hlen
  obtain ⟨s,l2,rfl⟩:∃ a l2,l1=a::l2:=by
   cases l1 with
   |nil=>simp at hlen
   |cons a l2=>exact ⟨a,l2,rfl⟩
  rw[zMc,List.cons_append] at hE
  refine gam ?_
  refine oP (xR (el':=encArG s) (cs:=[str s.1,int .i64 s.2]) rfl rfl zo (by rw[hLe];exact get_mid encArG pre s l2) rfl rfl) rfl ?_
  refine gad ?_
  refine oS (sA fun b7=>?_) rfl
  refine gac ?_
  refine oS (S.callE (F:=[_,_]) [_,_] rfl (List.perm_append_comm (l₁:=[_,_])) (global_spec (k:={ k with G:=G1,g1:=g1,V:=V1,g2:=g2,A:=A1,g3:=g3 }) (o:=o) (d:=d) hG1 s.1) (fun H2 h0 hP=>?_) (fun nm h0 e' he'=>?_)) rfl
  rotate_left
  ·refine gae ?_
   exact panE (he'.trans (hj2.trans hj)) (fresh_bad hI hE h0) h0
  obtain ⟨g1',rfl⟩:=hP
  refine LOps.weak (H':=[(b7,.cells 56 [str s.1,int .i64 s.2]),(k.cb,.cells 113 [.atom (.map (some k.gm)),.atom (.map (some k.vm)),.atom (.map (some k.am)),.atom (.map (some k.fm)),str k.name,.atom o,int .i64 (d:Int)]),(b3,.cells 26 [.list (vars.map str),.list (arrays.map encArG),.list (fs.map encFn)]),
   (k.gm,.map (kvs (GL.kvPut G1 s.1 (bool true))) g1'),(k.vm,.map (kvs V1) g2),(k.am,.map (kvs A1) g3),(k.fm,.map (kvs k.F) k.g4)]) ?_ ?_
  ·repeat first
    |exact HSub.nil _
    |refine zhP zb2 ?_
  refine gap ?_
  refine LCode.draw (m:=7) rfl [(b7,.cells 56 [str s.1,int .i64 s.2]),(k.cb,.cells 113 [.atom (.map (some k.gm)),.atom (.map (some k.vm)),.atom (.map (some k.am)),.atom (.map (some k.fm)),str k.name,.atom o,int .i64 (d:Int)])] ?_
  refine aT 0 rfl rfl (pM (lv:=.atom _) rfl) ?_
  refine aT 1 rfl rfl (pN rfl) ?_
  refine aT 2 rfl rfl (pF rfl) ?_
  refine aT 3 rfl rfl (pL (c:=.atom _) rfl zm1 rfl) ?_
  refine aT 4 rfl rfl (pF rfl) ?_
  refine aT 5 rfl rfl (pL (c:=.atom _) rfl zm0 rfl) ?_
  refine LAny.late ?_ (zhP pH zhp)
  refine lO 6 (lS (H1:=[(k.am,.map (kvs A1) g3)]) rfl (.inl rfl) rfl (show Pick _ _ _ from pT zp4) (zhP pH zhp) (S.kvSet (k:=s.1) (lv:=bool true) rfl rfl rfl pH fun g3'=>?_))
  refine lD zk ?_
  refine gaq ?_
  refine ⟨l2.length,_,_,Nat.lt_succ_self _,⟨pre++[s],l2,GL.kvPut G1 s.1 (bool true),GL.kvPut A1 s.1 (bool true),g1',g3',by rw[hLe];simp,rfl,rfl,rfl,by simpa using hG1.add s.1,by simpa using hA1.add s.1,by simpa using fresh_step hE h0⟩,⟨rfl,rfl,rfl,rfl,int_eq (by simp),trivial⟩,?_,hj2⟩
  repeat first
   |exact HSub.nil _
   |refine zhP zb2 ?_
 have hlen:=zf hc
 rw[zLm,hLe,zLa] at hlen
 obtain rfl:l1=[]:=by
  cases l1 with
  |nil=>rfl
  |cons a l2=>simp at hlen;omega
 rw[zLz] at hLe
 subst hLe
 rw[List.map_nil,List.nil_append] at hE
 clear hlen hc hb2
 refine gac ?_
 refine oL (fun kk ls H'=>∃ (pre l1:List FnD) (G1:KV) (g1:Nat),fs=pre++l1∧kk=l1.length∧ls=[(0,ptr k.cb 0),(3,ptr b3 0),(52,.list (fs.map encFn)),(53,int .i64 ((fs.map encFn).length:Int)),(54,iv pre.length)] ∧
   H'=(b3,.cells 26 [.list (vars.map str),.list (arrays.map encArG),.list (fs.map encFn)])::pgH { k with G:=G1,g1:=g1,V:=V1,g2:=g2,A:=A1,g3:=g3 } o d∧IsSet G1 (vars++arrays.map (·.1)++pre.map (·.name))∧freshE (vars++arrays.map (·.1)++pre.map (·.name)) (l1.map (·.name))=FR)
  ⟨_,_,_,⟨[],fs,G1,g1,rfl,rfl,rfl,rfl,by simpa using hG1,by simpa using hE⟩,⟨rfl,rfl,rfl,rfl,rfl,trivial⟩,zhR _⟩ ?_
 clear hG1 hE G1 g1
 rintro kk ls H' ⟨pre,l1,G1,g1,hLe,rfl,rfl,rfl,hG1,hE⟩ j hj3
 have hb2:pre.length≤2000000:=by
  have:=congrArg List.length hLe
  rw[zLa] at this
  omega
 refine gal ?_
 refine oC rfl (fun hc=>?_) (fun hc=>?_)
 ·have hlen:=zt hc
  rw[zLm,hLe,zLa] at hlen
  obtain ⟨s,l2,rfl⟩:∃ a l2,l1=a::l2:=by
   cases l1 with
   |nil=>simp at hlen
   |cons a l2=>exact ⟨a,l2,rfl⟩
  rw[zMc] at hE
  refine gam ?_
  refine oP (xR (el':=encFn s) (cs:=[_,_,_,_]) rfl rfl zo (by rw[hLe];exact get_mid encFn pre s l2) rfl rfl) rfl ?_
  refine gat ?_
  refine oS (sA fun b7=>?_) rfl
  refine gac ?_
  refine oS (S.callE (F:=[_,_]) [_,_] rfl (List.perm_append_comm (l₁:=[_,_])) (global_spec (k:={ k with G:=G1,g1:=g1,V:=V1,g2:=g2,A:=A1,g3:=g3 }) (o:=o) (d:=d) hG1 s.name) (fun H2 h0 hP=>?_) (fun nm h0 e' he'=>?_)) rfl
  rotate_left
  ·refine gae ?_
   exact panE (he'.trans (hj3.trans (hj2.trans hj))) (fresh_bad hI hE h0) h0
  obtain ⟨g1',rfl⟩:=hP
  refine LOps.perm (List.perm_append_comm (l₂:=[_,_])) ?_
  refine gaq ?_
  refine ⟨l2.length,_,_,Nat.lt_succ_self _,⟨pre++[s],l2,GL.kvPut G1 s.name (bool true),g1',by rw[hLe];simp,rfl,rfl,rfl,by simpa using hG1.add s.name,by simpa using fresh_step hE h0⟩,⟨rfl,rfl,rfl,rfl,int_eq (by simp),trivial⟩,zhD zhr,hj3⟩
 have hlen:=zf hc
 rw[zLm,hLe,zLa] at hlen
 obtain rfl:l1=[]:=by
  cases l1 with
  |nil=>rfl
  |cons a l2=>simp at hlen;omega
 rw[zLz] at hLe
 subst hLe
 have hFR0:FR=0:=hE.symm
 clear hlen hc hb2 hE
 rw[hFR0] at hI
 have hnod:=(freshE_zero _ _ (hFR.trans hFR0)).1
 have hnmok:=(freshE_zero _ _ (hFR.trans hFR0)).2.2
 have hI1:RA=E:=by rw[←hI];try rfl
 rw[←hRA] at hI1
 clear hI hRA hFR
 have hPr:0≤(0:Int)∧(0:Int)≤150000:=⟨by decide,by decide⟩
 refine gac ?_
 refine oL (fun kk ls H'=>∃ (pre l1:List (Nm×Int)) (T:Int),arrays=pre++l1∧kk=l1.length∧ls=[(0,ptr k.cb 0),(3,ptr b3 0),(10,int .i64 T),(64,.list (arrays.map encArG)),(65,int .i64 ((arrays.map encArG).length:Int)),(66,iv pre.length)] ∧
   H'=(b3,.cells 26 [.list (vars.map str),.list (arrays.map encArG),.list (fs.map encFn)])::pgH { k with G:=G1,g1:=g1,V:=V1,g2:=g2,A:=A1,g3:=g3 } o d∧(0≤T∧T≤150000)∧sizesE T (l1.map (·.2))=SZ)
  ⟨_,_,_,⟨[],arrays,0,rfl,rfl,rfl,rfl,hPr,hSZ⟩,⟨rfl,rfl,rfl,rfl,rfl,rfl,trivial⟩,zhR _⟩ ?_
 clear hSZ
 rintro kk ls H' ⟨pre,l1,T,hLe,rfl,rfl,rfl,⟨hT1,hT2⟩,hE⟩ j hj4
 have hb2:pre.length≤2000000:=by
  have:=congrArg List.length hLe
  rw[zLa] at this
  omega
 refine gal ?_
 refine oC rfl (fun hc=>?_) (fun hc=>?_)
 ·have hlen:=zt hc
  rw[zLm,hLe,zLa] at hlen
  obtain ⟨s,l2,rfl⟩:∃ a l2,l1=a::l2:=by
   cases l1 with
   |nil=>simp at hlen
   |cons a l2=>exact ⟨a,l2,rfl⟩
  obtain ⟨hs1,hs2⟩:=har s (by rw[hLe];exact List.mem_append_right _ zMs)
  rw[zMc,sizesE] at hE
  refine gam ?_
  refine oP (xR (el':=encArG s) (cs:=[str s.1,int .i64 s.2]) rfl rfl zo (by rw[hLe];exact get_mid encArG pre s l2) rfl rfl) rfl ?_
  refine gad ?_
  refine oS (sA fun b7=>?_) rfl
  refine gac ?_
  refine oB 72 rfl (fun h1=>?_) (fun h1=>?_)
  rotate_left
  ·have h2:s.2≤0:=by have:=zf h1;omega
   rw[if_pos h2] at hE
   refine oS (S.callK (H1:=[]) (F:=_) [_,_,_] rfl zpr (req_spec false s.1 2 zDd) (fun h=>absurd h zDd) (fun nm _ e' he'=>?_)) rfl
   refine gae ?_
   exact panE (he'.trans (hj4.trans (hj3.trans (hj2.trans hj)))) (by rw[←hI1,←hE];try rfl) zDd
  have h2:¬ s.2≤0:=by have:=zt h1;omega
  rw[if_neg h2] at hE
  refine oS (S.callK (H1:=[]) (F:=_) [_,_,_] rfl zpr (req_spec true s.1 2 zDd) (fun _=>?_) (fun nm h=>absurd rfl h)) rfl
  refine gac ?_
  refine oB 80 rfl (fun h3=>?_) (fun h3=>?_)
  rotate_left
  ·have h4:150000-T<s.2:=by have:=zf h3;omega
   rw[if_pos h4] at hE
   refine oS (S.callK (H1:=[]) (F:=_) [_,_,_] rfl zpr (req_spec false s.1 6 zDd) (fun h=>absurd h zDd) (fun nm _ e' he'=>?_)) rfl
   refine gae ?_
   exact panE (he'.trans (hj4.trans (hj3.trans (hj2.trans hj)))) (by rw[←hI1,←hE];try rfl) zDd
  have h4:¬ 150000-T<s.2:=by have:=zt h3;omega
  rw[if_neg h4] at hE
  refine oS (S.callK (H1:=[]) (F:=_) [_,_,_] rfl zpr (req_spec true s.1 6 zDd) (fun _=>?_) (fun nm h=>absurd rfl h)) rfl
  refine gab ?_
  exact ⟨l2.length,_,_,Nat.lt_succ_self _,⟨pre++[s],l2,T+s.2,by rw[hLe];simp,rfl,rfl,rfl,⟨by omega,by omega⟩,hE⟩,⟨rfl,rfl,rfl,rfl,rfl,int_eq (by simp),trivial⟩,zhD zhr,hj4⟩
 have hlen:=zf hc
 rw[zLm,hLe,zLa] at hlen
 obtain rfl:l1=[]:=by
  cases l1 with
  |nil=>rfl
  |cons a l2=>simp at hlen;omega
 have hSZ0:SZ=0:=by rw[←hE];try rfl
 rw[hSZ0] at hI1
 have hI2:orE FS MN=E:=by rw[←hI1];try rfl
 clear hI1 hlen hc hb2 hLe hE
 have hnf:(fs.map (·.name)).Nodup:=(List.nodup_append.1 hnod).2.1
 have hds:j.ds=[]:=hj4.trans (hj3.trans (hj2.trans hj))
 clear hj hj2 hj3 hj4
 refine gac ?_
 refine oL (fun kk ls H'=>∃ (pre l1:List FnD) (known:List FSum) (F1:KV) (g4:Nat) (nm:Nm) (o1:Value) (d1:Nat),fs=pre++l1∧kk=l1.length∧ls=[(0,ptr k.cb 0),(3,ptr b3 0),(90,.list (fs.map encFn)),(91,int .i64 ((fs.map encFn).length:Int)),(92,iv pre.length)] ∧
   H'=(b3,.cells 26 [.list (vars.map str),.list (arrays.map encArG),.list (fs.map encFn)])::pgH { k with name:=nm,G:=G1,g1:=g1,V:=V1,g2:=g2,A:=A1,g3:=g3,F:=F1,g4:=g4 } o1 d1∧(∀ n,GL.kvGet F1 n=(known.find? fun g=>decide (g.name=n)).map encSum)∧known.map (·.name)=pre.map (·.name) ∧
   errFs vars (arrays.map (·.1)) (fs.map (·.name)) known l1=FS∧sumFs vars (arrays.map (·.1)) (fs.map (·.name)) known l1=SS∧KnB (8 * ndFs pre) pre.length known)
  ⟨_,_,_,⟨[],fs,[],k.F,k.g4,k.name,o,d,rfl,rfl,rfl,rfl,fun n=>by rw[hk4];try rfl,rfl,hFS,hSS,fun x hx=>(List.not_mem_nil hx).elim⟩,⟨rfl,rfl,rfl,rfl,rfl,trivial⟩,zhR _⟩ ?_
 rintro kk ls H' ⟨pre,l1,known,F1,g4,nm,o1,d1,hLe,rfl,rfl,rfl,hF,hkn,hE,hS,hB⟩ j2 hj2
 have hb2:pre.length≤2000000:=by
  have:=congrArg List.length hLe
  rw[zLa] at this
  omega
 refine gal ?_
 refine oC rfl (fun hc=>?_) (fun hc=>?_)
 ·have hlen:=zt hc
  rw[zLm,hLe,zLa] at hlen
  obtain ⟨s,l2,rfl⟩:∃ a l2,l1=a::l2:=by
   cases l1 with
   |nil=>simp at hlen
   |cons a l2=>exact ⟨a,l2,rfl⟩
  have hsz:ndFs pre+ndF s≤2000000:=by
   have:=hnd
   rw[hLe,ndFs_append,ndFs] at this
   omega
  have hnew:s.name ∉ known.map (·.name):=by
   rw[hkn]
   have:=hnf
   rw[hLe,zMa,zMc] at this
   intro hm
   exact (List.nodup_append.1 this).2.2 _ hm _ zMs rfl
  rw[errFs] at hE
  rw[sumFs] at hS
  refine gam ?_
  refine oP (xR (el':=encFn s) (cs:=[_,_,_,_]) rfl rfl zo (by rw[hLe];exact get_mid encFn pre s l2) rfl rfl) rfl ?_
  refine gat ?_
  refine oS (sA fun b7=>?_) rfl
  refine gac ?_
  refine oS (S.callE (F:=[_,_]) [_,_] rfl (List.perm_append_comm (l₁:=[_,_])) (function_spec (vars:=vars) (arrays:=arrays.map (·.1)) (later:=fs.map (·.name)) (known:=known) (k:={ k with name:=nm,G:=G1,g1:=g1,V:=V1,g2:=g2,A:=A1,g3:=g3,F:=F1,g4:=g4 }) (o:=o1) (d:=d1) s hG1 hV1 hA1 hF hnew hB zo zo zo) (fun H2 h0 hP=>?_) (fun nm h0 e' he'=>?_)) rfl
  rotate_left
  ·refine gae ?_
   exact panE (he'.trans (hj2.trans hds)) (by rw[←hI2,←hE,orE_ne (a:=orE _ _) (by rw[orE_ne h0];exact h0),orE_ne h0]) h0
  obtain ⟨nm',o',d',F',g4',hF',rfl⟩:=hP
  refine LOps.perm (List.perm_append_comm (l₂:=[_,_])) ?_
  refine gaq ?_
  refine ⟨l2.length,_,_,Nat.lt_succ_self _,⟨pre++[s],l2,known++[sumF vars (arrays.map (·.1)) (fs.map (·.name)) known s],F',g4',nm',o',d',by rw[hLe];simp,rfl,rfl,rfl,hF',?_,by rw[←hE,h0];try rfl,hS,?_⟩,⟨rfl,rfl,rfl,rfl,int_eq (by simp),trivial⟩,zhD zhr,hj2⟩
  ·rw[zMa,zMa,hkn]
   try rfl
  ·have h1:=sumF_le (vars:=vars) (arrays:=arrays.map (·.1)) (later:=fs.map (·.name)) (f:=s) hB
   have h2:ndFs (pre++[s])=ndFs pre+ndF s:=by rw[ndFs_append,ndFs,ndFs];try rfl
   intro g hg
   rw[h2,zLa,List.length_singleton]
   rcases List.mem_append.1 hg with hg|hg
   ·obtain ⟨a1,a2,a3⟩:=hB g hg
    exact ⟨by omega,by omega,by omega⟩
   ·obtain rfl:=List.mem_singleton.1 hg
    obtain ⟨a1,a2,a3⟩:=h1
    exact ⟨by omega,by omega,by omega⟩
 have hlen:=zf hc
 rw[zLm,hLe,zLa] at hlen
 obtain rfl:l1=[]:=by
  cases l1 with
  |nil=>rfl
  |cons a l2=>simp at hlen;omega
 have hFS0:FS=0:=by rw[←hE];try rfl
 have hknS:known=SS:=by rw[←hS];try rfl
 rw[hFS0] at hI2
 have hI3:MN=E:=by rw[←hI2];try rfl
 clear hlen hc hb2 hLe hE
 subst hknS
 have hall:=errFs_zero fs [] (hFS.trans hFS0)
 have hnn:∀ f∈fs,f.name.length≤1000∧∀ x∈f.params++f.locals,x.length≤1000:=fun f hf=>by
  obtain ⟨kk,hk⟩:=hall f hf
  exact ⟨isNm_short (hnmok f.name (List.mem_append_right _ (List.mem_map_of_mem hf))),errF_names hk⟩
 have hsm:∀ f∈fs,SmF f:=fun f hf=>smF_of (zNt (ndFs_mem hf) hnd)
 have hds2:=hj2.trans hds
 unfold mainE at hMN
 refine gac ?_
 cases hfl:fs.getLast? with
 |none=>
  have hf0:fs=[]:=List.getLast?_eq_none_iff.1 hfl
  rw[hfl] at hMN
  refine oB 105 rfl (fun h=>absurd (zt h) (by rw[hf0];decide)) (fun _=>?_)
  refine gaa ?_
  refine oS (S.callK (H1:=[]) (F:=_) [_,_,_] rfl zpr (req_spec false [109,97,105,110] 9 zDd) (fun h=>absurd h zDd) (fun nm _ e' he'=>?_)) rfl
  refine gah ?_
  exact panE (he'.trans hds2) (hI3.symm.trans hMN.symm) zDd
 |some f=>
  obtain ⟨ys,hys⟩:=List.getLast?_eq_some_iff.1 hfl
  have hln:(fs.map encFn).length=ys.length+1:=by rw[zLm,hys,zLa];try rfl
  have hl6:(fs.map encFn).length≤2000000:=by rw[zLm];exact hf6
  have hn0:(0:Int)≤((fs.map encFn).length:Int)-1:=by omega
  have hget:(fs.map encFn)[(((fs.map encFn).length:Int)-1).toNat]? = some (encFn f):=by
   rw[show (((fs.map encFn).length:Int)-1).toNat=ys.length by omega,hys,zMa]
   rw[List.getElem?_append_right (by rw[zLm];exact zNr _),zLm,Nat.sub_self]
   try rfl
  have hnms:known.map (·.name)=fs.map (·.name):=by
   rw[←hSS,sumFs_names]
   try rfl
  obtain ⟨m,hm⟩:∃ m,known.getLast? = some m:=by
   cases hx:known.getLast? with
   |some m=>exact ⟨m,rfl⟩
   |none=>
    rw[List.getLast?_eq_none_iff.1 hx,hys] at hnms
    simp at hnms
  have hmf:m.name=f.name:=by
   have h1:=congrArg List.getLast? hnms
   rw[List.getLast?_map,List.getLast?_map,hm,hfl] at h1
   exact Option.some.inj h1
  have hfind:=find_last (by rw[hnms];exact hnf) hm
  rw[hfl,hm] at hMN
  replace hMN:(if f.name=[109,97,105,110]∧f.params=[] then (if (scalarsP vars fs).length≤8000∧m.need≤200∧m.depth≤60 then 0 else 6) else 9)=MN:=hMN
  rw[hI3] at hMN
  refine oB 105 rfl (fun _=>?_) (fun h=>absurd (show ((fs.map encFn).length:Int) > 0 by omega) (zf h))
  refine gad ?_
  first|refine LOps.want rfl rfl ?_|skip
  refine oP (xR (el':=encFn f) (n:=((fs.map encFn).length:Int)-1) (cs:=[str f.name,.list (f.params.map str),.list (f.locals.map str),.list (f.body.map encS)]) rfl rfl hn0 hget rfl rfl) rfl ?_
  refine gad ?_
  refine oB 115 rfl (fun h1=>?_) (fun h1=>?_)
  rotate_left
  ·rw[if_neg (fun h=>zf h1 h.1)] at hMN
   refine gaa ?_
   refine oS (S.callK (H1:=[]) (F:=_) [_,_,_] rfl zpr (req_spec false [109,97,105,110] 9 zDd) (fun h=>absurd h zDd) (fun nm _ e' he'=>?_)) rfl
   refine gah ?_
   exact panE (he'.trans hds2) hMN.symm zDd
  have hmain:f.name=[109,97,105,110]:=zt h1
  refine gad ?_
  first|refine LOps.want rfl rfl ?_|skip
  refine oP (xR (el':=encFn f) (n:=((fs.map encFn).length:Int)-1) (cs:=[str f.name,.list (f.params.map str),.list (f.locals.map str),.list (f.body.map encS)]) rfl rfl hn0 hget rfl rfl) rfl ?_
  refine gad ?_
  refine oB 125 rfl (fun h2=>?_) (fun h2=>?_)
  rotate_left
  ·rw[if_neg (fun h=>zf h2 (by rw[h.2];try rfl))] at hMN
   refine oS (S.callK (H1:=[]) (F:=_) [_,_,_] rfl zpr (req_spec false [109,97,105,110] 9 zDd) (fun h=>absurd h zDd) (fun nm _ e' he'=>?_)) rfl
   refine gah ?_
   exact panE (he'.trans hds2) hMN.symm zDd
  have hpar:f.params=[]:=by
   have h3:=zt h2
   rw[zLm] at h3
   exact List.length_eq_zero_iff.1 zo
  rw[if_pos ⟨hmain,hpar⟩] at hMN
  refine oS (S.callK (H1:=[]) (F:=_) [_,_,_] rfl zpr (req_spec true [109,97,105,110] 9 zDd) (fun _=>?_) (fun nm h=>absurd rfl h)) rfl
  have hgF:GL.kvGet F1 [109,97,105,110]=some (encSum m):=by
   rw[hF,←hmain,←hmf,hfind]
   try rfl
  refine gab ?_
  refine oP (Pure.kvHit rfl rfl zm5 hgF) rfl ?_
  refine oS (sA fun b16=>?_) rfl
  refine gaj ?_
  refine oS (sF [_] rfl (scalars_specG (.list (arrays.map encArG)) hv6 hf6 hsm hnn) ?_) rfl
  refine gad ?_
  refine oB 136 rfl (fun h3=>?_) (fun h3=>?_)
  rotate_left
  ·have hbad:¬ ((scalarsP vars fs).length≤8000∧m.need≤200∧m.depth≤60):=fun h=>zf h3 (by rw[zLm];have:=h.1;omega)
   rw[if_neg hbad] at hMN
   refine gaa ?_
   refine oS (S.callK (H1:=[]) (F:=_) [_,_,_] rfl zpr (req_spec false [109,97,105,110] 6 zDd) (fun h=>absurd h zDd) (fun nm _ e' he'=>?_)) rfl
   exact panE (he'.trans hds2) hMN.symm zDd
  have h3':(scalarsP vars fs).length≤8000:=by
   have:=zt h3
   rw[zLm] at this
   omega
  refine gad ?_
  refine oB 141 rfl (fun h4=>?_) (fun h4=>?_)
  rotate_left
  ·have hbad:¬ ((scalarsP vars fs).length≤8000∧m.need≤200∧m.depth≤60):=fun h=>zf h4 (by have:=h.2.1;omega)
   rw[if_neg hbad] at hMN
   refine gaa ?_
   refine oS (S.callK (H1:=[]) (F:=_) [_,_,_] rfl zpr (req_spec false [109,97,105,110] 6 zDd) (fun h=>absurd h zDd) (fun nm _ e' he'=>?_)) rfl
   exact panE (he'.trans hds2) hMN.symm zDd
  have h4':m.need≤200:=by
   have:=zt h4
   omega
  refine gad ?_
  refine oB 145 rfl (fun h5=>?_) (fun h5=>?_)
  rotate_left
  ·have hbad:¬ ((scalarsP vars fs).length≤8000∧m.need≤200∧m.depth≤60):=fun h=>zf h5 (by have:=h.2.2;omega)
   rw[if_neg hbad] at hMN
   refine oS (S.callK (H1:=[]) (F:=_) [_,_,_] rfl zpr (req_spec false [109,97,105,110] 6 zDd) (fun h=>absurd h zDd) (fun nm _ e' he'=>?_)) rfl
   exact panE (he'.trans hds2) hMN.symm zDd
  have h5':m.depth≤60:=by
   have:=zt h5
   omega
  rw[if_pos ⟨h3',h4',h5'⟩] at hMN
  refine oS (S.callK (H1:=[]) (F:=_) [_,_,_] rfl zpr (req_spec true [109,97,105,110] 6 zDd) (fun _=>?_) (fun nm h=>absurd rfl h)) rfl
  refine gap ?_
  exact retEn hds2 rN hMN.symm rfl zhn rfl
end
end Go.Proofs.YtpbbgkoalnonoaaGreatDoor.Chk
namespace Go.Proofs.YtpbbgkoalnonoaaGreatDoor.Chk
open Go.GL Go.RowKit Go.Stele
section
variable {C:Ctx} {e:Env} {H:Heap} {dst:Option Nat} {ty:TypeId} {pos:String} {aft:Array Edge} {g:Option (Nat×Bool)} {x:Operand}
theorem Pure.assertNil {t xT:TypeId} [ht:TConcrete C.P t] {zs:List Value} (hz:∀ w,(zeroValue t).run C.P w=.ok (.agg zs.toArray) w) (hx:e.ev x=.atom .nilIface):Go.GL.Pure C ⟨dst,.typeAssert x xT t true,ty,pos,aft,g⟩ e H (.tuple [.agg (zs.map .atom),bool false]):=
 .of_any fun ρ w L h=>⟨.tuple #[.agg zs.toArray,.bool false],by
  simp only[Rep]
  exact ⟨[.agg zs.toArray,.bool false],rfl,by simp only[RepL,Rep];exact ⟨_,_,rfl,⟨zs,rfl,repL_atoms zs⟩,_,_,rfl,rfl,rfl⟩⟩,fun w'=>by
  obtain ⟨d,hd,hm⟩:=ht.out
  have h3:execOp ρ ⟨dst,.typeAssert x xT t true,ty,pos,aft,g⟩=(do Pure.pure (.value (←Instr.typeAssert (ρ x) xT t true))):=rfl
  rw[h3,atom_of h hx]
  simp only[Instr.typeAssert,Sem.run_bind,run_underlying' hd,Result.andThen_ok]
  cases d <;> simp_all [Sem.run_bind]⟩
end
theorem vio_zero (w:World):(zeroValue 107).run Tryz.prog w=.ok (.agg [.string ⟨#[]⟩,.int .i64 0].toArray) w:=
 (Go.zero_of_info (P:=Tryz.prog) (n:=2) zk).1 w
attribute [local irreducible] LOps LCode LStep LCalls Go.GL.Pure QThen QBlock RetPost LQ LAny LLate LLateOp LS LOpsP LCodeP LCodeS LCallsD
section
variable {B0:Nat} {w0:World}
theorem crec_ret (b2 b3:Nat) (c d:LV):LCallsD (KC B0 w0) 44 [ptr b2 0,ptr b3 0] .returning [(b2,.cells 9 [c]),(b3,.cells 31 [d])]
  (fun u H=>u=.returning∧H=[(b2,.cells 9 [c]),(b3,.cells 31 [d])]):=by
 refine LCallsD.intro Tryz.func44 rfl (n:=19) rfl rfl rfl ?_
 refine LCodeS.seq (LCodeS.recover rfl rfl ?_)
 refine LCodeS.of ?_
 refine gaf ?_
 refine oP (Pure.assertNil vio_zero rfl) rfl ?_
 refine gad ?_
 refine oS (sA fun b5=>?_) rfl
 refine gac ?_
 refine oC rfl (fun hc=>?_) (fun hc=>?_)
 ·cases hc
 refine gac ?_
 refine oC rfl (fun hc=>?_) (fun hc=>?_)
 ·cases hc
 ·refine gaa ?_
  exact ⟨rfl,_,zhD zhr,rfl,rfl⟩
theorem crec_pan (b2 b3:Nat) (c d:LV) (nm:List UInt8) (er:Int):LCallsD (KC B0 w0) 44 [ptr b2 0,ptr b3 0] (.panicking (vio nm er)) [(b2,.cells 9 [c]),(b3,.cells 31 [d])]
  (fun u H=>settle u=.returning∧H=[(b2,.cells 9 [str nm]),(b3,.cells 31 [int .i64 er])]):=by
 refine LCallsD.intro Tryz.func44 rfl (n:=19) rfl rfl rfl ?_
 refine LCodeS.seq (LCodeS.recover rfl rfl ?_)
 refine LCodeS.of ?_
 refine gaf ?_
 refine oP (Pure.assertOk (vs:=[.string ⟨nm.toArray⟩,.int .i64 er]) rfl) rfl ?_
 refine gad ?_
 refine oS (sA fun b5=>?_) rfl
 refine gac ?_
 refine oC rfl (fun hc=>?_) (fun hc=>?_)
 ·skip
  refine LCode.draw (m:=6) rfl [(b5,.cells 107 [str nm,int .i64 er])] ?_
  refine aT 0 rfl rfl (pF rfl) ?_
  refine aT 1 rfl rfl (pL (c:=.atom _) rfl zm0 rfl) ?_
  refine aT 2 rfl rfl (pF rfl) ?_
  refine aT 3 rfl rfl (pL (c:=.atom _) rfl zm0 rfl) ?_
  refine LAny.late ?_ zhp
  refine lO 4 (lS (H1:=[(b2,.cells 9 [c])]) (F:=[(b5,.cells 107 [str nm,int .i64 er]),(b3,.cells 31 [d])]) rfl (.inl rfl) rfl zp1 zhp (sS (cs':=[_]) rfl pH rfl rfl rfl rfl rfl ?_))
  refine lO 5 (lS (H1:=[(b3,.cells 31 [d])]) (F:=[(b2,.cells 9 [str nm]),(b5,.cells 107 [str nm,int .i64 er])]) rfl (.inl rfl) rfl zp2 (zhP zp1 zhn) (sS (cs':=[_]) rfl pH rfl rfl rfl rfl rfl ?_))
  refine lD zk ?_
  exact ⟨rfl,_,zhP zp1 zhp,rfl,rfl⟩
 ·cases hc
theorem check_spec (vars:List Nm) (arrays:List (Nm×Int)) (fs:List FnD) (hv6:vars.length≤2000000) (ha6:arrays.length≤2000000) (har:∀ a∈arrays,-9223372036854775808≤a.2∧a.2<9223372036854775808) (hnd:ndFs fs≤2000000) :
  LCalls (KC B0 w0) 24 [encPrG vars arrays fs] [] (fun r H=>H=[]∧∃ nm,r=.ret (.tuple [str nm,int .i64 (checkP vars arrays fs)])):=by
 generalize hE:checkP vars arrays fs=E
 refine LCalls.introD Tryz.func24 rfl (n:=15) rfl rfl rfl ?_
 refine LCodeP.seq (LCodeP.of ?_)
 refine gag ?_
 refine oS (S.box rfl fun b1=>?_) rfl
 refine oS (sA fun b2=>?_) rfl
 refine oS (sA fun b3=>?_) rfl
 refine gap ?_
 refine LCodeP.seq (LCodeP.region ?_)
 refine gad ?_
 refine LOpsP.defer rfl rfl ?_
 refine LOpsP.nil ?_
 refine qN ?_
 refine LCodeP.seq (LCodeP.of ?_)
 refine gag ?_
 refine oS (S.kvNew fun gm=>?_) rfl
 refine oS (S.kvNew fun vm=>?_) rfl
 refine oS (S.kvNew fun am=>?_) rfl
 refine oS (S.kvNew fun fm=>?_) rfl
 refine gad ?_
 refine oS (S.box rfl fun cb=>?_) rfl
 refine LOps.weak (H':=pgH ⟨cb,gm,vm,am,fm,0,[],[],[],[],[],0,0,0,0,0,[]⟩ (.map none) 0++[(b3,.cells 31 [int .i64 0]),(b2,.cells 9 [str []]),(b1,.cells 26 [.list (vars.map str),.list (arrays.map encArG),.list (fs.map encFn)])]) ?_ ?_
 ·repeat first
   |exact HSub.nil _
   |refine zhP zb2 ?_
 refine gau ?_
 refine LCodeP.seq (LCodeP.region ?_)
 refine gad ?_
 refine LOpsP.step (S.callE (F:=[_,_,_]) [_,_] rfl zpr (program_spec (k:=⟨cb,gm,vm,am,fm,0,[],[],[],[],[],0,0,0,0,0,[]⟩) (o:=.map none) (d:=0) vars arrays fs rfl rfl rfl rfl hv6 ha6 har hnd) (fun H2 h0 hP=>?_) (fun nm h0=>?_)) rfl
 ·subst hP
  rw[hE] at h0
  subst h0
  refine LOpsP.nil ?_
  refine qN ?_
  refine LCodeP.seq (LCodeP.region ?_)
  refine LOpsP.step (sS (cs':=[_]) rfl zp1 rfl rfl rfl rfl rfl ?_) rfl
  refine LOpsP.step (sS (cs':=[_]) rfl zp1 rfl rfl rfl rfl rfl ?_) rfl
  refine LOpsP.nil ?_
  refine qN ?_
  refine LCodeP.ret ?_
  exact RetPostD.ret1 (vs:=[str [],int .i64 0]) (H1:=[(b2,.cells 9 [str []]),(b3,.cells 31 [int .i64 0])]) (F:=[_]) (H2:=[(b2,.cells 9 [str []]),(b3,.cells 31 [int .i64 0])]) rfl (List.Perm.swap _ _ _) (crec_ret b2 b3 _ _)
   (rC (ResIs.cellOne rfl zm0 rfl zsr) (rC (ResIs.cellOne rfl zm1 rfl zsr) rN)) zhn ⟨rfl,[],rfl⟩
 ·rw[hE] at h0 ⊢
  refine QThen.panic ?_
  exact RetPostD.panic1 (vs:=[str nm,int .i64 E]) (H1:=[(b2,.cells 9 [str []]),(b3,.cells 31 [int .i64 0])]) (F:=[_]) (H2:=[(b2,.cells 9 [str nm]),(b3,.cells 31 [int .i64 E])]) rfl (List.Perm.swap _ _ _) (crec_pan b2 b3 _ _ nm E)
   (rC (ResIs.cellOne rfl zm0 rfl zsr) (rC (ResIs.cellOne rfl zm1 rfl zsr) rN)) zhn ⟨rfl,nm,rfl⟩
end
end Go.Proofs.YtpbbgkoalnonoaaGreatDoor.Chk
namespace Go.Stele
mutual
theorem PE_nd:∀ {e:Ex} {k:Nat} {ts:List KT} {d:Nat},PE e k ts d→ndE e≤ts.length∧numE e
 |_,_,_,_,.num h=>⟨by rw[ndE,ndEs];exact zNr _,by rw[numE];exact ⟨h,trivial⟩⟩
 |_,_,_,_,.var h=>⟨by rw[ndE,ndEs];exact zNr _,by rw[numE];exact ⟨by unfold Lt;omega,trivial⟩⟩
 |_,_,_,_,.elem h ha=>by
  obtain ⟨h1,h2⟩:=PE_nd ha
  refine ⟨?_,?_⟩
  ·rw[ndE,ndEs,ndEs]
   simp only[zLa,zLc,zLn]
   omega
  ·rw[numE,numEs,numEs]
   exact ⟨by unfold Lt;omega,h2,trivial⟩
 |_,_,_,_,.call h hl=>by
  obtain ⟨h1,h2⟩:=PEs_nd hl
  refine ⟨?_,?_⟩
  ·rw[ndE]
   simp only[zLa,zLc,zLn]
   omega
  ·rw[numE]
   exact ⟨by unfold Lt;omega,h2⟩
 |_,_,_,_,.neg ha=>by
  obtain ⟨h1,h2⟩:=PE_nd ha
  refine ⟨?_,?_⟩
  ·rw[ndE,ndEs,ndEs]
   simp only[zLa,zLc,zLn]
   omega
  ·rw[numE,numEs,numEs]
   exact ⟨by unfold Lt;omega,h2,trivial⟩
 |_,_,_,_,.not ha=>by
  obtain ⟨h1,h2⟩:=PE_nd ha
  refine ⟨?_,?_⟩
  ·rw[ndE,ndEs,ndEs]
   simp only[zLa,zLc,zLn]
   omega
  ·rw[numE,numEs,numEs]
   exact ⟨by unfold Lt;omega,h2,trivial⟩
 |_,_,_,_,.bin hs ho hk ha hb=>by
  obtain ⟨h1,h2⟩:=PE_nd ha
  obtain ⟨h3,h4⟩:=PE_nd hb
  refine ⟨?_,?_⟩
  ·rw[ndE,ndEs,ndEs,ndEs]
   simp only[zLa,zLc,zLn]
   omega
  ·rw[numE,numEs,numEs,numEs]
   exact ⟨by unfold Lt;omega,h2,h4,trivial⟩
 |_,_,_,_,.par hs ho hk ha hb=>by
  obtain ⟨h1,h2⟩:=PE_nd ha
  obtain ⟨h3,h4⟩:=PE_nd hb
  refine ⟨?_,?_⟩
  ·rw[ndE,ndEs,ndEs,ndEs]
   simp only[zLa,zLc,zLn]
   omega
  ·rw[numE,numEs,numEs,numEs]
   exact ⟨by unfold Lt;omega,h2,h4,trivial⟩
theorem PEs_nd:∀ {l:List Ex} {ts:List KT} {d:Nat},PEs l ts d→ndEs l≤ts.length∧numEs l
 |_,_,_,.nil=>⟨by rw[ndEs];exact Nat.zero_le _,by rw[numEs];trivial⟩
 |_,_,_,.one ha=>by
  obtain ⟨h1,h2⟩:=PE_nd ha
  rw[ndEs,ndEs,numEs,numEs]
  exact ⟨by omega,h2,trivial⟩
 |_,_,_,.more ha hl=>by
  obtain ⟨h1,h2⟩:=PE_nd ha
  obtain ⟨h3,h4⟩:=PEs_nd hl
  refine ⟨?_,?_⟩
  ·rw[ndEs]
   simp only[zLa,zLc]
   omega
  ·rw[numEs]
   exact ⟨h2,h4⟩
end
theorem one_nd {e:Ex} {ts:List KT} {d:Nat} (h:PE e 0 ts d):ndEs [e]≤ts.length∧numEs [e]:=PEs_nd (.one h)
mutual
theorem PS_nd:∀ {s:Sm} {ts:List KT} {d:Nat},PS s ts d→ndS s≤ts.length∧numS s
 |_,_,_,.assign h he=>by
  obtain ⟨h1,h2⟩:=one_nd he
  refine ⟨?_,?_⟩
  ·rw[ndS,ndEs,ndSs]
   simp only[zLa,zLc,zLn]
   omega
  ·rw[numS,numSs]
   exact ⟨by rw[numEs];trivial,h2,trivial,trivial⟩
 |_,_,_,.store h hx he=>by
  obtain ⟨h1,h2⟩:=one_nd he
  obtain ⟨h3,h4⟩:=one_nd hx
  refine ⟨?_,?_⟩
  ·rw[ndS,ndSs]
   simp only[zLa,zLc,zLn]
   omega
  ·rw[numS,numSs]
   exact ⟨h4,h2,trivial,trivial⟩
 |_,_,_,.call h hl=>by
  obtain ⟨h1,h2⟩:=PEs_nd hl
  refine ⟨?_,?_⟩
  ·rw[ndS,ndSs,ndEs,ndEs,ndEs,ndE]
   simp only[zLa,zLc,zLn]
   omega
  ·rw[numS,numSs,numEs,numEs,numEs,numE]
   exact ⟨trivial,⟨⟨by unfold Lt;omega,h2⟩,trivial⟩,trivial,trivial⟩
 |_,_,_,.ret he=>by
  obtain ⟨h1,h2⟩:=one_nd he
  refine ⟨?_,?_⟩
  ·rw[ndS,ndSs]
   simp only[zLa,zLc,zLn]
   have:ndEs []=0:=by rw[ndEs]
   omega
  ·rw[numS,numSs]
   exact ⟨by rw[numEs];trivial,h2,trivial,trivial⟩
 |_,_,_,.halt=>by
  refine ⟨?_,?_⟩
  ·rw[ndS,ndSs,ndEs]
   simp only[zLc,zLn]
   omega
  ·rw[numS,numSs,numEs]
   exact ⟨trivial,trivial,trivial,trivial⟩
 |_,_,_,.ifElse he h1 h2 hne=>by
  obtain ⟨a1,a2⟩:=one_nd he
  obtain ⟨b1,b2⟩:=PSs_nd h1
  obtain ⟨c1,c2⟩:=PSs_nd h2
  refine ⟨?_,?_⟩
  ·rw[ndS]
   simp only[zLa,zLc,zLn]
   have:ndEs []=0:=by rw[ndEs]
   omega
  ·rw[numS]
   exact ⟨by rw[numEs];trivial,a2,b2,c2⟩
 |_,_,_,.ifThen he h1=>by
  obtain ⟨a1,a2⟩:=one_nd he
  obtain ⟨b1,b2⟩:=PSs_nd h1
  refine ⟨?_,?_⟩
  ·rw[ndS]
   simp only[zLa,zLc,zLn]
   have:ndEs []=0:=by rw[ndEs]
   have:ndSs []=0:=by rw[ndSs]
   omega
  ·rw[numS]
   exact ⟨by rw[numEs];trivial,a2,b2,by rw[numSs];trivial⟩
 |_,_,_,.while he h1=>by
  obtain ⟨a1,a2⟩:=one_nd he
  obtain ⟨b1,b2⟩:=PSs_nd h1
  refine ⟨?_,?_⟩
  ·rw[ndS]
   simp only[zLa,zLc,zLn]
   have:ndEs []=0:=by rw[ndEs]
   have:ndSs []=0:=by rw[ndSs]
   omega
  ·rw[numS]
   exact ⟨by rw[numEs];trivial,a2,b2,by rw[numSs];trivial⟩
theorem PSs_nd:∀ {l:List Sm} {ts:List KT} {d:Nat},PSs l ts d→ndSs l≤ts.length∧numSs l
 |_,_,_,.nil=>⟨by rw[ndSs];exact Nat.zero_le _,by rw[numSs];trivial⟩
 |_,_,_,.cons h hl=>by
  obtain ⟨h1,h2⟩:=PS_nd h
  obtain ⟨h3,h4⟩:=PSs_nd hl
  refine ⟨?_,?_⟩
  ·rw[ndSs]
   simp only[zLa]
   omega
  ·rw[numSs]
   exact ⟨h2,h4⟩
end
theorem PFs_nd:∀ (fs:List FnD) (ts:List KT),PFs fs ts→ndFs fs≤ts.length∧∀ f∈fs,numSs f.body
 |[],ts,h=>⟨by rw[ndFs];exact Nat.zero_le _,fun f hf=>(List.not_mem_nil hf).elim⟩
 |f::fs,ts,h=>by
  cases h with
  |cons h hd hl=>
   obtain ⟨h1,h2⟩:=PFs_nd fs _ hl
   cases h with
   |mk hn hp hlo hb=>
    rename_i nm ps ls b ts' d'
    obtain ⟨h3,h4⟩:=PSs_nd hb
    have h5:=commas_ge ps
    have h6:=varK_ge ls
    refine ⟨?_,?_⟩
    ·rw[ndFs]
     unfold ndF
     simp only[zLa,zLc,zLn]
     omega
    ·intro f hf
     rcases zMi.1 hf with rfl|hf
     ·exact h4
     ·exact h2 f hf
theorem arKs_len (l:List Ar):l.length≤((l.map arK).flatten).length:=by
 induction l with
 |nil=>exact Nat.zero_le _
 |cons a l ih=>
  rw[zMc,List.flatten_cons,zLa]
  unfold arK
  simp only[zLc,zLn]
  unfold arK at ih
  omega
structure SzP (p:Pr) (n:Nat):Prop where
 vars:p.vars.length≤n
 arrays:p.arrays.length≤n
 size:∀ a∈p.arrays,a.size<4294967296
 funcs:ndFs p.funcs≤n
 nums:∀ f∈p.funcs,numSs f.body
theorem PP_nd {p:Pr} {ts:List KT} (h:PP p ts):SzP p ts.length:=by
 cases h with
 |mk hv ha hf=>
  rename_i v a f ts
  obtain ⟨h1,h2⟩:=PFs_nd f ts hf
  have h3:=varK_ge v
  have h4:=arKs_len a
  refine ⟨?_,?_,fun x hx=>(ha x hx).2,?_,h2⟩ <;> · simp only[zLa];omega
theorem SzP.mono {p:Pr} {n m:Nat} (h:SzP p n) (hm:n≤m):SzP p m:=
 ⟨zNt h.vars hm,zNt h.arrays hm,h.size,zNt h.funcs hm,h.nums⟩
theorem parse_sz {s:List UInt8} {T:List Tok} {p:Pr} {i op:Nat} (hT:lexAt s 1=.ok T) (hs:sProg T (10 * T.length+20) ⟨[],[],[]⟩ 0 0=some (.ok p i op)):SzP p s.length:=by
 obtain ⟨ts,h3,h4⟩:=src_print (lexP_again _ _ _ _ hT) hs
 exact (PP_nd h3).mono (zNt h4 (lexP_ok _ _ _ _ hT).1)
theorem SzP.small {p:Pr} {n:Nat} (h:SzP p n) (hn:n≤2000000):SmP p:=by
 have h1:=ndFs_len p.funcs
 have h2:=h.funcs
 exact ⟨show p.vars.length≤2000000 from zNt h.vars hn,show p.arrays.length≤2000000 from zNt h.arrays hn,show p.funcs.length≤2000000 by omega,fun f hf=>smF_of (zNt (ndFs_mem hf) (zNt h2 hn))⟩
end Go.Stele
namespace Go.Proofs.YtpbbgkoalnonoaaGreatDoor.Inp
open Go.GL Go.RowKit Go.Stele
theorem parse_both {s:List UInt8} (hs:s.length≤60000):∃ l,parseP s=((parseQ s).1,l,(parseQ s).2)∧SzP (parseQ s).1 s.length:=by
 have h0:SzP ⟨[],[],[]⟩ s.length:=⟨Nat.zero_le _,Nat.zero_le _,fun a ha=>(List.not_mem_nil ha).elim,Nat.zero_le _,fun a ha=>(List.not_mem_nil ha).elim⟩
 have hL:lexAllP s=lexAt s 1:=by
  unfold lexAllP
  rw[if_neg zo]
  try rfl
 unfold parseP parseQ
 rw[hL]
 cases hT:lexAt s 1 with
 |error x=>
  obtain ⟨l,e⟩:=x
  exact ⟨l,rfl,h0⟩
 |ok T=>
  simp only
  obtain ⟨r,hr⟩:=sProg_ends T (10 * T.length+20) noPr 0 0 (Nat.zero_le _) zo
  have hr':sProg T (10 * T.length+20) ⟨[],[],[]⟩ 0 0=some r:=hr
  rw[hr,hr']
  cases r with
  |err l e=>exact ⟨l,rfl,h0⟩
  |ok p i op=>exact ⟨0,rfl,parse_sz hT hr'⟩
theorem encPr_eq (p:Pr):encPr p=Chk.encPrG p.vars (p.arrays.map fun a=>(a.name,(a.size:Int))) p.funcs:=by
 unfold encPr Chk.encPrG
 rw[List.map_map]
 try rfl
attribute [local irreducible] LOps LCode LStep LCalls Go.GL.Pure QThen QBlock RetPost LQ LAny LLate LLateOp LS
section
variable {B0:Nat} {w0:World}
theorem checkPr_spec {p:Pr} {n:Nat} (h:SzP p n) (hn:n≤2000000):LCalls (KC B0 w0) 24 [encPr p] [] (fun r H=>H=[]∧∃ nm,r=.ret (.tuple [str nm,int .i64 (checkPr p)])):=by
 rw[encPr_eq]
 exact Chk.check_spec _ _ _ (zNt h.vars hn) (by rw[zLm];exact zNt h.arrays hn) (fun a ha=>by
  obtain ⟨x,hx,rfl⟩:=List.mem_map.1 ha
  have:=h.size x hx
  constructor
  ·show (-9223372036854775808:Int)≤(x.size:Int)
   omega
  ·show (x.size:Int)<9223372036854775808
   omega) (zNt h.funcs hn)
theorem source_spec (hG:GW B0 w0) (s:List UInt8) (hs:s.length≤60000) {inp:List Nat} (hin:∀ v∈inp,Lt v) (steps:Int) :
  LCalls (KC B0 w0) 19 [str s,.list (inp.map u32),int .i64 steps] [] (Ret (encO (sourceI s inp steps))):=by
 obtain ⟨l,hP,hsz⟩:=parse_both hs
 have hps:=parse_spec hG s zo
 rw[hP] at hps
 unfold sourceI
 generalize hp:(parseQ s).1=p at hps hsz ⊢
 generalize he:(parseQ s).2=er at hps ⊢
 have hs6:s.length≤2000000:=by omega
 have hchk:=checkPr_spec (B0:=B0) (w0:=w0) hsz hs6
 refine cI Tryz.func19 rfl (n:=35) rfl rfl rfl ?_
 refine gag ?_
 refine oS (sA fun b6=>?_) rfl
 refine gan ?_
 refine oS (sF [_] rfl hps ?_) rfl
 unfold encParse
 refine gad ?_
 refine oS (sA fun b7=>?_) rfl
 refine gab ?_
 by_cases hc0:er=0
 rotate_left
 ·rw[if_pos hc0]
  refine oC rfl (fun hc=>?_) (fun hc=>?_)
  ·refine gac ?_
   exact retRet rfl (rC (rA rfl zm0 rfl zsr) rN) rfl
  ·have h2:(!decide (er=0))=false:=hc
   simp at h2
   exact absurd h2 hc0
 refine oC rfl (fun hc=>?_) (fun _=>?_)
 ·have h2:(!decide (er=0))=true:=hc
  simp[hc0] at h2
 rw[if_neg (by simpa using hc0)]
 refine gaj ?_
 refine oS (S.callH (H1:=[]) (F:=[_,_]) [_] rfl zpr hchk ?_ (by rintro ch H' ⟨_,nm,h⟩;cases h)) rfl
 rintro lv H' ⟨rfl,nm,h⟩
 cases h
 refine gab ?_
 by_cases hc1:checkPr p=0
 rotate_left
 ·rw[if_pos hc1]
  refine oC rfl (fun hc=>?_) (fun hc=>?_)
  ·refine gac ?_
   exact retRet rfl (rC (rA rfl zm0 rfl zsr) rN) rfl
  ·have h2:(!decide (checkPr p=0))=false:=hc
   simp at h2
   exact absurd h2 hc1
 refine oC rfl (fun hc=>?_) (fun _=>?_)
 ·have h2:(!decide (checkPr p=0))=true:=hc
  simp[hc1] at h2
 rw[if_neg (by simpa using hc1)]
 have hq:runQ p inp steps=limitI p inp steps:=by unfold runQ;rw[if_pos hc1]
 have hrun:=run_spec (B0:=B0) (w0:=w0) (hsz.small hs6) hsz.nums hchk hin steps
 rw[hq] at hrun
 refine gaj ?_
 refine oS (sF [_,_,_] rfl hrun ?_) rfl
 refine gad ?_
 exact retRet rfl (rC (rA rfl zm0 rfl zsr) rN) rfl
end
end Go.Proofs.YtpbbgkoalnonoaaGreatDoor.Inp
namespace Go.GL
open Go.RowKit
inductive MRow (el:TypeId) (s:Nat):Value→List LV→Heap→Prop
 |nil:MRow el s (.slice none 0 0) [] []
 |row {b cap:Nat} {es spare:List LV} (hs:∀ v∈es,v.cells.length=s) (hc:es.length≤cap) (hl:es.length * s+spare.length=cap * s) :
   MRow el s (.slice (some ⟨b,0,none⟩) es.length cap) es [(b,.cells el (es.flatMap LV.cells++spare))]
section
variable {C:Ctx} {e:Env} {H:Heap} {x y:Operand} {dst:Option Nat} {ty:TypeId} {pos:String} {aft:Array Edge} {g:Option (Nat×Bool)} {K:LV→Heap→Prop} {X:List PanicEntry→Heap→Prop}
theorem left_newM {w:World} {L:Live} (hH:RelH C w L []) {el s cap:Nat} {es:List LV} {xs rest:List Value} (hr:RepL w L (es.flatMap LV.cells) xs) (hs:∀ v∈es,v.cells.length=s) (hc:es.length≤cap) (hl:es.length * s+rest.length=cap * s)
  (hk:∀ v' H',MRow el s v' es H'→K (.atom v') H') :
  Left C w L [] (World.push w (.cells (xs++rest).toArray el)) (.slice (some ⟨w.heap.size,0,none⟩) es.length cap) K:=by
 have hx:=ext_push hH.wf (.cells (xs++rest).toArray el) 0
 have:=fr_push hH (.cells (xs++rest).toArray el) 0 [(w.heap.size,.cells el (es.flatMap LV.cells++rest.map .atom))] (fun p hp=>by
  simp only[List.mem_singleton] at hp
  subst hp
  exact ⟨rfl,by simp[Live.upd],xs++rest,heap_push_self,RepL.append (hr.mono hx _ _) (repL_atoms rest)⟩) (by simp)
 exact ⟨.atom _,_,_,this.1,this.2,rep_atom,hk _ _ (MRow.row hs hc (by simpa using hl))⟩
theorem LStep.appM {sT xT el s bytes:Nat} [ht:TSlice C.P sT el s] [hr:TRow C.P el s bytes] {e2 s2:Nat} [hx2:TSlice C.P xT e2 s2] {v:Value} {es ms:List LV}
  (hx:e.ev x=.atom v) (ha:MRow el s v es H) (hy:GL.elems (e.ev y)=some ms) (hms:∀ v∈ms,v.cells.length=s) (hok:(ms.flatMap LV.cells).all cellOk=true) (hroom:(es.length+ms.length) * bytes≤140737488355328)
  (hk:∀ v' H',MRow el s v' (es++ms) H'→K (.atom v') H'):LStep C ⟨dst,.call { callee:=.builtin .append,args:=#[x,y],argTypes:=#[sT,xT] },ty,pos,aft,g⟩ e H K X:=by
 have h0:∀ (cs:Array Bool) (args:Array Value),builtin .append #[sT,xT] ty cs args=(do Pure.pure (.value (←Builtin.append_ #[sT,xT] ty args))):=fun _ _=>rfl
 cases ha with
 |nil=>
  by_cases hne:ms=[]
  ·subst hne
   exact LStep.appendNilNil rfl ⟨e2,hx2.und⟩ hx hy (hk _ _ MRow.nil)
  ·intro ρ w L h hH
   have hpos:0<ms.length:=List.length_pos_iff.2 hne
   obtain ⟨ay,cy,new,hyv,hyc,hyr,hyl,hyf⟩:=slice_cells (s:=s) (h y) hy hms
   rw[hyv] at hyf
   have hlen:∀ w':World,(Builtin.lenOf (.slice ay ms.length cy)).run C.P w'=.ok ms.length w':=fun w'=>by simp[Builtin.lenOf]
   obtain ⟨cap',rest,r1,r2,r3⟩:=run_append_new (ty:=ty) (P:=C.P) (w:=w) (sT:=sT) (xT:=xT) (a:=none) (len:=0) (cap:=0) (n:=ms.length) (xv:=.slice ay ms.length cy) (old:=[]) (new:=new) (.inr ⟨_,hx2.und⟩) hlen (fun w' hw=>hyf C.P w' hw)
    (fun w' _=>by simp[Builtin.firstCells]) (by simpa using hroom) zo
   rw[execOp_builtin',h0]
   simp only[List.map_toArray,zMc,List.map_nil,Sem.run_bind,atom_of h hx,hyv,r3,Result.andThen_ok,Sem.run_pure,List.nil_append,Nat.zero_add]
   obtain ⟨lv,H',L',g1,g2,g3,g4⟩:=left_newM (K:=K) (el:=el) (es:=ms) (cap:=cap') (xs:=new) (rest:=rest) hH.drew (hyr.mono (ext_drew w L) _ _) hms zo (by
    rw[r2,←Nat.add_mul];congr 1;omega) (fun v' H' h'=>hk v' H' h')
   exact ⟨lv,H',L',g1.of_drew,g2,g3,g4⟩
 |row hs hc hl=>
  rename_i b cap spare
  intro ρ w L h hH
  obtain ⟨hb0,hbs,hlb,zs,hz1,hz2⟩:=hH.objs _ (List.mem_singleton.2 rfl)
  simp only at hb0 hbs hlb hz1
  obtain ⟨ay,cy,new,hyv,hyc,hyr,hyl,hyf⟩:=slice_cells (s:=s) (h y) hy hms
  rw[hyv] at hyf
  have hlen:∀ w':World,(Builtin.lenOf (.slice ay ms.length cy)).run C.P w'=.ok ms.length w':=fun w'=>by simp[Builtin.lenOf]
  have hfl:(es.flatMap LV.cells).length=es.length * s:=flat_length hs
  have hzl:zs.length=es.length * s+spare.length:=by rw[hz2.length,zLa,hfl]
  have hzt:RepL w L (es.flatMap LV.cells) (zs.take (es.length * s)):=by
   have:=hz2.take (es.length * s)
   rwa [List.take_left' hfl] at this
  rw[execOp_builtin',h0]
  simp only[List.map_toArray,zMc,List.map_nil,Sem.run_bind,atom_of h hx,hyv]
  by_cases hcc:es.length+ms.length≤cap
  ·have hrun:=run_append_in (ty:=ty) (P:=C.P) (w:=w) (sT:=sT) (xT:=xT) (s:=s) (a:=some ⟨b,0,none⟩) (len:=es.length) (cap:=cap) (n:=ms.length) (xv:=.slice ay ms.length cy) (new:=new) (.inr ⟨_,hx2.und⟩) hlen (fun w' hw=>hyf C.P w' hw) hcc
   have hmul:(es.length+ms.length) * s≤cap * s:=Nat.mul_le_mul_right _ hcc
   rw[Nat.add_mul] at hmul
   obtain ⟨w',r1,r2,r3,r4,r5,r6,r7⟩:=storeCells_run (P:=C.P) (b:=b) (off:=0+es.length * s) (t:=el) (fr:=(0,0)) new 0 w zs hz1 zo (fun j _ _=>by simp) (repL_all hyr hok)
   rw[hrun]
   simp only[add_mk,r1,Result.andThen_ok,Sem.run_pure]
   have he:0+es.length * s+0=es.length * s:=by omega
   rw[he] at r7
   have hnl:new.length=ms.length * s:=hyl
   have hdr:RepL w L (spare.drop (ms.length * s)) (zs.drop (es.length * s+new.length)):=by
    have:=hz2.drop (es.length * s+new.length)
    rwa [List.drop_append,List.drop_eq_nil_of_le zo,List.nil_append,hfl,show es.length * s+new.length-es.length * s=ms.length * s by omega] at this
   refine left_write (v:=.slice (some ⟨b,0,none⟩) (es.length+ms.length) cap) (lv:=.atom (.slice (some ⟨b,0,none⟩) (es.length+ms.length) cap)) (K:=K) (cs':=es.flatMap LV.cells++ms.flatMap LV.cells++spare.drop (ms.length * s)) hH r2 r3 r4 r5 r6 r7 ?_ (RepL.append (RepL.append hzt hyr) hdr) rep_atom ?_
   ·simp only[zLa,List.length_take,List.length_drop,hfl]
    omega
   ·have hb:MRow el s (.slice (some ⟨b,0,none⟩) (es++ms).length cap) (es++ms) [(b,.cells el ((es++ms).flatMap LV.cells++spare.drop (ms.length * s)))]:=MRow.row (fun v hv=>by
      rcases List.mem_append.1 hv with hv|hv
      ·exact hs v hv
      ·exact hms v hv) (by rw[zLa];exact hcc) (by
      rw[zLa,List.length_drop,Nat.add_mul]
      omega)
    rw[zLa,List.flatMap_append] at hb
    exact hk _ _ hb
  ·have hold:∀ w':World,w'.heap=w.heap→(Builtin.firstCells s es.length (.slice (some ⟨b,0,none⟩) es.length cap)).run C.P w'=.ok (zs.take (es.length * s)).toArray w':=fun w' hw=>by
    have:=loadCellsFrom_run (P:=C.P) (w:=w') (b:=b) (off:=0) (es.length * s) 0 #[] (zs.take (es.length * s)) (by rw[List.length_take];omega) (fun j x' hj=>by
     have hj':zs[j]? = some x':=by
      rw[List.getElem?_take] at hj
      split at hj
      ·exact hj
      ·cases hj
     simp[World.cell?,hw,hz1,hj'])
    simp only[Builtin.firstCells,loadCells,this]
    simp
   obtain ⟨cap',rest,r1,r2,r3⟩:=run_append_new (ty:=ty) (P:=C.P) (w:=w) (sT:=sT) (xT:=xT) (a:=some ⟨b,0,none⟩) (len:=es.length) (cap:=cap) (n:=ms.length) (xv:=.slice ay ms.length cy) (old:=zs.take (es.length * s)) (new:=new) (.inr ⟨_,hx2.und⟩) hlen (fun w' hw=>hyf C.P w' hw) hold hroom zo
   rw[r3]
   simp only[Result.andThen_ok,Sem.run_pure]
   have hH0:RelH C w L []:=hH.sub (List.nil_sublist _)
   obtain ⟨lv,H',L',g1,g2,g3,g4⟩:=left_newM (K:=K) (el:=el) (s:=s) (es:=es++ms) (cap:=cap') (xs:=zs.take (es.length * s)++new) (rest:=rest) hH0.drew (by
     rw[List.flatMap_append]
     exact (RepL.append hzt hyr).mono (ext_drew w L) _ _) (fun v hv=>by
     rcases List.mem_append.1 hv with hv|hv
     ·exact hs v hv
     ·exact hms v hv) (by rw[zLa];omega) (by
     rw[r2,zLa,←Nat.add_mul];congr 1;omega) (fun v' H' h'=>hk v' H' h')
   rw[zLa] at g3
   exact ⟨lv,H',L',g1.of_drew.wide (by simp),g2,g3,g4⟩
theorem S.appM {sT xT el s bytes:Nat} [ht:TSlice C.P sT el s] [hr:TRow C.P el s bytes] {e2 s2:Nat} [hx2:TSlice C.P xT e2 s2] {v:Value} {es ms:List LV} {HM F:Heap}
  (hx:e.ev x=.atom v) (hp:H.Perm (HM++F)) (ha:MRow el s v es HM) (hy:GL.elems (e.ev y)=some ms) (hms:∀ v∈ms,v.cells.length=s) (hok:(ms.flatMap LV.cells).all cellOk=true) (hroom:(es.length+ms.length) * bytes≤140737488355328)
  (hk:∀ v' H',MRow el s v' (es++ms) H'→K (.atom v') (F++H')):LStep C ⟨dst,.call { callee:=.builtin .append,args:=#[x,y],argTypes:=#[sT,xT] },ty,pos,aft,g⟩ e H K X:=by
 refine LStep.conseq (K:=fun lv H'=>∃ v' H2,lv=.atom v'∧H'=H2++F∧MRow el s v' (es++ms) H2) (LStep.frame hp (LStep.appM hx ha hy hms hok hroom fun v' H' h=>⟨v',H',rfl,rfl,h⟩)) ?_
 rintro lv H' ⟨v',H2,rfl,rfl,h⟩
 exact ⟨_,F++H2,LV.Sub.refl _,⟨[],by simpa using zPc⟩,hk _ _ h⟩
theorem Pure.mlen {t el el2 s s2:Nat} [TSlice C.P t el2 s2] {v:Value} {es:List LV} {Hv:Heap} (hx:e.ev x=.atom v) (ha:MRow el s v es Hv):Pure C ⟨dst,.call { callee:=.builtin .len,args:=#[x],argTypes:=#[t] },ty,pos,aft,g⟩ e H (int .i64 es.length):=by
 cases ha with
 |nil=>exact Pure.rowLen (m:=0) hx
 |row=>exact Pure.rowLen hx
end
/-! ### Cells of such a row -/
theorem setL_app (P:List LV):∀ (Q:List LV) (f:Nat) (vs:List LV),setL (P++Q) (P.length+f) vs=P++setL Q f vs:=by
 induction P with
 |nil=>intro Q f vs;simp
 |cons p P ih=>
  intro Q f vs
  have:(p::P).length+f=(P.length+f)+1:=by simp only[zLc];omega
  rw[this]
  show setL (p::(P++Q)) (P.length+f+1) vs=_
  rw[setL,ih]
  try rfl
section
variable {C:Ctx} {e:Env} {H:Heap} {x y:Operand} {dst:Option Nat} {ty:TypeId} {pos:String} {aft:Array Edge} {g:Option (Nat×Bool)} {K:LV→Heap→Prop} {X:List PanicEntry→Heap→Prop}
theorem MRow.addr {el s:Nat} {v:Value} {es:List LV} {HM:Heap} (h:MRow el s v es HM) (hne:es≠[]):∃ b cap spare,v=.slice (some ⟨b,0,none⟩) es.length cap∧HM=[(b,.cells el (es.flatMap LV.cells++spare))]∧es.length≤cap∧es.length * s+spare.length=cap * s:=by
 cases h with
 |nil=>exact absurd rfl hne
 |row hs hc hl=>exact ⟨_,_,_,rfl,rfl,hc,hl⟩
end
/-! ### Settling -/
section settle
variable {C:Ctx} {n:Nat} {Q:Post} {e:Env} {H F:Heap}
end settle
end Go.GL
namespace Go.GL
open Go.RowKit
section
variable {C:Ctx} {e:Env} {H:Heap} {x y:Operand} {dst:Option Nat} {ty:TypeId} {pos:String} {aft:Array Edge} {g:Option (Nat×Bool)} {K:LV→Heap→Prop} {X:List PanicEntry→Heap→Prop}
theorem Pure.indexRowE {t el s:Nat} [ht:TSlice C.P t el s] {b off m cap o:Nat} {n:Int} {k:IntKind} (hx:e.ev x=.atom (.slice (some ⟨b,off,none⟩) m cap)) (hy:e.ev y=int k n) (h0:0≤n) (hn:n<m) (ho:off+n.toNat * s=o) :
  Pure C ⟨dst,.indexAddr t x y,ty,pos,aft,g⟩ e H (ptr b o):=ho▸Pure.indexRow hx hy h0 hn
theorem Pure.lsliceE {t el s:Nat} {lo hi:Option Operand} {es ms:List LV} {i j:Int} [ht:TSlice C.P t el s] (hx:elems (e.ev x)=some es)
  (hlo:BoundIs e lo 0 i) (hhi:BoundIs e hi es.length j) (h0:0≤i) (h1:i≤j) (h2:j≤es.length) (hs:∀ v∈es,v.cells.length=s) (he:(es.take j.toNat).drop i.toNat=ms) :
  Pure C ⟨dst,.slice t x lo hi none,ty,pos,aft,g⟩ e H (.list ms):=he▸Pure.lslice hx hlo hhi h0 h1 h2 hs
end
theorem MRow.of_cells {el b m cap:Nat} {es spare:List LV} (hs:∀ v∈es,v.cells.length=1) (hf:es.flatMap LV.cells=es) (hm:es.length=m) (hc:m≤cap) (hl:m+spare.length=cap) :
  MRow el 1 (.slice (some ⟨b,0,none⟩) m cap) es [(b,.cells el (es++spare))]:=by
 subst hm
 have:=MRow.row (el:=el) (s:=1) (b:=b) (cap:=cap) (es:=es) (spare:=spare) hs hc zo
 rwa [hf] at this
section
variable {C:Ctx} {n:Nat} {Q:Post} {e:Env} {H F:Heap}
end
end Go.GL
namespace Go.GL
open Go.RowKit
section
variable {C:Ctx} {e:Env} {H:Heap} {dst:Option Nat} {ty:TypeId} {pos:String} {aft:Array Edge} {g:Option (Nat×Bool)} {K:LV→Heap→Prop} {X:List PanicEntry→Heap→Prop} {x y:Operand}
theorem run_checkInt {P:Program} {kt:TypeId} {kd k:IntKind} {n:Int} (hkt:P.underlying kt=some (.int kd)) (b:Bool) (w:World):(Instr.checkKey b 10000 kt (.int k n)).run P w=.ok () w:=by
 have hck:Instr.checkKey b 10000 kt (.int k n)=Instr.checkKey b (9999+1) kt (.int k n):=rfl
 rw[hck,Instr.checkKey]
 simp only[Sem.run_bind,run_underlying' hkt,Result.andThen_ok,Sem.run_pure]
theorem S.insertK {t kt el:TypeId} {kd k:IntKind} (ht:C.P.underlying t=some (.map kt el)) (hkt:C.P.underlying kt=some (.int kd)) {b clock:Nat} {es es':Array MapEntry} {F:Heap} {m z:Operand} {n:Int} {v:Value} (hm:e.ev m=.atom (.map (some b))) (hx:e.ev x=int k n) (hz:e.ev z=.atom v)
  (hp:Pick (b,.obj (.map es clock)) H F) (hnew:Instr.findNow (.int kd) (.int k n) es.toList 0=some none) (he:es.push { key:=.int k n,val:=v,born:=clock }=es') (hk:K (.atom undef) ((b,.obj (.map es' (clock+1)))::F)):LStep C ⟨dst,.insert t m x z,ty,pos,aft,g⟩ e H K X:=by
 subst he
 refine LStep.at1 hp fun ρ w L h hH=>?_
 obtain ⟨hb0,hbs,hl,hx1,hx2⟩:=hH.objs _ (List.mem_singleton.2 rfl)
 simp only at hb0 hbs hl hx1 hx2
 have h3:execOp ρ ⟨dst,.insert t m x z,ty,pos,aft,g⟩=(do Instr.mapUpdate t (ρ m) (ρ x) (ρ z);Pure.pure .skip):=rfl
 have hf:(Instr.findKey kt (.int k n) es.toList).run C.P w=.ok none w:=by
  simp only[Instr.findKey,Sem.run_bind,run_underlying' hkt,Result.andThen_ok,hnew,Sem.run_pure]
 have hc:=run_checkInt (P:=C.P) (n:=n) (k:=k) hkt false w
 have hg:(getObj b).run C.P w=.ok (.map es clock) w:=by simp only[getObj,Sem.run,hx1]
 rw[h3,atom_of h hm,atom_of h hx,atom_of h hz]
 simp only[Instr.mapUpdate,Sem.run_bind,run_underlying' ht,Result.andThen_ok,hg,hc,hf]
 have hs:(setObj b (.map (es.push { key:=.int k n,val:=v,born:=clock }) (clock+1))).run C.P w=.ok () (setW w b (.map (es.push { key:=.int k n,val:=v,born:=clock }) (clock+1))):=run_setObj hx1 rfl
 rw[hs]
 exact left_obj (w':=setW w b (.map (es.push { key:=.int k n,val:=v,born:=clock }) (clock+1))) hH rfl rfl rfl rfl (by simp[setW]) (fun c hc=>setW_other hc) (setW_self hbs) (fun _=>rep_atom) hk
end
end Go.GL
namespace Go.Stele
structure MsOk (s:MS):Prop where
 mem:∀ i,s.mem i<4294967296
 pc:s.pc<4294967296
 data:∀ v∈s.data,v<4294967296
 calls:∀ v∈s.calls,v<4294967296
 inp:∀ v∈s.inp,v<4294967296
 few:s.data.length≤256
 deep:s.calls.length≤64
theorem MsOk.push {s s':MS} {v:Nat} (h:MsOk s) (hv:v<4294967296) (hs:pushM v s=.run s'):MsOk s':=by
 unfold pushM at hs
 split at hs
 ·rename_i hl
  injection hs with hs
  subst hs
  exact ⟨h.mem,h.pc,fun x hx=>(zMi.1 hx).elim (fun e=>e▸hv) (h.data x),h.calls,h.inp,by simp only[zLc];omega,h.deep⟩
 ·cases hs
theorem MsOk.pop {s:MS} {a:Nat} {r:List Nat} (h:MsOk s) (hd:s.data=a::r):a<4294967296∧MsOk { s with data:=r }:=by
 have h1:=h.data
 have h2:=h.few
 rw[hd] at h1 h2
 exact ⟨h1 a zMs,h.mem,h.pc,fun x hx=>h1 x (zMo _ hx),h.calls,h.inp,by simp only[zLc] at h2;show r.length≤256;omega,h.deep⟩
theorem xor_lt {a b:Nat} (ha:a<4294967296) (hb:b<4294967296):a ^^^ b<4294967296:=Nat.xor_lt_two_pow (n:=32) ha hb
theorem bin_lt {c a b v:Nat} (ha:a<4294967296) (hb:b<4294967296) (h:binM c a b=some v):v<4294967296:=by
 unfold binM at h
 split at h
 ·injection h with h;rw[←h];exact Nat.mod_lt _ zDd
 split at h
 ·injection h with h;rw[←h];exact Nat.mod_lt _ zDd
 split at h
 ·injection h with h;rw[←h];exact Nat.mod_lt _ zDd
 split at h
 ·split at h
  ·cases h
  ·injection h with h;rw[←h];exact Nat.lt_of_le_of_lt (Nat.div_le_self _ _) ha
 split at h
 ·split at h
  ·cases h
  ·rename_i hb0
   injection h with h
   rw[←h]
   exact Nat.lt_trans (Nat.mod_lt _ (by omega)) hb
 split at h
 ·injection h with h;rw[←h];exact xor_lt ha hb
 ·injection h with h
  rw[←h]
  split <;> decide
theorem exe_ok {c:Nat} {s s':MS} (h:MsOk s) (hc:c<4294967296) (hs:exeM c s=.run s'):MsOk s':=by
 unfold exeM at hs
 split at hs
 ·rename_i hd
  unfold isDigN at hd
  rw[zBa,zDe,zDe] at hd
  unfold digM' at hs
  split at hs
  ·split at hs
   ·rename_i d r hdr
    injection hs with hs
    subst hs
    obtain ⟨_,h2⟩:=h.pop hdr
    exact ⟨h2.mem,h2.pc,fun x hx=>(zMi.1 hx).elim (fun e=>by rw[e];exact Nat.mod_lt _ zDd) (h2.data x),h2.calls,h2.inp,by have:=h.few;rw[hdr] at this;exact this,h2.deep⟩
   ·cases hs
  ·exact h.push (by omega) hs
 split at hs
 ·injection hs with hs;subst hs;exact h
 split at hs
 ·unfold ldM at hs
  split at hs
  ·rename_i a r hd
   split at hs
   ·exact (h.pop hd).2.push (h.mem a) hs
   ·cases hs
  ·cases hs
 split at hs
 ·unfold stoM at hs
  split at hs
  ·rename_i a v r hd
   split at hs
   ·injection hs with hs
    subst hs
    obtain ⟨h1,h2⟩:=h.pop hd
    obtain ⟨h3,h4⟩:=h2.pop (a:=v) (r:=r) rfl
    refine ⟨fun i=>?_,h4.pc,h4.data,h4.calls,h4.inp,h4.few,h4.deep⟩
    simp only
    split
    ·exact h3
    ·exact h.mem i
   ·cases hs
  ·cases hs
 split at hs
 ·unfold jmpM at hs
  split at hs
  ·rename_i t v r hd
   injection hs with hs
   subst hs
   obtain ⟨h1,h2⟩:=h.pop hd
   obtain ⟨h3,h4⟩:=h2.pop (a:=v) (r:=r) rfl
   refine ⟨h4.mem,?_,h4.data,h4.calls,h4.inp,h4.few,h4.deep⟩
   simp only
   split
   ·exact h1
   ·exact h.pc
  ·cases hs
 split at hs
 ·unfold callM at hs
  split at hs
  ·rename_i t r hd
   split at hs
   ·rename_i hl
    injection hs with hs
    subst hs
    obtain ⟨h1,h2⟩:=h.pop hd
    exact ⟨h2.mem,h1,h2.data,fun x hx=>(zMi.1 hx).elim (fun e=>e▸h.pc) (h.calls x),h2.inp,h2.few,by simp only[zLc];omega⟩
   ·cases hs
  ·cases hs
 split at hs
 ·unfold bakM at hs
  split at hs
  ·rename_i t r hd
   injection hs with hs
   subst hs
   have h1:=h.calls
   have h2:=h.deep
   rw[hd] at h1 h2
   exact ⟨h.mem,h1 t zMs,h.data,fun x hx=>h1 x (zMo _ hx),h.inp,h.few,by simp only[zLc] at h2;show r.length≤64;omega⟩
  ·cases hs
 split at hs
 ·unfold rdM at hs
  split at hs
  ·rename_i v r hi
   have h1:=h.inp
   rw[hi] at h1
   have h2:MsOk { s with inp:=r }:=⟨h.mem,h.pc,h.data,h.calls,fun x hx=>h1 x (zMo _ hx),h.few,h.deep⟩
   exact h2.push (h1 v zMs) hs
  ·exact h.push zDd hs
 split at hs
 ·unfold wrM at hs
  split at hs
  ·rename_i v r hd
   injection hs with hs
   subst hs
   obtain ⟨h1,h2⟩:=h.pop hd
   exact ⟨h2.mem,h2.pc,h2.data,h2.calls,h2.inp,h2.few,h2.deep⟩
  ·cases hs
 split at hs
 ·cases hs
 split at hs
 ·unfold opM at hs
  split at hs
  ·rename_i b a r hd
   obtain ⟨h1,h2⟩:=h.pop hd
   obtain ⟨h3,h4⟩:=h2.pop (a:=a) (r:=r) rfl
   split at hs
   ·rename_i v hv
    exact h4.push (bin_lt h3 h1 hv) hs
   ·cases hs
  ·cases hs
 ·cases hs
theorem load_lt (code:Wd) (og i:Nat):loadM code og i<4294967296:=by
 unfold loadM
 split
 ·split
  ·rename_i c _
   have:=c.toNat_lt
   omega
  ·decide
 ·decide
end Go.Stele
namespace Go.Proofs.YtpbbgkoalnonoaaGreatDoor.Mch
open Go.GL Go.RowKit Go.Stele
open Inp (u32)
def us (l:List Nat):List LV:=l.map u32
theorem us_len (l:List Nat):(us l).length=l.length:=zLm _
theorem us_cell (l:List Nat):∀ v∈us l,v.cells.length=1:=fun v hv=>by
 obtain ⟨a,_,rfl⟩:=List.mem_map.1 hv
 rfl
theorem us_flat:∀ l:List Nat,(us l).flatMap LV.cells=us l
 |[]=>rfl
 |a::l=>by
  show (u32 a::us l).flatMap LV.cells=u32 a::us l
  rw[List.flatMap_cons,us_flat l]
  try rfl
theorem us_app (l m:List Nat):us (l++m)=us l++us m:=zMa
theorem mrow_us {el b m cap:Nat} {l:List Nat} {spare:List LV} (hm:l.length=m) (hc:m≤cap) (hl:m+spare.length=cap):MRow el 1 (.slice (some ⟨b,0,none⟩) m cap) (us l) [(b,.cells el (us l++spare))]:=
 MRow.of_cells (us_cell l) (us_flat l) (by rw[us_len];exact hm) hc hl
theorem mrow_ok {el s:Nat} {v:Value} {es:List LV} {H:Heap} (h:MRow el s v es H):(LV.atom v).cells? = some [LV.atom v]∧([LV.atom v].all cellOk)=true:=by
 cases h <;> exact ⟨rfl,rfl⟩
theorem mrow_usOf {el:Nat} {v:Value} {l:List Nat} {H:Heap} (h:MRow el 1 v (us l) H) (hne:l≠[]):∃ b cap spare,v=.slice (some ⟨b,0,none⟩) l.length cap∧H=[(b,.cells el (us l++spare))]∧l.length≤cap∧l.length+spare.length=cap:=by
 obtain ⟨b,cap,spare,h1,h2,h3,h4⟩:=h.addr (by intro e;exact hne (List.map_eq_nil_iff.1 e))
 rw[us_len] at h1 h3 h4
 rw[us_flat] at h2
 exact ⟨b,cap,spare,h1,h2,h3,by omega⟩
structure MF where
 mb:Nat
 vm:Value
 pc:Nat
 vc:Value
 inp:List Nat
 vo:LV
 digit:Bool
 st:Nat
 stop:Bool
 bm:Nat
def MF.cells (f:MF) (vd:Value):List LV:=[.atom f.vm,u32 f.pc,.atom vd,.atom f.vc,.list (us f.inp),f.vo,bool f.digit,int .i64 (f.st:Nat),bool f.stop,.atom (.map (some f.bm))]
def DH (f:MF) (data:List Nat) (H:Heap):Prop:=∃ vd HD,MRow 93 1 vd (us data.reverse) HD∧H=(f.mb,.cells 98 (f.cells vd))::HD
def trapV:List PanicEntry:=[{ v:=.iface 191 (.agg #[]),recovered:=false }]
def PostPop (f:MF) (data:List Nat):LRes→Heap→Prop:=fun r H=>match data with
 |[]=>r=.panic trapV∧DH f [] H
 |v::d=>r=.ret (u32 v)∧DH f d H
def PostPush (f:MF) (data:List Nat) (v:Nat):LRes→Heap→Prop:=fun r H=>if data.length<256 then r=.ret (.tuple [])∧DH f (v::data) H else r=.panic trapV∧DH f data H
def PostAddr (f:MF) (data:List Nat):LRes→Heap→Prop:=fun r H=>match data with
 |[]=>r=.panic trapV∧DH f [] H
 |v::d=>if v<262144 then r=.ret (u32 v)∧DH f d H else r=.panic trapV∧DH f d H
attribute [local irreducible] LOps LCode LStep LCalls Go.GL.Pure QThen QBlock RetPost LQ LAny LLate LLateOp LS
section
variable {B0:Nat} {w0:World}
theorem check_spec (b:Bool):LCalls (KC B0 w0) 96 [bool b] [] (fun r H'=>H'=[]∧r=if b=true then .ret (.tuple []) else .panic trapV):=by
 refine cI Tryz.func96 rfl (n:=6) rfl rfl rfl ?_
 refine gab ?_
 refine oC rfl (fun hc=>?_) (fun hc=>?_)
 ·have hb:b=false:=by simpa using hc
  subst hb
  refine gac ?_
  refine oS (LStep.panic rfl fun e' he'=>?_) rfl
  exact RetPost.panic (he'.trans rfl) zhr ⟨rfl,rfl⟩
 ·have hb:b=true:=by simpa using hc
  subst hb
  refine gaa ?_
  exact rO rfl rN zhr ⟨rfl,rfl⟩
end
section
variable {B0:Nat} {w0:World} {e:Env} {H:Heap} {dst:Option Nat} {ty:TypeId} {pos:String} {aft:Array Edge} {g:Option (Nat×Bool)} {K:LV→Heap→Prop} {X:List PanicEntry→Heap→Prop}
theorem S.check {b:Bool} {o:Operand} {ats:Array TypeId} (hx:e.ev o=bool b) (hk:b=true→K (.tuple []) H) (hn:b=false→X trapV H):LStep (KC B0 w0) ⟨dst,.call { callee:=.value (.func 96),args:=#[o],argTypes:=ats },ty,pos,aft,g⟩ e H K X:=by
 refine S.callH (H1:=[]) (F:=H) [o] (by simp only[zMc,List.map_nil,hx]) zpr (check_spec b) ?_ ?_
 ·rintro v H' ⟨rfl,h⟩
  cases b with
  |true=>cases h;exact hk rfl
  |false=>cases h
 ·rintro ch H' ⟨rfl,h⟩
  cases b with
  |true=>cases h
  |false=>cases h;exact hn rfl
end
section
variable {B0:Nat} {w0:World} {f:MF} {data:List Nat} {H:Heap}
theorem push_spec (h:DH f data H) (hf:data.length≤256) (v:Nat):LCalls (KC B0 w0) 163 [ptr f.mb 0,u32 v] H (PostPush f data v):=by
 obtain ⟨vd,HD,hm,rfl⟩:=h
 have hl:(us data.reverse).length=data.length:=by rw[us_len,List.length_reverse]
 unfold PostPush
 refine cI Tryz.func163 rfl (n:=21) rfl rfl rfl ?_
 refine gab ?_
 refine oP (Pure.mlen rfl hm) rfl ?_
 refine gaa ?_
 refine oS (S.check rfl (fun hb=>?_) (fun hb e' he'=>?_)) rfl
 ·have hlt:data.length<256:=by have:=zt hb;omega
  simp only[if_pos hlt]
  refine gab ?_
  refine oS (sL [_] rfl (eC rfl rfl eN) rfl rfl rfl ?_) rfl
  refine oS (S.appM (HM:=HD) (F:=[_]) rfl (List.perm_append_singleton _ _).symm hm rfl (by simp;rfl) rfl (by simp;omega) fun v' H' hm'=>?_) rfl
  refine gaa ?_
  refine oS (sS (n:=1) (vs:=[LV.atom v']) (cs':=[_,_,_,_,_,_,_,_,_,_]) rfl pH (mrow_ok hm').1 rfl rfl (mrow_ok hm').2 rfl ?_) rfl
  refine gap ?_
  exact rO rfl rN zhr ⟨rfl,v',H',by
   rw[List.reverse_cons,us_app]
   exact hm',rfl⟩
 ·have hlt:¬ data.length<256:=by have:=zf hb;omega
  simp only[if_neg hlt]
  refine gah ?_
  exact RetPost.panic (he'.trans rfl) zhr ⟨rfl,vd,HD,hm,rfl⟩
theorem pop_spec (h:DH f data H) (hf:data.length≤256):LCalls (KC B0 w0) 165 [ptr f.mb 0] H (PostPop f data):=by
 obtain ⟨vd,HD,hm,rfl⟩:=h
 have hl:(us data.reverse).length=data.length:=by rw[us_len,List.length_reverse]
 unfold PostPop
 refine cI Tryz.func165 rfl (n:=32) rfl rfl rfl ?_
 refine gab ?_
 refine oP (Pure.mlen rfl hm) rfl ?_
 refine gac ?_
 cases data with
 |nil=>
  refine oS (S.check rfl (fun hb=>?_) (fun hb e' he'=>?_)) rfl
  ·cases hb
  ·refine gah ?_
   exact RetPost.panic (he'.trans rfl) zhr ⟨rfl,vd,HD,hm,rfl⟩
 |cons a r=>
  refine oS (S.check rfl (fun hb=>?_) (fun hb=>?_)) rfl
  rotate_left
  ·have:=zf hb
   rw[hl,zLc] at this
   omega
  obtain ⟨b,cap,spare,rfl,rfl,hc,hcap⟩:=mrow_usOf hm (by rw[List.reverse_cons];simp)
  rw[List.reverse_cons,us_app,zAs] at *
  rw[zLa,List.length_reverse,List.length_singleton] at hc hcap
  have hsz:(us r.reverse).length=r.length:=by rw[us_len,List.length_reverse]
  have hel:(r.reverse++[a]).length=r.length+1:=by simp
  rw[zLc] at hl hf
  refine gac ?_
  refine oP (Pure.indexRowE (o:=r.length) rfl rfl zo zo zo) rfl ?_
  refine oP (pL (c:=u32 a) rfl zm1 (by rw[List.getElem?_append_right zo,hsz,Nat.sub_self];try rfl)) rfl ?_
  refine gac ?_
  refine oP (Pure.rowSlice (n:=r.length) rfl (by exact int_eq zo) zo) rfl ?_
  refine gac ?_
  exact rR rfl (zra rfl) zhr ⟨rfl,_,_,mrow_us (l:=r.reverse) (spare:=us [a]++spare) (by rw[List.length_reverse]) zo (by rw[zLa,us_len];simp only[List.length_singleton];omega),rfl⟩
theorem address_spec (h:DH f data H) (hf:data.length≤256):LCalls (KC B0 w0) 164 [ptr f.mb 0] H (PostAddr f data):=by
 have hp:=pop_spec (B0:=B0) (w0:=w0) h hf
 unfold PostPop at hp
 unfold PostAddr
 refine cI Tryz.func164 rfl (n:=10) rfl rfl rfl ?_
 refine gao ?_
 cases data with
 |nil=>
  refine oS (S.callH (H1:=H) (F:=[]) [_] rfl (by rw[zLz]) hp ?_ ?_) rfl
  ·rintro v H' ⟨h1,_⟩
   cases h1
  ·rintro ch H' ⟨h1,h2⟩ e' he'
   cases h1
   refine gah ?_
   exact RetPost.panic (he'.trans rfl) zhr ⟨rfl,by rw[zLz];exact h2⟩
 |cons a r=>
  refine oS (S.callH (H1:=H) (F:=[]) [_] rfl (by rw[zLz]) hp ?_ ?_) rfl
  rotate_left
  ·rintro ch H' ⟨h1,_⟩
   cases h1
  ·rintro v H' ⟨h1,h2⟩
   cases h1
   rw[zLz]
   refine gab ?_
   refine oS (S.check rfl (fun hb=>?_) (fun hb e' he'=>?_)) rfl
   ·have hlt:a<262144:=by have:(a:Int)<262144:=zt hb;omega
    simp only[if_pos hlt]
    refine gab ?_
    exact rR rfl (zra rfl) zhr ⟨rfl,h2⟩
   ·have hlt:¬ a<262144:=by have:¬ (a:Int)<262144:=zf hb;omega
    simp only[if_neg hlt]
    refine gah ?_
    exact RetPost.panic (he'.trans rfl) zhr ⟨rfl,h2⟩
end
end Go.Proofs.YtpbbgkoalnonoaaGreatDoor.Mch
namespace Go.GL
open Go.RowKit
section
variable {C:Ctx} {e:Env} {H:Heap} {dst:Option Nat} {ty:TypeId} {pos:String} {aft:Array Edge} {g:Option (Nat×Bool)} {x y:Operand}
theorem Pure.lookupHit2 {t kt el:TypeId} {kd k:IntKind} (ht:C.P.underlying t=some (.map kt el)) (hkt:C.P.underlying kt=some (.int kd)) {b clock j:Nat} {es:Array MapEntry} {n:Int} {v:Value} (hm:e.ev x=.atom (.map (some b))) (hx:e.ev y=int k n)
  (hb:(b,LObj.obj (.map es clock))∈H) (hf:Instr.findNow (.int kd) (.int k n) es.toList 0=some (some (j,v))):Pure C ⟨dst,.lookup t x y true,ty,pos,aft,g⟩ e H (.tuple [.atom v,bool true]):=fun ρ w L h hH=>by
 obtain ⟨_,_,_,hx1,_⟩:=hH.objs _ hb
 simp only at hx1
 refine ⟨.tuple #[v,.bool true],?_,fun w' ha=>?_⟩
 ·simp only[Rep]
  refine ⟨[v,.bool true],rfl,?_⟩
  simp only[RepL]
  exact ⟨_,_,rfl,rep_atom,_,_,rfl,rfl,rfl⟩
 have hw:w'.heap[b]? = some (.map es clock):=(ha.1 _ hb).trans hx1
 have h3:execOp ρ ⟨dst,.lookup t x y true,ty,pos,aft,g⟩=(do Pure.pure (.value (←Instr.lookup t (ρ x) (ρ y) true))):=rfl
 have hg:(getObj b).run C.P w'=.ok (.map es clock) w':=by simp only[getObj,Sem.run,hw]
 rw[h3,atom_of h hm,atom_of h hx]
 have hf2:(Instr.findKey kt (.int k n) es.toList).run C.P w'=.ok (some (j,v)) w':=by
  simp only[Instr.findKey,Sem.run_bind,run_underlying' hkt,Result.andThen_ok,hf,Sem.run_pure]
 have hc:=run_checkInt (P:=C.P) (n:=n) (k:=k) hkt
 simp only[Instr.lookup,Sem.run_bind,run_underlying' ht,Result.andThen_ok,hg,Sem.run_pure,hc,hf2]
 rfl
theorem Pure.lookupMiss2 {t kt el:TypeId} {kd k:IntKind} (ht:C.P.underlying t=some (.map kt el)) (hkt:C.P.underlying kt=some (.int kd)) {b clock:Nat} {es:Array MapEntry} {n:Int} {zv:Value} (hz:∀ w,(zeroValue el).run C.P w=.ok zv w) (hm:e.ev x=.atom (.map (some b))) (hx:e.ev y=int k n)
  (hb:(b,LObj.obj (.map es clock))∈H) (hf:Instr.findNow (.int kd) (.int k n) es.toList 0=some none):Pure C ⟨dst,.lookup t x y true,ty,pos,aft,g⟩ e H (.tuple [.atom zv,bool false]):=fun ρ w L h hH=>by
 obtain ⟨_,_,_,hx1,_⟩:=hH.objs _ hb
 simp only at hx1
 refine ⟨.tuple #[zv,.bool false],?_,fun w' ha=>?_⟩
 ·simp only[Rep]
  refine ⟨[zv,.bool false],rfl,?_⟩
  simp only[RepL]
  exact ⟨_,_,rfl,rep_atom,_,_,rfl,rfl,rfl⟩
 have hw:w'.heap[b]? = some (.map es clock):=(ha.1 _ hb).trans hx1
 have h3:execOp ρ ⟨dst,.lookup t x y true,ty,pos,aft,g⟩=(do Pure.pure (.value (←Instr.lookup t (ρ x) (ρ y) true))):=rfl
 have hg:(getObj b).run C.P w'=.ok (.map es clock) w':=by simp only[getObj,Sem.run,hw]
 rw[h3,atom_of h hm,atom_of h hx]
 have hf2:(Instr.findKey kt (.int k n) es.toList).run C.P w'=.ok none w':=by
  simp only[Instr.findKey,Sem.run_bind,run_underlying' hkt,Result.andThen_ok,hf,Sem.run_pure]
 have hc:=run_checkInt (P:=C.P) (n:=n) (k:=k) hkt
 simp only[Instr.lookup,Sem.run_bind,run_underlying' ht,Result.andThen_ok,hg,Sem.run_pure,hc,hf2,hz]
 rfl
end
end Go.GL
namespace Go.Proofs.YtpbbgkoalnonoaaGreatDoor.Mch
open Go.GL Go.RowKit Go.Stele
open Inp (u32 Same retS wrapU u32_eq xor_u32)
def memL (f:Nat→Nat):List LV:=(List.range 262144).map fun i=>u32 (f i)
theorem memL_len (f:Nat→Nat):(memL f).length=262144:=by
 unfold memL
 rw[zLm,List.length_range]
theorem memL_get (f:Nat→Nat) {a:Nat} (h:a<262144):(memL f)[a]? = some (u32 (f a)):=by
 unfold memL
 rw[List.getElem?_map,List.getElem?_range h]
 try rfl
theorem setL_none (l:List LV):setL l 0 []=l:=by cases l <;> rfl
theorem setL_one:∀ (l:List LV) (a:Nat) (v:LV),setL l a [v]=l.set a v
 |[],a,v=>by cases a <;> rfl
 |x::xs,0,v=>by
  show v::setL xs 0 []=_
  rw[setL_none]
  try rfl
 |x::xs,a+1,v=>by
  show x::setL xs a [v]=_
  rw[setL_one xs a v]
  try rfl
theorem memL_set (f:Nat→Nat) (a v:Nat):setL (memL f) a [u32 v]=memL (fun i=>if i=a then v else f i):=by
 rw[setL_one]
 refine List.ext_getElem? fun i=>?_
 rw[List.getElem?_set,memL_len]
 by_cases h2:i<262144
 ·rw[memL_get (fun i=>if i=a then v else f i) h2,memL_get f h2]
  by_cases h:a=i
  ·subst h
   simp[h2]
  ·have h3:¬ i=a:=fun e=>h e.symm
   simp[h,h3]
 ·have n1:∀ f,(memL f)[i]? = none:=fun f=>List.getElem?_eq_none (by rw[memL_len];omega)
  rw[n1 f,n1 (fun i=>if i=a then v else f i)]
  by_cases h:a=i
  ·subst h
   simp[h2]
  ·simp[h]
theorem memL_zero:List.replicate 262144 (LV.atom (.int .u32 0))=memL (fun _=>0):=by
 unfold memL
 rw[List.map_const',List.length_range]
 try rfl
attribute [irreducible] memL
theorem exe_dig {c:Nat} {s s':MS} (h:exeM c s=.run s') (hc:isDigN c=true):s'.data≠[]:=by
 unfold exeM at h
 rw[if_pos hc] at h
 unfold digM' at h
 split at h
 ·split at h
  ·injection h with h
   subst h
   simp
  ·cases h
 ·unfold pushM at h
  split at h
  ·injection h with h
   subst h
   simp
  ·cases h
def fnE (k:Int) (f:FuncId) (n:Nat):MapEntry:={ key:=.int .u32 k,val:=.func (.func f) #[] #[],born:=n }
def binsE:Array MapEntry:=#[fnE 43 92 0,fnE 45 93 1,fnE 42 94 2,fnE 47 95 3,fnE 37 97 4,fnE 94 98 5,fnE 60 99 6]
theorem bins_miss {c:Nat} (h:¬ (c=43∨c=45∨c=42∨c=47∨c=37∨c=94∨c=60)):Instr.findNow (.int .u32) (.int .u32 (c:Int)) binsE.toList 0=some none:=by
 have key:∀ k:Nat,c≠k→((c:Int) == (k:Int))=false:=fun k hk=>by
  rw[beq_eq_false_iff_ne]
  omega
 have k1:=key 43 zo
 have k2:=key 45 zo
 have k3:=key 42 zo
 have k4:=key 47 zo
 have k5:=key 37 zo
 have k6:=key 94 zo
 have k7:=key 60 zo
 simp only[binsE,fnE,Instr.findNow,Instr.sameNow,if_true]
 simp only[Int.cast_ofNat_Int] at k1 k2 k3 k4 k5 k6 k7
 simp only[k1,k2,k3,k4,k5,k6,k7]
def resM (o:Option Nat):LRes:=match o with
 |some v=>.ret (u32 v)
 |none=>.panic trapV
attribute [local irreducible] LOps LCode LStep LCalls Go.GL.Pure QThen QBlock RetPost LQ LAny LLate LLateOp LS
section
variable {B0:Nat} {w0:World} {H:Heap} {a b:Nat}
theorem binaries_spec:LCalls (KC B0 w0) 40 [] [] (fun r H=>∃ om,r=.ret (.atom (.map (some om)))∧H=[(om,.obj (.map binsE 7))]):=by
 refine cI Tryz.func40 rfl (n:=3) rfl rfl rfl ?_
 refine gai ?_
 refine oS (S.makeMap fun om=>?_) rfl
 refine oS (S.insertK (kt:=93) (el:=188) (kd:=.u32) zk zk rfl rfl rfl pH rfl rfl ?_) rfl
 refine oS (S.insertK (kt:=93) (el:=188) (kd:=.u32) zk zk rfl rfl rfl pH rfl rfl ?_) rfl
 refine oS (S.insertK (kt:=93) (el:=188) (kd:=.u32) zk zk rfl rfl rfl pH rfl rfl ?_) rfl
 refine oS (S.insertK (kt:=93) (el:=188) (kd:=.u32) zk zk rfl rfl rfl pH rfl rfl ?_) rfl
 refine oS (S.insertK (kt:=93) (el:=188) (kd:=.u32) zk zk rfl rfl rfl pH rfl rfl ?_) rfl
 refine oS (S.insertK (kt:=93) (el:=188) (kd:=.u32) zk zk rfl rfl rfl pH rfl rfl ?_) rfl
 refine oS (S.insertK (kt:=93) (el:=188) (kd:=.u32) zk zk rfl rfl rfl pH rfl rfl ?_) rfl
 refine gaa ?_
 exact rR rfl (zra rfl) zhr ⟨om,rfl,rfl⟩
theorem b1_spec (ha:a<4294967296) (hb:b<4294967296):LCalls (KC B0 w0) 92 [u32 a,u32 b] H (Same (u32 ((a+b) % 4294967296)) H):=by
 refine cI Tryz.func92 rfl (n:=8) rfl rfl rfl ?_
 refine gao ?_
 refine oP (Pure.addW rfl rfl) rfl ?_
 refine gak ?_
 exact retS rfl (zra rfl) (u32_eq (by rw[wrapU];omega)) zhr
theorem b2_spec (ha:a<4294967296) (hb:b<4294967296):LCalls (KC B0 w0) 93 [u32 a,u32 b] H (Same (u32 ((a+4294967296-b) % 4294967296)) H):=by
 refine cI Tryz.func93 rfl (n:=8) rfl rfl rfl ?_
 refine gao ?_
 refine oP (Pure.subW rfl rfl) rfl ?_
 refine gak ?_
 exact retS rfl (zra rfl) (u32_eq (by rw[wrapU];omega)) zhr
theorem b3_spec (ha:a<4294967296) (hb:b<4294967296):LCalls (KC B0 w0) 94 [u32 a,u32 b] H (Same (u32 (a * b % 4294967296)) H):=by
 refine cI Tryz.func94 rfl (n:=8) rfl rfl rfl ?_
 refine gao ?_
 refine oP (Pure.mulW rfl rfl) rfl ?_
 refine gak ?_
 exact retS rfl (zra rfl) (u32_eq (by rw[wrapU,←Int.natCast_mul];generalize a * b=q;omega)) zhr
theorem b6_spec (ha:a<4294967296) (hb:b<4294967296):LCalls (KC B0 w0) 98 [u32 a,u32 b] H (Same (u32 (a ^^^ b)) H):=by
 refine cI Tryz.func98 rfl (n:=8) rfl rfl rfl ?_
 refine gao ?_
 refine oP (Pure.xorW rfl rfl) rfl ?_
 refine gak ?_
 exact retS rfl (zra rfl) (u32_eq (xor_u32 ha hb)) zhr
theorem b7_spec:LCalls (KC B0 w0) 99 [u32 a,u32 b] H (Same (u32 (if a<b then 1 else 0)) H):=by
 refine cI Tryz.func99 rfl (n:=8) rfl rfl rfl ?_
 refine gab ?_
 refine oC rfl (fun hc=>?_) (fun hc=>?_)
 ·have h1:a<b:=by have:=zt hc;omega
  refine gas ?_
  exact retS rfl (zra rfl) (by rw[if_pos h1];try rfl) zhr
 ·have h1:¬ a<b:=by have:=zf hc;omega
  refine gab ?_
  exact retS rfl (zra rfl) (by rw[if_neg h1];try rfl) zhr
theorem b4_spec (ha:a<4294967296):LCalls (KC B0 w0) 95 [u32 a,u32 b] H (fun r H'=>H'=H∧r=resM (if b=0 then none else some (a / b))):=by
 refine cI Tryz.func95 rfl (n:=11) rfl rfl rfl ?_
 refine gab ?_
 by_cases h0:b=0
 ·refine oS (S.check rfl (fun hb=>?_) (fun hb e' he'=>?_)) rfl
  ·simp[h0] at hb
  ·refine gah ?_
   exact RetPost.panic (he'.trans rfl) zhr ⟨rfl,by rw[if_pos h0];try rfl⟩
 ·refine oS (S.check rfl (fun hb=>?_) (fun hb e' he'=>?_)) rfl
  rotate_left
  ·simp[h0] at hb
  ·refine gan ?_
   refine oP (Pure.quoW rfl rfl zo) rfl ?_
   refine gak ?_
   refine rR rfl (zra rfl) zhr ⟨rfl,?_⟩
   rw[if_neg h0]
   exact congrArg LRes.ret (u32_eq (by rw[wrapU,Int.tdiv_eq_ediv_of_nonneg zo,←Int.natCast_ediv];have hq:a / b<4294967296:=Nat.lt_of_le_of_lt (Nat.div_le_self a b) ha;generalize a / b=q at hq ⊢;omega))
theorem b5_spec (ha:a<4294967296):LCalls (KC B0 w0) 97 [u32 a,u32 b] H (fun r H'=>H'=H∧r=resM (if b=0 then none else some (a % b))):=by
 refine cI Tryz.func97 rfl (n:=11) rfl rfl rfl ?_
 refine gab ?_
 by_cases h0:b=0
 ·refine oS (S.check rfl (fun hb=>?_) (fun hb e' he'=>?_)) rfl
  ·simp[h0] at hb
  ·refine gah ?_
   exact RetPost.panic (he'.trans rfl) zhr ⟨rfl,by rw[if_pos h0];try rfl⟩
 ·refine oS (S.check rfl (fun hb=>?_) (fun hb e' he'=>?_)) rfl
  rotate_left
  ·simp[h0] at hb
  ·refine gan ?_
   refine oP (Pure.remW rfl rfl zo) rfl ?_
   refine gak ?_
   refine rR rfl (zra rfl) zhr ⟨rfl,?_⟩
   rw[if_neg h0]
   exact congrArg LRes.ret (u32_eq (by rw[Int.tmod_eq_emod_of_nonneg zo,←Int.natCast_emod]))
theorem mbin_spec {c:Nat} (hc:c=43∨c=45∨c=42∨c=47∨c=37∨c=94∨c=60) (ha:a<4294967296) (hb:b<4294967296):∃ (j:Nat) (f:FuncId),Instr.findNow (.int .u32) (.int .u32 (c:Int)) binsE.toList 0=some (some (j,.func (.func f) #[] #[]))∧TEnter Tryz.prog f ∧
  ∀ H,LCalls (KC B0 w0) f [u32 a,u32 b] H (fun r H'=>H'=H∧r=resM (binM c a b)):=by
 rcases hc with rfl|rfl|rfl|rfl|rfl|rfl|rfl
 ·exact ⟨0,92,rfl,inferInstance,fun H=>LCalls.mono (b1_spec ha hb) fun r H' ⟨h1,h2⟩=>⟨h2,h1⟩⟩
 ·exact ⟨1,93,rfl,inferInstance,fun H=>LCalls.mono (b2_spec ha hb) fun r H' ⟨h1,h2⟩=>⟨h2,h1⟩⟩
 ·exact ⟨2,94,rfl,inferInstance,fun H=>LCalls.mono (b3_spec ha hb) fun r H' ⟨h1,h2⟩=>⟨h2,h1⟩⟩
 ·exact ⟨3,95,rfl,inferInstance,fun H=>b4_spec ha⟩
 ·exact ⟨4,97,rfl,inferInstance,fun H=>b5_spec ha⟩
 ·exact ⟨5,98,rfl,inferInstance,fun H=>LCalls.mono (b6_spec ha hb) fun r H' ⟨h1,h2⟩=>⟨h2,h1⟩⟩
 ·exact ⟨6,99,rfl,inferInstance,fun H=>LCalls.mono (b7_spec) fun r H' ⟨h1,h2⟩=>⟨h2,h1⟩⟩
end
end Go.Proofs.YtpbbgkoalnonoaaGreatDoor.Mch
