/- Texts joined: ChkW8, ChkW9, ChkW10, Lex5, Lex6, ParP1, ParP2, ParP3. -/
import Derived.Test.YtpbbgkoalnonoaaGreatDoorBRowCA2
import Derived.Test.YtpbbgkoalnonoaaGreatDoorBRowCA3
import Derived.Test.YtpbbgkoalnonoaaGreatDoorBRowCA5
set_option linter.unusedVariables false
set_option linter.unusedSimpArgs false
set_option maxRecDepth 100000
set_option maxHeartbeats 4000000
namespace Go.Proofs.YtpbbgkoalnonoaaGreatDoor.Chk
open Go.GL Go.RowKit Go.Stele
theorem form_idx0 {kind:Int} {name:List UInt8} {index value:List Ex} {thn els:List Sm} (h:formS (.mk kind name index value thn els)=true) (h2:¬ kind=2):index=[]:=by
 have h1:index.length=0:=by
  simp only[formS] at h
  repeat' (split at h)
  all_goals first
   |(simp only[zDe] at h;omega)
   |cases h
   |contradiction
 exact List.length_eq_zero_iff.1 h1
theorem form_none {kind:Int} {name:List UInt8} {index value:List Ex} {thn els:List Sm} (h:formS (.mk kind name index value thn els)=true) (h3:¬ kind=3) (h4:¬ kind=4):thn=[]∧els=[]:=by
 have h1:thn.length=0∧els.length=0:=by
  simp only[formS] at h
  repeat' (split at h)
  all_goals first
   |(simp only[zDe] at h;constructor <;> omega)
   |cases h
   |contradiction
 exact ⟨List.length_eq_zero_iff.1 h1.1,List.length_eq_zero_iff.1 h1.2⟩
theorem form_seven {name:List UInt8} {index value:List Ex} {thn els:List Sm} (h:formS (.mk 7 name index value thn els)=true):value=[]:=by
 have h1:value.length=0:=by
  simp only[formS] at h
  repeat' (split at h)
  all_goals first
   |(simp only[zDe] at h;omega)
   |cases h
   |contradiction
 exact List.length_eq_zero_iff.1 h1
attribute [local irreducible] LOps LCode LStep LCalls Go.GL.Pure QThen QBlock RetPost LQ LAny LLate LLateOp LS
section
variable {B0:Nat} {w0:World}
def StmtH (B0:Nat) (w0:World) (k:KB) (c:CEnv) (n:Nat):Prop:=∀ (x:Sm) (d:Nat),ndS x≤n→d≤200000000→LCalls (KC B0 w0) 217 [ptr k.cb 0,encS x] (ckH k d) (PostK (errS c x) (iv (needS c x)) (ckH k (max d (depS c x))))
def StmtsH (B0:Nat) (w0:World) (k:KB) (c:CEnv) (n:Nat):Prop:=∀ (l:List Sm) (d:Nat),ndSs l≤n→d≤200000000→LCalls (KC B0 w0) 167 [ptr k.cb 0,.list (l.map encS)] (ckH k d) (PostK (errSs c l) (iv (needSs c l)) (ckH k (max d (depSs c l))))
theorem stmts_spec {k:KB} {c:CEnv} {B D:Nat} (hB:KnB B D c.funcs) (hD8:D≤100000000) {n:Nat} (hn6:n≤2000000) (ih:StmtH B0 w0 k c n):StmtsH B0 w0 k c n:=by
 intro l d hnd hd
 have hal:=ndSs_len l
 generalize hN:needSs c l=N
 generalize hDD:max d (depSs c l)=DD
 refine cI Tryz.func167 rfl (n:=21) rfl rfl rfl ?_
 refine gaa ?_
 refine oL (fun kk ls H'=>∃ (pre l1:List Sm) (m d1:Nat),l=pre++l1∧kk=l1.length∧ls=[(0,ptr k.cb 0),(5,iv m),(8,.list (l.map encS)),(9,int .i64 ((l.map encS).length:Int)),(10,iv pre.length)]∧H'=ckH k d1∧d1≤200000000∧errSs c l1=errSs c l∧max m (needSs c l1)=N∧max d1 (depSs c l1)=DD)
  ⟨l.length,_,_,⟨[],l,0,d,rfl,rfl,rfl,rfl,hd,rfl,by omega,hDD⟩,⟨rfl,rfl,rfl,rfl,rfl,trivial⟩,zhR _⟩ ?_
 rintro kk ls H' ⟨pre,l1,m,d1,hLe,rfl,rfl,rfl,hd1,hE,hM,hD1⟩ j hj
 have hb2:pre.length≤2000000:=by
  have:=congrArg List.length hLe
  rw[zLa] at this
  omega
 refine gah ?_
 refine oC rfl (fun hc=>?_) (fun hc=>?_)
 ·have hlen:=zt hc
  rw[zLm,hLe,zLa] at hlen
  obtain ⟨a,l2,rfl⟩:∃ a l2,l1=a::l2:=by
   cases l1 with
   |nil=>simp at hlen
   |cons a l2=>exact ⟨a,l2,rfl⟩
  have ham:ndS a≤n:=by
   have h1:∀ (p:List Sm) (x:Sm) (r:List Sm),ndS x≤ndSs (p++x::r):=fun p=>by
    induction p with
    |nil=>intro x r;show ndS x≤ndSs (x::r);rw[ndSs];omega
    |cons y p ih2=>intro x r;show ndS x≤ndSs (y::(p++x::r));rw[ndSs];have:=ih2 x r;omega
   have:=h1 pre a l2
   rw[←hLe] at this
   omega
  rw[errSs] at hE
  rw[needSs] at hM
  rw[depSs] at hD1
  have hda:=depS_le B D c hB a
  refine gak ?_
  refine oP (xR (el':=encS a) (cs:=[_,_,_,_,_,_]) rfl rfl zo (by rw[hLe];exact get_mid encS pre a l2) rfl rfl) rfl ?_
  refine gac ?_
  refine oS (sA fun b7=>?_) rfl
  refine gab ?_
  refine oS (S.callK [_,_] rfl (Inp.swap1) (ih a d1 ham hd1) (fun h0=>?_) (fun nm h0 e' he'=>?_)) rfl
  ·rw[h0] at hE
   refine oP (Pure.max2e m (needS c a) rfl rfl rfl rfl) rfl ?_
   refine gat ?_
   exact ⟨l2.length,_,_,Nat.lt_succ_self _,⟨pre++[a],l2,max m (needS c a),max d1 (depS c a),by rw[hLe];simp,rfl,rfl,rfl,by omega,hE,by omega,by omega⟩,⟨rfl,rfl,rfl,rfl,int_eq (by simp),trivial⟩,hsub_left,hj⟩
  ·refine gag ?_
   exact panK (he'.trans hj) (by rw[←hE];unfold orE;rw[if_pos h0]) h0
 ·have hlen:=zf hc
  rw[zLm,hLe,zLa] at hlen
  obtain rfl:l1=[]:=by
   cases l1 with
   |nil=>rfl
   |cons a l2=>simp at hlen;omega
  rw[needSs] at hM
  rw[depSs] at hD1
  have e1:m=N:=by omega
  have e2:d1=DD:=by omega
  subst e1 e2
  refine gaa ?_
  exact retK hj (zra rfl) (hE.symm.trans rfl) rfl zhr
theorem stmt_spec {k:KB} {c:CEnv} (hk:KBok k c) {B D:Nat} (hB:KnB B D c.funcs) (hB8:B≤50000000) (hD8:D≤100000000):∀ n:Nat,n≤2000000→StmtH B0 w0 k c n
 |0,_=>fun x d h _=>by have:=ndS_pos x;omega
 |n+1,hn6=>by
  have ihs:=stmts_spec (B0:=B0) (w0:=w0) hB hD8 (n:=n) zo (stmt_spec hk hB hB8 hD8 n zo)
  have hX:ExprH B0 w0 k c n:=expr_spec hk hB zo hD8 n zo
  intro x d hnd hd
  obtain ⟨kind,name,index,value,thn,els⟩:=x
  rw[ndS] at hnd
  generalize hI:errS c (Sm.mk kind name index value thn els)=E
  rw[errS] at hI
  generalize hN:needS c (Sm.mk kind name index value thn els)=N
  rw[needS] at hN
  generalize hDD:max d (depS c (Sm.mk kind name index value thn els))=DD
  rw[depS] at hDD
  have hfs:=formed_spec (B0:=B0) (w0:=w0) (Sm.mk kind name index value thn els)
  rw[encS_mk] at hfs ⊢
  refine cI Tryz.func217 rfl (n:=65) rfl rfl rfl ?_
  refine gaf ?_
  refine oS (S.box rfl fun b3=>?_) rfl
  refine gad ?_
  refine LCode.midC (A:=Unit) (fun _=>[(0,ptr k.cb 0),(3,ptr b3 0)]) (fun _=>(b3,.cells 102 [int .i64 kind,str name,.list (index.map encE),.list (value.map encE),.list (thn.map encS),.list (els.map encS)])::ckH k d) (fun _=>formS (Sm.mk kind name index value thn els)=true) ?_ (fun _ hform j hj=>?_)
  ·refine LCode.draw (m:=7) rfl [(b3,.cells 102 [int .i64 kind,str name,.list (index.map encE),.list (value.map encE),.list (thn.map encS),.list (els.map encS)]),(k.cb,.cells 113 [.atom (.map (some k.gm)),.atom (.map (some k.vm)),.atom (.map (some k.am)),.atom (.map (some k.fm)),str k.name,.atom (.map (some k.om)),int .i64 (d:Int)])] ?_
   refine aT 0 rfl rfl (Pure.ldHAgg (cs':=[_,_,_,_,_,_]) rfl zm0 rfl rfl) ?_
   refine aT 2 rfl rfl (pM (lv:=.atom _) rfl) ?_
   refine aT 3 rfl rfl (pN rfl) ?_
   refine aT 4 rfl rfl (pF rfl) ?_
   refine aT 5 rfl rfl (pL (c:=.atom _) rfl zm1 rfl) ?_
   refine LAny.late ?_ (zhP pH zhp)
   refine lO 1 (lS (H1:=[]) rfl (.inl rfl) rfl zpr (zhP pH zhp) (sF [_] rfl hfs ?_))
   cases hf:formS (Sm.mk kind name index value thn els) with
   |true=>
    refine lO 6 (lS (H1:=[]) rfl (.inl rfl) rfl zpr (zhP pH zhp) (LStep.callK [_,_,_] rfl (req_spec true k.name 3 zDd) (fun _=>?_) (fun nm h=>absurd rfl h)))
    refine lD zk ?_
    refine qN ?_
    exact ⟨(),rfl,⟨rfl,rfl,trivial⟩,zhR _,rfl⟩
   |false=>
    rw[hf,if_pos rfl] at hI
    refine lO 6 (lS (H1:=[]) rfl (.inl rfl) rfl zpr (zhP pH zhp) (LStep.callK [_,_,_] rfl (req_spec false k.name 3 zDd) (fun h=>absurd h zDd) (fun nm _ e' he'=>?_)))
    refine gap ?_
    exact panK (he'.trans rfl) (by rw[←hI];rfl) zDd
  rw[hform,if_neg zDd] at hI
  refine gaa ?_
  by_cases h7:kind=7
  ·subst h7
   obtain rfl:=form_seven hform
   obtain rfl:=form_idx0 hform zDd
   obtain ⟨rfl,rfl⟩:=form_none hform zDd zDd
   refine oC rfl (fun _=>?_) (fun hc=>by cases hc)
   refine gao ?_
   have e2:d=DD:=by
    rw[←hDD]
    simp only[depEs,depSs]
    omega
   subst e2
   exact retK hj (zra rfl) (by rw[←hI];rfl) (by rw[←hN];rfl) (zhD zhr)
  refine oC rfl (fun hc=>absurd (zt hc) h7) (fun _=>?_)
  obtain ⟨x0,rfl⟩:=Inp.form_value hform h7
  rw[if_neg h7] at hN
  have hnx:ndE x0≤n:=by
   rw[ndEs,ndEs] at hnd
   omega
  have hdx:=depE_le B D c hB x0
  have hnx0:=needE_le B D c hB x0
  have hEv:∀ E2,orE (errEs c [x0]) E2=orE (errE c x0) E2:=fun E2=>by
   rw[errEs,errEs]
   unfold orE
   by_cases h:errE c x0≠0
   ·rw[if_pos h,if_pos h]
   ·rw[if_neg h,if_neg zDd,if_neg h]
  rw[hEv] at hI
  rw[show ([x0]:List Ex).headD default=x0 from rfl] at hN
  have hDx:depEs c [x0]=depE c x0:=by
   rw[depEs,depEs]
   omega
  rw[hDx] at hDD
  refine gaa ?_
  refine oP (xR (el':=encE x0) (cs:=[_,_,_,_]) rfl rfl zo rfl rfl rfl) rfl ?_
  refine gaq ?_
  refine oS (S.callK [_,_] rfl (Inp.swap1) (hX x0 d hnx hd) (fun h0=>?_) (fun nm h0 e' he'=>?_)) rfl
  rotate_left
  ·refine gap ?_
   exact panK (he'.trans hj) (by rw[←hI];unfold orE;rw[if_pos h0]) h0
  rw[h0,show ∀ E2,orE 0 E2=E2 from fun E2=>rfl] at hI
  generalize hd1:max d (depE c x0)=d1
  refine LOps.perm (Inp.swap1 (H:=ckH k d1)).symm ?_
  refine gaa ?_
  by_cases hk1:kind=1
  ·subst hk1
   obtain rfl:=form_idx0 hform zDd
   obtain ⟨rfl,rfl⟩:=form_none hform zDd zDd
   have hI4:scalarE c name=E:=by
    rw[←hI]
    simp only[errEs,errSs]
    unfold orE
    by_cases ha:scalarE c name=0 <;> simp[ha]
   refine oC rfl (fun _=>?_) (fun hc=>by cases hc)
   refine gaa ?_
   refine oS (S.callK [_,_] rfl (Inp.swap1) (scalar_spec hk d1 name) (fun h1=>?_) (fun nm h1 e' he'=>?_)) rfl
   ·rw[hI4] at h1
    refine gaa ?_
    refine oP (Pure.max2e 2 (needE c x0) rfl rfl rfl rfl) rfl ?_
    refine gae ?_
    have e2:d1=DD:=by
     rw[←hDD,←hd1]
     simp only[depEs,depSs]
     omega
    subst e2
    refine retK hj (zra rfl) h1 ?_ hsub_left
    rw[←hN]
    simp only[needSs]
    exact int_eq (by simp)
   ·refine gag ?_
    exact panK (he'.trans hj) hI4.symm h1
  refine oC rfl (fun hc=>absurd (zt hc) hk1) (fun _=>?_)
  rw[if_neg hk1] at hI
  refine gas ?_
  by_cases hk2:kind=2
  ·subst hk2
   obtain ⟨i0,rfl⟩:=Inp.form_index hform
   obtain ⟨rfl,rfl⟩:=form_none hform zDd zDd
   have hni:ndE i0≤n:=by
    rw[ndEs,ndEs,ndEs,ndEs] at hnd
    omega
   have hdi:=depE_le B D c hB i0
   have hni0:=needE_le B D c hB i0
   have hI4:orE (errE c i0) (arrayE c name)=E:=by
    rw[←hI]
    simp only[errEs,errSs]
    unfold orE
    by_cases ha:errE c i0=0 <;> by_cases hb:arrayE c name=0 <;> simp[ha,hb]
   refine oC rfl (fun _=>?_) (fun hc=>by cases hc)
   refine gaa ?_
   refine oP (xR (el':=encE i0) (cs:=[_,_,_,_]) rfl rfl zo rfl rfl rfl) rfl ?_
   refine gaq ?_
   refine oS (S.callK [_,_] rfl (Inp.swap1) (hX i0 d1 hni zo) (fun h1=>?_) (fun nm h1 e' he'=>?_)) rfl
   rotate_left
   ·refine gag ?_
    exact panK (he'.trans hj) (by rw[←hI4];unfold orE;rw[if_pos h1]) h1
   rw[h1] at hI4
   refine LOps.perm (Inp.swap1 (H:=ckH k (max d1 (depE c i0)))).symm ?_
   refine gaa ?_
   refine oS (S.callK [_,_] rfl (Inp.swap1) (array_spec hk (max d1 (depE c i0)) name) (fun h2=>?_) (fun nm h2 e' he'=>?_)) rfl
   ·refine gaa ?_
    refine oP (Pure.max2e (needE c x0) (2+needE c i0) rfl rfl rfl zo) rfl ?_
    refine gae ?_
    have e2:max d1 (depE c i0)=DD:=by
     rw[←hDD,←hd1]
     simp only[depEs,depSs]
     omega
    rw[←e2]
    exact retK hj (zra rfl) (hI4.symm.trans h2) (by rw[←hN];rfl) hsub_left
   ·refine gag ?_
    exact panK (he'.trans hj) hI4.symm h2
  refine oC rfl (fun hc=>absurd (zt hc) hk2) (fun _=>?_)
  obtain rfl:=form_idx0 hform hk2
  rw[if_neg hk2] at hI hN
  refine gas ?_
  by_cases hk5:kind=5
  ·subst hk5
   obtain ⟨rfl,rfl⟩:=form_none hform zDd zDd
   refine oC rfl (fun _=>?_) (fun hc=>by cases hc)
   refine gaa ?_
   have e2:d1=DD:=by
    rw[←hDD,←hd1]
    simp only[depEs,depSs]
    omega
   subst e2
   exact retK hj (zra rfl) (by rw[←hI];rfl) (by rw[←hN];rfl) (zhD zhr)
  refine oC rfl (fun hc=>absurd (zt hc) hk5) (fun _=>?_)
  rw[if_neg hk5] at hN
  have hI5:orE (errSs c thn) (errSs c els)=E:=by
   rw[←hI]
   simp only[errEs]
   rfl
  refine gas ?_
  by_cases hk3:kind=3
  ·refine oC rfl (fun _=>?_) (fun hc=>absurd hk3 (zf hc))
   refine gar ?_
   refine oC rfl (fun _=>?_) (fun hc=>absurd hk3 (zf hc))
   refine LCode.draw (m:=11) rfl [(b3,.cells 102 [int .i64 kind,str name,.list (([]:List Ex).map encE),.list ([x0].map encE),.list (thn.map encS),.list (els.map encS)])] ?_
   refine aT 0 rfl rfl (pM (lv:=.atom _) rfl) ?_
   refine aT 1 rfl rfl (pM (lv:=.atom _) rfl) ?_
   refine aT 2 rfl rfl (pF rfl) ?_
   refine aT 3 rfl rfl (pL (c:=.list _) rfl zm0 rfl) ?_
   refine aT 5 rfl rfl (pM (lv:=.atom _) rfl) ?_
   refine aT 6 rfl rfl (pF rfl) ?_
   refine aT 7 rfl rfl (pL (c:=.list _) rfl zm0 rfl) ?_
   refine LAny.late ?_ zhp
   refine lO 4 (lS (H1:=ckH k d1) rfl (.inl rfl) rfl Inp.swap1 zhr (LStep.callK [_,_] rfl (ihs thn d1 (by rw[ndEs,ndEs,ndEs] at hnd;omega) zo) (fun h1=>?_) (fun nm h1 e' he'=>?_)))
   rotate_left
   ·refine gag ?_
    exact panK (he'.trans hj) (by rw[←hI5];unfold orE;rw[if_pos h1]) h1
   rw[h1] at hI5
   have hdt:=depSs_le B D c hB thn
   refine lO 8 (lS (H1:=ckH k (max d1 (depSs c thn))) rfl (.inl rfl) rfl zpr zhr (LStep.callK [_,_] rfl (ihs els (max d1 (depSs c thn)) (by rw[ndEs,ndEs,ndEs] at hnd;omega) zo) (fun h2=>?_) (fun nm h2 e' he'=>?_)))
   rotate_left
   ·refine gag ?_
    exact panK (he'.trans hj) hI5.symm h2
   refine lO 9 (lH rfl rfl (Pure.max3e (needE c x0) (needSs c thn) (needSs c els) rfl rfl rfl rfl rfl rfl) ?_)
   refine lO 10 (lH rfl rfl (pA (lv:=.atom _) rfl) ?_)
   refine lD zk ?_
   refine gaa ?_
   refine oP (Pure.max2e 2 (max (max (needE c x0) (needSs c thn)) (needSs c els)) rfl rfl rfl rfl) rfl ?_
   refine gae ?_
   have e2:max (max d1 (depSs c thn)) (depSs c els)=DD:=by
    rw[←hDD,←hd1]
    simp only[depEs]
    omega
   rw[←e2]
   exact retK hj (zra rfl) (hI5.symm.trans h2) (by rw[←hN];rfl) hsub_left
  refine oC rfl (fun hc=>absurd (zt hc) hk3) (fun _=>?_)
  refine gas ?_
  by_cases hk4:kind=4
  ·refine oC rfl (fun _=>?_) (fun hc=>absurd hk4 (zf hc))
   refine LCode.draw (m:=11) rfl [(b3,.cells 102 [int .i64 kind,str name,.list (([]:List Ex).map encE),.list ([x0].map encE),.list (thn.map encS),.list (els.map encS)])] ?_
   refine aT 0 rfl rfl (pM (lv:=.atom _) rfl) ?_
   refine aT 1 rfl rfl (pM (lv:=.atom _) rfl) ?_
   refine aT 2 rfl rfl (pF rfl) ?_
   refine aT 3 rfl rfl (pL (c:=.list _) rfl zm0 rfl) ?_
   refine aT 5 rfl rfl (pM (lv:=.atom _) rfl) ?_
   refine aT 6 rfl rfl (pF rfl) ?_
   refine aT 7 rfl rfl (pL (c:=.list _) rfl zm0 rfl) ?_
   refine LAny.late ?_ zhp
   refine lO 4 (lS (H1:=ckH k d1) rfl (.inl rfl) rfl Inp.swap1 zhr (LStep.callK [_,_] rfl (ihs thn d1 (by rw[ndEs,ndEs,ndEs] at hnd;omega) zo) (fun h1=>?_) (fun nm h1 e' he'=>?_)))
   rotate_left
   ·refine gag ?_
    exact panK (he'.trans hj) (by rw[←hI5];unfold orE;rw[if_pos h1]) h1
   rw[h1] at hI5
   have hdt:=depSs_le B D c hB thn
   refine lO 8 (lS (H1:=ckH k (max d1 (depSs c thn))) rfl (.inl rfl) rfl zpr zhr (LStep.callK [_,_] rfl (ihs els (max d1 (depSs c thn)) (by rw[ndEs,ndEs,ndEs] at hnd;omega) zo) (fun h2=>?_) (fun nm h2 e' he'=>?_)))
   rotate_left
   ·refine gag ?_
    exact panK (he'.trans hj) hI5.symm h2
   refine lO 9 (lH rfl rfl (Pure.max3e (needE c x0) (needSs c thn) (needSs c els) rfl rfl rfl rfl rfl rfl) ?_)
   refine lO 10 (lH rfl rfl (pA (lv:=.atom _) rfl) ?_)
   refine lD zk ?_
   refine gaa ?_
   refine oP (Pure.max2e 2 (max (max (needE c x0) (needSs c thn)) (needSs c els)) rfl rfl rfl rfl) rfl ?_
   refine gae ?_
   have e2:max (max d1 (depSs c thn)) (depSs c els)=DD:=by
    rw[←hDD,←hd1]
    simp only[depEs]
    omega
   rw[←e2]
   exact retK hj (zra rfl) (hI5.symm.trans h2) (by rw[←hN];rfl) hsub_left
  refine oC rfl (fun hc=>absurd (zt hc) hk4) (fun _=>?_)
  obtain ⟨rfl,rfl⟩:=form_none hform hk3 hk4
  refine gaa ?_
  refine oP (Pure.max2e 2 (needE c x0) rfl rfl rfl rfl) rfl ?_
  refine gae ?_
  have e2:d1=DD:=by
   rw[←hDD,←hd1]
   simp only[depEs,depSs]
   omega
  subst e2
  refine retK hj (zra rfl) (by rw[←hI5];rfl) ?_ (zhD zhr)
  rw[←hN]
  simp only[needSs]
  exact int_eq (by simp)
end
end Go.Proofs.YtpbbgkoalnonoaaGreatDoor.Chk
namespace Go.Proofs.YtpbbgkoalnonoaaGreatDoor.Chk
open Go.GL Go.RowKit Go.Stele
theorem hsub_right {X A L:Heap} (h:HSub X L):HSub X (A++L):=
 let ⟨G,hG⟩:=h
 ⟨A++G,(List.Perm.append_left A hG).trans (by
  rw[←zAs,←zAs]
  exact zPc.append_right G)⟩
def pgH (k:KB) (o:Value) (d:Nat):Heap:=[(k.cb,.cells 113 [.atom (.map (some k.gm)),.atom (.map (some k.vm)),.atom (.map (some k.am)),.atom (.map (some k.fm)),str k.name,.atom o,int .i64 (d:Int)]),(k.gm,.map (kvs k.G) k.g1),(k.vm,.map (kvs k.V) k.g2),(k.am,.map (kvs k.A) k.g3),(k.fm,.map (kvs k.F) k.g4)]
def PostE (err:Int) (P:Heap→Prop) (r:LRes) (H:Heap):Prop:=(err=0∧r=.ret (.tuple [])∧P H)∨(err≠0∧(∃ nm,r=.panic (vio nm err))∧H=[])
section
variable {C:Ctx} {n:Nat} {e:Env} {H:Heap} {dst:Option Nat} {ty:TypeId} {pos:String} {aft:Array Edge} {g:Option (Nat×Bool)} {K:LV→Heap→Prop} {X:List PanicEntry→Heap→Prop}
theorem S.callE {err:Int} {P:Heap→Prop} {H1 F:Heap} {f:FuncId} [TEnter C.P f] (args:List Operand) {ats:Array TypeId} {av:List LV} (has:args.map e.ev=av) (hp:H.Perm (H1++F))
  (hc:LCalls C f av H1 (PostE err P)) (hk:∀ H',err=0→P H'→K (.tuple []) (H'++F)) (hx:∀ nm,err≠0→X (vio nm err) F):LStep C ⟨dst,.call { callee:=.value (.func f),args:=args.toArray,argTypes:=ats },ty,pos,aft,g⟩ e H K X:=by
 refine S.callH args has hp hc ?_ ?_
 ·rintro v H2 (⟨h1,h2,h3⟩|⟨_,⟨nm,h2⟩,_⟩)
  ·cases h2
   exact hk _ h1 h3
  ·cases h2
 ·rintro ch H2 (⟨_,h2,_⟩|⟨h1,⟨nm,h2⟩,rfl⟩)
  ·cases h2
  ·cases h2
   exact hx nm h1
theorem retEn {err:Int} {P:Heap→Prop} {H':Heap} {rs:List ResultVar} {vs:List LV} (hd:e.ds=[]) (h:AllRes C n e H rs vs) (he:err=0) (hv:resLV vs=.tuple []) (hH:HSub H' H) (hP:P H'):RetPost C n rs (PostE err P) .normal e H:=
 rO hd h hH (.inl ⟨he,by rw[hv],hP⟩)
theorem panE {err er:Int} {P:Heap→Prop} {rs:List ResultVar} {nm:List UInt8} (hd:e.ds=[]) (he:err=er) (h0:er≠0):RetPost C n rs (PostE err P) (.panic (vio nm er)) e H:=
 RetPost.panic hd zhn (.inr ⟨by rw[he];exact h0,⟨nm,by rw[he]⟩,rfl⟩)
end
def newE (known:List Nm) (s:Nm):Int:=if isNm s=false then 7 else if s∈known then 8 else 0
theorem freshE_cons (known:List Nm) (s:Nm) (l:List Nm):freshE known (s::l)=orE (newE known s) (freshE (s::known) l):=by
 rw[freshE]
 unfold newE
 split
 ·rfl
 split
 ·rfl
 ·rfl
theorem freshE_iff:∀ (l k k':List Nm),(∀ s,s∈k ↔ s∈k')→freshE k l=freshE k' l
 |[],_,_,_=>rfl
 |s::l,k,k',h=>by
  have h2:newE k s=newE k' s:=by
   unfold newE
   simp only[h s]
  rw[freshE_cons,freshE_cons,h2,freshE_iff l (s::k) (s::k') (fun x=>by simp[h x])]
attribute [local irreducible] LOps LCode LStep LCalls Go.GL.Pure QThen QBlock RetPost LQ LAny LLate LLateOp LS
section
variable {B0:Nat} {w0:World}
theorem global_spec {k:KB} {o:Value} {d:Nat} {known:List Nm} (hG:IsSet k.G known) (s:Nm):LCalls (KC B0 w0) 102 [ptr k.cb 0,str s] (pgH k o d)
  (PostE (newE known s) (fun H=>∃ g1,H=pgH { k with G:=GL.kvPut k.G s (bool true),g1:=g1 } o d)):=by
 generalize hI:newE known s=E
 unfold newE at hI
 refine cI Tryz.func102 rfl (n:=22) rfl rfl rfl ?_
 refine gaj ?_
 refine oS (sF [_] rfl (isName_spec s) ?_) rfl
 refine gav ?_
 cases hn:isNm s with
 |false=>
  rw[if_pos hn] at hI
  refine oS (S.callK (H1:=[]) (F:=pgH k o d) [_,_,_] rfl zpr (req_spec false s 7 zDd) (fun h=>absurd h zDd) (fun nm _ e' he'=>?_)) rfl
  refine gap ?_
  exact panE (he'.trans rfl) hI.symm zDd
 |true=>
  rw[if_neg (by rw[hn];decide)] at hI
  refine oS (S.callK (H1:=[]) (F:=pgH k o d) [_,_,_] rfl zpr (req_spec true s 7 zDd) (fun _=>?_) (fun nm h=>absurd rfl h)) rfl
  refine gab ?_
  refine oP (Pure.setHas rfl rfl zm1 hG) rfl ?_
  refine oB 13 rfl (fun h1=>?_) (fun h1=>?_)
  ·rw[if_pos (zt h1)] at hI
   refine gad ?_
   refine oS (S.callK (H1:=[]) (F:=pgH k o d) [_,_,_] rfl zpr (req_spec false s 8 zDd) (fun h=>absurd h zDd) (fun nm _ e' he'=>?_)) rfl
   refine gap ?_
   exact panE (he'.trans rfl) hI.symm zDd
  ·rw[if_neg (zf h1)] at hI
   refine gad ?_
   refine oS (S.callK (H1:=[]) (F:=pgH k o d) [_,_,_] rfl zpr (req_spec true s 8 zDd) (fun _=>?_) (fun nm h=>absurd rfl h)) rfl
   refine gab ?_
   refine oS (S.kvSet (k:=s) (lv:=bool true) rfl rfl rfl zp1 fun g1=>?_) rfl
   refine gae ?_
   exact retEn rfl rN hI.symm rfl ⟨[],by rw[zLz];exact List.Perm.swap _ _ _⟩ ⟨g1,rfl⟩
theorem function_spec {vars arrays later:List Nm} {known:List FSum} {k:KB} {o:Value} {d:Nat} (f:FnD) (hG:IsSet k.G (vars++arrays++later)) (hV:IsSet k.V vars) (hA:IsSet k.A arrays) (hF:∀ n,GL.kvGet k.F n=(known.find? fun g=>decide (g.name=n)).map encSum) (hnew:f.name ∉ known.map (·.name))
  {B D:Nat} (hB:KnB B D known) (hB8:B≤50000000) (hD8:D≤100000000) (hnd:ndF f≤2000000) :
  LCalls (KC B0 w0) 104 [ptr k.cb 0,encFn f] (pgH k o d)
  (PostE (errF vars arrays later known f) (fun H=>∃ nm o' d' F' g4,(∀ n,GL.kvGet F' n=((known++[sumF vars arrays later known f]).find? fun g=>decide (g.name=n)).map encSum)∧H=pgH { k with name:=nm,F:=F',g4:=g4 } o' d')):=by
 have hsm:=smF_of hnd
 have hp6:f.params.length≤2000000:=hsm.params
 have hl6:f.locals.length≤2000000:=hsm.locals
 have hbn:ndSs f.body≤2000000:=by
  unfold ndF at hnd
  omega
 generalize hI:errF vars arrays later known f=E
 unfold errF at hI
 refine cI Tryz.func104 rfl (n:=82) rfl rfl rfl ?_
 refine gaf ?_
 refine oS (S.box rfl fun b3=>?_) rfl
 refine gaa ?_
 refine oS (S.kvNew fun om=>?_) rfl
 refine gab ?_
 refine oS (sL (es:=[strsV f.params,strsV f.locals]) [_,_] rfl (zeC rfl rfl (zeC rfl rfl eN)) rfl rfl rfl ?_) rfl
 refine oS (S.callH (H1:=[]) (F:=_) [_] rfl zpr (concat_spec [f.params,f.locals] (by simp) (by
  intro l hl
  rcases zMi.1 hl with rfl|hl
  ·exact hp6
  ·rw[List.mem_singleton.1 hl]
   exact hl6)) ?_ (by rintro ch H' ⟨v,h,_⟩;cases h)) rfl
 rintro v2 Ha2 ⟨_,h,hacc2⟩
 cases h
 have hfl:[f.params,f.locals].flatten=f.params++f.locals:=by simp
 rw[hfl] at hacc2
 refine LOps.sub 24 rfl hacc2.sub ?_
 refine LOps.weak (H':=(b3,.cells 59 [str f.name,.list (f.params.map str),.list (f.locals.map str),.list (f.body.map encS)])::ckH { k with name:=f.name,om:=om,O:=[],g5:=0 } 1) ?_ ?_
 ·refine hsub_right ?_
  repeat first
   |exact HSub.nil _
   |refine zhP zb1 ?_
 refine gad ?_
 refine oL (fun kk ls H'=>∃ (pre l1:List Nm) (OO:KV) (gg:Nat),f.params++f.locals=pre++l1∧kk=l1.length∧ls=[(0,ptr k.cb 0),(3,ptr b3 0),(24,.list ((f.params++f.locals).map str)),(25,int .i64 (((f.params++f.locals).map str).length:Int)),(26,iv pre.length)] ∧
   H'=(b3,.cells 59 [str f.name,.list (f.params.map str),.list (f.locals.map str),.list (f.body.map encS)])::ckH { k with name:=f.name,om:=om,O:=OO,g5:=gg } 1∧IsSet OO pre∧orE (freshE (pre.reverse++(vars++arrays++later)) l1) (errSs (envF vars arrays later known f) f.body)=E)
  ⟨_,_,_,⟨[],f.params++f.locals,[],0,rfl,rfl,rfl,rfl,IsSet.nil,hI⟩,⟨rfl,rfl,rfl,rfl,rfl,trivial⟩,zhR _⟩ ?_
 rintro kk ls H' ⟨pre,l1,OO,gg,hLe,rfl,rfl,rfl,hO,hE⟩ j hj
 have hb2:pre.length≤4000000:=by
  have:=congrArg List.length hLe
  rw[zLa,zLa] at this
  omega
 refine gah ?_
 refine oC rfl (fun hc=>?_) (fun hc=>?_)
 ·have hlen:=zt hc
  rw[zLm,hLe,zLa] at hlen
  obtain ⟨s,l2,rfl⟩:∃ a l2,l1=a::l2:=by
   cases l1 with
   |nil=>simp at hlen
   |cons a l2=>exact ⟨a,l2,rfl⟩
  rw[freshE_cons] at hE
  generalize hEn:newE (pre.reverse++(vars++arrays++later)) s=En at hE
  unfold newE at hEn
  refine gak ?_
  refine oP (xR (el':=str s) (cs:=[str s]) rfl rfl zo (by rw[hLe];exact get_mid str pre s l2) rfl rfl) rfl ?_
  refine gab ?_
  refine oS (sF [_] rfl (isName_spec s) ?_) rfl
  refine gav ?_
  cases hn:isNm s with
  |false=>
   rw[if_pos hn] at hEn
   refine oS (S.callK (H1:=[]) (F:=_) [_,_,_] rfl zpr (req_spec false s 7 zDd) (fun h=>absurd h zDd) (fun nm _ e' he'=>?_)) rfl
   refine gag ?_
   exact panE (he'.trans hj) (by rw[←hE,←hEn];rfl) zDd
  |true=>
   rw[if_neg (by rw[hn];decide)] at hEn
   refine oS (S.callK (H1:=[]) (F:=_) [_,_,_] rfl zpr (req_spec true s 7 zDd) (fun _=>?_) (fun nm h=>absurd rfl h)) rfl
   refine gab ?_
   refine oP (Pure.setHas rfl rfl zm2 hG) rfl ?_
   refine oB 39 rfl (fun h1=>?_) (fun h1=>?_)
   ·have hin:s∈pre.reverse++(vars++arrays++later):=List.mem_append_right _ (zt h1)
    rw[if_pos hin] at hEn
    refine gad ?_
    refine oS (S.callK (H1:=[]) (F:=_) [_,_,_] rfl zpr (req_spec false s 8 zDd) (fun h=>absurd h zDd) (fun nm _ e' he'=>?_)) rfl
    refine gag ?_
    exact panE (he'.trans hj) (by rw[←hE,←hEn];rfl) zDd
   refine gac ?_
   refine oP (Pure.setHas rfl rfl zm6 hO) rfl ?_
   refine oB 47 rfl (fun h2=>?_) (fun h2=>?_)
   ·have hin:s∈pre.reverse++(vars++arrays++later):=List.mem_append_left _ (List.mem_reverse.2 (zt h2))
    rw[if_pos hin] at hEn
    refine gad ?_
    refine oS (S.callK (H1:=[]) (F:=_) [_,_,_] rfl zpr (req_spec false s 8 zDd) (fun h=>absurd h zDd) (fun nm _ e' he'=>?_)) rfl
    refine gag ?_
    exact panE (he'.trans hj) (by rw[←hE,←hEn];rfl) zDd
   rw[if_neg (fun h=>(List.mem_append.1 h).elim (fun h=>zf h2 (List.mem_reverse.1 h)) (zf h1))] at hEn
   subst hEn
   refine gad ?_
   refine oS (S.callK (H1:=[]) (F:=_) [_,_,_] rfl zpr (req_spec true s 8 zDd) (fun _=>?_) (fun nm h=>absurd rfl h)) rfl
   refine gab ?_
   refine oS (S.kvSet (k:=s) (lv:=bool true) rfl rfl rfl zp6 fun gg2=>?_) rfl
   refine gal ?_
   exact ⟨l2.length,_,_,Nat.lt_succ_self _,⟨pre++[s],l2,GL.kvPut OO s (bool true),gg2,by rw[hLe];simp,rfl,rfl,rfl,hO.add s,by
    rw[←hE]
    rw[freshE_iff l2 ((pre++[s]).reverse++(vars++arrays++later)) (s::(pre.reverse++(vars++arrays++later))) (fun x=>by simp)]
    rfl⟩,⟨rfl,rfl,rfl,rfl,int_eq (by simp),trivial⟩,by
    repeat first
     |exact HSub.nil _
     |refine zhP zb1 ?_,hj⟩
 have hlen:=zf hc
 rw[zLm,hLe,zLa] at hlen
 obtain rfl:l1=[]:=by
  cases l1 with
  |nil=>rfl
  |cons a l2=>simp at hlen;omega
 rw[zLz] at hLe
 rw[←hLe] at hO
 have hE2:errSs (envF vars arrays later known f) f.body=E:=by rw[←hE];rfl
 have hkb:KBok { k with name:=f.name,om:=om,O:=OO,g5:=gg } (envF vars arrays later known f):=⟨hG,hV,hA,hO,hF⟩
 have hss:=stmts_spec (B0:=B0) (w0:=w0) (k:={ k with name:=f.name,om:=om,O:=OO,g5:=gg }) (c:=envF vars arrays later known f) hB hD8 (n:=2000000) (zNr _) (stmt_spec hkb hB hB8 hD8 2000000 (zNr _)) f.body 1 hbn zDd
 have hnb:=needSs_le B D (envF vars arrays later known f) hB f.body
 have hdb:=depSs_le B D (envF vars arrays later known f) hB f.body
 refine gaa ?_
 refine oS (S.callK [_,_] rfl (Inp.swap1) hss (fun h0=>?_) (fun nm h0 e' he'=>?_)) rfl
 rotate_left
 ·refine gap ?_
  exact panE (he'.trans hj) hE2.symm h0
 refine LOps.perm (Inp.swap1 (H:=ckH _ _)).symm ?_
 refine gae ?_
 have hpl:(f.params.map str).length≤2000000:=by rw[zLm];exact hp6
 refine LCode.tail 20 zk ?_
 refine gac ?_
 refine LS.pure (Pure.max3e 2 (f.params.length+1) (needSs (envF vars arrays later known f) f.body) rfl rfl rfl rfl (by rw[zLm];omega) rfl) rfl ?_
 refine gac ?_
 refine oS (S.kvSet (k:=f.name) (lv:=.agg [int .i64 ((f.params.map str).length:Int),int .i64 (max (max 2 (f.params.length+1)) (needSs (envF vars arrays later known f) f.body):Nat),int .i64 (max 1 (depSs (envF vars arrays later known f) f.body):Nat)]) rfl rfl rfl zp5 fun g4=>?_) rfl
 refine gae ?_
 refine retEn hj rN (hE2.symm.trans h0) rfl (H':=pgH { k with name:=f.name,F:=GL.kvPut k.F f.name (.agg [int .i64 ((f.params.map str).length:Int),int .i64 (max (max 2 (f.params.length+1)) (needSs (envF vars arrays later known f) f.body):Nat),int .i64 (max 1 (depSs (envF vars arrays later known f) f.body):Nat)]),g4:=g4 } (.map (some om)) (max 1 (depSs (envF vars arrays later known f) f.body))) ?hs ⟨f.name,_,_,_,g4,fun n=>?kv,rfl⟩
 case hs=>
  repeat first
   |exact HSub.nil _
   |refine zhP zb1 ?_
 case kv=>
  rw[GL.kvGet_put,hF n,List.find?_append]
  by_cases h1:f.name=n
  ·rw[if_pos h1]
   have h2:(known.find? fun g=>decide (g.name=n))=none:=by
    rw[List.find?_eq_none]
    intro g hg
    simp only[zDe]
    intro h3
    exact hnew (by rw[h1,←h3];exact List.mem_map_of_mem hg)
   rw[h2,Option.none_or]
   have h4:([sumF vars arrays later known f].find? fun g=>decide (g.name=n))=some (sumF vars arrays later known f):=by
    rw[List.find?_cons_of_pos]
    exact decide_eq_true h1
   rw[h4]
   show some _=some (encSum _)
   unfold encSum sumF
   rw[←zLm (f:=str)]
  ·rw[if_neg h1]
   have h4:([sumF vars arrays later known f].find? fun g=>decide (g.name=n))=none:=by
    rw[List.find?_eq_none]
    intro g hg
    rw[List.mem_singleton.1 hg]
    simp only[zDe]
    exact h1
   rw[h4,Option.or_none]
end
end Go.Proofs.YtpbbgkoalnonoaaGreatDoor.Chk
namespace Go.Proofs.YtpbbgkoalnonoaaGreatDoor.Chk
open Go.GL Go.RowKit Go.Stele
def encArG (a:Nm×Int):LV:=.agg [str a.1,int .i64 a.2]
def encPrG (vars:List Nm) (arrays:List (Nm×Int)) (fs:List FnD):LV:=.agg [.list (vars.map str),.list (arrays.map encArG),.list (fs.map encFn)]
theorem freshE_zero:∀ (l known:List Nm),freshE known l=0→l.Nodup∧(∀ s∈l,s ∉ known)∧∀ s∈l,isNm s=true
 |[],known,_=>⟨List.nodup_nil,fun s h=>(List.not_mem_nil h).elim,fun s h=>(List.not_mem_nil h).elim⟩
 |s::l,known,h=>by
  rw[freshE] at h
  split at h
  ·cases h
  rename_i h1
  split at h
  ·cases h
  rename_i h2
  obtain ⟨h3,h4,h5⟩:=freshE_zero l _ h
  refine ⟨List.nodup_cons.2 ⟨fun hm=>h4 s hm zMs,h3⟩,?_,?_⟩
  ·intro x hx
   rcases zMi.1 hx with rfl|hx
   ·exact h2
   ·exact fun hk=>h4 x hx (zMo _ hk)
  ·intro x hx
   rcases zMi.1 hx with rfl|hx
   ·simpa using h1
   ·exact h5 x hx
theorem isNm_short {s:Nm} (h:isNm s=true):s.length≤1000:=by
 unfold isNm at h
 simp only[zBa,zDe] at h
 omega
theorem orE_ne {a b:Int} (h:a≠0):orE a b=a:=by
 unfold orE
 exact if_pos h
theorem ndFs_append:∀ a b:List FnD,ndFs (a++b)=ndFs a+ndFs b
 |[],b=>by rw[List.nil_append,ndFs,Nat.zero_add]
 |x::a,b=>by rw[List.cons_append,ndFs,ndFs,ndFs_append a b];omega
theorem errFs_zero {vars arrays later:List Nm}:∀ (l:List FnD) (known:List FSum),errFs vars arrays later known l=0→∀ f∈l,∃ k,errF vars arrays later k f=0
 |[],_,_,f,h=>(List.not_mem_nil h).elim
 |g::l,known,h,f,hf=>by
  rw[errFs,orE_zero] at h
  rcases zMi.1 hf with rfl|hf
  ·exact ⟨known,h.1⟩
  ·exact errFs_zero l _ h.2 f hf
theorem errF_names {vars arrays later:List Nm} {k:List FSum} {f:FnD} (h:errF vars arrays later k f=0):∀ x∈f.params++f.locals,x.length≤1000:=by
 unfold errF at h
 rw[orE_zero] at h
 intro x hx
 exact isNm_short ((freshE_zero _ _ h.1).2.2 x hx)
theorem find_last {l:List FSum} {m:FSum} (hn:(l.map (·.name)).Nodup) (hm:l.getLast? = some m):(l.find? fun g=>decide (g.name=m.name))=some m:=by
 obtain ⟨ys,rfl⟩:=List.getLast?_eq_some_iff.1 hm
 rw[List.find?_append]
 have h1:(ys.find? fun g=>decide (g.name=m.name))=none:=by
  rw[List.find?_eq_none]
  intro g hg
  simp only[zDe]
  intro h2
  rw[zMa] at hn
  exact (List.nodup_append.1 hn).2.2 _ (List.mem_map_of_mem hg) _ (List.mem_map_of_mem (List.mem_singleton_self m)) h2
 rw[h1,Option.none_or,List.find?_cons_of_pos]
 exact decide_eq_true rfl
theorem sumFs_names {vars arrays later:List Nm}:∀ (l:List FnD) (known:List FSum),(sumFs vars arrays later known l).map (·.name)=known.map (·.name)++l.map (·.name)
 |[],known=>by rw[sumFs];simp
 |f::l,known=>by
  rw[sumFs,sumFs_names l]
  simp[sumF]
theorem fresh_step {pre l:List Nm} {s:Nm} {FR:Int} (h:freshE pre (s::l)=FR) (h0:newE pre s=0):freshE (pre++[s]) l=FR:=by
 rw[←h,freshE_cons,h0,freshE_iff l (pre++[s]) (s::pre) (fun x=>by simp[or_comm])]
 rfl
theorem fresh_bad {pre l:List Nm} {s:Nm} {FR RA E:Int} (hI:orE FR RA=E) (h:freshE pre (s::l)=FR) (h0:newE pre s≠0):E=newE pre s:=by
 rw[←hI,←h,freshE_cons,orE_ne (a:=orE _ _) (by rw[orE_ne h0];exact h0),orE_ne h0]
attribute [local irreducible] LOps LCode LStep LCalls Go.GL.Pure QThen QBlock RetPost LQ LAny LLate LLateOp LS
section
variable {B0:Nat} {w0:World}
theorem program_spec {k:KB} {o:Value} {d:Nat} (vars:List Nm) (arrays:List (Nm×Int)) (fs:List FnD) (hk1:k.G=[]) (hk2:k.V=[]) (hk3:k.A=[]) (hk4:k.F=[]) (hv6:vars.length≤2000000) (ha6:arrays.length≤2000000) (har:∀ a∈arrays,-9223372036854775808≤a.2∧a.2<9223372036854775808) (hnd:ndFs fs≤2000000) :
  LCalls (KC B0 w0) 45 [ptr k.cb 0,encPrG vars arrays fs] (pgH k o d) (PostE (checkP vars arrays fs) (fun H=>H=[])):=by
 have hf6:fs.length≤2000000:=zNt (ndFs_len fs) hnd
 generalize hI:checkP vars arrays fs=E
 unfold checkP at hI
 generalize hFR:freshE [] (vars++arrays.map (·.1)++fs.map (·.name))=FR at hI
 generalize hSZ:sizesE 0 (arrays.map (·.2))=SZ at hI
 generalize hFS:errFs vars (arrays.map (·.1)) (fs.map (·.name)) [] fs=FS at hI
 generalize hSS:sumFs vars (arrays.map (·.1)) (fs.map (·.name)) [] fs=SS at hI
 generalize hMN:mainE vars fs SS=MN at hI
 generalize hRA:orE SZ (orE FS MN)=RA at hI
 refine cI Tryz.func45 rfl (n:=147) rfl rfl rfl ?_
 refine gaf ?_
 refine oS (S.box rfl fun b3=>?_) rfl
 refine gaa ?_
 refine oL (fun kk ls H'=>∃ (pre l1:List Nm) (G1 V1:KV) (g1 g2:Nat),vars=pre++l1∧kk=l1.length∧ls=[(0,ptr k.cb 0),(3,ptr b3 0),(18,.list (vars.map str)),(19,int .i64 ((vars.map str).length:Int)),(20,iv pre.length)] ∧
   H'=(b3,.cells 26 [.list (vars.map str),.list (arrays.map encArG),.list (fs.map encFn)])::pgH { k with G:=G1,g1:=g1,V:=V1,g2:=g2 } o d∧IsSet G1 pre∧IsSet V1 pre∧freshE pre (l1++arrays.map (·.1)++fs.map (·.name))=FR)
  ⟨_,_,_,⟨[],vars,k.G,k.V,k.g1,k.g2,rfl,rfl,rfl,rfl,by rw[hk1];exact IsSet.nil,by rw[hk2];exact IsSet.nil,hFR⟩,⟨rfl,rfl,rfl,rfl,rfl,trivial⟩,zhR _⟩ ?_
 rintro kk ls H' ⟨pre,l1,G1,V1,g1,g2,hLe,rfl,rfl,rfl,hG1,hV1,hE⟩ j hj
 have hb2:pre.length≤2000000:=by
  have:=congrArg List.length hLe
  rw[zLa] at this
  omega
 refine gah ?_
 refine oC rfl (fun hc=>?_) (fun hc=>?_)
 ·have hlen:=zt hc
  rw[zLm,hLe,zLa] at hlen
  obtain ⟨s,l2,rfl⟩:∃ a l2,l1=a::l2:=by
   cases l1 with
   |nil=>simp at hlen
   |cons a l2=>exact ⟨a,l2,rfl⟩
  rw[List.cons_append,List.cons_append] at hE
  refine gak ?_
  refine oP (xR (el':=str s) (cs:=[str s]) rfl rfl zo (by rw[hLe];exact get_mid str pre s l2) rfl rfl) rfl ?_
  refine gab ?_
  refine oS (S.callE (F:=[_]) [_,_] rfl (Inp.swap1) (global_spec (k:={ k with G:=G1,g1:=g1,V:=V1,g2:=g2 }) (o:=o) (d:=d) hG1 s) (fun H2 h0 hP=>?_) (fun nm h0 e' he'=>?_)) rfl
  rotate_left
  ·refine gag ?_
   exact panE (he'.trans hj) (fresh_bad hI hE h0) h0
  obtain ⟨g1',rfl⟩:=hP
  refine LOps.perm (Inp.swap1 (H:=pgH _ _ _)).symm ?_
  refine gab ?_
  refine oS (S.kvSet (k:=s) (lv:=bool true) rfl rfl rfl zp3 fun g2'=>?_) rfl
  refine gal ?_
  refine ⟨l2.length,_,_,Nat.lt_succ_self _,⟨pre++[s],l2,GL.kvPut G1 s (bool true),GL.kvPut V1 s (bool true),g1',g2',by rw[hLe];simp,rfl,rfl,rfl,hG1.add s,hV1.add s,fresh_step hE h0⟩,⟨rfl,rfl,rfl,rfl,int_eq (by simp),trivial⟩,?_,hj⟩
  repeat first
   |exact HSub.nil _
   |refine zhP zb1 ?_
 have hlen:=zf hc
 rw[zLm,hLe,zLa] at hlen
 obtain rfl:l1=[]:=by
  cases l1 with
  |nil=>rfl
  |cons a l2=>simp at hlen;omega
 rw[zLz] at hLe
 subst hLe
 rw[List.nil_append] at hE
 clear hlen hc hb2
 refine gaa ?_
 refine oL (fun kk ls H'=>∃ (pre l1:List (Nm×Int)) (G1 A1:KV) (g1 g3:Nat),arrays=pre++l1∧kk=l1.length∧ls=[(0,ptr k.cb 0),(3,ptr b3 0),(34,.list (arrays.map encArG)),(35,int .i64 ((arrays.map encArG).length:Int)),(36,iv pre.length)] ∧
   H'=(b3,.cells 26 [.list (vars.map str),.list (arrays.map encArG),.list (fs.map encFn)])::pgH { k with G:=G1,g1:=g1,V:=V1,g2:=g2,A:=A1,g3:=g3 } o d∧IsSet G1 (vars++pre.map (·.1))∧IsSet A1 (pre.map (·.1))∧freshE (vars++pre.map (·.1)) (l1.map (·.1)++fs.map (·.name))=FR)
  ⟨_,_,_,⟨[],arrays,G1,k.A,g1,k.g3,rfl,rfl,rfl,rfl,by simpa using hG1,by rw[hk3];exact IsSet.nil,by simpa using hE⟩,⟨rfl,rfl,rfl,rfl,rfl,trivial⟩,zhR _⟩ ?_
 clear hG1 hE G1 g1
 rintro kk ls H' ⟨pre,l1,G1,A1,g1,g3,hLe,rfl,rfl,rfl,hG1,hA1,hE⟩ j hj2
 have hb2:pre.length≤2000000:=by
  have:=congrArg List.length hLe
  rw[zLa] at this
  omega
 refine gah ?_
 refine oC rfl (fun hc=>?_) (fun hc=>?_)
 ·have hlen:=zt hc
  rw[zLm,hLe,zLa] at hlen
  obtain ⟨s,l2,rfl⟩:∃ a l2,l1=a::l2:=by
   cases l1 with
   |nil=>simp at hlen
   |cons a l2=>exact ⟨a,l2,rfl⟩
  rw[zMc,List.cons_append] at hE
  refine gak ?_
  refine oP (xR (el':=encArG s) (cs:=[str s.1,int .i64 s.2]) rfl rfl zo (by rw[hLe];exact get_mid encArG pre s l2) rfl rfl) rfl ?_
  refine gac ?_
  refine oS (sA fun b7=>?_) rfl
  refine gaa ?_
  refine oS (S.callE (F:=[_,_]) [_,_] rfl (zPc (l₁:=[_,_])) (global_spec (k:={ k with G:=G1,g1:=g1,V:=V1,g2:=g2,A:=A1,g3:=g3 }) (o:=o) (d:=d) hG1 s.1) (fun H2 h0 hP=>?_) (fun nm h0 e' he'=>?_)) rfl
  rotate_left
  ·refine gag ?_
   exact panE (he'.trans (hj2.trans hj)) (fresh_bad hI hE h0) h0
  obtain ⟨g1',rfl⟩:=hP
  refine LOps.weak (H':=[(b7,.cells 56 [str s.1,int .i64 s.2]),(k.cb,.cells 113 [.atom (.map (some k.gm)),.atom (.map (some k.vm)),.atom (.map (some k.am)),.atom (.map (some k.fm)),str k.name,.atom o,int .i64 (d:Int)]),(b3,.cells 26 [.list (vars.map str),.list (arrays.map encArG),.list (fs.map encFn)]),
   (k.gm,.map (kvs (GL.kvPut G1 s.1 (bool true))) g1'),(k.vm,.map (kvs V1) g2),(k.am,.map (kvs A1) g3),(k.fm,.map (kvs k.F) k.g4)]) ?_ ?_
  ·repeat first
    |exact HSub.nil _
    |refine zhP zb1 ?_
  refine gae ?_
  refine LCode.draw (m:=7) rfl [(b7,.cells 56 [str s.1,int .i64 s.2]),(k.cb,.cells 113 [.atom (.map (some k.gm)),.atom (.map (some k.vm)),.atom (.map (some k.am)),.atom (.map (some k.fm)),str k.name,.atom o,int .i64 (d:Int)])] ?_
  refine aT 0 rfl rfl (pM (lv:=.atom _) rfl) ?_
  refine aT 1 rfl rfl (pN rfl) ?_
  refine aT 2 rfl rfl (pF rfl) ?_
  refine aT 3 rfl rfl (pL (c:=.atom _) rfl zm1 rfl) ?_
  refine aT 4 rfl rfl (pF rfl) ?_
  refine aT 5 rfl rfl (pL (c:=.atom _) rfl zm0 rfl) ?_
  refine LAny.late ?_ (zhP pH zhp)
  refine lO 6 (lS (H1:=[(k.am,.map (kvs A1) g3)]) rfl (.inl rfl) rfl (show Pick _ _ _ from pT zp4) (zhP pH zhp) (S.kvSet (k:=s.1) (lv:=bool true) rfl rfl rfl pH fun g3'=>?_))
  refine lD zk ?_
  refine gal ?_
  refine ⟨l2.length,_,_,Nat.lt_succ_self _,⟨pre++[s],l2,GL.kvPut G1 s.1 (bool true),GL.kvPut A1 s.1 (bool true),g1',g3',by rw[hLe];simp,rfl,rfl,rfl,by simpa using hG1.add s.1,by simpa using hA1.add s.1,by simpa using fresh_step hE h0⟩,⟨rfl,rfl,rfl,rfl,int_eq (by simp),trivial⟩,?_,hj2⟩
  repeat first
   |exact HSub.nil _
   |refine zhP zb1 ?_
 have hlen:=zf hc
 rw[zLm,hLe,zLa] at hlen
 obtain rfl:l1=[]:=by
  cases l1 with
  |nil=>rfl
  |cons a l2=>simp at hlen;omega
 rw[zLz] at hLe
 subst hLe
 rw[List.map_nil,List.nil_append] at hE
 clear hlen hc hb2
 refine gaa ?_
 refine oL (fun kk ls H'=>∃ (pre l1:List FnD) (G1:KV) (g1:Nat),fs=pre++l1∧kk=l1.length∧ls=[(0,ptr k.cb 0),(3,ptr b3 0),(52,.list (fs.map encFn)),(53,int .i64 ((fs.map encFn).length:Int)),(54,iv pre.length)] ∧
   H'=(b3,.cells 26 [.list (vars.map str),.list (arrays.map encArG),.list (fs.map encFn)])::pgH { k with G:=G1,g1:=g1,V:=V1,g2:=g2,A:=A1,g3:=g3 } o d∧IsSet G1 (vars++arrays.map (·.1)++pre.map (·.name))∧freshE (vars++arrays.map (·.1)++pre.map (·.name)) (l1.map (·.name))=FR)
  ⟨_,_,_,⟨[],fs,G1,g1,rfl,rfl,rfl,rfl,by simpa using hG1,by simpa using hE⟩,⟨rfl,rfl,rfl,rfl,rfl,trivial⟩,zhR _⟩ ?_
 clear hG1 hE G1 g1
 rintro kk ls H' ⟨pre,l1,G1,g1,hLe,rfl,rfl,rfl,hG1,hE⟩ j hj3
 have hb2:pre.length≤2000000:=by
  have:=congrArg List.length hLe
  rw[zLa] at this
  omega
 refine gah ?_
 refine oC rfl (fun hc=>?_) (fun hc=>?_)
 ·have hlen:=zt hc
  rw[zLm,hLe,zLa] at hlen
  obtain ⟨s,l2,rfl⟩:∃ a l2,l1=a::l2:=by
   cases l1 with
   |nil=>simp at hlen
   |cons a l2=>exact ⟨a,l2,rfl⟩
  rw[zMc] at hE
  refine gak ?_
  refine oP (xR (el':=encFn s) (cs:=[_,_,_,_]) rfl rfl zo (by rw[hLe];exact get_mid encFn pre s l2) rfl rfl) rfl ?_
  refine gaq ?_
  refine oS (sA fun b7=>?_) rfl
  refine gab ?_
  refine oS (S.callE (F:=[_,_]) [_,_] rfl (zPc (l₁:=[_,_])) (global_spec (k:={ k with G:=G1,g1:=g1,V:=V1,g2:=g2,A:=A1,g3:=g3 }) (o:=o) (d:=d) hG1 s.name) (fun H2 h0 hP=>?_) (fun nm h0 e' he'=>?_)) rfl
  rotate_left
  ·refine gag ?_
   exact panE (he'.trans (hj3.trans (hj2.trans hj))) (fresh_bad hI hE h0) h0
  obtain ⟨g1',rfl⟩:=hP
  refine LOps.perm (zPc (l₂:=[_,_])) ?_
  refine gal ?_
  refine ⟨l2.length,_,_,Nat.lt_succ_self _,⟨pre++[s],l2,GL.kvPut G1 s.name (bool true),g1',by rw[hLe];simp,rfl,rfl,rfl,by simpa using hG1.add s.name,by simpa using fresh_step hE h0⟩,⟨rfl,rfl,rfl,rfl,int_eq (by simp),trivial⟩,zhD zhr,hj3⟩
 have hlen:=zf hc
 rw[zLm,hLe,zLa] at hlen
 obtain rfl:l1=[]:=by
  cases l1 with
  |nil=>rfl
  |cons a l2=>simp at hlen;omega
 rw[zLz] at hLe
 subst hLe
 have hFR0:FR=0:=hE.symm
 clear hlen hc hb2 hE
 rw[hFR0] at hI
 have hnod:=(freshE_zero _ _ (hFR.trans hFR0)).1
 have hnmok:=(freshE_zero _ _ (hFR.trans hFR0)).2.2
 have hI1:RA=E:=by rw[←hI];rfl
 rw[←hRA] at hI1
 clear hI hRA hFR
 have hPr:0≤(0:Int)∧(0:Int)≤150000:=⟨by decide,by decide⟩
 refine gaa ?_
 refine oL (fun kk ls H'=>∃ (pre l1:List (Nm×Int)) (T:Int),arrays=pre++l1∧kk=l1.length∧ls=[(0,ptr k.cb 0),(3,ptr b3 0),(10,int .i64 T),(64,.list (arrays.map encArG)),(65,int .i64 ((arrays.map encArG).length:Int)),(66,iv pre.length)] ∧
   H'=(b3,.cells 26 [.list (vars.map str),.list (arrays.map encArG),.list (fs.map encFn)])::pgH { k with G:=G1,g1:=g1,V:=V1,g2:=g2,A:=A1,g3:=g3 } o d∧(0≤T∧T≤150000)∧sizesE T (l1.map (·.2))=SZ)
  ⟨_,_,_,⟨[],arrays,0,rfl,rfl,rfl,rfl,hPr,hSZ⟩,⟨rfl,rfl,rfl,rfl,rfl,rfl,trivial⟩,zhR _⟩ ?_
 clear hSZ
 rintro kk ls H' ⟨pre,l1,T,hLe,rfl,rfl,rfl,⟨hT1,hT2⟩,hE⟩ j hj4
 have hb2:pre.length≤2000000:=by
  have:=congrArg List.length hLe
  rw[zLa] at this
  omega
 refine gah ?_
 refine oC rfl (fun hc=>?_) (fun hc=>?_)
 ·have hlen:=zt hc
  rw[zLm,hLe,zLa] at hlen
  obtain ⟨s,l2,rfl⟩:∃ a l2,l1=a::l2:=by
   cases l1 with
   |nil=>simp at hlen
   |cons a l2=>exact ⟨a,l2,rfl⟩
  obtain ⟨hs1,hs2⟩:=har s (by rw[hLe];exact List.mem_append_right _ zMs)
  rw[zMc,sizesE] at hE
  refine gak ?_
  refine oP (xR (el':=encArG s) (cs:=[str s.1,int .i64 s.2]) rfl rfl zo (by rw[hLe];exact get_mid encArG pre s l2) rfl rfl) rfl ?_
  refine gac ?_
  refine oS (sA fun b7=>?_) rfl
  refine gab ?_
  refine oB 72 rfl (fun h1=>?_) (fun h1=>?_)
  rotate_left
  ·have h2:s.2≤0:=by have:=zf h1;omega
   rw[if_pos h2] at hE
   refine oS (S.callK (H1:=[]) (F:=_) [_,_,_] rfl zpr (req_spec false s.1 2 zDd) (fun h=>absurd h zDd) (fun nm _ e' he'=>?_)) rfl
   refine gag ?_
   exact panE (he'.trans (hj4.trans (hj3.trans (hj2.trans hj)))) (by rw[←hI1,←hE];rfl) zDd
  have h2:¬ s.2≤0:=by have:=zt h1;omega
  rw[if_neg h2] at hE
  refine oS (S.callK (H1:=[]) (F:=_) [_,_,_] rfl zpr (req_spec true s.1 2 zDd) (fun _=>?_) (fun nm h=>absurd rfl h)) rfl
  refine gab ?_
  refine oB 80 rfl (fun h3=>?_) (fun h3=>?_)
  rotate_left
  ·have h4:150000-T<s.2:=by have:=zf h3;omega
   rw[if_pos h4] at hE
   refine oS (S.callK (H1:=[]) (F:=_) [_,_,_] rfl zpr (req_spec false s.1 6 zDd) (fun h=>absurd h zDd) (fun nm _ e' he'=>?_)) rfl
   refine gag ?_
   exact panE (he'.trans (hj4.trans (hj3.trans (hj2.trans hj)))) (by rw[←hI1,←hE];rfl) zDd
  have h4:¬ 150000-T<s.2:=by have:=zt h3;omega
  rw[if_neg h4] at hE
  refine oS (S.callK (H1:=[]) (F:=_) [_,_,_] rfl zpr (req_spec true s.1 6 zDd) (fun _=>?_) (fun nm h=>absurd rfl h)) rfl
  refine gaa ?_
  exact ⟨l2.length,_,_,Nat.lt_succ_self _,⟨pre++[s],l2,T+s.2,by rw[hLe];simp,rfl,rfl,rfl,⟨by omega,by omega⟩,hE⟩,⟨rfl,rfl,rfl,rfl,rfl,int_eq (by simp),trivial⟩,zhD zhr,hj4⟩
 have hlen:=zf hc
 rw[zLm,hLe,zLa] at hlen
 obtain rfl:l1=[]:=by
  cases l1 with
  |nil=>rfl
  |cons a l2=>simp at hlen;omega
 have hSZ0:SZ=0:=by rw[←hE];rfl
 rw[hSZ0] at hI1
 have hI2:orE FS MN=E:=by rw[←hI1];rfl
 clear hI1 hlen hc hb2 hLe hE
 have hnf:(fs.map (·.name)).Nodup:=(List.nodup_append.1 hnod).2.1
 have hds:j.ds=[]:=hj4.trans (hj3.trans (hj2.trans hj))
 clear hj hj2 hj3 hj4
 refine gaa ?_
 refine oL (fun kk ls H'=>∃ (pre l1:List FnD) (known:List FSum) (F1:KV) (g4:Nat) (nm:Nm) (o1:Value) (d1:Nat),fs=pre++l1∧kk=l1.length∧ls=[(0,ptr k.cb 0),(3,ptr b3 0),(90,.list (fs.map encFn)),(91,int .i64 ((fs.map encFn).length:Int)),(92,iv pre.length)] ∧
   H'=(b3,.cells 26 [.list (vars.map str),.list (arrays.map encArG),.list (fs.map encFn)])::pgH { k with name:=nm,G:=G1,g1:=g1,V:=V1,g2:=g2,A:=A1,g3:=g3,F:=F1,g4:=g4 } o1 d1∧(∀ n,GL.kvGet F1 n=(known.find? fun g=>decide (g.name=n)).map encSum)∧known.map (·.name)=pre.map (·.name) ∧
   errFs vars (arrays.map (·.1)) (fs.map (·.name)) known l1=FS∧sumFs vars (arrays.map (·.1)) (fs.map (·.name)) known l1=SS∧KnB (8 * ndFs pre) pre.length known)
  ⟨_,_,_,⟨[],fs,[],k.F,k.g4,k.name,o,d,rfl,rfl,rfl,rfl,fun n=>by rw[hk4];rfl,rfl,hFS,hSS,fun x hx=>(List.not_mem_nil hx).elim⟩,⟨rfl,rfl,rfl,rfl,rfl,trivial⟩,zhR _⟩ ?_
 rintro kk ls H' ⟨pre,l1,known,F1,g4,nm,o1,d1,hLe,rfl,rfl,rfl,hF,hkn,hE,hS,hB⟩ j2 hj2
 have hb2:pre.length≤2000000:=by
  have:=congrArg List.length hLe
  rw[zLa] at this
  omega
 refine gah ?_
 refine oC rfl (fun hc=>?_) (fun hc=>?_)
 ·have hlen:=zt hc
  rw[zLm,hLe,zLa] at hlen
  obtain ⟨s,l2,rfl⟩:∃ a l2,l1=a::l2:=by
   cases l1 with
   |nil=>simp at hlen
   |cons a l2=>exact ⟨a,l2,rfl⟩
  have hsz:ndFs pre+ndF s≤2000000:=by
   have:=hnd
   rw[hLe,ndFs_append,ndFs] at this
   omega
  have hnew:s.name ∉ known.map (·.name):=by
   rw[hkn]
   have:=hnf
   rw[hLe,zMa,zMc] at this
   intro hm
   exact (List.nodup_append.1 this).2.2 _ hm _ zMs rfl
  rw[errFs] at hE
  rw[sumFs] at hS
  refine gak ?_
  refine oP (xR (el':=encFn s) (cs:=[_,_,_,_]) rfl rfl zo (by rw[hLe];exact get_mid encFn pre s l2) rfl rfl) rfl ?_
  refine gaq ?_
  refine oS (sA fun b7=>?_) rfl
  refine gab ?_
  refine oS (S.callE (F:=[_,_]) [_,_] rfl (zPc (l₁:=[_,_])) (function_spec (vars:=vars) (arrays:=arrays.map (·.1)) (later:=fs.map (·.name)) (known:=known) (k:={ k with name:=nm,G:=G1,g1:=g1,V:=V1,g2:=g2,A:=A1,g3:=g3,F:=F1,g4:=g4 }) (o:=o1) (d:=d1) s hG1 hV1 hA1 hF hnew hB zo zo zo) (fun H2 h0 hP=>?_) (fun nm h0 e' he'=>?_)) rfl
  rotate_left
  ·refine gag ?_
   exact panE (he'.trans (hj2.trans hds)) (by rw[←hI2,←hE,orE_ne (a:=orE _ _) (by rw[orE_ne h0];exact h0),orE_ne h0]) h0
  obtain ⟨nm',o',d',F',g4',hF',rfl⟩:=hP
  refine LOps.perm (zPc (l₂:=[_,_])) ?_
  refine gal ?_
  refine ⟨l2.length,_,_,Nat.lt_succ_self _,⟨pre++[s],l2,known++[sumF vars (arrays.map (·.1)) (fs.map (·.name)) known s],F',g4',nm',o',d',by rw[hLe];simp,rfl,rfl,rfl,hF',?_,by rw[←hE,h0];rfl,hS,?_⟩,⟨rfl,rfl,rfl,rfl,int_eq (by simp),trivial⟩,zhD zhr,hj2⟩
  ·rw[zMa,zMa,hkn]
   rfl
  ·have h1:=sumF_le (vars:=vars) (arrays:=arrays.map (·.1)) (later:=fs.map (·.name)) (f:=s) hB
   have h2:ndFs (pre++[s])=ndFs pre+ndF s:=by rw[ndFs_append,ndFs,ndFs];rfl
   intro g hg
   rw[h2,zLa,List.length_singleton]
   rcases List.mem_append.1 hg with hg|hg
   ·obtain ⟨a1,a2,a3⟩:=hB g hg
    exact ⟨by omega,by omega,by omega⟩
   ·obtain rfl:=List.mem_singleton.1 hg
    obtain ⟨a1,a2,a3⟩:=h1
    exact ⟨by omega,by omega,by omega⟩
 have hlen:=zf hc
 rw[zLm,hLe,zLa] at hlen
 obtain rfl:l1=[]:=by
  cases l1 with
  |nil=>rfl
  |cons a l2=>simp at hlen;omega
 have hFS0:FS=0:=by rw[←hE];rfl
 have hknS:known=SS:=by rw[←hS];rfl
 rw[hFS0] at hI2
 have hI3:MN=E:=by rw[←hI2];rfl
 clear hlen hc hb2 hLe hE
 subst hknS
 have hall:=errFs_zero fs [] (hFS.trans hFS0)
 have hnn:∀ f∈fs,f.name.length≤1000∧∀ x∈f.params++f.locals,x.length≤1000:=fun f hf=>by
  obtain ⟨kk,hk⟩:=hall f hf
  exact ⟨isNm_short (hnmok f.name (List.mem_append_right _ (List.mem_map_of_mem hf))),errF_names hk⟩
 have hsm:∀ f∈fs,SmF f:=fun f hf=>smF_of (zNt (ndFs_mem hf) hnd)
 have hds2:=hj2.trans hds
 unfold mainE at hMN
 refine gab ?_
 cases hfl:fs.getLast? with
 |none=>
  have hf0:fs=[]:=List.getLast?_eq_none_iff.1 hfl
  rw[hfl] at hMN
  refine oB 105 rfl (fun h=>absurd (zt h) (by rw[hf0];decide)) (fun _=>?_)
  refine gae ?_
  refine oS (S.callK (H1:=[]) (F:=_) [_,_,_] rfl zpr (req_spec false [109,97,105,110] 9 zDd) (fun h=>absurd h zDd) (fun nm _ e' he'=>?_)) rfl
  refine gap ?_
  exact panE (he'.trans hds2) (hI3.symm.trans hMN.symm) zDd
 |some f=>
  obtain ⟨ys,hys⟩:=List.getLast?_eq_some_iff.1 hfl
  have hln:(fs.map encFn).length=ys.length+1:=by rw[zLm,hys,zLa];rfl
  have hl6:(fs.map encFn).length≤2000000:=by rw[zLm];exact hf6
  have hn0:(0:Int)≤((fs.map encFn).length:Int)-1:=by omega
  have hget:(fs.map encFn)[(((fs.map encFn).length:Int)-1).toNat]? = some (encFn f):=by
   rw[show (((fs.map encFn).length:Int)-1).toNat=ys.length by omega,hys,zMa]
   rw[List.getElem?_append_right (by rw[zLm];exact zNr _),zLm,Nat.sub_self]
   rfl
  have hnms:known.map (·.name)=fs.map (·.name):=by
   rw[←hSS,sumFs_names]
   rfl
  obtain ⟨m,hm⟩:∃ m,known.getLast? = some m:=by
   cases hx:known.getLast? with
   |some m=>exact ⟨m,rfl⟩
   |none=>
    rw[List.getLast?_eq_none_iff.1 hx,hys] at hnms
    simp at hnms
  have hmf:m.name=f.name:=by
   have h1:=congrArg List.getLast? hnms
   rw[List.getLast?_map,List.getLast?_map,hm,hfl] at h1
   exact Option.some.inj h1
  have hfind:=find_last (by rw[hnms];exact hnf) hm
  rw[hfl,hm] at hMN
  replace hMN:(if f.name=[109,97,105,110]∧f.params=[] then (if (scalarsP vars fs).length≤8000∧m.need≤200∧m.depth≤60 then 0 else 6) else 9)=MN:=hMN
  rw[hI3] at hMN
  refine oB 105 rfl (fun _=>?_) (fun h=>absurd (show ((fs.map encFn).length:Int) > 0 by omega) (zf h))
  refine gac ?_
  first|refine LOps.want rfl rfl ?_|skip
  refine oP (xR (el':=encFn f) (n:=((fs.map encFn).length:Int)-1) (cs:=[str f.name,.list (f.params.map str),.list (f.locals.map str),.list (f.body.map encS)]) rfl rfl hn0 hget rfl rfl) rfl ?_
  refine gac ?_
  refine oB 115 rfl (fun h1=>?_) (fun h1=>?_)
  rotate_left
  ·rw[if_neg (fun h=>zf h1 h.1)] at hMN
   refine gae ?_
   refine oS (S.callK (H1:=[]) (F:=_) [_,_,_] rfl zpr (req_spec false [109,97,105,110] 9 zDd) (fun h=>absurd h zDd) (fun nm _ e' he'=>?_)) rfl
   refine gap ?_
   exact panE (he'.trans hds2) hMN.symm zDd
  have hmain:f.name=[109,97,105,110]:=zt h1
  refine gac ?_
  first|refine LOps.want rfl rfl ?_|skip
  refine oP (xR (el':=encFn f) (n:=((fs.map encFn).length:Int)-1) (cs:=[str f.name,.list (f.params.map str),.list (f.locals.map str),.list (f.body.map encS)]) rfl rfl hn0 hget rfl rfl) rfl ?_
  refine gac ?_
  refine oB 125 rfl (fun h2=>?_) (fun h2=>?_)
  rotate_left
  ·rw[if_neg (fun h=>zf h2 (by rw[h.2];rfl))] at hMN
   refine oS (S.callK (H1:=[]) (F:=_) [_,_,_] rfl zpr (req_spec false [109,97,105,110] 9 zDd) (fun h=>absurd h zDd) (fun nm _ e' he'=>?_)) rfl
   refine gap ?_
   exact panE (he'.trans hds2) hMN.symm zDd
  have hpar:f.params=[]:=by
   have h3:=zt h2
   rw[zLm] at h3
   exact List.length_eq_zero_iff.1 zo
  rw[if_pos ⟨hmain,hpar⟩] at hMN
  refine oS (S.callK (H1:=[]) (F:=_) [_,_,_] rfl zpr (req_spec true [109,97,105,110] 9 zDd) (fun _=>?_) (fun nm h=>absurd rfl h)) rfl
  have hgF:GL.kvGet F1 [109,97,105,110]=some (encSum m):=by
   rw[hF,←hmain,←hmf,hfind]
   rfl
  refine gab ?_
  refine oP (Pure.kvHit rfl rfl zm5 hgF) rfl ?_
  refine oS (sA fun b16=>?_) rfl
  refine gab ?_
  refine oS (sF [_] rfl (scalars_specG (.list (arrays.map encArG)) hv6 hf6 hsm hnn) ?_) rfl
  refine gac ?_
  refine oB 136 rfl (fun h3=>?_) (fun h3=>?_)
  rotate_left
  ·have hbad:¬ ((scalarsP vars fs).length≤8000∧m.need≤200∧m.depth≤60):=fun h=>zf h3 (by rw[zLm];have:=h.1;omega)
   rw[if_neg hbad] at hMN
   refine gae ?_
   refine oS (S.callK (H1:=[]) (F:=_) [_,_,_] rfl zpr (req_spec false [109,97,105,110] 6 zDd) (fun h=>absurd h zDd) (fun nm _ e' he'=>?_)) rfl
   exact panE (he'.trans hds2) hMN.symm zDd
  have h3':(scalarsP vars fs).length≤8000:=by
   have:=zt h3
   rw[zLm] at this
   omega
  refine gac ?_
  refine oB 141 rfl (fun h4=>?_) (fun h4=>?_)
  rotate_left
  ·have hbad:¬ ((scalarsP vars fs).length≤8000∧m.need≤200∧m.depth≤60):=fun h=>zf h4 (by have:=h.2.1;omega)
   rw[if_neg hbad] at hMN
   refine gae ?_
   refine oS (S.callK (H1:=[]) (F:=_) [_,_,_] rfl zpr (req_spec false [109,97,105,110] 6 zDd) (fun h=>absurd h zDd) (fun nm _ e' he'=>?_)) rfl
   exact panE (he'.trans hds2) hMN.symm zDd
  have h4':m.need≤200:=by
   have:=zt h4
   omega
  refine gac ?_
  refine oB 145 rfl (fun h5=>?_) (fun h5=>?_)
  rotate_left
  ·have hbad:¬ ((scalarsP vars fs).length≤8000∧m.need≤200∧m.depth≤60):=fun h=>zf h5 (by have:=h.2.2;omega)
   rw[if_neg hbad] at hMN
   refine oS (S.callK (H1:=[]) (F:=_) [_,_,_] rfl zpr (req_spec false [109,97,105,110] 6 zDd) (fun h=>absurd h zDd) (fun nm _ e' he'=>?_)) rfl
   exact panE (he'.trans hds2) hMN.symm zDd
  have h5':m.depth≤60:=by
   have:=zt h5
   omega
  rw[if_pos ⟨h3',h4',h5'⟩] at hMN
  refine oS (S.callK (H1:=[]) (F:=_) [_,_,_] rfl zpr (req_spec true [109,97,105,110] 6 zDd) (fun _=>?_) (fun nm h=>absurd rfl h)) rfl
  refine gae ?_
  exact retEn hds2 rN hMN.symm rfl zhn rfl
end
end Go.Proofs.YtpbbgkoalnonoaaGreatDoor.Chk
namespace Go.Proofs.YtpbbgkoalnonoaaGreatDoor
open Go.GL Go.RowKit Go.Stele
attribute [local irreducible] LOps LCode LStep LCalls Go.GL.Pure QThen QBlock RetPost
theorem parseUintM_digits (M:Nat) (acc:Nat) (l:List UInt8) (h:∀ c∈l,isDigit c=true):Go.Lib.parseUintM M acc l=.range∨∃ u,Go.Lib.parseUintM M acc l=.ok u:=by
 induction l generalizing acc with
 |nil=>exact .inr ⟨acc,rfl⟩
 |cons c r ih=>
  have hc:=h c List.mem_cons_self
  simp only[isDigit,zBa,zDe,cv] at hc
  rw[Go.Lib.parseUintM,if_pos zo]
  split
  ·exact .inl rfl
  ·split
   ·exact .inl rfl
   ·exact ih _ (fun c hc=>h c (zMo _ hc))
theorem parseUintM_bound (M:Nat) (acc:Nat) (l:List UInt8) (ha:acc≤M) {u:Nat} (h:Go.Lib.parseUintM M acc l=.ok u):u≤M:=by
 induction l generalizing acc with
 |nil=>simp only[Go.Lib.parseUintM,Go.Lib.NumEnd.ok.injEq] at h;omega
 |cons c r ih=>
  rw[Go.Lib.parseUintM] at h
  split at h
  ·split at h
   ·cases h
   ·split at h
    ·cases h
    ·exact ih _ zo h
  ·cases h
theorem parseUint_digits (s:List UInt8) (hne:s.takeWhile isDigit≠[]):Go.Lib.parseUintB 32 (s.takeWhile isDigit)=.range∨∃ u,u<18446744073709551616∧Go.Lib.parseUintB 32 (s.takeWhile isDigit)=.ok u:=by
 unfold Go.Lib.parseUintB
 rw[if_neg hne]
 have hall:∀ (s:List UInt8),∀ c∈s.takeWhile isDigit,isDigit c=true:=fun s c hc=>by
  induction s with
  |nil=>cases hc
  |cons a r ih=>
   by_cases ha:isDigit a=true
   ·rw[List.takeWhile_cons_of_pos ha] at hc
    rcases zMi.1 hc with rfl|hc
    ·exact ha
    ·exact ih hc
   ·rw[List.takeWhile_cons_of_neg ha] at hc
    cases hc
 rcases parseUintM_digits (2 ^ 32-1) 0 (s.takeWhile isDigit) (hall s) with h|⟨u,h⟩
 ·exact .inl h
 ·have:=parseUintM_bound _ _ _ zo h
  exact .inr ⟨u,by omega,h⟩
instance:TIface Tryz.prog 129:=.of zk
section
variable {B0:Nat} {w0:World}
theorem number_spec (hG:GW B0 w0) (s:List UInt8) (hs:s.length≤1000000000) (hne:s.takeWhile isDigit≠[]):LCalls (KC B0 w0) 191 [str s] [] (Ret (encTokR (lexNumber s))):=by
 refine cI Tryz.func191 rfl (n:=43) rfl rfl rfl ?_
 refine gaf ?_
 refine oS (sA fun b=>?_) rfl
 refine gaa ?_
 refine oS (sF [_,_] rfl (run_spec isDigit digit_spec s hs) ?_) rfl
 refine gab ?_
 refine LOps.cut [(0,str s),(2,ptr b 0),(5,str (s.takeWhile isDigit)),(28,bool (wordNext s (s.takeWhile isDigit).length))] ?_ (fun j hj=>?_)
 ·refine oB 17 rfl (fun ht=>?_) (fun ht=>?_)
  ·have hlt:(s.takeWhile isDigit).length<s.length:=by simpa using ht
   have hw:wordNext s (s.takeWhile isDigit).length=(isLetter s[(s.takeWhile isDigit).length] || decide (cv s[(s.takeWhile isDigit).length]=95)):=by
    rw[wordNext,List.getElem?_eq_getElem hlt]
   refine gam ?_
   refine oP (Pure.sindex (c:=s[(s.takeWhile isDigit).length]) rfl rfl zo (by simp)) rfl ?_
   refine LOps.want rfl rfl ?_
   refine oS (sF [_] rfl (letter_spec _) ?_) rfl
   refine gam ?_
   refine oB 22 rfl (fun hl=>?_) (fun hl=>?_)
   ·refine gad ?_
    exact ⟨⟨rfl,rfl,rfl,bool_eq (by rw[hw,hl];rfl),trivial⟩,rfl,rfl⟩
   ·refine gam ?_
    refine oP (Pure.sindex (c:=s[(s.takeWhile isDigit).length]) rfl rfl zo (by simp)) rfl ?_
    refine gad ?_
    exact ⟨⟨rfl,rfl,rfl,bool_eq (by rw[hw,hl];rfl),trivial⟩,rfl,rfl⟩
  ·have hge:s.length≤(s.takeWhile isDigit).length:=by simpa using ht
   refine gac ?_
   exact ⟨⟨rfl,rfl,rfl,bool_eq (by rw[wordNext,List.getElem?_eq_none hge]),trivial⟩,rfl,rfl⟩
 ·skip
  refine oC rfl (fun hc=>?_) (fun hc=>?_)
  ·refine gab ?_
   exact retRet hj (rC (rA rfl zm0 rfl zsr) (rC (zrt rfl) (zra rfl))) (by
    rw[lexNumber,if_pos hc]
    rfl)
  ·refine gaa ?_
   rcases parseUint_digits s hne with hp|⟨u,hu,hp⟩
   ·refine oS (S.fnIf [_,_,_] rfl (parseUint_range hG (s.takeWhile isDigit) (zNt (List.takeWhile_prefix isDigit).length_le hs) hp) ?_) rfl
    rintro lv ⟨v,t,p,rfl⟩
    refine gab ?_
    refine oC rfl (fun hc=>?_) (fun hc=>?_)
    ·refine gab ?_
     exact retRet hj (rC (rA rfl zm0 rfl zsr) (rC (zrt rfl) (zra rfl))) (by
      rw[lexNumber,if_neg (by rw[‹wordNext s _=false›];decide),hp]
      rfl)
    ·cases hc
   ·refine oS (sF [_,_,_] rfl (parseUint_ok (s.takeWhile isDigit) (zNt (List.takeWhile_prefix isDigit).length_le hs) u hp) ?_) rfl
    refine gab ?_
    refine oC rfl (fun hc=>?_) (fun hc=>?_)
    ·cases hc
    ·refine gaa ?_
     refine oS (sF [_,_] rfl (fmtUint_spec hG u hu) ?_) rfl
     refine gac ?_
     exact retRet hj (rC (rA rfl zm0 rfl zsr) (rC (zrt rfl) (zra rfl))) (by
      rw[lexNumber,if_neg (by rw[‹wordNext s _=false›];decide),hp]
      rfl)
theorem literal_spec (hG:GW B0 w0) (s:List UInt8) (hs:s.length≤1000000000):LCalls (KC B0 w0) 194 [str s] [] (Ret (encTokR (lexLiteral s))):=by
 by_cases h3:s.length<3
 ·have hl:lexLiteral s=tokErr 3:=by
   match s,h3 with
   |[],_=>rfl
   |[_],_=>rfl
   |[_,_],_=>rfl
  refine cI Tryz.func194 rfl (n:=39) rfl rfl rfl ?_
  refine gaf ?_
  refine oS (sA fun b=>?_) rfl
  refine gab ?_
  refine oB 8 rfl (fun ht=>?_) (fun ht=>?_)
  ·refine gad ?_
   refine oC rfl (fun hc=>?_) (fun hc=>?_)
   ·refine gab ?_
    exact retRet rfl (rC (rA rfl zm0 rfl zsr) (rC (zrt rfl) (zra rfl))) (by rw[hl];rfl)
   ·cases hc
  ·exact absurd (zf ht) zo
 ·match s,h3 with
  |[],h=>exact absurd (by simp) h
  |[_],h=>exact absurd (by simp) h
  |[_,_],h=>exact absurd (by simp) h
  |x::c1::c2::r,h=>
   refine cI Tryz.func194 rfl (n:=39) rfl rfl rfl ?_
   refine gaf ?_
   refine oS (sA fun b=>?_) rfl
   refine gab ?_
   refine LOps.cut [(0,str (x::c1::c2::r)),(2,ptr b 0),(32,bool ((!decide (cv c2=39)) || decide (cv c1<32) || decide (126<cv c1) || decide (cv c1=39) || decide (cv c1=92)))] ?_ (fun j hj=>?_)
   ·refine oB 8 rfl (fun ht=>?_) (fun ht0=>?_)
    ·exact absurd (zt ht) (by simp only[zLc];omega)
    ·skip
     refine oP (Pure.sindex (c:=c2) rfl rfl zDd rfl) rfl ?_
     refine gac ?_
     refine oB 13 rfl (fun ht=>?_) (fun ht1=>?_)
     ·refine gad ?_
      exact ⟨⟨rfl,rfl,bool_eq (by rw[ht];rfl),trivial⟩,rfl,rfl⟩
     ·refine gam ?_
      refine oP (Pure.sindex (c:=c1) rfl rfl zDd rfl) rfl ?_
      refine gad ?_
      refine oB 18 rfl (fun ht=>?_) (fun ht2=>?_)
      ·refine gad ?_
       exact ⟨⟨rfl,rfl,bool_eq (by rw[ht1,ht];rfl),trivial⟩,rfl,rfl⟩
      ·refine gam ?_
       refine oP (Pure.sindex (c:=c1) rfl rfl zDd rfl) rfl ?_
       refine gac ?_
       refine oB 23 rfl (fun ht=>?_) (fun ht3=>?_)
       ·refine gad ?_
        exact ⟨⟨rfl,rfl,bool_eq (by rw[ht1,ht2,ht];rfl),trivial⟩,rfl,rfl⟩
       ·refine gam ?_
        refine oP (Pure.sindex (c:=c1) rfl rfl zDd rfl) rfl ?_
        refine gad ?_
        refine oB 28 rfl (fun ht=>?_) (fun ht4=>?_)
        ·refine gad ?_
         exact ⟨⟨rfl,rfl,bool_eq (by rw[ht1,ht2,ht3,ht];rfl),trivial⟩,rfl,rfl⟩
        ·refine gam ?_
         refine oP (Pure.sindex (c:=c1) rfl rfl zDd rfl) rfl ?_
         refine gad ?_
         exact ⟨⟨rfl,rfl,bool_eq (by rw[ht1,ht2,ht3,ht4];rfl),trivial⟩,rfl,rfl⟩
   ·skip
    refine oC rfl (fun hc=>?_) (fun hc=>?_)
    ·refine gab ?_
     exact retRet hj (rC (rA rfl zm0 rfl zsr) (rC (zrt rfl) (zra rfl))) (by rw[lexLiteral,if_pos hc];rfl)
    ·refine gaa ?_
     refine oP (Pure.sindex (c:=c1) rfl rfl zDd rfl) rfl ?_
     refine oP (Pure.cvt rfl) rfl ?_
     have hw:IntKind.i64.wrap (c1.toNat:Int)=((c1.toNat:Nat):Int):=wrap_i64 (by have:=c1.toNat_lt;omega)
     rw[hw]
     refine oS (sF [_] rfl (itoa_spec hG c1.toNat (by have:=c1.toNat_lt;omega)) ?_) rfl
     refine gac ?_
     exact retRet hj (rC (rA rfl zm0 rfl zsr) (rC (zrt rfl) (zra rfl))) (by rw[lexLiteral,if_neg (by rw[hc];decide)];rfl)
theorem token_spec (hG:GW B0 w0) (s:List UInt8) (hs:s.length≤1000000000) (hne:s≠[]):LCalls (KC B0 w0) 130 [str s] [] (Ret (encTokR (lexToken s))):=by
 match s,hne with
 |c::r,_=>
  refine cI Tryz.func130 rfl (n:=49) rfl rfl rfl ?_
  refine gaf ?_
  refine oS (sA fun b=>?_) rfl
  refine gaa ?_
  refine oP (Pure.sindex (c:=c) rfl rfl zDd rfl) rfl ?_
  refine oS (sF [_] rfl (digit_spec c) ?_) rfl
  refine gae ?_
  refine oC rfl (fun hc=>?_) (fun hc=>?_)
  ·refine gaj ?_
   refine oS (sF [_] rfl (number_spec hG (c::r) hs (by rw[List.takeWhile_cons_of_pos hc];simp)) ?_) rfl
   refine gac ?_
   exact retRet rfl (rC (rA rfl zm0 rfl zsr) (rC (zrt rfl) (zra rfl))) (by simp only[lexToken,hc,if_true];rfl)
  ·refine gaj ?_
   refine oP (Pure.sindex (c:=c) rfl rfl zDd rfl) rfl ?_
   refine oS (sF [_] rfl (letter_spec c) ?_) rfl
   refine gae ?_
   refine oC rfl (fun hl=>?_) (fun hl=>?_)
   ·refine gaj ?_
    refine oS (sF [_] rfl (name_spec (c::r) hs) ?_) rfl
    refine gac ?_
    exact retRet rfl (rC (rA rfl zm0 rfl zsr) (rC (zrt rfl) (zra rfl))) (by simp only[lexToken,hc,hl,if_true,Bool.false_eq_true,if_false];rfl)
   ·refine gaj ?_
    refine oP (Pure.sindex (c:=c) rfl rfl zDd rfl) rfl ?_
    refine gad ?_
    refine oC rfl (fun hq=>?_) (fun hq=>?_)
    ·refine gaj ?_
     refine oS (sF [_] rfl (literal_spec hG (c::r) hs) ?_) rfl
     refine gac ?_
     exact retRet rfl (rC (rA rfl zm0 rfl zsr) (rC (zrt rfl) (zra rfl))) (by simp only[lexToken,hc,hl,Bool.false_eq_true,if_false];rw[if_pos hq];rfl)
    ·have htok:lexToken (c::r)=lexSign (c::r):=by simp only[lexToken,hc,hl,Bool.false_eq_true,if_false];rw[if_neg (by rw[hq];decide)]
     refine gaa ?_
     refine oS (sF [] rfl signs_spec ?_) rfl
     refine gad ?_
     refine oL (fun k ls H=>∃ m:Nat,k=signs.length-m∧ls=[(0,str (c::r)),(2,ptr b 0),(34,.list (signs.map str)),(35,int .i64 24),(36,int .i64 m)]∧H=[(b,.cells 219 [int .i64 0,str [],int .i64 0])]∧m≤24∧signs.find? (fun x=>x.isPrefixOf (c::r))=(signs.drop m).find? (fun x=>x.isPrefixOf (c::r)))
      ⟨_,_,_,⟨0,rfl,rfl,rfl,by omega,by simp⟩,⟨rfl,rfl,rfl,rfl,rfl,trivial⟩,zhR _⟩ ?_
     rintro k ls H ⟨m,rfl,rfl,rfl,hm,hI⟩ j hj
     have h24:signs.length=24:=rfl
     refine gah ?_
     refine oC rfl (fun ht=>?_) (fun ht=>?_)
     ·have hlt:m<signs.length:=by have:=zt ht;omega
      refine gak ?_
      refine oP (xR (el':=str signs[m]) rfl rfl zo (by simp) rfl rfl) rfl ?_
      refine gab ?_
      refine oS (sF [_,_] rfl (hasPrefix_spec (c::r) signs[m]) ?_) rfl
      refine gae ?_
      refine oC rfl (fun hp=>?_) (fun hp=>?_)
      ·refine gab ?_
       exact retRet hj (rC (rA rfl zm0 rfl zsr) (rC (zrt rfl) (zra rfl))) (by
        rw[htok,lexSign,hI,List.drop_eq_getElem_cons hlt,List.find?_cons_of_pos (by simpa using hp)]
        rfl)
      ·refine gaa ?_
       exact ⟨_,_,_,by omega,⟨m+1,rfl,rfl,rfl,by omega,by
        rw[hI,List.drop_eq_getElem_cons hlt,List.find?_cons_of_neg (by rw[hp];decide)]⟩,⟨rfl,rfl,rfl,rfl,int_eq zo,trivial⟩,zhR _,hj⟩
     ·have hge:signs.length≤m:=by have:=zf ht;omega
      refine gab ?_
      exact retRet hj (rC (rA rfl zm0 rfl zsr) (rC (zrt rfl) (zra rfl))) (by
       rw[htok,lexSign,hI,List.drop_eq_nil_of_le hge]
       rfl)
end
end Go.Proofs.YtpbbgkoalnonoaaGreatDoor
namespace Go.Proofs.YtpbbgkoalnonoaaGreatDoor
open Go.GL Go.RowKit Go.Stele
attribute [local irreducible] LOps LCode LStep LCalls Go.GL.Pure QThen QBlock RetPost
def lexAllP (s:List UInt8):Except (Int×Int) (List Tok):=if 60000<s.length then .error (0,6) else lexP s.length s 1
def encLex:Except (Int×Int) (List Tok)→LV
 |.ok T=>.tuple [.list (T.map encTok),int .i64 0,int .i64 0]
 |.error (l,e)=>.tuple [.list [],int .i64 l,int .i64 e]
theorem map_map_ex {A B D:Type} (f:A→B) (h:B→D) (r:Except (Int×Int) A):(r.map f).map h=r.map (fun x=>h (f x)):=by cases r <;> rfl
section
variable {B0:Nat} {w0:World}
theorem Tokens_any (hG:GW B0 w0) (s:List UInt8):LCalls (KC B0 w0) 68 [str s] [] (Ret (encLex (lexAllP s))):=by
 refine cI Tryz.func68 rfl (n:=49) rfl rfl rfl ?_
 refine gab ?_
 refine oC rfl (fun hc=>?_) (fun hc=>?_)
 ·refine gao ?_
  exact retRet rfl (rC (rT (v:=nilSlice) rfl LV.Sub.nil) (rC (zrt rfl) (zra rfl))) (by
   rw[lexAllP,if_pos (by have:=zt hc;omega)]
   rfl)
 ·have hlen:s.length≤60000:=by have:=zf hc;omega
  refine gaa ?_
  refine oL (fun k ls H=>∃ (v:LV) (out:List Tok) (rest:List UInt8) (line:Int) (fuel:Nat),k=rest.length∧ls=[(5,v),(6,int .i64 line),(7,str rest)]∧Acc 3 v (out.map encTok) H [] ∧
    rest.length≤fuel∧0≤line∧line+rest.length≤60001∧out.length+rest.length≤60000∧lexP s.length s 1=(lexP fuel rest line).map (out++·))
   ⟨_,_,_,⟨nilSlice,[],s,1,s.length,rfl,rfl,Acc.nil,by omega,by omega,by omega,by simp;omega,by cases lexP s.length s 1 <;> rfl⟩,⟨rfl,rfl,rfl,trivial⟩,zhR _⟩ ?_
  rintro k ls H ⟨v,out,rest,line,fuel,rfl,rfl,hacc,hf,hl0,hl1,ho,hI⟩ j hj
  refine gab ?_
  refine oC rfl (fun hne=>?_) (fun hne=>?_)
  ·have hrest:rest≠[]:=by simpa using hne
   obtain ⟨f,rfl⟩:∃ f,fuel=f+1:=⟨fuel-1,by
    have:0<rest.length:=List.length_pos_iff.2 hrest
    omega⟩
   rw[lexP,if_neg hrest] at hI
   have hsk:=skipLen_le rest
   refine gaa ?_
   refine oS (sF [_] rfl (skip_spec rest zo) ?_) rfl
   refine gaa ?_
   refine oC rfl (fun hz=>?_) (fun hz=>?_)
   ·have hz':skipLen rest=0:=by have:=zt hz;omega
    rw[if_pos hz'] at hI
    refine gaj ?_
    refine oS (sF [_] rfl (token_spec hG rest zo hrest) ?_) rfl
    refine gac ?_
    refine oS (sA fun b=>?_) rfl
    refine gab ?_
    refine oC rfl (fun he=>?_) (fun he=>?_)
    ·have he':(lexToken rest).2.2≠0:=by simpa using he
     rw[if_pos he'] at hI
     refine gaa ?_
     exact retRet hj (rC (rT (v:=nilSlice) rfl LV.Sub.nil) (rC (zrt rfl) (zra rfl))) (by
      rw[lexAllP,if_neg zo,hI]
      rfl)
    ·have he':(lexToken rest).2.2=0:=by simpa using he
     rw[if_neg (by simpa using he')] at hI
     obtain ⟨hs0,hs1⟩:=lexToken_size rest he'
     refine gab ?_
     refine oP (pM (lv:=v) rfl) rfl ?_
     refine gac ?_
     refine oS (sL [_] rfl (zeC rfl rfl eN) rfl rfl rfl ?_) rfl
     refine LOps.weak (zhD zhr) ?_
     refine oS (S.acc rfl hacc rfl (by simp;rfl) rfl (by simp;omega) fun v' H' hacc'=>?_) rfl
     refine oP (pA (lv:=v') rfl) rfl ?_
     refine gaa ?_
     refine oP (Pure.sslice (i:=0) (j:=(lexToken rest).2.1) rfl rfl ⟨_,rfl⟩ zo zo zo) rfl ?_
     refine oS (sF [_,_] rfl (countNl_spec _) ?_) rfl
     have hcnt:(List.drop (Int.toNat 0) (List.take ((lexToken rest).2.1:Int).toNat rest)).count 10≤(lexToken rest).2.1:=zNt List.count_le_length (by simp;omega)
     refine gat ?_
     refine oP (Pure.sslice (i:=(lexToken rest).2.1) (j:=rest.length) rfl ⟨_,rfl⟩ rfl zo zo zo) rfl ?_
     refine gad ?_
     have hacc2:Acc 3 v' ((out++[{ (lexToken rest).1 with line:=line }]).map encTok) H' []:=by
      rw[zMa]
      exact hacc'
     exact ⟨_,_,_,by simp only[List.length_drop];omega,⟨v',out++[{ (lexToken rest).1 with line:=line }],rest.drop (lexToken rest).2.1,line+((rest.take (lexToken rest).2.1).count 10:Nat),f,rfl,rfl,hacc2,
      by simp only[List.length_drop];omega,by omega,by simp only[List.length_drop];simp at hcnt;omega,by simp only[List.length_drop,zLa,List.length_singleton];omega,by
       rw[hI,map_map_ex]
       congr 1
       funext x
       simp⟩,⟨rfl,int_eq (by simp),str_eq (by simp),trivial⟩,zhR _,hj⟩
   ·have hz':¬ skipLen rest=0:=by have:=zf hz;omega
    rw[if_neg hz'] at hI
    refine gaa ?_
    refine oP (Pure.sslice (i:=0) (j:=skipLen rest) rfl rfl ⟨_,rfl⟩ zo zo zo) rfl ?_
    refine oS (sF [_,_] rfl (countNl_spec _) ?_) rfl
    have hcnt:(List.drop (Int.toNat 0) (List.take (skipLen rest:Int).toNat rest)).count 10≤skipLen rest:=zNt List.count_le_length (by simp;omega)
    refine gat ?_
    refine oP (Pure.sslice (i:=skipLen rest) (j:=rest.length) rfl ⟨_,rfl⟩ rfl zo zo zo) rfl ?_
    refine gad ?_
    exact ⟨_,_,_,by simp only[List.length_drop];omega,⟨v,out,rest.drop (skipLen rest),line+((rest.take (skipLen rest)).count 10:Nat),f,rfl,rfl,hacc,
      by simp only[List.length_drop];omega,by omega,by simp only[List.length_drop];simp at hcnt;omega,by simp only[List.length_drop];omega,hI⟩,⟨rfl,int_eq (by simp),str_eq (by simp),trivial⟩,zhR _,hj⟩
  ·have hrest:rest=[]:=by simpa using hne
   refine gaa ?_
   refine oP (pM (lv:=v) rfl) rfl ?_
   refine oP (pA (lv:=v) rfl) rfl ?_
   refine gae ?_
   exact retRet hj (rC (rT (v:=v) rfl hacc.sub) (rC (zrt rfl) (zra rfl))) (by
    rw[lexAllP,if_neg zo,hI,hrest]
    cases fuel <;> simp[lexP,Except.map,encLex,resLV])
end
end Go.Proofs.YtpbbgkoalnonoaaGreatDoor
namespace Go.Proofs.YtpbbgkoalnonoaaGreatDoor
open Go.GL Go.RowKit Go.Stele
attribute [local irreducible] LOps LCode LStep LCalls Go.GL.Pure QThen QBlock RetPost LQ LAny LLate LLateOp
@[reducible] def srcH (sb:Nat) (T:List Tok) (i op:Nat):Nat×LObj:=(sb,.cells 159 [.list (T.map encTok),int .i64 i,int .i64 op])
def pan (l e:Int):List PanicEntry:=[{ v:=.iface 155 (.agg #[.int .i64 l,.int .i64 e]),recovered:=false }]
def PostP {A:Type} (sb:Nat) (T:List Tok) (enc:A→LV) (res:Res A) (r:LRes) (H:Heap):Prop:=match res with
 |.ok v i op=>r=.ret (enc v)∧H=[srcH sb T i op]
 |.err l e=>r=.panic (pan l e)∧∃ i op:Nat,H=[srcH sb T i op]
def encU:Unit→LV:=fun _=>.tuple []
theorem map_get {A:Type} (f:A→LV) (l:List A) (i:Nat) (h:i<l.length):(l.map f)[((i:Nat):Int).toNat]? = some (f l[i]):=by
 rw[Int.toNat_natCast,List.getElem?_map,List.getElem?_eq_getElem h]
 rfl
section
variable {B0:Nat} {w0:World}
theorem is_spec (sb:Nat) (T:List Tok) (i op:Nat) (xs:List (List UInt8)) (hT:T.length≤100000) (hi:i≤1000000) (hx:xs.length≤1000) :
  LCalls (KC B0 w0) 132 [ptr sb 0,.list (xs.map str)] [srcH sb T i op] (fun r H=>r=.ret (bool (isTok T i xs))∧H=[srcH sb T i op]):=by
 refine cI Tryz.func132 rfl (n:=40) rfl rfl rfl ?_
 refine gai ?_
 refine LCode.cut [(0,ptr sb 0),(1,.list (xs.map str)),(15,bool (decide (T.length≤i)))] ?_ (fun j hj=>?_)
 ·refine LCode.quiet zk ?_
  refine gac ?_
  exact ⟨⟨rfl,rfl,bool_eq (by rw[decide_eq_decide];simp),trivial⟩,rfl,rfl⟩
 ·skip
  refine oC rfl (fun hc=>?_) (fun hc=>?_)
  ·refine gao ?_
   exact rR hj (zra rfl) zhr ⟨by rw[isTok,List.getElem?_eq_none (zt hc)];rfl,rfl⟩
  ·have hlt:i<T.length:=by have:=zf hc;omega
   refine gad ?_
   refine LCode.draw (m:=12) rfl [srcH sb T i op] ?_
   refine aT 0 rfl rfl (pM (lv:=.atom _) rfl) ?_
   refine aT 1 rfl rfl (pN rfl) ?_
   refine aT 2 rfl rfl (pF rfl) ?_
   refine aT 3 rfl rfl (pL (c:=.list _) rfl zm0 rfl) ?_
   refine aT 4 rfl rfl (pM (lv:=.atom _) rfl) ?_
   refine aT 5 rfl rfl (pN rfl) ?_
   refine aT 6 rfl rfl (pF rfl) ?_
   refine aT 7 rfl rfl (pL (c:=.atom _) rfl zm0 rfl) ?_
   refine LAny.take (i:=8) zhr rfl zk zk zk rfl (xR (el':=encTok T[i]) (cs:=[_,_,_]) rfl rfl zo (map_get _ _ _ hlt) rfl rfl) ?_
   refine aT 9 rfl rfl (Pure.ldRefAgg (cs':=[_,_,_]) rfl rfl rfl) ?_
   refine LAny.late ?_ zhr
   refine lO 10 (lS (H1:=[]) (F:=[srcH sb T i op]) rfl (.inl rfl) rfl zpr zhr (sA fun b=>?_))
   refine lO 11 (lS (H1:=[(b,_)]) (F:=[srcH sb T i op]) rfl (.inl rfl) rfl zpr zhr (sS (cs':=[_,_,_]) rfl pH rfl rfl rfl rfl rfl ?_))
   refine lD zk ?_
   refine gaa ?_
   have hsp:isTok T i xs=((decide (T[i].kind=3) || decide (T[i].kind=4)) && xs.contains T[i].text):=by rw[isTok,List.getElem?_eq_getElem hlt]
   rw[hsp]
   refine oB 29 rfl (fun h3=>?_) (fun h3=>?_)
   ·refine gad ?_
    refine oS (sF [_,_] rfl (Contains_spec xs T[i].text zo) ?_) rfl
    refine gad ?_
    exact rR hj (zra rfl) (zhD zhr) ⟨by rw[h3];rfl,rfl⟩
   ·refine gad ?_
    refine oB 34 rfl (fun h4=>?_) (fun h4=>?_)
    ·refine gad ?_
     refine oS (sF [_,_] rfl (Contains_spec xs T[i].text zo) ?_) rfl
     refine gad ?_
     exact rR hj (zra rfl) (zhD zhr) ⟨by rw[h3,h4];rfl,rfl⟩
    ·refine gae ?_
     exact rR hj (zra rfl) (zhD zhr) ⟨by rw[h3,h4];rfl,rfl⟩
end
end Go.Proofs.YtpbbgkoalnonoaaGreatDoor
namespace Go.Proofs.YtpbbgkoalnonoaaGreatDoor
open Go.GL Go.RowKit Go.Stele
section steps
variable {C:Ctx} {e:Env} {H:Heap} {dst:Option Nat} {ty:TypeId} {pos:String} {aft:Array Edge} {g:Option (Nat×Bool)} {K:LV→Heap→Prop} {X:List PanicEntry→Heap→Prop}
theorem S.fnH {f:FuncId} [TEnter C.P f] (args:List Operand) {ats:Array TypeId} {av:List LV} {lv:LV} {p p':Nat×LObj} {F:Heap} (has:args.map e.ev=av) (hp:Pick p H F) (hc:LCalls C f av [p] (fun r H=>r=.ret lv∧H=[p'])) (hk:K lv (p'::F)) :
  LStep C ⟨dst,.call { callee:=.value (.func f),args:=args.toArray,argTypes:=ats },ty,pos,aft,g⟩ e H K X:=
 S.call1 args has hp hc (by rintro v H' ⟨h,rfl⟩;cases h;exact hk) (by rintro ch H' ⟨h,_⟩;cases h)
theorem S.callP {A:Type} {enc:A→LV} {res:Res A} {sb i op:Nat} {T:List Tok} {f:FuncId} [TEnter C.P f] (args:List Operand) {ats:Array TypeId} {av:List LV} {F:Heap} (has:args.map e.ev=av) (hp:Pick (srcH sb T i op) H F)
  (hc:LCalls C f av [srcH sb T i op] (PostP sb T enc res)) (hk:∀ v i' op',res=.ok v i' op'→K (enc v) (srcH sb T i' op'::F)) (hx:∀ l er i' op',res=.err l er→X (pan l er) (srcH sb T i' op'::F)) :
  LStep C ⟨dst,.call { callee:=.value (.func f),args:=args.toArray,argTypes:=ats },ty,pos,aft,g⟩ e H K X:=by
 refine S.call1 args has hp hc ?_ ?_
 ·intro v H' h
  cases hr:res with
  |ok u i' op'=>
   rw[hr] at h
   obtain ⟨h1,rfl⟩:=h
   cases h1
   exact hk _ _ _ hr
  |err l er=>
   rw[hr] at h
   obtain ⟨h1,_⟩:=h
   cases h1
 ·intro ch H' h
  cases hr:res with
  |ok u i' op'=>
   rw[hr] at h
   obtain ⟨h1,_⟩:=h
   cases h1
  |err l er=>
   rw[hr] at h
   obtain ⟨h1,i',op',rfl⟩:=h
   cases h1
   exact hx _ _ _ _ hr
theorem retP {A:Type} {enc:A→LV} {res:Res A} {sb:Nat} {T:List Tok} {n:Nat} {rs:List ResultVar} {vs:List LV} {v:A} {i op:Nat} (hd:e.ds=[]) (h:AllRes C n e H rs vs) (hr:res=.ok v i op) (hv:resLV vs=enc v) (hH:HSub [srcH sb T i op] H) :
  RetPost C n rs (PostP sb T enc res) .ret e H:=rR hd h hH (by rw[hr];exact ⟨by rw[hv],rfl⟩)
theorem retPn {A:Type} {enc:A→LV} {res:Res A} {sb:Nat} {T:List Tok} {n:Nat} {rs:List ResultVar} {vs:List LV} {v:A} {i op:Nat} (hd:e.ds=[]) (h:AllRes C n e H rs vs) (hr:res=.ok v i op) (hv:resLV vs=enc v) (hH:HSub [srcH sb T i op] H) :
  RetPost C n rs (PostP sb T enc res) .normal e H:=rO hd h hH (by rw[hr];exact ⟨by rw[hv],rfl⟩)
theorem panP {A:Type} {enc:A→LV} {res:Res A} {sb:Nat} {T:List Tok} {n:Nat} {rs:List ResultVar} {i op:Nat} {l er:Int} (hd:e.ds=[]) (hr:res=.err l er) (hH:HSub [srcH sb T i op] H) :
  RetPost C n rs (PostP sb T enc res) (.panic (pan l er)) e H:=RetPost.panic hd hH (by rw[hr];exact ⟨rfl,i,op,rfl⟩)
end steps
attribute [local irreducible] LOps LCode LStep LCalls Go.GL.Pure QThen QBlock RetPost LQ LAny LLate LLateOp
section
variable {B0:Nat} {w0:World}
theorem fail_spec {A:Type} (enc:A→LV) (sb:Nat) (T:List Tok) (i op:Nat) (er:Int) (hT:T.length≤100000) (hi:i≤1000000) :
  LCalls (KC B0 w0) 137 [ptr sb 0,int .i64 er] [srcH sb T i op] (PostP sb T enc (.err (failLine T i) er)):=by
 have hml:(T.map encTok).length=T.length:=zLm _
 refine cI Tryz.func137 rfl (n:=31) rfl rfl rfl ?_
 refine gab ?_
 refine LCode.cut [(0,ptr sb 0),(1,int .i64 er),(4,int .i64 (failLine T i))] ?_ (fun j hj=>?_)
 ·refine oC rfl (fun hc=>?_) (fun hc=>?_)
  ·have hpos:0<T.length:=by have:=zt hc;simp at this;omega
   have hmin:min i (T.length-1)<T.length:=by omega
   have hmv:(if ((T.map encTok).length:Int)-1<(i:Int) then ((T.map encTok).length:Int)-1 else (i:Int))=((min i (T.length-1):Nat):Int):=by
    rw[zLm]
    split <;> omega
   refine LCode.quiet zk ?_
   refine gac ?_
   refine LQ.pure (xR (n:=((min i (T.length-1):Nat):Int)) (el':=encTok T[min i (T.length-1)]) (cs:=[_,_,_]) rfl (congrArg (int .i64) hmv) zo (map_get _ _ _ hmin) rfl rfl) rfl ?_
   refine gac ?_
   exact ⟨⟨rfl,rfl,int_eq (by rw[failLine,List.getElem?_eq_getElem hmin]),trivial⟩,rfl,rfl⟩
  ·have hz:T=[]:=by
    have:=zf hc
    exact List.length_eq_zero_iff.1 zo
   refine gar ?_
   exact ⟨⟨rfl,rfl,int_eq (by rw[failLine,hz];rfl),trivial⟩,rfl,rfl⟩
 ·refine gab ?_
  refine oS (LStep.panic rfl fun e' he'=>?_) rfl
  exact panP (he'.trans hj) rfl zhr
theorem take_spec (sb:Nat) (T:List Tok) (i op:Nat) (x:List UInt8) (hT:T.length≤100000) (hi:i≤1000000) :
  LCalls (KC B0 w0) 134 [ptr sb 0,str x] [srcH sb T i op] (fun r H=>r=.ret (bool (isTok T i [x]))∧H=[srcH sb T (if isTok T i [x] then i+1 else i) op]):=by
 refine cI Tryz.func134 rfl (n:=17) rfl rfl rfl ?_
 refine gaa ?_
 refine oS (sL [_] rfl (zeC rfl rfl eN) rfl rfl rfl ?_) rfl
 refine oS (S.fnH [_,_] rfl pH (is_spec sb T i op [x] hT hi (by simp)) ?_) rfl
 refine gad ?_
 refine oC rfl (fun hc=>?_) (fun hc=>?_)
 ·have h:isTok T i [x]=false:=by simpa using hc
  refine gao ?_
  exact rR rfl (zra rfl) zhr ⟨by rw[h];rfl,by rw[h];rfl⟩
 ·have h:isTok T i [x]=true:=by simpa using hc
  refine gab ?_
  exact rR rfl (zra rfl) zhr ⟨by rw[h];rfl,by rw[h];rfl⟩
theorem need_spec (sb:Nat) (T:List Tok) (i op:Nat) (x:List UInt8) (hT:T.length≤100000) (hi:i≤1000000) :
  LCalls (KC B0 w0) 201 [ptr sb 0,str x] [srcH sb T i op] (PostP sb T encU (sNeed T x i op)):=by
 refine cI Tryz.func201 rfl (n:=10) rfl rfl rfl ?_
 refine gaj ?_
 refine oS (S.fnH [_,_] rfl pH (take_spec sb T i op x hT hi) ?_) rfl
 refine gad ?_
 refine oC rfl (fun hc=>?_) (fun hc=>?_)
 ·have h:isTok T i [x]=false:=by simpa using hc
  simp only[h,Bool.false_eq_true,if_false]
  refine gaj ?_
  refine oS (S.callP [_,_] rfl pH (fail_spec encU sb T i op 3 hT hi) (fun _ _ _ h=>by cases h) (fun l er i' op' h e' he'=>?_)) rfl
  cases h
  exact panP (he'.trans rfl) (by rw[sNeed,h,if_neg zDd];rfl) zhr
 ·have h:isTok T i [x]=true:=by simpa using hc
  simp only[h,if_true]
  refine gar ?_
  exact retPn rfl rN (by rw[sNeed,h,if_pos rfl]) rfl zhr
theorem word_spec (sb:Nat) (T:List Tok) (i op:Nat) (k:Int) (hT:T.length≤100000) (hi:i≤1000000) :
  LCalls (KC B0 w0) 202 [ptr sb 0,int .i64 k] [srcH sb T i op] (PostP sb T str (sWord T k i op)):=by
 have hml:(T.map encTok).length=T.length:=zLm _
 refine cI Tryz.func202 rfl (n:=51) rfl rfl rfl ?_
 refine gai ?_
 refine LCode.cut [(0,ptr sb 0),(1,int .i64 k),(29,bool (match T[i]? with|some t=>!decide (t.kind=k)|none=>true))] ?_ (fun j hj=>?_)
 ·refine LCode.quiet zk ?_
  refine gac ?_
  refine LQ.bcase 15 rfl (fun h=>?_) (fun h=>?_)
  ·have hge:T.length≤i:=by have:=zt h;omega
   refine gac ?_
   exact ⟨⟨rfl,rfl,bool_eq (by rw[List.getElem?_eq_none hge]),trivial⟩,rfl,rfl⟩
  ·have hlt:i<T.length:=by have:=zf h;omega
   refine gac ?_
   refine LQ.pure (xR (el':=encTok T[i]) (cs:=[_,_,_]) rfl rfl zo (map_get _ _ _ hlt) rfl rfl) rfl ?_
   refine gac ?_
   exact ⟨⟨rfl,rfl,bool_eq (by rw[List.getElem?_eq_getElem hlt]),trivial⟩,rfl,rfl⟩
 ·skip
  refine oC rfl (fun hc=>?_) (fun hc=>?_)
  ·have hs:sWord T k i op=synErr T i:=by
    unfold sWord
    cases hg:T[i]? with
    |none=>rfl
    |some t=>
     rw[hg] at hc
     have:¬ t.kind=k:=by simpa using hc
     simp only
     rw[if_neg this]
   refine gaj ?_
   refine oS (S.callP [_,_] rfl pH (fail_spec str sb T i op 3 hT hi) (fun _ _ _ h=>by cases h) (fun l er i' op' h e' he'=>?_)) rfl
   cases h
   refine gap ?_
   exact panP (he'.trans hj) hs zhr
  ·have hlt:i<T.length:=by
    rcases Nat.lt_or_ge i T.length with h|h
    ·exact h
    ·rw[List.getElem?_eq_none h] at hc;cases hc
   rw[List.getElem?_eq_getElem hlt] at hc
   have hk:T[i].kind=k:=by simpa using hc
   have hs:sWord T k i op=.ok T[i].text (i+1) op:=by rw[sWord,List.getElem?_eq_getElem hlt];simp only;rw[if_pos hk]
   refine gab ?_
   refine LCode.cut [(0,ptr sb 0),(4,str T[i].text)] ?_ (fun j2 hj2=>?_)
   ·refine LCode.quiet zk ?_
    refine gac ?_
    refine LQ.pure (xR (n:=((i:Nat):Int)) (el':=encTok T[i]) (cs:=[_,_,_]) rfl (int_eq zo) zo (map_get _ _ _ hlt) rfl rfl) rfl ?_
    refine gac ?_
    exact ⟨⟨rfl,rfl,trivial⟩,rfl,rfl⟩
   ·refine gae ?_
    exact retP (hj2.trans hj) (zra rfl) hs rfl zhr
theorem begin_spec (sb:Nat) (T:List Tok) (i op:Nat) (x:List UInt8) (hT:T.length≤100000) (hi:i≤1000000) (ho:op≤1000000) :
  LCalls (KC B0 w0) 203 [ptr sb 0,str x] [srcH sb T i op] (PostP sb T encU (sBegin T x i op)):=by
 refine cI Tryz.func203 rfl (n:=32) rfl rfl rfl ?_
 refine gaj ?_
 refine oS (sL [_] rfl (zeC rfl rfl eN) rfl rfl rfl ?_) rfl
 refine oS (S.fnH [_,_] rfl pH (is_spec sb T i op [x] hT hi (by simp)) ?_) rfl
 refine gad ?_
 refine oC rfl (fun hc=>?_) (fun hc=>?_)
 ·have h:isTok T i [x]=false:=by simpa using hc
  refine gaj ?_
  refine oS (S.callP [_,_] rfl pH (fail_spec encU sb T i op 3 hT hi) (fun _ _ _ h=>by cases h) (fun l er i' op' h' e' he'=>?_)) rfl
  cases h'
  refine gap ?_
  exact panP (he'.trans rfl) (by rw[sBegin,h,if_neg zDd];rfl) zhr
 ·have h:isTok T i [x]=true:=by simpa using hc
  refine gab ?_
  refine oC rfl (fun hd=>?_) (fun hd=>?_)
  ·have hd':100≤op:=by have:=zt hd;omega
   refine gaj ?_
   refine oS (S.callP [_,_] rfl pH (fail_spec encU sb T i op 6 hT hi) (fun _ _ _ h=>by cases h) (fun l er i' op' h' e' he'=>?_)) rfl
   cases h'
   refine gap ?_
   exact panP (he'.trans rfl) (by rw[sBegin,h,if_pos rfl,if_pos hd']) zhr
  ·have hd':¬ 100≤op:=by have:=zf hd;omega
   refine gab ?_
   exact retPn rfl rN (by rw[sBegin,h,if_pos rfl,if_neg hd']) rfl zhr
theorem end_spec (sb:Nat) (T:List Tok) (i op:Nat) (x:List UInt8) (hT:T.length≤100000) (hi:i≤1000000) (ho:op≤1000000) (h1:1≤op) :
  LCalls (KC B0 w0) 205 [ptr sb 0,str x] [srcH sb T i op] (PostP sb T encU (sEnd T x i op)):=by
 refine cI Tryz.func205 rfl (n:=14) rfl rfl rfl ?_
 refine gaj ?_
 refine oS (S.callP [_,_] rfl pH (need_spec sb T i op x hT hi) (fun v i' op' h=>?_) (fun l er i' op' h e' he'=>?_)) rfl
 ·have hop:op'=op:=by
   unfold sNeed at h
   split at h
   ·cases h;rfl
   ·cases h
  subst hop
  refine gab ?_
  rw[show ((op':Int)-1)=((op'-1:Nat):Int) by omega]
  exact retPn rfl rN (by rw[sEnd,h];rfl) rfl zhr
 ·refine gap ?_
  exact panP (he'.trans rfl) (by rw[sEnd,h];rfl) zhr
end
end Go.Proofs.YtpbbgkoalnonoaaGreatDoor
namespace Go.Proofs.YtpbbgkoalnonoaaGreatDoor
open Go.GL Go.RowKit Go.Stele
attribute [local irreducible] LOps LCode LStep LCalls Go.GL.Pure QThen QBlock RetPost LQ LAny LLate LLateOp
theorem obind_ok {A B:Type} {v:A} {i op:Nat} {f:A→Nat→Nat→OR B}:obind (some (.ok v i op)) f=f v i op:=rfl
theorem obind_err {A B:Type} {l e:Int} {f:A→Nat→Nat→OR B}:obind (some (.err l e)) f=some (.err l e):=rfl
theorem obind_is {A B:Type} {r:OR A} {f:A→Nat→Nat→OR B} {q:Res B} (h:obind r f=some q):∃ r1,r=some r1:=by
 cases r with
 |none=>cases h
 |some r1=>exact ⟨r1,rfl⟩
structure TOK (T:List Tok):Prop where
 len:T.length≤100000
 txt:∀ t∈T,t.text.length≤100000
 num:∀ t∈T,t.kind=1→∃ u,u<4294967296∧Go.Lib.parseUintB 32 t.text=.ok u
theorem wrap_u32 {n:Int} (h:0≤n∧n≤4294967295):IntKind.u32.wrap n=n:=by
 simp only[IntKind.wrap,IntKind.bits,IntKind.signed,Bool.false_and]
 simp
 omega
theorem sWord_ok {T:List Tok} {k:Int} {i op i' op':Nat} {s:List UInt8} (h:sWord T k i op=.ok s i' op'):i'=i+1∧op'=op∧∃ t,T[i]? = some t∧t.kind=k∧t.text=s:=by
 unfold sWord at h
 split at h
 ·rename_i t ht
  split at h
  ·rename_i hk
   cases h
   exact ⟨rfl,rfl,t,ht,hk,rfl⟩
  ·cases h
 ·cases h
def encNames (l:List (List UInt8)):LV:=.list (l.map str)
def encN (n:Nat):LV:=int .u32 n
def ExprC (B0:Nat) (w0:World) (sb:Nat) (T:List Tok) (f:Nat):Prop:=
 ∀ i op r,i≤T.length→op≤100→eLev T f 0 i op=some r→LCalls (KC B0 w0) 265 [ptr sb 0] [srcH sb T i op] (PostP sb T encE r)
section
variable {B0:Nat} {w0:World}
theorem number_specP (hG:GW B0 w0) (sb:Nat) (T:List Tok) (hT:TOK T) (i op:Nat) (hi:i≤1000000):LCalls (KC B0 w0) 204 [ptr sb 0] [srcH sb T i op] (PostP sb T encN (sNumber T i op)):=by
 have hl:=hT.len
 refine cI Tryz.func204 rfl (n:=13) rfl rfl rfl ?_
 refine gaa ?_
 refine oS (S.callP [_,_] rfl pH (word_spec sb T i op 1 hl hi) (fun s i1 op1 h1=>?_) (fun l er i1 op1 h1 e' he'=>?_)) rfl
 ·obtain ⟨rfl,rfl,t,ht,hk,rfl⟩:=sWord_ok h1
  have hmem:=List.mem_of_getElem? ht
  obtain ⟨u,hu,hp⟩:=hT.num t hmem hk
  have htx:=hT.txt t hmem
  have hn:numOf t.text=u:=by rw[numOf,hp]
  have hw:IntKind.u32.wrap (u:Int)=(u:Int):=wrap_u32 zo
  refine oS (sF [_,_,_] rfl (parseUint_ok t.text zo u hp) ?_) rfl
  refine gab ?_
  exact retP (v:=numOf t.text) rfl (zra rfl) (by rw[sNumber,h1];rfl) (by rw[hn];exact int_eq hw) zhr
 ·refine gap ?_
  exact panP (he'.trans rfl) (by rw[sNumber,h1];rfl) zhr
theorem names_specP (sb:Nat) (T:List Tok) (hT:TOK T) (f i op:Nat) (r:Res (List (List UInt8))) (hi:i≤T.length) (hr:sNames T f i op=some r) :
  LCalls (KC B0 w0) 200 [ptr sb 0] [srcH sb T i op] (PostP sb T encNames r):=by
 have hl:=hT.len
 rw[sNames] at hr
 refine cI Tryz.func200 rfl (n:=15) rfl rfl rfl ?_
 refine gaa ?_
 refine oS (S.callP [_,_] rfl pH (word_spec sb T i op 2 hl zo) (fun s i1 op1 h1=>?_) (fun l er i1 op1 h1 e' he'=>?_)) rfl
 ·rw[h1,obind_ok] at hr
  have hi1:i1≤T.length:=by
   have:=sWord_good T 2 i op
   rw[h1] at this
   exact this.2.2.1 hi
  refine oS (S.litA [_] rfl (zeC rfl rfl eN) rfl rfl rfl fun b=>?_) rfl
  refine gac ?_
  refine oL (fun k ls H=>∃ (v:LV) (l:List (List UInt8)) (i2:Nat) (Ha:Heap),ls=[(0,ptr sb 0),(3,v)]∧H=srcH sb T i2 op1::Ha∧Acc 1 v (l.map str) Ha []∧i2≤T.length∧l.length≤i2+1∧sNamesLoop T k l i2 op1=some r)
   ⟨f,_,srcH sb T i1 op1::[(b,.row 1)],⟨.app b 1 1 [str s],[s],i1,_,rfl,rfl,Acc.row,hi1,by simp,hr⟩,⟨rfl,rfl,trivial⟩,zhP zp1 zhr⟩ ?_
  rintro k ls H ⟨v,l,i2,Ha,rfl,rfl,hacc,hi2,hll,hI⟩ j hj
  obtain ⟨k,rfl⟩:∃ k',k=k'+1:=by
   cases k with
   |zero=>rw[sNamesLoop] at hI;cases hI
   |succ k=>exact ⟨k,rfl⟩
  rw[sNamesLoop] at hI
  refine gaj ?_
  refine oS (S.fnH [_,_] rfl pH (take_spec sb T i2 op1 [44] hl zo) ?_) rfl
  refine gae ?_
  refine oC rfl (fun hc=>?_) (fun hc=>?_)
  ·have hlt:=isTok_lt hc
   rw[if_pos hc] at hI
   simp only[hc,if_true]
   refine gak ?_
   refine oP (pM (lv:=v) rfl) rfl ?_
   refine gav ?_
   refine oS (S.callP [_,_] rfl pH (word_spec sb T (i2+1) op1 2 hl zo) (fun s2 i3 op3 h3=>?_) (fun l er i3 op3 h3 e' he'=>?_)) rfl
   ·rw[h3,obind_ok] at hI
    obtain ⟨rfl,rfl,t,ht,_,_⟩:=sWord_ok h3
    have:=get_lt ht
    refine oS (sL [_] rfl (zeC rfl rfl eN) rfl rfl rfl ?_) rfl
    refine oS (S.acc1 rfl hacc rfl (by simp;rfl) rfl (by simp;omega) fun v' H' hacc'=>?_) rfl
    refine oP (pA (lv:=v') rfl) rfl ?_
    refine gad ?_
    exact ⟨k,_,_,by omega,⟨v',l++[s2],i2+1+1,H',rfl,rfl,by rw[zMa];exact hacc',by omega,by simp;omega,hI⟩,⟨rfl,rfl,trivial⟩,zhR _,hj⟩
   ·rw[h3,obind_err] at hI
    refine gag ?_
    exact panP (he'.trans hj) (by cases hI;rfl) zhp
  ·have hc':isTok T i2 [[44]]=false:=hc
   rw[if_neg (by rw[hc'];decide)] at hI
   simp only[hc',Bool.false_eq_true,if_false]
   refine gaa ?_
   refine oP (pM (lv:=v) rfl) rfl ?_
   refine oP (pA (lv:=v) rfl) rfl ?_
   refine gae ?_
   exact retP (v:=l) hj (rC (rT (v:=v) rfl hacc.sub) rN) (by cases hI;rfl) rfl zhp
 ·exact zT51
theorem index_spec (sb:Nat) (T:List Tok) (hT:TOK T) (f:Nat) (hE:ExprC B0 w0 sb T f) (i op:Nat) (r:Res Ex) (hi:i≤T.length) (ho:op≤100) (hr:eIndex T (f+1) i op=some r) :
  LCalls (KC B0 w0) 295 [ptr sb 0] [srcH sb T i op] (PostP sb T encE r):=by
 have hl:=hT.len
 rw[eIndex] at hr
 refine cI Tryz.func295 rfl (n:=11) rfl rfl rfl ?_
 refine gaf ?_
 refine oS (sA fun b=>?_) rfl
 refine gaa ?_
 refine oS (S.callP [_,_] rfl zp1 (begin_spec sb T i op [91] hl zo zo) (fun v i1 op1 h1=>?_) (fun l er i1 op1 h1 e' he'=>?_)) rfl
 ·rw[h1,obind_ok] at hr
  obtain ⟨rfl,rfl,ho1,hi1⟩:=sBegin_ok h1
  refine gaa ?_
  obtain ⟨r1,hr1⟩:=obind_is hr
  refine oS (S.callP [_] rfl pH (hE _ _ r1 zo zo hr1) (fun v i2 op2 h2=>?_) (fun l er i2 op2 h2 e' he'=>?_)) rfl
  ·rw[hr1,h2,obind_ok] at hr
   obtain ⟨g1,_,g3,rfl⟩:=(ex_good T f).1 0 _ _ _ (hr1.trans (congrArg some h2))
   have g4:=g3 zo
   refine oS (sA fun b2=>?_) rfl
   refine gab ?_
   refine oS (S.callP [_,_] rfl zp1 (end_spec sb T i2 (op+1) [93] hl zo zo zo) (fun u i3 op3 h3=>?_) (fun l er i3 op3 h3 e' he'=>?_)) rfl
   ·rw[h3,obind_ok] at hr
    refine gab ?_
    exact retP rfl (rC (rA rfl zm0 rfl zsr) rN) (by cases hr;rfl) rfl (zhD zhp)
   ·rw[h3,obind_err] at hr
    refine gap ?_
    exact panP (he'.trans rfl) (by cases hr;rfl) zhp
  ·rw[hr1,h2,obind_err] at hr
   refine gap ?_
   exact panP (he'.trans rfl) (by cases hr;rfl) zhp
 ·exact zT51
end
end Go.Proofs.YtpbbgkoalnonoaaGreatDoor
