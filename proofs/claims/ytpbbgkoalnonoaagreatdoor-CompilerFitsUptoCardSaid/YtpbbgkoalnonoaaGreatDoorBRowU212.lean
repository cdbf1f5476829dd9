/- Texts joined: RC5, RC6, RC7, RC8, RC9, RFt. -/
import Derived.Test.YtpbbgkoalnonoaaGreatDoorBRowU24
import Derived.Test.YtpbbgkoalnonoaaGreatDoorBRowU210
import Derived.Test.YtpbbgkoalnonoaaGreatDoorBRowU211
set_option linter.unusedVariables false
set_option linter.unusedSimpArgs false
namespace Go.Proofs.YtpbbgkoalnonoaaGreatDoor.RC
open Go.GL Go.RowKit Go.Stele
set_option maxRecDepth 100000
set_option maxHeartbeats 4000000
theorem ndSs_mem:∀ {l:List Sm} {f:Sm},f∈l→ndS f≤ndSs l
 |g::l,f,h=>by
  rw[ndSs]
  rcases List.mem_cons.1 h with rfl|h
  ·omega
  ·have:=ndSs_mem h
   omega
theorem ndEs_app:∀ a b:List Ex,ndEs (a++b)=ndEs a+ndEs b
 |[],b=>by rw[ndEs,List.nil_append];omega
 |x::a,b=>by rw[List.cons_append,ndEs,ndEs,ndEs_app a b];omega
theorem orE_assoc (a b c:Int):orE (orE a b) c=orE a (orE b c):=by
 unfold orE
 by_cases h:a=0
 ·subst h;rfl
 ·rw[if_pos h,if_pos h,if_pos h]
theorem orE_ne {a b:Int} (h:a≠0):orE a b=a:=by unfold orE;rw[if_pos h]
theorem encE_len (l:List Ex):∀ v∈l.map encE,v.cells.length=4:=fun v hv=>by
 obtain ⟨x,_,rfl⟩:=List.mem_map.1 hv
 rfl
theorem encE_ok (l:List Ex):((l.map encE).flatMap LV.cells).all cellOk=true:=by
 induction l with
 |nil=>rfl
 |cons a l ih=>
  simp only[List.map_cons,List.flatMap_cons,List.all_append,ih,Bool.and_true]
  rfl
@[reducible] def smH (b:Nat) (kind:Int) (name:Nm) (index value:List Ex) (thn els:List Sm):Nat×LObj:=(b,.cells 102 [int .i64 kind,str name,.list (index.map encE),.list (value.map encE),.list (thn.map encS),.list (els.map encS)])
attribute [local irreducible] LOps LCode LStep LCalls Go.GL.Pure QThen QBlock RetPost LQ LAny LLate LLateOp LS
section
variable {B0:Nat} {w0:World}
def BodyH (B0:Nat) (w0:World) (own:Nm) (c:CEnv) (fs:List FnD) (n:Nat):Prop:=∀ l:List Sm,ndSs l<n→LCalls (KC B0 w0) 36 [.agg [str own,.list (c.own.map str),.list (c.vars.map str),.list (c.arrays.map str),.list (fs.map encFn),.list (c.later.map str)],.list (l.map encS)] [] (PostB (errSs c l))
theorem body_spec {own:Nm} {c:CEnv} {fs:List FnD} (h:ScOk c fs):∀ n:Nat,n≤100000000→BodyH B0 w0 own c fs n
 |0,_=>fun l h=>by omega
 |n+1,hn6=>by
  have ih:=body_spec (own:=own) h n zo
  have hex:ExprH B0 w0 own c fs n:=expr_spec h n zo
  intro l hnd
  have hal:=ndSs_len l
  have hex':∀ x:Ex,ndE x≤n→LCalls (KC B0 w0) 84 [.agg [str own,.list (c.own.map str),.list (c.vars.map str),.list (c.arrays.map str),.list (fs.map encFn),.list (c.later.map str)],encE x] [] (PostB (errE c x)):=hex
  generalize hI:errSs c l=E
  refine cI Tryz.func36 rfl (n:=78) rfl rfl rfl ?_
  refine gah ?_
  refine oS (S.box rfl fun b2=>?_) rfl
  refine oS (S.alloc fun b4=>?_) rfl
  refine gab ?_
  refine oL (fun kk ls H'=>∃ (pre l1:List Sm),l=pre++l1∧kk=l1.length∧ls=[(2,ptr b2 0),(4,ptr b4 0),(11,.list (l.map encS)),(12,int .i64 ((l.map encS).length:Int)),(13,int .i64 (pre.length:Int))] ∧
    H'=[pbH b4 [] 0,scH b2 own c fs]∧errSs c l1=E)
   ⟨l.length,_,_,⟨[],l,rfl,rfl,rfl,rfl,hI⟩,⟨rfl,rfl,rfl,rfl,rfl,trivial⟩,HSub.refl _⟩ ?_
  rintro kk ls H' ⟨pre,l1,hL,rfl,rfl,rfl,hI2⟩ j hj
  have hb:=pre_le hL (show l.length≤100000000 by omega)
  refine gag ?_
  refine oC rfl (fun hc=>?_) (fun hc=>?_)
  rotate_left
  ·obtain rfl:=none_left hL hc
   refine gaa ?_
   exact retB (nm:=[]) hj (rC (rA rfl zm0 rfl zsr) rN) (by rw[←hI2,errSs];rfl)
  obtain ⟨a,l2,rfl⟩:=more hL hc
  have ham:ndS a≤ndSs l:=ndSs_mem (by rw[hL];exact List.mem_append_right _ (List.mem_cons_self ..))
  obtain ⟨kind,name,index,value,thn,els⟩:=a
  have hfm:=form_spec (B0:=B0) (w0:=w0) (.mk kind name index value thn els)
  rw[encS_mk] at hfm
  rw[errSs,errS] at hI2
  rw[ndS] at ham
  refine gai ?_
  refine oP (xR (el':=.agg [int .i64 kind,str name,.list (index.map encE),.list (value.map encE),.list (thn.map encS),.list (els.map encS)]) (cs:=[_,_,_,_,_,_]) rfl rfl zo (by rw[hL,←encS_mk];exact get_mid encS pre _ l2) rfl rfl) rfl ?_
  refine gac ?_
  refine oS (S.alloc fun b6=>?_) rfl
  refine gaa ?_
  refine oS (S.fn [_] rfl hfm ?_) rfl
  refine gac ?_
  by_cases hf:formS (.mk kind name index value thn els)=false
  ·rw[if_pos hf] at hI2
   refine oC rfl (fun _=>?_) (fun hd=>?_)
   rotate_left
   ·have h2:(!formS (.mk kind name index value thn els))=false:=hd
    rw[hf] at h2
    cases h2
   refine gaa ?_
   exact retB (nm:=own) hj (rC (rA rfl zm0 rfl zsr) rN) (by rw[←hI2];rfl)
  rw[if_neg hf] at hI2
  refine oC rfl (fun hd=>?_) (fun _=>?_)
  ·have h2:(!formS (.mk kind name index value thn els))=true:=hd
   rw[Bool.not_eq_true'] at h2
   exact absurd h2 hf
  have hvi:(value++index).length≤100000000:=by
   have g1:=ndEs_len value
   have g2:=ndEs_len index
   rw[List.length_append]
   omega
  rw[List.length_append] at hvi
  have hI3:orE (errEs c (value++index)) (orE (if kind=1 then scalarE c name else if kind=2 then arrayE c name else 0) (orE (errSs c thn) (orE (errSs c els) (errSs c l2))))=E:=by
   rw[errEs_app,←hI2]
   simp only[orE_assoc]
  clear hI2
  refine gad ?_
  refine LCode.draw (m:=9) rfl [smH b6 kind name index value thn els] ?_
  refine aT 1 rfl rfl (Pure.fieldH rfl) ?_
  refine aT 2 rfl rfl (Pure.loadH (c:=.list _) rfl zm0 rfl) ?_
  refine aT 4 rfl rfl (Pure.fieldH rfl) ?_
  refine aT 5 rfl rfl (Pure.loadH (c:=.list _) rfl zm0 rfl) ?_
  refine aT 8 rfl rfl (Pure.mv (lv:=.atom _) rfl) ?_
  refine LAny.late ?_ zhp
  refine lO 0 (lS (H1:=[]) rfl (.inl rfl) rfl zpr zhp (S.litA (es:=[]) [] rfl eN rfl rfl rfl fun b7=>?_))
  refine lO 3 (lS (H1:=[(b7,.row 0)]) rfl (.inl rfl) rfl zpr zhp (S.acc (F:=[]) rfl Acc.row rfl (encE_len _) (encE_ok _) (by simp;omega) fun v1 H1 h1=>?_))
  refine lO 6 (lS (H1:=H1) rfl (.inl rfl) rfl zpr zhp (S.acc (F:=[]) rfl h1 rfl (encE_len _) (encE_ok _) (by simp;omega) fun v2 H2 h2=>?_))
  have e2:([]++value.map encE++index.map encE:List LV)=(value++index).map encE:=by simp
  rw[e2] at h2
  refine lO 7 (lH rfl rfl (Pure.llen (h2.elems)) ?_)
  refine lD zk ?_
  refine gad ?_
  refine LCode.sub (d:=29) rfl h2.sub ?_
  refine LCode.weak (H':=[smH b6 kind name index value thn els,pbH b4 [] 0,scH b2 own c fs]) ⟨H2,List.perm_append_comm⟩ ?_
  have hll:((value++index).map encE).length=value.length+index.length:=by simp
  refine oL (fun kk ls H'=>∃ (pre2 l3:List Ex),value++index=pre2++l3∧kk=l3.length∧ls=[(2,ptr b2 0),(4,ptr b4 0),(6,ptr b6 0),(11,.list (l.map encS)),(12,int .i64 ((l.map encS).length:Int)),(13,int .i64 (pre.length:Int)),(29,.list ((value++index).map encE)),(30,int .i64 (((value++index).map encE).length:Int)),(31,int .i64 (pre2.length:Int))] ∧
    H'=[smH b6 kind name index value thn els,pbH b4 [] 0,scH b2 own c fs]∧orE (errEs c l3) (orE (if kind=1 then scalarE c name else if kind=2 then arrayE c name else 0) (orE (errSs c thn) (orE (errSs c els) (errSs c l2))))=E)
   ⟨_,_,_,⟨[],value++index,rfl,rfl,rfl,rfl,hI3⟩,⟨rfl,rfl,rfl,rfl,rfl,rfl,rfl,rfl,rfl,trivial⟩,HSub.refl _⟩ ?_
  rintro kk ls H' ⟨pre2,l3,hL2,rfl,rfl,rfl,hI4⟩ j2 hj2
  have hb2:=pre_le hL2 (show (value++index).length≤100000000 by rw[List.length_append];omega)
  refine gag ?_
  refine oC rfl (fun hc2=>?_) (fun hc2=>?_)
  ·obtain ⟨a,l4,rfl⟩:=more hL2 hc2
   have ham2:ndE a≤ndEs (value++index):=ndEs_mem (by rw[hL2];exact List.mem_append_right _ (List.mem_cons_self ..))
   rw[ndEs_app] at ham2
   rw[errEs,orE_assoc] at hI4
   refine gai ?_
   refine oP (xR (el':=encE a) (cs:=[_,_,_,_]) rfl rfl zo (by rw[hL2];exact get_mid encE pre2 a l4) rfl rfl) rfl ?_
   refine gao ?_
   refine oS (S.alloc fun b8=>?_) rfl
   refine gaa ?_
   refine oS (S.pb [_,_] rfl (hex' a zo) fun nm=>?_) rfl
   refine oS (S.alloc fun b9=>?_) rfl
   refine gaa ?_
   by_cases h1:errE c a=0
   ·rw[h1] at hI4 ⊢
    refine oC rfl (fun hd=>by cases hd) (fun _=>?_)
    refine gav ?_
    exact ⟨l4.length,_,_,Nat.lt_succ_self _,⟨pre2++[a],l4,snoc hL2,rfl,rfl,rfl,hI4⟩,⟨rfl,rfl,rfl,rfl,rfl,rfl,rfl,rfl,int_eq (by simp),trivial⟩,zhD (zhD zhr),hj2⟩
   ·refine oC rfl (fun _=>?_) (fun hd=>?_)
    rotate_left
    ·have h2:(!decide (errE c a=0))=false:=hd
     simp at h2
     exact absurd h2 h1
    rw[orE_ne h1] at hI4
    refine gaa ?_
    exact retB (nm:=nm) (hj2.trans hj) (rC (rA (k:=2) rfl zm0 rfl zsr) rN) (by rw[←hI4];rfl)
  obtain rfl:=none_left hL2 hc2
  have hI5:orE (if kind=1 then scalarE c name else if kind=2 then arrayE c name else 0) (orE (errSs c thn) (orE (errSs c els) (errSs c l2)))=E:=hI4
  refine gaa ?_
  refine oS (S.alloc fun b10=>?_) rfl
  refine gaa ?_
  refine LCode.mid (A:=Nm) (fun _=>[(2,ptr b2 0),(4,ptr b4 0),(6,ptr b6 0),(10,ptr b10 0),(11,.list (l.map encS)),(12,int .i64 ((l.map encS).length:Int)),(13,int .i64 (pre.length:Int))]) (fun nm=>[pbH b10 nm (if kind=1 then scalarE c name else 0),smH b6 kind name index value thn els,pbH b4 [] 0,scH b2 own c fs]) (fun _=>True) ?_ ?_
  ·by_cases k1:kind=1
   ·refine oC rfl (fun _=>?_) (fun hd=>absurd k1 (zf hd))
    refine gaa ?_
    refine oS (S.pb [_,_] rfl (scalar_spec (own:=own) h name) fun nm=>?_) rfl
    refine gac ?_
    exact ⟨nm,trivial,⟨rfl,rfl,rfl,rfl,rfl,rfl,rfl,trivial⟩,by rw[if_pos k1],rfl⟩
   ·refine oC rfl (fun hd=>absurd (zt hd) k1) (fun _=>?_)
    refine gau ?_
    exact ⟨[],trivial,⟨rfl,rfl,rfl,rfl,rfl,rfl,rfl,trivial⟩,by rw[if_neg k1],rfl⟩
  rintro nm1 _ j3 hj3
  refine gaa ?_
  refine LCode.mid (A:=Nm) (fun _=>[(2,ptr b2 0),(4,ptr b4 0),(6,ptr b6 0),(10,ptr b10 0),(11,.list (l.map encS)),(12,int .i64 ((l.map encS).length:Int)),(13,int .i64 (pre.length:Int))]) (fun nm=>[pbH b10 nm (if kind=1 then scalarE c name else if kind=2 then arrayE c name else 0),smH b6 kind name index value thn els,pbH b4 [] 0,scH b2 own c fs]) (fun _=>True) ?_ ?_
  ·by_cases k2:kind=2
   ·refine oC rfl (fun _=>?_) (fun hd=>absurd k2 (zf hd))
    refine gaa ?_
    refine oS (S.pb [_,_] rfl (indexed_spec (own:=own) h name) fun nm=>?_) rfl
    refine gac ?_
    exact ⟨nm,trivial,⟨rfl,rfl,rfl,rfl,rfl,rfl,rfl,trivial⟩,by rw[if_neg zo,if_pos k2],rfl⟩
   ·refine oC rfl (fun hd=>absurd (zt hd) k2) (fun _=>?_)
    refine gau ?_
    exact ⟨nm1,trivial,⟨rfl,rfl,rfl,rfl,rfl,rfl,rfl,trivial⟩,by rw[if_neg k2],rfl⟩
  rintro nm2 _ j4 hj4
  generalize (if kind=1 then scalarE c name else if kind=2 then arrayE c name else 0)=e1 at hI5 ⊢
  refine gab ?_
  refine LCode.mid (A:=Nm) (fun _=>[(2,ptr b2 0),(4,ptr b4 0),(6,ptr b6 0),(10,ptr b10 0),(11,.list (l.map encS)),(12,int .i64 ((l.map encS).length:Int)),(13,int .i64 (pre.length:Int))]) (fun nm=>[pbH b10 nm (orE e1 (errSs c thn)),smH b6 kind name index value thn els,pbH b4 [] 0,scH b2 own c fs]) (fun _=>True) ?_ ?_
  ·by_cases k3:e1=0
   ·refine oC rfl (fun _=>?_) (fun hd=>absurd k3 (zf hd))
    refine gaa ?_
    refine oS (S.pb [_,_] rfl (ih thn zo) fun nm=>?_) rfl
    refine gac ?_
    exact ⟨nm,trivial,⟨rfl,rfl,rfl,rfl,rfl,rfl,rfl,trivial⟩,by rw[k3];rfl,rfl⟩
   ·refine oC rfl (fun hd=>absurd (zt hd) k3) (fun _=>?_)
    refine gau ?_
    exact ⟨nm2,trivial,⟨rfl,rfl,rfl,rfl,rfl,rfl,rfl,trivial⟩,by rw[orE_ne k3],rfl⟩
  rintro nm3 _ j5 hj5
  rw[←orE_assoc] at hI5
  generalize orE e1 (errSs c thn)=e2 at hI5 ⊢
  refine gab ?_
  refine LCode.mid (A:=Nm) (fun _=>[(2,ptr b2 0),(4,ptr b4 0),(6,ptr b6 0),(10,ptr b10 0),(11,.list (l.map encS)),(12,int .i64 ((l.map encS).length:Int)),(13,int .i64 (pre.length:Int))]) (fun nm=>[pbH b10 nm (orE e2 (errSs c els)),smH b6 kind name index value thn els,pbH b4 [] 0,scH b2 own c fs]) (fun _=>True) ?_ ?_
  ·by_cases k3:e2=0
   ·refine oC rfl (fun _=>?_) (fun hd=>absurd k3 (zf hd))
    refine gaa ?_
    refine oS (S.pb [_,_] rfl (ih els zo) fun nm=>?_) rfl
    refine gac ?_
    exact ⟨nm,trivial,⟨rfl,rfl,rfl,rfl,rfl,rfl,rfl,trivial⟩,by rw[k3];rfl,rfl⟩
   ·refine oC rfl (fun hd=>absurd (zt hd) k3) (fun _=>?_)
    refine gau ?_
    exact ⟨nm3,trivial,⟨rfl,rfl,rfl,rfl,rfl,rfl,rfl,trivial⟩,by rw[orE_ne k3],rfl⟩
  rintro nm4 _ j6 hj6
  rw[←orE_assoc] at hI5
  generalize orE e2 (errSs c els)=e3 at hI5 ⊢
  have hjj:=((hj6.trans hj5).trans (hj4.trans hj3)).trans hj2
  refine gaa ?_
  by_cases k3:e3=0
  ·subst k3
   refine oC rfl (fun hd=>by cases hd) (fun _=>?_)
   refine gav ?_
   exact ⟨l2.length,_,_,Nat.lt_succ_self _,⟨pre++[_],l2,snoc hL,rfl,rfl,rfl,hI5⟩,⟨rfl,rfl,rfl,rfl,int_eq (by simp),trivial⟩,zhD (zhD zhr),hjj.trans hj⟩
  ·refine oC rfl (fun _=>?_) (fun hd=>?_)
   rotate_left
   ·have h2:(!decide (e3=0))=false:=hd
    simp at h2
    exact absurd h2 k3
   rw[orE_ne k3] at hI5
   refine gaa ?_
   exact retB (nm:=nm4) (hjj.trans hj) (rC (rA (k:=2) rfl zm0 rfl zsr) rN) (by rw[hI5];rfl)
end
end Go.Proofs.YtpbbgkoalnonoaaGreatDoor.RC
namespace Go.Proofs.YtpbbgkoalnonoaaGreatDoor.RC
open Go.GL Go.RowKit Go.Stele
set_option maxRecDepth 100000
set_option maxHeartbeats 4000000
@[reducible] def iv (n:Nat):LV:=int .i64 (n:Int)
def mostN:List Nat→Nat
 |[]=>0
 |a::l=>l.foldl max a
theorem iv_len (l:List Nat):∀ v∈l.map iv,v.cells.length=1:=fun v hv=>by
 obtain ⟨x,_,rfl⟩:=List.mem_map.1 hv
 rfl
theorem iv_ok (l:List Nat):((l.map iv).flatMap LV.cells).all cellOk=true:=by
 induction l with
 |nil=>rfl
 |cons a l ih=>
  simp only[List.map_cons,List.flatMap_cons,List.all_append,ih,Bool.and_true]
  rfl
theorem iv_els (l:List Nat):elemsOk 1 (l.map iv):=fun v hv=>by
 obtain ⟨x,_,rfl⟩:=List.mem_map.1 hv
 exact ⟨rfl,rfl⟩
theorem iv_eq {a b:Nat} (h:a=b):iv a=iv b:=by rw[h]
theorem needEs_snoc (c:CEnv) (x:Ex):∀ l:List Ex,needEs c (l++[x])=needEs c l++[needE c x]
 |[]=>rfl
 |y::l=>by
  show needEs c (y::(l++[x]))=_
  rw[needEs,needEs_snoc c x l,needEs]
  rfl
attribute [local irreducible] LOps LCode LStep LCalls Go.GL.Pure QThen QBlock RetPost LQ LAny LLate LLateOp LS
section
variable {B0:Nat} {w0:World}
theorem most_spec (a:Nat) (r:List Nat) (hl:r.length≤1000):LCalls (KC B0 w0) 87 [.list ((a::r).map iv)] [] (Ret (iv (mostN (a::r)))):=by
 generalize hA:a::r=A
 have hAl:A.length≤1001:=by rw[←hA,List.length_cons];omega
 refine cI Tryz.func87 rfl (n:=21) rfl rfl rfl ?_
 refine gab ?_
 refine oP (xR (el':=iv a) (cs:=[_]) rfl rfl zo (by rw[←hA];rfl) rfl rfl) rfl ?_
 refine gaa ?_
 refine oL (fun k ls H'=>∃ pre l1,A=pre++l1∧k=l1.length∧ls=[(3,iv (pre.foldl max a)),(9,.list (A.map iv)),(10,int .i64 ((A.map iv).length:Int)),(11,int .i64 (pre.length:Int))]∧H'=[])
  ⟨_,_,_,⟨[],A,rfl,rfl,rfl,rfl⟩,⟨rfl,rfl,rfl,rfl,trivial⟩,HSub.refl _⟩ ?_
 rintro k ls H' ⟨pre,l1,hL,rfl,rfl,rfl⟩ j hj
 have hb:=pre_le hL hAl
 refine gag ?_
 refine oC rfl (fun hc=>?_) (fun hc=>?_)
 ·obtain ⟨x,l2,rfl⟩:=more hL hc
  refine gai ?_
  refine oP (xR (el':=iv x) (cs:=[_]) rfl rfl zo (by rw[hL];exact get_mid iv pre x l2) rfl rfl) rfl ?_
  refine gaa ?_
  refine oC rfl (fun hd=>?_) (fun hd=>?_)
  ·have h1:=zt hd
   refine gab ?_
   exact ⟨l2.length,_,_,Nat.lt_succ_self _,⟨pre++[x],l2,snoc hL,rfl,rfl,rfl⟩,⟨iv_eq (by rw[List.foldl_append];show x=max (pre.foldl max a) x;omega),rfl,rfl,int_eq (by simp),trivial⟩,HSub.refl _,hj⟩
  ·have h1:=zf hd
   refine gav ?_
   exact ⟨l2.length,_,_,Nat.lt_succ_self _,⟨pre++[x],l2,snoc hL,rfl,rfl,rfl⟩,⟨iv_eq (by rw[List.foldl_append];show pre.foldl max a=max (pre.foldl max a) x;omega),rfl,rfl,int_eq (by simp),trivial⟩,HSub.refl _,hj⟩
 ·obtain rfl:=none_left hL hc
  rw[List.append_nil] at hL
  refine gab ?_
  exact retRet hj (zra rfl) (iv_eq (by rw[←hL,←hA];show (r.foldl max (max a a))=_;rw[Nat.max_self];rfl))
def NeedH (B0:Nat) (w0:World) (c:CEnv) (fs:List FnD) (n:Nat):Prop:=∀ x:Ex,errE c x=0→ndE x<n→LCalls (KC B0 w0) 143 [encE x,.list (fs.map encFn),.list ((c.funcs.map (·.need)).map iv)] [] (Ret (iv (needE c x)))
theorem Need_spec {c:CEnv} {fs:List FnD} (hfl:fs.length≤100000000) (hfn:c.funcs.map (·.name)=fs.map (·.name)) (hd:Dist c.funcs) {B D:Nat} (hB:KnB B D c.funcs) (hB8:B≤100000000):∀ n:Nat,n≤100000000→NeedH B0 w0 c fs n
 |0,_=>fun x _ h=>by omega
 |n+1,hn6=>by
  have ih:=Need_spec hfl hfn hd hB hB8 n zo
  intro x herr hnd
  obtain ⟨op,num,name,args⟩:=x
  rw[ndE] at hnd
  have hal:=ndEs_len args
  rw[errE] at herr
  have hop:opnds op = -1∨opnds op=(args.length:Int):=Decidable.byContradiction fun h=>by rw[if_neg h] at herr;cases herr
  rw[if_pos hop] at herr
  obtain ⟨hea,hue⟩:=orE_zero.1 herr
  have hea0:=hea
  generalize hR:iv (needE c (.mk op num name args))=R
  rw[needE] at hR
  rw[encE_mk]
  refine cI Tryz.func143 rfl (n:=156) rfl rfl rfl ?_
  refine gah ?_
  refine oS (S.box rfl fun b3=>?_) rfl
  refine gaj ?_
  refine oS (S.litA (es:=[]) [] rfl eN rfl rfl rfl fun b7=>?_) rfl
  refine gaa ?_
  refine oL (fun kk ls H'=>∃ (pre l1:List Ex) (v:LV) (Ha:Heap),args=pre++l1∧kk=l1.length∧ls=[(1,.list (fs.map encFn)),(2,.list ((c.funcs.map (·.need)).map iv)),(3,ptr b3 0),(7,v),(16,.list (args.map encE)),(17,int .i64 ((args.map encE).length:Int)),(18,int .i64 (pre.length:Int))] ∧
    H'=exH b3 op num name args::Ha∧GL.Acc 1 v ((needEs c pre).map iv) Ha []∧errEs c l1=0)
   ⟨_,_,_,⟨[],args,.app b7 0 1 [],[(b7,.row 0)],rfl,rfl,rfl,rfl,Acc.row,hea⟩,⟨rfl,rfl,rfl,rfl,rfl,rfl,rfl,trivial⟩,⟨[],by simpa using List.Perm.swap _ _ _⟩⟩ ?_
  rintro kk ls H' ⟨pre,l1,v,Ha,hL,rfl,rfl,rfl,hacc,hI2⟩ j hj
  have hb:=pre_le hL (show args.length≤100000000 by omega)
  refine gag ?_
  refine oC rfl (fun hc=>?_) (fun hc=>?_)
  ·obtain ⟨a,l2,rfl⟩:=more hL hc
   have ham:ndE a≤ndEs args:=ndEs_mem (by rw[hL];exact List.mem_append_right _ (List.mem_cons_self ..))
   rw[errEs] at hI2
   obtain ⟨h1,h2⟩:=orE_zero.1 hI2
   refine gai ?_
   refine oP (xR (el':=encE a) (cs:=[_,_,_,_]) rfl rfl zo (by rw[hL];exact get_mid encE pre a l2) rfl rfl) rfl ?_
   refine gao ?_
   refine oS (S.alloc fun b9=>?_) rfl
   refine gaa ?_
   refine oP (Pure.mv (lv:=v) rfl) rfl ?_
   refine gac ?_
   refine oS (S.fn [_,_,_] rfl (ih a h1 zo) ?_) rfl
   refine oS (S.lit (es:=[needE c a].map iv) [_] rfl (eC rfl rfl eN) rfl rfl rfl ?_) rfl
   have hnl:(needEs c pre).length=pre.length:=needEs_len c pre
   refine oS (S.accF (A:=[_,_]) (H1:=Ha) (List.perm_append_comm (l₁:=[_,_])) rfl hacc rfl (iv_len _) (iv_ok _) (by rw[List.length_map,List.length_map,List.length_singleton];omega) fun v2 H2 hacc2=>?_) rfl
   refine oP (Pure.as (lv:=v2) rfl) rfl ?_
   refine gan ?_
   exact ⟨l2.length,_,_,Nat.lt_succ_self _,⟨pre++[a],l2,v2,H2,snoc hL,rfl,rfl,rfl,by rw[needEs_snoc,List.map_append];exact hacc2,h2⟩,⟨rfl,rfl,rfl,rfl,rfl,rfl,int_eq (by simp),trivial⟩,zhD zhr,hj⟩
  obtain rfl:=none_left hL hc
  rw[List.append_nil] at hL
  subst hL
  clear hI2
  refine gad ?_
  refine LCode.sub (d:=7) rfl hacc.sub ?_
  refine LCode.weak (H':=[exH b3 op num name args]) ⟨Ha,List.Perm.refl _⟩ ?_
  have hnE:∀ x∈args,needE c x≤500000000:=fun x hx=>by
   have h1:=needE_le B D c hB x
   have h2:=ndEs_mem hx
   omega
  have two:∀ {k:Int},opnds op=k→0≤k→args.length=k.toNat:=fun {k} h h0=>by
   rcases hop with h1|h1 <;> omega
  refine gab ?_
  by_cases h1:op=[110,117,109]
  ·subst h1
   refine oC rfl (fun _=>?_) (fun hc=>by cases hc)
   refine gau ?_
   refine oC rfl (fun _=>?_) (fun hc=>by cases hc)
   refine gab ?_
   exact retRet hj (zra rfl) hR
  refine oC rfl (fun hc=>absurd (zt hc) h1) (fun _=>?_)
  refine gaj ?_
  by_cases h2:op=[118,97,114]
  ·subst h2
   refine oC rfl (fun _=>?_) (fun hc=>by cases hc)
   refine gab ?_
   exact retRet hj (zra rfl) hR
  refine oC rfl (fun hc=>absurd (zt hc) h2) (fun _=>?_)
  refine gaj ?_
  by_cases h3:op=[101,108,101,109]
  ·subst h3
   obtain ⟨x,rfl⟩:=List.length_eq_one_iff.1 (two rfl (by decide))
   have hx:=hnE x (List.mem_cons_self ..)
   refine oC rfl (fun _=>?_) (fun hc=>by cases hc)
   refine gau ?_
   refine oC rfl (fun _=>?_) (fun hc=>by cases hc)
   refine gab ?_
   refine oP (xR (el':=iv (needE c x)) (cs:=[_]) rfl rfl zo rfl rfl rfl) rfl ?_
   refine gac ?_
   exact retRet hj (zra rfl) (by rw[←hR];exact int_eq (by simp[opN,nNum,nVar,nElem,nNeg,needEs]))
  refine oC rfl (fun hc=>absurd (zt hc) h3) (fun _=>?_)
  refine gaj ?_
  by_cases h4:op=[110,101,103]
  ·subst h4
   obtain ⟨x,rfl⟩:=List.length_eq_one_iff.1 (two rfl (by decide))
   have hx:=hnE x (List.mem_cons_self ..)
   refine oC rfl (fun _=>?_) (fun hc=>by cases hc)
   refine gab ?_
   refine oP (xR (el':=iv (needE c x)) (cs:=[_]) rfl rfl zo rfl rfl rfl) rfl ?_
   refine gac ?_
   exact retRet hj (zra rfl) (by rw[←hR];exact int_eq (by simp[opN,nNum,nVar,nElem,nNeg,needEs]))
  refine oC rfl (fun hc=>absurd (zt hc) h4) (fun _=>?_)
  refine gaj ?_
  by_cases h5:op=[110,111,116]
  ·subst h5
   obtain ⟨x,rfl⟩:=List.length_eq_one_iff.1 (two rfl (by decide))
   refine oC rfl (fun _=>?_) (fun hc=>by cases hc)
   refine gab ?_
   refine oP (xR (el':=iv (needE c x)) (cs:=[_]) rfl rfl zo rfl rfl rfl) rfl ?_
   refine gac ?_
   refine oS (S.lit (es:=[2,needE c x].map iv) [_,_] rfl (iv_els _) rfl rfl rfl ?_) rfl
   refine oS (S.fn [_] rfl (most_spec 2 [needE c x] (by simp)) ?_) rfl
   refine gae ?_
   exact retRet hj (zra rfl) (by rw[←hR];rfl)
  refine oC rfl (fun hc=>absurd (zt hc) h5) (fun _=>?_)
  refine gaj ?_
  have hbin:op≠[99,97,108,108]→args.length=2:=fun h6=>by
   unfold opnds at hop
   rw[if_neg (fun h=>h.elim h1 h2),if_neg (fun h=>h.elim h3 (fun h=>h.elim h4 h5)),if_neg (show ¬ op=nCall from h6)] at hop
   split at hop <;> rcases hop with h|h <;> omega
  have pair:op≠[99,97,108,108]→∃ x y,args=[x,y]:=fun h6=>by
   have:=hbin h6
   match args,this with
   |[x,y],_=>exact ⟨x,y,rfl⟩
  by_cases h6:op=[62]
  ·subst h6
   obtain ⟨x,y,rfl⟩:=pair (by decide)
   have hx:=hnE x (List.mem_cons_self ..)
   have hy:=hnE y (List.mem_cons_of_mem _ (List.mem_cons_self ..))
   refine oC rfl (fun _=>?_) (fun hc=>by cases hc)
   refine gau ?_
   refine oC rfl (fun _=>?_) (fun hc=>by cases hc)
   refine gad ?_
   refine LCode.tail 7 zk ?_
   refine gac ?_
   refine LS.pure (xR (el':=iv (needE c x)) (cs:=[_]) rfl rfl zo rfl rfl rfl) rfl ?_
   refine gac ?_
   refine LS.pure (xR (el':=iv (needE c y)) (cs:=[_]) rfl rfl zo rfl rfl rfl) rfl ?_
   refine gac ?_
   refine oS (S.lit (es:=[3,needE c x,1+needE c y].map iv) [_,_,_] rfl (iv_els _) rfl rfl rfl ?_) rfl
   refine oS (S.fn [_] rfl (most_spec 3 [needE c x,1+needE c y] (by simp)) ?_) rfl
   refine gae ?_
   exact retRet hj (zra rfl) (by rw[←hR];rfl)
  refine oC rfl (fun hc=>absurd (zt hc) h6) (fun _=>?_)
  refine gaj ?_
  by_cases h7:op=[60,61]
  ·subst h7
   obtain ⟨x,y,rfl⟩:=pair (by decide)
   have hx:=hnE x (List.mem_cons_self ..)
   have hy:=hnE y (List.mem_cons_of_mem _ (List.mem_cons_self ..))
   refine oC rfl (fun _=>?_) (fun hc=>by cases hc)
   refine gad ?_
   refine LCode.tail 7 zk ?_
   refine gac ?_
   refine LS.pure (xR (el':=iv (needE c x)) (cs:=[_]) rfl rfl zo rfl rfl rfl) rfl ?_
   refine gac ?_
   refine LS.pure (xR (el':=iv (needE c y)) (cs:=[_]) rfl rfl zo rfl rfl rfl) rfl ?_
   refine gac ?_
   refine oS (S.lit (es:=[3,needE c x,1+needE c y].map iv) [_,_,_] rfl (iv_els _) rfl rfl rfl ?_) rfl
   refine oS (S.fn [_] rfl (most_spec 3 [needE c x,1+needE c y] (by simp)) ?_) rfl
   refine gae ?_
   exact retRet hj (zra rfl) (by rw[←hR];rfl)
  refine oC rfl (fun hc=>absurd (zt hc) h7) (fun _=>?_)
  refine gaj ?_
  by_cases h8:op=[33,61]
  ·subst h8
   obtain ⟨x,y,rfl⟩:=pair (by decide)
   have hx:=hnE x (List.mem_cons_self ..)
   have hy:=hnE y (List.mem_cons_of_mem _ (List.mem_cons_self ..))
   refine oC rfl (fun _=>?_) (fun hc=>by cases hc)
   refine gad ?_
   refine LCode.tail 8 zk ?_
   refine gac ?_
   refine LS.pure (xR (el':=iv (needE c x)) (cs:=[_]) rfl rfl zo rfl rfl rfl) rfl ?_
   refine gac ?_
   refine LS.pure (xR (el':=iv (needE c y)) (cs:=[_]) rfl rfl zo rfl rfl rfl) rfl ?_
   refine gac ?_
   refine oS (S.lit (es:=[3,1+needE c x,2+needE c y].map iv) [_,_,_] rfl (iv_els _) rfl rfl rfl ?_) rfl
   refine oS (S.fn [_] rfl (most_spec 3 [1+needE c x,2+needE c y] (by simp)) ?_) rfl
   refine gae ?_
   exact retRet hj (zra rfl) (by rw[←hR];rfl)
  refine oC rfl (fun hc=>absurd (zt hc) h8) (fun _=>?_)
  refine gaj ?_
  by_cases h9:op=[38,38]
  ·subst h9
   obtain ⟨x,y,rfl⟩:=pair (by decide)
   have hx:=hnE x (List.mem_cons_self ..)
   have hy:=hnE y (List.mem_cons_of_mem _ (List.mem_cons_self ..))
   refine oC rfl (fun _=>?_) (fun hc=>by cases hc)
   refine gad ?_
   refine LCode.tail 8 zk ?_
   refine gac ?_
   refine LS.pure (xR (el':=iv (needE c x)) (cs:=[_]) rfl rfl zo rfl rfl rfl) rfl ?_
   refine gac ?_
   refine LS.pure (xR (el':=iv (needE c y)) (cs:=[_]) rfl rfl zo rfl rfl rfl) rfl ?_
   refine gac ?_
   refine oS (S.lit (es:=[1+needE c x,2+needE c y].map iv) [_,_] rfl (iv_els _) rfl rfl rfl ?_) rfl
   refine oS (S.fn [_] rfl (most_spec (1+needE c x) [2+needE c y] (by simp)) ?_) rfl
   refine gae ?_
   exact retRet hj (zra rfl) (by rw[←hR];rfl)
  refine oC rfl (fun hc=>absurd (zt hc) h9) (fun _=>?_)
  refine gaj ?_
  by_cases h10:op=[124,124]
  ·subst h10
   obtain ⟨x,y,rfl⟩:=pair (by decide)
   have hx:=hnE x (List.mem_cons_self ..)
   have hy:=hnE y (List.mem_cons_of_mem _ (List.mem_cons_self ..))
   refine oC rfl (fun _=>?_) (fun hc=>by cases hc)
   refine gad ?_
   refine LCode.tail 8 zk ?_
   refine gac ?_
   refine LS.pure (xR (el':=iv (needE c x)) (cs:=[_]) rfl rfl zo rfl rfl rfl) rfl ?_
   refine gac ?_
   refine LS.pure (xR (el':=iv (needE c y)) (cs:=[_]) rfl rfl zo rfl rfl rfl) rfl ?_
   refine gac ?_
   refine oS (S.lit (es:=[2+needE c x,3+needE c y].map iv) [_,_] rfl (iv_els _) rfl rfl rfl ?_) rfl
   refine oS (S.fn [_] rfl (most_spec (2+needE c x) [3+needE c y] (by simp)) ?_) rfl
   refine gae ?_
   exact retRet hj (zra rfl) (by rw[←hR];rfl)
  refine oC rfl (fun hc=>absurd (zt hc) h10) (fun _=>?_)
  refine gaj ?_
  by_cases h11:op=[99,97,108,108]
  rotate_left
  ·obtain ⟨x,y,rfl⟩:=pair h11
   have hx:=hnE x (List.mem_cons_self ..)
   have hy:=hnE y (List.mem_cons_of_mem _ (List.mem_cons_self ..))
   have hR2:iv (mostN [2,needE c x,1+needE c y])=R:=by
    rw[←hR]
    unfold opN
    rw[if_neg (fun h=>h.elim h1 h2),if_neg (fun h=>h.elim h3 h4),if_neg (show ¬ op=nCall from h11),if_neg (show ¬ op=nNot from h5),if_neg (fun h=>h.elim h6 h7),if_neg h8,if_neg h9,if_neg h10]
    rfl
   refine oC rfl (fun hc=>absurd (zt hc) h11) (fun _=>?_)
   refine gad ?_
   refine LCode.tail 7 zk ?_
   refine gac ?_
   refine LS.pure (xR (el':=iv (needE c x)) (cs:=[_]) rfl rfl zo rfl rfl rfl) rfl ?_
   refine gac ?_
   refine LS.pure (xR (el':=iv (needE c y)) (cs:=[_]) rfl rfl zo rfl rfl rfl) rfl ?_
   refine gac ?_
   refine oS (S.lit (es:=[2,needE c x,1+needE c y].map iv) [_,_,_] rfl (iv_els _) rfl rfl rfl ?_) rfl
   refine oS (S.fn [_] rfl (most_spec 2 [needE c x,1+needE c y] (by simp)) ?_) rfl
   refine gae ?_
   exact retRet hj (zra rfl) hR2
  subst h11
  have hcl:callE c name args.length=0:=hue
  have hcall:iv (refCall c name (needEs c args))=R:=by
   rw[←hR,refCall_eq hd (by rw[needEs_len];exact hcl)]
   rfl
  unfold refCall at hcall
  refine oC rfl (fun _=>?_) (fun hc=>by cases hc)
  refine gab ?_
  by_cases h12:name=[105,110]
  ·subst h12
   refine oC rfl (fun _=>?_) (fun hc=>by cases hc)
   refine gab ?_
   exact retRet hj (zra rfl) hcall
  rw[if_neg h12] at hcall
  refine oC rfl (fun hc=>absurd (zt hc) h12) (fun _=>?_)
  refine gab ?_
  by_cases h13:name=[111,117,116]
  ·subst h13
   obtain ⟨x,rfl⟩:=List.length_eq_one_iff.1 (show args.length=1 by
    unfold callE at hcl
    rw[if_neg (by decide),if_pos rfl] at hcl
    exact Decidable.byContradiction fun h=>by rw[if_neg h] at hcl;cases hcl)
   refine oC rfl (fun _=>?_) (fun hc=>by cases hc)
   refine gab ?_
   refine oP (xR (el':=iv (needE c x)) (cs:=[_]) rfl rfl zo rfl rfl rfl) rfl ?_
   refine gac ?_
   exact retRet hj (zra rfl) hcall
  rw[if_neg h13] at hcall
  refine oC rfl (fun hc=>absurd (zt hc) h13) (fun _=>?_)
  have hns:∀ q∈needEs c args,q≤500000000:=fun q hq=>by
   have:∀ l:List Ex,(∀ x∈l,needE c x≤500000000)→∀ q∈needEs c l,q≤500000000:=fun l=>by
    induction l with
    |nil=>intro _ q hq;rw[needEs] at hq;cases hq
    |cons y l ih=>
     intro h q hq
     rw[needEs] at hq
     rcases List.mem_cons.1 hq with rfl|hq
     ·exact h y (List.mem_cons_self ..)
     ·exact ih (fun x hx=>h x (List.mem_cons_of_mem _ hx)) q hq
   exact this args hnE q hq
  have hnl:(needEs c args).length=args.length:=needEs_len c args
  have hnsl:(needEs c args).length≤100000000:=by omega
  generalize needEs c args=ns at hcall hns hnl hnsl ⊢
  have hmn:((ns.map iv).length:Int)≤100000000:=by rw[List.length_map];omega
  refine gab ?_
  refine oL (fun kk ls H'=>∃ (pre l1:List Nat) (m:Nat),ns=pre++l1∧kk=l1.length∧ls=[(1,.list (fs.map encFn)),(2,.list ((c.funcs.map (·.need)).map iv)),(3,ptr b3 0),(7,.list (ns.map iv)),(10,iv m),(112,int .i64 ((ns.map iv).length:Int)),(113,int .i64 (pre.length:Int))] ∧
    H'=[exH b3 [99,97,108,108] num name args]∧stair 0 ns (ns.length+1)=stair pre.length l1 m)
   ⟨_,_,_,⟨[],ns,ns.length+1,rfl,rfl,rfl,rfl,rfl⟩,⟨rfl,rfl,rfl,rfl,int_eq (by simp),rfl,rfl,trivial⟩,HSub.refl _⟩ ?_
  rintro kk ls H' ⟨pre,l1,m,hL,rfl,rfl,rfl,hI2⟩ j2 hj2
  have hb:=pre_le hL hnsl
  refine gag ?_
  refine oC rfl (fun hc=>?_) (fun hc=>?_)
  ·obtain ⟨a,l2,rfl⟩:=more hL hc
   have ha:=hns a (by rw[hL];exact List.mem_append_right _ (List.mem_cons_self ..))
   rw[stair] at hI2
   refine gab ?_
   refine oP (xR (el':=iv a) (cs:=[_]) rfl rfl zo (by rw[hL];exact get_mid iv pre a l2) rfl rfl) rfl ?_
   refine gac ?_
   refine oS (S.lit (es:=[m,pre.length+a].map iv) [_,_] rfl (iv_els _) rfl rfl rfl ?_) rfl
   refine oS (S.fn [_] rfl (most_spec m [pre.length+a] (by simp)) ?_) rfl
   refine gab ?_
   exact ⟨l2.length,_,_,Nat.lt_succ_self _,⟨pre++[a],l2,max m (pre.length+a),snoc hL,rfl,rfl,rfl,by rw[hI2,List.length_append];rfl⟩,⟨rfl,rfl,rfl,rfl,rfl,rfl,int_eq (by simp),trivial⟩,HSub.refl _,hj2⟩
  obtain rfl:=none_left hL hc
  have hI3:stair 0 ns (ns.length+1)=m:=hI2
  rw[hI3] at hcall
  refine gab ?_
  refine oL (fun kk ls H'=>∃ (pre l1:List FnD) (cp cl:List FSum) (m:Nat),fs=pre++l1∧c.funcs=cp++cl∧cp.length=pre.length∧kk=l1.length∧ls=[(1,.list (fs.map encFn)),(2,.list ((c.funcs.map (·.need)).map iv)),(3,ptr b3 0),(10,iv m),(126,.list (fs.map encFn)),(127,int .i64 ((fs.map encFn).length:Int)),(128,int .i64 (pre.length:Int))] ∧
    H'=[exH b3 [99,97,108,108] num name args]∧cl.map (·.name)=l1.map (·.name)∧R=iv (overF (·.need) name cl m))
   ⟨_,_,_,⟨[],fs,[],c.funcs,m,rfl,rfl,rfl,rfl,rfl,rfl,hfn,hcall.symm⟩,⟨rfl,rfl,rfl,rfl,rfl,rfl,rfl,trivial⟩,HSub.refl _⟩ ?_
  rintro kk ls H' ⟨pre,l1,cp,cl,m,hL,hC,hcp,rfl,rfl,rfl,hcl,hI4⟩ j3 hj3
  have hb:=pre_le hL hfl
  refine gag ?_
  refine oC rfl (fun hc=>?_) (fun hc=>?_)
  ·obtain ⟨a,l2,rfl⟩:=more hL hc
   obtain ⟨s,cl,rfl⟩:∃ s l,cl=s::l:=by
    cases cl with
    |nil=>simp at hcl
    |cons s l=>exact ⟨s,l,rfl⟩
   rw[List.map_cons,List.map_cons] at hcl
   injection hcl with hs hcl
   have hget:((c.funcs.map (·.need)).map iv)[((pre.length:Nat):Int).toNat]? = some (iv s.need):=by
    rw[hC,List.map_map,←hcp]
    exact get_mid _ cp s cl
   refine gab ?_
   refine oP (xR (el':=encFn a) (cs:=[_,_,_,_]) rfl rfl zo (by rw[hL];exact get_mid encFn pre a l2) rfl rfl) rfl ?_
   refine gao ?_
   refine oS (S.alloc fun b13=>?_) rfl
   refine gaa ?_
   by_cases h14:a.name=name
   ·refine oC rfl (fun _=>?_) (fun hd=>absurd h14 (zf hd))
    refine gab ?_
    refine oP (xR (el':=iv s.need) (cs:=[_]) rfl rfl zo hget rfl rfl) rfl ?_
    refine gac ?_
    refine oS (S.lit (es:=[m,s.need].map iv) [_,_] rfl (iv_els _) rfl rfl rfl ?_) rfl
    refine oS (S.fn [_] rfl (most_spec m [s.need] (by simp)) ?_) rfl
    refine gab ?_
    exact ⟨l2.length,_,_,Nat.lt_succ_self _,⟨pre++[a],l2,cp++[s],cl,max m s.need,snoc hL,snoc hC,by simp[hcp],rfl,rfl,rfl,hcl,by rw[hI4];unfold overF;rw[List.foldl_cons,if_pos (hs.trans h14)]⟩,⟨rfl,rfl,rfl,rfl,rfl,rfl,int_eq (by simp),trivial⟩,zhD zhr,hj3⟩
   ·refine oC rfl (fun hd=>absurd (zt hd) h14) (fun _=>?_)
    refine gav ?_
    exact ⟨l2.length,_,_,Nat.lt_succ_self _,⟨pre++[a],l2,cp++[s],cl,m,snoc hL,snoc hC,by simp[hcp],rfl,rfl,rfl,hcl,by rw[hI4];unfold overF;rw[List.foldl_cons,if_neg (fun h=>h14 (hs.symm.trans h))]⟩,⟨rfl,rfl,rfl,rfl,rfl,rfl,int_eq (by simp),trivial⟩,zhD zhr,hj3⟩
  obtain rfl:=none_left hL hc
  have hcl0:cl=[]:=by
   cases cl with
   |nil=>rfl
   |cons s l=>simp at hcl
  subst hcl0
  refine gab ?_
  exact retRet ((hj3.trans hj2).trans hj) (zra rfl) hI4.symm
end
end Go.Proofs.YtpbbgkoalnonoaaGreatDoor.RC
namespace Go.Proofs.YtpbbgkoalnonoaaGreatDoor.RC
open Go.GL Go.RowKit Go.Stele
set_option maxRecDepth 100000
set_option maxHeartbeats 4000000
theorem lastN_snoc (c:CEnv) (pre:List Ex) (a:Ex):lastN (needEs c (pre++[a]))=needE c a:=by
 rw[needEs_snoc]
 unfold lastN
 rw[List.getLast?_append]
 rfl
theorem lastN_le {c:CEnv} {M:Nat} {l:List Ex} (h:∀ x∈l,needE c x≤M):lastN (needEs c l)≤M:=by
 rcases List.eq_nil_or_concat l with rfl|⟨pre,a,rfl⟩
 ·rw[needEs];exact Nat.zero_le _
 ·rw[List.concat_eq_append,lastN_snoc]
  exact h a (by simp)
theorem needS_by {c:CEnv} (hd:Dist c.funcs) {kind:Int} {name:Nm} {index value:List Ex} {thn els:List Sm} (h:errS c (.mk kind name index value thn els)=0) :
  needS c (.mk kind name index value thn els)=if kind=1∨kind=6 then max 2 (lastN (needEs c value)) else if kind=2 then max (lastN (needEs c value)) (2+lastN (needEs c index))
   else if kind=3∨kind=4 then max (max (max 2 (lastN (needEs c value))) (needSs c thn)) (needSs c els) else if kind=5 then lastN (needEs c value) else 0:=by
 rw[←refS_eq hd _ h]
 rw[errS] at h
 split at h
 ·cases h
 obtain ⟨h1,h⟩:=orE_zero.1 h
 obtain ⟨h2,h⟩:=orE_zero.1 h
 obtain ⟨_,h⟩:=orE_zero.1 h
 obtain ⟨h3,h4⟩:=orE_zero.1 h
 rw[refS,refEs_eq hd value h1,refEs_eq hd index h2,refSs_eq hd thn h3,refSs_eq hd els h4]
attribute [local irreducible] LOps LCode LStep LCalls Go.GL.Pure QThen QBlock RetPost LQ LAny LLate LLateOp LS
section
variable {B0:Nat} {w0:World}
def NeedsH (B0:Nat) (w0:World) (c:CEnv) (fs:List FnD) (n:Nat):Prop:=∀ l:List Sm,errSs c l=0→ndSs l<n→LCalls (KC B0 w0) 88 [.list (l.map encS),.list (fs.map encFn),.list ((c.funcs.map (·.need)).map iv)] [] (Ret (iv (needSs c l)))
theorem needs_spec {c:CEnv} {fs:List FnD} (hfl:fs.length≤100000000) (hfn:c.funcs.map (·.name)=fs.map (·.name)) (hd:Dist c.funcs) {B D:Nat} (hB:KnB B D c.funcs) (hB8:B≤100000000):∀ n:Nat,n≤100000000→NeedsH B0 w0 c fs n
 |0,_=>fun x _ h=>by omega
 |n+1,hn6=>by
  have ih:=needs_spec hfl hfn hd hB hB8 n zo
  have hN:NeedH B0 w0 c fs n:=Need_spec hfl hfn hd hB hB8 n zo
  intro l herr hnd
  have hal:=ndSs_len l
  generalize hR:needSs c l=R
  refine cI Tryz.func88 rfl (n:=88) rfl rfl rfl ?_
  refine gab ?_
  refine oL (fun kk ls H'=>∃ (pre l1:List Sm) (m:Nat),l=pre++l1∧kk=l1.length∧ls=[(1,.list (fs.map encFn)),(2,.list ((c.funcs.map (·.need)).map iv)),(7,iv m),(16,.list (l.map encS)),(17,int .i64 ((l.map encS).length:Int)),(18,int .i64 (pre.length:Int))] ∧
    H'=[]∧errSs c l1=0∧R=max m (needSs c l1))
   ⟨_,_,_,⟨[],l,0,rfl,rfl,rfl,rfl,herr,by rw[hR,Nat.zero_max]⟩,⟨rfl,rfl,rfl,rfl,rfl,rfl,trivial⟩,HSub.refl _⟩ ?_
  rintro kk ls H' ⟨pre,l1,m,hL,rfl,rfl,rfl,hI2,hI3⟩ j hj
  have hb:=pre_le hL (show l.length≤100000000 by omega)
  refine gag ?_
  refine oC rfl (fun hc=>?_) (fun hc=>?_)
  rotate_left
  ·obtain rfl:=none_left hL hc
   refine gab ?_
   exact retRet hj (zra rfl) (iv_eq (by rw[hI3,needSs,Nat.max_zero]))
  obtain ⟨a,l2,rfl⟩:=more hL hc
  have ham:ndS a≤ndSs l:=ndSs_mem (by rw[hL];exact List.mem_append_right _ (List.mem_cons_self ..))
  obtain ⟨kind,name,index,value,thn,els⟩:=a
  rw[errSs] at hI2
  obtain ⟨he1,he2⟩:=orE_zero.1 hI2
  have hby:=needS_by hd he1
  rw[errS] at he1
  rw[ndS] at ham
  have hform:formS (.mk kind name index value thn els)=true:=by
   cases hf:formS (.mk kind name index value thn els) with
   |true=>rfl
   |false=>rw[if_pos hf] at he1;cases he1
  rw[if_neg (by rw[hform];decide)] at he1
  obtain ⟨hev,he1⟩:=orE_zero.1 he1
  obtain ⟨hei,he1⟩:=orE_zero.1 he1
  obtain ⟨_,he1⟩:=orE_zero.1 he1
  obtain ⟨het,hee⟩:=orE_zero.1 he1
  rw[needSs] at hI3
  have hle:∀ l:List Ex,ndEs l≤ndSs (pre++Sm.mk kind name index value thn els::l2)→lastN (needEs c l)≤500000000:=fun l4 h4=>lastN_le fun x hx=>by
   have h1:=needE_le B D c hB x
   have h2:=ndEs_mem hx
   rw[←hL] at h4
   omega
  have hV:=hle value (by rw[←hL];omega)
  have hX:=hle index (by rw[←hL];omega)
  refine gai ?_
  refine oP (xR (el':=.agg [int .i64 kind,str name,.list (index.map encE),.list (value.map encE),.list (thn.map encS),.list (els.map encS)]) (cs:=[_,_,_,_,_,_]) rfl rfl zo (by rw[hL,←encS_mk];exact get_mid encS pre _ l2) rfl rfl) rfl ?_
  refine gac ?_
  refine oS (S.alloc fun b9=>?_) rfl
  refine gaa ?_
  refine oL (fun kk ls H'=>∃ (p2 l3:List Ex),value=p2++l3∧kk=l3.length∧ls=[(1,.list (fs.map encFn)),(2,.list ((c.funcs.map (·.need)).map iv)),(7,iv m),(9,ptr b9 0),(10,iv (lastN (needEs c p2))),(11,iv 0),(16,.list (l.map encS)),(17,int .i64 ((l.map encS).length:Int)),(18,int .i64 (pre.length:Int)),(23,.list (value.map encE)),(24,int .i64 ((value.map encE).length:Int)),(25,int .i64 (p2.length:Int))] ∧
    H'=[smH b9 kind name index value thn els]∧errEs c l3=0)
   ⟨_,_,_,⟨[],value,rfl,rfl,rfl,rfl,hev⟩,⟨rfl,rfl,rfl,rfl,rfl,rfl,rfl,rfl,rfl,rfl,rfl,rfl,trivial⟩,HSub.refl _⟩ ?_
  rintro kk ls H' ⟨p2,l3,hL2,rfl,rfl,rfl,hI4⟩ j2 hj2
  have hval:=ndEs_len value
  have hb2:=pre_le hL2 (show value.length≤100000000 by omega)
  refine gag ?_
  refine oC rfl (fun hc2=>?_) (fun hc2=>?_)
  ·obtain ⟨a,l4,rfl⟩:=more hL2 hc2
   have ham2:ndE a≤ndEs value:=ndEs_mem (by rw[hL2];exact List.mem_append_right _ (List.mem_cons_self ..))
   rw[errEs] at hI4
   obtain ⟨h1,h2⟩:=orE_zero.1 hI4
   refine gai ?_
   refine oP (xR (el':=encE a) (cs:=[_,_,_,_]) rfl rfl zo (by rw[hL2];exact get_mid encE p2 a l4) rfl rfl) rfl ?_
   refine gao ?_
   refine oS (S.alloc fun b13=>?_) rfl
   refine gaa ?_
   refine oS (S.fn [_,_,_] rfl (hN a h1 zo) ?_) rfl
   refine gab ?_
   exact ⟨l4.length,_,_,Nat.lt_succ_self _,⟨p2++[a],l4,snoc hL2,rfl,rfl,rfl,h2⟩,⟨rfl,rfl,rfl,rfl,iv_eq (lastN_snoc c p2 a).symm,rfl,rfl,rfl,rfl,rfl,rfl,int_eq (by simp),trivial⟩,zhD zhr,hj2⟩
  obtain rfl:=none_left hL2 hc2
  rw[List.append_nil] at hL2
  subst hL2
  refine gab ?_
  refine oL (fun kk ls H'=>∃ (p3 l3:List Ex),index=p3++l3∧kk=l3.length∧ls=[(1,.list (fs.map encFn)),(2,.list ((c.funcs.map (·.need)).map iv)),(7,iv m),(9,ptr b9 0),(10,iv (lastN (needEs c value))),(11,iv (lastN (needEs c p3))),(16,.list (l.map encS)),(17,int .i64 ((l.map encS).length:Int)),(18,int .i64 (pre.length:Int)),(35,.list (index.map encE)),(36,int .i64 ((index.map encE).length:Int)),(37,int .i64 (p3.length:Int))] ∧
    H'=[smH b9 kind name index value thn els]∧errEs c l3=0)
   ⟨_,_,_,⟨[],index,rfl,rfl,rfl,rfl,hei⟩,⟨rfl,rfl,rfl,rfl,rfl,rfl,rfl,rfl,rfl,rfl,rfl,rfl,trivial⟩,HSub.refl _⟩ ?_
  rintro kk ls H' ⟨p3,l3,hL3,rfl,rfl,rfl,hI5⟩ j3 hj3
  have hixl:=ndEs_len index
  have hb3:=pre_le hL3 (show index.length≤100000000 by omega)
  refine gag ?_
  refine oC rfl (fun hc2=>?_) (fun hc2=>?_)
  ·obtain ⟨a,l4,rfl⟩:=more hL3 hc2
   have ham2:ndE a≤ndEs index:=ndEs_mem (by rw[hL3];exact List.mem_append_right _ (List.mem_cons_self ..))
   rw[errEs] at hI5
   obtain ⟨h1,h2⟩:=orE_zero.1 hI5
   refine gai ?_
   refine oP (xR (el':=encE a) (cs:=[_,_,_,_]) rfl rfl zo (by rw[hL3];exact get_mid encE p3 a l4) rfl rfl) rfl ?_
   refine gao ?_
   refine oS (S.alloc fun b13=>?_) rfl
   refine gaa ?_
   refine oS (S.fn [_,_,_] rfl (hN a h1 zo) ?_) rfl
   refine gab ?_
   exact ⟨l4.length,_,_,Nat.lt_succ_self _,⟨p3++[a],l4,snoc hL3,rfl,rfl,rfl,h2⟩,⟨rfl,rfl,rfl,rfl,rfl,iv_eq (lastN_snoc c p3 a).symm,rfl,rfl,rfl,rfl,rfl,int_eq (by simp),trivial⟩,zhD zhr,hj3⟩
  obtain rfl:=none_left hL3 hc2
  rw[List.append_nil] at hL3
  subst hL3
  rw[hby] at hI3
  generalize lastN (needEs c value)=nv at hI3 hV ⊢
  generalize lastN (needEs c index)=ni at hI3 hX ⊢
  have hjj:=hj3.trans (hj2.trans hj)
  have fin:∀ {m2:Nat},R=max m2 (needSs c l2)→∀ {e:Env} {H:Heap},e.s 1=.list (fs.map encFn)→e.s 2=.list ((c.funcs.map (·.need)).map iv)→e.s 7=iv m2→e.s 16=.list (l.map encS)→e.s 17=int .i64 ((l.map encS).length:Int)→e.s 18=int .i64 ((pre.length:Int)+1)→e.ds=(argsEnv [.list (l.map encS),.list (fs.map encFn),.list ((c.funcs.map (·.need)).map iv)]).ds →
    Again (fun kk ls H'=>∃ (pre l1:List Sm) (m:Nat),l=pre++l1∧kk=l1.length∧ls=[(1,.list (fs.map encFn)),(2,.list ((c.funcs.map (·.need)).map iv)),(7,iv m),(16,.list (l.map encS)),(17,int .i64 ((l.map encS).length:Int)),(18,int .i64 (pre.length:Int))]∧H'=[]∧errSs c l1=0∧R=max m (needSs c l1)) (Sm.mk kind name index value thn els::l2).length [] e H:=
   fun {m2} hm {e H} e1 e2 e7 e16 e17 e18 hd2=>⟨l2.length,_,_,Nat.lt_succ_self _,⟨pre++[Sm.mk kind name index value thn els],l2,m2,snoc hL,rfl,rfl,rfl,he2,hm⟩,⟨e1,e2,e7,e16,e17,e18.trans (int_eq (by simp)),trivial⟩,HSub.nil _,hd2⟩
  refine gab ?_
  by_cases k1:kind=1
  ·subst k1
   rw[if_pos (.inl rfl)] at hI3
   refine oC rfl (fun _=>?_) (fun hd=>by cases hd)
   refine gau ?_
   refine oC rfl (fun _=>?_) (fun hd=>by cases hd)
   refine gax ?_
   refine oS (S.lit (es:=[m,2,nv].map iv) [_,_,_] rfl (iv_els _) rfl rfl rfl ?_) rfl
   refine oS (S.fn [_] rfl (most_spec m [2,nv] (by simp)) ?_) rfl
   refine gab ?_
   exact fin (m2:=mostN [m,2,nv]) (by rw[hI3];show _=max (max (max m 2) nv) _;omega) rfl rfl rfl rfl rfl rfl hjj
  refine oC rfl (fun hd=>absurd (zt hd) k1) (fun _=>?_)
  refine gat ?_
  by_cases k6:kind=6
  ·subst k6
   rw[if_pos (.inr rfl)] at hI3
   refine oC rfl (fun _=>?_) (fun hd=>by cases hd)
   refine gax ?_
   refine oS (S.lit (es:=[m,2,nv].map iv) [_,_,_] rfl (iv_els _) rfl rfl rfl ?_) rfl
   refine oS (S.fn [_] rfl (most_spec m [2,nv] (by simp)) ?_) rfl
   refine gab ?_
   exact fin (m2:=mostN [m,2,nv]) (by rw[hI3];show _=max (max (max m 2) nv) _;omega) rfl rfl rfl rfl rfl rfl hjj
  rw[if_neg (fun h=>h.elim k1 k6)] at hI3
  refine oC rfl (fun hd=>absurd (zt hd) k6) (fun _=>?_)
  refine gat ?_
  by_cases k2:kind=2
  ·subst k2
   rw[if_pos rfl] at hI3
   refine oC rfl (fun _=>?_) (fun hd=>by cases hd)
   refine gan ?_
   refine oS (S.lit (es:=[m,nv,2+ni].map iv) [_,_,_] rfl (iv_els _) rfl rfl rfl ?_) rfl
   refine oS (S.fn [_] rfl (most_spec m [nv,2+ni] (by simp)) ?_) rfl
   refine gab ?_
   exact fin (m2:=mostN [m,nv,2+ni]) (by rw[hI3];show _=max (max (max m nv) (2+ni)) _;omega) rfl rfl rfl rfl rfl rfl hjj
  rw[if_neg k2] at hI3
  refine oC rfl (fun hd=>absurd (zt hd) k2) (fun _=>?_)
  refine gat ?_
  by_cases k3:kind=3
  ·rw[if_pos (.inl k3)] at hI3
   refine oC rfl (fun _=>?_) (fun hd=>absurd k3 (zf hd))
   refine gau ?_
   refine oC rfl (fun _=>?_) (fun hd=>absurd k3 (zf hd))
   refine LCode.draw (m:=15) rfl [smH b9 kind name index value thn els] ?_
   refine aT 0 rfl rfl (Pure.mv (lv:=.atom _) rfl) ?_
   refine aT 1 rfl rfl (Pure.mv (lv:=.atom _) rfl) ?_
   refine aT 2 rfl rfl (Pure.fieldH rfl) ?_
   refine aT 3 rfl rfl (Pure.loadH (c:=.list _) rfl zm0 rfl) ?_
   refine aT 4 rfl rfl (Pure.mv (lv:=.list _) rfl) ?_
   refine aT 5 rfl rfl (Pure.mv (lv:=.list _) rfl) ?_
   refine aT 7 rfl rfl (Pure.fieldH rfl) ?_
   refine aT 8 rfl rfl (Pure.loadH (c:=.list _) rfl zm0 rfl) ?_
   refine aT 9 rfl rfl (Pure.mv (lv:=.list _) rfl) ?_
   refine aT 10 rfl rfl (Pure.mv (lv:=.list _) rfl) ?_
   refine LAny.late ?_ zhr
   refine lO 6 (lS (H1:=[]) rfl (.inl rfl) rfl zpr zhr (S.fn [_,_,_] rfl (ih thn het zo) ?_))
   refine lO 11 (lS (H1:=[]) rfl (.inl rfl) rfl zpr zhr (S.fn [_,_,_] rfl (ih els hee zo) ?_))
   refine lO 12 (lS (H1:=[]) rfl (.inl rfl) rfl zpr zhr (S.lit (es:=[m,2,nv,needSs c thn,needSs c els].map iv) [_,_,_,_,_] rfl (iv_els _) rfl rfl rfl ?_))
   refine lO 13 (lS (H1:=[]) rfl (.inl rfl) rfl zpr zhr (S.fn [_] rfl (most_spec m [2,nv,needSs c thn,needSs c els] (by simp)) ?_))
   refine lO 14 (lH rfl rfl (Pure.as (lv:=.atom _) rfl) ?_)
   refine lD zk ?_
   refine gan ?_
   exact fin (m2:=mostN [m,2,nv,needSs c thn,needSs c els]) (by rw[hI3];show _=max (max (max (max (max m 2) nv) (needSs c thn)) (needSs c els)) _;omega) rfl rfl rfl rfl rfl rfl hjj
  refine oC rfl (fun hd=>absurd (zt hd) k3) (fun _=>?_)
  refine gat ?_
  by_cases k4:kind=4
  ·rw[if_pos (.inr k4)] at hI3
   refine oC rfl (fun _=>?_) (fun hd=>absurd k4 (zf hd))
   refine LCode.draw (m:=15) rfl [smH b9 kind name index value thn els] ?_
   refine aT 0 rfl rfl (Pure.mv (lv:=.atom _) rfl) ?_
   refine aT 1 rfl rfl (Pure.mv (lv:=.atom _) rfl) ?_
   refine aT 2 rfl rfl (Pure.fieldH rfl) ?_
   refine aT 3 rfl rfl (Pure.loadH (c:=.list _) rfl zm0 rfl) ?_
   refine aT 4 rfl rfl (Pure.mv (lv:=.list _) rfl) ?_
   refine aT 5 rfl rfl (Pure.mv (lv:=.list _) rfl) ?_
   refine aT 7 rfl rfl (Pure.fieldH rfl) ?_
   refine aT 8 rfl rfl (Pure.loadH (c:=.list _) rfl zm0 rfl) ?_
   refine aT 9 rfl rfl (Pure.mv (lv:=.list _) rfl) ?_
   refine aT 10 rfl rfl (Pure.mv (lv:=.list _) rfl) ?_
   refine LAny.late ?_ zhr
   refine lO 6 (lS (H1:=[]) rfl (.inl rfl) rfl zpr zhr (S.fn [_,_,_] rfl (ih thn het zo) ?_))
   refine lO 11 (lS (H1:=[]) rfl (.inl rfl) rfl zpr zhr (S.fn [_,_,_] rfl (ih els hee zo) ?_))
   refine lO 12 (lS (H1:=[]) rfl (.inl rfl) rfl zpr zhr (S.lit (es:=[m,2,nv,needSs c thn,needSs c els].map iv) [_,_,_,_,_] rfl (iv_els _) rfl rfl rfl ?_))
   refine lO 13 (lS (H1:=[]) rfl (.inl rfl) rfl zpr zhr (S.fn [_] rfl (most_spec m [2,nv,needSs c thn,needSs c els] (by simp)) ?_))
   refine lO 14 (lH rfl rfl (Pure.as (lv:=.atom _) rfl) ?_)
   refine lD zk ?_
   refine gan ?_
   exact fin (m2:=mostN [m,2,nv,needSs c thn,needSs c els]) (by rw[hI3];show _=max (max (max (max (max m 2) nv) (needSs c thn)) (needSs c els)) _;omega) rfl rfl rfl rfl rfl rfl hjj
  rw[if_neg (fun h=>h.elim k3 k4)] at hI3
  refine oC rfl (fun hd=>absurd (zt hd) k4) (fun _=>?_)
  refine gat ?_
  by_cases k5:kind=5
  ·rw[if_pos k5] at hI3
   refine oC rfl (fun _=>?_) (fun hd=>absurd k5 (zf hd))
   refine gax ?_
   refine oS (S.lit (es:=[m,nv].map iv) [_,_] rfl (iv_els _) rfl rfl rfl ?_) rfl
   refine oS (S.fn [_] rfl (most_spec m [nv] (by simp)) ?_) rfl
   refine gab ?_
   exact fin (m2:=mostN [m,nv]) (by rw[hI3];show _=max (max m nv) _;omega) rfl rfl rfl rfl rfl rfl hjj
  rw[if_neg k5] at hI3
  refine oC rfl (fun hd=>absurd (zt hd) k5) (fun _=>?_)
  refine gav ?_
  exact fin (m2:=m) (by rw[hI3];omega) rfl rfl rfl rfl rfl rfl hjj
end
end Go.Proofs.YtpbbgkoalnonoaaGreatDoor.RC
namespace Go.Proofs.YtpbbgkoalnonoaaGreatDoor.RC
open Go.GL Go.RowKit Go.Stele
set_option maxRecDepth 100000
set_option maxHeartbeats 4000000
mutual
theorem callsE_len:∀ x:Ex,(callsE x).length≤ndE x
 |.mk op num name args=>by
  rw[callsE,ndE,List.length_append]
  have:=callsEs_len args
  split <;> simp <;> omega
theorem callsEs_len:∀ l:List Ex,(callsEs l).length≤ndEs l
 |[]=>by rw[callsEs,ndEs];exact Nat.le_refl _
 |x::l=>by
  rw[callsEs,ndEs,List.length_append]
  have h1:=callsE_len x
  have h2:=callsEs_len l
  omega
end
mutual
theorem callsS_len:∀ x:Sm,(callsS x).length≤ndS x
 |.mk kind name index value thn els=>by
  rw[callsS,ndS,List.length_append,List.length_append]
  have h1:=callsEs_len (value++index)
  rw[ndEs_app] at h1
  have h2:=callsSs_len thn
  have h3:=callsSs_len els
  omega
theorem callsSs_len:∀ l:List Sm,(callsSs l).length≤ndSs l
 |[]=>by rw[callsSs,ndSs];exact Nat.le_refl _
 |x::l=>by
  rw[callsSs,ndSs,List.length_append]
  have h1:=callsS_len x
  have h2:=callsSs_len l
  omega
end
theorem callsEs_snoc (a:Ex):∀ l:List Ex,callsEs (l++[a])=callsEs l++callsE a
 |[]=>by
  show callsEs [a]=callsEs []++callsE a
  simp[callsEs]
 |x::l=>by
  show callsEs (x::(l++[a]))=_
  rw[callsEs,callsEs_snoc a l,callsEs,List.append_assoc]
theorem callsSs_snoc (a:Sm):∀ l:List Sm,callsSs (l++[a])=callsSs l++callsS a
 |[]=>by
  show callsSs [a]=callsSs []++callsS a
  simp[callsSs]
 |x::l=>by
  show callsSs (x::(l++[a]))=_
  rw[callsSs,callsSs_snoc a l,callsSs,List.append_assoc]
theorem ndSs_part {l pre:List Sm} {a:Sm} {l2:List Sm} (h:l=pre++a::l2):ndSs pre+ndS a≤ndSs l:=by
 have key:∀ p q:List Sm,ndSs (p++q)=ndSs p+ndSs q:=fun p q=>by
  induction p with
  |nil=>rw[List.nil_append,ndSs];omega
  |cons x p ih=>rw[List.cons_append,ndSs,ndSs,ih];omega
 rw[h,key,ndSs]
 omega
theorem ndEs_part {l pre:List Ex} {a:Ex} {l2:List Ex} (h:l=pre++a::l2):ndEs pre+ndE a≤ndEs l:=by
 rw[h,ndEs_app,ndEs]
 omega
attribute [local irreducible] LOps LCode LStep LCalls Go.GL.Pure QThen QBlock RetPost LQ LAny LLate LLateOp LS
section
variable {B0:Nat} {w0:World}
def CallsH (B0:Nat) (w0:World) (n:Nat):Prop:=∀ x:Ex,ndE x<n→LCalls (KC B0 w0) 144 [encE x] [] (Ret (.list ((callsE x).map str)))
theorem calls_spec:∀ n:Nat,n≤100000000→CallsH B0 w0 n
 |0,_=>fun x h=>by omega
 |n+1,hn6=>by
  have ih:=calls_spec n zo
  intro x hnd
  obtain ⟨op,num,name,args⟩:=x
  rw[ndE] at hnd
  have hal:=ndEs_len args
  generalize hR:callsE (.mk op num name args)=R
  rw[callsE] at hR
  rw[encE_mk]
  refine cI Tryz.func144 rfl (n:=28) rfl rfl rfl ?_
  refine gah ?_
  refine oS (S.box rfl fun b1=>?_) rfl
  refine gaj ?_
  refine oS (S.litA (es:=[]) [] rfl eN rfl rfl rfl fun b3=>?_) rfl
  refine gaa ?_
  refine LCode.midC (A:=LV×Heap) (fun a=>[(1,ptr b1 0),(3,a.1)]) (fun a=>exH b1 op num name args::a.2) (fun a=>GL.Acc 1 a.1 ((if op=nCall then [name] else []).map str) a.2 []) ?_ ?_
  ·by_cases h1:op=[99,97,108,108]
   ·refine oC rfl (fun _=>?_) (fun hd=>absurd h1 (zf hd))
    refine gaa ?_
    refine oS (S.lit (es:=[name].map str) [_] rfl (eC rfl rfl eN) rfl rfl rfl ?_) rfl
    refine oS (S.accF (A:=[_]) (H1:=[(b3,.row 0)]) zpr rfl Acc.row rfl (strs_len _) (strs_ok _) (by simp) fun v2 H2 h2=>?_) rfl
    refine oP (Pure.as (lv:=v2) rfl) rfl ?_
    refine gap ?_
    exact ⟨(v2,H2),by rw[if_pos (show op=nCall from h1)];exact h2,⟨rfl,rfl,trivial⟩,HSub.refl _,rfl⟩
   ·refine oC rfl (fun hd=>absurd (zt hd) h1) (fun _=>?_)
    refine gau ?_
    exact ⟨(.app b3 0 1 [],[(b3,.row 0)]),by rw[if_neg (show ¬ op=nCall from h1)];exact Acc.row,⟨rfl,rfl,trivial⟩,⟨[],by simpa using List.Perm.swap _ _ _⟩,rfl⟩
  rintro ⟨v0,H0⟩ hacc0 j hj
  simp only at hacc0
  have hC0:(if op=nCall then [name] else []:List Nm).length≤1:=by split <;> simp
  generalize (if op=nCall then [name] else []:List Nm)=C0 at hacc0 hR hC0
  refine gab ?_
  refine oL (fun kk ls H'=>∃ (pre l1:List Ex) (v:LV) (Ha:Heap),args=pre++l1∧kk=l1.length∧ls=[(1,ptr b1 0),(3,v),(16,.list (args.map encE)),(17,int .i64 ((args.map encE).length:Int)),(18,int .i64 (pre.length:Int))] ∧
    H'=exH b1 op num name args::Ha∧GL.Acc 1 v ((C0++callsEs pre).map str) Ha [])
   ⟨_,_,_,⟨[],args,v0,H0,rfl,rfl,rfl,rfl,by rw[callsEs,List.append_nil];exact hacc0⟩,⟨rfl,rfl,rfl,rfl,rfl,trivial⟩,HSub.refl _⟩ ?_
  rintro kk ls H' ⟨pre,l1,v,Ha,hL,rfl,rfl,rfl,hacc⟩ j2 hj2
  have hb:=pre_le hL (show args.length≤100000000 by omega)
  refine gag ?_
  refine oC rfl (fun hc=>?_) (fun hc=>?_)
  ·obtain ⟨a,l2,rfl⟩:=more hL hc
   have ham:=ndEs_part hL
   have g1:=callsEs_len pre
   have g2:=callsE_len a
   refine gai ?_
   refine oP (xR (el':=encE a) (cs:=[_,_,_,_]) rfl rfl zo (by rw[hL];exact get_mid encE pre a l2) rfl rfl) rfl ?_
   refine gao ?_
   refine oS (S.alloc fun b5=>?_) rfl
   refine gaa ?_
   refine oP (Pure.mv (lv:=v) rfl) rfl ?_
   refine gac ?_
   refine oS (S.fn [_] rfl (ih a zo) ?_) rfl
   refine oS (S.accF (A:=[_,_]) (H1:=Ha) (List.perm_append_comm (l₁:=[_,_])) rfl hacc rfl (strs_len _) (strs_ok _) (by simp;omega) fun v2 H2 hacc2=>?_) rfl
   refine oP (Pure.as (lv:=v2) rfl) rfl ?_
   refine gan ?_
   exact ⟨l2.length,_,_,Nat.lt_succ_self _,⟨pre++[a],l2,v2,H2,snoc hL,rfl,rfl,rfl,by rw[callsEs_snoc,←List.append_assoc,List.map_append (l₂:=callsE a)];exact hacc2⟩,⟨rfl,rfl,rfl,rfl,int_eq (by simp),trivial⟩,zhD zhr,hj2⟩
  obtain rfl:=none_left hL hc
  rw[List.append_nil] at hL
  subst hL
  rw[hR] at hacc
  refine gad ?_
  refine LCode.sub (d:=3) rfl hacc.sub ?_
  refine gaa ?_
  exact retRet (hj2.trans hj) (rC (rT (v:=.list _) rfl zsr) rN) rfl
def CalleesH (B0:Nat) (w0:World) (n:Nat):Prop:=∀ l:List Sm,ndSs l<n→LCalls (KC B0 w0) 89 [.list (l.map encS)] [] (Ret (.list ((callsSs l).map str)))
theorem callees_spec:∀ n:Nat,n≤100000000→CalleesH B0 w0 n
 |0,_=>fun x h=>by omega
 |n+1,hn6=>by
  have ih:=callees_spec n zo
  have hC:CallsH B0 w0 n:=calls_spec n zo
  intro l hnd
  have hal:=ndSs_len l
  refine cI Tryz.func89 rfl (n:=44) rfl rfl rfl ?_
  refine gaj ?_
  refine oS (S.litA (es:=[]) [] rfl eN rfl rfl rfl fun b3=>?_) rfl
  refine gaa ?_
  refine oL (fun kk ls H'=>∃ (pre l1:List Sm) (v:LV) (Ha:Heap),l=pre++l1∧kk=l1.length∧ls=[(3,v),(9,.list (l.map encS)),(10,int .i64 ((l.map encS).length:Int)),(11,int .i64 (pre.length:Int))] ∧
    H'=Ha∧GL.Acc 1 v ((callsSs pre).map str) Ha [])
   ⟨_,_,_,⟨[],l,.app b3 0 1 [],[(b3,.row 0)],rfl,rfl,rfl,rfl,Acc.row⟩,⟨rfl,rfl,rfl,rfl,trivial⟩,HSub.refl _⟩ ?_
  rintro kk ls HA ⟨pre,l1,v,_,hL,rfl,rfl,rfl,hacc⟩ j hj
  have hb:=pre_le hL (show l.length≤100000000 by omega)
  refine gag ?_
  refine oC rfl (fun hc=>?_) (fun hc=>?_)
  rotate_left
  ·obtain rfl:=none_left hL hc
   rw[List.append_nil] at hL
   subst hL
   refine gad ?_
   refine LCode.sub (d:=3) rfl hacc.sub ?_
   refine gaa ?_
   exact retRet hj (rC (rT (v:=.list _) rfl zsr) rN) rfl
  obtain ⟨a,l2,rfl⟩:=more hL hc
  have ham:=ndSs_part hL
  have g1:=callsSs_len pre
  obtain ⟨kind,name,index,value,thn,els⟩:=a
  rw[ndS] at ham
  have g2:=ndEs_len value
  have g3:=ndEs_len index
  refine gai ?_
  refine oP (xR (el':=.agg [int .i64 kind,str name,.list (index.map encE),.list (value.map encE),.list (thn.map encS),.list (els.map encS)]) (cs:=[_,_,_,_,_,_]) rfl rfl zo (by rw[hL,←encS_mk];exact get_mid encS pre _ l2) rfl rfl) rfl ?_
  refine gac ?_
  refine oS (S.alloc fun b5=>?_) rfl
  refine gac ?_
  refine LCode.draw (m:=9) rfl [smH b5 kind name index value thn els] ?_
  refine aT 1 rfl rfl (Pure.fieldH rfl) ?_
  refine aT 2 rfl rfl (Pure.loadH (c:=.list _) rfl zm0 rfl) ?_
  refine aT 4 rfl rfl (Pure.fieldH rfl) ?_
  refine aT 5 rfl rfl (Pure.loadH (c:=.list _) rfl zm0 rfl) ?_
  refine aT 8 rfl rfl (Pure.mv (lv:=.atom _) rfl) ?_
  refine LAny.late ?_ zhp
  refine lO 0 (lS (H1:=[]) rfl (.inl rfl) rfl zpr zhp (S.litA (es:=[]) [] rfl eN rfl rfl rfl fun b7=>?_))
  refine lO 3 (lS (H1:=[(b7,.row 0)]) rfl (.inl rfl) rfl zpr zhp (S.acc (F:=[]) rfl Acc.row rfl (encE_len _) (encE_ok _) (by simp;omega) fun v1 H1 h1=>?_))
  refine lO 6 (lS (H1:=H1) rfl (.inl rfl) rfl zpr zhp (S.acc (F:=[]) rfl h1 rfl (encE_len _) (encE_ok _) (by simp;omega) fun v2 H2 h2=>?_))
  have e2:([]++value.map encE++index.map encE:List LV)=(value++index).map encE:=by simp
  rw[e2] at h2
  refine lO 7 (lH rfl rfl (Pure.llen (h2.elems)) ?_)
  refine lD zk ?_
  refine gad ?_
  refine LCode.sub (d:=21) rfl h2.sub ?_
  refine LCode.weak (H':=smH b5 kind name index value thn els::HA) ⟨H2,List.perm_append_comm⟩ ?_
  refine oL (fun kk ls H'=>∃ (pre2 l3:List Ex) (v:LV) (Ha:Heap),value++index=pre2++l3∧kk=l3.length∧ls=[(3,v),(5,ptr b5 0),(9,.list (l.map encS)),(10,int .i64 ((l.map encS).length:Int)),(11,int .i64 (pre.length:Int)),(21,.list ((value++index).map encE)),(22,int .i64 (((value++index).map encE).length:Int)),(23,int .i64 (pre2.length:Int))] ∧
    H'=smH b5 kind name index value thn els::Ha∧GL.Acc 1 v ((callsSs pre++callsEs pre2).map str) Ha [])
   ⟨_,_,_,⟨[],value++index,v,HA,rfl,rfl,rfl,rfl,by rw[callsEs,List.append_nil];exact hacc⟩,⟨rfl,rfl,rfl,rfl,rfl,rfl,rfl,rfl,trivial⟩,HSub.refl _⟩ ?_
  rintro kk ls H' ⟨pre2,l3,v3,Hb,hL2,rfl,rfl,rfl,hacc3⟩ j2 hj2
  have hb2:=pre_le hL2 (show (value++index).length≤100000000 by rw[List.length_append];omega)
  refine gag ?_
  refine oC rfl (fun hc2=>?_) (fun hc2=>?_)
  ·obtain ⟨a,l4,rfl⟩:=more hL2 hc2
   have ham2:=ndEs_part hL2
   rw[ndEs_app] at ham2
   have g4:=callsEs_len pre2
   have g5:=callsE_len a
   refine gai ?_
   refine oP (xR (el':=encE a) (cs:=[_,_,_,_]) rfl rfl zo (by rw[hL2];exact get_mid encE pre2 a l4) rfl rfl) rfl ?_
   refine gao ?_
   refine oS (S.alloc fun b7=>?_) rfl
   refine gaa ?_
   refine oP (Pure.mv (lv:=v3) rfl) rfl ?_
   refine gac ?_
   refine oS (S.fn [_] rfl (hC a zo) ?_) rfl
   refine oS (S.accF (A:=[_,_]) (H1:=Hb) (List.perm_append_comm (l₁:=[_,_])) rfl hacc3 rfl (strs_len _) (strs_ok _) (by simp;omega) fun v4 H4 hacc4=>?_) rfl
   refine oP (Pure.as (lv:=v4) rfl) rfl ?_
   refine gan ?_
   exact ⟨l4.length,_,_,Nat.lt_succ_self _,⟨pre2++[a],l4,v4,H4,snoc hL2,rfl,rfl,rfl,by rw[callsEs_snoc,←List.append_assoc,List.map_append (l₂:=callsE a)];exact hacc4⟩,⟨rfl,rfl,rfl,rfl,rfl,rfl,rfl,int_eq (by simp),trivial⟩,zhD zhr,hj2⟩
  obtain rfl:=none_left hL2 hc2
  rw[List.append_nil] at hL2
  subst hL2
  have g6:=callsEs_len (value++index)
  rw[ndEs_app] at g6
  have g7:=callsSs_len thn
  have g8:=callsSs_len els
  have hjj:=hj2.trans hj
  refine gab ?_
  refine oP (Pure.mv (lv:=v3) rfl) rfl ?_
  refine gad ?_
  refine oS (S.fn [_] rfl (ih thn zo) ?_) rfl
  refine oS (S.accF (A:=[_]) (H1:=Hb) (List.perm_append_comm (l₁:=[_])) rfl hacc3 rfl (strs_len _) (strs_ok _) (by simp;omega) fun v4 H4 hacc4=>?_) rfl
  refine oP (Pure.as (lv:=v4) rfl) rfl ?_
  refine gag ?_
  refine oP (Pure.mv (lv:=v4) rfl) rfl ?_
  refine gad ?_
  refine oS (S.fn [_] rfl (ih els zo) ?_) rfl
  refine oS (S.accF (A:=[_]) (H1:=H4) (List.perm_append_comm (l₁:=[_])) rfl hacc4 rfl (strs_len _) (strs_ok _) (by simp;omega) fun v5 H5 hacc5=>?_) rfl
  refine oP (Pure.as (lv:=v5) rfl) rfl ?_
  refine gan ?_
  exact ⟨l2.length,_,_,Nat.lt_succ_self _,⟨pre++[Sm.mk kind name index value thn els],l2,v5,H5,snoc hL,rfl,rfl,rfl,by
   rw[callsSs_snoc,callsS]
   have e:(callsSs pre++(callsEs (value++index)++callsSs thn++callsSs els)).map str=(callsSs pre++callsEs (value++index)).map str++(callsSs thn).map str++(callsSs els).map str:=by simp
   rw[e]
   exact hacc5⟩,⟨rfl,rfl,rfl,int_eq (by simp),trivial⟩,zhD zhr,hjj⟩
end
end Go.Proofs.YtpbbgkoalnonoaaGreatDoor.RC
namespace Go.Proofs.YtpbbgkoalnonoaaGreatDoor.RC
open Go.GL Go.RowKit Go.Stele
set_option maxRecDepth 100000
set_option maxHeartbeats 4000000
@[reducible] def fnH (b:Nat) (f:FnD):Nat×LObj:=(b,.cells 59 [str f.name,.list (f.params.map str),.list (f.locals.map str),.list (f.body.map encS)])
theorem encFn_len (l:List FnD):∀ v∈l.map encFn,v.cells.length=4:=fun v hv=>by
 obtain ⟨x,_,rfl⟩:=List.mem_map.1 hv
 rfl
section
variable {C:Ctx} {e:Env} {H:Heap} {dst:Option Nat} {ty:TypeId} {pos:String} {aft:Array Edge} {gd:Option (Nat×Bool)}
theorem Pure.sliceTo {t el s:Nat} [ht:TSlice C.P t el s] {A:Type} {g:A→LV} {pre l1:List A} {x hi:Operand} (hx:GL.elems (e.ev x)=some ((pre++l1).map g)) (hh:e.ev hi=int .i64 (pre.length:Int)) (hs:∀ v∈(pre++l1).map g,v.cells.length=s):GL.Pure C ⟨dst,.slice t x none (some hi) none,ty,pos,aft,gd⟩ e H (.list (pre.map g)):=by
 have h:=GL.Pure.lslice (C:=C) (e:=e) (H:=H) (dst:=dst) (ty:=ty) (pos:=pos) (aft:=aft) (g:=gd) (t:=t) (lo:=none) (hi:=some hi) (i:=0) (j:=(pre.length:Int)) hx rfl ⟨_,hh⟩ (by decide) zo (by simp;omega) hs
 have e1:(((pre++l1).map g).take ((pre.length:Int)).toNat).drop (0:Int).toNat=pre.map g:=by simp
 rw[e1] at h
 exact h
end
theorem sumFs_names (vars arrays later:List Nm):∀ (fs:List FnD) (known:List FSum),(sumFs vars arrays later known fs).map (·.name)=known.map (·.name)++fs.map (·.name)
 |[],known=>by rw[sumFs];simp
 |f::l,known=>by rw[sumFs,sumFs_names];simp[sumF]
attribute [local irreducible] LOps LCode LStep LCalls Go.GL.Pure QThen QBlock RetPost LQ LAny LLate LLateOp LS
section
variable {B0:Nat} {w0:World}
theorem rscalars_spec {vars:List Nm} {fs:List FnD} (AL:LV) (hv6:vars.length≤2000000) (hf6:fs.length≤2000000) (hsm:∀ f∈fs,SmF f) (hn:∀ f∈fs,f.name.length≤1000∧∀ x∈f.params++f.locals,x.length≤1000):LCalls (KC B0 w0) 38 [.agg [.list (vars.map str),AL,.list (fs.map encFn)]] [] (Ret (.list ((scalarsP vars fs).map str))):=by
 have hown:∀ f∈fs,(Chk.ownS f).length≤4000000:=fun f hf=>by
  have h1:f.params.length≤2000000:=(hsm f hf).params
  have h2:f.locals.length≤2000000:=(hsm f hf).locals
  unfold Chk.ownS
  rw[List.length_map,List.length_append]
  omega
 have hsum:∀ l:List FnD,(∀ f∈l,f∈fs)→((l.map Chk.ownS).flatten).length≤l.length * 4000000:=fun l hl=>by
  have:=Chk.sum_le (l.map Chk.ownS) 4000000 (fun x hx=>by
   obtain ⟨f,hf,rfl⟩:=List.mem_map.1 hx
   exact hown f (hl f hf))
  rwa [List.length_map] at this
 refine cI Tryz.func38 rfl (n:=55) rfl rfl rfl ?_
 refine gah ?_
 refine oS (S.box rfl fun b1=>?_) rfl
 refine gaj ?_
 refine oS (S.litA (es:=[]) [] rfl eN rfl rfl rfl fun b3=>?_) rfl
 refine gac ?_
 refine oS (S.accF (A:=[_]) (H1:=[(b3,.row 0)]) zpr rfl Acc.row rfl (strs_len _) (strs_ok _) (by simp;omega) fun v Ha hacc=>?_) rfl
 refine oP (Pure.as (lv:=v) rfl) rfl ?_
 refine gab ?_
 refine oL (fun k ls H'=>∃ pre l1 v1 Ha1,fs=pre++l1∧k=l1.length∧ls=[(3,v1),(15,.list (fs.map encFn)),(16,int .i64 ((fs.map encFn).length:Int)),(17,int .i64 (pre.length:Int))]∧H'=Ha1∧GL.Acc 1 v1 ((vars++(pre.map Chk.ownS).flatten).map str) Ha1 [])
  ⟨fs.length,_,_,⟨[],fs,v,Ha,rfl,rfl,rfl,rfl,by simpa using hacc⟩,⟨rfl,rfl,rfl,rfl,trivial⟩,zhD zhr⟩ ?_
 rintro k ls Ha1 ⟨pre,l1,v1,_,hL,rfl,rfl,rfl,hacc1⟩ j hj
 have hb:=pre_le hL hf6
 have hb1:((pre.map Chk.ownS).flatten).length≤8000000000000:=by
  have:=hsum pre (fun f hf=>by rw[hL];exact List.mem_append_left _ hf)
  omega
 refine gag ?_
 refine oC rfl (fun hc=>?_) (fun hc=>?_)
 rotate_left
 ·obtain rfl:=none_left hL hc
  rw[List.append_nil] at hL
  rw[←hL] at hacc1
  refine gad ?_
  refine LCode.sub (d:=3) rfl hacc1.sub ?_
  refine gaa ?_
  exact retRet hj (rC (rT (v:=.list _) rfl zsr) rN) rfl
 obtain ⟨f,l2,rfl⟩:=more hL hc
 have hfm:f∈fs:=by rw[hL];exact List.mem_append_right _ (List.mem_cons_self ..)
 obtain ⟨hn1,hn2⟩:=hn f hfm
 have hp6:f.params.length≤2000000:=(hsm f hfm).params
 have hl6:f.locals.length≤2000000:=(hsm f hfm).locals
 refine gai ?_
 refine oP (xR (el':=encFn f) (cs:=[_,_,_,_]) rfl rfl zo (by rw[hL];exact get_mid encFn pre f l2) rfl rfl) rfl ?_
 refine gao ?_
 refine oS (S.alloc fun b5=>?_) rfl
 refine gaa ?_
 refine oL (fun k ls H'=>∃ pre2 l3 v3 Ha3,f.params=pre2++l3∧k=l3.length∧ls=[(3,v3),(5,ptr b5 0),(15,.list (fs.map encFn)),(16,int .i64 ((fs.map encFn).length:Int)),(17,int .i64 (pre.length:Int)),(22,.list (f.params.map str)),(23,int .i64 ((f.params.map str).length:Int)),(24,int .i64 (pre2.length:Int))] ∧
   H'=fnH b5 f::Ha3∧GL.Acc 1 v3 ((vars++(pre.map Chk.ownS).flatten++pre2.map fun x=>f.name++[46]++x).map str) Ha3 [])
  ⟨_,_,_,⟨[],f.params,v1,Ha1,rfl,rfl,rfl,rfl,by simpa using hacc1⟩,⟨rfl,rfl,rfl,rfl,rfl,rfl,rfl,rfl,trivial⟩,HSub.refl _⟩ ?_
 rintro k ls H' ⟨pre2,l3,v3,Ha3,hL2,rfl,rfl,rfl,hacc3⟩ j2 hj2
 have hb3:=pre_le hL2 hp6
 refine gag ?_
 refine oC rfl (fun hd=>?_) (fun hd=>?_)
 ·obtain ⟨x,l4,rfl⟩:=more hL2 hd
  have hx:x.length≤1000:=hn2 x (by rw[hL2];simp)
  refine gai ?_
  refine oP (xR (el':=str x) (cs:=[_]) rfl rfl zo (by rw[hL2];exact get_mid str pre2 x l4) rfl rfl) rfl ?_
  refine gaa ?_
  refine oP (Pure.mv (lv:=v3) rfl) rfl ?_
  refine gac ?_
  refine oS (S.lit (es:=[f.name++[46]++x].map str) [_] rfl (eC rfl rfl eN) rfl rfl rfl ?_) rfl
  refine oS (S.accF (A:=[_]) (H1:=Ha3) (List.perm_append_comm (l₁:=[_])) rfl hacc3 rfl (strs_len _) (strs_ok _) (by rw[List.length_map,List.length_append,List.length_append,List.length_map,List.length_map,List.length_singleton];omega) fun v' H' hacc'=>?_) rfl
  refine oP (Pure.as (lv:=v') rfl) rfl ?_
  refine gan ?_
  exact ⟨l4.length,_,_,Nat.lt_succ_self _,⟨pre2++[x],l4,v',H',snoc hL2,rfl,rfl,rfl,by
   have e:((vars++(pre.map Chk.ownS).flatten++(pre2++[x]).map fun x=>f.name++[46]++x).map str)=((vars++(pre.map Chk.ownS).flatten++pre2.map fun x=>f.name++[46]++x).map str)++[f.name++[46]++x].map str:=by simp
   rw[e]
   exact hacc'⟩,⟨rfl,rfl,rfl,rfl,rfl,rfl,rfl,int_eq (by simp),trivial⟩,HSub.refl _,hj2⟩
 obtain rfl:=none_left hL2 hd
 rw[List.append_nil] at hL2
 rw[←hL2] at hacc3
 refine gab ?_
 refine oL (fun k ls H'=>∃ pre3 l3 v4 Ha4,f.locals=pre3++l3∧k=l3.length∧ls=[(3,v4),(5,ptr b5 0),(15,.list (fs.map encFn)),(16,int .i64 ((fs.map encFn).length:Int)),(17,int .i64 (pre.length:Int)),(38,.list (f.locals.map str)),(39,int .i64 ((f.locals.map str).length:Int)),(40,int .i64 (pre3.length:Int))] ∧
   H'=fnH b5 f::Ha4∧GL.Acc 1 v4 ((vars++(pre.map Chk.ownS).flatten++(f.params++pre3).map fun x=>f.name++[46]++x).map str) Ha4 [])
  ⟨_,_,_,⟨[],f.locals,v3,Ha3,rfl,rfl,rfl,rfl,by simpa using hacc3⟩,⟨rfl,rfl,rfl,rfl,rfl,rfl,rfl,rfl,trivial⟩,HSub.refl _⟩ ?_
 rintro k ls H' ⟨pre3,l3,v4,Ha4,hL3,rfl,rfl,rfl,hacc4⟩ j3 hj3
 have hb4:=pre_le hL3 hl6
 refine gag ?_
 refine oC rfl (fun hd=>?_) (fun hd=>?_)
 ·obtain ⟨x,l4,rfl⟩:=more hL3 hd
  have hx:x.length≤1000:=hn2 x (by rw[hL3];simp)
  refine gai ?_
  refine oP (xR (el':=str x) (cs:=[_]) rfl rfl zo (by rw[hL3];exact get_mid str pre3 x l4) rfl rfl) rfl ?_
  refine gaa ?_
  refine oP (Pure.mv (lv:=v4) rfl) rfl ?_
  refine gac ?_
  refine oS (S.lit (es:=[f.name++[46]++x].map str) [_] rfl (eC rfl rfl eN) rfl rfl rfl ?_) rfl
  refine oS (S.accF (A:=[_]) (H1:=Ha4) (List.perm_append_comm (l₁:=[_])) rfl hacc4 rfl (strs_len _) (strs_ok _) (by rw[List.length_map,List.length_append,List.length_append,List.length_map,List.length_append,List.length_map,List.length_singleton];omega) fun v' H' hacc'=>?_) rfl
  refine oP (Pure.as (lv:=v') rfl) rfl ?_
  refine gan ?_
  exact ⟨l4.length,_,_,Nat.lt_succ_self _,⟨pre3++[x],l4,v',H',snoc hL3,rfl,rfl,rfl,by
   have e:((vars++(pre.map Chk.ownS).flatten++(f.params++(pre3++[x])).map fun x=>f.name++[46]++x).map str)=((vars++(pre.map Chk.ownS).flatten++(f.params++pre3).map fun x=>f.name++[46]++x).map str)++[f.name++[46]++x].map str:=by simp
   rw[e]
   exact hacc'⟩,⟨rfl,rfl,rfl,rfl,rfl,rfl,rfl,int_eq (by simp),trivial⟩,HSub.refl _,hj3⟩
 obtain rfl:=none_left hL3 hd
 rw[List.append_nil] at hL3
 rw[←hL3] at hacc4
 refine gab ?_
 exact ⟨l2.length,_,_,Nat.lt_succ_self _,⟨pre++[f],l2,v4,Ha4,snoc hL,rfl,rfl,rfl,by
  have e:((vars++((pre++[f]).map Chk.ownS).flatten).map str)=(vars++(pre.map Chk.ownS).flatten++(f.params++f.locals).map fun x=>f.name++[46]++x).map str:=by
   simp[Chk.ownS]
  rw[e]
  exact hacc4⟩,⟨rfl,rfl,rfl,int_eq (by simp),trivial⟩,zhD zhr,hj3.trans (hj2.trans hj)⟩
@[reducible] def prH (b:Nat) (vars:List Nm) (AL:LV) (fs:List FnD):Nat×LObj:=(b,.cells 26 [.list (vars.map str),AL,.list (fs.map encFn)])
theorem perm_two {x y:Nat×LObj} {A B:Heap}:List.Perm (x::y::(A++B)) (A++(x::y::B)):=by
 have h:List.Perm (([x,y]++A)++B) ((A++[x,y])++B):=List.perm_append_comm.append_right B
 rw[List.append_assoc A] at h
 exact h
theorem Measure_spec {vars arrays:List Nm} {fs:List FnD} (AL:LV) (hnd:ndFs fs≤2000000) (hd:Dist (fs.map fun f=>(⟨f.name,0,0,0⟩:FSum))) (herr:errFs vars arrays (fs.map (·.name)) [] fs=0) :
  LCalls (KC B0 w0) 37 [.agg [.list (vars.map str),AL,.list (fs.map encFn)]] [] (Ret (.tuple [.list (((sumFs vars arrays (fs.map (·.name)) [] fs).map (·.need)).map iv),.list (((sumFs vars arrays (fs.map (·.name)) [] fs).map (·.depth)).map iv)])):=by
 have hfl:=ndFs_len fs
 generalize hlat:fs.map (·.name)=later at herr ⊢
 generalize hS:sumFs vars arrays later [] fs=ZS
 refine cI Tryz.func37 rfl (n:=80) rfl rfl rfl ?_
 refine gah ?_
 refine oS (S.box rfl fun b1=>?_) rfl
 refine gaj ?_
 refine oS (S.litA (es:=[]) [] rfl eN rfl rfl rfl fun b4=>?_) rfl
 refine oS (S.litA (es:=[]) [] rfl eN rfl rfl rfl fun b5=>?_) rfl
 refine gaa ?_
 refine oL (fun k ls H'=>∃ (pre l1:List FnD) (known:List FSum) (v4 v5:LV) (H4 H5:Heap),fs=pre++l1∧k=l1.length∧ls=[(1,ptr b1 0),(4,v4),(5,v5),(15,.list (fs.map encFn)),(16,int .i64 ((fs.map encFn).length:Int)),(17,int .i64 (pre.length:Int))] ∧
   H'=prH b1 vars AL fs::(H4++H5)∧GL.Acc 1 v4 ((known.map (·.need)).map iv) H4 []∧GL.Acc 1 v5 ((known.map (·.depth)).map iv) H5 []∧known.map (·.name)=pre.map (·.name)∧errFs vars arrays later known l1=0∧sumFs vars arrays later known l1=ZS∧KnB (8 * ndFs pre) pre.length known)
  ⟨_,_,_,⟨[],fs,[],.app b4 0 1 [],.app b5 0 1 [],[(b4,.row 0)],[(b5,.row 0)],rfl,rfl,rfl,rfl,Acc.row,Acc.row,rfl,herr,hS,fun k hk=>(List.not_mem_nil hk).elim⟩,⟨rfl,rfl,rfl,rfl,rfl,rfl,trivial⟩,⟨[],by simpa using (List.perm_append_comm (l₁:=[_,_]) (l₂:=[_])).trans (List.Perm.cons _ (List.Perm.swap _ _ _))⟩⟩ ?_
 rintro k ls HH ⟨pre,l1,known,v4,v5,H4,H5,hL,rfl,rfl,rfl,hacc4,hacc5,hkn,hI,hSS,hB⟩ j hj
 have hb:=pre_le hL (show fs.length≤2000000 by omega)
 have hkl:known.length=pre.length:=by
  have:=congrArg List.length hkn
  simpa using this
 refine gag ?_
 refine oC rfl (fun hc=>?_) (fun hc=>?_)
 rotate_left
 ·obtain rfl:=none_left hL hc
  have hSe:known=ZS:=hSS
  rw[←hSe]
  refine gad ?_
  refine LCode.sub (d:=4) rfl hacc4.sub ?_
  refine LCode.sub (d:=5) rfl hacc5.sub ?_
  refine gaa ?_
  exact retRet hj (rC (rT (v:=.list _) rfl zsr) (rC (rT (v:=.list _) rfl zsr) rN)) rfl
 obtain ⟨f,l2,rfl⟩:=more hL hc
 rw[errFs] at hI
 obtain ⟨hI1,hI2⟩:=orE_zero.1 hI
 rw[sumFs] at hSS
 have hndf:ndFs pre+ndF f≤ndFs fs:=by
  have key:∀ p q:List FnD,ndFs (p++q)=ndFs p+ndFs q:=fun p q=>by
   induction p with
   |nil=>rw[List.nil_append,ndFs];omega
   |cons x p ih=>rw[List.cons_append,ndFs,ndFs,ih];omega
  rw[hL,key,ndFs]
  omega
 have hndb:ndSs f.body+f.params.length<2000001:=by unfold ndF at hndf;omega
 have hp8:(f.params.map str).length≤2000000:=by rw[List.length_map];omega
 have hdk:Dist known:=by
  unfold Dist at hd ⊢
  have e:(fs.map fun f=>(⟨f.name,0,0,0⟩:FSum)).map (·.name)=known.map (·.name)++(f::l2).map (·.name):=by rw[List.map_map,hL,List.map_append,hkn];rfl
  rw[e] at hd
  exact ⟨(List.nodup_append.1 hd.1).1,fun h=>hd.2.1 (List.mem_append_left _ h),fun h=>hd.2.2 (List.mem_append_left _ h)⟩
 have herb:errSs (envF vars arrays later known f) f.body=0:=(orE_zero.1 hI1).2
 have hneeds:=needs_spec (B0:=B0) (w0:=w0) (c:=envF vars arrays later known f) (fs:=pre) zo hkn hdk hB zo 2000001 zo f.body herb zo
 have hcall:=callees_spec (B0:=B0) (w0:=w0) 2000001 zo f.body zo
 have hcl:=callsSs_len f.body
 have hsum:=sumF_le (vars:=vars) (arrays:=arrays) (later:=later) (f:=f) hB
 have hS1:(sumF vars arrays later known f).need=mostN [2,f.params.length+1,needSs (envF vars arrays later known f) f.body]:=rfl
 have hS2:(sumF vars arrays later known f).depth=overN (envF vars arrays later known f) (callsSs f.body) 1:=by
  rw[overSs hdk]
  rfl
 have hneeds':LCalls (KC B0 w0) 88 [.list (f.body.map encS),.list (pre.map encFn),v4] [] (Ret (iv (needSs (envF vars arrays later known f) f.body))):=LCalls.argsSub (bs:=[.list (f.body.map encS),.list (pre.map encFn),.list ((known.map (·.need)).map iv)]) ⟨LV.Sub.refl _,LV.Sub.refl _,hacc4.sub,trivial⟩ hneeds
 refine gab ?_
 refine oP (xR (el':=encFn f) (cs:=[_,_,_,_]) rfl rfl zo (by rw[hL];exact get_mid encFn pre f l2) rfl rfl) rfl ?_
 refine gao ?_
 refine oS (S.alloc fun b7=>?_) rfl
 refine gac ?_
 refine LCode.draw (m:=18) rfl [fnH b7 f,prH b1 vars AL fs] ?_
 refine LAny.take (i:=0) (zhP pH zhp) rfl zk zk zk rfl (Pure.mv (lv:=v4) rfl) ?_
 refine aT 1 rfl rfl (Pure.fieldH rfl) ?_
 refine aT 2 rfl rfl (Pure.loadH (c:=.list _) rfl zm0 rfl) ?_
 refine aT 3 rfl rfl (Pure.llen rfl) ?_
 refine aT 4 rfl rfl (Pure.add rfl rfl zo) ?_
 refine aT 5 rfl rfl (Pure.fieldH rfl) ?_
 refine aT 6 rfl rfl (Pure.loadH (c:=.list _) rfl zm0 rfl) ?_
 refine aT 7 rfl rfl (Pure.fieldH rfl) ?_
 refine aT 8 rfl rfl (Pure.loadH (c:=.list _) rfl zm1 rfl) ?_
 refine aT 9 rfl rfl (Pure.mv (lv:=.atom _) rfl) ?_
 refine LAny.take (i:=10) (zhP pH zhp) rfl zk zk zk rfl (Pure.sliceTo (g:=encFn) (pre:=pre) (l1:=f::l2) (by rw[←hL];rfl) rfl (encFn_len _)) ?_
 refine LAny.take (i:=11) (zhP pH zhp) rfl zk zk zk rfl (Pure.mv (lv:=v4) rfl) ?_
 refine LAny.late ?_ (zhP pH zhp)
 refine lO 12 (lS (H1:=[]) rfl (.inl rfl) rfl zpr (zhP pH zhp) (S.fn [_,_,_] rfl hneeds' ?_))
 refine lO 13 (lS (H1:=[]) rfl (.inl rfl) rfl zpr (zhP pH zhp) (S.lit (es:=[2,f.params.length+1,needSs (envF vars arrays later known f) f.body].map iv) [_,_,_] (by show [int .i64 2,int .i64 (((f.params.map str).length:Int)+1),iv _]=_;simp[iv]) (iv_els _) rfl rfl rfl ?_))
 refine lO 14 (lS (H1:=[]) rfl (.inl rfl) rfl zpr (zhP pH zhp) (S.fn [_] rfl (most_spec 2 [f.params.length+1,needSs (envF vars arrays later known f) f.body] (by simp)) ?_))
 rw[←hS1]
 refine lO 15 (lS (H1:=[]) rfl (.inl rfl) rfl zpr (zhP pH zhp) (S.lit (es:=[(sumF vars arrays later known f).need].map iv) [_] rfl (iv_els _) rfl rfl rfl ?_))
 refine lO 16 (lS (H1:=H4) rfl (.inl rfl) rfl perm_two (zhP pH zhp) (S.acc (F:=[]) rfl hacc4 rfl (iv_len _) (iv_ok _) (by rw[List.length_map,List.length_map,List.length_map,List.length_singleton];omega) fun v6 H6 hacc6=>?_))
 refine lO 17 (lH rfl rfl (Pure.as (lv:=v6) rfl) ?_)
 refine lD zk ?_
 refine gap ?_
 refine LCode.perm (H':=fnH b7 f::prH b1 vars AL fs::(H5++H6)) (List.perm_append_comm (l₂:=_::_::H5)) ?_
 refine gab ?_
 refine oS (S.fn [_] rfl hcall ?_) rfl
 refine gad ?_
 have hnm6:(callsSs f.body).length≤2000001:=by omega
 generalize hNM:callsSs f.body=names at hS2 hnm6 ⊢
 refine oL (fun k ls H'=>∃ (pn nl:List Nm) (d:Nat),names=pn++nl∧k=nl.length∧ls=[(1,ptr b1 0),(4,v6),(5,v5),(6,int .i64 (pre.length:Int)),(7,ptr b7 0),(8,iv d),(15,.list (fs.map encFn)),(16,int .i64 ((fs.map encFn).length:Int)),(17,int .i64 (pre.length:Int)),(41,.list (names.map str)),(42,int .i64 ((names.map str).length:Int)),(43,int .i64 (pn.length:Int))] ∧
   H'=fnH b7 f::prH b1 vars AL fs::(H5++H6)∧(sumF vars arrays later known f).depth=overN (envF vars arrays later known f) nl d)
  ⟨_,_,_,⟨[],names,1,rfl,rfl,rfl,rfl,hS2⟩,⟨rfl,rfl,rfl,rfl,rfl,rfl,rfl,rfl,rfl,rfl,rfl,rfl,trivial⟩,HSub.refl _⟩ ?_
 rintro k ls H' ⟨pn,nl,d,hLn,rfl,rfl,rfl,hov⟩ j2 hj2
 have hb2:=pre_le hLn hnm6
 refine gag ?_
 refine oC rfl (fun hc2=>?_) (fun hc2=>?_)
 rotate_left
 ·obtain rfl:=none_left hLn hc2
  have hdd:(sumF vars arrays later known f).depth=d:=hov
  rw[←hdd]
  refine gab ?_
  refine oP (Pure.mv (lv:=v5) rfl) rfl ?_
  refine gaw ?_
  refine oS (S.lit (es:=[(sumF vars arrays later known f).depth].map iv) [_] rfl (iv_els _) rfl rfl rfl ?_) rfl
  refine oS (S.accF (A:=fnH b7 f::prH b1 vars AL fs::H6) (H1:=H5) perm_two rfl hacc5 rfl (iv_len _) (iv_ok _) (by rw[List.length_map,List.length_map,List.length_map,List.length_singleton];omega) fun v9 H9 hacc9=>?_) rfl
  refine oP (Pure.as (lv:=v9) rfl) rfl ?_
  refine gan ?_
  exact ⟨l2.length,_,_,Nat.lt_succ_self _,⟨pre++[f],l2,known++[sumF vars arrays later known f],v6,v9,H6,H9,snoc hL,rfl,rfl,rfl,by rw[List.map_append,List.map_append];exact hacc6,by rw[List.map_append,List.map_append];exact hacc9,by rw[List.map_append,List.map_append,hkn];rfl,hI2,hSS,fun q hq=>by
   have key:∀ p:List FnD,ndFs (p++[f])=ndFs p+ndF f:=fun p=>by
    induction p with
    |nil=>rw[List.nil_append,ndFs,ndFs,ndFs];omega
    |cons x p ih=>rw[List.cons_append,ndFs,ndFs,ih];omega
   rw[key,List.length_append,List.length_singleton]
   rcases List.mem_append.1 hq with h1|h1
   ·have:=hB q h1
    omega
   ·rw[List.mem_singleton.1 h1]
    omega⟩,⟨rfl,rfl,rfl,rfl,rfl,int_eq (by simp),trivial⟩,zhD ⟨[],by simp⟩,hj2.trans hj⟩
 obtain ⟨name,n2,rfl⟩:=more hLn hc2
 refine gai ?_
 refine oP (xR (el':=str name) (cs:=[_]) rfl rfl zo (by rw[hLn];exact get_mid str pn name n2) rfl rfl) rfl ?_
 refine gaa ?_
 refine oP (Pure.sliceTo (g:=encFn) (pre:=pre) (l1:=f::l2) (by rw[←hL];rfl) rfl (encFn_len _)) rfl ?_
 refine gad ?_
 refine oL (fun k ls H'=>∃ (pp pl:List FnD) (kp kl:List FSum) (d2:Nat),pre=pp++pl∧known=kp++kl∧kp.length=pp.length∧k=pl.length∧ls=[(1,ptr b1 0),(4,v6),(5,v5),(6,int .i64 (pre.length:Int)),(7,ptr b7 0),(8,iv d2),(10,str name),(15,.list (fs.map encFn)),(16,int .i64 ((fs.map encFn).length:Int)),(17,int .i64 (pre.length:Int)),(41,.list (names.map str)),(42,int .i64 ((names.map str).length:Int)),(43,int .i64 (pn.length:Int)),(51,int .i64 ((pre.map encFn).length:Int)),(52,int .i64 (pp.length:Int))] ∧
   H'=fnH b7 f::prH b1 vars AL fs::(H5++H6)∧kl.map (·.name)=pl.map (·.name)∧overF (fun f=>1+f.depth) name known d=overF (fun f=>1+f.depth) name kl d2)
  ⟨_,_,_,⟨[],pre,[],known,d,rfl,rfl,rfl,rfl,rfl,rfl,hkn,rfl⟩,⟨rfl,rfl,rfl,rfl,rfl,rfl,rfl,rfl,rfl,rfl,rfl,rfl,rfl,rfl,rfl,trivial⟩,HSub.refl _⟩ ?_
 rintro k ls H' ⟨pp,pl,kp,kl,d2,hLp,hLk,hkp,rfl,rfl,rfl,hkn2,hov2⟩ j3 hj3
 have hb3:=pre_le hLp hb
 refine gag ?_
 refine oC rfl (fun hc3=>?_) (fun hc3=>?_)
 rotate_left
 ·obtain rfl:=none_left hLp hc3
  have hkl0:kl=[]:=by
   cases kl with
   |nil=>rfl
   |cons s l=>simp at hkn2
  subst hkl0
  refine gab ?_
  exact ⟨n2.length,_,_,Nat.lt_succ_self _,⟨pn++[name],n2,d2,snoc hLn,rfl,rfl,rfl,by
   rw[hov]
   show List.foldl _ (overF (fun f=>1+f.depth) name known d) n2=_
   rw[hov2]
   rfl⟩,⟨rfl,rfl,rfl,rfl,rfl,rfl,rfl,rfl,rfl,rfl,rfl,int_eq (by simp),trivial⟩,HSub.refl _,hj3.trans hj2⟩
 obtain ⟨q,pl2,rfl⟩:=more hLp hc3
 obtain ⟨s,kl,rfl⟩:∃ s l,kl=s::l:=by
  cases kl with
  |nil=>simp at hkn2
  |cons s l=>exact ⟨s,l,rfl⟩
 rw[List.map_cons,List.map_cons] at hkn2
 injection hkn2 with hs hkn2
 have hget:(fs.map encFn)[((pp.length:Nat):Int).toNat]? = some (encFn q):=by
  rw[hL,hLp,List.append_assoc]
  exact get_mid encFn pp q _
 have hget2:((known.map (·.depth)).map iv)[((pp.length:Nat):Int).toNat]? = some (iv s.depth):=by
  rw[hLk,List.map_map,←hkp]
  exact get_mid _ kp s kl
 have hsd:s.depth≤2000000:=by
  have:=(hB s (by rw[hLk];simp)).2.2
  omega
 refine gaa ?_
 refine oP (xR (el':=encFn q) (cs:=[_,_,_,_]) rfl rfl zo hget rfl rfl) rfl ?_
 refine gac ?_
 by_cases h14:q.name=name
 ·refine oC rfl (fun _=>?_) (fun hd=>absurd h14 (zf hd))
  refine gax ?_
  refine oP (Pure.mv (lv:=v5) rfl) rfl ?_
  refine gaw ?_
  refine oP (xR (el':=iv s.depth) (cs:=[_]) hacc5.elems rfl zo hget2 rfl rfl) rfl ?_
  refine gac ?_
  refine oS (S.lit (es:=[d2,1+s.depth].map iv) [_,_] rfl (iv_els _) rfl rfl rfl ?_) rfl
  refine oS (S.fn [_] rfl (most_spec d2 [1+s.depth] (by simp)) ?_) rfl
  refine gab ?_
  exact ⟨pl2.length,_,_,Nat.lt_succ_self _,⟨pp++[q],pl2,kp++[s],kl,max d2 (1+s.depth),snoc hLp,snoc hLk,by simp[hkp],rfl,rfl,rfl,hkn2,by rw[hov2];unfold overF;rw[List.foldl_cons,if_pos (hs.trans h14)]⟩,⟨rfl,rfl,rfl,rfl,rfl,rfl,rfl,rfl,rfl,rfl,rfl,rfl,rfl,rfl,int_eq (by simp),trivial⟩,HSub.refl _,hj3⟩
 ·refine oC rfl (fun hd=>absurd (zt hd) h14) (fun _=>?_)
  refine gav ?_
  exact ⟨pl2.length,_,_,Nat.lt_succ_self _,⟨pp++[q],pl2,kp++[s],kl,d2,snoc hLp,snoc hLk,by simp[hkp],rfl,rfl,rfl,hkn2,by rw[hov2];unfold overF;rw[List.foldl_cons,if_neg (fun h=>h14 (hs.symm.trans h))]⟩,⟨rfl,rfl,rfl,rfl,rfl,rfl,rfl,rfl,rfl,rfl,rfl,rfl,rfl,rfl,int_eq (by simp),trivial⟩,HSub.refl _,hj3⟩
end
end Go.Proofs.YtpbbgkoalnonoaaGreatDoor.RC
namespace Go.Proofs.YtpbbgkoalnonoaaGreatDoor.Cmp
open Go.GL Go.RowKit Go.Stele
set_option maxRecDepth 100000
set_option maxHeartbeats 4000000
theorem goR_iff:∀ (l prev:List (Int×Int)),goR prev l=true ↔ (∀ r∈l,insideR r=true)∧(∀ i (h:i<l.length),(∀ s∈prev,meetsR l[i] s=false)∧∀ k (h2:k<i),meetsR l[i] (l[k]'zo)=false)
 |[],prev=>by simp[goR]
 |r::rest,prev=>by
  rw[goR,Bool.and_eq_true,Bool.and_eq_true,goR_iff rest (prev++[r]),List.all_eq_true]
  constructor
  ·rintro ⟨⟨h1,h2⟩,h3,h4⟩
   refine ⟨fun s hs=>?_,fun i hi=>?_⟩
   ·rcases List.mem_cons.1 hs with rfl|hs
    ·exact h1
    ·exact h3 s hs
   ·cases i with
    |zero=>exact ⟨fun s hs=>by simpa using h2 s hs,fun k hk=>by omega⟩
    |succ i=>
     obtain ⟨h5,h6⟩:=h4 i (by simpa using hi)
     refine ⟨fun s hs=>h5 s (List.mem_append_left _ hs),fun k hk=>?_⟩
     cases k with
     |zero=>exact h5 r (List.mem_append_right _ (List.mem_singleton.2 rfl))
     |succ k=>exact h6 k zo
  ·rintro ⟨h1,h2⟩
   refine ⟨⟨h1 r (List.mem_cons_self ..),fun s hs=>?_⟩,fun s hs=>h1 s (List.mem_cons_of_mem _ hs),fun i hi=>⟨fun s hs=>?_,fun k hk=>?_⟩⟩
   ·have:=(h2 0 (by simp)).1 s hs
    simpa using this
   ·rcases List.mem_append.1 hs with hs|hs
    ·exact (h2 (i+1) (by simpa using hi)).1 s hs
    ·rw[List.mem_singleton.1 hs]
     exact (h2 (i+1) (by simpa using hi)).2 0 zo
   ·exact (h2 (i+1) (by simpa using hi)).2 (k+1) zo
theorem goR_in {l:List (Int×Int)} {i:Nat} (h:i<l.length) (hi:insideR l[i]=false):goR [] l=false:=by
 cases hg:goR [] l with
 |false=>rfl
 |true=>
  have:=((goR_iff l []).1 hg).1 _ (List.getElem_mem h)
  rw[hi] at this
  cases this
theorem goR_meet {l:List (Int×Int)} {i k:Nat} (h:i<l.length) (hk:k<i) (hi:meetsR l[i] (l[k]'zo)=true):goR [] l=false:=by
 cases hg:goR [] l with
 |false=>rfl
 |true=>
  have:=(((goR_iff l []).1 hg).2 i h).2 k hk
  rw[hi] at this
  cases this
attribute [local irreducible] LOps LCode LStep LCalls Go.GL.Pure QThen QBlock RetPost LQ LAny LLate LLateOp LS
section
variable {B0:Nat} {w0:World}
theorem rfits_spec (vars:List Nm) (arrays:List (Nm×Int)) (fs:List FnD) (o:Org) (hv6:vars.length≤2000000) (hf6:fs.length≤2000000) (hl:arrays.length≤2000000) (hsm:∀ f∈fs,SmF f) (hn:∀ f∈fs,f.name.length≤1000∧∀ x∈f.params++f.locals,x.length≤1000)
  (hp:∀ a∈arrays,0<a.2) (ht:(arrays.map (·.2)).sum≤150000) (hsc:(scalarsP vars fs).length≤8000) (o1:I64 o.code) (o2:I64 o.scalars) (o3:I64 o.arrays) :
  LCalls (KC B0 w0) 16 [Chk.encPrG vars arrays fs,orgLV o] [] (Ret (bool (fitsP vars arrays fs o))):=by
 have hal:(arrays.map Chk.encArG).length=arrays.length:=List.length_map _
 have hml:(arrays.map (·.2)).length=arrays.length:=List.length_map _
 have hps:∀ n∈arrays.map (·.2),0<n:=fun n hn=>by
  obtain ⟨a,ha,rfl⟩:=List.mem_map.1 hn
  exact hp a ha
 have hscl:((scalarsP vars fs).map str).length=(scalarsP vars fs).length:=List.length_map _
 have hS:=RC.rscalars_spec (B0:=B0) (w0:=w0) (vars:=vars) (fs:=fs) (.list (arrays.map Chk.encArG)) hv6 hf6 hsm hn
 rw[fits_go]
 unfold Chk.encPrG orgLV
 refine cI Tryz.func16 rfl (n:=126) rfl rfl rfl ?_
 refine gah ?_
 refine oS (S.box rfl fun b2=>?_) rfl
 refine oS (S.box rfl fun b3=>?_) rfl
 refine gab ?_
 refine oL (fun kk ls H'=>∃ (i:Nat),i≤arrays.length∧kk=arrays.length-i∧ls=[(2,ptr b2 0),(3,ptr b3 0),(5,int .i64 (((arrays.map (·.2)).take i).sum)),(6,int .i64 (i:Nat))]∧H'=[(b3,.cells 28 [int .i64 o.code,int .i64 o.scalars,int .i64 o.arrays]),(b2,.cells 26 [.list (vars.map str),.list (arrays.map Chk.encArG),.list (fs.map encFn)])])
  ⟨_,_,_,⟨0,Nat.zero_le _,rfl,rfl,rfl⟩,⟨rfl,rfl,rfl,rfl,trivial⟩,HSub.refl _⟩ ?_
 rintro kk ls H' ⟨i,hi,rfl,rfl,rfl⟩ j hj
 have hsum:=sum_take_le (arrays.map (·.2)) i hps
 refine gaa ?_
 refine oC rfl (fun hc=>?_) (fun hc=>?_)
 ·have hlt:i<arrays.length:=by have:=zt hc;omega
  have hpi:=hp _ (List.getElem_mem hlt)
  have hst:=sum_take (l:=arrays.map (·.2)) (i:=i) zo
  rw[List.getElem_map] at hst
  have hsum2:=sum_take_le (arrays.map (·.2)) (i+1) hps
  generalize hsi:((arrays.map (·.2)).take i).sum=si at hsum hst
  refine gaa ?_
  refine oP (xR (el':=Chk.encArG arrays[i]) (cs:=[_,_]) rfl rfl zo (map_get _ _ _ hlt) rfl rfl) rfl ?_
  refine gaa ?_
  exact ⟨_,_,_,by omega,⟨i+1,by omega,rfl,rfl,rfl⟩,⟨rfl,rfl,int_eq (by rw[hst]),int_eq zo,trivial⟩,HSub.refl _,hj⟩
 have hi':i=arrays.length:=by have:=zf hc;omega
 subst hi'
 rw[←hml,List.take_length] at hsum ⊢
 generalize (arrays.map (·.2)).sum=total at hsum ht ⊢
 generalize (scalarsP vars fs).length=ns at hsc hscl ⊢
 refine gad ?_
 refine LCode.draw (m:=16) rfl [(b3,.cells 28 [int .i64 o.code,int .i64 o.scalars,int .i64 o.arrays]),(b2,.cells 26 [.list (vars.map str),.list (arrays.map Chk.encArG),.list (fs.map encFn)])] ?_
 refine aT 0 rfl rfl (Pure.fieldH rfl) ?_
 refine aT 1 rfl rfl (Pure.loadH (c:=.atom _) rfl zm0 rfl) ?_
 refine aT 2 rfl rfl (Pure.ldHAgg (cs':=[_,_,_]) rfl zm1 rfl rfl) ?_
 refine aT 7 rfl rfl (Pure.fieldH rfl) ?_
 refine aT 8 rfl rfl (Pure.loadH (c:=.atom _) rfl zm0 rfl) ?_
 refine aT 9 rfl rfl (Pure.bld _ (cs:=[_,_]) rfl) ?_
 refine aT 10 rfl rfl (Pure.fieldH rfl) ?_
 refine aT 11 rfl rfl (Pure.loadH (c:=.atom _) rfl zm0 rfl) ?_
 refine aT 12 rfl rfl (Pure.mv (lv:=.atom _) rfl) ?_
 refine aT 13 rfl rfl (Pure.bld _ (cs:=[_,_]) rfl) ?_
 refine LAny.late ?_ zhr
 refine lO 3 (lS (H1:=[]) rfl (.inl rfl) rfl zpr zhr (S.fn [_] rfl hS ?_))
 refine lO 4 (lH rfl rfl (Pure.llen rfl) ?_)
 refine lO 5 (lH rfl rfl (Pure.add rfl rfl zo) ?_)
 refine lO 6 (lH rfl rfl (Pure.bld _ (cs:=[_,_]) rfl) ?_)
 refine lO 14 (lS (H1:=[]) rfl (.inl rfl) rfl zpr zhr (S.lit (es:=[LV.agg [int .i64 o.scalars,int .i64 (3+(((scalarsP vars fs).map str).length:Int))],.agg [int .i64 o.code,int .i64 40000],.agg [int .i64 o.arrays,int .i64 total]]) [_,_,_] rfl (eC rfl rfl (eC rfl rfl (eC rfl rfl eN))) rfl rfl rfl ?_))
 refine lO 15 (lH rfl rfl (Pure.as (lv:=.list _) rfl) ?_)
 refine lD zk ?_
 have e3:(3:Int)+(((scalarsP vars fs).map str).length:Int)=3+(ns:Nat):=by rw[hscl]
 rw[e3]
 generalize hrs:[(o.scalars,(3:Int)+(ns:Nat)),(o.code,(40000:Int)),(o.arrays,total)]=rs
 have hrl:([LV.agg [int .i64 o.scalars,int .i64 (3+(ns:Int))],.agg [int .i64 o.code,int .i64 40000],.agg [int .i64 o.arrays,int .i64 total]]:List LV)=rs.map regLV:=by rw[←hrs];rfl
 rw[hrl]
 have hlr:rs.length=3:=by rw[←hrs];rfl
 have hsz:∀ r∈rs,SmI r.2∧0≤r.2:=by
  rw[←hrs]
  intro r hr
  simp only[List.mem_cons,List.not_mem_nil,or_false] at hr
  unfold SmI
  rcases hr with rfl|rfl|rfl <;> simp only <;> omega
 have hrm:(rs.map regLV).length=rs.length:=List.length_map _
 clear hrl hrs
 refine QThen.normal ?_
 refine LCode.weak zhn ?_
 refine gab ?_
 refine oL (fun kk ls H'=>∃ (i:Nat),i≤3∧kk=3-i∧ls=[(7,.list (rs.map regLV)),(8,int .i64 (i:Nat))]∧H'=[]∧∀ x (h:x<rs.length),x<i→insideR rs[x]=true)
  ⟨_,_,_,⟨0,Nat.zero_le _,rfl,rfl,rfl,fun x h hx=>by omega⟩,⟨rfl,rfl,trivial⟩,HSub.refl _⟩ ?_
 rintro kk ls H' ⟨i,hi,rfl,rfl,rfl,hins⟩ j1 hj1
 refine gab ?_
 refine oC rfl (fun hc=>?_) (fun hc=>?_)
 ·have hlt:i<rs.length:=by have:=zt hc;omega
  have hsi:=hsz _ (List.getElem_mem hlt)
  obtain ⟨⟨a,n⟩,hgr⟩:∃ r,r=rs[i]:=⟨_,rfl⟩
  have hgi:=@goR_in rs i hlt
  rw[←hgr] at hsi hgi
  unfold SmI at hsi
  simp only at hsi
  have hI:insideR (a,n)=decide (0≤a∧a≤262144-n):=rfl
  have hix:(rs.map regLV)[i]? = some (regLV (a,n)):=by rw[hgr];exact map_get _ _ _ hlt
  refine gad ?_
  refine LCode.cut [(7,.list (rs.map regLV)),(8,int .i64 i),(64,bool (!insideR (a,n)))] ?_ (fun j2 hj2=>?_)
  ·refine LCode.quiet zk ?_
   refine gac ?_
   refine LQ.pure (xR (el':=regLV (a,n)) (cs:=[_,_]) rfl rfl zo hix rfl rfl) rfl ?_
   refine gac ?_
   refine LQ.bcase 51 rfl (fun h1=>?_) (fun h1=>?_)
   ·have h1':=zt h1
    refine gac ?_
    exact ⟨⟨rfl,rfl,bool_eq (by rw[hI,decide_eq_false zo];rfl),trivial⟩,rfl,rfl⟩
   ·have h1':=zf h1
    refine gac ?_
    refine LQ.pure (xR (el':=regLV (a,n)) (cs:=[_,_]) rfl rfl zo hix rfl rfl) rfl ?_
    refine gac ?_
    refine LQ.pure (xR (el':=regLV (a,n)) (cs:=[_,_]) rfl rfl zo hix rfl rfl) rfl ?_
    refine gac ?_
    exact ⟨⟨rfl,rfl,bool_eq (by
     rw[hI,←decide_not,decide_eq_decide]
     omega),trivial⟩,rfl,rfl⟩
  refine oC rfl (fun h=>?_) (fun h=>?_)
  ·have h':insideR (a,n)=false:=by simpa using h
   refine gab ?_
   exact retRet (hj2.trans (hj1.trans hj)) (zra rfl) (bool_eq (hgi h').symm)
  ·have h':insideR (a,n)=true:=by simpa using h
   refine gab ?_
   exact ⟨_,_,_,by omega,⟨i+1,by omega,rfl,rfl,rfl,fun x hx hx1=>by
    by_cases he:x=i
    ·subst he
     rw[←hgr]
     exact h'
    ·exact hins x hx zo⟩,⟨rfl,int_eq zo,trivial⟩,HSub.refl _,hj2.trans hj1⟩
 have hi3:i=3:=by have:=zf hc;omega
 subst hi3
 have hin:∀ x (h:x<rs.length),insideR rs[x]=true:=fun x h=>hins x h zo
 clear hins hc
 have inb:∀ r:Int×Int,SmI r.2∧0≤r.2→insideR r=true→0≤r.1∧r.1≤262144∧r.2≤262144:=fun r h1 h2=>by
  have:0≤r.1∧r.1≤262144-r.2:=zt h2
  omega
 refine gab ?_
 refine oL (fun kk ls H'=>∃ (i:Nat),i≤3∧kk=3-i∧ls=[(7,.list (rs.map regLV)),(9,int .i64 (i:Nat))]∧H'=[]∧∀ x (h:x<rs.length),x<i→∀ k (hk:k<x),meetsR rs[x] (rs[k]'zo)=false)
  ⟨_,_,_,⟨0,Nat.zero_le _,rfl,rfl,rfl,fun x h hx=>by omega⟩,⟨rfl,rfl,trivial⟩,HSub.refl _⟩ ?_
 rintro kk ls H' ⟨i,hi,rfl,rfl,rfl,hmt⟩ j2 hj2
 refine gab ?_
 refine oC rfl (fun hc=>?_) (fun hc=>?_)
 rotate_left
 ·have hi3:i=3:=by have:=zf hc;omega
  subst hi3
  refine gab ?_
  exact retRet (hj2.trans (hj1.trans hj)) (zra rfl) (bool_eq ((goR_iff rs []).2 ⟨fun r hr=>by
   obtain ⟨x,hx,rfl⟩:=List.getElem_of_mem hr
   exact hin x hx,fun x hx=>⟨fun s hs=>(List.not_mem_nil hs).elim,fun k hk=>hmt x hx zo k hk⟩⟩).symm)
 have hlt:i<rs.length:=by have:=zt hc;omega
 have hsi:=inb _ (hsz _ (List.getElem_mem hlt)) (hin i hlt)
 have hsj:=(hsz _ (List.getElem_mem hlt)).2
 obtain ⟨⟨a,n⟩,hgr⟩:∃ r,r=rs[i]:=⟨_,rfl⟩
 have hix:(rs.map regLV)[i]? = some (regLV (a,n)):=by rw[hgr];exact map_get _ _ _ hlt
 have hgm:=fun k hk=>@goR_meet rs i k hlt hk
 rw[←hgr] at hsi hsj hgm
 simp only at hsi hsj
 refine gab ?_
 refine oL (fun kk ls H'=>∃ (y:Nat),y≤i∧kk=i-y∧ls=[(7,.list (rs.map regLV)),(9,int .i64 (i:Nat)),(10,int .i64 (y:Nat))]∧H'=[]∧∀ k (hk:k<rs.length),k<y→meetsR (a,n) rs[k]=false)
  ⟨_,_,_,⟨0,Nat.zero_le _,rfl,rfl,rfl,fun x h hx=>by omega⟩,⟨rfl,rfl,rfl,trivial⟩,HSub.refl _⟩ ?_
 rintro kk ls H' ⟨y,hy,rfl,rfl,rfl,hmy⟩ j3 hj3
 refine gab ?_
 refine oC rfl (fun hc=>?_) (fun hc=>?_)
 ·have hly:y<i:=by have:=zt hc;omega
  have hlt2:y<rs.length:=by omega
  have hti:=inb _ (hsz _ (List.getElem_mem hlt2)) (hin y hlt2)
  have htj:=(hsz _ (List.getElem_mem hlt2)).2
  have hgy:=hgm y hly
  obtain ⟨⟨b,m⟩,hgs⟩:∃ r,r=rs[y]:=⟨_,rfl⟩
  have hiy:(rs.map regLV)[y]? = some (regLV (b,m)):=by rw[hgs];exact map_get _ _ _ hlt2
  rw[←hgs] at hti htj hgy
  simp only at hti htj
  have hM:meetsR (a,n) (b,m)=decide (0<n∧0<m∧a<b+m∧b<a+n):=rfl
  refine gad ?_
  refine LCode.cut [(7,.list (rs.map regLV)),(9,int .i64 i),(10,int .i64 y),(125,bool (meetsR (a,n) (b,m)))] ?_ (fun j4 hj4=>?_)
  ·refine LCode.quiet zk ?_
   refine gac ?_
   refine LQ.pure (xR (el':=regLV (a,n)) (cs:=[_,_]) rfl rfl zo hix rfl rfl) rfl ?_
   refine gac ?_
   refine LQ.bcase 80 rfl (fun h1=>?_) (fun h1=>?_)
   rotate_left
   ·have h1':=zf h1
    refine gac ?_
    exact ⟨⟨rfl,rfl,rfl,bool_eq (by rw[hM];symm;exact decide_eq_false zo),trivial⟩,rfl,rfl⟩
   have h1':=zt h1
   refine gac ?_
   refine LQ.pure (xR (el':=regLV (b,m)) (cs:=[_,_]) rfl rfl zo hiy rfl rfl) rfl ?_
   refine gac ?_
   refine LQ.bcase 88 rfl (fun h2=>?_) (fun h2=>?_)
   rotate_left
   ·have h2':=zf h2
    refine gac ?_
    exact ⟨⟨rfl,rfl,rfl,bool_eq (by rw[hM];symm;exact decide_eq_false zo),trivial⟩,rfl,rfl⟩
   have h2':=zt h2
   refine gac ?_
   refine LQ.pure (xR (el':=regLV (a,n)) (cs:=[_,_]) rfl rfl zo hix rfl rfl) rfl ?_
   refine gac ?_
   refine LQ.pure (xR (el':=regLV (b,m)) (cs:=[_,_]) rfl rfl zo hiy rfl rfl) rfl ?_
   refine gac ?_
   refine LQ.pure (xR (el':=regLV (b,m)) (cs:=[_,_]) rfl rfl zo hiy rfl rfl) rfl ?_
   refine gac ?_
   refine LQ.bcase 107 rfl (fun h3=>?_) (fun h3=>?_)
   rotate_left
   ·have h3':=zf h3
    refine gac ?_
    exact ⟨⟨rfl,rfl,rfl,bool_eq (by rw[hM];symm;exact decide_eq_false zo),trivial⟩,rfl,rfl⟩
   have h3':=zt h3
   refine gac ?_
   refine LQ.pure (xR (el':=regLV (b,m)) (cs:=[_,_]) rfl rfl zo hiy rfl rfl) rfl ?_
   refine gac ?_
   refine LQ.pure (xR (el':=regLV (a,n)) (cs:=[_,_]) rfl rfl zo hix rfl rfl) rfl ?_
   refine gac ?_
   refine LQ.pure (xR (el':=regLV (a,n)) (cs:=[_,_]) rfl rfl zo hix rfl rfl) rfl ?_
   refine gac ?_
   exact ⟨⟨rfl,rfl,rfl,bool_eq (by rw[hM,decide_eq_decide];omega),trivial⟩,rfl,rfl⟩
  refine oC rfl (fun h=>?_) (fun h=>?_)
  ·refine gab ?_
   exact retRet (hj4.trans (hj3.trans (hj2.trans (hj1.trans hj)))) (zra rfl) (bool_eq (hgy h).symm)
  ·refine gab ?_
   exact ⟨_,_,_,by omega,⟨y+1,by omega,rfl,rfl,rfl,fun k hk hk1=>by
    by_cases he:k=y
    ·subst he
     rw[←hgs]
     exact h
    ·exact hmy k hk zo⟩,⟨rfl,rfl,int_eq zo,trivial⟩,HSub.refl _,hj4.trans hj3⟩
 ·have hy':y=i:=by have:=zf hc;omega
  subst hy'
  refine gab ?_
  exact ⟨_,_,_,by omega,⟨y+1,by omega,rfl,rfl,rfl,fun x hx hx1 k hk=>by
   by_cases he:x=y
   ·subst he
    rw[←hgr]
    exact hmy k zo hk
   ·exact hmt x hx zo k hk⟩,⟨rfl,int_eq zo,trivial⟩,HSub.refl _,hj3.trans hj2⟩
end
end Go.Proofs.YtpbbgkoalnonoaaGreatDoor.Cmp
