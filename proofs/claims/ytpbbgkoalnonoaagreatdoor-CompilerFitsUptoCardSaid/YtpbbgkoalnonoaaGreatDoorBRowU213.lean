/- Texts joined: RZ1, RZ2, RC10, LawCF. -/
import Derived.Test.YtpbbgkoalnonoaaGreatDoorBRowU26
import Derived.Test.YtpbbgkoalnonoaaGreatDoorBRowU211
import Derived.Test.YtpbbgkoalnonoaaGreatDoorBRowU212
set_option linter.unusedVariables false
set_option linter.unusedSimpArgs false
namespace Go.Proofs.YtpbbgkoalnonoaaGreatDoor.RC
open Go.GL Go.RowKit Go.Stele
set_option maxRecDepth 100000
set_option maxHeartbeats 4000000
attribute [local irreducible] LOps LCode LStep LCalls Go.GL.Pure QThen QBlock RetPost LQ LAny LLate LLateOp LS
section
variable {B0:Nat} {w0:World}
def SomeN (r:LRes) (H:Heap):Prop:=H=[]∧∃ z,r=.ret (int .i64 z)
def NodesH (B0:Nat) (w0:World) (n:Nat):Prop:=∀ x:Ex,ndE x<n→LCalls (KC B0 w0) 43 [encE x] [] SomeN
theorem nodes_spec:∀ n:Nat,n≤100000000→NodesH B0 w0 n
 |0,_=>fun x h=>by omega
 |n+1,hn6=>by
  have ih:=nodes_spec n zo
  intro x hnd
  obtain ⟨op,num,name,args⟩:=x
  rw[ndE] at hnd
  have hal:=ndEs_len args
  rw[encE_mk]
  refine cI Tryz.func43 rfl (n:=29) rfl rfl rfl ?_
  refine gah ?_
  refine oS (S.box rfl fun b1=>?_) rfl
  refine gaa ?_
  refine oP (Pure.quoW rfl rfl (by decide)) rfl ?_
  refine oP (Pure.addW rfl rfl) rfl ?_
  refine gac ?_
  refine oP (Pure.quoW rfl rfl (by decide)) rfl ?_
  refine oP (Pure.addW rfl rfl) rfl ?_
  refine gab ?_
  refine oL (fun kk ls H'=>∃ (pre l1:List Ex) (z:Int),args=pre++l1∧kk=l1.length∧ls=[(3,int .i64 z),(17,.list (args.map encE)),(18,int .i64 ((args.map encE).length:Int)),(19,int .i64 (pre.length:Int))]∧H'=[])
   ⟨_,_,_,⟨[],args,_,rfl,rfl,rfl,rfl⟩,⟨rfl,rfl,rfl,rfl,trivial⟩,HSub.nil _⟩ ?_
  rintro kk ls H' ⟨pre,l1,z,hL,rfl,rfl,rfl⟩ j2 hj2
  have hb:=pre_le hL (show args.length≤100000000 by omega)
  refine gag ?_
  refine oC rfl (fun hc=>?_) (fun hc=>?_)
  ·obtain ⟨a,l2,rfl⟩:=more hL hc
   have ham:=ndEs_part hL
   refine gai ?_
   refine oP (xR (el':=encE a) (cs:=[_,_,_,_]) rfl rfl zo (by rw[hL];exact get_mid encE pre a l2) rfl rfl) rfl ?_
   refine gao ?_
   refine oS (S.alloc fun b5=>?_) rfl
   refine gaa ?_
   refine oS (S.callH (H1:=[]) (F:=[_]) [_] rfl zpr (ih a zo) ?_ (by rintro ch H' ⟨_,nm,h⟩;cases h)) rfl
   rintro lv H' ⟨rfl,z2,h⟩
   cases h
   refine oP (Pure.addW rfl rfl) rfl ?_
   refine gab ?_
   exact ⟨l2.length,_,_,Nat.lt_succ_self _,⟨pre++[a],l2,_,snoc hL,rfl,rfl,rfl⟩,⟨rfl,rfl,rfl,int_eq (by simp),trivial⟩,HSub.nil _,hj2⟩
  clear hc
  refine gab ?_
  refine rR hj2 (zra rfl) zhn ⟨rfl,_,rfl⟩
def SizeH (B0:Nat) (w0:World) (n:Nat):Prop:=∀ l:List Sm,ndSs l<n→LCalls (KC B0 w0) 23 [.list (l.map encS)] [] SomeN
theorem rsize_spec:∀ n:Nat,n≤100000000→SizeH B0 w0 n
 |0,_=>fun x h=>by omega
 |n+1,hn6=>by
  have ih:=rsize_spec n zo
  have hC:NodesH B0 w0 n:=nodes_spec n zo
  intro l hnd
  have hal:=ndSs_len l
  refine cI Tryz.func23 rfl (n:=48) rfl rfl rfl ?_
  refine gab ?_
  refine oL (fun kk ls H'=>∃ (pre l1:List Sm) (z:Int),l=pre++l1∧kk=l1.length∧ls=[(3,int .i64 z),(8,.list (l.map encS)),(9,int .i64 ((l.map encS).length:Int)),(10,int .i64 (pre.length:Int))]∧H'=[])
   ⟨_,_,_,⟨[],l,_,rfl,rfl,rfl,rfl⟩,⟨rfl,rfl,rfl,rfl,trivial⟩,HSub.nil _⟩ ?_
  rintro kk ls HA ⟨pre,l1,z,hL,rfl,rfl,rfl⟩ j hj
  have hb:=pre_le hL (show l.length≤100000000 by omega)
  refine gag ?_
  refine oC rfl (fun hc=>?_) (fun hc=>?_)
  rotate_left
  ·clear hc
   refine gab ?_
   refine rR hj (zra rfl) zhn ⟨rfl,_,rfl⟩
  obtain ⟨a,l2,rfl⟩:=more hL hc
  have ham:=ndSs_part hL
  obtain ⟨kind,name,index,value,thn,els⟩:=a
  rw[ndS] at ham
  have g2:=ndEs_len value
  have g3:=ndEs_len index
  refine gai ?_
  refine oP (xR (el':=.agg [int .i64 kind,str name,.list (index.map encE),.list (value.map encE),.list (thn.map encS),.list (els.map encS)]) (cs:=[_,_,_,_,_,_]) rfl rfl zo (by rw[hL,←encS_mk];exact get_mid encS pre _ l2) rfl rfl) rfl ?_
  refine gac ?_
  refine oS (S.alloc fun b5=>?_) rfl
  refine gac ?_
  refine LCode.midC (A:=Int) (fun z=>[(3,int .i64 z),(5,ptr b5 0),(8,.list (l.map encS)),(9,int .i64 ((l.map encS).length:Int)),(10,int .i64 (pre.length:Int))]) (fun _=>[smH b5 kind name index value thn els]) (fun _=>True) ?_ (fun z5 _ j5 hj5=>?_)
  ·refine LCode.draw (m:=16) rfl [smH b5 kind name index value thn els] ?_
   refine aT 0 rfl rfl (Pure.mv (lv:=.atom _) rfl) ?_
   refine aT 1 rfl rfl (Pure.fieldH rfl) ?_
   refine aT 2 rfl rfl (Pure.loadH (c:=.atom _) rfl zm0 rfl) ?_
   refine aT 3 rfl rfl (Pure.slen rfl) ?_
   refine aT 6 rfl rfl (Pure.fieldH rfl) ?_
   refine aT 7 rfl rfl (Pure.loadH (c:=.list _) rfl zm0 rfl) ?_
   refine aT 10 rfl rfl (Pure.fieldH rfl) ?_
   refine aT 11 rfl rfl (Pure.loadH (c:=.list _) rfl zm0 rfl) ?_
   refine aT 4 rfl rfl (Pure.quoW rfl rfl (by decide)) ?_
   refine aT 5 rfl rfl (Pure.addW rfl rfl) ?_
   refine LAny.late ?_ zhr
   refine zl1 (i:=8) zk ?_
   refine lS (H1:=[]) rfl (.inl rfl) rfl zpr zhr (S.callH (H1:=[]) (F:=[]) [_] rfl zpr (ih thn zo) ?_ (by rintro ch H' ⟨_,nm,h⟩;cases h))
   rintro lv H' ⟨rfl,z1,h⟩
   cases h
   refine LLate.two (i:=9) (j:=12) zk ?_ ?_
   ·refine lH rfl rfl (Pure.addW rfl rfl) ?_
    refine zl1 (i:=12) zk ?_
    refine lS (H1:=[]) rfl (.inl rfl) rfl zpr zhr (S.callH (H1:=[]) (F:=[]) [_] rfl zpr (ih els zo) ?_ (by rintro ch H' ⟨_,nm,h⟩;cases h))
    rintro lv H' ⟨rfl,z2,h⟩
    cases h
    refine zl1 (i:=13) zk ?_
    refine lH rfl rfl (Pure.addW rfl rfl) ?_
    refine zl1 (i:=14) zk ?_
    refine lH rfl rfl (Pure.addW rfl rfl) ?_
    refine zl1 (i:=15) zk ?_
    refine lH rfl rfl (Pure.as (lv:=.atom _) rfl) ?_
    refine lD zk ?_
    refine QThen.normal ?_
    exact ⟨_,trivial,⟨rfl,rfl,rfl,rfl,rfl,trivial⟩,HSub.refl _,rfl⟩
   ·refine lS (H1:=[]) rfl (.inl rfl) rfl zpr zhr (S.callH (H1:=[]) (F:=[]) [_] rfl zpr (ih els zo) ?_ (by rintro ch H' ⟨_,nm,h⟩;cases h))
    rintro lv H' ⟨rfl,z2,h⟩
    cases h
    refine zl1 (i:=9) zk ?_
    refine lH rfl rfl (Pure.addW rfl rfl) ?_
    refine zl1 (i:=13) zk ?_
    refine lH rfl rfl (Pure.addW rfl rfl) ?_
    refine zl1 (i:=14) zk ?_
    refine lH rfl rfl (Pure.addW rfl rfl) ?_
    refine zl1 (i:=15) zk ?_
    refine lH rfl rfl (Pure.as (lv:=.atom _) rfl) ?_
    refine lD zk ?_
    refine QThen.normal ?_
    exact ⟨_,trivial,⟨rfl,rfl,rfl,rfl,rfl,trivial⟩,HSub.refl _,rfl⟩
  refine gad ?_
  refine LCode.draw (m:=9) rfl [smH b5 kind name index value thn els] ?_
  refine aT 1 rfl rfl (Pure.fieldH rfl) ?_
  refine aT 2 rfl rfl (Pure.loadH (c:=.list _) rfl zm0 rfl) ?_
  refine aT 4 rfl rfl (Pure.fieldH rfl) ?_
  refine aT 5 rfl rfl (Pure.loadH (c:=.list _) rfl zm0 rfl) ?_
  refine aT 8 rfl rfl (Pure.mv (lv:=.atom _) rfl) ?_
  refine LAny.late ?_ zhp
  refine lO 0 (lS (H1:=[]) rfl (.inl rfl) rfl zpr zhp (S.litA (es:=[]) [] rfl eN rfl rfl rfl fun b7=>?_))
  refine lO 3 (lS (H1:=[(b7,.row 0)]) rfl (.inl rfl) rfl zpr zhp (S.acc (F:=[]) rfl Acc.row rfl (encE_len _) (encE_ok _) (by simp;omega) fun v1 H1 h1=>?_))
  refine lO 6 (lS (H1:=H1) rfl (.inl rfl) rfl zpr zhp (S.acc (F:=[]) rfl h1 rfl (encE_len _) (encE_ok _) (by simp;omega) fun v2 H2 h2=>?_))
  have e2:([]++value.map encE++index.map encE:List LV)=(value++index).map encE:=by simp
  rw[e2] at h2
  refine lO 7 (lH rfl rfl (Pure.llen (h2.elems)) ?_)
  refine lD zk ?_
  refine gad ?_
  refine LCode.sub (d:=35) rfl h2.sub ?_
  refine LCode.weak (H':=[smH b5 kind name index value thn els]) ⟨H2,List.perm_append_comm⟩ ?_
  refine oL (fun kk ls H'=>∃ (pre2 l3:List Ex) (z:Int),value++index=pre2++l3∧kk=l3.length∧ls=[(3,int .i64 z),(8,.list (l.map encS)),(9,int .i64 ((l.map encS).length:Int)),(10,int .i64 (pre.length:Int)),(35,.list ((value++index).map encE)),(36,int .i64 (((value++index).map encE).length:Int)),(37,int .i64 (pre2.length:Int))]∧H'=[])
   ⟨_,_,_,⟨[],value++index,_,rfl,rfl,rfl,rfl⟩,⟨rfl,rfl,rfl,rfl,rfl,rfl,rfl,trivial⟩,HSub.nil _⟩ ?_
  rintro kk ls H' ⟨pre2,l3,z3,hL2,rfl,rfl,rfl⟩ j2 hj2
  have hb2:=pre_le hL2 (show (value++index).length≤100000000 by rw[List.length_append];omega)
  refine gag ?_
  refine oC rfl (fun hc2=>?_) (fun hc2=>?_)
  ·obtain ⟨a,l4,rfl⟩:=more hL2 hc2
   have ham2:=ndEs_part hL2
   rw[ndEs_app] at ham2
   refine gai ?_
   refine oP (xR (el':=encE a) (cs:=[_,_,_,_]) rfl rfl zo (by rw[hL2];exact get_mid encE pre2 a l4) rfl rfl) rfl ?_
   refine gao ?_
   refine oS (S.alloc fun b7=>?_) rfl
   refine gaa ?_
   refine oS (S.callH (H1:=[]) (F:=[_]) [_] rfl zpr (hC a zo) ?_ (by rintro ch H' ⟨_,nm,h⟩;cases h)) rfl
   rintro lv H' ⟨rfl,z4,h⟩
   cases h
   refine oP (Pure.addW rfl rfl) rfl ?_
   refine gab ?_
   exact ⟨l4.length,_,_,Nat.lt_succ_self _,⟨pre2++[a],l4,_,snoc hL2,rfl,rfl,rfl⟩,⟨rfl,rfl,rfl,rfl,rfl,rfl,int_eq (by simp),trivial⟩,HSub.nil _,hj2⟩
  clear hc2
  refine gab ?_
  exact ⟨l2.length,_,_,Nat.lt_succ_self _,⟨pre++[Sm.mk kind name index value thn els],l2,_,snoc hL,rfl,rfl,rfl⟩,⟨rfl,rfl,rfl,int_eq (by simp),trivial⟩,HSub.nil _,hj2.trans (hj5.trans hj)⟩
end
end Go.Proofs.YtpbbgkoalnonoaaGreatDoor.RC
namespace Go.Proofs.YtpbbgkoalnonoaaGreatDoor.RC
open Go.GL Go.RowKit Go.Stele
open Go.Proofs.YtpbbgkoalnonoaaGreatDoor.Chk (encPrG encArG)
set_option maxRecDepth 100000
set_option maxHeartbeats 4000000
attribute [local irreducible] LOps LCode LStep LCalls Go.GL.Pure QThen QBlock RetPost LQ LAny LLate LLateOp LS
section
variable {B0:Nat} {w0:World}
theorem rsizeP_spec (vars:List Nm) (arrays:List (Nm×Int)) (fs:List FnD) (hv6:vars.length≤2000000) (ha6:arrays.length≤2000000) (hf6:fs.length≤2000000) (hsm:∀ f∈fs,SmF f) (hbd:∀ f∈fs,ndSs f.body<100000000) :
  LCalls (KC B0 w0) 9 [encPrG vars arrays fs] [] SomeN:=by
 unfold encPrG
 refine cI Tryz.func9 rfl (n:=92) rfl rfl rfl ?_
 refine gah ?_
 refine oS (S.box rfl fun b1=>?_) rfl
 refine gab ?_
 refine oP (Pure.addW rfl rfl) rfl ?_
 refine gab ?_
 refine oL (fun kk ls H'=>∃ (pre l1:List Nm) (z:Int),vars=pre++l1∧kk=l1.length∧ls=[(1,ptr b1 0),(3,int .i64 z),(20,.list (vars.map str)),(21,int .i64 ((vars.map str).length:Int)),(22,int .i64 (pre.length:Int))]∧H'=[(b1,.cells 26 [.list (vars.map str),.list (arrays.map encArG),.list (fs.map encFn)])])
  ⟨_,_,_,⟨[],vars,_,rfl,rfl,rfl,rfl⟩,⟨rfl,rfl,rfl,rfl,rfl,trivial⟩,HSub.refl _⟩ ?_
 rintro kk ls H' ⟨pre,l1,z,hL,rfl,rfl,rfl⟩ j hj
 have hb:=pre_le hL hv6
 refine gag ?_
 refine oC rfl (fun hc=>?_) (fun hc=>?_)
 ·obtain ⟨a,l2,rfl⟩:=more hL hc
  refine gai ?_
  refine oP (xR (el':=str a) (cs:=[_]) rfl rfl zo (by rw[hL];exact get_mid str pre a l2) rfl rfl) rfl ?_
  refine gaa ?_
  refine oP (Pure.quoW rfl rfl (by decide)) rfl ?_
  refine oP (Pure.addW rfl rfl) rfl ?_
  refine gab ?_
  exact ⟨l2.length,_,_,Nat.lt_succ_self _,⟨pre++[a],l2,_,snoc hL,rfl,rfl,rfl⟩,⟨rfl,rfl,rfl,rfl,int_eq (by simp),trivial⟩,HSub.refl _,hj⟩
 clear hc
 refine gab ?_
 refine oL (fun kk ls H'=>∃ (pre l1:List (Nm×Int)) (z:Int),arrays=pre++l1∧kk=l1.length∧ls=[(1,ptr b1 0),(3,int .i64 z),(33,.list (arrays.map encArG)),(34,int .i64 ((arrays.map encArG).length:Int)),(35,int .i64 (pre.length:Int))]∧H'=[(b1,.cells 26 [.list (vars.map str),.list (arrays.map encArG),.list (fs.map encFn)])])
  ⟨_,_,_,⟨[],arrays,_,rfl,rfl,rfl,rfl⟩,⟨rfl,rfl,rfl,rfl,rfl,trivial⟩,HSub.refl _⟩ ?_
 rintro kk ls H' ⟨pre3,l1,z3,hL3,rfl,rfl,rfl⟩ j3 hj3
 have hb3:=pre_le hL3 ha6
 refine gag ?_
 refine oC rfl (fun hc=>?_) (fun hc=>?_)
 ·obtain ⟨a,l2,rfl⟩:=more hL3 hc
  refine gai ?_
  refine oP (xR (el':=encArG a) (cs:=[_,_]) rfl rfl zo (by rw[hL3];exact get_mid encArG pre3 a l2) rfl rfl) rfl ?_
  refine gac ?_
  refine oS (S.alloc fun b5=>?_) rfl
  refine gaa ?_
  refine oP (Pure.quoW rfl rfl (by decide)) rfl ?_
  refine oP (Pure.addW rfl rfl) rfl ?_
  refine gab ?_
  exact ⟨l2.length,_,_,Nat.lt_succ_self _,⟨pre3++[a],l2,_,snoc hL3,rfl,rfl,rfl⟩,⟨rfl,rfl,rfl,rfl,int_eq (by simp),trivial⟩,zhD zhr,hj3⟩
 clear hc
 refine gab ?_
 refine oL (fun kk ls H'=>∃ (pre l1:List FnD) (z:Int),fs=pre++l1∧kk=l1.length∧ls=[(3,int .i64 z),(47,.list (fs.map encFn)),(48,int .i64 ((fs.map encFn).length:Int)),(49,int .i64 (pre.length:Int))]∧H'=[])
  ⟨_,_,_,⟨[],fs,_,rfl,rfl,rfl,rfl⟩,⟨rfl,rfl,rfl,rfl,trivial⟩,HSub.nil _⟩ ?_
 rintro kk ls H' ⟨pre4,l1,z4,hL4,rfl,rfl,rfl⟩ j4 hj4
 have hb4:=pre_le hL4 hf6
 refine gag ?_
 refine oC rfl (fun hc=>?_) (fun hc=>?_)
 rotate_left
 ·clear hc
  refine gab ?_
  refine rR (hj4.trans (hj3.trans hj)) (zra rfl) zhn ⟨rfl,_,rfl⟩
 obtain ⟨f,l2,rfl⟩:=more hL4 hc
 have hfm:f∈fs:=by rw[hL4];exact List.mem_append_right _ (List.mem_cons_self ..)
 have hp6:f.params.length≤2000000:=(hsm f hfm).params
 have hl6:f.locals.length≤2000000:=(hsm f hfm).locals
 have hbz:=rsize_spec (B0:=B0) (w0:=w0) 100000000 (Nat.le_refl _) f.body (hbd f hfm)
 refine gai ?_
 refine oP (xR (el':=encFn f) (cs:=[_,_,_,_]) rfl rfl zo (by rw[hL4];exact get_mid encFn pre4 f l2) rfl rfl) rfl ?_
 refine gao ?_
 refine oS (S.alloc fun b7=>?_) rfl
 refine gac ?_
 refine LCode.draw (m:=20) rfl [fnH b7 f] ?_
 refine aT 0 rfl rfl (Pure.mv (lv:=.atom _) rfl) ?_
 refine aT 1 rfl rfl (Pure.fieldH rfl) ?_
 refine aT 2 rfl rfl (Pure.loadH (c:=.atom _) rfl zm0 rfl) ?_
 refine aT 3 rfl rfl (Pure.slen rfl) ?_
 refine aT 4 rfl rfl (Pure.quoW rfl rfl (by decide)) ?_
 refine aT 5 rfl rfl (Pure.addW rfl rfl) ?_
 refine aT 6 rfl rfl (Pure.fieldH rfl) ?_
 refine aT 7 rfl rfl (Pure.loadH (c:=.list _) rfl zm0 rfl) ?_
 refine aT 8 rfl rfl (Pure.llen rfl) ?_
 refine aT 9 rfl rfl (Pure.addW rfl rfl) ?_
 refine aT 10 rfl rfl (Pure.fieldH rfl) ?_
 refine aT 11 rfl rfl (Pure.loadH (c:=.list _) rfl zm0 rfl) ?_
 refine aT 12 rfl rfl (Pure.llen rfl) ?_
 refine aT 13 rfl rfl (Pure.addW rfl rfl) ?_
 refine aT 14 rfl rfl (Pure.fieldH rfl) ?_
 refine aT 15 rfl rfl (Pure.loadH (c:=.list _) rfl zm0 rfl) ?_
 refine LAny.late ?_ zhr
 refine lO 16 (lS (H1:=[]) rfl (.inl rfl) rfl zpr zhr (S.callH (H1:=[]) (F:=[]) [_] rfl zpr hbz ?_ (by rintro ch H' ⟨_,nm,h⟩;cases h)))
 rintro lv H' ⟨rfl,z1,h⟩
 cases h
 refine lO 17 (lH rfl rfl (Pure.addW rfl rfl) ?_)
 refine lO 18 (lH rfl rfl (Pure.addW rfl rfl) ?_)
 refine lO 19 (lH rfl rfl (Pure.as (lv:=.atom _) rfl) ?_)
 refine lD zk ?_
 refine gad ?_
 refine LCode.draw (m:=9) rfl [fnH b7 f] ?_
 refine aT 1 rfl rfl (Pure.fieldH rfl) ?_
 refine aT 2 rfl rfl (Pure.loadH (c:=.list _) rfl zm0 rfl) ?_
 refine aT 4 rfl rfl (Pure.fieldH rfl) ?_
 refine aT 5 rfl rfl (Pure.loadH (c:=.list _) rfl zm0 rfl) ?_
 refine aT 8 rfl rfl (Pure.mv (lv:=.atom _) rfl) ?_
 refine LAny.late ?_ zhp
 refine lO 0 (lS (H1:=[]) rfl (.inl rfl) rfl zpr zhp (S.litA (es:=[]) [] rfl eN rfl rfl rfl fun b9=>?_))
 refine lO 3 (lS (H1:=[(b9,.row 0)]) rfl (.inl rfl) rfl zpr zhp (S.acc (F:=[]) rfl Acc.row rfl (strs_len _) (strs_ok _) (by simp;omega) fun v1 H1 h1=>?_))
 refine lO 6 (lS (H1:=H1) rfl (.inl rfl) rfl zpr zhp (S.acc (F:=[]) rfl h1 rfl (strs_len _) (strs_ok _) (by simp;omega) fun v2 H2 h2=>?_))
 have e2:([]++f.params.map str++f.locals.map str:List LV)=(f.params++f.locals).map str:=by simp
 rw[e2] at h2
 refine lO 7 (lH rfl rfl (Pure.llen (h2.elems)) ?_)
 refine lD zk ?_
 refine gad ?_
 refine LCode.sub (d:=78) rfl h2.sub ?_
 refine LCode.weak (H':=[]) zhn ?_
 refine oL (fun kk ls H'=>∃ (pre l1:List Nm) (z:Int),f.params++f.locals=pre++l1∧kk=l1.length∧ls=[(3,int .i64 z),(47,.list (fs.map encFn)),(48,int .i64 ((fs.map encFn).length:Int)),(49,int .i64 (pre4.length:Int)),(78,.list ((f.params++f.locals).map str)),(79,int .i64 (((f.params++f.locals).map str).length:Int)),(80,int .i64 (pre.length:Int))]∧H'=[])
  ⟨_,_,_,⟨[],f.params++f.locals,_,rfl,rfl,rfl,rfl⟩,⟨rfl,rfl,rfl,rfl,rfl,rfl,rfl,trivial⟩,HSub.nil _⟩ ?_
 rintro kk ls H' ⟨pre5,l5,z5,hL5,rfl,rfl,rfl⟩ j5 hj5
 have hb5:=pre_le hL5 (show (f.params++f.locals).length≤4000000 by rw[List.length_append];omega)
 refine gag ?_
 refine oC rfl (fun hd=>?_) (fun hd=>?_)
 ·obtain ⟨a,l6,rfl⟩:=more hL5 hd
  refine gai ?_
  refine oP (xR (el':=str a) (cs:=[_]) rfl rfl zo (by rw[hL5];exact get_mid str pre5 a l6) rfl rfl) rfl ?_
  refine gaa ?_
  refine oP (Pure.quoW rfl rfl (by decide)) rfl ?_
  refine oP (Pure.addW rfl rfl) rfl ?_
  refine gab ?_
  exact ⟨l6.length,_,_,Nat.lt_succ_self _,⟨pre5++[a],l6,_,snoc hL5,rfl,rfl,rfl⟩,⟨rfl,rfl,rfl,rfl,rfl,rfl,int_eq (by simp),trivial⟩,HSub.nil _,hj5⟩
 clear hd
 refine gab ?_
 exact ⟨l2.length,_,_,Nat.lt_succ_self _,⟨pre4++[f],l2,_,snoc hL4,rfl,rfl,rfl⟩,⟨rfl,rfl,rfl,int_eq (by simp),trivial⟩,HSub.nil _,hj5.trans hj4⟩
end
end Go.Proofs.YtpbbgkoalnonoaaGreatDoor.RC
namespace Go.Proofs.YtpbbgkoalnonoaaGreatDoor.RC
open Go.GL Go.RowKit Go.Stele
open Go.Proofs.YtpbbgkoalnonoaaGreatDoor.Chk (encArG encPrG freshE_zero isNm_short ndFs_append errFs_zero errF_names)
set_option maxRecDepth 100000
set_option maxHeartbeats 4000000
@[reducible] def pgmH (b:Nat) (vars:List Nm) (arrays:List (Nm×Int)) (fs:List FnD):Nat×LObj:=prH b vars (.list (arrays.map encArG)) fs
def PostC (e:Int) (r:LRes) (H:Heap):Prop:=H=[]∧∃ nm,r=.ret (.tuple [str nm,int .i64 e])
section
variable {C:Ctx} {n:Nat} {e:Env} {H:Heap}
theorem retC {rs:List ResultVar} {vs:List LV} {nm:Nm} {er:Int} (hd:e.ds=[]) (h:AllRes C n e H rs vs) (hv:resLV vs=.tuple [str nm,int .i64 er]):RetPost C n rs (PostC er) .ret e H:=
 rR hd h zhn ⟨rfl,nm,by rw[hv]⟩
end
theorem sums_len (vars arrays later:List Nm) (fs:List FnD):(sumFs vars arrays later [] fs).length=fs.length:=by
 have:=congrArg List.length (sumFs_names vars arrays later fs [])
 simpa using this
theorem last_ix {A B:Type} (g:A→B) {l:List A} {x:A} {n:Nat} (h:l.getLast? = some x) (hn:l.length=n):(l.map g)[((n:Int)-1).toNat]? = some (g x):=by
 rw[List.getLast?_eq_getElem?] at h
 subst hn
 rw[List.getElem?_map,show ((l.length:Int)-1).toNat=l.length-1 by omega,h]
 rfl
attribute [local irreducible] LOps LCode LStep LCalls Go.GL.Pure QThen QBlock RetPost LQ LAny LLate LLateOp LS
section
variable {B0:Nat} {w0:World}
theorem rcheck_spec (vars:List Nm) (arrays:List (Nm×Int)) (fs:List FnD) (hv6:vars.length≤2000000) (ha6:arrays.length≤2000000) (har:∀ a∈arrays,-9223372036854775808≤a.2∧a.2<9223372036854775808) (hnd:ndFs fs≤2000000) :
  LCalls (KC B0 w0) 15 [encPrG vars arrays fs] [] (PostC (checkP vars arrays fs)):=by
 have hfl:=ndFs_len fs
 rw[←refCheck_eq]
 generalize hE:refCheck vars arrays fs=E
 unfold refCheck at hE
 unfold encPrG
 refine cI Tryz.func15 rfl (n:=199) rfl rfl rfl ?_
 refine gah ?_
 refine oS (S.box rfl fun b1=>?_) rfl
 refine gaj ?_
 refine oS (S.litA (es:=[]) [] rfl eN rfl rfl rfl fun b4=>?_) rfl
 refine oS (S.litA (es:=[]) [] rfl eN rfl rfl rfl fun b5=>?_) rfl
 refine gaa ?_
 refine oL (fun k ls H'=>∃ (pre l1:List (Nm×Int)) (v4:LV) (H4:Heap),arrays=pre++l1∧k=l1.length∧ls=[(1,ptr b1 0),(4,v4),(5,.app b5 0 1 []),(28,.list (arrays.map encArG)),(29,int .i64 ((arrays.map encArG).length:Int)),(30,int .i64 (pre.length:Int))] ∧
   H'=pgmH b1 vars arrays fs::(b5,.row 0)::H4∧GL.Acc 1 v4 ((pre.map (·.1)).map str) H4 [])
  ⟨_,_,_,⟨[],arrays,.app b4 0 1 [],[(b4,.row 0)],rfl,rfl,rfl,rfl,Acc.row⟩,⟨rfl,rfl,rfl,rfl,rfl,rfl,trivial⟩,⟨[],by simpa using (List.perm_append_comm (l₁:=[_,_]) (l₂:=[_]))⟩⟩ ?_
 rintro k ls H' ⟨pre,l1,v4,H4,hL,rfl,rfl,rfl,hacc4⟩ j hj
 have hb:=pre_le hL ha6
 refine gag ?_
 refine oC rfl (fun hc=>?_) (fun hc=>?_)
 ·obtain ⟨a,l2,rfl⟩:=more hL hc
  refine gai ?_
  refine oP (xR (el':=encArG a) (cs:=[_,_]) rfl rfl zo (by rw[hL];exact get_mid encArG pre a l2) rfl rfl) rfl ?_
  refine gac ?_
  refine oS (S.alloc fun b7=>?_) rfl
  refine gaa ?_
  refine oP (Pure.mv (lv:=v4) rfl) rfl ?_
  refine gad ?_
  refine oS (S.lit (es:=[a.1].map str) [_] rfl (eC rfl rfl eN) rfl rfl rfl ?_) rfl
  refine oS (S.accF (A:=[_,_,_]) (H1:=H4) (List.perm_append_comm (l₁:=[_,_,_])) rfl hacc4 rfl (strs_len _) (strs_ok _) (by simp;omega) fun v6 H6 hacc6=>?_) rfl
  refine oP (Pure.as (lv:=v6) rfl) rfl ?_
  refine gan ?_
  exact ⟨l2.length,_,_,Nat.lt_succ_self _,⟨pre++[a],l2,v6,H6,snoc hL,rfl,rfl,rfl,by rw[List.map_append,List.map_append];exact hacc6⟩,⟨rfl,rfl,rfl,rfl,rfl,int_eq (by simp),trivial⟩,zhD zhr,hj⟩
 obtain rfl:=none_left hL hc
 rw[List.append_nil] at hL
 rw[←hL] at hacc4
 have harl:(arrays.map (·.1)).length=arrays.length:=List.length_map _
 generalize hA:arrays.map (·.1)=A at hacc4 hE harl
 refine gad ?_
 refine LCode.sub (d:=4) rfl hacc4.sub ?_
 refine LCode.weak (H':=[pgmH b1 vars arrays fs,(b5,.row 0)]) ⟨H4,List.Perm.refl _⟩ ?_
 refine gab ?_
 refine oL (fun k ls H'=>∃ (pre l1:List FnD) (v5:LV) (H5:Heap),fs=pre++l1∧k=l1.length∧ls=[(1,ptr b1 0),(4,.list (A.map str)),(5,v5),(41,.list (fs.map encFn)),(42,int .i64 ((fs.map encFn).length:Int)),(43,int .i64 (pre.length:Int))] ∧
   H'=pgmH b1 vars arrays fs::H5∧GL.Acc 1 v5 ((pre.map (·.name)).map str) H5 [])
  ⟨_,_,_,⟨[],fs,.app b5 0 1 [],[(b5,.row 0)],rfl,rfl,rfl,rfl,Acc.row⟩,⟨rfl,rfl,rfl,rfl,rfl,rfl,trivial⟩,HSub.refl _⟩ ?_
 rintro k ls H' ⟨pre2,l1,v5,H5,hL2,rfl,rfl,rfl,hacc5⟩ j2 hj2
 have hb2:=pre_le hL2 (show fs.length≤2000000 by omega)
 refine gag ?_
 refine oC rfl (fun hc=>?_) (fun hc=>?_)
 ·obtain ⟨a,l2,rfl⟩:=more hL2 hc
  refine gai ?_
  refine oP (xR (el':=encFn a) (cs:=[_,_,_,_]) rfl rfl zo (by rw[hL2];exact get_mid encFn pre2 a l2) rfl rfl) rfl ?_
  refine gao ?_
  refine oS (S.alloc fun b9=>?_) rfl
  refine gaa ?_
  refine oP (Pure.mv (lv:=v5) rfl) rfl ?_
  refine gad ?_
  refine oS (S.lit (es:=[a.name].map str) [_] rfl (eC rfl rfl eN) rfl rfl rfl ?_) rfl
  refine oS (S.accF (A:=[_,_]) (H1:=H5) (List.perm_append_comm (l₁:=[_,_])) rfl hacc5 rfl (strs_len _) (strs_ok _) (by simp;omega) fun v6 H6 hacc6=>?_) rfl
  refine oP (Pure.as (lv:=v6) rfl) rfl ?_
  refine gan ?_
  exact ⟨l2.length,_,_,Nat.lt_succ_self _,⟨pre2++[a],l2,v6,H6,snoc hL2,rfl,rfl,rfl,by rw[List.map_append,List.map_append];exact hacc6⟩,⟨rfl,rfl,rfl,rfl,rfl,int_eq (by simp),trivial⟩,zhD zhr,hj2⟩
 obtain rfl:=none_left hL2 hc
 rw[List.append_nil] at hL2
 rw[←hL2] at hacc5
 have hfnl:(fs.map (·.name)).length=fs.length:=List.length_map _
 have hdist0:=fun h=>dist_of (vars:=vars) (arrays:=A) (fs:=fs) h
 have hnames0:∀ h:freshE [] (vars++A++fs.map (·.name))=0,∀ f∈fs,f.name.length≤1000:=fun h f hf=>isNm_short ((freshE_zero _ _ h).2.2 f.name (List.mem_append_right _ (List.mem_map_of_mem hf)))
 have hMeas:=fun (h1:freshE [] (vars++A++fs.map (·.name))=0) h2=>Measure_spec (B0:=B0) (w0:=w0) (vars:=vars) (arrays:=A) (fs:=fs) (.list (arrays.map encArG)) hnd (hdist0 h1) h2
 have hslen:=sums_len vars A (fs.map (·.name)) fs
 have hlens:((sumFs vars A (fs.map (·.name)) [] fs).map (·.name))=fs.map (·.name):=by rw[sumFs_names];rfl
 generalize hF:fs.map (·.name)=F at hacc5 hE hfnl hdist0 hnames0 hMeas hslen hlens
 refine gad ?_
 refine LCode.sub (d:=5) rfl hacc5.sub ?_
 refine LCode.weak (H':=[pgmH b1 vars arrays fs]) ⟨H5,List.Perm.refl _⟩ ?_
 refine gah ?_
 refine oS (S.litA (es:=[]) [] rfl eN rfl rfl rfl fun b6=>?_) rfl
 refine gac ?_
 refine oS (S.accF (A:=[_]) (H1:=[(b6,.row 0)]) zpr rfl Acc.row rfl (strs_len _) (strs_ok _) (by simp;omega) fun v1 H1 h1=>?_) rfl
 refine gad ?_
 refine oS (S.accF (A:=[_]) (H1:=H1) (List.perm_append_comm (l₁:=[_])) rfl h1 rfl (strs_len _) (strs_ok _) (by simp;omega) fun v2 H2 h2=>?_) rfl
 refine gad ?_
 refine oS (S.accF (A:=[_]) (H1:=H2) (List.perm_append_comm (l₁:=[_])) rfl h2 rfl (strs_len _) (strs_ok _) (by simp;omega) fun v3 H3 h3=>?_) rfl
 have e3:([]++vars.map str++A.map str++F.map str:List LV)=(vars++A++F).map str:=by simp
 rw[e3] at h3
 refine LOps.sub 61 rfl h3.sub ?_
 refine LOps.weak (H':=[pgmH b1 vars arrays fs]) ⟨H3,List.Perm.refl _⟩ ?_
 have hfr:LCalls (KC B0 w0) 35 [nilSlice,.list ((vars++A++F).map str)] [] (PostF [] (vars++A++F)):=LCalls.argsSub (bs:=[.list (([]:List Nm).map str),.list ((vars++A++F).map str)]) ⟨LV.Sub.nil,LV.Sub.refl _,trivial⟩ (fresh_spec [] _ (Nat.zero_le _) (by rw[List.length_append,List.length_append];omega))
 refine oS (S.callH (H1:=[]) (F:=[_]) [_,_] rfl zpr hfr ?_ (by
  rintro ch H' ⟨rfl,nm,f1,f2⟩
  by_cases h0:freshE [] (vars++A++F)=0
  ·cases f1 h0
  ·cases f2 h0)) rfl
 rintro lv H' ⟨rfl,nm,f1,f2⟩
 by_cases h0:freshE [] (vars++A++F)=0
 rotate_left
 ·cases f2 h0
  have hE':freshE [] (vars++A++F)=E:=by rw[←hE];exact (Chk.orE_ne h0).symm
  refine gac ?_
  refine oS (S.alloc fun b11=>?_) rfl
  refine gaa ?_
  refine oC rfl (fun _=>?_) (fun hd=>?_)
  rotate_left
  ·have h2:(!decide (freshE [] (vars++A++F)=0))=false:=hd
   simp at h2
   exact absurd h2 (by simpa using h0)
  refine gad ?_
  refine LCode.quiet zk ?_
  refine gac ?_
  exact retC (nm:=nm) (hj2.trans hj) (rC (zrt rfl) (zra rfl)) (by rw[hE'];rfl)
 have e0:=f1 h0
 rw[List.nil_append] at e0
 cases e0
 rw[h0] at hE
 replace hE:orE (sizesE 0 (arrays.map (·.2))) (orE (errFs vars A F [] fs) (mainE vars fs (refFs vars A F [] fs)))=E:=hE
 refine gac ?_
 refine oS (S.alloc fun b11=>?_) rfl
 refine gaa ?_
 refine oC rfl (fun hd=>by cases hd) (fun _=>?_)
 refine gaa ?_
 refine oL (fun k ls H'=>∃ (pre l1:List (Nm×Int)) (T:Int),arrays=pre++l1∧k=l1.length∧ls=[(1,ptr b1 0),(4,.list (A.map str)),(5,.list (F.map str)),(10,.list ((vars++A++F).map str)),(12,int .i64 T),(73,.list (arrays.map encArG)),(74,int .i64 ((arrays.map encArG).length:Int)),(75,int .i64 (pre.length:Int))] ∧
   H'=[pgmH b1 vars arrays fs]∧0≤T∧T≤150000∧orE (sizesE T (l1.map (·.2))) (orE (errFs vars A F [] fs) (mainE vars fs (refFs vars A F [] fs)))=E)
  ⟨_,_,_,⟨[],arrays,0,rfl,rfl,rfl,rfl,by omega,by omega,hE⟩,⟨rfl,rfl,rfl,rfl,rfl,rfl,rfl,rfl,trivial⟩,zhD zhr⟩ ?_
 rintro k ls H' ⟨pre3,l1,T,hL3,rfl,rfl,rfl,hT0,hT1,hI⟩ j3 hj3
 have hb3:=pre_le hL3 ha6
 have hds:=hj3.trans (hj2.trans hj)
 refine gag ?_
 refine oC rfl (fun hc=>?_) (fun hc=>?_)
 ·obtain ⟨a,l2,rfl⟩:=more hL3 hc
  obtain ⟨ar1,ar2⟩:=har a (by rw[hL3];simp)
  rw[List.map_cons,sizesE] at hI
  refine gai ?_
  refine oP (xR (el':=encArG a) (cs:=[_,_]) rfl rfl zo (by rw[hL3];exact get_mid encArG pre3 a l2) rfl rfl) rfl ?_
  refine gac ?_
  refine oS (S.alloc fun b14=>?_) rfl
  refine gaa ?_
  refine oC rfl (fun h5=>?_) (fun h5=>?_)
  ·rw[if_pos (zt h5)] at hI
   refine gab ?_
   exact retC (nm:=a.1) hds (rC (zrt rfl) (zra rfl)) (by rw[←hI];rfl)
  have h5':=zf h5
  rw[if_neg h5'] at hI
  refine gaa ?_
  refine oC rfl (fun h6=>?_) (fun h6=>?_)
  ·rw[if_pos (zt h6)] at hI
   refine gab ?_
   exact retC (nm:=a.1) hds (rC (zrt rfl) (zra rfl)) (by rw[←hI];rfl)
  have h6':=zf h6
  rw[if_neg h6'] at hI
  refine gab ?_
  exact ⟨l2.length,_,_,Nat.lt_succ_self _,⟨pre3++[a],l2,T+a.2,snoc hL3,rfl,rfl,rfl,by omega,by omega,hI⟩,⟨rfl,rfl,rfl,rfl,rfl,rfl,rfl,int_eq (by simp),trivial⟩,zhD zhr,hj3⟩
 obtain rfl:=none_left hL3 hc
 replace hI:orE (errFs vars A F [] fs) (mainE vars fs (refFs vars A F [] fs))=E:=hI
 clear hE
 refine gab ?_
 refine oL (fun k ls H'=>∃ (pre l1:List FnD) (known:List FSum),fs=pre++l1∧k=l1.length∧ls=[(1,ptr b1 0),(4,.list (A.map str)),(5,.list (F.map str)),(10,.list ((vars++A++F).map str)),(97,.list (fs.map encFn)),(98,int .i64 ((fs.map encFn).length:Int)),(99,int .i64 (pre.length:Int))] ∧
   H'=[pgmH b1 vars arrays fs]∧known.map (fun s=>(s.name,s.params))=pre.map (fun f=>(f.name,f.params.length))∧(errFs vars A F known l1=0→errFs vars A F [] fs=0)∧orE (errFs vars A F known l1) (mainE vars fs (refFs vars A F [] fs))=E)
  ⟨_,_,_,⟨[],fs,[],rfl,rfl,rfl,rfl,rfl,id,hI⟩,⟨rfl,rfl,rfl,rfl,rfl,rfl,rfl,trivial⟩,HSub.refl _⟩ ?_
 rintro k ls H' ⟨pre4,l1,known,hL4,rfl,rfl,rfl,hkn,hz,hI4⟩ j4 hj4
 have hb4:=pre_le hL4 (show fs.length≤2000000 by omega)
 have hds4:=hj4.trans hds
 refine gag ?_
 refine oC rfl (fun hc=>?_) (fun hc=>?_)
 ·obtain ⟨f,l2,rfl⟩:=more hL4 hc
  have hfm:f∈fs:=by rw[hL4];simp
  have hndf:=ndFs_mem hfm
  have hndf':1+f.params.length+f.locals.length+ndSs f.body≤2000000:=by unfold ndF at hndf;omega
  rw[errFs,errF,orE_assoc,orE_assoc] at hI4
  rw[errFs,errF] at hz
  have hsc:ScOk (envF vars A F known f) pre4:=by
   refine ⟨hkn,?_,?_,?_,?_,?_,fun g hg=>?_⟩
   ·show (f.params++f.locals).length≤_
    rw[List.length_append];omega
   ·show vars.length≤_
    omega
   ·show A.length≤_
    omega
   ·show F.length≤_
    omega
   ·omega
   ·have h7:=ndFs_mem (show g∈fs by rw[hL4];exact List.mem_append_left _ hg)
    unfold ndF at h7
    omega
  have hbody:=body_spec (B0:=B0) (w0:=w0) (own:=f.name) hsc 2000001 zo f.body zo
  refine gab ?_
  refine oP (xR (el':=encFn f) (cs:=[_,_,_,_]) rfl rfl zo (by rw[hL4];exact get_mid encFn pre4 f l2) rfl rfl) rfl ?_
  refine gao ?_
  refine oS (S.alloc fun b16=>?_) rfl
  refine gac ?_
  refine LCode.draw (m:=8) rfl [fnH b16 f] ?_
  refine aT 1 rfl rfl (Pure.fieldH rfl) ?_
  refine aT 2 rfl rfl (Pure.loadH (c:=.list _) rfl zm0 rfl) ?_
  refine aT 4 rfl rfl (Pure.fieldH rfl) ?_
  refine aT 5 rfl rfl (Pure.loadH (c:=.list _) rfl zm0 rfl) ?_
  refine LAny.late ?_ zhp
  refine lO 0 (lS (H1:=[]) rfl (.inl rfl) rfl zpr zhp (S.litA (es:=[]) [] rfl eN rfl rfl rfl fun b7=>?_))
  refine lO 3 (lS (H1:=[(b7,.row 0)]) rfl (.inl rfl) rfl zpr zhp (S.acc (F:=[]) rfl Acc.row rfl (strs_len _) (strs_ok _) (by simp;omega) fun v1 H1 h1=>?_))
  refine lO 6 (lS (H1:=H1) rfl (.inl rfl) rfl zpr zhp (S.acc (F:=[]) rfl h1 rfl (strs_len _) (strs_ok _) (by simp;omega) fun v2 H2 h2=>?_))
  have e2:([]++f.params.map str++f.locals.map str:List LV)=(f.params++f.locals).map str:=by simp
  rw[e2] at h2
  refine lO 7 (lH rfl rfl (Pure.as (lv:=v2) rfl) ?_)
  refine lD zk ?_
  refine gap ?_
  refine LCode.sub (d:=17) rfl h2.sub ?_
  refine LCode.weak (H':=[fnH b16 f,pgmH b1 vars arrays fs]) ⟨H2,List.perm_append_comm⟩ ?_
  refine gab ?_
  refine oS (S.callH (H1:=[]) (F:=[_,_]) [_,_] rfl zpr (fresh_spec (vars++A++F) (f.params++f.locals) (by rw[List.length_append,List.length_append];omega) (by rw[List.length_append];omega)) ?_ (by
   rintro ch H' ⟨rfl,nm,f1,f2⟩
   by_cases h0:freshE (vars++A++F) (f.params++f.locals)=0
   ·cases f1 h0
   ·cases f2 h0)) rfl
  rintro lv H' ⟨rfl,nm,f1,f2⟩
  by_cases h0:freshE (vars++A++F) (f.params++f.locals)=0
  rotate_left
  ·cases f2 h0
   rw[Chk.orE_ne h0] at hI4
   refine gac ?_
   refine oS (S.alloc fun b19=>?_) rfl
   refine gaa ?_
   refine oC rfl (fun _=>?_) (fun hd=>?_)
   rotate_left
   ·have h2:(!decide (freshE (vars++A++F) (f.params++f.locals)=0))=false:=hd
    simp at h2
    exact absurd h2 (by simpa using h0)
   refine gad ?_
   refine LCode.quiet zk ?_
   refine gac ?_
   exact retC (nm:=nm) hds4 (rC (zrt rfl) (zra rfl)) (by rw[←hI4];rfl)
  cases f1 h0
  rw[h0] at hI4 hz
  replace hI4:orE (errSs (envF vars A F known f) f.body) (orE (errFs vars A F (known++[sumF vars A F known f]) l2) (mainE vars fs (refFs vars A F [] fs)))=E:=hI4
  replace hz:orE (errSs (envF vars A F known f) f.body) (errFs vars A F (known++[sumF vars A F known f]) l2)=0→errFs vars A F [] fs=0:=hz
  refine gac ?_
  refine oS (S.alloc fun b19=>?_) rfl
  refine gaa ?_
  refine oC rfl (fun hd=>by cases hd) (fun _=>?_)
  refine gad ?_
  refine LCode.weak (H':=[fnH b16 f,pgmH b1 vars arrays fs]) (zhD zhr) ?_
  refine LCode.draw (m:=14) rfl [fnH b16 f,pgmH b1 vars arrays fs] ?_
  refine aT 0 rfl rfl (Pure.fieldH rfl) ?_
  refine aT 1 rfl rfl (Pure.loadH (c:=.atom _) rfl zm0 rfl) ?_
  refine aT 2 rfl rfl (Pure.mv (lv:=.list _) rfl) ?_
  refine aT 3 rfl rfl (Pure.fieldH rfl) ?_
  refine aT 4 rfl rfl (Pure.loadH (c:=.list _) rfl zm1 rfl) ?_
  refine aT 5 rfl rfl (Pure.mv (lv:=.list _) rfl) ?_
  refine aT 6 rfl rfl (Pure.fieldH rfl) ?_
  refine aT 7 rfl rfl (Pure.loadH (c:=.list _) rfl zm1 rfl) ?_
  refine aT 8 rfl rfl (Pure.mv (lv:=.atom _) rfl) ?_
  refine LAny.take (i:=9) zhr rfl zk zk zk rfl (Pure.sliceTo (g:=encFn) (pre:=pre4) (l1:=f::l2) (by rw[←hL4];rfl) rfl (encFn_len _)) ?_
  refine aT 10 rfl rfl (Pure.mv (lv:=.list _) rfl) ?_
  refine aT 11 rfl rfl (Pure.bld _ (cs:=[_,_,_,_,_,_]) rfl) ?_
  refine LAny.late ?_ zhr
  refine lO 12 (lS (H1:=[]) rfl (.inl rfl) rfl zpr zhr (S.alloc fun b20=>?_))
  refine lO 13 (lS (H1:=[_]) rfl (.inl rfl) rfl zpr zhr (S.store (n:=6) (cs':=[_,_,_,_,_,_]) rfl pH rfl rfl rfl rfl rfl ?_))
  refine lD zk ?_
  refine gaa ?_
  refine oS (S.pb [_,_] rfl hbody fun nm=>?_) rfl
  refine oS (S.alloc fun b21=>?_) rfl
  refine gaa ?_
  by_cases h1:errSs (envF vars A F known f) f.body=0
  ·rw[h1] at hI4 hz ⊢
   refine oC rfl (fun hd=>by cases hd) (fun _=>?_)
   refine gav ?_
   exact ⟨l2.length,_,_,Nat.lt_succ_self _,⟨pre4++[f],l2,known++[sumF vars A F known f],snoc hL4,rfl,rfl,rfl,by rw[List.map_append,List.map_append,hkn];rfl,hz,hI4⟩,⟨rfl,rfl,rfl,rfl,rfl,rfl,int_eq (by simp),trivial⟩,zhD (zhD (zhD zhr)),hj4⟩
  ·rw[Chk.orE_ne h1] at hI4
   refine oC rfl (fun _=>?_) (fun hd=>?_)
   rotate_left
   ·have h2:(!decide (errSs (envF vars A F known f) f.body=0))=false:=hd
    simp at h2
    exact absurd h2 h1
   refine gad ?_
   refine LCode.quiet zk ?_
   refine gac ?_
   exact retC (nm:=nm) hds4 (rC (zrt rfl) (zra rfl)) (by rw[←hI4];rfl)
 obtain rfl:=none_left hL4 hc
 have hz0:errFs vars A F [] fs=0:=hz rfl
 replace hI4:mainE vars fs (refFs vars A F [] fs)=E:=hI4
 rw[refFs_eq fs [] (by rw[List.nil_append];exact hdist0 h0) hz0] at hI4
 have hM:=hMeas h0 hz0
 have hown:∀ f∈fs,∀ x∈f.params++f.locals,x.length≤1000:=fun f hf=>by
  obtain ⟨k,hk⟩:=errFs_zero _ _ hz0 f hf
  exact errF_names hk
 have hnn:∀ f∈fs,f.name.length≤1000∧∀ x∈f.params++f.locals,x.length≤1000:=fun f hf=>⟨hnames0 h0 f hf,hown f hf⟩
 have hsm:∀ f∈fs,SmF f:=fun f hf=>smF_of (Nat.le_trans (ndFs_mem hf) hnd)
 clear hz hI hMeas
 unfold mainE at hI4
 refine gab ?_
 cases hfl2:fs.getLast? with
 |none=>
  have hnil:=List.getLast?_eq_none_iff.1 hfl2
  rw[hfl2] at hI4
  refine oB 153 rfl (fun _=>?_) (fun h=>absurd (by rw[hnil];rfl) (zf h))
  refine gad ?_
  refine oC rfl (fun _=>?_) (fun hd=>by cases hd)
  refine gar ?_
  exact retC (nm:=[109,97,105,110]) hds4 (rC (zrt rfl) (zra rfl)) (by rw[←hI4];rfl)
 |some f=>
  have hfm:f∈fs:=List.mem_of_getLast? hfl2
  have hpos:0<fs.length:=List.length_pos_of_mem hfm
  have hml:((fs.map encFn).length:Int)=(fs.length:Int):=by rw[List.length_map]
  obtain ⟨m,hm⟩:∃ m,(sumFs vars A F [] fs).getLast? = some m:=by
   cases hx:(sumFs vars A F [] fs).getLast? with
   |some m=>exact ⟨m,rfl⟩
   |none=>
    rw[List.getLast?_eq_none_iff.1 hx] at hslen
    simp at hslen
    omega
  rw[hfl2,hm] at hI4
  replace hI4:(if f.name=[109,97,105,110]∧f.params=[] then (if (scalarsP vars fs).length≤8000∧m.need≤200∧m.depth≤60 then 0 else 6) else 9)=E:=hI4
  have hget:(fs.map encFn)[(((fs.map encFn).length:Int)-1).toNat]? = some (encFn f):=by rw[hml];exact last_ix encFn hfl2 rfl
  have hg1:(((sumFs vars A F [] fs).map (·.need)).map iv)[(((fs.map encFn).length:Int)-1).toNat]? = some (iv m.need):=by
   rw[hml,List.map_map]
   exact last_ix _ hm hslen
  have hg2:(((sumFs vars A F [] fs).map (·.depth)).map iv)[(((fs.map encFn).length:Int)-1).toNat]? = some (iv m.depth):=by
   rw[hml,List.map_map]
   exact last_ix _ hm hslen
  have hn0:0≤((fs.map encFn).length:Int)-1:=by omega
  have hml2:((fs.map encFn).length:Int)≤2000000:=by omega
  refine oB 153 rfl (fun h=>?_) (fun _=>?_)
  ·have:=zt h
   omega
  refine gac ?_
  refine oP (xR (el':=encFn f) (n:=((fs.map encFn).length:Int)-1) (cs:=[_,_,_,_]) rfl rfl hn0 hget rfl rfl) rfl ?_
  refine gac ?_
  by_cases h1:f.name=[109,97,105,110]
  rotate_left
  ·rw[if_neg (fun h=>h1 h.1)] at hI4
   refine oB 163 (b:=!decide (f.name=[109,97,105,110])) rfl (fun _=>?_) (fun h=>absurd (by simpa using h) h1)
   refine gad ?_
   refine oC rfl (fun _=>?_) (fun hd=>by cases hd)
   refine gar ?_
   exact retC (nm:=[109,97,105,110]) hds4 (rC (zrt rfl) (zra rfl)) (by rw[←hI4];rfl)
  refine oB 163 (b:=!decide (f.name=[109,97,105,110])) rfl (fun h=>?_) (fun _=>?_)
  ·simp[h1] at h
  refine gac ?_
  refine oP (xR (el':=encFn f) (n:=((fs.map encFn).length:Int)-1) (cs:=[_,_,_,_]) rfl rfl hn0 hget rfl rfl) rfl ?_
  refine gac ?_
  refine oC rfl (fun h2=>?_) (fun h2=>?_)
  ·have h3:=zt h2
   rw[List.length_map] at h3
   rw[if_neg (fun h=>by rw[h.2] at h3;simp at h3)] at hI4
   refine gar ?_
   exact retC (nm:=[109,97,105,110]) hds4 (rC (zrt rfl) (zra rfl)) (by rw[←hI4];rfl)
  have hpar:f.params=[]:=by
   have h3:=zf h2
   rw[List.length_map] at h3
   exact List.length_eq_zero_iff.1 zo
  rw[if_pos ⟨h1,hpar⟩] at hI4
  refine gaa ?_
  refine oS (S.fn [_] rfl hM ?_) rfl
  refine gaa ?_
  refine oS (S.fn [_] rfl (rscalars_spec (.list (arrays.map encArG)) hv6 zo hsm hnn) ?_) rfl
  refine gac ?_
  refine oB 183 rfl (fun h3=>?_) (fun h3=>?_)
  ·have h4:=zt h3
   rw[List.length_map] at h4
   rw[if_neg (fun h=>by have:=h.1;omega)] at hI4
   refine gad ?_
   refine oC rfl (fun _=>?_) (fun hd=>by cases hd)
   refine gar ?_
   exact retC (nm:=[109,97,105,110]) hds4 (rC (zrt rfl) (zra rfl)) (by rw[←hI4];rfl)
  have h3':=zf h3
  rw[List.length_map] at h3'
  refine gac ?_
  refine oP (xR (el':=iv m.need) (n:=((fs.map encFn).length:Int)-1) (cs:=[_]) rfl rfl hn0 hg1 rfl rfl) rfl ?_
  refine gac ?_
  refine oB 191 rfl (fun h4=>?_) (fun h4=>?_)
  ·have h5:=zt h4
   rw[if_neg (fun h=>by have:=h.2.1;omega)] at hI4
   refine gad ?_
   refine oC rfl (fun _=>?_) (fun hd=>by cases hd)
   refine gar ?_
   exact retC (nm:=[109,97,105,110]) hds4 (rC (zrt rfl) (zra rfl)) (by rw[←hI4];rfl)
  have h4':=zf h4
  refine gac ?_
  refine oP (xR (el':=iv m.depth) (n:=((fs.map encFn).length:Int)-1) (cs:=[_]) rfl rfl hn0 hg2 rfl rfl) rfl ?_
  refine gac ?_
  refine oC rfl (fun h5=>?_) (fun h5=>?_)
  ·have h6:=zt h5
   rw[if_neg (fun h=>by have:=h.2.2;omega)] at hI4
   refine gar ?_
   exact retC (nm:=[109,97,105,110]) hds4 (rC (zrt rfl) (zra rfl)) (by rw[←hI4];rfl)
  have h5':=zf h5
  rw[if_pos ⟨by omega,by omega,by omega⟩] at hI4
  refine gab ?_
  exact retC (nm:=[]) hds4 (rC (zrt rfl) (zra rfl)) (by rw[←hI4];rfl)
end
end Go.Proofs.YtpbbgkoalnonoaaGreatDoor.RC
namespace Go.Proofs.YtpbbgkoalnonoaaGreatDoor.Cmp
open Go.GL Go.RowKit Go.Stele
open Go.Lib (decDigits itoa join)
set_option maxRecDepth 100000
set_option maxHeartbeats 4000000
theorem Pure.beqE {C:Ctx} {e:Env} {H:Heap} {dst:Option Nat} {ty:TypeId} {pos:String} {aft:Array Edge} {g:Option (Nat×Bool)} {xT yT:TypeId} {x y:Operand} {a b c:Bool} (hc:(a == b)=c) (hu:C.P.underlying xT=some .bool) (hx:e.ev x=bool a) (hy:e.ev y=bool b) :
  Go.GL.Pure C ⟨dst,.binOp .eql xT x y yT,ty,pos,aft,g⟩ e H (bool c):=hc▸.of_any fun ρ w L h=>⟨_,rep_atom,fun w'=>by
 have he:eqGuard .eql xT x y (.bool a) (.bool b)=Pure.pure ():=rfl
 have hd:∀ d,(Op.equalIn (d+1) xT (.bool a) (.bool b)).run C.P w'=.ok (a == b) w':=fun d=>by simp[Op.equalIn,run_underlying' hu]
 have hq:(Op.equal xT (.bool a) (.bool b)).run C.P w'=.ok (a == b) w':=hd 9999
 have hb:binOp .eql xT (.bool a) (.bool b)=(do Pure.pure (.bool (←Op.equal xT (.bool a) (.bool b)))):=rfl
 simp only[execOp,atom_of h hx,atom_of h hy,he,hb,Sem.run_bind,Sem.run_pure,Result.andThen_ok,hq]⟩
attribute [local irreducible] LOps LCode LStep LCalls Go.GL.Pure QThen QBlock RetPost LQ LAny LLate LLateOp LS
section
variable {B0:Nat} {w0:World}
theorem cfits_walk (hG:GW B0 w0) (hM:Asm.GM w0) (vars:List Nm) (arrays:List (Nm×Int)) (fs:List FnD) (o:Org) (hv6:vars.length≤2000000) (ha6:arrays.length≤2000000) (har:∀ a∈arrays,I64 a.2) (hnd:ndFs fs≤2000000) (hnum:∀ f∈fs,numSs f.body) (o1:I64 o.code) (o2:I64 o.scalars) (o3:I64 o.arrays) :
  LCalls (KC B0 w0) 5 [Chk.encPrG vars arrays fs,orgLV o] [] (Ret (bool true)):=by
 have haw:=awake_spec (B0:=B0) (w0:=w0) hG hM
 have hck:=RC.rcheck_spec (B0:=B0) (w0:=w0) vars arrays fs hv6 ha6 har hnd
 have hf6:=ndFs_len fs
 have hsm:∀ f∈fs,SmF f:=fun f hf=>smF_of (by have:=ndFs_mem hf;omega)
 have hsz:=RC.rsizeP_spec (B0:=B0) (w0:=w0) vars arrays fs hv6 ha6 zo hsm (fun f hf=>by
  have h1:=ndFs_mem hf
  unfold ndF at h1
  omega)
 have hcp:=fun x:Org=>compile_spec (B0:=B0) (w0:=w0) hG hM vars arrays fs x hv6 ha6 har hnd hnum
 have hrf:=fun (x:Org) (hc0:checkP vars arrays fs=0) (x1:I64 x.code) (x2:I64 x.scalars) (x3:I64 x.arrays)=>by
  obtain ⟨ht,hp,hPa,hPc,hV⟩:=check_parts hc0
  have hown:∀ f∈fs,∀ x∈f.params++f.locals,x.length≤24:=by
   have h:=hc0
   unfold checkP at h
   exact own_short _ _ _ _ _ (orE_zero.1 (orE_zero.1 (orE_zero.1 h).2).2).1
  have hfr:=fresh_zero _ _ hV.names
  have hfn:∀ f∈fs,f.name.length≤24:=fun f hf=>nm_len (hfr.2 _ (List.mem_append_right _ (List.mem_map_of_mem hf))).2
  have hn:∀ f∈fs,f.name.length≤1000∧∀ x∈f.params++f.locals,x.length≤1000:=fun f hf=>⟨by have:=hfn f hf;omega,fun x hx=>by have:=hown f hf x hx;omega⟩
  have hsc8:(scalarsP vars fs).length≤8000:=hV.few
  exact rfits_spec (B0:=B0) (w0:=w0) vars arrays fs x hv6 zo ha6 hsm hn hp ht hsc8 x1 x2 x3
 have hlaw:=fun x:Org=>@fits_law vars arrays fs x
 have hne:=fun (x:Org) (e:Int)=>@cmp_ne vars arrays fs x e
 have ePr:Chk.encPrG vars arrays fs=.agg [.list (vars.map str),.list (arrays.map Chk.encArG),.list (fs.map encFn)]:=rfl
 have eOr:orgLV o=.agg [int .i64 o.code,int .i64 o.scalars,int .i64 o.arrays]:=rfl
 rw[ePr,eOr]
 rw[ePr] at hck hsz hcp hrf
 refine cI Tryz.func5 rfl (n:=61) rfl rfl rfl ?_
 refine gah ?_
 refine oS (S.box rfl fun b2=>?_) rfl
 refine oS (S.box rfl fun b3=>?_) rfl
 refine gaa ?_
 refine oS (S.callH (H1:=[]) (F:=[_,_]) [_] rfl zpr hck ?_ (by rintro ch H' ⟨_,nm,h⟩;cases h)) rfl
 rintro lv H' ⟨rfl,nm,h⟩
 cases h
 refine gaa ?_
 refine oB 18 rfl (fun h1=>?_) (fun h1=>?_)
 ·refine gad ?_
  refine oC rfl (fun _=>?_) (fun hc=>by cases hc)
  refine gah ?_
  refine oS (S.fn [] rfl haw ?_) rfl
  refine gae ?_
  exact retRet rfl (zra rfl) rfl
 have hc0:checkP vars arrays fs=0:=by
  have h2:(!decide (checkP vars arrays fs=0))=false:=h1
  simpa using h2
 refine gac ?_
 refine oS (S.callH (H1:=[]) (F:=[_,_]) [_] rfl zpr hsz ?_ (by rintro ch H' ⟨_,nm,h⟩;cases h)) rfl
 rintro lv H' ⟨rfl,z,h⟩
 cases h
 refine gac ?_
 refine oC rfl (fun _=>?_) (fun _=>?_)
 ·refine gah ?_
  refine oS (S.fn [] rfl haw ?_) rfl
  refine gae ?_
  exact retRet rfl (zra rfl) rfl
 refine gaa ?_
 refine oS (S.lit (es:=([o,⟨o.code,o.scalars,0⟩,⟨0,40000,112144⟩,⟨222144,0,50000⟩,⟨222145,0,50000⟩]:List Org).map orgLV) [_,_,_,_,_] rfl (eC rfl rfl (eC rfl rfl (eC rfl rfl (eC rfl rfl (eC rfl rfl eN))))) rfl rfl rfl ?_) rfl
 obtain ⟨xs,hxs⟩:∃ xs:List Org,xs=[o,⟨o.code,o.scalars,0⟩,⟨0,40000,112144⟩,⟨222144,0,50000⟩,⟨222145,0,50000⟩]:=⟨_,rfl⟩
 rw[←hxs]
 have hx64:∀ x∈xs,I64 x.code∧I64 x.scalars∧I64 x.arrays:=by
  rw[hxs]
  intro x hx
  simp only[List.mem_cons,List.not_mem_nil,or_false] at hx
  rcases hx with rfl|rfl|rfl|rfl|rfl
  ·exact ⟨o1,o2,o3⟩
  ·exact ⟨o1,o2,⟨show (-9223372036854775808:Int)≤0 by decide,show (0:Int)<9223372036854775808 by decide⟩⟩
  all_goals exact ⟨by unfold I64;decide,by unfold I64;decide,by unfold I64;decide⟩
 have hx5:xs.length=5:=by rw[hxs];rfl
 have hxm:(xs.map orgLV).length=xs.length:=List.length_map _
 clear hxs
 refine gad ?_
 refine oL (fun kk ls H'=>∃ (i:Nat),i≤xs.length∧kk=xs.length-i∧ls=[(2,ptr b2 0),(33,.list (xs.map orgLV)),(34,int .i64 xs.length),(35,int .i64 (i:Nat))]∧H'=[(b2,.cells 26 [.list (vars.map str),.list (arrays.map Chk.encArG),.list (fs.map encFn)])])
  ⟨_,_,_,⟨0,Nat.zero_le _,rfl,rfl,rfl⟩,⟨rfl,rfl,int_eq zo,rfl,trivial⟩,zhD zhr⟩ ?_
 rintro kk ls H' ⟨i,hi,rfl,rfl,rfl⟩ j hj
 refine gag ?_
 refine oC rfl (fun hc=>?_) (fun hc=>?_)
 rotate_left
 ·refine gab ?_
  refine oS (S.fn [] rfl haw ?_) rfl
  refine gae ?_
  exact retRet hj (zra rfl) rfl
 have hlt:i<xs.length:=by have:=zt hc;omega
 obtain ⟨x1,x2,x3⟩:=hx64 _ (List.getElem_mem hlt)
 have hmg:=map_get orgLV xs i hlt
 generalize xs[i]=x at x1 x2 x3 hmg
 have hcx:=hcp x x1 x2 x3
 have hrx:=hrf x hc0 x1 x2 x3
 have hlx:=hlaw x hc0
 have hnx:=hne x
 generalize cmpP vars arrays fs x=R at hcx hlx hnx
 generalize fitsP vars arrays fs x=ft at hrx hlx
 obtain ⟨c1,c2,c3⟩:=x
 have eX:orgLV ⟨c1,c2,c3⟩=.agg [int .i64 c1,int .i64 c2,int .i64 c3]:=rfl
 rw[eX] at hcx hrx hmg
 refine gai ?_
 refine oP (xR (el':=.agg [int .i64 c1,int .i64 c2,int .i64 c3]) (cs:=[_,_,_]) rfl rfl zo hmg rfl rfl) rfl ?_
 refine gac ?_
 refine oS (S.alloc fun b8=>?_) rfl
 refine gaa ?_
 obtain ⟨s,e,hR,hse⟩:∃ (s:List UInt8) (e:Int),cmpLV R=.tuple [str s,int .i64 e]∧((e=2∧s=[]∧ft=false)∨(e≠2∧ft=true)):=by
  cases R with
  |error e=>
   refine ⟨[],e,rfl,?_⟩
   by_cases h2:e=2
   ·exact .inl ⟨h2,rfl,hlx.1 (by rw[h2])⟩
   ·refine .inr ⟨h2,?_⟩
    cases hft:ft with
    |true=>rfl
    |false=>
     have:=hlx.2 hft
     cases this
     exact absurd rfl h2
  |ok t=>
   refine ⟨t,0,rfl,.inr ⟨by decide,?_⟩⟩
   cases hft:ft with
   |true=>rfl
   |false=>
    have:=hlx.2 hft
    cases this
 rw[hR] at hcx
 refine oS (S.fn [_,_] rfl hcx ?_) rfl
 clear hR hcx hlx hnx hlaw hne hcp hrf
 rcases hse with ⟨rfl,rfl,rfl⟩|⟨h2,rfl⟩
 ·refine gaa ?_
  refine oB 46 rfl (fun _=>?_) (fun h=>absurd (zf h) (fun g=>g rfl))
  refine oS (S.fn [_,_] rfl hrx ?_) rfl
  refine oP (Pure.beqE (a:=true) (b:=false) rfl zk rfl rfl) rfl ?_
  refine gac ?_
  refine oC rfl (fun hc=>by cases hc) (fun _=>?_)
  refine gav ?_
  exact ⟨_,_,_,by omega,⟨i+1,by omega,rfl,rfl,rfl⟩,⟨rfl,rfl,rfl,int_eq zo,trivial⟩,zhD zhr,hj⟩
 ·refine gaa ?_
  refine oB 46 rfl (fun h=>absurd (zt h) h2) (fun _=>?_)
  refine oS (S.fn [_,_] rfl hrx ?_) rfl
  refine oP (Pure.beqE (a:=false) (b:=true) rfl zk rfl rfl) rfl ?_
  refine gal ?_
  refine oB 54 rfl (fun h=>absurd (zt h) h2) (fun _=>?_)
  refine gad ?_
  refine oC rfl (fun hc=>by cases hc) (fun _=>?_)
  refine gav ?_
  exact ⟨_,_,_,by omega,⟨i+1,by omega,rfl,rfl,rfl⟩,⟨rfl,rfl,rfl,int_eq zo,trivial⟩,zhD zhr,hj⟩
end
end Go.Proofs.YtpbbgkoalnonoaaGreatDoor.Cmp
