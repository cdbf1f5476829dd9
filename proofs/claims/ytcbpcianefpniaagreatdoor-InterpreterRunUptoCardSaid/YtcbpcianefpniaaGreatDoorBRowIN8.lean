/- Texts joined: RC3, RC4, RC5, RC6, RC7, RC8, RC9, RC10, RI7, RunSz3, RunSz4, RunLaw. -/
import Derived.Test.YtcbpcianefpniaaGreatDoorBRowIN5
import Derived.Test.YtcbpcianefpniaaGreatDoorBRowIN6
import Derived.Test.YtcbpcianefpniaaGreatDoorBRowIN7
set_option linter.unusedVariables false
set_option linter.unusedSimpArgs false
namespace Go.Proofs.YtcbpcianefpniaaGreatDoor.RC
open Go.GL Go.RowKit Go.Stele
set_option maxRecDepth 100000
set_option maxHeartbeats 4000000
@[reducible] def scH (b:Nat) (own:Nm) (c:CEnv) (fs:List FnD):Nat×LObj:=(b,.cells 121 [str own,.list (c.own.map str),.list (c.vars.map str),.list (c.arrays.map str),.list (fs.map encFn),.list (c.later.map str)])
@[reducible] def exH (b:Nat) (op:Nm) (num:Nat) (name:Nm) (args:List Ex):Nat×LObj:=(b,.cells 170 [str op,int .u32 (num:Int),str name,.list (args.map encE)])
@[reducible] def pbH (b:Nat) (nm:Nm) (e:Int):Nat×LObj:=(b,.cells 117 [str nm,int .i64 e])
theorem ite_iff {p q:Prop} [Decidable p] [Decidable q] {a b:Int} (h:p ↔ q) (_:a=a) (_:b=b):(if p then a else b)=if q then a else b:=by
 by_cases hp:p
 ·rw[if_pos hp,if_pos (h.1 hp)]
 ·rw[if_neg hp,if_neg fun hq=>hp (h.2 hq)]
attribute [local irreducible] LOps LCode LStep LCalls Go.GL.Pure QThen QBlock RetPost LQ LAny LLate LLateOp LS
section
variable {B0:Nat} {w0:World}
theorem called_spec {own:Nm} {c:CEnv} {fs:List FnD} (h:ScOk c fs) (op:Nm) (num:Nat) (name:Nm) (args:List Ex):LCalls (KC B0 w0) 154 [scV own c fs,encE (.mk op num name args)] [] (PostB (callE c name args.length)):=by
 have hlen:((args.map encE).length:Int)=(args.length:Int):=by rw[List.length_map]
 have hfun:=function_spec (B0:=B0) (w0:=w0) (own:=own) h name
 rw[encE_mk]
 unfold scV at hfun ⊢
 generalize hI:callE c name args.length=R
 unfold callE at hI
 refine cI Tryz.func154 rfl (n:=64) rfl rfl rfl ?_
 refine gag ?_
 refine oS (S.box rfl fun b2=>?_) rfl
 refine oS (S.box rfl fun b3=>?_) rfl
 refine oS (S.alloc fun b4=>?_) rfl
 refine gaa ?_
 refine oS (S.fnIf [_,_] rfl hfun ?_) rfl
 rintro lv ⟨i,rfl,hix⟩
 refine gaf ?_
 refine LCode.mid (A:=Int) (fun w=>[(2,ptr b2 0),(3,ptr b3 0),(4,ptr b4 0),(5,int .i64 w)]) (fun _=>[pbH b4 [] 0,exH b3 op num name args,scH b2 own c fs]) (fun w=>R=if (args.length:Int)=w then 0 else 1) ?_ ?_
 ·refine gaa ?_
  by_cases h1:name=[105,110]
  ·subst h1
   rw[if_pos rfl] at hI
   refine oC rfl (fun _=>?_) (fun hc=>by cases hc)
   refine gad ?_
   exact ⟨0,by rw[←hI];exact ite_iff zo rfl rfl,⟨rfl,rfl,rfl,rfl,trivial⟩,rfl,rfl⟩
  rw[if_neg h1] at hI
  refine oC rfl (fun hc=>absurd (zt hc) h1) (fun _=>?_)
  refine gaa ?_
  by_cases h2:name=[111,117,116]
  ·subst h2
   rw[if_pos rfl] at hI
   refine oC rfl (fun _=>?_) (fun hc=>by cases hc)
   refine gac ?_
   exact ⟨1,by rw[←hI];exact ite_iff zo rfl rfl,⟨rfl,rfl,rfl,rfl,trivial⟩,rfl,rfl⟩
  rw[if_neg h2] at hI
  refine oC rfl (fun hc=>absurd (zt hc) h2) (fun _=>?_)
  refine gaa ?_
  rcases hix with ⟨s,pre,f,post,hfn,hfs,rfl,hp⟩|⟨hfn,rfl⟩
  ·rw[hfn] at hI
   have hI':(if args.length=s.params then (0:Int) else 1)=R:=hI
   refine oC rfl (fun _=>?_) (fun hc=>by have:=zf hc;omega)
   refine gaa ?_
   refine oP (xR (el':=encFn f) (cs:=[_,_,_,_]) rfl rfl zo (by rw[hfs];exact get_mid encFn pre f post) rfl rfl) rfl ?_
   refine gab ?_
   exact ⟨((f.params.map str).length:Int),by rw[←hI',List.length_map,←hp];exact ite_iff zo rfl rfl,⟨rfl,rfl,rfl,rfl,trivial⟩,rfl,rfl⟩
  ·rw[hfn] at hI
   have hI':(if name∈c.vars∨name∈c.arrays∨name∈c.own then (10:Int) else 7)=R:=hI
   refine oC rfl (fun hc=>by cases hc) (fun _=>?_)
   refine gaa ?_
   refine oS (S.fn [_,_] rfl (has_spec c.own name h.own) ?_) rfl
   refine gao ?_
   by_cases h3:name∈c.own
   ·rw[if_pos (.inr (.inr h3))] at hI'
    refine oB 38 rfl (fun _=>?_) (fun g=>absurd h3 (zf g))
    refine gad ?_
    refine oC rfl (fun _=>?_) (fun hc=>by cases hc)
    refine gaa ?_
    exact retB (nm:=name) rfl (rC (rA rfl zm0 rfl zsr) rN) (by rw[←hI'];rfl)
   refine oB 38 rfl (fun g=>absurd (zt g) h3) (fun _=>?_)
   refine gab ?_
   refine oS (S.fn [_,_] rfl (has_spec c.vars name h.vars) ?_) rfl
   refine gah ?_
   by_cases h4:name∈c.vars
   ·rw[if_pos (.inl h4)] at hI'
    refine oB 45 rfl (fun _=>?_) (fun g=>absurd h4 (zf g))
    refine gad ?_
    refine oC rfl (fun _=>?_) (fun hc=>by cases hc)
    refine gaa ?_
    exact retB (nm:=name) rfl (rC (rA rfl zm0 rfl zsr) rN) (by rw[←hI'];rfl)
   refine oB 45 rfl (fun g=>absurd (zt g) h4) (fun _=>?_)
   refine gab ?_
   refine oS (S.fn [_,_] rfl (has_spec c.arrays name h.arrays) ?_) rfl
   refine gah ?_
   refine oC rfl (fun h5=>?_) (fun h5=>?_)
   ·rw[if_pos (.inr (.inl (zt h5)))] at hI'
    refine gaa ?_
    exact retB (nm:=name) rfl (rC (rA rfl zm0 rfl zsr) rN) (by rw[←hI'];rfl)
   ·rw[if_neg (fun g=>g.elim h4 (fun g=>g.elim (zf h5) h3))] at hI'
    refine gaa ?_
    exact retB (nm:=name) rfl (rC (rA rfl zm0 rfl zsr) rN) (by rw[←hI'];rfl)
 intro w hw j hj
 refine gaa ?_
 refine oC rfl (fun hc=>?_) (fun hc=>?_)
 ·have h1:¬ (args.length:Int)=w:=by
   have h2:(!decide (((args.map encE).length:Int)=w))=true:=hc
   rw[hlen] at h2
   simpa using h2
  rw[if_neg h1] at hw
  refine gaa ?_
  exact retB (nm:=name) hj (rC (rA rfl zm0 rfl zsr) rN) (by rw[hw];rfl)
 ·have h1:(args.length:Int)=w:=by
   have h2:(!decide (((args.map encE).length:Int)=w))=false:=hc
   rw[hlen] at h2
   simpa using h2
  rw[if_pos h1] at hw
  refine gaa ?_
  exact retB (nm:=[]) hj (rC (rA rfl zm0 rfl zsr) rN) (by rw[hw];rfl)
def ExprH (B0:Nat) (w0:World) (own:Nm) (c:CEnv) (fs:List FnD) (n:Nat):Prop:=∀ x:Ex,ndE x≤n→LCalls (KC B0 w0) 102 [scV own c fs,encE x] [] (PostB (errE c x))
theorem expr_spec {own:Nm} {c:CEnv} {fs:List FnD} (h:ScOk c fs):∀ n:Nat,n≤100000000→ExprH B0 w0 own c fs n
 |0,_=>fun x h=>by have:=ndE_pos x;omega
 |n+1,hn6=>by
  have ih:=expr_spec (own:=own) h n zo
  intro x hnd
  obtain ⟨op,num,name,args⟩:=x
  rw[ndE] at hnd
  have hal:=ndEs_len args
  have hlen:(args.map encE).length=args.length:=List.length_map _
  have hsh:=shape_spec (B0:=B0) (w0:=w0) (.mk op num name args)
  have hsc:=scalar_spec (B0:=B0) (w0:=w0) (own:=own) h name
  have hix:=indexed_spec (B0:=B0) (w0:=w0) (own:=own) h name
  have hca:=called_spec (B0:=B0) (w0:=w0) (own:=own) h op num name args
  have ih':∀ x:Ex,ndE x≤n→LCalls (KC B0 w0) 102 [.agg [str own,.list (c.own.map str),.list (c.vars.map str),.list (c.arrays.map str),.list (fs.map encFn),.list (c.later.map str)],encE x] [] (PostB (errE c x)):=ih
  generalize hI:errE c (Ex.mk op num name args)=E
  rw[errE] at hI
  rw[encE_mk] at hsh hca ⊢
  unfold scV at hsc hix hca ⊢
  have hsh':LCalls (KC B0 w0) 153 [.agg [str op,int .u32 (num:Int),str name,.list (args.map encE)]] [] (Ret (bool (decide (opnds op = -1∨opnds op=(args.length:Int))))):=hsh
  refine cI Tryz.func102 rfl (n:=49) rfl rfl rfl ?_
  refine gag ?_
  refine oS (S.box rfl fun b2=>?_) rfl
  refine oS (S.box rfl fun b3=>?_) rfl
  refine oS (S.alloc fun b4=>?_) rfl
  refine gaa ?_
  refine oS (S.fn [_] rfl hsh' ?_) rfl
  refine gab ?_
  refine oC rfl (fun hc=>?_) (fun hc=>?_)
  ·have hop:¬ (opnds op = -1∨opnds op=(args.length:Int)):=by simpa using hc
   rw[if_neg hop] at hI
   refine gaa ?_
   exact retB (nm:=own) rfl (rC (rA rfl zm0 rfl zsr) rN) (by rw[←hI];rfl)
  have hop:opnds op = -1∨opnds op=(args.length:Int):=Decidable.byContradiction fun h=>by rw[decide_eq_false h] at hc;cases hc
  rw[if_pos hop] at hI
  refine gaa ?_
  refine oL (fun kk ls H'=>∃ (pre l1:List Ex),args=pre++l1∧kk=l1.length∧ls=[(2,ptr b2 0),(3,ptr b3 0),(4,ptr b4 0),(15,.list (args.map encE)),(16,int .i64 ((args.map encE).length:Int)),(17,int .i64 (pre.length:Int))] ∧
    H'=[pbH b4 [] 0,exH b3 op num name args,scH b2 own c fs]∧orE (errEs c l1) (useE c op name args.length)=E)
   ⟨args.length,_,_,⟨[],args,rfl,rfl,rfl,rfl,hI⟩,⟨rfl,rfl,rfl,rfl,rfl,rfl,trivial⟩,HSub.refl _⟩ ?_
  rintro kk ls H' ⟨pre,l1,hL,rfl,rfl,rfl,hI2⟩ j hj
  have hb:=pre_le hL (show args.length≤100000000 by omega)
  refine gak ?_
  refine oC rfl (fun hc=>?_) (fun hc=>?_)
  ·obtain ⟨a,l2,rfl⟩:=more hL hc
   have ham:ndE a≤ndEs args:=ndEs_mem (by rw[hL];exact List.mem_append_right _ (List.mem_cons_self ..))
   rw[errEs] at hI2
   refine gal ?_
   refine oP (xR (el':=encE a) (cs:=[_,_,_,_]) rfl rfl zo (by rw[hL];exact get_mid encE pre a l2) rfl rfl) rfl ?_
   refine gax ?_
   refine oS (S.alloc fun b6=>?_) rfl
   refine gaa ?_
   refine oS (S.pb [_,_] rfl (ih' a zo) fun nm=>?_) rfl
   refine oS (S.alloc fun b7=>?_) rfl
   refine gaa ?_
   by_cases h1:errE c a=0
   ·rw[h1] at hI2 ⊢
    refine oC rfl (fun hd=>by cases hd) (fun _=>?_)
    refine gar ?_
    exact ⟨l2.length,_,_,Nat.lt_succ_self _,⟨pre++[a],l2,snoc hL,rfl,rfl,rfl,hI2⟩,⟨rfl,rfl,rfl,rfl,rfl,int_eq (by simp),trivial⟩,zhD (zhD zhr),hj⟩
   ·refine oC rfl (fun _=>?_) (fun hd=>?_)
    rotate_left
    ·have h2:(!decide (errE c a=0))=false:=hd
     simp at h2
     exact absurd h2 h1
    have hE:E=errE c a:=by
     rw[←hI2]
     unfold orE
     rw[if_pos (show (if errE c a≠0 then errE c a else errEs c l2)≠0 by rw[if_pos h1];exact h1),if_pos h1]
    refine gaa ?_
    exact retB (nm:=nm) hj (rC (rA (k:=2) rfl zm0 rfl zsr) rN) (by rw[hE];rfl)
  obtain rfl:=none_left hL hc
  have hI3:useE c op name args.length=E:=hI2
  unfold useE at hI3
  refine gaa ?_
  by_cases h1:op=[118,97,114]
  ·subst h1
   rw[if_pos (show ([118,97,114]:Nm)=nVar from rfl)] at hI3
   refine oC rfl (fun _=>?_) (fun hd=>by cases hd)
   refine gaa ?_
   refine oS (S.pb [_,_] rfl hsc fun nm=>?_) rfl
   refine gab ?_
   exact retB (nm:=nm) hj (rC (rA rfl zm0 rfl zsr) rN) (by rw[←hI3];rfl)
  rw[if_neg (show ¬ op=nVar from h1)] at hI3
  refine oC rfl (fun hd=>absurd (zt hd) h1) (fun _=>?_)
  refine gai ?_
  by_cases h2:op=[101,108,101,109]
  ·subst h2
   rw[if_pos (show ([101,108,101,109]:Nm)=nElem from rfl)] at hI3
   refine oC rfl (fun _=>?_) (fun hd=>by cases hd)
   refine gaa ?_
   refine oS (S.pb [_,_] rfl hix fun nm=>?_) rfl
   refine gab ?_
   exact retB (nm:=nm) hj (rC (rA rfl zm0 rfl zsr) rN) (by rw[←hI3];rfl)
  rw[if_neg (show ¬ op=nElem from h2)] at hI3
  refine oC rfl (fun hd=>absurd (zt hd) h2) (fun _=>?_)
  refine gai ?_
  by_cases h3:op=[99,97,108,108]
  ·subst h3
   rw[if_pos (show ([99,97,108,108]:Nm)=nCall from rfl)] at hI3
   refine oC rfl (fun _=>?_) (fun hd=>by cases hd)
   refine gaa ?_
   refine oS (S.pb [_,_] rfl hca fun nm=>?_) rfl
   refine gab ?_
   exact retB (nm:=nm) hj (rC (rA rfl zm0 rfl zsr) rN) (by rw[←hI3];rfl)
  rw[if_neg (show ¬ op=nCall from h3)] at hI3
  refine oC rfl (fun hd=>absurd (zt hd) h3) (fun _=>?_)
  refine gaa ?_
  exact retB (nm:=[]) hj (rC (rA rfl zm0 rfl zsr) rN) (by rw[←hI3];rfl)
end
end Go.Proofs.YtcbpcianefpniaaGreatDoor.RC
namespace Go.Proofs.YtcbpcianefpniaaGreatDoor.RC
open Go.GL Go.RowKit Go.Stele
set_option maxRecDepth 100000
set_option maxHeartbeats 4000000
attribute [local irreducible] LOps LCode LStep LCalls Go.GL.Pure QThen QBlock RetPost LQ LAny LLate LLateOp LS
section
variable {B0:Nat} {w0:World}
theorem form_spec (s:Sm):LCalls (KC B0 w0) 101 [encS s] [] (Ret (bool (formS s))):=by
 obtain ⟨kind,name,index,value,thn,els⟩:=s
 rw[encS_mk]
 refine cI Tryz.func101 rfl (n:=159) rfl rfl rfl ?_
 refine gag ?_
 refine oS (S.box rfl fun b1=>?_) rfl
 refine gad ?_
 refine LCode.quiet zk ?_
 refine gaa ?_
 by_cases hk1:kind=1
 ·subst hk1
  refine oC rfl (fun _=>?_) (fun hc=>by cases hc)
  rw[Chk.form_1]
  refine gaj ?_
  refine oB 28 rfl (fun q1=>?_) (fun q1=>?_)
  rotate_left
  ·refine gah ?_
   refine rR rfl (zra rfl) zhn ⟨?_,rfl⟩
   simp only[q1,Bool.false_and,Bool.and_false,Bool.true_and]
   rfl
  refine gaq ?_
  refine oB 32 rfl (fun q2=>?_) (fun q2=>?_)
  rotate_left
  ·refine gah ?_
   refine rR rfl (zra rfl) zhn ⟨?_,rfl⟩
   simp only[q1,q2,Bool.false_and,Bool.and_false,Bool.true_and]
   rfl
  refine gaq ?_
  refine oB 36 rfl (fun q3=>?_) (fun q3=>?_)
  rotate_left
  ·refine gah ?_
   refine rR rfl (zra rfl) zhn ⟨?_,rfl⟩
   simp only[q1,q2,q3,Bool.false_and,Bool.and_false,Bool.true_and]
   rfl
  refine gaq ?_
  refine oB 40 rfl (fun q4=>?_) (fun q4=>?_)
  rotate_left
  ·refine gah ?_
   refine rR rfl (zra rfl) zhn ⟨?_,rfl⟩
   simp only[q1,q2,q3,q4,Bool.false_and,Bool.and_false,Bool.true_and]
   rfl
  refine gad ?_
  refine rR rfl (zra rfl) zhn ⟨?_,rfl⟩
  simp only[q1,q2,q3,q4,Bool.true_and]
  rfl
 refine oC rfl (fun hc=>absurd (zt hc) hk1) (fun _=>?_)
 refine gas ?_
 by_cases hk2:kind=2
 ·subst hk2
  refine oC rfl (fun _=>?_) (fun hc=>by cases hc)
  rw[Chk.form_2]
  refine gaj ?_
  refine oB 47 rfl (fun q1=>?_) (fun q1=>?_)
  rotate_left
  ·refine gah ?_
   refine rR rfl (zra rfl) zhn ⟨?_,rfl⟩
   simp only[q1,Bool.false_and,Bool.and_false,Bool.true_and]
   rfl
  refine gaq ?_
  refine oB 51 rfl (fun q2=>?_) (fun q2=>?_)
  rotate_left
  ·refine gah ?_
   refine rR rfl (zra rfl) zhn ⟨?_,rfl⟩
   simp only[q1,q2,Bool.false_and,Bool.and_false,Bool.true_and]
   rfl
  refine gaq ?_
  refine oB 55 rfl (fun q3=>?_) (fun q3=>?_)
  rotate_left
  ·refine gah ?_
   refine rR rfl (zra rfl) zhn ⟨?_,rfl⟩
   simp only[q1,q2,q3,Bool.false_and,Bool.and_false,Bool.true_and]
   rfl
  refine gaq ?_
  refine oB 59 rfl (fun q4=>?_) (fun q4=>?_)
  rotate_left
  ·refine gah ?_
   refine rR rfl (zra rfl) zhn ⟨?_,rfl⟩
   simp only[q1,q2,q3,q4,Bool.false_and,Bool.and_false,Bool.true_and]
   rfl
  refine gad ?_
  refine rR rfl (zra rfl) zhn ⟨?_,rfl⟩
  simp only[q1,q2,q3,q4,Bool.true_and]
  rfl
 refine oC rfl (fun hc=>absurd (zt hc) hk2) (fun _=>?_)
 refine gas ?_
 by_cases hk3:kind=3
 ·subst hk3
  refine oC rfl (fun _=>?_) (fun hc=>by cases hc)
  rw[Chk.form_3]
  refine gaa ?_
  refine oB 67 rfl (fun q1=>?_) (fun q1=>?_)
  rotate_left
  ·refine gah ?_
   refine rR rfl (zra rfl) zhn ⟨?_,rfl⟩
   simp only[q1,Bool.false_and,Bool.and_false,Bool.true_and]
   rfl
  refine gaq ?_
  refine oB 71 rfl (fun q2=>?_) (fun q2=>?_)
  rotate_left
  ·refine gah ?_
   refine rR rfl (zra rfl) zhn ⟨?_,rfl⟩
   simp only[q1,q2,Bool.false_and,Bool.and_false,Bool.true_and]
   rfl
  refine gad ?_
  refine rR rfl (zra rfl) zhn ⟨?_,rfl⟩
  simp only[q1,q2,Bool.true_and]
  rfl
 refine oC rfl (fun hc=>absurd (zt hc) hk3) (fun _=>?_)
 refine gas ?_
 by_cases hk4:kind=4
 ·subst hk4
  refine oC rfl (fun _=>?_) (fun hc=>by cases hc)
  rw[Chk.form_4]
  refine gaa ?_
  refine oB 79 rfl (fun q1=>?_) (fun q1=>?_)
  rotate_left
  ·refine gah ?_
   refine rR rfl (zra rfl) zhn ⟨?_,rfl⟩
   simp only[q1,Bool.false_and,Bool.and_false,Bool.true_and]
   rfl
  refine gaq ?_
  refine oB 83 rfl (fun q2=>?_) (fun q2=>?_)
  rotate_left
  ·refine gah ?_
   refine rR rfl (zra rfl) zhn ⟨?_,rfl⟩
   simp only[q1,q2,Bool.false_and,Bool.and_false,Bool.true_and]
   rfl
  refine gaq ?_
  refine oB 87 rfl (fun q3=>?_) (fun q3=>?_)
  rotate_left
  ·refine gah ?_
   refine rR rfl (zra rfl) zhn ⟨?_,rfl⟩
   simp only[q1,q2,q3,Bool.false_and,Bool.and_false,Bool.true_and]
   rfl
  refine gad ?_
  refine rR rfl (zra rfl) zhn ⟨?_,rfl⟩
  simp only[q1,q2,q3,Bool.true_and]
  rfl
 refine oC rfl (fun hc=>absurd (zt hc) hk4) (fun _=>?_)
 refine gas ?_
 by_cases hk5:kind=5
 ·subst hk5
  refine oC rfl (fun _=>?_) (fun hc=>by cases hc)
  rw[Chk.form_5]
  refine gaa ?_
  refine oB 95 rfl (fun q1=>?_) (fun q1=>?_)
  rotate_left
  ·refine gah ?_
   refine rR rfl (zra rfl) zhn ⟨?_,rfl⟩
   simp only[q1,Bool.false_and,Bool.and_false,Bool.true_and]
   rfl
  refine gaq ?_
  refine oB 99 rfl (fun q2=>?_) (fun q2=>?_)
  rotate_left
  ·refine gah ?_
   refine rR rfl (zra rfl) zhn ⟨?_,rfl⟩
   simp only[q1,q2,Bool.false_and,Bool.and_false,Bool.true_and]
   rfl
  refine gaq ?_
  refine oB 103 rfl (fun q3=>?_) (fun q3=>?_)
  rotate_left
  ·refine gah ?_
   refine rR rfl (zra rfl) zhn ⟨?_,rfl⟩
   simp only[q1,q2,q3,Bool.false_and,Bool.and_false,Bool.true_and]
   rfl
  refine gaq ?_
  refine oB 107 rfl (fun q4=>?_) (fun q4=>?_)
  rotate_left
  ·refine gah ?_
   refine rR rfl (zra rfl) zhn ⟨?_,rfl⟩
   simp only[q1,q2,q3,q4,Bool.false_and,Bool.and_false,Bool.true_and]
   rfl
  refine gad ?_
  refine rR rfl (zra rfl) zhn ⟨?_,rfl⟩
  simp only[q1,q2,q3,q4,Bool.true_and]
  rfl
 refine oC rfl (fun hc=>absurd (zt hc) hk5) (fun _=>?_)
 refine gas ?_
 by_cases hk6:kind=6
 ·subst hk6
  refine oC rfl (fun _=>?_) (fun hc=>by cases hc)
  rw[Chk.form_6]
  refine gaa ?_
  refine oB 115 rfl (fun q1=>?_) (fun q1=>?_)
  rotate_left
  ·refine gah ?_
   refine rR rfl (zra rfl) zhn ⟨?_,rfl⟩
   simp only[q1,Bool.false_and,Bool.and_false,Bool.true_and]
   rfl
  refine gaq ?_
  refine oB 119 rfl (fun q2=>?_) (fun q2=>?_)
  rotate_left
  ·refine gah ?_
   refine rR rfl (zra rfl) zhn ⟨?_,rfl⟩
   simp only[q1,q2,Bool.false_and,Bool.and_false,Bool.true_and]
   rfl
  refine gaq ?_
  refine oB 123 rfl (fun q3=>?_) (fun q3=>?_)
  rotate_left
  ·refine gah ?_
   refine rR rfl (zra rfl) zhn ⟨?_,rfl⟩
   simp only[q1,q2,q3,Bool.false_and,Bool.and_false,Bool.true_and]
   rfl
  refine gaq ?_
  refine oB 127 rfl (fun q4=>?_) (fun q4=>?_)
  rotate_left
  ·refine gah ?_
   refine rR rfl (zra rfl) zhn ⟨?_,rfl⟩
   simp only[q1,q2,q3,q4,Bool.false_and,Bool.and_false,Bool.true_and]
   rfl
  refine gaq ?_
  refine oB 131 rfl (fun q5=>?_) (fun q5=>?_)
  rotate_left
  ·refine gah ?_
   refine rR rfl (zra rfl) zhn ⟨?_,rfl⟩
   simp only[q1,q2,q3,q4,q5,Bool.false_and,Bool.and_false,Bool.true_and]
   rfl
  refine gad ?_
  obtain ⟨x0,rfl⟩:∃ x,value=[x]:=by
   have h1:((value.map encE).length:Int)=1:=zt q3
   rw[List.length_map] at h1
   cases value with
   |nil=>simp at h1
   |cons x l=>
    cases l with
    |nil=>exact ⟨x,rfl⟩
    |cons y l=>simp at h1;omega
  first|refine LOps.want rfl rfl ?_|skip
  refine oP (xR (el':=encE x0) (cs:=[_,_,_,_]) rfl rfl zo rfl rfl rfl) rfl ?_
  refine gab ?_
  refine rR rfl (zra rfl) zhn ⟨?_,rfl⟩
  simp only[q1,q2,q3,q4,q5,Bool.true_and]
  rfl
 refine oC rfl (fun hc=>absurd (zt hc) hk6) (fun _=>?_)
 refine gas ?_
 by_cases hk7:kind=7
 ·subst hk7
  refine oC rfl (fun _=>?_) (fun hc=>by cases hc)
  rw[Chk.form_7]
  refine gaa ?_
  refine oB 143 rfl (fun q1=>?_) (fun q1=>?_)
  rotate_left
  ·refine gah ?_
   refine rR rfl (zra rfl) zhn ⟨?_,rfl⟩
   simp only[q1,Bool.false_and,Bool.and_false,Bool.true_and]
   rfl
  refine gaq ?_
  refine oB 147 rfl (fun q2=>?_) (fun q2=>?_)
  rotate_left
  ·refine gah ?_
   refine rR rfl (zra rfl) zhn ⟨?_,rfl⟩
   simp only[q1,q2,Bool.false_and,Bool.and_false,Bool.true_and]
   rfl
  refine gaq ?_
  refine oB 151 rfl (fun q3=>?_) (fun q3=>?_)
  rotate_left
  ·refine gah ?_
   refine rR rfl (zra rfl) zhn ⟨?_,rfl⟩
   simp only[q1,q2,q3,Bool.false_and,Bool.and_false,Bool.true_and]
   rfl
  refine gaq ?_
  refine oB 155 rfl (fun q4=>?_) (fun q4=>?_)
  rotate_left
  ·refine gah ?_
   refine rR rfl (zra rfl) zhn ⟨?_,rfl⟩
   simp only[q1,q2,q3,q4,Bool.false_and,Bool.and_false,Bool.true_and]
   rfl
  refine gad ?_
  refine rR rfl (zra rfl) zhn ⟨?_,rfl⟩
  simp only[q1,q2,q3,q4,Bool.true_and]
  rfl
 refine oC rfl (fun hc=>absurd (zt hc) hk7) (fun _=>?_)
 refine gac ?_
 refine rR rfl (zra rfl) zhn ⟨?_,rfl⟩
 have hf:formS (.mk kind name index value thn els)=false:=by
  simp only[formS]
  rw[if_neg hk1,if_neg hk2,if_neg hk3,if_neg hk4,if_neg hk5,if_neg hk6,if_neg hk7]
 rw[hf]
 rfl
end
end Go.Proofs.YtcbpcianefpniaaGreatDoor.RC
namespace Go.Proofs.YtcbpcianefpniaaGreatDoor.RC
open Go.GL Go.RowKit Go.Stele
set_option maxRecDepth 100000
set_option maxHeartbeats 4000000
theorem ndSs_mem:∀ {l:List Sm} {f:Sm},f∈l→ndS f≤ndSs l
 |g::l,f,h=>by
  rw[ndSs]
  rcases List.mem_cons.1 h with rfl|h
  ·omega
  ·have:=ndSs_mem h
   omega
theorem ndEs_app:∀ a b:List Ex,ndEs (a++b)=ndEs a+ndEs b
 |[],b=>by rw[ndEs,List.nil_append];omega
 |x::a,b=>by rw[List.cons_append,ndEs,ndEs,ndEs_app a b];omega
theorem orE_assoc (a b c:Int):orE (orE a b) c=orE a (orE b c):=by
 unfold orE
 by_cases h:a=0
 ·subst h;rfl
 ·rw[if_pos h,if_pos h,if_pos h]
theorem orE_ne {a b:Int} (h:a≠0):orE a b=a:=by unfold orE;rw[if_pos h]
theorem encE_len (l:List Ex):∀ v∈l.map encE,v.cells.length=4:=fun v hv=>by
 obtain ⟨x,_,rfl⟩:=List.mem_map.1 hv
 rfl
theorem encE_ok (l:List Ex):((l.map encE).flatMap LV.cells).all cellOk=true:=by
 induction l with
 |nil=>rfl
 |cons a l ih=>
  simp only[List.map_cons,List.flatMap_cons,List.all_append,ih,Bool.and_true]
  rfl
@[reducible] def smH (b:Nat) (kind:Int) (name:Nm) (index value:List Ex) (thn els:List Sm):Nat×LObj:=(b,.cells 128 [int .i64 kind,str name,.list (index.map encE),.list (value.map encE),.list (thn.map encS),.list (els.map encS)])
attribute [local irreducible] LOps LCode LStep LCalls Go.GL.Pure QThen QBlock RetPost LQ LAny LLate LLateOp LS
section
variable {B0:Nat} {w0:World}
def BodyH (B0:Nat) (w0:World) (own:Nm) (c:CEnv) (fs:List FnD) (n:Nat):Prop:=∀ l:List Sm,ndSs l<n→LCalls (KC B0 w0) 53 [.agg [str own,.list (c.own.map str),.list (c.vars.map str),.list (c.arrays.map str),.list (fs.map encFn),.list (c.later.map str)],.list (l.map encS)] [] (PostB (errSs c l))
theorem body_spec {own:Nm} {c:CEnv} {fs:List FnD} (h:ScOk c fs):∀ n:Nat,n≤100000000→BodyH B0 w0 own c fs n
 |0,_=>fun l h=>by omega
 |n+1,hn6=>by
  have ih:=body_spec (own:=own) h n zo
  have hex:ExprH B0 w0 own c fs n:=expr_spec h n zo
  intro l hnd
  have hal:=ndSs_len l
  have hex':∀ x:Ex,ndE x≤n→LCalls (KC B0 w0) 102 [.agg [str own,.list (c.own.map str),.list (c.vars.map str),.list (c.arrays.map str),.list (fs.map encFn),.list (c.later.map str)],encE x] [] (PostB (errE c x)):=hex
  generalize hI:errSs c l=E
  refine cI Tryz.func53 rfl (n:=78) rfl rfl rfl ?_
  refine gag ?_
  refine oS (S.box rfl fun b2=>?_) rfl
  refine oS (S.alloc fun b4=>?_) rfl
  refine gac ?_
  refine oL (fun kk ls H'=>∃ (pre l1:List Sm),l=pre++l1∧kk=l1.length∧ls=[(2,ptr b2 0),(4,ptr b4 0),(11,.list (l.map encS)),(12,int .i64 ((l.map encS).length:Int)),(13,int .i64 (pre.length:Int))] ∧
    H'=[pbH b4 [] 0,scH b2 own c fs]∧errSs c l1=E)
   ⟨l.length,_,_,⟨[],l,rfl,rfl,rfl,rfl,hI⟩,⟨rfl,rfl,rfl,rfl,rfl,trivial⟩,HSub.refl _⟩ ?_
  rintro kk ls H' ⟨pre,l1,hL,rfl,rfl,rfl,hI2⟩ j hj
  have hb:=pre_le hL (show l.length≤100000000 by omega)
  refine gak ?_
  refine oC rfl (fun hc=>?_) (fun hc=>?_)
  rotate_left
  ·obtain rfl:=none_left hL hc
   refine gaa ?_
   exact retB (nm:=[]) hj (rC (rA rfl zm0 rfl zsr) rN) (by rw[←hI2,errSs];rfl)
  obtain ⟨a,l2,rfl⟩:=more hL hc
  have ham:ndS a≤ndSs l:=ndSs_mem (by rw[hL];exact List.mem_append_right _ (List.mem_cons_self ..))
  obtain ⟨kind,name,index,value,thn,els⟩:=a
  have hfm:=form_spec (B0:=B0) (w0:=w0) (.mk kind name index value thn els)
  rw[encS_mk] at hfm
  rw[errSs,errS] at hI2
  rw[ndS] at ham
  refine gal ?_
  refine oP (xR (el':=.agg [int .i64 kind,str name,.list (index.map encE),.list (value.map encE),.list (thn.map encS),.list (els.map encS)]) (cs:=[_,_,_,_,_,_]) rfl rfl zo (by rw[hL,←encS_mk];exact get_mid encS pre _ l2) rfl rfl) rfl ?_
  refine gab ?_
  refine oS (S.alloc fun b6=>?_) rfl
  refine gaa ?_
  refine oS (S.fn [_] rfl hfm ?_) rfl
  refine gab ?_
  by_cases hf:formS (.mk kind name index value thn els)=false
  ·rw[if_pos hf] at hI2
   refine oC rfl (fun _=>?_) (fun hd=>?_)
   rotate_left
   ·have h2:(!formS (.mk kind name index value thn els))=false:=hd
    rw[hf] at h2
    cases h2
   refine gaa ?_
   exact retB (nm:=own) hj (rC (rA rfl zm0 rfl zsr) rN) (by rw[←hI2];rfl)
  rw[if_neg hf] at hI2
  refine oC rfl (fun hd=>?_) (fun _=>?_)
  ·have h2:(!formS (.mk kind name index value thn els))=true:=hd
   rw[Bool.not_eq_true'] at h2
   exact absurd h2 hf
  have hvi:(value++index).length≤100000000:=by
   have g1:=ndEs_len value
   have g2:=ndEs_len index
   rw[List.length_append]
   omega
  rw[List.length_append] at hvi
  have hI3:orE (errEs c (value++index)) (orE (if kind=1 then scalarE c name else if kind=2 then arrayE c name else 0) (orE (errSs c thn) (orE (errSs c els) (errSs c l2))))=E:=by
   rw[errEs_app,←hI2]
   simp only[orE_assoc]
  clear hI2
  refine gad ?_
  refine LCode.draw (m:=9) rfl [smH b6 kind name index value thn els] ?_
  refine aT 1 rfl rfl (Pure.fieldH rfl) ?_
  refine aT 2 rfl rfl (Pure.loadH (c:=.list _) rfl zm0 rfl) ?_
  refine aT 4 rfl rfl (Pure.fieldH rfl) ?_
  refine aT 5 rfl rfl (Pure.loadH (c:=.list _) rfl zm0 rfl) ?_
  refine aT 8 rfl rfl (Pure.mv (lv:=.atom _) rfl) ?_
  refine LAny.late ?_ zhp
  refine lO 0 (lS (H1:=[]) rfl (.inl rfl) rfl zpr zhp (S.litA (es:=[]) [] rfl eN rfl rfl rfl fun b7=>?_))
  refine lO 3 (lS (H1:=[(b7,.row 0)]) rfl (.inl rfl) rfl zpr zhp (S.acc (F:=[]) rfl Acc.row rfl (encE_len _) (encE_ok _) (by simp;omega) fun v1 H1 h1=>?_))
  refine lO 6 (lS (H1:=H1) rfl (.inl rfl) rfl zpr zhp (S.acc (F:=[]) rfl h1 rfl (encE_len _) (encE_ok _) (by simp;omega) fun v2 H2 h2=>?_))
  have e2:([]++value.map encE++index.map encE:List LV)=(value++index).map encE:=by simp
  rw[e2] at h2
  refine lO 7 (lH rfl rfl (Pure.llen (h2.elems)) ?_)
  refine lD zk ?_
  refine gad ?_
  refine LCode.sub (d:=29) rfl h2.sub ?_
  refine LCode.weak (H':=[smH b6 kind name index value thn els,pbH b4 [] 0,scH b2 own c fs]) ⟨H2,List.perm_append_comm⟩ ?_
  have hll:((value++index).map encE).length=value.length+index.length:=by simp
  refine oL (fun kk ls H'=>∃ (pre2 l3:List Ex),value++index=pre2++l3∧kk=l3.length∧ls=[(2,ptr b2 0),(4,ptr b4 0),(6,ptr b6 0),(11,.list (l.map encS)),(12,int .i64 ((l.map encS).length:Int)),(13,int .i64 (pre.length:Int)),(29,.list ((value++index).map encE)),(30,int .i64 (((value++index).map encE).length:Int)),(31,int .i64 (pre2.length:Int))] ∧
    H'=[smH b6 kind name index value thn els,pbH b4 [] 0,scH b2 own c fs]∧orE (errEs c l3) (orE (if kind=1 then scalarE c name else if kind=2 then arrayE c name else 0) (orE (errSs c thn) (orE (errSs c els) (errSs c l2))))=E)
   ⟨_,_,_,⟨[],value++index,rfl,rfl,rfl,rfl,hI3⟩,⟨rfl,rfl,rfl,rfl,rfl,rfl,rfl,rfl,rfl,trivial⟩,HSub.refl _⟩ ?_
  rintro kk ls H' ⟨pre2,l3,hL2,rfl,rfl,rfl,hI4⟩ j2 hj2
  have hb2:=pre_le hL2 (show (value++index).length≤100000000 by rw[List.length_append];omega)
  refine gak ?_
  refine oC rfl (fun hc2=>?_) (fun hc2=>?_)
  ·obtain ⟨a,l4,rfl⟩:=more hL2 hc2
   have ham2:ndE a≤ndEs (value++index):=ndEs_mem (by rw[hL2];exact List.mem_append_right _ (List.mem_cons_self ..))
   rw[ndEs_app] at ham2
   rw[errEs,orE_assoc] at hI4
   refine gal ?_
   refine oP (xR (el':=encE a) (cs:=[_,_,_,_]) rfl rfl zo (by rw[hL2];exact get_mid encE pre2 a l4) rfl rfl) rfl ?_
   refine gax ?_
   refine oS (S.alloc fun b8=>?_) rfl
   refine gaa ?_
   refine oS (S.pb [_,_] rfl (hex' a zo) fun nm=>?_) rfl
   refine oS (S.alloc fun b9=>?_) rfl
   refine gaa ?_
   by_cases h1:errE c a=0
   ·rw[h1] at hI4 ⊢
    refine oC rfl (fun hd=>by cases hd) (fun _=>?_)
    refine gar ?_
    exact ⟨l4.length,_,_,Nat.lt_succ_self _,⟨pre2++[a],l4,snoc hL2,rfl,rfl,rfl,hI4⟩,⟨rfl,rfl,rfl,rfl,rfl,rfl,rfl,rfl,int_eq (by simp),trivial⟩,zhD (zhD zhr),hj2⟩
   ·refine oC rfl (fun _=>?_) (fun hd=>?_)
    rotate_left
    ·have h2:(!decide (errE c a=0))=false:=hd
     simp at h2
     exact absurd h2 h1
    rw[orE_ne h1] at hI4
    refine gaa ?_
    exact retB (nm:=nm) (hj2.trans hj) (rC (rA (k:=2) rfl zm0 rfl zsr) rN) (by rw[←hI4];rfl)
  obtain rfl:=none_left hL2 hc2
  have hI5:orE (if kind=1 then scalarE c name else if kind=2 then arrayE c name else 0) (orE (errSs c thn) (orE (errSs c els) (errSs c l2)))=E:=hI4
  refine gaa ?_
  refine oS (S.alloc fun b10=>?_) rfl
  refine gaa ?_
  refine LCode.mid (A:=Nm) (fun _=>[(2,ptr b2 0),(4,ptr b4 0),(6,ptr b6 0),(10,ptr b10 0),(11,.list (l.map encS)),(12,int .i64 ((l.map encS).length:Int)),(13,int .i64 (pre.length:Int))]) (fun nm=>[pbH b10 nm (if kind=1 then scalarE c name else 0),smH b6 kind name index value thn els,pbH b4 [] 0,scH b2 own c fs]) (fun _=>True) ?_ ?_
  ·by_cases k1:kind=1
   ·refine oC rfl (fun _=>?_) (fun hd=>absurd k1 (zf hd))
    refine gaa ?_
    refine oS (S.pb [_,_] rfl (scalar_spec (own:=own) h name) fun nm=>?_) rfl
    refine gab ?_
    exact ⟨nm,trivial,⟨rfl,rfl,rfl,rfl,rfl,rfl,rfl,trivial⟩,by rw[if_pos k1],rfl⟩
   ·refine oC rfl (fun hd=>absurd (zt hd) k1) (fun _=>?_)
    refine gav ?_
    exact ⟨[],trivial,⟨rfl,rfl,rfl,rfl,rfl,rfl,rfl,trivial⟩,by rw[if_neg k1],rfl⟩
  rintro nm1 _ j3 hj3
  refine gaa ?_
  refine LCode.mid (A:=Nm) (fun _=>[(2,ptr b2 0),(4,ptr b4 0),(6,ptr b6 0),(10,ptr b10 0),(11,.list (l.map encS)),(12,int .i64 ((l.map encS).length:Int)),(13,int .i64 (pre.length:Int))]) (fun nm=>[pbH b10 nm (if kind=1 then scalarE c name else if kind=2 then arrayE c name else 0),smH b6 kind name index value thn els,pbH b4 [] 0,scH b2 own c fs]) (fun _=>True) ?_ ?_
  ·by_cases k2:kind=2
   ·refine oC rfl (fun _=>?_) (fun hd=>absurd k2 (zf hd))
    refine gaa ?_
    refine oS (S.pb [_,_] rfl (indexed_spec (own:=own) h name) fun nm=>?_) rfl
    refine gab ?_
    exact ⟨nm,trivial,⟨rfl,rfl,rfl,rfl,rfl,rfl,rfl,trivial⟩,by rw[if_neg zo,if_pos k2],rfl⟩
   ·refine oC rfl (fun hd=>absurd (zt hd) k2) (fun _=>?_)
    refine gav ?_
    exact ⟨nm1,trivial,⟨rfl,rfl,rfl,rfl,rfl,rfl,rfl,trivial⟩,by rw[if_neg k2],rfl⟩
  rintro nm2 _ j4 hj4
  generalize (if kind=1 then scalarE c name else if kind=2 then arrayE c name else 0)=e1 at hI5 ⊢
  refine gac ?_
  refine LCode.mid (A:=Nm) (fun _=>[(2,ptr b2 0),(4,ptr b4 0),(6,ptr b6 0),(10,ptr b10 0),(11,.list (l.map encS)),(12,int .i64 ((l.map encS).length:Int)),(13,int .i64 (pre.length:Int))]) (fun nm=>[pbH b10 nm (orE e1 (errSs c thn)),smH b6 kind name index value thn els,pbH b4 [] 0,scH b2 own c fs]) (fun _=>True) ?_ ?_
  ·by_cases k3:e1=0
   ·refine oC rfl (fun _=>?_) (fun hd=>absurd k3 (zf hd))
    refine gaa ?_
    refine oS (S.pb [_,_] rfl (ih thn zo) fun nm=>?_) rfl
    refine gab ?_
    exact ⟨nm,trivial,⟨rfl,rfl,rfl,rfl,rfl,rfl,rfl,trivial⟩,by rw[k3];rfl,rfl⟩
   ·refine oC rfl (fun hd=>absurd (zt hd) k3) (fun _=>?_)
    refine gav ?_
    exact ⟨nm2,trivial,⟨rfl,rfl,rfl,rfl,rfl,rfl,rfl,trivial⟩,by rw[orE_ne k3],rfl⟩
  rintro nm3 _ j5 hj5
  rw[←orE_assoc] at hI5
  generalize orE e1 (errSs c thn)=e2 at hI5 ⊢
  refine gac ?_
  refine LCode.mid (A:=Nm) (fun _=>[(2,ptr b2 0),(4,ptr b4 0),(6,ptr b6 0),(10,ptr b10 0),(11,.list (l.map encS)),(12,int .i64 ((l.map encS).length:Int)),(13,int .i64 (pre.length:Int))]) (fun nm=>[pbH b10 nm (orE e2 (errSs c els)),smH b6 kind name index value thn els,pbH b4 [] 0,scH b2 own c fs]) (fun _=>True) ?_ ?_
  ·by_cases k3:e2=0
   ·refine oC rfl (fun _=>?_) (fun hd=>absurd k3 (zf hd))
    refine gaa ?_
    refine oS (S.pb [_,_] rfl (ih els zo) fun nm=>?_) rfl
    refine gab ?_
    exact ⟨nm,trivial,⟨rfl,rfl,rfl,rfl,rfl,rfl,rfl,trivial⟩,by rw[k3];rfl,rfl⟩
   ·refine oC rfl (fun hd=>absurd (zt hd) k3) (fun _=>?_)
    refine gav ?_
    exact ⟨nm3,trivial,⟨rfl,rfl,rfl,rfl,rfl,rfl,rfl,trivial⟩,by rw[orE_ne k3],rfl⟩
  rintro nm4 _ j6 hj6
  rw[←orE_assoc] at hI5
  generalize orE e2 (errSs c els)=e3 at hI5 ⊢
  have hjj:=((hj6.trans hj5).trans (hj4.trans hj3)).trans hj2
  refine gaa ?_
  by_cases k3:e3=0
  ·subst k3
   refine oC rfl (fun hd=>by cases hd) (fun _=>?_)
   refine gar ?_
   exact ⟨l2.length,_,_,Nat.lt_succ_self _,⟨pre++[_],l2,snoc hL,rfl,rfl,rfl,hI5⟩,⟨rfl,rfl,rfl,rfl,int_eq (by simp),trivial⟩,zhD (zhD zhr),hjj.trans hj⟩
  ·refine oC rfl (fun _=>?_) (fun hd=>?_)
   rotate_left
   ·have h2:(!decide (e3=0))=false:=hd
    simp at h2
    exact absurd h2 k3
   rw[orE_ne k3] at hI5
   refine gaa ?_
   exact retB (nm:=nm4) (hjj.trans hj) (rC (rA (k:=2) rfl zm0 rfl zsr) rN) (by rw[hI5];rfl)
end
end Go.Proofs.YtcbpcianefpniaaGreatDoor.RC
namespace Go.Proofs.YtcbpcianefpniaaGreatDoor.RC
open Go.GL Go.RowKit Go.Stele
set_option maxRecDepth 100000
set_option maxHeartbeats 4000000
@[reducible] def iv (n:Nat):LV:=int .i64 (n:Int)
def mostN:List Nat→Nat
 |[]=>0
 |a::l=>l.foldl max a
theorem iv_len (l:List Nat):∀ v∈l.map iv,v.cells.length=1:=fun v hv=>by
 obtain ⟨x,_,rfl⟩:=List.mem_map.1 hv
 rfl
theorem iv_ok (l:List Nat):((l.map iv).flatMap LV.cells).all cellOk=true:=by
 induction l with
 |nil=>rfl
 |cons a l ih=>
  simp only[List.map_cons,List.flatMap_cons,List.all_append,ih,Bool.and_true]
  rfl
theorem iv_els (l:List Nat):elemsOk 1 (l.map iv):=fun v hv=>by
 obtain ⟨x,_,rfl⟩:=List.mem_map.1 hv
 exact ⟨rfl,rfl⟩
theorem iv_eq {a b:Nat} (h:a=b):iv a=iv b:=by rw[h]
theorem needEs_snoc (c:CEnv) (x:Ex):∀ l:List Ex,needEs c (l++[x])=needEs c l++[needE c x]
 |[]=>rfl
 |y::l=>by
  show needEs c (y::(l++[x]))=_
  rw[needEs,needEs_snoc c x l,needEs]
  rfl
attribute [local irreducible] LOps LCode LStep LCalls Go.GL.Pure QThen QBlock RetPost LQ LAny LLate LLateOp LS
section
variable {B0:Nat} {w0:World}
theorem most_spec (a:Nat) (r:List Nat) (hl:r.length≤1000):LCalls (KC B0 w0) 105 [.list ((a::r).map iv)] [] (Ret (iv (mostN (a::r)))):=by
 generalize hA:a::r=A
 have hAl:A.length≤1001:=by rw[←hA,List.length_cons];omega
 refine cI Tryz.func105 rfl (n:=21) rfl rfl rfl ?_
 refine gac ?_
 refine oP (xR (el':=iv a) (cs:=[_]) rfl rfl zo (by rw[←hA];rfl) rfl rfl) rfl ?_
 refine gaa ?_
 refine oL (fun k ls H'=>∃ pre l1,A=pre++l1∧k=l1.length∧ls=[(3,iv (pre.foldl max a)),(9,.list (A.map iv)),(10,int .i64 ((A.map iv).length:Int)),(11,int .i64 (pre.length:Int))]∧H'=[])
  ⟨_,_,_,⟨[],A,rfl,rfl,rfl,rfl⟩,⟨rfl,rfl,rfl,rfl,trivial⟩,HSub.refl _⟩ ?_
 rintro k ls H' ⟨pre,l1,hL,rfl,rfl,rfl⟩ j hj
 have hb:=pre_le hL hAl
 refine gak ?_
 refine oC rfl (fun hc=>?_) (fun hc=>?_)
 ·obtain ⟨x,l2,rfl⟩:=more hL hc
  refine gal ?_
  refine oP (xR (el':=iv x) (cs:=[_]) rfl rfl zo (by rw[hL];exact get_mid iv pre x l2) rfl rfl) rfl ?_
  refine gaa ?_
  refine oC rfl (fun hd=>?_) (fun hd=>?_)
  ·have h1:=zt hd
   refine gac ?_
   exact ⟨l2.length,_,_,Nat.lt_succ_self _,⟨pre++[x],l2,snoc hL,rfl,rfl,rfl⟩,⟨iv_eq (by rw[List.foldl_append];show x=max (pre.foldl max a) x;omega),rfl,rfl,int_eq (by simp),trivial⟩,HSub.refl _,hj⟩
  ·have h1:=zf hd
   refine gar ?_
   exact ⟨l2.length,_,_,Nat.lt_succ_self _,⟨pre++[x],l2,snoc hL,rfl,rfl,rfl⟩,⟨iv_eq (by rw[List.foldl_append];show pre.foldl max a=max (pre.foldl max a) x;omega),rfl,rfl,int_eq (by simp),trivial⟩,HSub.refl _,hj⟩
 ·obtain rfl:=none_left hL hc
  rw[List.append_nil] at hL
  refine gac ?_
  exact retRet hj (zra rfl) (iv_eq (by rw[←hL,←hA];show (r.foldl max (max a a))=_;rw[Nat.max_self];rfl))
def NeedH (B0:Nat) (w0:World) (c:CEnv) (fs:List FnD) (n:Nat):Prop:=∀ x:Ex,errE c x=0→ndE x<n→LCalls (KC B0 w0) 155 [encE x,.list (fs.map encFn),.list ((c.funcs.map (·.need)).map iv)] [] (Ret (iv (needE c x)))
theorem Need_spec {c:CEnv} {fs:List FnD} (hfl:fs.length≤100000000) (hfn:c.funcs.map (·.name)=fs.map (·.name)) (hd:Dist c.funcs) {B D:Nat} (hB:KnB B D c.funcs) (hB8:B≤100000000):∀ n:Nat,n≤100000000→NeedH B0 w0 c fs n
 |0,_=>fun x _ h=>by omega
 |n+1,hn6=>by
  have ih:=Need_spec hfl hfn hd hB hB8 n zo
  intro x herr hnd
  obtain ⟨op,num,name,args⟩:=x
  rw[ndE] at hnd
  have hal:=ndEs_len args
  rw[errE] at herr
  have hop:opnds op = -1∨opnds op=(args.length:Int):=Decidable.byContradiction fun h=>by rw[if_neg h] at herr;cases herr
  rw[if_pos hop] at herr
  obtain ⟨hea,hue⟩:=orE_zero.1 herr
  have hea0:=hea
  generalize hR:iv (needE c (.mk op num name args))=R
  rw[needE] at hR
  rw[encE_mk]
  refine cI Tryz.func155 rfl (n:=156) rfl rfl rfl ?_
  refine gag ?_
  refine oS (S.box rfl fun b3=>?_) rfl
  refine gai ?_
  refine oS (S.litA (es:=[]) [] rfl eN rfl rfl rfl fun b7=>?_) rfl
  refine gaa ?_
  refine oL (fun kk ls H'=>∃ (pre l1:List Ex) (v:LV) (Ha:Heap),args=pre++l1∧kk=l1.length∧ls=[(1,.list (fs.map encFn)),(2,.list ((c.funcs.map (·.need)).map iv)),(3,ptr b3 0),(7,v),(16,.list (args.map encE)),(17,int .i64 ((args.map encE).length:Int)),(18,int .i64 (pre.length:Int))] ∧
    H'=exH b3 op num name args::Ha∧GL.Acc 1 v ((needEs c pre).map iv) Ha []∧errEs c l1=0)
   ⟨_,_,_,⟨[],args,.app b7 0 1 [],[(b7,.row 0)],rfl,rfl,rfl,rfl,Acc.row,hea⟩,⟨rfl,rfl,rfl,rfl,rfl,rfl,rfl,trivial⟩,⟨[],by simpa using List.Perm.swap _ _ _⟩⟩ ?_
  rintro kk ls H' ⟨pre,l1,v,Ha,hL,rfl,rfl,rfl,hacc,hI2⟩ j hj
  have hb:=pre_le hL (show args.length≤100000000 by omega)
  refine gak ?_
  refine oC rfl (fun hc=>?_) (fun hc=>?_)
  ·obtain ⟨a,l2,rfl⟩:=more hL hc
   have ham:ndE a≤ndEs args:=ndEs_mem (by rw[hL];exact List.mem_append_right _ (List.mem_cons_self ..))
   rw[errEs] at hI2
   obtain ⟨h1,h2⟩:=orE_zero.1 hI2
   refine gal ?_
   refine oP (xR (el':=encE a) (cs:=[_,_,_,_]) rfl rfl zo (by rw[hL];exact get_mid encE pre a l2) rfl rfl) rfl ?_
   refine gax ?_
   refine oS (S.alloc fun b9=>?_) rfl
   refine gaa ?_
   refine oP (Pure.mv (lv:=v) rfl) rfl ?_
   refine gab ?_
   refine oS (S.fn [_,_,_] rfl (ih a h1 zo) ?_) rfl
   refine oS (S.lit (es:=[needE c a].map iv) [_] rfl (eC rfl rfl eN) rfl rfl rfl ?_) rfl
   have hnl:(needEs c pre).length=pre.length:=needEs_len c pre
   refine oS (S.accF (A:=[_,_]) (H1:=Ha) (List.perm_append_comm (l₁:=[_,_])) rfl hacc rfl (iv_len _) (iv_ok _) (by rw[List.length_map,List.length_map,List.length_singleton];omega) fun v2 H2 hacc2=>?_) rfl
   refine oP (Pure.as (lv:=v2) rfl) rfl ?_
   refine gaw ?_
   exact ⟨l2.length,_,_,Nat.lt_succ_self _,⟨pre++[a],l2,v2,H2,snoc hL,rfl,rfl,rfl,by rw[needEs_snoc,List.map_append];exact hacc2,h2⟩,⟨rfl,rfl,rfl,rfl,rfl,rfl,int_eq (by simp),trivial⟩,zhD zhr,hj⟩
  obtain rfl:=none_left hL hc
  rw[List.append_nil] at hL
  subst hL
  clear hI2
  refine gad ?_
  refine LCode.sub (d:=7) rfl hacc.sub ?_
  refine LCode.weak (H':=[exH b3 op num name args]) ⟨Ha,List.Perm.refl _⟩ ?_
  have hnE:∀ x∈args,needE c x≤500000000:=fun x hx=>by
   have h1:=needE_le B D c hB x
   have h2:=ndEs_mem hx
   omega
  have two:∀ {k:Int},opnds op=k→0≤k→args.length=k.toNat:=fun {k} h h0=>by
   rcases hop with h1|h1 <;> omega
  refine gac ?_
  by_cases h1:op=[110,117,109]
  ·subst h1
   refine oC rfl (fun _=>?_) (fun hc=>by cases hc)
   refine gav ?_
   refine oC rfl (fun _=>?_) (fun hc=>by cases hc)
   refine gap ?_
   exact retRet hj (zra rfl) hR
  refine oC rfl (fun hc=>absurd (zt hc) h1) (fun _=>?_)
  refine gai ?_
  by_cases h2:op=[118,97,114]
  ·subst h2
   refine oC rfl (fun _=>?_) (fun hc=>by cases hc)
   refine gap ?_
   exact retRet hj (zra rfl) hR
  refine oC rfl (fun hc=>absurd (zt hc) h2) (fun _=>?_)
  refine gai ?_
  by_cases h3:op=[101,108,101,109]
  ·subst h3
   obtain ⟨x,rfl⟩:=List.length_eq_one_iff.1 (two rfl (by decide))
   have hx:=hnE x (List.mem_cons_self ..)
   refine oC rfl (fun _=>?_) (fun hc=>by cases hc)
   refine gav ?_
   refine oC rfl (fun _=>?_) (fun hc=>by cases hc)
   refine gac ?_
   refine oP (xR (el':=iv (needE c x)) (cs:=[_]) rfl rfl zo rfl rfl rfl) rfl ?_
   refine gab ?_
   exact retRet hj (zra rfl) (by rw[←hR];exact int_eq (by simp[opN,nNum,nVar,nElem,nNeg,needEs]))
  refine oC rfl (fun hc=>absurd (zt hc) h3) (fun _=>?_)
  refine gai ?_
  by_cases h4:op=[110,101,103]
  ·subst h4
   obtain ⟨x,rfl⟩:=List.length_eq_one_iff.1 (two rfl (by decide))
   have hx:=hnE x (List.mem_cons_self ..)
   refine oC rfl (fun _=>?_) (fun hc=>by cases hc)
   refine gac ?_
   refine oP (xR (el':=iv (needE c x)) (cs:=[_]) rfl rfl zo rfl rfl rfl) rfl ?_
   refine gab ?_
   exact retRet hj (zra rfl) (by rw[←hR];exact int_eq (by simp[opN,nNum,nVar,nElem,nNeg,needEs]))
  refine oC rfl (fun hc=>absurd (zt hc) h4) (fun _=>?_)
  refine gai ?_
  by_cases h5:op=[110,111,116]
  ·subst h5
   obtain ⟨x,rfl⟩:=List.length_eq_one_iff.1 (two rfl (by decide))
   refine oC rfl (fun _=>?_) (fun hc=>by cases hc)
   refine gac ?_
   refine oP (xR (el':=iv (needE c x)) (cs:=[_]) rfl rfl zo rfl rfl rfl) rfl ?_
   refine gab ?_
   refine oS (S.lit (es:=[2,needE c x].map iv) [_,_] rfl (iv_els _) rfl rfl rfl ?_) rfl
   refine oS (S.fn [_] rfl (most_spec 2 [needE c x] (by simp)) ?_) rfl
   refine gan ?_
   exact retRet hj (zra rfl) (by rw[←hR];rfl)
  refine oC rfl (fun hc=>absurd (zt hc) h5) (fun _=>?_)
  refine gai ?_
  have hbin:op≠[99,97,108,108]→args.length=2:=fun h6=>by
   unfold opnds at hop
   rw[if_neg (fun h=>h.elim h1 h2),if_neg (fun h=>h.elim h3 (fun h=>h.elim h4 h5)),if_neg (show ¬ op=nCall from h6)] at hop
   split at hop <;> rcases hop with h|h <;> omega
  have pair:op≠[99,97,108,108]→∃ x y,args=[x,y]:=fun h6=>by
   have:=hbin h6
   match args,this with
   |[x,y],_=>exact ⟨x,y,rfl⟩
  by_cases h6:op=[62]
  ·subst h6
   obtain ⟨x,y,rfl⟩:=pair (by decide)
   have hx:=hnE x (List.mem_cons_self ..)
   have hy:=hnE y (List.mem_cons_of_mem _ (List.mem_cons_self ..))
   refine oC rfl (fun _=>?_) (fun hc=>by cases hc)
   refine gav ?_
   refine oC rfl (fun _=>?_) (fun hc=>by cases hc)
   refine gad ?_
   refine LCode.tail 7 zk ?_
   refine gab ?_
   refine LS.pure (xR (el':=iv (needE c x)) (cs:=[_]) rfl rfl zo rfl rfl rfl) rfl ?_
   refine gab ?_
   refine LS.pure (xR (el':=iv (needE c y)) (cs:=[_]) rfl rfl zo rfl rfl rfl) rfl ?_
   refine gab ?_
   refine oS (S.lit (es:=[3,needE c x,1+needE c y].map iv) [_,_,_] rfl (iv_els _) rfl rfl rfl ?_) rfl
   refine oS (S.fn [_] rfl (most_spec 3 [needE c x,1+needE c y] (by simp)) ?_) rfl
   refine gan ?_
   exact retRet hj (zra rfl) (by rw[←hR];rfl)
  refine oC rfl (fun hc=>absurd (zt hc) h6) (fun _=>?_)
  refine gai ?_
  by_cases h7:op=[60,61]
  ·subst h7
   obtain ⟨x,y,rfl⟩:=pair (by decide)
   have hx:=hnE x (List.mem_cons_self ..)
   have hy:=hnE y (List.mem_cons_of_mem _ (List.mem_cons_self ..))
   refine oC rfl (fun _=>?_) (fun hc=>by cases hc)
   refine gad ?_
   refine LCode.tail 7 zk ?_
   refine gab ?_
   refine LS.pure (xR (el':=iv (needE c x)) (cs:=[_]) rfl rfl zo rfl rfl rfl) rfl ?_
   refine gab ?_
   refine LS.pure (xR (el':=iv (needE c y)) (cs:=[_]) rfl rfl zo rfl rfl rfl) rfl ?_
   refine gab ?_
   refine oS (S.lit (es:=[3,needE c x,1+needE c y].map iv) [_,_,_] rfl (iv_els _) rfl rfl rfl ?_) rfl
   refine oS (S.fn [_] rfl (most_spec 3 [needE c x,1+needE c y] (by simp)) ?_) rfl
   refine gan ?_
   exact retRet hj (zra rfl) (by rw[←hR];rfl)
  refine oC rfl (fun hc=>absurd (zt hc) h7) (fun _=>?_)
  refine gai ?_
  by_cases h8:op=[33,61]
  ·subst h8
   obtain ⟨x,y,rfl⟩:=pair (by decide)
   have hx:=hnE x (List.mem_cons_self ..)
   have hy:=hnE y (List.mem_cons_of_mem _ (List.mem_cons_self ..))
   refine oC rfl (fun _=>?_) (fun hc=>by cases hc)
   refine gad ?_
   refine LCode.tail 8 zk ?_
   refine gab ?_
   refine LS.pure (xR (el':=iv (needE c x)) (cs:=[_]) rfl rfl zo rfl rfl rfl) rfl ?_
   refine gab ?_
   refine LS.pure (xR (el':=iv (needE c y)) (cs:=[_]) rfl rfl zo rfl rfl rfl) rfl ?_
   refine gab ?_
   refine oS (S.lit (es:=[3,1+needE c x,2+needE c y].map iv) [_,_,_] rfl (iv_els _) rfl rfl rfl ?_) rfl
   refine oS (S.fn [_] rfl (most_spec 3 [1+needE c x,2+needE c y] (by simp)) ?_) rfl
   refine gan ?_
   exact retRet hj (zra rfl) (by rw[←hR];rfl)
  refine oC rfl (fun hc=>absurd (zt hc) h8) (fun _=>?_)
  refine gai ?_
  by_cases h9:op=[38,38]
  ·subst h9
   obtain ⟨x,y,rfl⟩:=pair (by decide)
   have hx:=hnE x (List.mem_cons_self ..)
   have hy:=hnE y (List.mem_cons_of_mem _ (List.mem_cons_self ..))
   refine oC rfl (fun _=>?_) (fun hc=>by cases hc)
   refine gad ?_
   refine LCode.tail 8 zk ?_
   refine gab ?_
   refine LS.pure (xR (el':=iv (needE c x)) (cs:=[_]) rfl rfl zo rfl rfl rfl) rfl ?_
   refine gab ?_
   refine LS.pure (xR (el':=iv (needE c y)) (cs:=[_]) rfl rfl zo rfl rfl rfl) rfl ?_
   refine gab ?_
   refine oS (S.lit (es:=[1+needE c x,2+needE c y].map iv) [_,_] rfl (iv_els _) rfl rfl rfl ?_) rfl
   refine oS (S.fn [_] rfl (most_spec (1+needE c x) [2+needE c y] (by simp)) ?_) rfl
   refine gan ?_
   exact retRet hj (zra rfl) (by rw[←hR];rfl)
  refine oC rfl (fun hc=>absurd (zt hc) h9) (fun _=>?_)
  refine gai ?_
  by_cases h10:op=[124,124]
  ·subst h10
   obtain ⟨x,y,rfl⟩:=pair (by decide)
   have hx:=hnE x (List.mem_cons_self ..)
   have hy:=hnE y (List.mem_cons_of_mem _ (List.mem_cons_self ..))
   refine oC rfl (fun _=>?_) (fun hc=>by cases hc)
   refine gad ?_
   refine LCode.tail 8 zk ?_
   refine gab ?_
   refine LS.pure (xR (el':=iv (needE c x)) (cs:=[_]) rfl rfl zo rfl rfl rfl) rfl ?_
   refine gab ?_
   refine LS.pure (xR (el':=iv (needE c y)) (cs:=[_]) rfl rfl zo rfl rfl rfl) rfl ?_
   refine gab ?_
   refine oS (S.lit (es:=[2+needE c x,3+needE c y].map iv) [_,_] rfl (iv_els _) rfl rfl rfl ?_) rfl
   refine oS (S.fn [_] rfl (most_spec (2+needE c x) [3+needE c y] (by simp)) ?_) rfl
   refine gan ?_
   exact retRet hj (zra rfl) (by rw[←hR];rfl)
  refine oC rfl (fun hc=>absurd (zt hc) h10) (fun _=>?_)
  refine gai ?_
  by_cases h11:op=[99,97,108,108]
  rotate_left
  ·obtain ⟨x,y,rfl⟩:=pair h11
   have hx:=hnE x (List.mem_cons_self ..)
   have hy:=hnE y (List.mem_cons_of_mem _ (List.mem_cons_self ..))
   have hR2:iv (mostN [2,needE c x,1+needE c y])=R:=by
    rw[←hR]
    unfold opN
    rw[if_neg (fun h=>h.elim h1 h2),if_neg (fun h=>h.elim h3 h4),if_neg (show ¬ op=nCall from h11),if_neg (show ¬ op=nNot from h5),if_neg (fun h=>h.elim h6 h7),if_neg h8,if_neg h9,if_neg h10]
    rfl
   refine oC rfl (fun hc=>absurd (zt hc) h11) (fun _=>?_)
   refine gad ?_
   refine LCode.tail 7 zk ?_
   refine gab ?_
   refine LS.pure (xR (el':=iv (needE c x)) (cs:=[_]) rfl rfl zo rfl rfl rfl) rfl ?_
   refine gab ?_
   refine LS.pure (xR (el':=iv (needE c y)) (cs:=[_]) rfl rfl zo rfl rfl rfl) rfl ?_
   refine gab ?_
   refine oS (S.lit (es:=[2,needE c x,1+needE c y].map iv) [_,_,_] rfl (iv_els _) rfl rfl rfl ?_) rfl
   refine oS (S.fn [_] rfl (most_spec 2 [needE c x,1+needE c y] (by simp)) ?_) rfl
   refine gaf ?_
   exact retRet hj (zra rfl) hR2
  subst h11
  have hcl:callE c name args.length=0:=hue
  have hcall:iv (refCall c name (needEs c args))=R:=by
   rw[←hR,refCall_eq hd (by rw[needEs_len];exact hcl)]
   rfl
  unfold refCall at hcall
  refine oC rfl (fun _=>?_) (fun hc=>by cases hc)
  refine gac ?_
  by_cases h12:name=[105,110]
  ·subst h12
   refine oC rfl (fun _=>?_) (fun hc=>by cases hc)
   refine gap ?_
   exact retRet hj (zra rfl) hcall
  rw[if_neg h12] at hcall
  refine oC rfl (fun hc=>absurd (zt hc) h12) (fun _=>?_)
  refine gac ?_
  by_cases h13:name=[111,117,116]
  ·subst h13
   obtain ⟨x,rfl⟩:=List.length_eq_one_iff.1 (show args.length=1 by
    unfold callE at hcl
    rw[if_neg (by decide),if_pos rfl] at hcl
    exact Decidable.byContradiction fun h=>by rw[if_neg h] at hcl;cases hcl)
   refine oC rfl (fun _=>?_) (fun hc=>by cases hc)
   refine gac ?_
   refine oP (xR (el':=iv (needE c x)) (cs:=[_]) rfl rfl zo rfl rfl rfl) rfl ?_
   refine gab ?_
   exact retRet hj (zra rfl) hcall
  rw[if_neg h13] at hcall
  refine oC rfl (fun hc=>absurd (zt hc) h13) (fun _=>?_)
  have hns:∀ q∈needEs c args,q≤500000000:=fun q hq=>by
   have:∀ l:List Ex,(∀ x∈l,needE c x≤500000000)→∀ q∈needEs c l,q≤500000000:=fun l=>by
    induction l with
    |nil=>intro _ q hq;rw[needEs] at hq;cases hq
    |cons y l ih=>
     intro h q hq
     rw[needEs] at hq
     rcases List.mem_cons.1 hq with rfl|hq
     ·exact h y (List.mem_cons_self ..)
     ·exact ih (fun x hx=>h x (List.mem_cons_of_mem _ hx)) q hq
   exact this args hnE q hq
  have hnl:(needEs c args).length=args.length:=needEs_len c args
  have hnsl:(needEs c args).length≤100000000:=by omega
  generalize needEs c args=ns at hcall hns hnl hnsl ⊢
  have hmn:((ns.map iv).length:Int)≤100000000:=by rw[List.length_map];omega
  refine gac ?_
  refine oL (fun kk ls H'=>∃ (pre l1:List Nat) (m:Nat),ns=pre++l1∧kk=l1.length∧ls=[(1,.list (fs.map encFn)),(2,.list ((c.funcs.map (·.need)).map iv)),(3,ptr b3 0),(7,.list (ns.map iv)),(10,iv m),(112,int .i64 ((ns.map iv).length:Int)),(113,int .i64 (pre.length:Int))] ∧
    H'=[exH b3 [99,97,108,108] num name args]∧stair 0 ns (ns.length+1)=stair pre.length l1 m)
   ⟨_,_,_,⟨[],ns,ns.length+1,rfl,rfl,rfl,rfl,rfl⟩,⟨rfl,rfl,rfl,rfl,int_eq (by simp),rfl,rfl,trivial⟩,HSub.refl _⟩ ?_
  rintro kk ls H' ⟨pre,l1,m,hL,rfl,rfl,rfl,hI2⟩ j2 hj2
  have hb:=pre_le hL hnsl
  refine gak ?_
  refine oC rfl (fun hc=>?_) (fun hc=>?_)
  ·obtain ⟨a,l2,rfl⟩:=more hL hc
   have ha:=hns a (by rw[hL];exact List.mem_append_right _ (List.mem_cons_self ..))
   rw[stair] at hI2
   refine gac ?_
   refine oP (xR (el':=iv a) (cs:=[_]) rfl rfl zo (by rw[hL];exact get_mid iv pre a l2) rfl rfl) rfl ?_
   refine gab ?_
   refine oS (S.lit (es:=[m,pre.length+a].map iv) [_,_] rfl (iv_els _) rfl rfl rfl ?_) rfl
   refine oS (S.fn [_] rfl (most_spec m [pre.length+a] (by simp)) ?_) rfl
   refine gac ?_
   exact ⟨l2.length,_,_,Nat.lt_succ_self _,⟨pre++[a],l2,max m (pre.length+a),snoc hL,rfl,rfl,rfl,by rw[hI2,List.length_append];rfl⟩,⟨rfl,rfl,rfl,rfl,rfl,rfl,int_eq (by simp),trivial⟩,HSub.refl _,hj2⟩
  obtain rfl:=none_left hL hc
  have hI3:stair 0 ns (ns.length+1)=m:=hI2
  rw[hI3] at hcall
  refine gac ?_
  refine oL (fun kk ls H'=>∃ (pre l1:List FnD) (cp cl:List FSum) (m:Nat),fs=pre++l1∧c.funcs=cp++cl∧cp.length=pre.length∧kk=l1.length∧ls=[(1,.list (fs.map encFn)),(2,.list ((c.funcs.map (·.need)).map iv)),(3,ptr b3 0),(10,iv m),(126,.list (fs.map encFn)),(127,int .i64 ((fs.map encFn).length:Int)),(128,int .i64 (pre.length:Int))] ∧
    H'=[exH b3 [99,97,108,108] num name args]∧cl.map (·.name)=l1.map (·.name)∧R=iv (overF (·.need) name cl m))
   ⟨_,_,_,⟨[],fs,[],c.funcs,m,rfl,rfl,rfl,rfl,rfl,rfl,hfn,hcall.symm⟩,⟨rfl,rfl,rfl,rfl,rfl,rfl,rfl,trivial⟩,HSub.refl _⟩ ?_
  rintro kk ls H' ⟨pre,l1,cp,cl,m,hL,hC,hcp,rfl,rfl,rfl,hcl,hI4⟩ j3 hj3
  have hb:=pre_le hL hfl
  refine gak ?_
  refine oC rfl (fun hc=>?_) (fun hc=>?_)
  ·obtain ⟨a,l2,rfl⟩:=more hL hc
   obtain ⟨s,cl,rfl⟩:∃ s l,cl=s::l:=by
    cases cl with
    |nil=>simp at hcl
    |cons s l=>exact ⟨s,l,rfl⟩
   rw[List.map_cons,List.map_cons] at hcl
   injection hcl with hs hcl
   have hget:((c.funcs.map (·.need)).map iv)[((pre.length:Nat):Int).toNat]? = some (iv s.need):=by
    rw[hC,List.map_map,←hcp]
    exact get_mid _ cp s cl
   refine gac ?_
   refine oP (xR (el':=encFn a) (cs:=[_,_,_,_]) rfl rfl zo (by rw[hL];exact get_mid encFn pre a l2) rfl rfl) rfl ?_
   refine gax ?_
   refine oS (S.alloc fun b13=>?_) rfl
   refine gaa ?_
   by_cases h14:a.name=name
   ·refine oC rfl (fun _=>?_) (fun hd=>absurd h14 (zf hd))
    refine gac ?_
    refine oP (xR (el':=iv s.need) (cs:=[_]) rfl rfl zo hget rfl rfl) rfl ?_
    refine gab ?_
    refine oS (S.lit (es:=[m,s.need].map iv) [_,_] rfl (iv_els _) rfl rfl rfl ?_) rfl
    refine oS (S.fn [_] rfl (most_spec m [s.need] (by simp)) ?_) rfl
    refine gac ?_
    exact ⟨l2.length,_,_,Nat.lt_succ_self _,⟨pre++[a],l2,cp++[s],cl,max m s.need,snoc hL,snoc hC,by simp[hcp],rfl,rfl,rfl,hcl,by rw[hI4];unfold overF;rw[List.foldl_cons,if_pos (hs.trans h14)]⟩,⟨rfl,rfl,rfl,rfl,rfl,rfl,int_eq (by simp),trivial⟩,zhD zhr,hj3⟩
   ·refine oC rfl (fun hd=>absurd (zt hd) h14) (fun _=>?_)
    refine gar ?_
    exact ⟨l2.length,_,_,Nat.lt_succ_self _,⟨pre++[a],l2,cp++[s],cl,m,snoc hL,snoc hC,by simp[hcp],rfl,rfl,rfl,hcl,by rw[hI4];unfold overF;rw[List.foldl_cons,if_neg (fun h=>h14 (hs.symm.trans h))]⟩,⟨rfl,rfl,rfl,rfl,rfl,rfl,int_eq (by simp),trivial⟩,zhD zhr,hj3⟩
  obtain rfl:=none_left hL hc
  have hcl0:cl=[]:=by
   cases cl with
   |nil=>rfl
   |cons s l=>simp at hcl
  subst hcl0
  refine gac ?_
  exact retRet ((hj3.trans hj2).trans hj) (zra rfl) hI4.symm
end
end Go.Proofs.YtcbpcianefpniaaGreatDoor.RC
namespace Go.Proofs.YtcbpcianefpniaaGreatDoor.RC
open Go.GL Go.RowKit Go.Stele
set_option maxRecDepth 100000
set_option maxHeartbeats 4000000
theorem lastN_snoc (c:CEnv) (pre:List Ex) (a:Ex):lastN (needEs c (pre++[a]))=needE c a:=by
 rw[needEs_snoc]
 unfold lastN
 rw[List.getLast?_append]
 rfl
theorem lastN_le {c:CEnv} {M:Nat} {l:List Ex} (h:∀ x∈l,needE c x≤M):lastN (needEs c l)≤M:=by
 rcases List.eq_nil_or_concat l with rfl|⟨pre,a,rfl⟩
 ·rw[needEs];exact Nat.zero_le _
 ·rw[List.concat_eq_append,lastN_snoc]
  exact h a (by simp)
theorem needS_by {c:CEnv} (hd:Dist c.funcs) {kind:Int} {name:Nm} {index value:List Ex} {thn els:List Sm} (h:errS c (.mk kind name index value thn els)=0) :
  needS c (.mk kind name index value thn els)=if kind=1∨kind=6 then max 2 (lastN (needEs c value)) else if kind=2 then max (lastN (needEs c value)) (2+lastN (needEs c index))
   else if kind=3∨kind=4 then max (max (max 2 (lastN (needEs c value))) (needSs c thn)) (needSs c els) else if kind=5 then lastN (needEs c value) else 0:=by
 rw[←refS_eq hd _ h]
 rw[errS] at h
 split at h
 ·cases h
 obtain ⟨h1,h⟩:=orE_zero.1 h
 obtain ⟨h2,h⟩:=orE_zero.1 h
 obtain ⟨_,h⟩:=orE_zero.1 h
 obtain ⟨h3,h4⟩:=orE_zero.1 h
 rw[refS,refEs_eq hd value h1,refEs_eq hd index h2,refSs_eq hd thn h3,refSs_eq hd els h4]
attribute [local irreducible] LOps LCode LStep LCalls Go.GL.Pure QThen QBlock RetPost LQ LAny LLate LLateOp LS
section
variable {B0:Nat} {w0:World}
def NeedsH (B0:Nat) (w0:World) (c:CEnv) (fs:List FnD) (n:Nat):Prop:=∀ l:List Sm,errSs c l=0→ndSs l<n→LCalls (KC B0 w0) 106 [.list (l.map encS),.list (fs.map encFn),.list ((c.funcs.map (·.need)).map iv)] [] (Ret (iv (needSs c l)))
theorem needs_spec {c:CEnv} {fs:List FnD} (hfl:fs.length≤100000000) (hfn:c.funcs.map (·.name)=fs.map (·.name)) (hd:Dist c.funcs) {B D:Nat} (hB:KnB B D c.funcs) (hB8:B≤100000000):∀ n:Nat,n≤100000000→NeedsH B0 w0 c fs n
 |0,_=>fun x _ h=>by omega
 |n+1,hn6=>by
  have ih:=needs_spec hfl hfn hd hB hB8 n zo
  have hN:NeedH B0 w0 c fs n:=Need_spec hfl hfn hd hB hB8 n zo
  intro l herr hnd
  have hal:=ndSs_len l
  generalize hR:needSs c l=R
  refine cI Tryz.func106 rfl (n:=88) rfl rfl rfl ?_
  refine gac ?_
  refine oL (fun kk ls H'=>∃ (pre l1:List Sm) (m:Nat),l=pre++l1∧kk=l1.length∧ls=[(1,.list (fs.map encFn)),(2,.list ((c.funcs.map (·.need)).map iv)),(7,iv m),(16,.list (l.map encS)),(17,int .i64 ((l.map encS).length:Int)),(18,int .i64 (pre.length:Int))] ∧
    H'=[]∧errSs c l1=0∧R=max m (needSs c l1))
   ⟨_,_,_,⟨[],l,0,rfl,rfl,rfl,rfl,herr,by rw[hR,Nat.zero_max]⟩,⟨rfl,rfl,rfl,rfl,rfl,rfl,trivial⟩,HSub.refl _⟩ ?_
  rintro kk ls H' ⟨pre,l1,m,hL,rfl,rfl,rfl,hI2,hI3⟩ j hj
  have hb:=pre_le hL (show l.length≤100000000 by omega)
  refine gak ?_
  refine oC rfl (fun hc=>?_) (fun hc=>?_)
  rotate_left
  ·obtain rfl:=none_left hL hc
   refine gac ?_
   exact retRet hj (zra rfl) (iv_eq (by rw[hI3,needSs,Nat.max_zero]))
  obtain ⟨a,l2,rfl⟩:=more hL hc
  have ham:ndS a≤ndSs l:=ndSs_mem (by rw[hL];exact List.mem_append_right _ (List.mem_cons_self ..))
  obtain ⟨kind,name,index,value,thn,els⟩:=a
  rw[errSs] at hI2
  obtain ⟨he1,he2⟩:=orE_zero.1 hI2
  have hby:=needS_by hd he1
  rw[errS] at he1
  rw[ndS] at ham
  have hform:formS (.mk kind name index value thn els)=true:=by
   cases hf:formS (.mk kind name index value thn els) with
   |true=>rfl
   |false=>rw[if_pos hf] at he1;cases he1
  rw[if_neg (by rw[hform];decide)] at he1
  obtain ⟨hev,he1⟩:=orE_zero.1 he1
  obtain ⟨hei,he1⟩:=orE_zero.1 he1
  obtain ⟨_,he1⟩:=orE_zero.1 he1
  obtain ⟨het,hee⟩:=orE_zero.1 he1
  rw[needSs] at hI3
  have hle:∀ l:List Ex,ndEs l≤ndSs (pre++Sm.mk kind name index value thn els::l2)→lastN (needEs c l)≤500000000:=fun l4 h4=>lastN_le fun x hx=>by
   have h1:=needE_le B D c hB x
   have h2:=ndEs_mem hx
   rw[←hL] at h4
   omega
  have hV:=hle value (by rw[←hL];omega)
  have hX:=hle index (by rw[←hL];omega)
  refine gal ?_
  refine oP (xR (el':=.agg [int .i64 kind,str name,.list (index.map encE),.list (value.map encE),.list (thn.map encS),.list (els.map encS)]) (cs:=[_,_,_,_,_,_]) rfl rfl zo (by rw[hL,←encS_mk];exact get_mid encS pre _ l2) rfl rfl) rfl ?_
  refine gab ?_
  refine oS (S.alloc fun b9=>?_) rfl
  refine gaa ?_
  refine oL (fun kk ls H'=>∃ (p2 l3:List Ex),value=p2++l3∧kk=l3.length∧ls=[(1,.list (fs.map encFn)),(2,.list ((c.funcs.map (·.need)).map iv)),(7,iv m),(9,ptr b9 0),(10,iv (lastN (needEs c p2))),(11,iv 0),(16,.list (l.map encS)),(17,int .i64 ((l.map encS).length:Int)),(18,int .i64 (pre.length:Int)),(23,.list (value.map encE)),(24,int .i64 ((value.map encE).length:Int)),(25,int .i64 (p2.length:Int))] ∧
    H'=[smH b9 kind name index value thn els]∧errEs c l3=0)
   ⟨_,_,_,⟨[],value,rfl,rfl,rfl,rfl,hev⟩,⟨rfl,rfl,rfl,rfl,rfl,rfl,rfl,rfl,rfl,rfl,rfl,rfl,trivial⟩,HSub.refl _⟩ ?_
  rintro kk ls H' ⟨p2,l3,hL2,rfl,rfl,rfl,hI4⟩ j2 hj2
  have hval:=ndEs_len value
  have hb2:=pre_le hL2 (show value.length≤100000000 by omega)
  refine gak ?_
  refine oC rfl (fun hc2=>?_) (fun hc2=>?_)
  ·obtain ⟨a,l4,rfl⟩:=more hL2 hc2
   have ham2:ndE a≤ndEs value:=ndEs_mem (by rw[hL2];exact List.mem_append_right _ (List.mem_cons_self ..))
   rw[errEs] at hI4
   obtain ⟨h1,h2⟩:=orE_zero.1 hI4
   refine gal ?_
   refine oP (xR (el':=encE a) (cs:=[_,_,_,_]) rfl rfl zo (by rw[hL2];exact get_mid encE p2 a l4) rfl rfl) rfl ?_
   refine gax ?_
   refine oS (S.alloc fun b13=>?_) rfl
   refine gaa ?_
   refine oS (S.fn [_,_,_] rfl (hN a h1 zo) ?_) rfl
   refine gac ?_
   exact ⟨l4.length,_,_,Nat.lt_succ_self _,⟨p2++[a],l4,snoc hL2,rfl,rfl,rfl,h2⟩,⟨rfl,rfl,rfl,rfl,iv_eq (lastN_snoc c p2 a).symm,rfl,rfl,rfl,rfl,rfl,rfl,int_eq (by simp),trivial⟩,zhD zhr,hj2⟩
  obtain rfl:=none_left hL2 hc2
  rw[List.append_nil] at hL2
  subst hL2
  refine gac ?_
  refine oL (fun kk ls H'=>∃ (p3 l3:List Ex),index=p3++l3∧kk=l3.length∧ls=[(1,.list (fs.map encFn)),(2,.list ((c.funcs.map (·.need)).map iv)),(7,iv m),(9,ptr b9 0),(10,iv (lastN (needEs c value))),(11,iv (lastN (needEs c p3))),(16,.list (l.map encS)),(17,int .i64 ((l.map encS).length:Int)),(18,int .i64 (pre.length:Int)),(35,.list (index.map encE)),(36,int .i64 ((index.map encE).length:Int)),(37,int .i64 (p3.length:Int))] ∧
    H'=[smH b9 kind name index value thn els]∧errEs c l3=0)
   ⟨_,_,_,⟨[],index,rfl,rfl,rfl,rfl,hei⟩,⟨rfl,rfl,rfl,rfl,rfl,rfl,rfl,rfl,rfl,rfl,rfl,rfl,trivial⟩,HSub.refl _⟩ ?_
  rintro kk ls H' ⟨p3,l3,hL3,rfl,rfl,rfl,hI5⟩ j3 hj3
  have hixl:=ndEs_len index
  have hb3:=pre_le hL3 (show index.length≤100000000 by omega)
  refine gak ?_
  refine oC rfl (fun hc2=>?_) (fun hc2=>?_)
  ·obtain ⟨a,l4,rfl⟩:=more hL3 hc2
   have ham2:ndE a≤ndEs index:=ndEs_mem (by rw[hL3];exact List.mem_append_right _ (List.mem_cons_self ..))
   rw[errEs] at hI5
   obtain ⟨h1,h2⟩:=orE_zero.1 hI5
   refine gal ?_
   refine oP (xR (el':=encE a) (cs:=[_,_,_,_]) rfl rfl zo (by rw[hL3];exact get_mid encE p3 a l4) rfl rfl) rfl ?_
   refine gax ?_
   refine oS (S.alloc fun b13=>?_) rfl
   refine gaa ?_
   refine oS (S.fn [_,_,_] rfl (hN a h1 zo) ?_) rfl
   refine gac ?_
   exact ⟨l4.length,_,_,Nat.lt_succ_self _,⟨p3++[a],l4,snoc hL3,rfl,rfl,rfl,h2⟩,⟨rfl,rfl,rfl,rfl,rfl,iv_eq (lastN_snoc c p3 a).symm,rfl,rfl,rfl,rfl,rfl,int_eq (by simp),trivial⟩,zhD zhr,hj3⟩
  obtain rfl:=none_left hL3 hc2
  rw[List.append_nil] at hL3
  subst hL3
  rw[hby] at hI3
  generalize lastN (needEs c value)=nv at hI3 hV ⊢
  generalize lastN (needEs c index)=ni at hI3 hX ⊢
  have hjj:=hj3.trans (hj2.trans hj)
  have fin:∀ {m2:Nat},R=max m2 (needSs c l2)→∀ {e:Env} {H:Heap},e.s 1=.list (fs.map encFn)→e.s 2=.list ((c.funcs.map (·.need)).map iv)→e.s 7=iv m2→e.s 16=.list (l.map encS)→e.s 17=int .i64 ((l.map encS).length:Int)→e.s 18=int .i64 ((pre.length:Int)+1)→e.ds=(argsEnv [.list (l.map encS),.list (fs.map encFn),.list ((c.funcs.map (·.need)).map iv)]).ds →
    Again (fun kk ls H'=>∃ (pre l1:List Sm) (m:Nat),l=pre++l1∧kk=l1.length∧ls=[(1,.list (fs.map encFn)),(2,.list ((c.funcs.map (·.need)).map iv)),(7,iv m),(16,.list (l.map encS)),(17,int .i64 ((l.map encS).length:Int)),(18,int .i64 (pre.length:Int))]∧H'=[]∧errSs c l1=0∧R=max m (needSs c l1)) (Sm.mk kind name index value thn els::l2).length [] e H:=
   fun {m2} hm {e H} e1 e2 e7 e16 e17 e18 hd2=>⟨l2.length,_,_,Nat.lt_succ_self _,⟨pre++[Sm.mk kind name index value thn els],l2,m2,snoc hL,rfl,rfl,rfl,he2,hm⟩,⟨e1,e2,e7,e16,e17,e18.trans (int_eq (by simp)),trivial⟩,HSub.nil _,hd2⟩
  refine gac ?_
  by_cases k1:kind=1
  ·subst k1
   rw[if_pos (.inl rfl)] at hI3
   refine oC rfl (fun _=>?_) (fun hd=>by cases hd)
   refine gav ?_
   refine oC rfl (fun _=>?_) (fun hd=>by cases hd)
   refine gaj ?_
   refine oS (S.lit (es:=[m,2,nv].map iv) [_,_,_] rfl (iv_els _) rfl rfl rfl ?_) rfl
   refine oS (S.fn [_] rfl (most_spec m [2,nv] (by simp)) ?_) rfl
   refine gac ?_
   exact fin (m2:=mostN [m,2,nv]) (by rw[hI3];show _=max (max (max m 2) nv) _;omega) rfl rfl rfl rfl rfl rfl hjj
  refine oC rfl (fun hd=>absurd (zt hd) k1) (fun _=>?_)
  refine gas ?_
  by_cases k6:kind=6
  ·subst k6
   rw[if_pos (.inr rfl)] at hI3
   refine oC rfl (fun _=>?_) (fun hd=>by cases hd)
   refine gaj ?_
   refine oS (S.lit (es:=[m,2,nv].map iv) [_,_,_] rfl (iv_els _) rfl rfl rfl ?_) rfl
   refine oS (S.fn [_] rfl (most_spec m [2,nv] (by simp)) ?_) rfl
   refine gac ?_
   exact fin (m2:=mostN [m,2,nv]) (by rw[hI3];show _=max (max (max m 2) nv) _;omega) rfl rfl rfl rfl rfl rfl hjj
  rw[if_neg (fun h=>h.elim k1 k6)] at hI3
  refine oC rfl (fun hd=>absurd (zt hd) k6) (fun _=>?_)
  refine gas ?_
  by_cases k2:kind=2
  ·subst k2
   rw[if_pos rfl] at hI3
   refine oC rfl (fun _=>?_) (fun hd=>by cases hd)
   refine gaw ?_
   refine oS (S.lit (es:=[m,nv,2+ni].map iv) [_,_,_] rfl (iv_els _) rfl rfl rfl ?_) rfl
   refine oS (S.fn [_] rfl (most_spec m [nv,2+ni] (by simp)) ?_) rfl
   refine gac ?_
   exact fin (m2:=mostN [m,nv,2+ni]) (by rw[hI3];show _=max (max (max m nv) (2+ni)) _;omega) rfl rfl rfl rfl rfl rfl hjj
  rw[if_neg k2] at hI3
  refine oC rfl (fun hd=>absurd (zt hd) k2) (fun _=>?_)
  refine gas ?_
  by_cases k3:kind=3
  ·rw[if_pos (.inl k3)] at hI3
   refine oC rfl (fun _=>?_) (fun hd=>absurd k3 (zf hd))
   refine gav ?_
   refine oC rfl (fun _=>?_) (fun hd=>absurd k3 (zf hd))
   refine LCode.draw (m:=15) rfl [smH b9 kind name index value thn els] ?_
   refine aT 0 rfl rfl (Pure.mv (lv:=.atom _) rfl) ?_
   refine aT 1 rfl rfl (Pure.mv (lv:=.atom _) rfl) ?_
   refine aT 2 rfl rfl (Pure.fieldH rfl) ?_
   refine aT 3 rfl rfl (Pure.loadH (c:=.list _) rfl zm0 rfl) ?_
   refine aT 4 rfl rfl (Pure.mv (lv:=.list _) rfl) ?_
   refine aT 5 rfl rfl (Pure.mv (lv:=.list _) rfl) ?_
   refine aT 7 rfl rfl (Pure.fieldH rfl) ?_
   refine aT 8 rfl rfl (Pure.loadH (c:=.list _) rfl zm0 rfl) ?_
   refine aT 9 rfl rfl (Pure.mv (lv:=.list _) rfl) ?_
   refine aT 10 rfl rfl (Pure.mv (lv:=.list _) rfl) ?_
   refine LAny.late ?_ zhr
   refine lO 6 (lS (H1:=[]) rfl (.inl rfl) rfl zpr zhr (S.fn [_,_,_] rfl (ih thn het zo) ?_))
   refine lO 11 (lS (H1:=[]) rfl (.inl rfl) rfl zpr zhr (S.fn [_,_,_] rfl (ih els hee zo) ?_))
   refine lO 12 (lS (H1:=[]) rfl (.inl rfl) rfl zpr zhr (S.lit (es:=[m,2,nv,needSs c thn,needSs c els].map iv) [_,_,_,_,_] rfl (iv_els _) rfl rfl rfl ?_))
   refine lO 13 (lS (H1:=[]) rfl (.inl rfl) rfl zpr zhr (S.fn [_] rfl (most_spec m [2,nv,needSs c thn,needSs c els] (by simp)) ?_))
   refine lO 14 (lH rfl rfl (Pure.as (lv:=.atom _) rfl) ?_)
   refine lD zk ?_
   refine gaw ?_
   exact fin (m2:=mostN [m,2,nv,needSs c thn,needSs c els]) (by rw[hI3];show _=max (max (max (max (max m 2) nv) (needSs c thn)) (needSs c els)) _;omega) rfl rfl rfl rfl rfl rfl hjj
  refine oC rfl (fun hd=>absurd (zt hd) k3) (fun _=>?_)
  refine gas ?_
  by_cases k4:kind=4
  ·rw[if_pos (.inr k4)] at hI3
   refine oC rfl (fun _=>?_) (fun hd=>absurd k4 (zf hd))
   refine LCode.draw (m:=15) rfl [smH b9 kind name index value thn els] ?_
   refine aT 0 rfl rfl (Pure.mv (lv:=.atom _) rfl) ?_
   refine aT 1 rfl rfl (Pure.mv (lv:=.atom _) rfl) ?_
   refine aT 2 rfl rfl (Pure.fieldH rfl) ?_
   refine aT 3 rfl rfl (Pure.loadH (c:=.list _) rfl zm0 rfl) ?_
   refine aT 4 rfl rfl (Pure.mv (lv:=.list _) rfl) ?_
   refine aT 5 rfl rfl (Pure.mv (lv:=.list _) rfl) ?_
   refine aT 7 rfl rfl (Pure.fieldH rfl) ?_
   refine aT 8 rfl rfl (Pure.loadH (c:=.list _) rfl zm0 rfl) ?_
   refine aT 9 rfl rfl (Pure.mv (lv:=.list _) rfl) ?_
   refine aT 10 rfl rfl (Pure.mv (lv:=.list _) rfl) ?_
   refine LAny.late ?_ zhr
   refine lO 6 (lS (H1:=[]) rfl (.inl rfl) rfl zpr zhr (S.fn [_,_,_] rfl (ih thn het zo) ?_))
   refine lO 11 (lS (H1:=[]) rfl (.inl rfl) rfl zpr zhr (S.fn [_,_,_] rfl (ih els hee zo) ?_))
   refine lO 12 (lS (H1:=[]) rfl (.inl rfl) rfl zpr zhr (S.lit (es:=[m,2,nv,needSs c thn,needSs c els].map iv) [_,_,_,_,_] rfl (iv_els _) rfl rfl rfl ?_))
   refine lO 13 (lS (H1:=[]) rfl (.inl rfl) rfl zpr zhr (S.fn [_] rfl (most_spec m [2,nv,needSs c thn,needSs c els] (by simp)) ?_))
   refine lO 14 (lH rfl rfl (Pure.as (lv:=.atom _) rfl) ?_)
   refine lD zk ?_
   refine gaw ?_
   exact fin (m2:=mostN [m,2,nv,needSs c thn,needSs c els]) (by rw[hI3];show _=max (max (max (max (max m 2) nv) (needSs c thn)) (needSs c els)) _;omega) rfl rfl rfl rfl rfl rfl hjj
  rw[if_neg (fun h=>h.elim k3 k4)] at hI3
  refine oC rfl (fun hd=>absurd (zt hd) k4) (fun _=>?_)
  refine gas ?_
  by_cases k5:kind=5
  ·rw[if_pos k5] at hI3
   refine oC rfl (fun _=>?_) (fun hd=>absurd k5 (zf hd))
   refine gaj ?_
   refine oS (S.lit (es:=[m,nv].map iv) [_,_] rfl (iv_els _) rfl rfl rfl ?_) rfl
   refine oS (S.fn [_] rfl (most_spec m [nv] (by simp)) ?_) rfl
   refine gac ?_
   exact fin (m2:=mostN [m,nv]) (by rw[hI3];show _=max (max m nv) _;omega) rfl rfl rfl rfl rfl rfl hjj
  rw[if_neg k5] at hI3
  refine oC rfl (fun hd=>absurd (zt hd) k5) (fun _=>?_)
  refine gar ?_
  exact fin (m2:=m) (by rw[hI3];omega) rfl rfl rfl rfl rfl rfl hjj
end
end Go.Proofs.YtcbpcianefpniaaGreatDoor.RC
namespace Go.Proofs.YtcbpcianefpniaaGreatDoor.RC
open Go.GL Go.RowKit Go.Stele
set_option maxRecDepth 100000
set_option maxHeartbeats 4000000
mutual
theorem callsE_len:∀ x:Ex,(callsE x).length≤ndE x
 |.mk op num name args=>by
  rw[callsE,ndE,List.length_append]
  have:=callsEs_len args
  split <;> simp <;> omega
theorem callsEs_len:∀ l:List Ex,(callsEs l).length≤ndEs l
 |[]=>by rw[callsEs,ndEs];exact Nat.le_refl _
 |x::l=>by
  rw[callsEs,ndEs,List.length_append]
  have h1:=callsE_len x
  have h2:=callsEs_len l
  omega
end
mutual
theorem callsS_len:∀ x:Sm,(callsS x).length≤ndS x
 |.mk kind name index value thn els=>by
  rw[callsS,ndS,List.length_append,List.length_append]
  have h1:=callsEs_len (value++index)
  rw[ndEs_app] at h1
  have h2:=callsSs_len thn
  have h3:=callsSs_len els
  omega
theorem callsSs_len:∀ l:List Sm,(callsSs l).length≤ndSs l
 |[]=>by rw[callsSs,ndSs];exact Nat.le_refl _
 |x::l=>by
  rw[callsSs,ndSs,List.length_append]
  have h1:=callsS_len x
  have h2:=callsSs_len l
  omega
end
theorem callsEs_snoc (a:Ex):∀ l:List Ex,callsEs (l++[a])=callsEs l++callsE a
 |[]=>by
  show callsEs [a]=callsEs []++callsE a
  simp[callsEs]
 |x::l=>by
  show callsEs (x::(l++[a]))=_
  rw[callsEs,callsEs_snoc a l,callsEs,List.append_assoc]
theorem callsSs_snoc (a:Sm):∀ l:List Sm,callsSs (l++[a])=callsSs l++callsS a
 |[]=>by
  show callsSs [a]=callsSs []++callsS a
  simp[callsSs]
 |x::l=>by
  show callsSs (x::(l++[a]))=_
  rw[callsSs,callsSs_snoc a l,callsSs,List.append_assoc]
theorem ndSs_part {l pre:List Sm} {a:Sm} {l2:List Sm} (h:l=pre++a::l2):ndSs pre+ndS a≤ndSs l:=by
 have key:∀ p q:List Sm,ndSs (p++q)=ndSs p+ndSs q:=fun p q=>by
  induction p with
  |nil=>rw[List.nil_append,ndSs];omega
  |cons x p ih=>rw[List.cons_append,ndSs,ndSs,ih];omega
 rw[h,key,ndSs]
 omega
theorem ndEs_part {l pre:List Ex} {a:Ex} {l2:List Ex} (h:l=pre++a::l2):ndEs pre+ndE a≤ndEs l:=by
 rw[h,ndEs_app,ndEs]
 omega
attribute [local irreducible] LOps LCode LStep LCalls Go.GL.Pure QThen QBlock RetPost LQ LAny LLate LLateOp LS
section
variable {B0:Nat} {w0:World}
def CallsH (B0:Nat) (w0:World) (n:Nat):Prop:=∀ x:Ex,ndE x<n→LCalls (KC B0 w0) 156 [encE x] [] (Ret (.list ((callsE x).map str)))
theorem calls_spec:∀ n:Nat,n≤100000000→CallsH B0 w0 n
 |0,_=>fun x h=>by omega
 |n+1,hn6=>by
  have ih:=calls_spec n zo
  intro x hnd
  obtain ⟨op,num,name,args⟩:=x
  rw[ndE] at hnd
  have hal:=ndEs_len args
  generalize hR:callsE (.mk op num name args)=R
  rw[callsE] at hR
  rw[encE_mk]
  refine cI Tryz.func156 rfl (n:=28) rfl rfl rfl ?_
  refine gag ?_
  refine oS (S.box rfl fun b1=>?_) rfl
  refine gai ?_
  refine oS (S.litA (es:=[]) [] rfl eN rfl rfl rfl fun b3=>?_) rfl
  refine gaa ?_
  refine LCode.midC (A:=LV×Heap) (fun a=>[(1,ptr b1 0),(3,a.1)]) (fun a=>exH b1 op num name args::a.2) (fun a=>GL.Acc 1 a.1 ((if op=nCall then [name] else []).map str) a.2 []) ?_ ?_
  ·by_cases h1:op=[99,97,108,108]
   ·refine oC rfl (fun _=>?_) (fun hd=>absurd h1 (zf hd))
    refine gaa ?_
    refine oS (S.lit (es:=[name].map str) [_] rfl (eC rfl rfl eN) rfl rfl rfl ?_) rfl
    refine oS (S.accF (A:=[_]) (H1:=[(b3,.row 0)]) zpr rfl Acc.row rfl (strs_len _) (strs_ok _) (by simp) fun v2 H2 h2=>?_) rfl
    refine oP (Pure.as (lv:=v2) rfl) rfl ?_
    refine gaf ?_
    exact ⟨(v2,H2),by rw[if_pos (show op=nCall from h1)];exact h2,⟨rfl,rfl,trivial⟩,HSub.refl _,rfl⟩
   ·refine oC rfl (fun hd=>absurd (zt hd) h1) (fun _=>?_)
    refine gav ?_
    exact ⟨(.app b3 0 1 [],[(b3,.row 0)]),by rw[if_neg (show ¬ op=nCall from h1)];exact Acc.row,⟨rfl,rfl,trivial⟩,⟨[],by simpa using List.Perm.swap _ _ _⟩,rfl⟩
  rintro ⟨v0,H0⟩ hacc0 j hj
  simp only at hacc0
  have hC0:(if op=nCall then [name] else []:List Nm).length≤1:=by split <;> simp
  generalize (if op=nCall then [name] else []:List Nm)=C0 at hacc0 hR hC0
  refine gac ?_
  refine oL (fun kk ls H'=>∃ (pre l1:List Ex) (v:LV) (Ha:Heap),args=pre++l1∧kk=l1.length∧ls=[(1,ptr b1 0),(3,v),(16,.list (args.map encE)),(17,int .i64 ((args.map encE).length:Int)),(18,int .i64 (pre.length:Int))] ∧
    H'=exH b1 op num name args::Ha∧GL.Acc 1 v ((C0++callsEs pre).map str) Ha [])
   ⟨_,_,_,⟨[],args,v0,H0,rfl,rfl,rfl,rfl,by rw[callsEs,List.append_nil];exact hacc0⟩,⟨rfl,rfl,rfl,rfl,rfl,trivial⟩,HSub.refl _⟩ ?_
  rintro kk ls H' ⟨pre,l1,v,Ha,hL,rfl,rfl,rfl,hacc⟩ j2 hj2
  have hb:=pre_le hL (show args.length≤100000000 by omega)
  refine gak ?_
  refine oC rfl (fun hc=>?_) (fun hc=>?_)
  ·obtain ⟨a,l2,rfl⟩:=more hL hc
   have ham:=ndEs_part hL
   have g1:=callsEs_len pre
   have g2:=callsE_len a
   refine gal ?_
   refine oP (xR (el':=encE a) (cs:=[_,_,_,_]) rfl rfl zo (by rw[hL];exact get_mid encE pre a l2) rfl rfl) rfl ?_
   refine gax ?_
   refine oS (S.alloc fun b5=>?_) rfl
   refine gaa ?_
   refine oP (Pure.mv (lv:=v) rfl) rfl ?_
   refine gab ?_
   refine oS (S.fn [_] rfl (ih a zo) ?_) rfl
   refine oS (S.accF (A:=[_,_]) (H1:=Ha) (List.perm_append_comm (l₁:=[_,_])) rfl hacc rfl (strs_len _) (strs_ok _) (by simp;omega) fun v2 H2 hacc2=>?_) rfl
   refine oP (Pure.as (lv:=v2) rfl) rfl ?_
   refine gaw ?_
   exact ⟨l2.length,_,_,Nat.lt_succ_self _,⟨pre++[a],l2,v2,H2,snoc hL,rfl,rfl,rfl,by rw[callsEs_snoc,←List.append_assoc,List.map_append (l₂:=callsE a)];exact hacc2⟩,⟨rfl,rfl,rfl,rfl,int_eq (by simp),trivial⟩,zhD zhr,hj2⟩
  obtain rfl:=none_left hL hc
  rw[List.append_nil] at hL
  subst hL
  rw[hR] at hacc
  refine gad ?_
  refine LCode.sub (d:=3) rfl hacc.sub ?_
  refine gaa ?_
  exact retRet (hj2.trans hj) (rC (rT (v:=.list _) rfl zsr) rN) rfl
def CalleesH (B0:Nat) (w0:World) (n:Nat):Prop:=∀ l:List Sm,ndSs l<n→LCalls (KC B0 w0) 107 [.list (l.map encS)] [] (Ret (.list ((callsSs l).map str)))
theorem callees_spec:∀ n:Nat,n≤100000000→CalleesH B0 w0 n
 |0,_=>fun x h=>by omega
 |n+1,hn6=>by
  have ih:=callees_spec n zo
  have hC:CallsH B0 w0 n:=calls_spec n zo
  intro l hnd
  have hal:=ndSs_len l
  refine cI Tryz.func107 rfl (n:=44) rfl rfl rfl ?_
  refine gai ?_
  refine oS (S.litA (es:=[]) [] rfl eN rfl rfl rfl fun b3=>?_) rfl
  refine gaa ?_
  refine oL (fun kk ls H'=>∃ (pre l1:List Sm) (v:LV) (Ha:Heap),l=pre++l1∧kk=l1.length∧ls=[(3,v),(9,.list (l.map encS)),(10,int .i64 ((l.map encS).length:Int)),(11,int .i64 (pre.length:Int))] ∧
    H'=Ha∧GL.Acc 1 v ((callsSs pre).map str) Ha [])
   ⟨_,_,_,⟨[],l,.app b3 0 1 [],[(b3,.row 0)],rfl,rfl,rfl,rfl,Acc.row⟩,⟨rfl,rfl,rfl,rfl,trivial⟩,HSub.refl _⟩ ?_
  rintro kk ls HA ⟨pre,l1,v,_,hL,rfl,rfl,rfl,hacc⟩ j hj
  have hb:=pre_le hL (show l.length≤100000000 by omega)
  refine gak ?_
  refine oC rfl (fun hc=>?_) (fun hc=>?_)
  rotate_left
  ·obtain rfl:=none_left hL hc
   rw[List.append_nil] at hL
   subst hL
   refine gad ?_
   refine LCode.sub (d:=3) rfl hacc.sub ?_
   refine gaa ?_
   exact retRet hj (rC (rT (v:=.list _) rfl zsr) rN) rfl
  obtain ⟨a,l2,rfl⟩:=more hL hc
  have ham:=ndSs_part hL
  have g1:=callsSs_len pre
  obtain ⟨kind,name,index,value,thn,els⟩:=a
  rw[ndS] at ham
  have g2:=ndEs_len value
  have g3:=ndEs_len index
  refine gal ?_
  refine oP (xR (el':=.agg [int .i64 kind,str name,.list (index.map encE),.list (value.map encE),.list (thn.map encS),.list (els.map encS)]) (cs:=[_,_,_,_,_,_]) rfl rfl zo (by rw[hL,←encS_mk];exact get_mid encS pre _ l2) rfl rfl) rfl ?_
  refine gab ?_
  refine oS (S.alloc fun b5=>?_) rfl
  refine gab ?_
  refine LCode.draw (m:=9) rfl [smH b5 kind name index value thn els] ?_
  refine aT 1 rfl rfl (Pure.fieldH rfl) ?_
  refine aT 2 rfl rfl (Pure.loadH (c:=.list _) rfl zm0 rfl) ?_
  refine aT 4 rfl rfl (Pure.fieldH rfl) ?_
  refine aT 5 rfl rfl (Pure.loadH (c:=.list _) rfl zm0 rfl) ?_
  refine aT 8 rfl rfl (Pure.mv (lv:=.atom _) rfl) ?_
  refine LAny.late ?_ zhp
  refine lO 0 (lS (H1:=[]) rfl (.inl rfl) rfl zpr zhp (S.litA (es:=[]) [] rfl eN rfl rfl rfl fun b7=>?_))
  refine lO 3 (lS (H1:=[(b7,.row 0)]) rfl (.inl rfl) rfl zpr zhp (S.acc (F:=[]) rfl Acc.row rfl (encE_len _) (encE_ok _) (by simp;omega) fun v1 H1 h1=>?_))
  refine lO 6 (lS (H1:=H1) rfl (.inl rfl) rfl zpr zhp (S.acc (F:=[]) rfl h1 rfl (encE_len _) (encE_ok _) (by simp;omega) fun v2 H2 h2=>?_))
  have e2:([]++value.map encE++index.map encE:List LV)=(value++index).map encE:=by simp
  rw[e2] at h2
  refine lO 7 (lH rfl rfl (Pure.llen (h2.elems)) ?_)
  refine lD zk ?_
  refine gad ?_
  refine LCode.sub (d:=21) rfl h2.sub ?_
  refine LCode.weak (H':=smH b5 kind name index value thn els::HA) ⟨H2,List.perm_append_comm⟩ ?_
  refine oL (fun kk ls H'=>∃ (pre2 l3:List Ex) (v:LV) (Ha:Heap),value++index=pre2++l3∧kk=l3.length∧ls=[(3,v),(5,ptr b5 0),(9,.list (l.map encS)),(10,int .i64 ((l.map encS).length:Int)),(11,int .i64 (pre.length:Int)),(21,.list ((value++index).map encE)),(22,int .i64 (((value++index).map encE).length:Int)),(23,int .i64 (pre2.length:Int))] ∧
    H'=smH b5 kind name index value thn els::Ha∧GL.Acc 1 v ((callsSs pre++callsEs pre2).map str) Ha [])
   ⟨_,_,_,⟨[],value++index,v,HA,rfl,rfl,rfl,rfl,by rw[callsEs,List.append_nil];exact hacc⟩,⟨rfl,rfl,rfl,rfl,rfl,rfl,rfl,rfl,trivial⟩,HSub.refl _⟩ ?_
  rintro kk ls H' ⟨pre2,l3,v3,Hb,hL2,rfl,rfl,rfl,hacc3⟩ j2 hj2
  have hb2:=pre_le hL2 (show (value++index).length≤100000000 by rw[List.length_append];omega)
  refine gak ?_
  refine oC rfl (fun hc2=>?_) (fun hc2=>?_)
  ·obtain ⟨a,l4,rfl⟩:=more hL2 hc2
   have ham2:=ndEs_part hL2
   rw[ndEs_app] at ham2
   have g4:=callsEs_len pre2
   have g5:=callsE_len a
   refine gal ?_
   refine oP (xR (el':=encE a) (cs:=[_,_,_,_]) rfl rfl zo (by rw[hL2];exact get_mid encE pre2 a l4) rfl rfl) rfl ?_
   refine gax ?_
   refine oS (S.alloc fun b7=>?_) rfl
   refine gaa ?_
   refine oP (Pure.mv (lv:=v3) rfl) rfl ?_
   refine gab ?_
   refine oS (S.fn [_] rfl (hC a zo) ?_) rfl
   refine oS (S.accF (A:=[_,_]) (H1:=Hb) (List.perm_append_comm (l₁:=[_,_])) rfl hacc3 rfl (strs_len _) (strs_ok _) (by simp;omega) fun v4 H4 hacc4=>?_) rfl
   refine oP (Pure.as (lv:=v4) rfl) rfl ?_
   refine gaw ?_
   exact ⟨l4.length,_,_,Nat.lt_succ_self _,⟨pre2++[a],l4,v4,H4,snoc hL2,rfl,rfl,rfl,by rw[callsEs_snoc,←List.append_assoc,List.map_append (l₂:=callsE a)];exact hacc4⟩,⟨rfl,rfl,rfl,rfl,rfl,rfl,rfl,int_eq (by simp),trivial⟩,zhD zhr,hj2⟩
  obtain rfl:=none_left hL2 hc2
  rw[List.append_nil] at hL2
  subst hL2
  have g6:=callsEs_len (value++index)
  rw[ndEs_app] at g6
  have g7:=callsSs_len thn
  have g8:=callsSs_len els
  have hjj:=hj2.trans hj
  refine gac ?_
  refine oP (Pure.mv (lv:=v3) rfl) rfl ?_
  refine gad ?_
  refine oS (S.fn [_] rfl (ih thn zo) ?_) rfl
  refine oS (S.accF (A:=[_]) (H1:=Hb) (List.perm_append_comm (l₁:=[_])) rfl hacc3 rfl (strs_len _) (strs_ok _) (by simp;omega) fun v4 H4 hacc4=>?_) rfl
  refine oP (Pure.as (lv:=v4) rfl) rfl ?_
  refine gak ?_
  refine oP (Pure.mv (lv:=v4) rfl) rfl ?_
  refine gad ?_
  refine oS (S.fn [_] rfl (ih els zo) ?_) rfl
  refine oS (S.accF (A:=[_]) (H1:=H4) (List.perm_append_comm (l₁:=[_])) rfl hacc4 rfl (strs_len _) (strs_ok _) (by simp;omega) fun v5 H5 hacc5=>?_) rfl
  refine oP (Pure.as (lv:=v5) rfl) rfl ?_
  refine gaw ?_
  exact ⟨l2.length,_,_,Nat.lt_succ_self _,⟨pre++[Sm.mk kind name index value thn els],l2,v5,H5,snoc hL,rfl,rfl,rfl,by
   rw[callsSs_snoc,callsS]
   have e:(callsSs pre++(callsEs (value++index)++callsSs thn++callsSs els)).map str=(callsSs pre++callsEs (value++index)).map str++(callsSs thn).map str++(callsSs els).map str:=by simp
   rw[e]
   exact hacc5⟩,⟨rfl,rfl,rfl,int_eq (by simp),trivial⟩,zhD zhr,hjj⟩
end
end Go.Proofs.YtcbpcianefpniaaGreatDoor.RC
namespace Go.Proofs.YtcbpcianefpniaaGreatDoor.RC
open Go.GL Go.RowKit Go.Stele
set_option maxRecDepth 100000
set_option maxHeartbeats 4000000
@[reducible] def fnH (b:Nat) (f:FnD):Nat×LObj:=(b,.cells 63 [str f.name,.list (f.params.map str),.list (f.locals.map str),.list (f.body.map encS)])
theorem encFn_len (l:List FnD):∀ v∈l.map encFn,v.cells.length=4:=fun v hv=>by
 obtain ⟨x,_,rfl⟩:=List.mem_map.1 hv
 rfl
section
variable {C:Ctx} {e:Env} {H:Heap} {dst:Option Nat} {ty:TypeId} {pos:String} {aft:Array Edge} {gd:Option (Nat×Bool)}
theorem Pure.sliceTo {t el s:Nat} [ht:TSlice C.P t el s] {A:Type} {g:A→LV} {pre l1:List A} {x hi:Operand} (hx:GL.elems (e.ev x)=some ((pre++l1).map g)) (hh:e.ev hi=int .i64 (pre.length:Int)) (hs:∀ v∈(pre++l1).map g,v.cells.length=s):GL.Pure C ⟨dst,.slice t x none (some hi) none,ty,pos,aft,gd⟩ e H (.list (pre.map g)):=by
 have h:=GL.Pure.lslice (C:=C) (e:=e) (H:=H) (dst:=dst) (ty:=ty) (pos:=pos) (aft:=aft) (g:=gd) (t:=t) (lo:=none) (hi:=some hi) (i:=0) (j:=(pre.length:Int)) hx rfl ⟨_,hh⟩ (by decide) zo (by simp;omega) hs
 have e1:(((pre++l1).map g).take ((pre.length:Int)).toNat).drop (0:Int).toNat=pre.map g:=by simp
 rw[e1] at h
 exact h
end
theorem sumFs_names (vars arrays later:List Nm):∀ (fs:List FnD) (known:List FSum),(sumFs vars arrays later known fs).map (·.name)=known.map (·.name)++fs.map (·.name)
 |[],known=>by rw[sumFs];simp
 |f::l,known=>by rw[sumFs,sumFs_names];simp[sumF]
attribute [local irreducible] LOps LCode LStep LCalls Go.GL.Pure QThen QBlock RetPost LQ LAny LLate LLateOp LS
section
variable {B0:Nat} {w0:World}
theorem rscalars_spec {vars:List Nm} {fs:List FnD} (AL:LV) (hv6:vars.length≤2000000) (hf6:fs.length≤2000000) (hsm:∀ f∈fs,SmF f) (hn:∀ f∈fs,f.name.length≤1000∧∀ x∈f.params++f.locals,x.length≤1000):LCalls (KC B0 w0) 55 [.agg [.list (vars.map str),AL,.list (fs.map encFn)]] [] (Ret (.list ((scalarsP vars fs).map str))):=by
 have hown:∀ f∈fs,(Chk.ownS f).length≤4000000:=fun f hf=>by
  have h1:f.params.length≤2000000:=(hsm f hf).params
  have h2:f.locals.length≤2000000:=(hsm f hf).locals
  unfold Chk.ownS
  rw[List.length_map,List.length_append]
  omega
 have hsum:∀ l:List FnD,(∀ f∈l,f∈fs)→((l.map Chk.ownS).flatten).length≤l.length * 4000000:=fun l hl=>by
  have:=Chk.sum_le (l.map Chk.ownS) 4000000 (fun x hx=>by
   obtain ⟨f,hf,rfl⟩:=List.mem_map.1 hx
   exact hown f (hl f hf))
  rwa [List.length_map] at this
 refine cI Tryz.func55 rfl (n:=55) rfl rfl rfl ?_
 refine gag ?_
 refine oS (S.box rfl fun b1=>?_) rfl
 refine gai ?_
 refine oS (S.litA (es:=[]) [] rfl eN rfl rfl rfl fun b3=>?_) rfl
 refine gab ?_
 refine oS (S.accF (A:=[_]) (H1:=[(b3,.row 0)]) zpr rfl Acc.row rfl (strs_len _) (strs_ok _) (by simp;omega) fun v Ha hacc=>?_) rfl
 refine oP (Pure.as (lv:=v) rfl) rfl ?_
 refine gac ?_
 refine oL (fun k ls H'=>∃ pre l1 v1 Ha1,fs=pre++l1∧k=l1.length∧ls=[(3,v1),(15,.list (fs.map encFn)),(16,int .i64 ((fs.map encFn).length:Int)),(17,int .i64 (pre.length:Int))]∧H'=Ha1∧GL.Acc 1 v1 ((vars++(pre.map Chk.ownS).flatten).map str) Ha1 [])
  ⟨fs.length,_,_,⟨[],fs,v,Ha,rfl,rfl,rfl,rfl,by simpa using hacc⟩,⟨rfl,rfl,rfl,rfl,trivial⟩,zhD zhr⟩ ?_
 rintro k ls Ha1 ⟨pre,l1,v1,_,hL,rfl,rfl,rfl,hacc1⟩ j hj
 have hb:=pre_le hL hf6
 have hb1:((pre.map Chk.ownS).flatten).length≤8000000000000:=by
  have:=hsum pre (fun f hf=>by rw[hL];exact List.mem_append_left _ hf)
  omega
 refine gak ?_
 refine oC rfl (fun hc=>?_) (fun hc=>?_)
 rotate_left
 ·obtain rfl:=none_left hL hc
  rw[List.append_nil] at hL
  rw[←hL] at hacc1
  refine gad ?_
  refine LCode.sub (d:=3) rfl hacc1.sub ?_
  refine gaa ?_
  exact retRet hj (rC (rT (v:=.list _) rfl zsr) rN) rfl
 obtain ⟨f,l2,rfl⟩:=more hL hc
 have hfm:f∈fs:=by rw[hL];exact List.mem_append_right _ (List.mem_cons_self ..)
 obtain ⟨hn1,hn2⟩:=hn f hfm
 have hp6:f.params.length≤2000000:=(hsm f hfm).params
 have hl6:f.locals.length≤2000000:=(hsm f hfm).locals
 refine gal ?_
 refine oP (xR (el':=encFn f) (cs:=[_,_,_,_]) rfl rfl zo (by rw[hL];exact get_mid encFn pre f l2) rfl rfl) rfl ?_
 refine gax ?_
 refine oS (S.alloc fun b5=>?_) rfl
 refine gaa ?_
 refine oL (fun k ls H'=>∃ pre2 l3 v3 Ha3,f.params=pre2++l3∧k=l3.length∧ls=[(3,v3),(5,ptr b5 0),(15,.list (fs.map encFn)),(16,int .i64 ((fs.map encFn).length:Int)),(17,int .i64 (pre.length:Int)),(22,.list (f.params.map str)),(23,int .i64 ((f.params.map str).length:Int)),(24,int .i64 (pre2.length:Int))] ∧
   H'=fnH b5 f::Ha3∧GL.Acc 1 v3 ((vars++(pre.map Chk.ownS).flatten++pre2.map fun x=>f.name++[46]++x).map str) Ha3 [])
  ⟨_,_,_,⟨[],f.params,v1,Ha1,rfl,rfl,rfl,rfl,by simpa using hacc1⟩,⟨rfl,rfl,rfl,rfl,rfl,rfl,rfl,rfl,trivial⟩,HSub.refl _⟩ ?_
 rintro k ls H' ⟨pre2,l3,v3,Ha3,hL2,rfl,rfl,rfl,hacc3⟩ j2 hj2
 have hb3:=pre_le hL2 hp6
 refine gak ?_
 refine oC rfl (fun hd=>?_) (fun hd=>?_)
 ·obtain ⟨x,l4,rfl⟩:=more hL2 hd
  have hx:x.length≤1000:=hn2 x (by rw[hL2];simp)
  refine gal ?_
  refine oP (xR (el':=str x) (cs:=[_]) rfl rfl zo (by rw[hL2];exact get_mid str pre2 x l4) rfl rfl) rfl ?_
  refine gaa ?_
  refine oP (Pure.mv (lv:=v3) rfl) rfl ?_
  refine gab ?_
  refine oS (S.lit (es:=[f.name++[46]++x].map str) [_] rfl (eC rfl rfl eN) rfl rfl rfl ?_) rfl
  refine oS (S.accF (A:=[_]) (H1:=Ha3) (List.perm_append_comm (l₁:=[_])) rfl hacc3 rfl (strs_len _) (strs_ok _) (by rw[List.length_map,List.length_append,List.length_append,List.length_map,List.length_map,List.length_singleton];omega) fun v' H' hacc'=>?_) rfl
  refine oP (Pure.as (lv:=v') rfl) rfl ?_
  refine gaw ?_
  exact ⟨l4.length,_,_,Nat.lt_succ_self _,⟨pre2++[x],l4,v',H',snoc hL2,rfl,rfl,rfl,by
   have e:((vars++(pre.map Chk.ownS).flatten++(pre2++[x]).map fun x=>f.name++[46]++x).map str)=((vars++(pre.map Chk.ownS).flatten++pre2.map fun x=>f.name++[46]++x).map str)++[f.name++[46]++x].map str:=by simp
   rw[e]
   exact hacc'⟩,⟨rfl,rfl,rfl,rfl,rfl,rfl,rfl,int_eq (by simp),trivial⟩,HSub.refl _,hj2⟩
 obtain rfl:=none_left hL2 hd
 rw[List.append_nil] at hL2
 rw[←hL2] at hacc3
 refine gac ?_
 refine oL (fun k ls H'=>∃ pre3 l3 v4 Ha4,f.locals=pre3++l3∧k=l3.length∧ls=[(3,v4),(5,ptr b5 0),(15,.list (fs.map encFn)),(16,int .i64 ((fs.map encFn).length:Int)),(17,int .i64 (pre.length:Int)),(38,.list (f.locals.map str)),(39,int .i64 ((f.locals.map str).length:Int)),(40,int .i64 (pre3.length:Int))] ∧
   H'=fnH b5 f::Ha4∧GL.Acc 1 v4 ((vars++(pre.map Chk.ownS).flatten++(f.params++pre3).map fun x=>f.name++[46]++x).map str) Ha4 [])
  ⟨_,_,_,⟨[],f.locals,v3,Ha3,rfl,rfl,rfl,rfl,by simpa using hacc3⟩,⟨rfl,rfl,rfl,rfl,rfl,rfl,rfl,rfl,trivial⟩,HSub.refl _⟩ ?_
 rintro k ls H' ⟨pre3,l3,v4,Ha4,hL3,rfl,rfl,rfl,hacc4⟩ j3 hj3
 have hb4:=pre_le hL3 hl6
 refine gak ?_
 refine oC rfl (fun hd=>?_) (fun hd=>?_)
 ·obtain ⟨x,l4,rfl⟩:=more hL3 hd
  have hx:x.length≤1000:=hn2 x (by rw[hL3];simp)
  refine gal ?_
  refine oP (xR (el':=str x) (cs:=[_]) rfl rfl zo (by rw[hL3];exact get_mid str pre3 x l4) rfl rfl) rfl ?_
  refine gaa ?_
  refine oP (Pure.mv (lv:=v4) rfl) rfl ?_
  refine gab ?_
  refine oS (S.lit (es:=[f.name++[46]++x].map str) [_] rfl (eC rfl rfl eN) rfl rfl rfl ?_) rfl
  refine oS (S.accF (A:=[_]) (H1:=Ha4) (List.perm_append_comm (l₁:=[_])) rfl hacc4 rfl (strs_len _) (strs_ok _) (by rw[List.length_map,List.length_append,List.length_append,List.length_map,List.length_append,List.length_map,List.length_singleton];omega) fun v' H' hacc'=>?_) rfl
  refine oP (Pure.as (lv:=v') rfl) rfl ?_
  refine gaw ?_
  exact ⟨l4.length,_,_,Nat.lt_succ_self _,⟨pre3++[x],l4,v',H',snoc hL3,rfl,rfl,rfl,by
   have e:((vars++(pre.map Chk.ownS).flatten++(f.params++(pre3++[x])).map fun x=>f.name++[46]++x).map str)=((vars++(pre.map Chk.ownS).flatten++(f.params++pre3).map fun x=>f.name++[46]++x).map str)++[f.name++[46]++x].map str:=by simp
   rw[e]
   exact hacc'⟩,⟨rfl,rfl,rfl,rfl,rfl,rfl,rfl,int_eq (by simp),trivial⟩,HSub.refl _,hj3⟩
 obtain rfl:=none_left hL3 hd
 rw[List.append_nil] at hL3
 rw[←hL3] at hacc4
 refine gac ?_
 exact ⟨l2.length,_,_,Nat.lt_succ_self _,⟨pre++[f],l2,v4,Ha4,snoc hL,rfl,rfl,rfl,by
  have e:((vars++((pre++[f]).map Chk.ownS).flatten).map str)=(vars++(pre.map Chk.ownS).flatten++(f.params++f.locals).map fun x=>f.name++[46]++x).map str:=by
   simp[Chk.ownS]
  rw[e]
  exact hacc4⟩,⟨rfl,rfl,rfl,int_eq (by simp),trivial⟩,zhD zhr,hj3.trans (hj2.trans hj)⟩
@[reducible] def prH (b:Nat) (vars:List Nm) (AL:LV) (fs:List FnD):Nat×LObj:=(b,.cells 33 [.list (vars.map str),AL,.list (fs.map encFn)])
theorem perm_two {x y:Nat×LObj} {A B:Heap}:List.Perm (x::y::(A++B)) (A++(x::y::B)):=by
 have h:List.Perm (([x,y]++A)++B) ((A++[x,y])++B):=List.perm_append_comm.append_right B
 rw[List.append_assoc A] at h
 exact h
theorem Measure_spec {vars arrays:List Nm} {fs:List FnD} (AL:LV) (hnd:ndFs fs≤2000000) (hd:Dist (fs.map fun f=>(⟨f.name,0,0,0⟩:FSum))) (herr:errFs vars arrays (fs.map (·.name)) [] fs=0) :
  LCalls (KC B0 w0) 54 [.agg [.list (vars.map str),AL,.list (fs.map encFn)]] [] (Ret (.tuple [.list (((sumFs vars arrays (fs.map (·.name)) [] fs).map (·.need)).map iv),.list (((sumFs vars arrays (fs.map (·.name)) [] fs).map (·.depth)).map iv)])):=by
 have hfl:=ndFs_len fs
 generalize hlat:fs.map (·.name)=later at herr ⊢
 generalize hS:sumFs vars arrays later [] fs=ZS
 refine cI Tryz.func54 rfl (n:=80) rfl rfl rfl ?_
 refine gag ?_
 refine oS (S.box rfl fun b1=>?_) rfl
 refine gai ?_
 refine oS (S.litA (es:=[]) [] rfl eN rfl rfl rfl fun b4=>?_) rfl
 refine oS (S.litA (es:=[]) [] rfl eN rfl rfl rfl fun b5=>?_) rfl
 refine gaa ?_
 refine oL (fun k ls H'=>∃ (pre l1:List FnD) (known:List FSum) (v4 v5:LV) (H4 H5:Heap),fs=pre++l1∧k=l1.length∧ls=[(1,ptr b1 0),(4,v4),(5,v5),(15,.list (fs.map encFn)),(16,int .i64 ((fs.map encFn).length:Int)),(17,int .i64 (pre.length:Int))] ∧
   H'=prH b1 vars AL fs::(H4++H5)∧GL.Acc 1 v4 ((known.map (·.need)).map iv) H4 []∧GL.Acc 1 v5 ((known.map (·.depth)).map iv) H5 []∧known.map (·.name)=pre.map (·.name)∧errFs vars arrays later known l1=0∧sumFs vars arrays later known l1=ZS∧KnB (8 * ndFs pre) pre.length known)
  ⟨_,_,_,⟨[],fs,[],.app b4 0 1 [],.app b5 0 1 [],[(b4,.row 0)],[(b5,.row 0)],rfl,rfl,rfl,rfl,Acc.row,Acc.row,rfl,herr,hS,fun k hk=>(List.not_mem_nil hk).elim⟩,⟨rfl,rfl,rfl,rfl,rfl,rfl,trivial⟩,⟨[],by simpa using (List.perm_append_comm (l₁:=[_,_]) (l₂:=[_])).trans (List.Perm.cons _ (List.Perm.swap _ _ _))⟩⟩ ?_
 rintro k ls HH ⟨pre,l1,known,v4,v5,H4,H5,hL,rfl,rfl,rfl,hacc4,hacc5,hkn,hI,hSS,hB⟩ j hj
 have hb:=pre_le hL (show fs.length≤2000000 by omega)
 have hkl:known.length=pre.length:=by
  have:=congrArg List.length hkn
  simpa using this
 refine gak ?_
 refine oC rfl (fun hc=>?_) (fun hc=>?_)
 rotate_left
 ·obtain rfl:=none_left hL hc
  have hSe:known=ZS:=hSS
  rw[←hSe]
  refine gad ?_
  refine LCode.sub (d:=4) rfl hacc4.sub ?_
  refine LCode.sub (d:=5) rfl hacc5.sub ?_
  refine gaa ?_
  exact retRet hj (rC (rT (v:=.list _) rfl zsr) (rC (rT (v:=.list _) rfl zsr) rN)) rfl
 obtain ⟨f,l2,rfl⟩:=more hL hc
 rw[errFs] at hI
 obtain ⟨hI1,hI2⟩:=orE_zero.1 hI
 rw[sumFs] at hSS
 have hndf:ndFs pre+ndF f≤ndFs fs:=by
  have key:∀ p q:List FnD,ndFs (p++q)=ndFs p+ndFs q:=fun p q=>by
   induction p with
   |nil=>rw[List.nil_append,ndFs];omega
   |cons x p ih=>rw[List.cons_append,ndFs,ndFs,ih];omega
  rw[hL,key,ndFs]
  omega
 have hndb:ndSs f.body+f.params.length<2000001:=by unfold ndF at hndf;omega
 have hp8:(f.params.map str).length≤2000000:=by rw[List.length_map];omega
 have hdk:Dist known:=by
  unfold Dist at hd ⊢
  have e:(fs.map fun f=>(⟨f.name,0,0,0⟩:FSum)).map (·.name)=known.map (·.name)++(f::l2).map (·.name):=by rw[List.map_map,hL,List.map_append,hkn];rfl
  rw[e] at hd
  exact ⟨(List.nodup_append.1 hd.1).1,fun h=>hd.2.1 (List.mem_append_left _ h),fun h=>hd.2.2 (List.mem_append_left _ h)⟩
 have herb:errSs (envF vars arrays later known f) f.body=0:=(orE_zero.1 hI1).2
 have hneeds:=needs_spec (B0:=B0) (w0:=w0) (c:=envF vars arrays later known f) (fs:=pre) zo hkn hdk hB zo 2000001 zo f.body herb zo
 have hcall:=callees_spec (B0:=B0) (w0:=w0) 2000001 zo f.body zo
 have hcl:=callsSs_len f.body
 have hsum:=sumF_le (vars:=vars) (arrays:=arrays) (later:=later) (f:=f) hB
 have hS1:(sumF vars arrays later known f).need=mostN [2,f.params.length+1,needSs (envF vars arrays later known f) f.body]:=rfl
 have hS2:(sumF vars arrays later known f).depth=overN (envF vars arrays later known f) (callsSs f.body) 1:=by
  rw[overSs hdk]
  rfl
 have hneeds':LCalls (KC B0 w0) 106 [.list (f.body.map encS),.list (pre.map encFn),v4] [] (Ret (iv (needSs (envF vars arrays later known f) f.body))):=LCalls.argsSub (bs:=[.list (f.body.map encS),.list (pre.map encFn),.list ((known.map (·.need)).map iv)]) ⟨LV.Sub.refl _,LV.Sub.refl _,hacc4.sub,trivial⟩ hneeds
 refine gac ?_
 refine oP (xR (el':=encFn f) (cs:=[_,_,_,_]) rfl rfl zo (by rw[hL];exact get_mid encFn pre f l2) rfl rfl) rfl ?_
 refine gax ?_
 refine oS (S.alloc fun b7=>?_) rfl
 refine gab ?_
 refine LCode.draw (m:=18) rfl [fnH b7 f,prH b1 vars AL fs] ?_
 refine LAny.take (i:=0) (zhP pH zhp) rfl zk zk zk rfl (Pure.mv (lv:=v4) rfl) ?_
 refine aT 1 rfl rfl (Pure.fieldH rfl) ?_
 refine aT 2 rfl rfl (Pure.loadH (c:=.list _) rfl zm0 rfl) ?_
 refine aT 3 rfl rfl (Pure.llen rfl) ?_
 refine aT 4 rfl rfl (Pure.add rfl rfl zo) ?_
 refine aT 5 rfl rfl (Pure.fieldH rfl) ?_
 refine aT 6 rfl rfl (Pure.loadH (c:=.list _) rfl zm0 rfl) ?_
 refine aT 7 rfl rfl (Pure.fieldH rfl) ?_
 refine aT 8 rfl rfl (Pure.loadH (c:=.list _) rfl zm1 rfl) ?_
 refine aT 9 rfl rfl (Pure.mv (lv:=.atom _) rfl) ?_
 refine LAny.take (i:=10) (zhP pH zhp) rfl zk zk zk rfl (Pure.sliceTo (g:=encFn) (pre:=pre) (l1:=f::l2) (by rw[←hL];rfl) rfl (encFn_len _)) ?_
 refine LAny.take (i:=11) (zhP pH zhp) rfl zk zk zk rfl (Pure.mv (lv:=v4) rfl) ?_
 refine LAny.late ?_ (zhP pH zhp)
 refine lO 12 (lS (H1:=[]) rfl (.inl rfl) rfl zpr (zhP pH zhp) (S.fn [_,_,_] rfl hneeds' ?_))
 refine lO 13 (lS (H1:=[]) rfl (.inl rfl) rfl zpr (zhP pH zhp) (S.lit (es:=[2,f.params.length+1,needSs (envF vars arrays later known f) f.body].map iv) [_,_,_] (by show [int .i64 2,int .i64 (((f.params.map str).length:Int)+1),iv _]=_;simp[iv]) (iv_els _) rfl rfl rfl ?_))
 refine lO 14 (lS (H1:=[]) rfl (.inl rfl) rfl zpr (zhP pH zhp) (S.fn [_] rfl (most_spec 2 [f.params.length+1,needSs (envF vars arrays later known f) f.body] (by simp)) ?_))
 rw[←hS1]
 refine lO 15 (lS (H1:=[]) rfl (.inl rfl) rfl zpr (zhP pH zhp) (S.lit (es:=[(sumF vars arrays later known f).need].map iv) [_] rfl (iv_els _) rfl rfl rfl ?_))
 refine lO 16 (lS (H1:=H4) rfl (.inl rfl) rfl perm_two (zhP pH zhp) (S.acc (F:=[]) rfl hacc4 rfl (iv_len _) (iv_ok _) (by rw[List.length_map,List.length_map,List.length_map,List.length_singleton];omega) fun v6 H6 hacc6=>?_))
 refine lO 17 (lH rfl rfl (Pure.as (lv:=v6) rfl) ?_)
 refine lD zk ?_
 refine gav ?_
 refine LCode.perm (H':=fnH b7 f::prH b1 vars AL fs::(H5++H6)) (List.perm_append_comm (l₂:=_::_::H5)) ?_
 refine gac ?_
 refine oS (S.fn [_] rfl hcall ?_) rfl
 refine gad ?_
 have hnm6:(callsSs f.body).length≤2000001:=by omega
 generalize hNM:callsSs f.body=names at hS2 hnm6 ⊢
 refine oL (fun k ls H'=>∃ (pn nl:List Nm) (d:Nat),names=pn++nl∧k=nl.length∧ls=[(1,ptr b1 0),(4,v6),(5,v5),(6,int .i64 (pre.length:Int)),(7,ptr b7 0),(8,iv d),(15,.list (fs.map encFn)),(16,int .i64 ((fs.map encFn).length:Int)),(17,int .i64 (pre.length:Int)),(41,.list (names.map str)),(42,int .i64 ((names.map str).length:Int)),(43,int .i64 (pn.length:Int))] ∧
   H'=fnH b7 f::prH b1 vars AL fs::(H5++H6)∧(sumF vars arrays later known f).depth=overN (envF vars arrays later known f) nl d)
  ⟨_,_,_,⟨[],names,1,rfl,rfl,rfl,rfl,hS2⟩,⟨rfl,rfl,rfl,rfl,rfl,rfl,rfl,rfl,rfl,rfl,rfl,rfl,trivial⟩,HSub.refl _⟩ ?_
 rintro k ls H' ⟨pn,nl,d,hLn,rfl,rfl,rfl,hov⟩ j2 hj2
 have hb2:=pre_le hLn hnm6
 refine gak ?_
 refine oC rfl (fun hc2=>?_) (fun hc2=>?_)
 rotate_left
 ·obtain rfl:=none_left hLn hc2
  have hdd:(sumF vars arrays later known f).depth=d:=hov
  rw[←hdd]
  refine gac ?_
  refine oP (Pure.mv (lv:=v5) rfl) rfl ?_
  refine gao ?_
  refine oS (S.lit (es:=[(sumF vars arrays later known f).depth].map iv) [_] rfl (iv_els _) rfl rfl rfl ?_) rfl
  refine oS (S.accF (A:=fnH b7 f::prH b1 vars AL fs::H6) (H1:=H5) perm_two rfl hacc5 rfl (iv_len _) (iv_ok _) (by rw[List.length_map,List.length_map,List.length_map,List.length_singleton];omega) fun v9 H9 hacc9=>?_) rfl
  refine oP (Pure.as (lv:=v9) rfl) rfl ?_
  refine gaw ?_
  exact ⟨l2.length,_,_,Nat.lt_succ_self _,⟨pre++[f],l2,known++[sumF vars arrays later known f],v6,v9,H6,H9,snoc hL,rfl,rfl,rfl,by rw[List.map_append,List.map_append];exact hacc6,by rw[List.map_append,List.map_append];exact hacc9,by rw[List.map_append,List.map_append,hkn];rfl,hI2,hSS,fun q hq=>by
   have key:∀ p:List FnD,ndFs (p++[f])=ndFs p+ndF f:=fun p=>by
    induction p with
    |nil=>rw[List.nil_append,ndFs,ndFs,ndFs];omega
    |cons x p ih=>rw[List.cons_append,ndFs,ndFs,ih];omega
   rw[key,List.length_append,List.length_singleton]
   rcases List.mem_append.1 hq with h1|h1
   ·have:=hB q h1
    omega
   ·rw[List.mem_singleton.1 h1]
    omega⟩,⟨rfl,rfl,rfl,rfl,rfl,int_eq (by simp),trivial⟩,zhD ⟨[],by simp⟩,hj2.trans hj⟩
 obtain ⟨name,n2,rfl⟩:=more hLn hc2
 refine gal ?_
 refine oP (xR (el':=str name) (cs:=[_]) rfl rfl zo (by rw[hLn];exact get_mid str pn name n2) rfl rfl) rfl ?_
 refine gaa ?_
 refine oP (Pure.sliceTo (g:=encFn) (pre:=pre) (l1:=f::l2) (by rw[←hL];rfl) rfl (encFn_len _)) rfl ?_
 refine gad ?_
 refine oL (fun k ls H'=>∃ (pp pl:List FnD) (kp kl:List FSum) (d2:Nat),pre=pp++pl∧known=kp++kl∧kp.length=pp.length∧k=pl.length∧ls=[(1,ptr b1 0),(4,v6),(5,v5),(6,int .i64 (pre.length:Int)),(7,ptr b7 0),(8,iv d2),(10,str name),(15,.list (fs.map encFn)),(16,int .i64 ((fs.map encFn).length:Int)),(17,int .i64 (pre.length:Int)),(41,.list (names.map str)),(42,int .i64 ((names.map str).length:Int)),(43,int .i64 (pn.length:Int)),(51,int .i64 ((pre.map encFn).length:Int)),(52,int .i64 (pp.length:Int))] ∧
   H'=fnH b7 f::prH b1 vars AL fs::(H5++H6)∧kl.map (·.name)=pl.map (·.name)∧overF (fun f=>1+f.depth) name known d=overF (fun f=>1+f.depth) name kl d2)
  ⟨_,_,_,⟨[],pre,[],known,d,rfl,rfl,rfl,rfl,rfl,rfl,hkn,rfl⟩,⟨rfl,rfl,rfl,rfl,rfl,rfl,rfl,rfl,rfl,rfl,rfl,rfl,rfl,rfl,rfl,trivial⟩,HSub.refl _⟩ ?_
 rintro k ls H' ⟨pp,pl,kp,kl,d2,hLp,hLk,hkp,rfl,rfl,rfl,hkn2,hov2⟩ j3 hj3
 have hb3:=pre_le hLp hb
 refine gak ?_
 refine oC rfl (fun hc3=>?_) (fun hc3=>?_)
 rotate_left
 ·obtain rfl:=none_left hLp hc3
  have hkl0:kl=[]:=by
   cases kl with
   |nil=>rfl
   |cons s l=>simp at hkn2
  subst hkl0
  refine gac ?_
  exact ⟨n2.length,_,_,Nat.lt_succ_self _,⟨pn++[name],n2,d2,snoc hLn,rfl,rfl,rfl,by
   rw[hov]
   show List.foldl _ (overF (fun f=>1+f.depth) name known d) n2=_
   rw[hov2]
   rfl⟩,⟨rfl,rfl,rfl,rfl,rfl,rfl,rfl,rfl,rfl,rfl,rfl,int_eq (by simp),trivial⟩,HSub.refl _,hj3.trans hj2⟩
 obtain ⟨q,pl2,rfl⟩:=more hLp hc3
 obtain ⟨s,kl,rfl⟩:∃ s l,kl=s::l:=by
  cases kl with
  |nil=>simp at hkn2
  |cons s l=>exact ⟨s,l,rfl⟩
 rw[List.map_cons,List.map_cons] at hkn2
 injection hkn2 with hs hkn2
 have hget:(fs.map encFn)[((pp.length:Nat):Int).toNat]? = some (encFn q):=by
  rw[hL,hLp,List.append_assoc]
  exact get_mid encFn pp q _
 have hget2:((known.map (·.depth)).map iv)[((pp.length:Nat):Int).toNat]? = some (iv s.depth):=by
  rw[hLk,List.map_map,←hkp]
  exact get_mid _ kp s kl
 have hsd:s.depth≤2000000:=by
  have:=(hB s (by rw[hLk];simp)).2.2
  omega
 refine gaa ?_
 refine oP (xR (el':=encFn q) (cs:=[_,_,_,_]) rfl rfl zo hget rfl rfl) rfl ?_
 refine gab ?_
 by_cases h14:q.name=name
 ·refine oC rfl (fun _=>?_) (fun hd=>absurd h14 (zf hd))
  refine gaj ?_
  refine oP (Pure.mv (lv:=v5) rfl) rfl ?_
  refine gao ?_
  refine oP (xR (el':=iv s.depth) (cs:=[_]) hacc5.elems rfl zo hget2 rfl rfl) rfl ?_
  refine gab ?_
  refine oS (S.lit (es:=[d2,1+s.depth].map iv) [_,_] rfl (iv_els _) rfl rfl rfl ?_) rfl
  refine oS (S.fn [_] rfl (most_spec d2 [1+s.depth] (by simp)) ?_) rfl
  refine gac ?_
  exact ⟨pl2.length,_,_,Nat.lt_succ_self _,⟨pp++[q],pl2,kp++[s],kl,max d2 (1+s.depth),snoc hLp,snoc hLk,by simp[hkp],rfl,rfl,rfl,hkn2,by rw[hov2];unfold overF;rw[List.foldl_cons,if_pos (hs.trans h14)]⟩,⟨rfl,rfl,rfl,rfl,rfl,rfl,rfl,rfl,rfl,rfl,rfl,rfl,rfl,rfl,int_eq (by simp),trivial⟩,HSub.refl _,hj3⟩
 ·refine oC rfl (fun hd=>absurd (zt hd) h14) (fun _=>?_)
  refine gar ?_
  exact ⟨pl2.length,_,_,Nat.lt_succ_self _,⟨pp++[q],pl2,kp++[s],kl,d2,snoc hLp,snoc hLk,by simp[hkp],rfl,rfl,rfl,hkn2,by rw[hov2];unfold overF;rw[List.foldl_cons,if_neg (fun h=>h14 (hs.symm.trans h))]⟩,⟨rfl,rfl,rfl,rfl,rfl,rfl,rfl,rfl,rfl,rfl,rfl,rfl,rfl,rfl,int_eq (by simp),trivial⟩,HSub.refl _,hj3⟩
end
end Go.Proofs.YtcbpcianefpniaaGreatDoor.RC
namespace Go.Proofs.YtcbpcianefpniaaGreatDoor.RC
open Go.GL Go.RowKit Go.Stele
open Go.Proofs.YtcbpcianefpniaaGreatDoor.Chk (encArG encPrG freshE_zero isNm_short ndFs_append errFs_zero errF_names)
set_option maxRecDepth 100000
set_option maxHeartbeats 4000000
@[reducible] def pgmH (b:Nat) (vars:List Nm) (arrays:List (Nm×Int)) (fs:List FnD):Nat×LObj:=prH b vars (.list (arrays.map encArG)) fs
def PostC (e:Int) (r:LRes) (H:Heap):Prop:=H=[]∧∃ nm,r=.ret (.tuple [str nm,int .i64 e])
section
variable {C:Ctx} {n:Nat} {e:Env} {H:Heap}
theorem retC {rs:List ResultVar} {vs:List LV} {nm:Nm} {er:Int} (hd:e.ds=[]) (h:AllRes C n e H rs vs) (hv:resLV vs=.tuple [str nm,int .i64 er]):RetPost C n rs (PostC er) .ret e H:=
 rR hd h zhn ⟨rfl,nm,by rw[hv]⟩
end
theorem sums_len (vars arrays later:List Nm) (fs:List FnD):(sumFs vars arrays later [] fs).length=fs.length:=by
 have:=congrArg List.length (sumFs_names vars arrays later fs [])
 simpa using this
theorem last_ix {A B:Type} (g:A→B) {l:List A} {x:A} {n:Nat} (h:l.getLast? = some x) (hn:l.length=n):(l.map g)[((n:Int)-1).toNat]? = some (g x):=by
 rw[List.getLast?_eq_getElem?] at h
 subst hn
 rw[List.getElem?_map,show ((l.length:Int)-1).toNat=l.length-1 by omega,h]
 rfl
attribute [local irreducible] LOps LCode LStep LCalls Go.GL.Pure QThen QBlock RetPost LQ LAny LLate LLateOp LS
section
variable {B0:Nat} {w0:World}
theorem rcheck_spec (vars:List Nm) (arrays:List (Nm×Int)) (fs:List FnD) (hv6:vars.length≤2000000) (ha6:arrays.length≤2000000) (har:∀ a∈arrays,-9223372036854775808≤a.2∧a.2<9223372036854775808) (hnd:ndFs fs≤2000000) :
  LCalls (KC B0 w0) 27 [encPrG vars arrays fs] [] (PostC (checkP vars arrays fs)):=by
 have hfl:=ndFs_len fs
 rw[←refCheck_eq]
 generalize hE:refCheck vars arrays fs=E
 unfold refCheck at hE
 unfold encPrG
 refine cI Tryz.func27 rfl (n:=199) rfl rfl rfl ?_
 refine gag ?_
 refine oS (S.box rfl fun b1=>?_) rfl
 refine gai ?_
 refine oS (S.litA (es:=[]) [] rfl eN rfl rfl rfl fun b4=>?_) rfl
 refine oS (S.litA (es:=[]) [] rfl eN rfl rfl rfl fun b5=>?_) rfl
 refine gaa ?_
 refine oL (fun k ls H'=>∃ (pre l1:List (Nm×Int)) (v4:LV) (H4:Heap),arrays=pre++l1∧k=l1.length∧ls=[(1,ptr b1 0),(4,v4),(5,.app b5 0 1 []),(28,.list (arrays.map encArG)),(29,int .i64 ((arrays.map encArG).length:Int)),(30,int .i64 (pre.length:Int))] ∧
   H'=pgmH b1 vars arrays fs::(b5,.row 0)::H4∧GL.Acc 1 v4 ((pre.map (·.1)).map str) H4 [])
  ⟨_,_,_,⟨[],arrays,.app b4 0 1 [],[(b4,.row 0)],rfl,rfl,rfl,rfl,Acc.row⟩,⟨rfl,rfl,rfl,rfl,rfl,rfl,trivial⟩,⟨[],by simpa using (List.perm_append_comm (l₁:=[_,_]) (l₂:=[_]))⟩⟩ ?_
 rintro k ls H' ⟨pre,l1,v4,H4,hL,rfl,rfl,rfl,hacc4⟩ j hj
 have hb:=pre_le hL ha6
 refine gak ?_
 refine oC rfl (fun hc=>?_) (fun hc=>?_)
 ·obtain ⟨a,l2,rfl⟩:=more hL hc
  refine gal ?_
  refine oP (xR (el':=encArG a) (cs:=[_,_]) rfl rfl zo (by rw[hL];exact get_mid encArG pre a l2) rfl rfl) rfl ?_
  refine gab ?_
  refine oS (S.alloc fun b7=>?_) rfl
  refine gaa ?_
  refine oP (Pure.mv (lv:=v4) rfl) rfl ?_
  refine gad ?_
  refine oS (S.lit (es:=[a.1].map str) [_] rfl (eC rfl rfl eN) rfl rfl rfl ?_) rfl
  refine oS (S.accF (A:=[_,_,_]) (H1:=H4) (List.perm_append_comm (l₁:=[_,_,_])) rfl hacc4 rfl (strs_len _) (strs_ok _) (by simp;omega) fun v6 H6 hacc6=>?_) rfl
  refine oP (Pure.as (lv:=v6) rfl) rfl ?_
  refine gaw ?_
  exact ⟨l2.length,_,_,Nat.lt_succ_self _,⟨pre++[a],l2,v6,H6,snoc hL,rfl,rfl,rfl,by rw[List.map_append,List.map_append];exact hacc6⟩,⟨rfl,rfl,rfl,rfl,rfl,int_eq (by simp),trivial⟩,zhD zhr,hj⟩
 obtain rfl:=none_left hL hc
 rw[List.append_nil] at hL
 rw[←hL] at hacc4
 have harl:(arrays.map (·.1)).length=arrays.length:=List.length_map _
 generalize hA:arrays.map (·.1)=A at hacc4 hE harl
 refine gad ?_
 refine LCode.sub (d:=4) rfl hacc4.sub ?_
 refine LCode.weak (H':=[pgmH b1 vars arrays fs,(b5,.row 0)]) ⟨H4,List.Perm.refl _⟩ ?_
 refine gac ?_
 refine oL (fun k ls H'=>∃ (pre l1:List FnD) (v5:LV) (H5:Heap),fs=pre++l1∧k=l1.length∧ls=[(1,ptr b1 0),(4,.list (A.map str)),(5,v5),(41,.list (fs.map encFn)),(42,int .i64 ((fs.map encFn).length:Int)),(43,int .i64 (pre.length:Int))] ∧
   H'=pgmH b1 vars arrays fs::H5∧GL.Acc 1 v5 ((pre.map (·.name)).map str) H5 [])
  ⟨_,_,_,⟨[],fs,.app b5 0 1 [],[(b5,.row 0)],rfl,rfl,rfl,rfl,Acc.row⟩,⟨rfl,rfl,rfl,rfl,rfl,rfl,trivial⟩,HSub.refl _⟩ ?_
 rintro k ls H' ⟨pre2,l1,v5,H5,hL2,rfl,rfl,rfl,hacc5⟩ j2 hj2
 have hb2:=pre_le hL2 (show fs.length≤2000000 by omega)
 refine gak ?_
 refine oC rfl (fun hc=>?_) (fun hc=>?_)
 ·obtain ⟨a,l2,rfl⟩:=more hL2 hc
  refine gal ?_
  refine oP (xR (el':=encFn a) (cs:=[_,_,_,_]) rfl rfl zo (by rw[hL2];exact get_mid encFn pre2 a l2) rfl rfl) rfl ?_
  refine gax ?_
  refine oS (S.alloc fun b9=>?_) rfl
  refine gaa ?_
  refine oP (Pure.mv (lv:=v5) rfl) rfl ?_
  refine gad ?_
  refine oS (S.lit (es:=[a.name].map str) [_] rfl (eC rfl rfl eN) rfl rfl rfl ?_) rfl
  refine oS (S.accF (A:=[_,_]) (H1:=H5) (List.perm_append_comm (l₁:=[_,_])) rfl hacc5 rfl (strs_len _) (strs_ok _) (by simp;omega) fun v6 H6 hacc6=>?_) rfl
  refine oP (Pure.as (lv:=v6) rfl) rfl ?_
  refine gaw ?_
  exact ⟨l2.length,_,_,Nat.lt_succ_self _,⟨pre2++[a],l2,v6,H6,snoc hL2,rfl,rfl,rfl,by rw[List.map_append,List.map_append];exact hacc6⟩,⟨rfl,rfl,rfl,rfl,rfl,int_eq (by simp),trivial⟩,zhD zhr,hj2⟩
 obtain rfl:=none_left hL2 hc
 rw[List.append_nil] at hL2
 rw[←hL2] at hacc5
 have hfnl:(fs.map (·.name)).length=fs.length:=List.length_map _
 have hdist0:=fun h=>dist_of (vars:=vars) (arrays:=A) (fs:=fs) h
 have hnames0:∀ h:freshE [] (vars++A++fs.map (·.name))=0,∀ f∈fs,f.name.length≤1000:=fun h f hf=>isNm_short ((freshE_zero _ _ h).2.2 f.name (List.mem_append_right _ (List.mem_map_of_mem hf)))
 have hMeas:=fun (h1:freshE [] (vars++A++fs.map (·.name))=0) h2=>Measure_spec (B0:=B0) (w0:=w0) (vars:=vars) (arrays:=A) (fs:=fs) (.list (arrays.map encArG)) hnd (hdist0 h1) h2
 have hslen:=sums_len vars A (fs.map (·.name)) fs
 have hlens:((sumFs vars A (fs.map (·.name)) [] fs).map (·.name))=fs.map (·.name):=by rw[sumFs_names];rfl
 generalize hF:fs.map (·.name)=F at hacc5 hE hfnl hdist0 hnames0 hMeas hslen hlens
 refine gad ?_
 refine LCode.sub (d:=5) rfl hacc5.sub ?_
 refine LCode.weak (H':=[pgmH b1 vars arrays fs]) ⟨H5,List.Perm.refl _⟩ ?_
 refine gag ?_
 refine oS (S.litA (es:=[]) [] rfl eN rfl rfl rfl fun b6=>?_) rfl
 refine gab ?_
 refine oS (S.accF (A:=[_]) (H1:=[(b6,.row 0)]) zpr rfl Acc.row rfl (strs_len _) (strs_ok _) (by simp;omega) fun v1 H1 h1=>?_) rfl
 refine gad ?_
 refine oS (S.accF (A:=[_]) (H1:=H1) (List.perm_append_comm (l₁:=[_])) rfl h1 rfl (strs_len _) (strs_ok _) (by simp;omega) fun v2 H2 h2=>?_) rfl
 refine gad ?_
 refine oS (S.accF (A:=[_]) (H1:=H2) (List.perm_append_comm (l₁:=[_])) rfl h2 rfl (strs_len _) (strs_ok _) (by simp;omega) fun v3 H3 h3=>?_) rfl
 have e3:([]++vars.map str++A.map str++F.map str:List LV)=(vars++A++F).map str:=by simp
 rw[e3] at h3
 refine LOps.sub 61 rfl h3.sub ?_
 refine LOps.weak (H':=[pgmH b1 vars arrays fs]) ⟨H3,List.Perm.refl _⟩ ?_
 have hfr:LCalls (KC B0 w0) 52 [nilSlice,.list ((vars++A++F).map str)] [] (PostF [] (vars++A++F)):=LCalls.argsSub (bs:=[.list (([]:List Nm).map str),.list ((vars++A++F).map str)]) ⟨LV.Sub.nil,LV.Sub.refl _,trivial⟩ (fresh_spec [] _ (Nat.zero_le _) (by rw[List.length_append,List.length_append];omega))
 refine oS (S.callH (H1:=[]) (F:=[_]) [_,_] rfl zpr hfr ?_ (by
  rintro ch H' ⟨rfl,nm,f1,f2⟩
  by_cases h0:freshE [] (vars++A++F)=0
  ·cases f1 h0
  ·cases f2 h0)) rfl
 rintro lv H' ⟨rfl,nm,f1,f2⟩
 by_cases h0:freshE [] (vars++A++F)=0
 rotate_left
 ·cases f2 h0
  have hE':freshE [] (vars++A++F)=E:=by rw[←hE];exact (Chk.orE_ne h0).symm
  refine gab ?_
  refine oS (S.alloc fun b11=>?_) rfl
  refine gaa ?_
  refine oC rfl (fun _=>?_) (fun hd=>?_)
  rotate_left
  ·have h2:(!decide (freshE [] (vars++A++F)=0))=false:=hd
   simp at h2
   exact absurd h2 (by simpa using h0)
  refine gad ?_
  refine LCode.quiet zk ?_
  refine gab ?_
  exact retC (nm:=nm) (hj2.trans hj) (rC (zrt rfl) (zra rfl)) (by rw[hE'];rfl)
 have e0:=f1 h0
 rw[List.nil_append] at e0
 cases e0
 rw[h0] at hE
 replace hE:orE (sizesE 0 (arrays.map (·.2))) (orE (errFs vars A F [] fs) (mainE vars fs (refFs vars A F [] fs)))=E:=hE
 refine gab ?_
 refine oS (S.alloc fun b11=>?_) rfl
 refine gaa ?_
 refine oC rfl (fun hd=>by cases hd) (fun _=>?_)
 refine gaa ?_
 refine oL (fun k ls H'=>∃ (pre l1:List (Nm×Int)) (T:Int),arrays=pre++l1∧k=l1.length∧ls=[(1,ptr b1 0),(4,.list (A.map str)),(5,.list (F.map str)),(10,.list ((vars++A++F).map str)),(12,int .i64 T),(73,.list (arrays.map encArG)),(74,int .i64 ((arrays.map encArG).length:Int)),(75,int .i64 (pre.length:Int))] ∧
   H'=[pgmH b1 vars arrays fs]∧0≤T∧T≤150000∧orE (sizesE T (l1.map (·.2))) (orE (errFs vars A F [] fs) (mainE vars fs (refFs vars A F [] fs)))=E)
  ⟨_,_,_,⟨[],arrays,0,rfl,rfl,rfl,rfl,by omega,by omega,hE⟩,⟨rfl,rfl,rfl,rfl,rfl,rfl,rfl,rfl,trivial⟩,zhD zhr⟩ ?_
 rintro k ls H' ⟨pre3,l1,T,hL3,rfl,rfl,rfl,hT0,hT1,hI⟩ j3 hj3
 have hb3:=pre_le hL3 ha6
 have hds:=hj3.trans (hj2.trans hj)
 refine gak ?_
 refine oC rfl (fun hc=>?_) (fun hc=>?_)
 ·obtain ⟨a,l2,rfl⟩:=more hL3 hc
  obtain ⟨ar1,ar2⟩:=har a (by rw[hL3];simp)
  rw[List.map_cons,sizesE] at hI
  refine gal ?_
  refine oP (xR (el':=encArG a) (cs:=[_,_]) rfl rfl zo (by rw[hL3];exact get_mid encArG pre3 a l2) rfl rfl) rfl ?_
  refine gab ?_
  refine oS (S.alloc fun b14=>?_) rfl
  refine gaa ?_
  refine oC rfl (fun h5=>?_) (fun h5=>?_)
  ·rw[if_pos (zt h5)] at hI
   refine gac ?_
   exact retC (nm:=a.1) hds (rC (zrt rfl) (zra rfl)) (by rw[←hI];rfl)
  have h5':=zf h5
  rw[if_neg h5'] at hI
  refine gaa ?_
  refine oC rfl (fun h6=>?_) (fun h6=>?_)
  ·rw[if_pos (zt h6)] at hI
   refine gac ?_
   exact retC (nm:=a.1) hds (rC (zrt rfl) (zra rfl)) (by rw[←hI];rfl)
  have h6':=zf h6
  rw[if_neg h6'] at hI
  refine gac ?_
  exact ⟨l2.length,_,_,Nat.lt_succ_self _,⟨pre3++[a],l2,T+a.2,snoc hL3,rfl,rfl,rfl,by omega,by omega,hI⟩,⟨rfl,rfl,rfl,rfl,rfl,rfl,rfl,int_eq (by simp),trivial⟩,zhD zhr,hj3⟩
 obtain rfl:=none_left hL3 hc
 replace hI:orE (errFs vars A F [] fs) (mainE vars fs (refFs vars A F [] fs))=E:=hI
 clear hE
 refine gac ?_
 refine oL (fun k ls H'=>∃ (pre l1:List FnD) (known:List FSum),fs=pre++l1∧k=l1.length∧ls=[(1,ptr b1 0),(4,.list (A.map str)),(5,.list (F.map str)),(10,.list ((vars++A++F).map str)),(97,.list (fs.map encFn)),(98,int .i64 ((fs.map encFn).length:Int)),(99,int .i64 (pre.length:Int))] ∧
   H'=[pgmH b1 vars arrays fs]∧known.map (fun s=>(s.name,s.params))=pre.map (fun f=>(f.name,f.params.length))∧(errFs vars A F known l1=0→errFs vars A F [] fs=0)∧orE (errFs vars A F known l1) (mainE vars fs (refFs vars A F [] fs))=E)
  ⟨_,_,_,⟨[],fs,[],rfl,rfl,rfl,rfl,rfl,id,hI⟩,⟨rfl,rfl,rfl,rfl,rfl,rfl,rfl,trivial⟩,HSub.refl _⟩ ?_
 rintro k ls H' ⟨pre4,l1,known,hL4,rfl,rfl,rfl,hkn,hz,hI4⟩ j4 hj4
 have hb4:=pre_le hL4 (show fs.length≤2000000 by omega)
 have hds4:=hj4.trans hds
 refine gak ?_
 refine oC rfl (fun hc=>?_) (fun hc=>?_)
 ·obtain ⟨f,l2,rfl⟩:=more hL4 hc
  have hfm:f∈fs:=by rw[hL4];simp
  have hndf:=ndFs_mem hfm
  have hndf':1+f.params.length+f.locals.length+ndSs f.body≤2000000:=by unfold ndF at hndf;omega
  rw[errFs,errF,orE_assoc,orE_assoc] at hI4
  rw[errFs,errF] at hz
  have hsc:ScOk (envF vars A F known f) pre4:=by
   refine ⟨hkn,?_,?_,?_,?_,?_,fun g hg=>?_⟩
   ·show (f.params++f.locals).length≤_
    rw[List.length_append];omega
   ·show vars.length≤_
    omega
   ·show A.length≤_
    omega
   ·show F.length≤_
    omega
   ·omega
   ·have h7:=ndFs_mem (show g∈fs by rw[hL4];exact List.mem_append_left _ hg)
    unfold ndF at h7
    omega
  have hbody:=body_spec (B0:=B0) (w0:=w0) (own:=f.name) hsc 2000001 zo f.body zo
  refine gac ?_
  refine oP (xR (el':=encFn f) (cs:=[_,_,_,_]) rfl rfl zo (by rw[hL4];exact get_mid encFn pre4 f l2) rfl rfl) rfl ?_
  refine gax ?_
  refine oS (S.alloc fun b16=>?_) rfl
  refine gab ?_
  refine LCode.draw (m:=8) rfl [fnH b16 f] ?_
  refine aT 1 rfl rfl (Pure.fieldH rfl) ?_
  refine aT 2 rfl rfl (Pure.loadH (c:=.list _) rfl zm0 rfl) ?_
  refine aT 4 rfl rfl (Pure.fieldH rfl) ?_
  refine aT 5 rfl rfl (Pure.loadH (c:=.list _) rfl zm0 rfl) ?_
  refine LAny.late ?_ zhp
  refine lO 0 (lS (H1:=[]) rfl (.inl rfl) rfl zpr zhp (S.litA (es:=[]) [] rfl eN rfl rfl rfl fun b7=>?_))
  refine lO 3 (lS (H1:=[(b7,.row 0)]) rfl (.inl rfl) rfl zpr zhp (S.acc (F:=[]) rfl Acc.row rfl (strs_len _) (strs_ok _) (by simp;omega) fun v1 H1 h1=>?_))
  refine lO 6 (lS (H1:=H1) rfl (.inl rfl) rfl zpr zhp (S.acc (F:=[]) rfl h1 rfl (strs_len _) (strs_ok _) (by simp;omega) fun v2 H2 h2=>?_))
  have e2:([]++f.params.map str++f.locals.map str:List LV)=(f.params++f.locals).map str:=by simp
  rw[e2] at h2
  refine lO 7 (lH rfl rfl (Pure.as (lv:=v2) rfl) ?_)
  refine lD zk ?_
  refine gav ?_
  refine LCode.sub (d:=17) rfl h2.sub ?_
  refine LCode.weak (H':=[fnH b16 f,pgmH b1 vars arrays fs]) ⟨H2,List.perm_append_comm⟩ ?_
  refine gac ?_
  refine oS (S.callH (H1:=[]) (F:=[_,_]) [_,_] rfl zpr (fresh_spec (vars++A++F) (f.params++f.locals) (by rw[List.length_append,List.length_append];omega) (by rw[List.length_append];omega)) ?_ (by
   rintro ch H' ⟨rfl,nm,f1,f2⟩
   by_cases h0:freshE (vars++A++F) (f.params++f.locals)=0
   ·cases f1 h0
   ·cases f2 h0)) rfl
  rintro lv H' ⟨rfl,nm,f1,f2⟩
  by_cases h0:freshE (vars++A++F) (f.params++f.locals)=0
  rotate_left
  ·cases f2 h0
   rw[Chk.orE_ne h0] at hI4
   refine gab ?_
   refine oS (S.alloc fun b19=>?_) rfl
   refine gaa ?_
   refine oC rfl (fun _=>?_) (fun hd=>?_)
   rotate_left
   ·have h2:(!decide (freshE (vars++A++F) (f.params++f.locals)=0))=false:=hd
    simp at h2
    exact absurd h2 (by simpa using h0)
   refine gad ?_
   refine LCode.quiet zk ?_
   refine gab ?_
   exact retC (nm:=nm) hds4 (rC (zrt rfl) (zra rfl)) (by rw[←hI4];rfl)
  cases f1 h0
  rw[h0] at hI4 hz
  replace hI4:orE (errSs (envF vars A F known f) f.body) (orE (errFs vars A F (known++[sumF vars A F known f]) l2) (mainE vars fs (refFs vars A F [] fs)))=E:=hI4
  replace hz:orE (errSs (envF vars A F known f) f.body) (errFs vars A F (known++[sumF vars A F known f]) l2)=0→errFs vars A F [] fs=0:=hz
  refine gab ?_
  refine oS (S.alloc fun b19=>?_) rfl
  refine gaa ?_
  refine oC rfl (fun hd=>by cases hd) (fun _=>?_)
  refine gad ?_
  refine LCode.weak (H':=[fnH b16 f,pgmH b1 vars arrays fs]) (zhD zhr) ?_
  refine LCode.draw (m:=14) rfl [fnH b16 f,pgmH b1 vars arrays fs] ?_
  refine aT 0 rfl rfl (Pure.fieldH rfl) ?_
  refine aT 1 rfl rfl (Pure.loadH (c:=.atom _) rfl zm0 rfl) ?_
  refine aT 2 rfl rfl (Pure.mv (lv:=.list _) rfl) ?_
  refine aT 3 rfl rfl (Pure.fieldH rfl) ?_
  refine aT 4 rfl rfl (Pure.loadH (c:=.list _) rfl zm1 rfl) ?_
  refine aT 5 rfl rfl (Pure.mv (lv:=.list _) rfl) ?_
  refine aT 6 rfl rfl (Pure.fieldH rfl) ?_
  refine aT 7 rfl rfl (Pure.loadH (c:=.list _) rfl zm1 rfl) ?_
  refine aT 8 rfl rfl (Pure.mv (lv:=.atom _) rfl) ?_
  refine LAny.take (i:=9) zhr rfl zk zk zk rfl (Pure.sliceTo (g:=encFn) (pre:=pre4) (l1:=f::l2) (by rw[←hL4];rfl) rfl (encFn_len _)) ?_
  refine aT 10 rfl rfl (Pure.mv (lv:=.list _) rfl) ?_
  refine aT 11 rfl rfl (Pure.bld _ (cs:=[_,_,_,_,_,_]) rfl) ?_
  refine LAny.late ?_ zhr
  refine lO 12 (lS (H1:=[]) rfl (.inl rfl) rfl zpr zhr (S.alloc fun b20=>?_))
  refine lO 13 (lS (H1:=[_]) rfl (.inl rfl) rfl zpr zhr (S.store (n:=6) (cs':=[_,_,_,_,_,_]) rfl pH rfl rfl rfl rfl rfl ?_))
  refine lD zk ?_
  refine gaa ?_
  refine oS (S.pb [_,_] rfl hbody fun nm=>?_) rfl
  refine oS (S.alloc fun b21=>?_) rfl
  refine gaa ?_
  by_cases h1:errSs (envF vars A F known f) f.body=0
  ·rw[h1] at hI4 hz ⊢
   refine oC rfl (fun hd=>by cases hd) (fun _=>?_)
   refine gar ?_
   exact ⟨l2.length,_,_,Nat.lt_succ_self _,⟨pre4++[f],l2,known++[sumF vars A F known f],snoc hL4,rfl,rfl,rfl,by rw[List.map_append,List.map_append,hkn];rfl,hz,hI4⟩,⟨rfl,rfl,rfl,rfl,rfl,rfl,int_eq (by simp),trivial⟩,zhD (zhD (zhD zhr)),hj4⟩
  ·rw[Chk.orE_ne h1] at hI4
   refine oC rfl (fun _=>?_) (fun hd=>?_)
   rotate_left
   ·have h2:(!decide (errSs (envF vars A F known f) f.body=0))=false:=hd
    simp at h2
    exact absurd h2 h1
   refine gad ?_
   refine LCode.quiet zk ?_
   refine gab ?_
   exact retC (nm:=nm) hds4 (rC (zrt rfl) (zra rfl)) (by rw[←hI4];rfl)
 obtain rfl:=none_left hL4 hc
 have hz0:errFs vars A F [] fs=0:=hz rfl
 replace hI4:mainE vars fs (refFs vars A F [] fs)=E:=hI4
 rw[refFs_eq fs [] (by rw[List.nil_append];exact hdist0 h0) hz0] at hI4
 have hM:=hMeas h0 hz0
 have hown:∀ f∈fs,∀ x∈f.params++f.locals,x.length≤1000:=fun f hf=>by
  obtain ⟨k,hk⟩:=errFs_zero _ _ hz0 f hf
  exact errF_names hk
 have hnn:∀ f∈fs,f.name.length≤1000∧∀ x∈f.params++f.locals,x.length≤1000:=fun f hf=>⟨hnames0 h0 f hf,hown f hf⟩
 have hsm:∀ f∈fs,SmF f:=fun f hf=>smF_of (Nat.le_trans (ndFs_mem hf) hnd)
 clear hz hI hMeas
 unfold mainE at hI4
 refine gac ?_
 cases hfl2:fs.getLast? with
 |none=>
  have hnil:=List.getLast?_eq_none_iff.1 hfl2
  rw[hfl2] at hI4
  refine oB 153 rfl (fun _=>?_) (fun h=>absurd (by rw[hnil];rfl) (zf h))
  refine gad ?_
  refine oC rfl (fun _=>?_) (fun hd=>by cases hd)
  refine gau ?_
  exact retC (nm:=[109,97,105,110]) hds4 (rC (zrt rfl) (zra rfl)) (by rw[←hI4];rfl)
 |some f=>
  have hfm:f∈fs:=List.mem_of_getLast? hfl2
  have hpos:0<fs.length:=List.length_pos_of_mem hfm
  have hml:((fs.map encFn).length:Int)=(fs.length:Int):=by rw[List.length_map]
  obtain ⟨m,hm⟩:∃ m,(sumFs vars A F [] fs).getLast? = some m:=by
   cases hx:(sumFs vars A F [] fs).getLast? with
   |some m=>exact ⟨m,rfl⟩
   |none=>
    rw[List.getLast?_eq_none_iff.1 hx] at hslen
    simp at hslen
    omega
  rw[hfl2,hm] at hI4
  replace hI4:(if f.name=[109,97,105,110]∧f.params=[] then (if (scalarsP vars fs).length≤8000∧m.need≤200∧m.depth≤60 then 0 else 6) else 9)=E:=hI4
  have hget:(fs.map encFn)[(((fs.map encFn).length:Int)-1).toNat]? = some (encFn f):=by rw[hml];exact last_ix encFn hfl2 rfl
  have hg1:(((sumFs vars A F [] fs).map (·.need)).map iv)[(((fs.map encFn).length:Int)-1).toNat]? = some (iv m.need):=by
   rw[hml,List.map_map]
   exact last_ix _ hm hslen
  have hg2:(((sumFs vars A F [] fs).map (·.depth)).map iv)[(((fs.map encFn).length:Int)-1).toNat]? = some (iv m.depth):=by
   rw[hml,List.map_map]
   exact last_ix _ hm hslen
  have hn0:0≤((fs.map encFn).length:Int)-1:=by omega
  have hml2:((fs.map encFn).length:Int)≤2000000:=by omega
  refine oB 153 rfl (fun h=>?_) (fun _=>?_)
  ·have:=zt h
   omega
  refine gab ?_
  refine oP (xR (el':=encFn f) (n:=((fs.map encFn).length:Int)-1) (cs:=[_,_,_,_]) rfl rfl hn0 hget rfl rfl) rfl ?_
  refine gab ?_
  by_cases h1:f.name=[109,97,105,110]
  rotate_left
  ·rw[if_neg (fun h=>h1 h.1)] at hI4
   refine oB 163 (b:=!decide (f.name=[109,97,105,110])) rfl (fun _=>?_) (fun h=>absurd (by simpa using h) h1)
   refine gad ?_
   refine oC rfl (fun _=>?_) (fun hd=>by cases hd)
   refine gau ?_
   exact retC (nm:=[109,97,105,110]) hds4 (rC (zrt rfl) (zra rfl)) (by rw[←hI4];rfl)
  refine oB 163 (b:=!decide (f.name=[109,97,105,110])) rfl (fun h=>?_) (fun _=>?_)
  ·simp[h1] at h
  refine gab ?_
  refine oP (xR (el':=encFn f) (n:=((fs.map encFn).length:Int)-1) (cs:=[_,_,_,_]) rfl rfl hn0 hget rfl rfl) rfl ?_
  refine gab ?_
  refine oC rfl (fun h2=>?_) (fun h2=>?_)
  ·have h3:=zt h2
   rw[List.length_map] at h3
   rw[if_neg (fun h=>by rw[h.2] at h3;simp at h3)] at hI4
   refine gau ?_
   exact retC (nm:=[109,97,105,110]) hds4 (rC (zrt rfl) (zra rfl)) (by rw[←hI4];rfl)
  have hpar:f.params=[]:=by
   have h3:=zf h2
   rw[List.length_map] at h3
   exact List.length_eq_zero_iff.1 zo
  rw[if_pos ⟨h1,hpar⟩] at hI4
  refine gaa ?_
  refine oS (S.fn [_] rfl hM ?_) rfl
  refine gaa ?_
  refine oS (S.fn [_] rfl (rscalars_spec (.list (arrays.map encArG)) hv6 zo hsm hnn) ?_) rfl
  refine gab ?_
  refine oB 183 rfl (fun h3=>?_) (fun h3=>?_)
  ·have h4:=zt h3
   rw[List.length_map] at h4
   rw[if_neg (fun h=>by have:=h.1;omega)] at hI4
   refine gad ?_
   refine oC rfl (fun _=>?_) (fun hd=>by cases hd)
   refine gau ?_
   exact retC (nm:=[109,97,105,110]) hds4 (rC (zrt rfl) (zra rfl)) (by rw[←hI4];rfl)
  have h3':=zf h3
  rw[List.length_map] at h3'
  refine gab ?_
  refine oP (xR (el':=iv m.need) (n:=((fs.map encFn).length:Int)-1) (cs:=[_]) rfl rfl hn0 hg1 rfl rfl) rfl ?_
  refine gab ?_
  refine oB 191 rfl (fun h4=>?_) (fun h4=>?_)
  ·have h5:=zt h4
   rw[if_neg (fun h=>by have:=h.2.1;omega)] at hI4
   refine gad ?_
   refine oC rfl (fun _=>?_) (fun hd=>by cases hd)
   refine gau ?_
   exact retC (nm:=[109,97,105,110]) hds4 (rC (zrt rfl) (zra rfl)) (by rw[←hI4];rfl)
  have h4':=zf h4
  refine gab ?_
  refine oP (xR (el':=iv m.depth) (n:=((fs.map encFn).length:Int)-1) (cs:=[_]) rfl rfl hn0 hg2 rfl rfl) rfl ?_
  refine gab ?_
  refine oC rfl (fun h5=>?_) (fun h5=>?_)
  ·have h6:=zt h5
   rw[if_neg (fun h=>by have:=h.2.2;omega)] at hI4
   refine gau ?_
   exact retC (nm:=[109,97,105,110]) hds4 (rC (zrt rfl) (zra rfl)) (by rw[←hI4];rfl)
  have h5':=zf h5
  rw[if_pos ⟨by omega,by omega,by omega⟩] at hI4
  refine gac ?_
  exact retC (nm:=[]) hds4 (rC (zrt rfl) (zra rfl)) (by rw[←hI4];rfl)
end
end Go.Proofs.YtcbpcianefpniaaGreatDoor.RC
namespace Go.Proofs.YtcbpcianefpniaaGreatDoor.RI
open Go.GL Go.RowKit Go.Stele
open Go.Proofs.YtcbpcianefpniaaGreatDoor.Inp (u32 u32_eq wrapU arKV arH Cfg CfgOk Good progH outH runQ arH0 arH_start irErr endI_eq swap1 last_get last_main)
open Go.Proofs.YtcbpcianefpniaaGreatDoor.RC (get_mid more none_left pre_le snoc PostC)
set_option maxRecDepth 100000
set_option maxHeartbeats 4000000
@[reducible] def st0H (rb sm am:Nat) (p:Pr) (inp:List Nat) (steps:Int):Nat×LObj:=(rb,.cells 79 [.list (p.vars.map str),.list (p.arrays.map encAr),.list (p.funcs.map encFn),.atom (.map (some sm)),.atom (.map (some am)),.list (inp.map u32),nilSlice,int .i64 0,int .i64 steps])
attribute [local irreducible] LOps LCode LStep LCalls Go.GL.Pure QThen QBlock RetPost LQ LAny LLate LLateOp LS
section
variable {B0:Nat} {w0:World}
theorem rrun_spec {p:Pr} (hsm:SmP p) (hnum:∀ f∈p.funcs,numSs f.body) (hchk:LCalls (KC B0 w0) 27 [encPr p] [] (PostC (checkPr p))) {inp:List Nat} (hin:∀ v∈inp,Lt v) (steps:Int) :
  LCalls (KC B0 w0) 17 [encPr p,.list (inp.map u32),int .i64 steps] [] (Ret (Inp.encO (runQ p inp steps))):=by
 refine cI Tryz.func17 rfl (n:=83) rfl rfl rfl ?_
 refine gag ?_
 refine oS (S.box rfl fun b3=>?_) rfl
 refine oS (S.alloc fun b6=>?_) rfl
 refine gaa ?_
 refine oS (S.callH (H1:=[]) (F:=[_,_]) [_] rfl zpr hchk ?_ (by rintro ch H' ⟨_,nm,h⟩;cases h)) rfl
 rintro lv H' ⟨rfl,nm,h⟩
 cases h
 refine gaa ?_
 by_cases hc0:checkPr p=0
 rotate_left
 ·refine oC rfl (fun hc=>?_) (fun hc=>?_)
  ·refine gaa ?_
   exact retRet rfl (rC (rA (k:=3) rfl zb0 rfl zsr) rN) (by unfold runQ;rw[if_neg hc0];rfl)
  ·have h2:(!decide (checkPr p=0))=false:=hc
   simp at h2
   exact absurd h2 hc0
 refine oC rfl (fun hc=>?_) (fun _=>?_)
 ·have h2:(!decide (checkPr p=0))=true:=hc
  simp[hc0] at h2
 have hq:runQ p inp steps=limitI p inp steps:=by unfold runQ;rw[if_pos hc0]
 rw[hq]
 unfold limitI
 refine gaa ?_
 refine oC rfl (fun hc=>?_) (fun hc=>?_)
 ·have h1:100000000<steps:=zt hc
  rw[if_pos h1]
  refine gaa ?_
  exact retRet rfl (rC (rA (k:=3) rfl zb0 rfl zsr) rN) rfl
 have h1:¬ 100000000<steps:=zf hc
 rw[if_neg h1]
 refine gaa ?_
 refine oC rfl (fun hc=>?_) (fun hc=>?_)
 ·have h2:steps≤0:=zt hc
  rw[if_pos h2]
  refine gaa ?_
  exact retRet rfl (rC (rA (k:=3) rfl zb0 rfl zsr) rN) rfl
 have h2:¬ steps≤0:=zf hc
 rw[if_neg h2]
 have hv:=valid_of hc0
 have hshort:=short_of hc0
 have hand:(p.arrays.map (·.name)).Nodup:=(List.nodup_append.1 (List.nodup_append.1 (fresh_zero _ _ hv.names).1).1).2.1
 have hvars6:p.arrays.length≤2000000:=hsm.arrays
 have hfun6:p.funcs.length≤2000000:=hsm.funcs
 refine gaa ?_
 refine oS (S.kvNew fun sm=>?_) rfl
 refine oS (S.kvNew fun am=>?_) rfl
 refine gab ?_
 refine oS (S.box rfl fun rb=>?_) rfl
 refine gac ?_
 refine oL (fun k ls H'=>∃ (pre l1:List Ar) (ab:List (List UInt8×Nat×Nat)) (ca:Nat),p.arrays=pre++l1∧k=l1.length∧ab.map (fun q=>(q.1,q.2.2))=pre.map (fun a=>(a.name,a.size))∧ls=[(3,ptr b3 0),(6,ptr b6 0),(9,ptr rb 0),(10,int .i64 (pre.length:Int))] ∧
   H'=progH b3 p::st0H rb sm am p inp steps::(am,.map (kvs (arKV ab)) ca)::(sm,.map (kvs []) 0)::outH b6::arH0 ab)
  ⟨_,_,_,⟨[],p.arrays,[],0,rfl,rfl,rfl,rfl,rfl⟩,⟨rfl,rfl,rfl,rfl,trivial⟩,⟨[],by
   have e:List.Perm (st0H rb sm am p inp steps::(am,LObj.map (kvs []) 0)::(sm,LObj.map (kvs []) 0)::outH b6::progH b3 p::[]) (progH b3 p::st0H rb sm am p inp steps::(am,LObj.map (kvs []) 0)::(sm,LObj.map (kvs []) 0)::outH b6::[]):=List.perm_middle (l₁:=[_,_,_,_])
   rw[List.append_nil]
   exact e⟩⟩ ?_
 rintro k ls H' ⟨pre,l1,ab,ca,hL,rfl,hab,rfl,rfl⟩ j hj
 have hb:=pre_le hL hvars6
 refine gac ?_
 refine oC rfl (fun hd=>?_) (fun hd=>?_)
 ·obtain ⟨x,l2,rfl⟩:=more (g:=encAr) hL hd
  have hxs:=hv.sizes x (by rw[hL];exact List.mem_append_right _ (List.mem_cons_self ..))
  have hnew:x.name ∉ (arKV ab).map (·.1):=by
   have e:(arKV ab).map (·.1)=pre.map (·.name):=by
    have h1:(ab.map (fun q=>(q.1,q.2.2))).map (·.1)=(pre.map (fun a=>(a.name,a.size))).map (·.1):=by rw[hab]
    rw[List.map_map,List.map_map] at h1
    unfold arKV
    rw[List.map_map]
    exact h1
   rw[e]
   rw[hL,List.map_append] at hand
   intro hm
   exact (List.nodup_append.1 hand).2.2 x.name hm x.name (List.mem_cons_self ..) rfl
  refine gad ?_
  refine LCode.draw (m:=18) rfl [progH b3 p,st0H rb sm am p inp steps] ?_
  refine aT 0 rfl rfl (Pure.mv (lv:=.atom _) rfl) ?_
  refine aT 1 rfl rfl (Pure.nilCheckH rfl) ?_
  refine aT 2 rfl rfl (Pure.fieldH rfl) ?_
  refine aT 3 rfl rfl (Pure.loadH (c:=.atom _) rfl zm1 rfl) ?_
  refine aT 4 rfl rfl (Pure.fieldH rfl) ?_
  refine aT 5 rfl rfl (Pure.loadH (c:=.list _) rfl zm0 rfl) ?_
  refine aT 6 rfl rfl (Pure.mv (lv:=.atom _) rfl) ?_
  refine aT 7 rfl rfl (xR (el':=encAr x) (cs:=[_,_]) rfl rfl zo (by rw[hL];exact get_mid encAr pre x l2) rfl rfl) ?_
  refine aT 8 rfl rfl (Pure.field1 rfl rfl) ?_
  refine aT 9 rfl rfl (Pure.loadRef (c:=.atom _) rfl rfl) ?_
  refine aT 10 rfl rfl (Pure.fieldH rfl) ?_
  refine aT 11 rfl rfl (Pure.loadH (c:=.list _) rfl zm0 rfl) ?_
  refine aT 12 rfl rfl (Pure.mv (lv:=.atom _) rfl) ?_
  refine aT 13 rfl rfl (xR (el':=encAr x) (cs:=[_,_]) rfl rfl zo (by rw[hL];exact get_mid encAr pre x l2) rfl rfl) ?_
  refine aT 14 rfl rfl (Pure.field1 rfl rfl) ?_
  refine aT 15 rfl rfl (Pure.loadRef (c:=.atom _) rfl rfl) ?_
  refine LAny.late ?_ hsub_left
  refine lO 16 (lS (H1:=[]) rfl (.inl rfl) rfl zpr hsub_left (S.makeRow (n:=x.size) rfl rfl zo zo fun b=>?_))
  refine lO 17 (lS (H1:=[(am,.map (kvs (arKV ab)) ca)]) (F:=([_,progH b3 p,st0H rb sm am p inp steps]++((sm,.map (kvs []) 0)::outH b6::arH0 ab))) rfl (.inl rfl) rfl (List.perm_middle (l₁:=[_,_,_])) (zhD hsub_left) (S.kvSet (k:=x.name) rfl rfl rfl pH fun ca2=>?_))
  rw[kv_new hnew]
  refine lD zk ?_
  refine gac ?_
  exact ⟨l2.length,_,_,Nat.lt_succ_self _,⟨pre++[x],l2,ab++[(x.name,b,x.size)],ca2,snoc hL,rfl,by rw[List.map_append,List.map_append,hab];rfl,rfl,rfl⟩,⟨rfl,rfl,rfl,int_eq (by simp),trivial⟩,⟨[],by
   have e1:arKV (ab++[(x.name,b,x.size)])=arKV ab++[(x.name,rowV b x.size)]:=by unfold arKV;rw[List.map_append];rfl
   have e2:arH0 (ab++[(x.name,b,x.size)])=arH0 ab++[(b,LObj.cells 43 (List.replicate x.size (u32 0)))]:=by unfold arH0;rw[List.map_append];rfl
   rw[e1,e2,List.append_nil]
   have g:∀ (a r q s m o:Nat×LObj) (A:Heap),List.Perm (a::r::q::s::m::o::A) (q::s::a::m::o::(A++[r])):=fun a r q s m o A=>
    ((List.perm_append_comm (l₁:=[a,r]) (l₂:=[q,s])).append_right (m::o::A)).trans (List.Perm.cons q (List.Perm.cons s (List.Perm.cons a (swap1 (x:=r) (H:=m::o::A)))))
   exact g _ _ _ _ _ _ _⟩,hj⟩
 obtain rfl:=none_left (g:=encAr) hL hd
 rw[List.append_nil] at hL
 rw[←hL] at hab
 obtain ⟨lim,rfl⟩:∃ lim:Nat,steps=(lim:Int):=⟨steps.toNat,by omega⟩
 have hlim:lim≤100000000:=by omega
 rw[Int.toNat_natCast]
 obtain ⟨har,hal⟩:=arH_start hand hab inp lim
 have hm1:=hv.main.1
 have hfl2:(p.funcs.map encFn).length≤2000000:=by rw[List.length_map];exact hfun6
 have hfl3:1≤(p.funcs.map encFn).length:=by
  rw[List.length_map]
  exact List.length_pos_of_mem hm1
 have hlast:=last_main hm1
 obtain ⟨kn,hvb,hkn⟩:=hv.bodies _ hm1
 have hsmm:=hsm.each _ hm1
 have hC:CfgOk ⟨p,rb,0,0,sm,am,0,0,0,ca,0,(scalarsP p.vars p.funcs).map (fun k=>(k,0)),ab,lim⟩:=⟨hv,hnum,by rw[List.map_map];exact List.map_id _,by
   have h1:(ab.map (fun q=>(q.1,q.2.2))).map (·.1)=(p.arrays.map (fun a=>(a.name,a.size))).map (·.1):=by rw[hab]
   rw[List.map_map,List.map_map] at h1
   exact h1,hsm,fun q hq=>by
   have h1:(q.1,q.2.2)∈p.arrays.map (fun a=>(a.name,a.size)):=by rw[←hab];exact List.mem_map.2 ⟨q,hq,rfl⟩
   obtain ⟨a,ha,he⟩:=List.mem_map.1 h1
   injection he with e1 e2
   rw[←e2]
   exact (hv.sizes a ha).2,hlim,hshort.1,hshort.2⟩
 have hst0:StR ⟨p,rb,0,0,sm,am,0,0,0,ca,0,(scalarsP p.vars p.funcs).map (fun k=>(k,0)),ab,lim⟩ (startI p inp lim) (st0H rb sm am p inp lim::(sm,.map (kvs []) 0)::(am,.map (kvs (arKV ab)) ca)::arH0 ab):=by
  refine ⟨hal,Nat.le_refl _,nilSlice,[],[],0,Acc.nil,fun k=>.inr ⟨rfl,rfl⟩,?_⟩
  show _=(rb,LObj.cells 79 (runRC _ _ _))::_::_::(arH ab (startI p inp lim)++[])
  have e0:lim-(startI p inp lim).left=0:=Nat.sub_self lim
  rw[har,List.append_nil]
  unfold runRC
  simp only[e0]
  rfl
 have hgood:Inp.Good (⟨p,rb,0,0,sm,am,0,0,0,ca,0,(scalarsP p.vars p.funcs).map (fun k=>(k,0)),ab,lim⟩:Cfg) lim (startI p inp lim):=by
  refine ⟨⟨fun k=>by show Lt 0;unfold Lt;decide,fun x v hv=>?_,hin⟩,Nat.le_refl _,by show 0+lim≤lim;omega⟩
  have h1:v∈(match p.arrays.find? fun a=>decide (a.name=x) with
   |some a=>List.replicate a.size 0
   |none=>[]):=hv
  split at h1
  ·rw[(List.mem_replicate.1 h1).2]
   unfold Lt;decide
  ·cases h1
 generalize hcdef:(⟨p,rb,0,0,sm,am,0,0,0,ca,0,(scalarsP p.vars p.funcs).map (fun k=>(k,0)),ab,lim⟩:Cfg)=c at hC hst0 hgood
 have hcp:c.p=p:=by rw[←hcdef]
 have hcl:c.lim=lim:=by rw[←hcdef]
 have hcr:c.rb=rb:=by rw[←hcdef]
 have hblk:=rblock_spec (B0:=B0) (w0:=w0) hC (rrun_all hC lim).2 (mainI p) kn (mainI p).body (startI p inp lim) _ (by rw[hcp];exact hm1) (by rw[hcp];exact hkn) (by rw[←hcdef];exact hvb) (hnum _ hm1) hsmm.body hsmm.stmts hgood hst0
 rw[hcp,hcr] at hblk
 refine gaa ?_
 refine oP (xR (el':=encFn (mainI p)) (n:=((p.funcs.map encFn).length:Int)-1) (cs:=[_,_,_,_]) rfl rfl zo (last_get encFn hlast) rfl rfl) rfl ?_
 refine gax ?_
 refine oS (S.alloc fun b11=>?_) rfl
 refine gaa ?_
 refine oS (S.callR (H1:=st0H rb sm am p inp lim::(sm,.map (kvs []) 0)::(am,.map (kvs (arKV ab)) ca)::arH0 ab) (F:=[fnH b11 (mainI p),progH b3 p,outH b6]) [_,_,_] rfl (by
  have g:∀ (f q s a m o:Nat×LObj) (A:Heap),List.Perm (f::q::s::a::m::o::A) ((s::m::a::A)++[f,q,o]):=fun f q s a m o A=>by
   refine (List.Perm.cons f (List.Perm.cons q ((List.Perm.cons s ((List.Perm.swap m a _).trans (List.Perm.cons m (List.Perm.cons a (swap1 (x:=o) (H:=A))))))))).trans ?_
   have:=List.perm_append_comm (l₁:=[f,q]) (l₂:=s::m::a::(A++[o]))
   refine this.trans ?_
   show List.Perm ((s::m::a::(A++[o]))++[f,q]) ((s::m::a::A)++[f,q,o])
   simp only[List.cons_append,List.append_assoc]
   exact List.Perm.cons _ (List.Perm.cons _ (List.Perm.cons _ (List.Perm.append_left A (List.perm_append_comm (l₁:=[o]) (l₂:=[f,q])))))
  exact g _ _ _ _ _ _ _) hblk (fun v9 en er H9 hP=>?_)) rfl
 refine oS (S.alloc fun b12=>?_) rfl
 have hfin:runI p inp lim=⟨(blkR (stI p lim (mainI p)) (mainI p).body (startI p inp lim)).st.out,irErr (blkR (stI p lim (mainI p)) (mainI p).body (startI p inp lim)),lim-(blkR (stI p lim (mainI p)) (mainI p).body (startI p inp lim)).st.left⟩:=by
  unfold runI
  exact endI_eq _ _
 rw[hfin]
 generalize blkR (stI p lim (mainI p)) (mainI p).body (startI p inp lim)=R at hP ⊢
 obtain ⟨her,hsR⟩:er=irErr R∧StR c R.st H9:=by
  cases R with
  |ok r s2=>exact ⟨hP.ok.2.2.1,hP.ok.2.2.2⟩
  |stop e s2=>exact ⟨hP.stop.2.2.1,hP.stop.2.2.2⟩
 rw[←her]
 obtain ⟨_,hle,v,Ha,m,ck,hacc,hsc,rfl⟩:=hsR
 refine LOps.perm (H':=resH b12 0 0 0::fnH b11 (mainI p)::progH b3 p::outH b6::stRH c R.st v m ck Ha) (List.Perm.cons _ (List.perm_append_comm (l₂:=[_,_,_]))) ?_
 have hmem:∀ (x y z u:Nat×LObj),(rb,LObj.cells 79 (runRC c R.st v))∈x::y::z::u::stRH c R.st v m ck Ha:=fun x y z u=>by
  rw[←hcr]
  exact List.Mem.tail _ zm3
 refine gab ?_
 refine LCode.tail 12 zk ?_
 refine gaz ?_
 refine LS.pure (Pure.loadH (c:=v) rfl (hmem _ _ _ _) rfl) rfl ?_
 have hconv:∀ (e:Env) (H:Heap) (dst:Option Nat) (ty:TypeId) (pos:String) (aft:Array Edge) (g:Option (Nat×Bool)) (x:Operand),e.ev x=v→GL.Pure (KC B0 w0) ⟨dst,.convert 42 9 x,ty,pos,aft,g⟩ e H (str R.st.out):=fun e H dst ty pos aft g x hx=>by
  have he:=hacc.elems
  by_cases h0:R.st.out=[]
  ·rw[h0] at he ⊢
   exact Inp.Pure.bytesStr0 (by rw[hx,he];rfl)
  ·exact GL.Pure.bytesStr (by rw[hx,he];rfl) h0
 refine LS.pure (hconv _ _ _ _ _ _ _ _ rfl) rfl ?_
 refine gaz ?_
 refine LS.pure (Pure.loadH (c:=int .i64 ((c.lim-R.st.left:Nat):Int)) rfl (hmem _ _ _ _) rfl) rfl ?_
 refine gab ?_
 refine retRet hj (rC (rA (k:=3) rfl zb0 rfl zsr) rN) ?_
 rw[hcl]
 rfl
end
end Go.Proofs.YtcbpcianefpniaaGreatDoor.RI
namespace Go.Proofs.YtcbpcianefpniaaGreatDoor.RI
open Go.GL Go.RowKit Go.Stele
open Go.Proofs.YtcbpcianefpniaaGreatDoor.Inp (u32 runQ encPr_eq blockZ_spec smZ smZ_le pow40 exZ_le)
open Go.Proofs.YtcbpcianefpniaaGreatDoor.RC (PostC rcheck_spec)
open Go.Proofs.YtcbpcianefpniaaGreatDoor.Chk (encPrG encArG)
set_option maxRecDepth 100000
set_option maxHeartbeats 4000000
attribute [local irreducible] LOps LCode LStep LCalls Go.GL.Pure QThen QBlock RetPost LQ LAny LLate LLateOp LS
section
variable {B0:Nat} {w0:World}
theorem run_bad {vars:List Nm} {arrays:List (Nm×Int)} {fs:List FnD} (hchk:LCalls (KC B0 w0) 25 [encPrG vars arrays fs] [] (PostC (checkP vars arrays fs))) (hc0:checkP vars arrays fs≠0) (inp:List Nat) (steps:Int) :
  LCalls (KC B0 w0) 16 [encPrG vars arrays fs,.list (inp.map u32),int .i64 steps] [] (Ret (Inp.encO ⟨[],1,0⟩)):=by
 unfold encPrG at *
 refine cI Tryz.func16 rfl (n:=101) rfl rfl rfl ?_
 refine gag ?_
 refine oS (S.box rfl fun b3=>?_) rfl
 refine oS (S.alloc fun b6=>?_) rfl
 refine gaa ?_
 refine oS (S.callH (H1:=[]) (F:=[_,_]) [_] rfl zpr hchk ?_ (by rintro ch H' ⟨_,nm,h⟩;cases h)) rfl
 rintro lv H' ⟨rfl,nm,h⟩
 cases h
 refine gaa ?_
 refine oC rfl (fun hc=>?_) (fun hc=>?_)
 ·refine gaa ?_
  exact retRet rfl (rC (rA (k:=3) rfl zb0 rfl zsr) rN) rfl
 ·have h2:(!decide (checkP vars arrays fs=0))=false:=hc
  simp at h2
  exact absurd h2 hc0
theorem rrun_bad {vars:List Nm} {arrays:List (Nm×Int)} {fs:List FnD} (hchk:LCalls (KC B0 w0) 27 [encPrG vars arrays fs] [] (PostC (checkP vars arrays fs))) (hc0:checkP vars arrays fs≠0) (inp:List Nat) (steps:Int) :
  LCalls (KC B0 w0) 17 [encPrG vars arrays fs,.list (inp.map u32),int .i64 steps] [] (Ret (Inp.encO ⟨[],1,0⟩)):=by
 unfold encPrG at *
 refine cI Tryz.func17 rfl (n:=83) rfl rfl rfl ?_
 refine gag ?_
 refine oS (S.box rfl fun b3=>?_) rfl
 refine oS (S.alloc fun b6=>?_) rfl
 refine gaa ?_
 refine oS (S.callH (H1:=[]) (F:=[_,_]) [_] rfl zpr hchk ?_ (by rintro ch H' ⟨_,nm,h⟩;cases h)) rfl
 rintro lv H' ⟨rfl,nm,h⟩
 cases h
 refine gaa ?_
 refine oC rfl (fun hc=>?_) (fun hc=>?_)
 ·refine gaa ?_
  exact retRet rfl (rC (rA (k:=3) rfl zb0 rfl zsr) rN) rfl
 ·have h2:(!decide (checkP vars arrays fs=0))=false:=hc
  simp at h2
  exact absurd h2 hc0
end
end Go.Proofs.YtcbpcianefpniaaGreatDoor.RI
namespace Go.Proofs.YtcbpcianefpniaaGreatDoor.RI
open Go.GL Go.RowKit Go.Stele
open Go.Proofs.YtcbpcianefpniaaGreatDoor.Inp (u32 runQ encPr_eq blockZ_spec smZ smZ_le pow40 exZ_le)
open Go.Proofs.YtcbpcianefpniaaGreatDoor.RC (get_mid)
open Go.Proofs.YtcbpcianefpniaaGreatDoor.Chk (encPrG encArG)
set_option maxRecDepth 100000
set_option maxHeartbeats 4000000
section
variable {C:Ctx} {e:Env} {H:Heap} {dst:Option Nat} {ty:TypeId} {pos:String} {aft:Array Edge} {g:Option (Nat×Bool)} {x y:Operand} {k:IntKind}
theorem maxZ {a b:Int} (hx:e.ev x=int k a) (hy:e.ev y=int k b) {t u:TypeId}:Go.GL.Pure C ⟨dst,.call { callee:=.builtin .max,args:=#[x,y],argTypes:=#[t,u] },ty,pos,aft,g⟩ e H (int k (if a<b then b else a)):=
 .of_any fun ρ _ _ h=>⟨_,rep_atom,fun w'=>by
  have h0:∀ (cs:Array Bool) (args:Array Value),builtin .max #[t,u] ty cs args=(do Pure.pure (.value (←Builtin.max_ #[t,u] ty args))):=fun _ _=>rfl
  rw[execOp_builtin',h0]
  simp[Builtin.max_,Builtin.max2,atom_of h hx,atom_of h hy]⟩
end
attribute [local irreducible] LOps LCode LStep LCalls Go.GL.Pure QThen QBlock RetPost LQ LAny LLate LLateOp LS
section
variable {B0:Nat} {w0:World}
theorem size_spec (vars:List Nm) (arrays:List (Nm×Int)) (fs:List FnD) (ha6:arrays.length≤2000000) (har:∀ a∈arrays,-9223372036854775808≤a.2∧a.2<9223372036854775808) (hf6:fs.length≤2000000) (hpl:∀ f∈fs,f.params.length≤2000000∧f.locals.length≤2000000) :
  LCalls (KC B0 w0) 15 [encPrG vars arrays fs] [] (fun r H=>H=[]∧∃ z,r=.ret (int .i64 z)):=by
 unfold encPrG
 refine cI Tryz.func15 rfl (n:=49) rfl rfl rfl ?_
 refine gag ?_
 refine oS (S.box rfl fun b1=>?_) rfl
 refine gac ?_
 refine oL (fun kk ls H'=>∃ (pre l1:List (Nm×Int)) (z:Int),arrays=pre++l1∧kk=l1.length∧ls=[(1,ptr b1 0),(3,int .i64 z),(12,.list (arrays.map encArG)),(13,int .i64 ((arrays.map encArG).length:Int)),(14,int .i64 (pre.length:Int))]∧H'=[(b1,.cells 33 [.list (vars.map str),.list (arrays.map encArG),.list (fs.map encFn)])])
  ⟨_,_,_,⟨[],arrays,_,rfl,rfl,rfl,rfl⟩,⟨rfl,rfl,rfl,rfl,rfl,trivial⟩,HSub.refl _⟩ ?_
 rintro kk ls H' ⟨pre,l1,z,hLe,rfl,rfl,rfl⟩ j hj
 have hb2:pre.length≤2000000:=by
  have:=congrArg List.length hLe
  rw[List.length_append] at this
  omega
 refine gak ?_
 refine oC rfl (fun hc=>?_) (fun hc=>?_)
 ·have hlen:=zt hc
  rw[List.length_map,hLe,List.length_append] at hlen
  obtain ⟨a,l2,rfl⟩:∃ a l2,l1=a::l2:=by
   cases l1 with
   |nil=>simp at hlen
   |cons a l2=>exact ⟨a,l2,rfl⟩
  have hr:=har a (by rw[hLe];simp)
  refine gal ?_
  refine oP (xR (el':=encArG a) (cs:=[_,_]) rfl rfl zo (by rw[hLe];exact get_mid encArG pre _ l2) rfl rfl) rfl ?_
  refine gab ?_
  refine oS (S.alloc fun b5=>?_) rfl
  refine gaa ?_
  obtain ⟨m,hm⟩:∃ m,m=if a.2<0 then 0 else a.2:=⟨_,rfl⟩
  have hm2:0≤m∧m≤9223372036854775807:=by split at hm <;> omega
  refine oP (Pure.to (maxZ (a:=a.2) (b:=0) rfl rfl) (int_eq hm.symm)) rfl ?_
  refine oP (Pure.quo (a:=m) (b:=1000) rfl rfl (by decide) zo zo) rfl ?_
  refine oP (Pure.add (a:=1) (b:=m / 1000) rfl rfl zo) rfl ?_
  refine oP (Pure.addW rfl rfl) rfl ?_
  refine gac ?_
  exact ⟨l2.length,_,_,Nat.lt_succ_self _,⟨pre++[a],l2,_,by rw[hLe];simp,rfl,rfl,rfl⟩,⟨rfl,rfl,rfl,rfl,int_eq (by simp),trivial⟩,zhD zhr,hj⟩
 clear hc
 refine gac ?_
 refine oL (fun kk ls H'=>∃ (pre l1:List FnD) (z:Int),fs=pre++l1∧kk=l1.length∧ls=[(3,int .i64 z),(27,.list (fs.map encFn)),(28,int .i64 ((fs.map encFn).length:Int)),(29,int .i64 (pre.length:Int))]∧H'=[])
  ⟨_,_,_,⟨[],fs,_,rfl,rfl,rfl,rfl⟩,⟨rfl,rfl,rfl,rfl,trivial⟩,HSub.nil _⟩ ?_
 rintro kk ls H' ⟨pre2,l1,z2,hLe2,rfl,rfl,rfl⟩ j2 hj2
 have hb3:pre2.length≤2000000:=by
  have:=congrArg List.length hLe2
  rw[List.length_append] at this
  omega
 refine gak ?_
 refine oC rfl (fun hc=>?_) (fun hc=>?_)
 ·have hlen:=zt hc
  rw[List.length_map,hLe2,List.length_append] at hlen
  obtain ⟨f,l2,rfl⟩:∃ a l2,l1=a::l2:=by
   cases l1 with
   |nil=>simp at hlen
   |cons a l2=>exact ⟨a,l2,rfl⟩
  obtain ⟨hp1,hp2⟩:=hpl f (by rw[hLe2];simp)
  have hq1:(f.params.map str).length≤2000000:=by rw[List.length_map];exact hp1
  have hq2:(f.locals.map str).length≤2000000:=by rw[List.length_map];exact hp2
  have hq3:=smZ_le 40 f.body zo
  have hq4:=pow40 (d:=40) zo
  have hbl:=blockZ_spec (B0:=B0) (w0:=w0) 40 zo f.body
  generalize smZ 40 f.body=a1 at hq3 hbl
  have hq3:a1≤109951162777600000:=by omega
  clear hq4
  refine gal ?_
  refine oP (xR (el':=encFn f) (cs:=[_,_,_,_]) rfl rfl zo (by rw[hLe2];exact get_mid encFn pre2 _ l2) rfl rfl) rfl ?_
  refine gax ?_
  refine oS (S.alloc fun b7=>?_) rfl
  refine gab ?_
  refine LCode.draw (m:=15) rfl [(b7,.cells 63 [str f.name,.list (f.params.map str),.list (f.locals.map str),.list (f.body.map encS)])] ?_
  refine aT 0 rfl rfl (Pure.mv (lv:=.atom _) rfl) ?_
  refine aT 1 rfl rfl (Pure.fieldH rfl) ?_
  refine aT 2 rfl rfl (Pure.loadH (c:=.list _) rfl zm0 rfl) ?_
  refine aT 3 rfl rfl (Pure.llen rfl) ?_
  refine aT 4 rfl rfl (Pure.add rfl rfl zo) ?_
  refine aT 5 rfl rfl (Pure.fieldH rfl) ?_
  refine aT 6 rfl rfl (Pure.loadH (c:=.list _) rfl zm0 rfl) ?_
  refine aT 7 rfl rfl (Pure.llen rfl) ?_
  refine aT 8 rfl rfl (Pure.add rfl rfl zo) ?_
  refine aT 9 rfl rfl (Pure.fieldH rfl) ?_
  refine aT 10 rfl rfl (Pure.loadH (c:=.list _) rfl zm0 rfl) ?_
  refine LAny.late ?_ zhr
  refine lO 11 (lS (H1:=[]) rfl (.inl rfl) rfl zpr zhr (S.fn [_,_] rfl hbl ?_))
  refine lO 12 (lH rfl rfl (Pure.add rfl rfl zo) ?_)
  refine lO 13 (lH rfl rfl (Pure.addW rfl rfl) ?_)
  refine lO 14 (lH rfl rfl (Pure.as (lv:=.atom _) rfl) ?_)
  refine lD zk ?_
  refine gaw ?_
  exact ⟨l2.length,_,_,Nat.lt_succ_self _,⟨pre2++[f],l2,_,by rw[hLe2];simp,rfl,rfl,rfl⟩,⟨rfl,rfl,rfl,int_eq (by simp),trivial⟩,HSub.nil _,hj2⟩
 clear hc
 refine gac ?_
 refine rR (hj2.trans hj) (zra rfl) zhn ⟨rfl,_,rfl⟩
end
end Go.Proofs.YtcbpcianefpniaaGreatDoor.RI
namespace Go.Proofs.YtcbpcianefpniaaGreatDoor.RI
open Go.GL Go.RowKit Go.Stele
open Go.Proofs.YtcbpcianefpniaaGreatDoor.Inp (u32 runQ encPr_eq awake_spec)
open Go.Proofs.YtcbpcianefpniaaGreatDoor.RC (PostC rcheck_spec)
open Go.Proofs.YtcbpcianefpniaaGreatDoor.Chk (encPrG encArG check_spec)
set_option maxRecDepth 100000
set_option maxHeartbeats 4000000
theorem sizesE_pos:∀ (l:List Int) (t:Int),sizesE t l=0→∀ n∈l,0<n
 |[],t,_,n,h=>(List.not_mem_nil h).elim
 |m::l,t,h,n,hn=>by
  unfold sizesE at h
  split at h
  ·cases h
  ·split at h
   ·cases h
   ·rcases List.mem_cons.1 hn with rfl|hn
    ·omega
    ·exact sizesE_pos l _ h n hn
theorem checkP_pos {vars:List Nm} {arrays:List (Nm×Int)} {fs:List FnD} (h:checkP vars arrays fs=0):∀ a∈arrays,0<a.2:=fun a ha=>by
 unfold checkP at h
 have h1:=(orE_zero.1 (orE_zero.1 h).2).1
 exact sizesE_pos _ _ h1 a.2 (List.mem_map.2 ⟨a,ha,rfl⟩)
theorem ar_same {arrays:List (Nm×Int)} (h:∀ a∈arrays,0<a.2):((arrays.map fun a=>(⟨a.1,a.2.toNat⟩:Ar)).map fun a=>(a.name,(a.size:Int)))=arrays:=by
 rw[List.map_map]
 refine (List.map_congr_left (g:=id) fun a ha=>?_).trans (List.map_id _)
 have:=h a ha
 show (a.1,((a.2.toNat:Nat):Int))=a
 rw[Int.toNat_of_nonneg zo]
attribute [local irreducible] LOps LCode LStep LCalls Go.GL.Pure QThen QBlock RetPost LQ LAny LLate LLateOp LS
section
variable {B0:Nat} {w0:World}
theorem both_runs {vars:List Nm} {arrays:List (Nm×Int)} {fs:List FnD} (hv:vars.length≤2000000) (ha:arrays.length≤2000000) (har:∀ a∈arrays,-9223372036854775808≤a.2∧a.2<9223372036854775808) (hnd:ndFs fs≤2000000) (hsm:∀ f∈fs,SmF f) (hnum:∀ f∈fs,numSs f.body) {inp:List Nat} (hin:∀ v∈inp,Lt v) (steps:Int) :
  ∃ O:OutI,LCalls (KC B0 w0) 16 [encPrG vars arrays fs,.list (inp.map u32),int .i64 steps] [] (Ret (Inp.encO O))∧LCalls (KC B0 w0) 17 [encPrG vars arrays fs,.list (inp.map u32),int .i64 steps] [] (Ret (Inp.encO O)):=by
 have hk1:=check_spec (B0:=B0) (w0:=w0) vars arrays fs hv ha har hnd
 have hk2:=rcheck_spec (B0:=B0) (w0:=w0) vars arrays fs hv ha har hnd
 by_cases hc:checkP vars arrays fs=0
 ·have hs:=ar_same (checkP_pos hc)
  have hfl:=ndFs_len fs
  obtain ⟨p,hpe⟩:∃ p:Pr,p=⟨vars,arrays.map fun a=>⟨a.1,a.2.toNat⟩,fs⟩:=⟨_,rfl⟩
  have hp:encPr p=encPrG vars arrays fs:=by
   rw[encPr_eq,hpe]
   show encPrG vars _ fs=_
   rw[hs]
  have hcp:checkPr p=checkP vars arrays fs:=by
   rw[hpe]
   show checkP vars _ fs=_
   rw[hs]
  have hsp:SmP p:=by
   rw[hpe]
   exact ⟨hv,show (arrays.map _).length≤2000000 by rw[List.length_map];exact ha,show fs.length≤2000000 by omega,hsm⟩
  have hnp:∀ f∈p.funcs,numSs f.body:=by
   rw[hpe]
   exact hnum
  rw[←hp,←hcp] at hk1 hk2
  rw[←hp]
  exact ⟨runQ p inp steps,Inp.run_spec hsp hnp hk1 hin steps,rrun_spec hsp hnp hk2 hin steps⟩
 ·exact ⟨⟨[],1,0⟩,run_bad hk1 hc inp steps,rrun_bad hk2 hc inp steps⟩
theorem run_law (hG:GW B0 w0) {vars:List Nm} {arrays:List (Nm×Int)} {fs:List FnD} (hv:vars.length≤2000000) (ha:arrays.length≤2000000) (har:∀ a∈arrays,-9223372036854775808≤a.2∧a.2<9223372036854775808) (hnd:ndFs fs≤2000000) (hsm:∀ f∈fs,SmF f) (hnum:∀ f∈fs,numSs f.body) {inp:List Nat} (hin:∀ v∈inp,Lt v) (steps:Int) :
  LCalls (KC B0 w0) 4 [encPrG vars arrays fs,.list (inp.map u32),int .i64 steps] [] (Ret (bool true)):=by
 have haw:=awake_spec hG
 have hfl:=ndFs_len fs
 have hsz:=size_spec (B0:=B0) (w0:=w0) vars arrays fs ha har zo (fun f hf=>⟨(hsm f hf).params,(hsm f hf).locals⟩)
 obtain ⟨O,hs1,hs2⟩:=both_runs (B0:=B0) (w0:=w0) hv ha har hnd hsm hnum hin steps
 obtain ⟨o1,e1,n1⟩:=O
 unfold encPrG at *
 refine cI Tryz.func4 rfl (n:=32) rfl rfl rfl ?_
 refine gag ?_
 refine oS (S.box rfl fun b3=>?_) rfl
 refine gaa ?_
 refine oS (S.callH (H1:=[]) (F:=[_]) [_] rfl zpr hsz ?_ (by rintro ch H' ⟨_,nm,h⟩;cases h)) rfl
 rintro lv H' ⟨rfl,z,h⟩
 cases h
 refine gab ?_
 refine oB 10 rfl (fun h1=>?_) (fun h1=>?_)
 ·refine gad ?_
  refine oC rfl (fun _=>?_) (fun hc=>by cases hc)
  refine gag ?_
  refine oS (S.fn [] rfl haw ?_) rfl
  refine gan ?_
  exact retRet rfl (zra rfl) rfl
 refine gab ?_
 refine oB 15 rfl (fun h2=>?_) (fun h2=>?_)
 ·refine gad ?_
  refine oC rfl (fun _=>?_) (fun hc=>by cases hc)
  refine gag ?_
  refine oS (S.fn [] rfl haw ?_) rfl
  refine gan ?_
  exact retRet rfl (zra rfl) rfl
 refine gab ?_
 refine oC rfl (fun _=>?_) (fun _=>?_)
 ·refine gag ?_
  refine oS (S.fn [] rfl haw ?_) rfl
  refine gan ?_
  exact retRet rfl (zra rfl) rfl
 refine gad ?_
 refine LCode.draw (m:=13) rfl [(b3,.cells 33 [.list (vars.map str),.list (arrays.map encArG),.list (fs.map encFn)])] ?_
 refine aT 0 rfl rfl (Pure.ldHAgg (cs':=[_,_,_]) rfl zm0 rfl rfl) ?_
 refine aT 1 rfl rfl (Pure.mv (lv:=.list _) rfl) ?_
 refine aT 2 rfl rfl (Pure.mv (lv:=.atom _) rfl) ?_
 refine aT 4 rfl rfl (Pure.ldHAgg (cs':=[_,_,_]) rfl zm0 rfl rfl) ?_
 refine aT 5 rfl rfl (Pure.mv (lv:=.list _) rfl) ?_
 refine aT 6 rfl rfl (Pure.mv (lv:=.atom _) rfl) ?_
 refine LAny.late ?_ zhr
 refine lO 3 (lS (H1:=[]) rfl (.inl rfl) rfl zpr zhr (S.fn [_,_,_] rfl hs1 ?_))
 refine lO 7 (lS (H1:=[]) rfl (.inl rfl) rfl zpr zhr (S.fn [_,_,_] rfl hs2 ?_))
 refine lO 8 (lH rfl rfl (Pure.eqOutT (a:=o1) (b:=o1) (i:=e1) (k:=e1) (j:=(n1:Int)) (l:=(n1:Int)) rfl rfl rfl rfl rfl) ?_)
 refine lO 9 (lH rfl rfl (Pure.mv (lv:=.atom _) rfl) ?_)
 refine lO 10 (lS (H1:=[]) rfl (.inr ⟨_,_,_,rfl,rfl,rfl⟩) rfl zpr zhr (S.fn [] rfl haw ?_))
 refine lO 11 (lH rfl rfl (Pure.pickT (lv:=.atom _) rfl rfl) ?_)
 refine lO 12 (lH rfl rfl (Pure.as (lv:=.atom _) rfl) ?_)
 refine lD zk ?_
 refine gaf ?_
 exact retRet rfl (zra rfl) rfl
end
end Go.Proofs.YtcbpcianefpniaaGreatDoor.RI
