/- Texts joined: ChkW6, ChkW7, ChkW8, ChkW9, ChkW10, ChkW11, InpNodes, InpX3, GlEqS, LawI. -/
import Derived.Laws.StructEq
import Derived.ChangeKeysEq
import Derived.Test.YtcbpcianefpniaaGreatDoorBRowIN2
import Derived.Test.YtcbpcianefpniaaGreatDoorBRowIN3
import Derived.Test.YtcbpcianefpniaaGreatDoorBRowIN5
set_option linter.unusedVariables false
set_option linter.unusedSimpArgs false
namespace Go.Proofs.YtcbpcianefpniaaGreatDoor.Chk
open Go.GL Go.RowKit Go.Stele
set_option maxRecDepth 100000
set_option maxHeartbeats 4000000
theorem permCall {x y:Nat×LObj} {A B:Heap}:List.Perm (x::y::(A++B)) (A++(x::y::B)):=by
 have h:List.Perm (([x,y]++A)++B) ((A++[x,y])++B):=List.perm_append_comm.append_right B
 rw[List.append_assoc A] at h
 exact h
theorem permCall1 {x:Nat×LObj} {A B:Heap}:List.Perm (x::(A++B)) (A++(x::B)):=by
 have h:List.Perm (([x]++A)++B) ((A++[x])++B):=List.perm_append_comm.append_right B
 rw[List.append_assoc A] at h
 exact h
theorem permAcc {x y:Nat×LObj} {A B:Heap}:List.Perm (A++(x::y::B)) (B++(x::y::A)):=by
 refine permCall.symm.trans ?_
 exact (List.perm_append_comm (l₁:=x::y::A) (l₂:=B))
theorem iv_one (n:Nat):∀ v∈[iv n],v.cells.length=1:=fun v hv=>by rw[List.mem_singleton.1 hv];rfl
theorem needEs_len (c:CEnv):∀ l:List Ex,(needEs c l).length=l.length
 |[]=>rfl
 |x::l=>by rw[needEs,List.length_cons,List.length_cons,needEs_len c l]
theorem needEs_app (c:CEnv) (x:Ex):∀ l:List Ex,needEs c (l++[x])=needEs c l++[needE c x]
 |[]=>rfl
 |y::l=>by
  show needEs c (y::(l++[x]))=_
  rw[needEs,needEs_app c x l,needEs]
  rfl
theorem depEs_app (c:CEnv) (x:Ex):∀ l:List Ex,depEs c (l++[x])=max (depEs c l) (depE c x)
 |[]=>by
  show max (depE c x) 0=max 0 (depE c x)
  omega
 |y::l=>by
  show depEs c (y::(l++[x]))=_
  rw[depEs,depEs_app c x l,depEs,Nat.max_assoc]
theorem needEs_mem {c:CEnv} {B D:Nat} (hB:KnB B D c.funcs):∀ {l:List Ex} {n:Nat},n∈needEs c l→n≤4 * ndEs l+B
 |[],n,h=>by rw[needEs] at h;cases h
 |x::l,n,h=>by
  rw[needEs] at h
  rw[ndEs]
  rcases List.mem_cons.1 h with rfl|h
  ·have:=needE_le B D c hB x
   omega
  ·have:=needEs_mem hB h
   omega
attribute [local irreducible] LOps LCode LStep LCalls Go.GL.Pure QThen QBlock RetPost LQ LAny LLate LLateOp LS
section
variable {B0:Nat} {w0:World}
def ExprH (B0:Nat) (w0:World) (k:KB) (c:CEnv) (n:Nat):Prop:=∀ (x:Ex) (d:Nat),ndE x≤n→d≤200000000→LCalls (KC B0 w0) 198 [ptr k.cb 0,encE x] (ckH k d) (PostK (errE c x) (iv (needE c x)) (ckH k (max d (depE c x))))
theorem expr_spec {k:KB} {c:CEnv} (hk:KBok k c) {B D:Nat} (hB:KnB B D c.funcs) (hB8:B≤100000000) (hD8:D≤100000000):∀ n:Nat,n≤2000000→ExprH B0 w0 k c n
 |0,_=>fun x d h _=>by have:=ndE_pos x;omega
 |n+1,hn6=>by
  have ih:=expr_spec hk hB hB8 hD8 n zo
  intro x d hnd hd
  obtain ⟨op,num,name,args⟩:=x
  rw[ndE] at hnd
  have hal:=ndEs_len args
  have hall:(args.map encE).length=args.length:=List.length_map _
  generalize hI:errE c (Ex.mk op num name args)=E
  rw[errE] at hI
  rw[needE,depE]
  rw[encE_mk]
  refine cI Tryz.func198 rfl (n:=121) rfl rfl rfl ?_
  refine gag ?_
  refine oS (S.box rfl fun b3=>?_) rfl
  refine gac ?_
  refine oS (S.fn [_] rfl (operands_spec op) ?_) rfl
  refine gad ?_
  refine LCode.midC (A:=Unit) (fun _=>[(0,ptr k.cb 0),(3,ptr b3 0)]) (fun _=>(b3,.cells 170 [str op,int .u32 (num:Int),str name,.list (args.map encE)])::ckH k d) (fun _=>opnds op = -1∨opnds op=args.length) ?_ (fun _ hop j hj=>?_)
  ·refine LCode.draw (m:=14) rfl [(b3,.cells 170 [str op,int .u32 (num:Int),str name,.list (args.map encE)]),(k.cb,.cells 104 [.atom (.map (some k.gm)),.atom (.map (some k.vm)),.atom (.map (some k.am)),.atom (.map (some k.fm)),str k.name,.atom (.map (some k.om)),int .i64 (d:Int)])] ?_
   refine aT 0 rfl rfl (Pure.mv (lv:=.atom _) rfl) ?_
   by_cases h1:opnds op = -1
   ·refine LAny.take (i:=1) (zhP pH zhp) rfl zk zk zk rfl (Pure.eqlT h1 rfl rfl) ?_
    refine aT 2 rfl rfl (Pure.mv (lv:=.atom _) rfl) ?_
    refine LAny.takeSkip (i:=3) rfl rfl rfl rfl zk zk zk rfl ?_
    refine LAny.takeSkip (i:=4) rfl rfl rfl rfl zk zk zk rfl ?_
    refine LAny.takeSkip (i:=5) rfl rfl rfl rfl zk zk zk rfl ?_
    refine LAny.takeSkip (i:=6) rfl rfl rfl rfl zk zk zk rfl ?_
    refine LAny.takeSkip (i:=7) rfl rfl rfl rfl zk zk zk rfl ?_
    refine aT 8 rfl rfl (Pure.pickT (lv:=.atom _) rfl rfl) ?_
    refine aT 9 rfl rfl (Pure.mv (lv:=.atom _) rfl) ?_
    refine aT 10 rfl rfl (Pure.nilCheckH rfl) ?_
    refine aT 11 rfl rfl (Pure.fieldH rfl) ?_
    refine aT 12 rfl rfl (Pure.loadH (c:=.atom _) rfl zm1 rfl) ?_
    refine LAny.late ?_ (zhP pH zhp)
    refine lO 13 (lS (H1:=[]) rfl (.inl rfl) rfl zpr (zhP pH zhp) (LStep.callK [_,_,_] rfl (req_spec true k.name 3 (by decide)) (fun _=>?_) (fun nm h=>absurd rfl h)))
    refine lD zk ?_
    refine QThen.normal ?_
    exact ⟨(),.inl h1,⟨rfl,rfl,trivial⟩,HSub.refl _,rfl⟩
   ·refine LAny.take (i:=1) (zhP pH zhp) rfl zk zk zk rfl (Pure.eqlF h1 rfl rfl) ?_
    refine aT 2 rfl rfl (Pure.mv (lv:=.atom _) rfl) ?_
    refine LAny.tkW 3 rfl rfl rfl rfl (Pure.mv (lv:=.atom _) rfl) ?_
    refine LAny.tkW 4 rfl rfl rfl rfl (Pure.fieldH rfl) ?_
    refine LAny.tkW 5 rfl rfl rfl rfl (Pure.loadH (c:=.list _) rfl zm0 rfl) ?_
    refine LAny.tkW 6 rfl rfl rfl rfl (Pure.llen rfl) ?_
    by_cases h2:opnds op=args.length
    ·refine LAny.takeWant (i:=7) (zhP pH zhp) rfl rfl rfl zk zk zk rfl (Pure.eqlT (show opnds op=((args.map encE).length:Int) by rw[hall];exact h2) rfl rfl) ?_
     refine aT 8 rfl rfl (Pure.pickF (lv:=.atom _) rfl rfl) ?_
     refine aT 9 rfl rfl (Pure.mv (lv:=.atom _) rfl) ?_
     refine aT 10 rfl rfl (Pure.nilCheckH rfl) ?_
     refine aT 11 rfl rfl (Pure.fieldH rfl) ?_
     refine aT 12 rfl rfl (Pure.loadH (c:=.atom _) rfl zm1 rfl) ?_
     refine LAny.late ?_ (zhP pH zhp)
     refine lO 13 (lS (H1:=[]) rfl (.inl rfl) rfl zpr (zhP pH zhp) (LStep.callK [_,_,_] rfl (req_spec true k.name 3 (by decide)) (fun _=>?_) (fun nm h=>absurd rfl h)))
     refine lD zk ?_
     refine QThen.normal ?_
     exact ⟨(),.inr h2,⟨rfl,rfl,trivial⟩,HSub.refl _,rfl⟩
    ·refine LAny.takeWant (i:=7) (zhP pH zhp) rfl rfl rfl zk zk zk rfl (Pure.eqlF (show ¬ opnds op=((args.map encE).length:Int) by rw[hall];exact h2) rfl rfl) ?_
     refine aT 8 rfl rfl (Pure.pickF (lv:=.atom _) rfl rfl) ?_
     refine aT 9 rfl rfl (Pure.mv (lv:=.atom _) rfl) ?_
     refine aT 10 rfl rfl (Pure.nilCheckH rfl) ?_
     refine aT 11 rfl rfl (Pure.fieldH rfl) ?_
     refine aT 12 rfl rfl (Pure.loadH (c:=.atom _) rfl zm1 rfl) ?_
     refine LAny.late ?_ (zhP pH zhp)
     refine lO 13 (lS (H1:=[]) rfl (.inl rfl) rfl zpr (zhP pH zhp) (LStep.callK [_,_,_] rfl (req_spec false k.name 3 (by decide)) (fun h=>absurd h (by decide)) (fun nm _ e' he'=>?_)))
     refine gam ?_
     exact panK (he'.trans rfl) (by rw[←hI,if_neg (fun h=>h.elim h1 h2)];rfl) (by decide)
  rw[if_pos hop] at hI
  refine gac ?_
  refine oL (fun kk ls H'=>∃ (pre l1:List Ex) (v:LV) (Ha:Heap),args=pre++l1∧kk=l1.length∧ls=[(0,ptr k.cb 0),(3,ptr b3 0),(6,v),(29,.list (args.map encE)),(30,int .i64 ((args.map encE).length:Int)),(31,int .i64 (pre.length:Int))] ∧
    H'=(b3,.cells 170 [str op,int .u32 (num:Int),str name,.list (args.map encE)])::(ckH k (max d (depEs c pre))++Ha)∧GL.Acc 1 v ((needEs c pre).map iv) Ha []∧orE (errEs c l1) (useE c op name args.length)=E)
   ⟨args.length,_,_,⟨[],args,nilSlice,[],rfl,rfl,rfl,rfl,Acc.nil,hI⟩,⟨rfl,rfl,rfl,rfl,rfl,rfl,trivial⟩,⟨[],by
    rw[List.append_nil,List.append_nil,depEs,Nat.max_zero]⟩⟩ ?_
  rintro kk ls H' ⟨pre,l1,v,Ha,hLe,rfl,rfl,rfl,hacc,hI2⟩ j2 hj2
  have hb2:pre.length≤2000000:=by
   have:=congrArg List.length hLe
   rw[List.length_append] at this
   omega
  have hdp:max d (depEs c pre)≤200000000:=by
   have:=depEs_le B D c hB pre
   omega
  refine gak ?_
  refine oC rfl (fun hc=>?_) (fun hc=>?_)
  ·have hlen:=zt hc
   rw[List.length_map,hLe,List.length_append] at hlen
   obtain ⟨a,l2,rfl⟩:∃ a l2,l1=a::l2:=by
    cases l1 with
    |nil=>simp at hlen
    |cons a l2=>exact ⟨a,l2,rfl⟩
   have ham:ndE a≤ndEs args:=ndEs_mem (by rw[hLe];exact List.mem_append_right _ (List.mem_cons_self ..))
   rw[errEs] at hI2
   refine gal ?_
   refine oP (xR (el':=encE a) (cs:=[_,_,_,_]) rfl rfl zo (by rw[hLe];exact get_mid encE pre a l2) rfl rfl) rfl ?_
   refine gax ?_
   refine oS (S.alloc fun b8=>?_) rfl
   refine gaa ?_
   refine oP (Pure.mv (lv:=v) rfl) rfl ?_
   refine gab ?_
   refine oS (S.callK [_,_] rfl permCall (ih a _ zo hdp) (fun h0=>?_) (fun nm h0 e' he'=>?_)) rfl
   ·rw[h0] at hI2
    refine oS (S.lit (es:=[iv (needE c a)]) [_] rfl (eC rfl rfl eN) rfl rfl rfl ?_) rfl
    refine oS (S.accF permAcc rfl hacc rfl (iv_one _) rfl (by rw[List.length_map,needEs_len,List.length_cons,List.length_nil];omega) fun v' Ha' hacc'=>?_) rfl
    refine oP (Pure.as (lv:=v') rfl) rfl ?_
    refine gaw ?_
    exact ⟨l2.length,_,_,Nat.lt_succ_self _,⟨pre++[a],l2,v',Ha',by rw[hLe];simp,rfl,rfl,rfl,by rw[needEs_app,List.map_append];exact hacc',by rw[←hI2];rfl⟩,⟨rfl,rfl,rfl,rfl,rfl,int_eq (by simp),trivial⟩,by
     rw[depEs_app,←Nat.max_assoc]
     exact zhD zhr,hj2⟩
   ·refine gae ?_
    exact panK ((he'.trans hj2).trans hj) (by rw[←hI2];unfold orE;rw[if_pos h0,if_pos h0]) h0
  have hlen:=zf hc
  rw[List.length_map,hLe,List.length_append] at hlen
  obtain rfl:l1=[]:=by
   cases l1 with
   |nil=>rfl
   |cons a l2=>simp at hlen;omega
  rw[List.append_nil] at hLe
  subst hLe
  have hI3:useE c op name args.length=E:=by rw[←hI2];rfl
  have hds:j2.ds=[]:=hj2.trans hj
  generalize hd1:max d (depEs c args)=d1 at hdp ⊢
  have hdd:max d (max (depEs c args) (callD c op name))=max d1 (callD c op name):=by rw[←hd1,Nat.max_assoc]
  rw[hdd]
  generalize hns:needEs c args=ns at hacc ⊢
  have hnl:ns.length=args.length:=by rw[←hns,needEs_len]
  have hnb:∀ m∈ns,m≤1000000000:=fun m hm=>by
   rw[←hns] at hm
   have:=needEs_mem hB hm
   omega
  have hel:=hacc.elems
  refine gac ?_
  have ret1:∀ (nd:LV) {e:Env} {H:Heap},E=0→e.ds=[]→e.s 4=nd→HSub (ckH k d1) H→callD c op name=0→iv (opN c op name ns)=nd→RetPost (KC B0 w0) 121 [ResultVar.tmp 4] (PostK E (iv (opN c op name ns)) (ckH k (max d1 (callD c op name)))) .ret e H:=fun nd {e H} h0 hd he hH hcd hn=>by
   rw[hcd,Nat.max_zero]
   exact retK hd (rC (rT he zsr) rN) h0 hn.symm hH
  have hcall0:¬ op=nCall→callD c op name=0:=fun h=>by
   unfold callD
   rw[if_neg (fun h2=>h h2.1)]
  have hE0:¬ op=nVar→¬ op=nElem→¬ op=nCall→E=0:=fun a1 a2 a3=>by
   rw[←hI3]
   unfold useE
   rw[if_neg a1,if_neg a2,if_neg a3]
  have HS:HSub (ckH k d1) ((b3,.cells 170 [str op,int .u32 (num:Int),str name,.list (args.map encE)])::(ckH k d1++Ha)):=zhD hsub_left
  by_cases h1:op=[110,117,109]
  ·refine oC rfl (fun _=>?_) (fun hc=>absurd h1 (zf hc))
   refine gap ?_
   refine ret1 (iv 1) ?_ ?_ ?_ ?_ ?_ ?_
   ·subst h1;exact hE0 (by decide) (by decide) (by decide)
   ·exact hds
   ·rfl
   ·exact HS
   ·subst h1;exact hcall0 (by decide)
   ·subst h1;rfl
  refine oC rfl (fun hc=>absurd (zt hc) h1) (fun _=>?_)
  refine gai ?_
  by_cases h2:op=[118,97,114]
  ·refine oC rfl (fun _=>?_) (fun hc=>absurd h2 (zf hc))
   have hI4:scalarE c name=E:=by rw[←hI3];subst h2;rfl
   refine gac ?_
   refine oS (S.callK [_,_] rfl permCall1 (scalar_spec hk d1 name) (fun h0=>?_) (fun nm h0 e' he'=>?_)) rfl
   ·rw[hI4] at h0
    refine gap ?_
    refine ret1 (iv 1) h0 ?_ ?_ ?_ ?_ ?_
    ·exact hds
    ·rfl
    ·exact hsub_left
    ·subst h2;exact hcall0 (by decide)
    ·subst h2;rfl
   ·refine gae ?_
    exact panK (he'.trans hds) hI4.symm h0
  refine oC rfl (fun hc=>absurd (zt hc) h2) (fun _=>?_)
  refine gai ?_
  by_cases h3:op=[101,108,101,109]
  ·refine oC rfl (fun _=>?_) (fun hc=>absurd h3 (zf hc))
   have hI4:arrayE c name=E:=by rw[←hI3];subst h3;rfl
   obtain ⟨n0,rfl⟩:∃ n0,ns=[n0]:=by
    have h9:ns.length=1:=by
     rcases hop with h|h
     ·subst h3;exact absurd h (by decide)
     ·subst h3
      have h9:(1:Int)=(args.length:Int):=h
      omega
    cases ns with
    |nil=>cases h9
    |cons a l=>
     cases l with
     |nil=>exact ⟨a,rfl⟩
     |cons b l=>simp at h9
   have hn0:=hnb n0 (List.mem_cons_self ..)
   refine gac ?_
   refine oS (S.callK [_,_] rfl permCall1 (array_spec hk d1 name) (fun h0=>?_) (fun nm h0 e' he'=>?_)) rfl
   ·rw[hI4] at h0
    refine gak ?_
    refine oP (Pure.mv (lv:=v) rfl) rfl ?_
    refine oP (xR (el':=iv n0) (cs:=[iv n0]) hel rfl zo rfl rfl rfl) rfl ?_
    refine gab ?_
    refine ret1 (int .i64 (1+(n0:Int))) h0 ?_ ?_ ?_ ?_ ?_
    ·exact hds
    ·rfl
    ·exact hsub_left
    ·subst h3;exact hcall0 (by decide)
    ·subst h3;exact int_eq (show ((1+n0:Nat):Int)=_ by omega)
   ·refine gae ?_
    exact panK (he'.trans hds) hI4.symm h0
  refine oC rfl (fun hc=>absurd (zt hc) h3) (fun _=>?_)
  refine gai ?_
  by_cases h4:op=[99,97,108,108]
  ·refine oC rfl (fun _=>?_) (fun hc=>absurd h4 (zf hc))
   have hI4:callE c name ns.length=E:=by rw[←hI3,hnl];subst h4;rfl
   have hN4:opN c op name ns=callN c name ns:=by subst h4;rfl
   have hD4:callD c op name=callD c nCall name:=by subst h4;rfl
   refine gac ?_
   refine oP (Pure.mv (lv:=v) rfl) rfl ?_
   refine LOps.sub 67 rfl hacc.sub ?_
   refine oS (S.callK [_,_,_] rfl permCall1 (call_spec hk hB hB8 hD8 d1 zo name ns zo hnb) (fun h0=>?_) (fun nm h0 e' he'=>?_)) rfl
   ·rw[hI4] at h0
    refine gan ?_
    rw[hN4,hD4]
    exact retK hds (zra rfl) h0 rfl hsub_left
   ·refine gae ?_
    exact panK (he'.trans hds) hI4.symm h0
  refine oC rfl (fun hc=>absurd (zt hc) h4) (fun _=>?_)
  have hE00:=hE0 h2 h3 h4
  have hcd:=hcall0 h4
  refine gai ?_
  by_cases h5:op=[110,101,103]
  ·refine oC rfl (fun _=>?_) (fun hc=>absurd h5 (zf hc))
   obtain ⟨n0,rfl⟩:∃ n0,ns=[n0]:=by
    have h9:ns.length=1:=by
     rcases hop with h|h
     ·subst h5;exact absurd h (by decide)
     ·subst h5
      have h9:(1:Int)=(args.length:Int):=h
      omega
    cases ns with
    |nil=>cases h9
    |cons a l=>
     cases l with
     |nil=>exact ⟨a,rfl⟩
     |cons b l=>simp at h9
   have hn0:=hnb n0 (List.mem_cons_self ..)
   refine gag ?_
   refine oP (Pure.mv (lv:=v) rfl) rfl ?_
   refine oP (xR (el':=iv n0) (cs:=[iv n0]) hel rfl zo rfl rfl rfl) rfl ?_
   refine gab ?_
   refine ret1 (int .i64 (1+(n0:Int))) hE00 ?_ ?_ ?_ hcd ?_
   ·exact hds
   ·rfl
   ·exact HS
   ·subst h5;exact int_eq (show ((1+n0:Nat):Int)=_ by omega)
  refine oC rfl (fun hc=>absurd (zt hc) h5) (fun _=>?_)
  have h5n:=h5
  clear h5
  refine gai ?_
  by_cases h5:op=[110,111,116]
  ·refine oC rfl (fun _=>?_) (fun hc=>absurd h5 (zf hc))
   obtain ⟨n0,rfl⟩:∃ n0,ns=[n0]:=by
    have h9:ns.length=1:=by
     rcases hop with h|h
     ·subst h5;exact absurd h (by decide)
     ·subst h5
      have h9:(1:Int)=(args.length:Int):=h
      omega
    cases ns with
    |nil=>cases h9
    |cons a l=>
     cases l with
     |nil=>exact ⟨a,rfl⟩
     |cons b l=>simp at h9
   have hn0:=hnb n0 (List.mem_cons_self ..)
   refine gag ?_
   refine oP (Pure.mv (lv:=v) rfl) rfl ?_
   refine oP (xR (el':=iv n0) (cs:=[iv n0]) hel rfl zo rfl rfl rfl) rfl ?_
   refine gab ?_
   refine oP (Pure.max2e 2 n0 rfl rfl rfl rfl) rfl ?_
   refine gan ?_
   refine ret1 (iv (max 2 n0)) hE00 ?_ ?_ ?_ hcd ?_
   ·exact hds
   ·rfl
   ·exact HS
   ·subst h5;rfl
  refine oC rfl (fun hc=>absurd (zt hc) h5) (fun _=>?_)
  have hbin:ns.length=2:=by
   unfold opnds at hop
   rw[if_neg (fun h=>h.elim h1 h2),if_neg (fun h=>h.elim h3 (fun h=>h.elim h5n h5)),if_neg (show ¬ op=nCall from h4)] at hop
   split at hop
   ·rcases hop with h|h <;> omega
   ·rcases hop with h|h <;> omega
  obtain ⟨a,b,rfl⟩:∃ a b,ns=[a,b]:=by
   match ns,hbin with
   |[a,b],_=>exact ⟨a,b,rfl⟩
  have ha:=hnb a (List.mem_cons_self ..)
  have hb:=hnb b (List.mem_cons_of_mem _ (List.mem_cons_self ..))
  refine gad ?_
  refine LCode.quiet zk ?_
  refine LQ.pure (Pure.mv (lv:=v) rfl) rfl ?_
  refine LQ.pure (xR (el':=iv a) (cs:=[iv a]) hel rfl zo rfl rfl rfl) rfl ?_
  refine gaz ?_
  refine LQ.pure (Pure.mv (lv:=v) rfl) rfl ?_
  refine LQ.pure (xR (el':=iv b) (cs:=[iv b]) hel rfl zo rfl rfl rfl) rfl ?_
  refine gaa ?_
  by_cases h6:op=[62]
  ·refine oC rfl (fun _=>?_) (fun hc=>absurd h6 (zf hc))
   refine gav ?_
   refine oC rfl (fun _=>?_) (fun hc=>absurd h6 (zf hc))
   refine gac ?_
   refine oP (Pure.max3e 3 a (1+b) rfl rfl rfl rfl rfl zo) rfl ?_
   refine gan ?_
   refine ret1 (iv (max (max 3 a) (1+b))) hE00 ?_ ?_ ?_ hcd ?_
   ·exact hds
   ·rfl
   ·exact HS
   ·subst h6;rfl
  refine oC rfl (fun hc=>absurd (zt hc) h6) (fun _=>?_)
  have h6n:=h6
  clear h6
  refine gai ?_
  by_cases h6:op=[60,61]
  ·refine oC rfl (fun _=>?_) (fun hc=>absurd h6 (zf hc))
   refine gac ?_
   refine oP (Pure.max3e 3 a (1+b) rfl rfl rfl rfl rfl zo) rfl ?_
   refine gan ?_
   refine ret1 (iv (max (max 3 a) (1+b))) hE00 ?_ ?_ ?_ hcd ?_
   ·exact hds
   ·rfl
   ·exact HS
   ·subst h6;rfl
  refine oC rfl (fun hc=>absurd (zt hc) h6) (fun _=>?_)
  refine gai ?_
  by_cases h7:op=[33,61]
  ·refine oC rfl (fun _=>?_) (fun hc=>absurd h7 (zf hc))
   refine gac ?_
   refine oP (Pure.max3e 3 (1+a) (2+b) rfl rfl rfl rfl zo zo) rfl ?_
   refine gan ?_
   refine ret1 (iv (max (max 3 (1+a)) (2+b))) hE00 ?_ ?_ ?_ hcd ?_
   ·exact hds
   ·rfl
   ·exact HS
   ·subst h7;rfl
  refine oC rfl (fun hc=>absurd (zt hc) h7) (fun _=>?_)
  refine gai ?_
  by_cases h8:op=[38,38]
  ·refine oC rfl (fun _=>?_) (fun hc=>absurd h8 (zf hc))
   refine gac ?_
   refine oP (Pure.max2e (1+a) (2+b) rfl rfl zo zo) rfl ?_
   refine gan ?_
   refine ret1 (iv (max (1+a) (2+b))) hE00 ?_ ?_ ?_ hcd ?_
   ·exact hds
   ·rfl
   ·exact HS
   ·subst h8;rfl
  refine oC rfl (fun hc=>absurd (zt hc) h8) (fun _=>?_)
  refine gai ?_
  by_cases h9:op=[124,124]
  ·refine oC rfl (fun _=>?_) (fun hc=>absurd h9 (zf hc))
   refine gac ?_
   refine oP (Pure.max2e (2+a) (3+b) rfl rfl zo zo) rfl ?_
   refine gan ?_
   refine ret1 (iv (max (2+a) (3+b))) hE00 ?_ ?_ ?_ hcd ?_
   ·exact hds
   ·rfl
   ·exact HS
   ·subst h9;rfl
  refine oC rfl (fun hc=>absurd (zt hc) h9) (fun _=>?_)
  refine gac ?_
  refine oP (Pure.max3e 2 a (1+b) rfl rfl rfl rfl rfl zo) rfl ?_
  refine gaf ?_
  refine ret1 (iv (max (max 2 a) (1+b))) hE00 ?_ ?_ ?_ hcd ?_
  ·exact hds
  ·rfl
  ·exact HS
  ·unfold opN
   rw[if_neg (fun h=>h.elim h1 h2),if_neg (fun h=>h.elim h3 h5n),if_neg (show ¬ op=nCall from h4),if_neg (show ¬ op=nNot from h5),if_neg (fun h=>h.elim h6n h6),if_neg h7,if_neg h8,if_neg h9]
   rfl
end
end Go.Proofs.YtcbpcianefpniaaGreatDoor.Chk
namespace Go.Proofs.YtcbpcianefpniaaGreatDoor.Chk
open Go.GL Go.RowKit Go.Stele
set_option maxRecDepth 100000
set_option maxHeartbeats 4000000
theorem form_1 {name:List UInt8} {index value:List Ex} {thn els:List Sm}:formS (.mk 1 name index value thn els)=((!decide (name=[])) && decide (((index.map encE).length:Int)=0) && decide (((value.map encE).length:Int)=1) && decide (((thn.map encS).length:Int)=0) && decide (((els.map encS).length:Int)=0)):=by
 rw[Bool.eq_iff_iff]
 simp only[formS,Bool.and_eq_true,decide_eq_true_eq,Bool.not_eq_true',decide_eq_false_iff_not,List.length_map]
 constructor
 ·intro h
  have h':_:=zt h
  obtain ⟨a1,a2,a3,a4,a5⟩:=h'
  exact ⟨⟨⟨⟨by simpa using a1,by omega⟩,by omega⟩,by omega⟩,by omega⟩
 ·rintro ⟨⟨⟨⟨a1,a2⟩,a3⟩,a4⟩,a5⟩
  exact decide_eq_true ⟨by simpa using a1,by omega,by omega,by omega,by omega⟩
theorem form_2 {name:List UInt8} {index value:List Ex} {thn els:List Sm}:formS (.mk 2 name index value thn els)=((!decide (name=[])) && decide (((index.map encE).length:Int)=1) && decide (((value.map encE).length:Int)=1) && decide (((thn.map encS).length:Int)=0) && decide (((els.map encS).length:Int)=0)):=by
 rw[Bool.eq_iff_iff]
 simp only[formS,Bool.and_eq_true,decide_eq_true_eq,Bool.not_eq_true',decide_eq_false_iff_not,List.length_map]
 constructor
 ·intro h
  have h':_:=zt h
  obtain ⟨a1,a2,a3,a4,a5⟩:=h'
  exact ⟨⟨⟨⟨by simpa using a1,by omega⟩,by omega⟩,by omega⟩,by omega⟩
 ·rintro ⟨⟨⟨⟨a1,a2⟩,a3⟩,a4⟩,a5⟩
  exact decide_eq_true ⟨by simpa using a1,by omega,by omega,by omega,by omega⟩
theorem form_3 {name:List UInt8} {index value:List Ex} {thn els:List Sm}:formS (.mk 3 name index value thn els)=((!!decide (name=[])) && decide (((index.map encE).length:Int)=0) && decide (((value.map encE).length:Int)=1)):=by
 rw[Bool.eq_iff_iff]
 simp only[formS,Bool.and_eq_true,decide_eq_true_eq,Bool.not_eq_true',decide_eq_false_iff_not,List.length_map]
 constructor
 ·intro h
  have h':_:=zt h
  obtain ⟨a1,a2,a3⟩:=h'
  exact ⟨⟨by simpa using a1,by omega⟩,by omega⟩
 ·rintro ⟨⟨a1,a2⟩,a3⟩
  exact decide_eq_true ⟨by simpa using a1,by omega,by omega⟩
theorem form_4 {name:List UInt8} {index value:List Ex} {thn els:List Sm}:formS (.mk 4 name index value thn els)=((!!decide (name=[])) && decide (((index.map encE).length:Int)=0) && decide (((value.map encE).length:Int)=1) && decide (((els.map encS).length:Int)=0)):=by
 rw[Bool.eq_iff_iff]
 simp only[formS,Bool.and_eq_true,decide_eq_true_eq,Bool.not_eq_true',decide_eq_false_iff_not,List.length_map]
 constructor
 ·intro h
  have h':_:=zt h
  obtain ⟨a1,a2,a3,a4⟩:=h'
  exact ⟨⟨⟨by simpa using a1,by omega⟩,by omega⟩,by omega⟩
 ·rintro ⟨⟨⟨a1,a2⟩,a3⟩,a4⟩
  exact decide_eq_true ⟨by simpa using a1,by omega,by omega,by omega⟩
theorem form_5 {name:List UInt8} {index value:List Ex} {thn els:List Sm}:formS (.mk 5 name index value thn els)=((!!decide (name=[])) && decide (((index.map encE).length:Int)=0) && decide (((value.map encE).length:Int)=1) && decide (((thn.map encS).length:Int)=0) && decide (((els.map encS).length:Int)=0)):=by
 rw[Bool.eq_iff_iff]
 simp only[formS,Bool.and_eq_true,decide_eq_true_eq,Bool.not_eq_true',decide_eq_false_iff_not,List.length_map]
 constructor
 ·intro h
  have h':_:=zt h
  obtain ⟨a1,a2,a3,a4,a5⟩:=h'
  exact ⟨⟨⟨⟨by simpa using a1,by omega⟩,by omega⟩,by omega⟩,by omega⟩
 ·rintro ⟨⟨⟨⟨a1,a2⟩,a3⟩,a4⟩,a5⟩
  exact decide_eq_true ⟨by simpa using a1,by omega,by omega,by omega,by omega⟩
theorem form_6 {name:List UInt8} {index value:List Ex} {thn els:List Sm}:formS (.mk 6 name index value thn els)=((!!decide (name=[])) && decide (((index.map encE).length:Int)=0) && decide (((value.map encE).length:Int)=1) && decide (((thn.map encS).length:Int)=0) && decide (((els.map encS).length:Int)=0) && decide (exOp (value.headD default)=[99,97,108,108])):=by
 rw[Bool.eq_iff_iff]
 simp only[formS,Bool.and_eq_true,decide_eq_true_eq,Bool.not_eq_true',decide_eq_false_iff_not,List.length_map]
 constructor
 ·intro h
  have h':_:=zt h
  obtain ⟨a1,a2,a3,a4,a5,a6⟩:=h'
  exact ⟨⟨⟨⟨⟨by simpa using a1,by omega⟩,by omega⟩,by omega⟩,by omega⟩,a6⟩
 ·rintro ⟨⟨⟨⟨⟨a1,a2⟩,a3⟩,a4⟩,a5⟩,a6⟩
  exact decide_eq_true ⟨by simpa using a1,by omega,by omega,by omega,by omega,a6⟩
theorem form_7 {name:List UInt8} {index value:List Ex} {thn els:List Sm}:formS (.mk 7 name index value thn els)=((!!decide (name=[])) && decide (((index.map encE).length:Int)=0) && decide (((value.map encE).length:Int)=0) && decide (((thn.map encS).length:Int)=0) && decide (((els.map encS).length:Int)=0)):=by
 rw[Bool.eq_iff_iff]
 simp only[formS,Bool.and_eq_true,decide_eq_true_eq,Bool.not_eq_true',decide_eq_false_iff_not,List.length_map]
 constructor
 ·intro h
  have h':_:=zt h
  obtain ⟨a1,a2,a3,a4,a5⟩:=h'
  exact ⟨⟨⟨⟨by simpa using a1,by omega⟩,by omega⟩,by omega⟩,by omega⟩
 ·rintro ⟨⟨⟨⟨a1,a2⟩,a3⟩,a4⟩,a5⟩
  exact decide_eq_true ⟨by simpa using a1,by omega,by omega,by omega,by omega⟩
attribute [local irreducible] LOps LCode LStep LCalls Go.GL.Pure QThen QBlock RetPost LQ LAny LLate LLateOp LS
section
variable {B0:Nat} {w0:World}
theorem formed_spec (s:Sm):LCalls (KC B0 w0) 197 [encS s] [] (Ret (bool (formS s))):=by
 obtain ⟨kind,name,index,value,thn,els⟩:=s
 rw[encS_mk]
 refine cI Tryz.func197 rfl (n:=159) rfl rfl rfl ?_
 refine gag ?_
 refine oS (S.box rfl fun b1=>?_) rfl
 refine gad ?_
 refine LCode.quiet zk ?_
 refine gaa ?_
 by_cases hk1:kind=1
 ·subst hk1
  refine oC rfl (fun _=>?_) (fun hc=>by cases hc)
  rw[form_1]
  refine gaj ?_
  refine oB 28 rfl (fun q1=>?_) (fun q1=>?_)
  rotate_left
  ·refine gah ?_
   refine rR rfl (zra rfl) zhn ⟨?_,rfl⟩
   simp only[q1,Bool.false_and,Bool.and_false,Bool.true_and]
   rfl
  refine gaq ?_
  refine oB 32 rfl (fun q2=>?_) (fun q2=>?_)
  rotate_left
  ·refine gah ?_
   refine rR rfl (zra rfl) zhn ⟨?_,rfl⟩
   simp only[q1,q2,Bool.false_and,Bool.and_false,Bool.true_and]
   rfl
  refine gaq ?_
  refine oB 36 rfl (fun q3=>?_) (fun q3=>?_)
  rotate_left
  ·refine gah ?_
   refine rR rfl (zra rfl) zhn ⟨?_,rfl⟩
   simp only[q1,q2,q3,Bool.false_and,Bool.and_false,Bool.true_and]
   rfl
  refine gaq ?_
  refine oB 40 rfl (fun q4=>?_) (fun q4=>?_)
  rotate_left
  ·refine gah ?_
   refine rR rfl (zra rfl) zhn ⟨?_,rfl⟩
   simp only[q1,q2,q3,q4,Bool.false_and,Bool.and_false,Bool.true_and]
   rfl
  refine gad ?_
  refine rR rfl (zra rfl) zhn ⟨?_,rfl⟩
  simp only[q1,q2,q3,q4,Bool.true_and]
  rfl
 refine oC rfl (fun hc=>absurd (zt hc) hk1) (fun _=>?_)
 refine gas ?_
 by_cases hk2:kind=2
 ·subst hk2
  refine oC rfl (fun _=>?_) (fun hc=>by cases hc)
  rw[form_2]
  refine gaj ?_
  refine oB 47 rfl (fun q1=>?_) (fun q1=>?_)
  rotate_left
  ·refine gah ?_
   refine rR rfl (zra rfl) zhn ⟨?_,rfl⟩
   simp only[q1,Bool.false_and,Bool.and_false,Bool.true_and]
   rfl
  refine gaq ?_
  refine oB 51 rfl (fun q2=>?_) (fun q2=>?_)
  rotate_left
  ·refine gah ?_
   refine rR rfl (zra rfl) zhn ⟨?_,rfl⟩
   simp only[q1,q2,Bool.false_and,Bool.and_false,Bool.true_and]
   rfl
  refine gaq ?_
  refine oB 55 rfl (fun q3=>?_) (fun q3=>?_)
  rotate_left
  ·refine gah ?_
   refine rR rfl (zra rfl) zhn ⟨?_,rfl⟩
   simp only[q1,q2,q3,Bool.false_and,Bool.and_false,Bool.true_and]
   rfl
  refine gaq ?_
  refine oB 59 rfl (fun q4=>?_) (fun q4=>?_)
  rotate_left
  ·refine gah ?_
   refine rR rfl (zra rfl) zhn ⟨?_,rfl⟩
   simp only[q1,q2,q3,q4,Bool.false_and,Bool.and_false,Bool.true_and]
   rfl
  refine gad ?_
  refine rR rfl (zra rfl) zhn ⟨?_,rfl⟩
  simp only[q1,q2,q3,q4,Bool.true_and]
  rfl
 refine oC rfl (fun hc=>absurd (zt hc) hk2) (fun _=>?_)
 refine gas ?_
 by_cases hk3:kind=3
 ·subst hk3
  refine oC rfl (fun _=>?_) (fun hc=>by cases hc)
  rw[form_3]
  refine gaa ?_
  refine oB 67 rfl (fun q1=>?_) (fun q1=>?_)
  rotate_left
  ·refine gah ?_
   refine rR rfl (zra rfl) zhn ⟨?_,rfl⟩
   simp only[q1,Bool.false_and,Bool.and_false,Bool.true_and]
   rfl
  refine gaq ?_
  refine oB 71 rfl (fun q2=>?_) (fun q2=>?_)
  rotate_left
  ·refine gah ?_
   refine rR rfl (zra rfl) zhn ⟨?_,rfl⟩
   simp only[q1,q2,Bool.false_and,Bool.and_false,Bool.true_and]
   rfl
  refine gad ?_
  refine rR rfl (zra rfl) zhn ⟨?_,rfl⟩
  simp only[q1,q2,Bool.true_and]
  rfl
 refine oC rfl (fun hc=>absurd (zt hc) hk3) (fun _=>?_)
 refine gas ?_
 by_cases hk4:kind=4
 ·subst hk4
  refine oC rfl (fun _=>?_) (fun hc=>by cases hc)
  rw[form_4]
  refine gaa ?_
  refine oB 79 rfl (fun q1=>?_) (fun q1=>?_)
  rotate_left
  ·refine gah ?_
   refine rR rfl (zra rfl) zhn ⟨?_,rfl⟩
   simp only[q1,Bool.false_and,Bool.and_false,Bool.true_and]
   rfl
  refine gaq ?_
  refine oB 83 rfl (fun q2=>?_) (fun q2=>?_)
  rotate_left
  ·refine gah ?_
   refine rR rfl (zra rfl) zhn ⟨?_,rfl⟩
   simp only[q1,q2,Bool.false_and,Bool.and_false,Bool.true_and]
   rfl
  refine gaq ?_
  refine oB 87 rfl (fun q3=>?_) (fun q3=>?_)
  rotate_left
  ·refine gah ?_
   refine rR rfl (zra rfl) zhn ⟨?_,rfl⟩
   simp only[q1,q2,q3,Bool.false_and,Bool.and_false,Bool.true_and]
   rfl
  refine gad ?_
  refine rR rfl (zra rfl) zhn ⟨?_,rfl⟩
  simp only[q1,q2,q3,Bool.true_and]
  rfl
 refine oC rfl (fun hc=>absurd (zt hc) hk4) (fun _=>?_)
 refine gas ?_
 by_cases hk5:kind=5
 ·subst hk5
  refine oC rfl (fun _=>?_) (fun hc=>by cases hc)
  rw[form_5]
  refine gaa ?_
  refine oB 95 rfl (fun q1=>?_) (fun q1=>?_)
  rotate_left
  ·refine gah ?_
   refine rR rfl (zra rfl) zhn ⟨?_,rfl⟩
   simp only[q1,Bool.false_and,Bool.and_false,Bool.true_and]
   rfl
  refine gaq ?_
  refine oB 99 rfl (fun q2=>?_) (fun q2=>?_)
  rotate_left
  ·refine gah ?_
   refine rR rfl (zra rfl) zhn ⟨?_,rfl⟩
   simp only[q1,q2,Bool.false_and,Bool.and_false,Bool.true_and]
   rfl
  refine gaq ?_
  refine oB 103 rfl (fun q3=>?_) (fun q3=>?_)
  rotate_left
  ·refine gah ?_
   refine rR rfl (zra rfl) zhn ⟨?_,rfl⟩
   simp only[q1,q2,q3,Bool.false_and,Bool.and_false,Bool.true_and]
   rfl
  refine gaq ?_
  refine oB 107 rfl (fun q4=>?_) (fun q4=>?_)
  rotate_left
  ·refine gah ?_
   refine rR rfl (zra rfl) zhn ⟨?_,rfl⟩
   simp only[q1,q2,q3,q4,Bool.false_and,Bool.and_false,Bool.true_and]
   rfl
  refine gad ?_
  refine rR rfl (zra rfl) zhn ⟨?_,rfl⟩
  simp only[q1,q2,q3,q4,Bool.true_and]
  rfl
 refine oC rfl (fun hc=>absurd (zt hc) hk5) (fun _=>?_)
 refine gas ?_
 by_cases hk6:kind=6
 ·subst hk6
  refine oC rfl (fun _=>?_) (fun hc=>by cases hc)
  rw[form_6]
  refine gaa ?_
  refine oB 115 rfl (fun q1=>?_) (fun q1=>?_)
  rotate_left
  ·refine gah ?_
   refine rR rfl (zra rfl) zhn ⟨?_,rfl⟩
   simp only[q1,Bool.false_and,Bool.and_false,Bool.true_and]
   rfl
  refine gaq ?_
  refine oB 119 rfl (fun q2=>?_) (fun q2=>?_)
  rotate_left
  ·refine gah ?_
   refine rR rfl (zra rfl) zhn ⟨?_,rfl⟩
   simp only[q1,q2,Bool.false_and,Bool.and_false,Bool.true_and]
   rfl
  refine gaq ?_
  refine oB 123 rfl (fun q3=>?_) (fun q3=>?_)
  rotate_left
  ·refine gah ?_
   refine rR rfl (zra rfl) zhn ⟨?_,rfl⟩
   simp only[q1,q2,q3,Bool.false_and,Bool.and_false,Bool.true_and]
   rfl
  refine gaq ?_
  refine oB 127 rfl (fun q4=>?_) (fun q4=>?_)
  rotate_left
  ·refine gah ?_
   refine rR rfl (zra rfl) zhn ⟨?_,rfl⟩
   simp only[q1,q2,q3,q4,Bool.false_and,Bool.and_false,Bool.true_and]
   rfl
  refine gaq ?_
  refine oB 131 rfl (fun q5=>?_) (fun q5=>?_)
  rotate_left
  ·refine gah ?_
   refine rR rfl (zra rfl) zhn ⟨?_,rfl⟩
   simp only[q1,q2,q3,q4,q5,Bool.false_and,Bool.and_false,Bool.true_and]
   rfl
  refine gad ?_
  obtain ⟨x0,rfl⟩:∃ x,value=[x]:=by
   have h1:((value.map encE).length:Int)=1:=zt q3
   rw[List.length_map] at h1
   cases value with
   |nil=>simp at h1
   |cons x l=>
    cases l with
    |nil=>exact ⟨x,rfl⟩
    |cons y l=>simp at h1;omega
  first|refine LOps.want rfl rfl ?_|skip
  refine oP (xR (el':=encE x0) (cs:=[_,_,_,_]) rfl rfl zo rfl rfl rfl) rfl ?_
  refine gab ?_
  refine rR rfl (zra rfl) zhn ⟨?_,rfl⟩
  simp only[q1,q2,q3,q4,q5,Bool.true_and]
  rfl
 refine oC rfl (fun hc=>absurd (zt hc) hk6) (fun _=>?_)
 refine gas ?_
 by_cases hk7:kind=7
 ·subst hk7
  refine oC rfl (fun _=>?_) (fun hc=>by cases hc)
  rw[form_7]
  refine gaa ?_
  refine oB 143 rfl (fun q1=>?_) (fun q1=>?_)
  rotate_left
  ·refine gah ?_
   refine rR rfl (zra rfl) zhn ⟨?_,rfl⟩
   simp only[q1,Bool.false_and,Bool.and_false,Bool.true_and]
   rfl
  refine gaq ?_
  refine oB 147 rfl (fun q2=>?_) (fun q2=>?_)
  rotate_left
  ·refine gah ?_
   refine rR rfl (zra rfl) zhn ⟨?_,rfl⟩
   simp only[q1,q2,Bool.false_and,Bool.and_false,Bool.true_and]
   rfl
  refine gaq ?_
  refine oB 151 rfl (fun q3=>?_) (fun q3=>?_)
  rotate_left
  ·refine gah ?_
   refine rR rfl (zra rfl) zhn ⟨?_,rfl⟩
   simp only[q1,q2,q3,Bool.false_and,Bool.and_false,Bool.true_and]
   rfl
  refine gaq ?_
  refine oB 155 rfl (fun q4=>?_) (fun q4=>?_)
  rotate_left
  ·refine gah ?_
   refine rR rfl (zra rfl) zhn ⟨?_,rfl⟩
   simp only[q1,q2,q3,q4,Bool.false_and,Bool.and_false,Bool.true_and]
   rfl
  refine gad ?_
  refine rR rfl (zra rfl) zhn ⟨?_,rfl⟩
  simp only[q1,q2,q3,q4,Bool.true_and]
  rfl
 refine oC rfl (fun hc=>absurd (zt hc) hk7) (fun _=>?_)
 refine gac ?_
 refine rR rfl (zra rfl) zhn ⟨?_,rfl⟩
 have hf:formS (.mk kind name index value thn els)=false:=by
  simp only[formS]
  rw[if_neg hk1,if_neg hk2,if_neg hk3,if_neg hk4,if_neg hk5,if_neg hk6,if_neg hk7]
 rw[hf]
 rfl
end
end Go.Proofs.YtcbpcianefpniaaGreatDoor.Chk
namespace Go.Proofs.YtcbpcianefpniaaGreatDoor.Chk
open Go.GL Go.RowKit Go.Stele
set_option maxRecDepth 100000
set_option maxHeartbeats 4000000
theorem form_idx0 {kind:Int} {name:List UInt8} {index value:List Ex} {thn els:List Sm} (h:formS (.mk kind name index value thn els)=true) (h2:¬ kind=2):index=[]:=by
 have h1:index.length=0:=by
  simp only[formS] at h
  repeat' (split at h)
  all_goals first
   |(simp only[decide_eq_true_eq] at h;omega)
   |cases h
   |contradiction
 exact List.length_eq_zero_iff.1 h1
theorem form_none {kind:Int} {name:List UInt8} {index value:List Ex} {thn els:List Sm} (h:formS (.mk kind name index value thn els)=true) (h3:¬ kind=3) (h4:¬ kind=4):thn=[]∧els=[]:=by
 have h1:thn.length=0∧els.length=0:=by
  simp only[formS] at h
  repeat' (split at h)
  all_goals first
   |(simp only[decide_eq_true_eq] at h;constructor <;> omega)
   |cases h
   |contradiction
 exact ⟨List.length_eq_zero_iff.1 h1.1,List.length_eq_zero_iff.1 h1.2⟩
theorem form_seven {name:List UInt8} {index value:List Ex} {thn els:List Sm} (h:formS (.mk 7 name index value thn els)=true):value=[]:=by
 have h1:value.length=0:=by
  simp only[formS] at h
  repeat' (split at h)
  all_goals first
   |(simp only[decide_eq_true_eq] at h;omega)
   |cases h
   |contradiction
 exact List.length_eq_zero_iff.1 h1
attribute [local irreducible] LOps LCode LStep LCalls Go.GL.Pure QThen QBlock RetPost LQ LAny LLate LLateOp LS
section
variable {B0:Nat} {w0:World}
def StmtH (B0:Nat) (w0:World) (k:KB) (c:CEnv) (n:Nat):Prop:=∀ (x:Sm) (d:Nat),ndS x≤n→d≤200000000→LCalls (KC B0 w0) 179 [ptr k.cb 0,encS x] (ckH k d) (PostK (errS c x) (iv (needS c x)) (ckH k (max d (depS c x))))
def StmtsH (B0:Nat) (w0:World) (k:KB) (c:CEnv) (n:Nat):Prop:=∀ (l:List Sm) (d:Nat),ndSs l≤n→d≤200000000→LCalls (KC B0 w0) 145 [ptr k.cb 0,.list (l.map encS)] (ckH k d) (PostK (errSs c l) (iv (needSs c l)) (ckH k (max d (depSs c l))))
theorem stmts_spec {k:KB} {c:CEnv} {B D:Nat} (hB:KnB B D c.funcs) (hD8:D≤100000000) {n:Nat} (hn6:n≤2000000) (ih:StmtH B0 w0 k c n):StmtsH B0 w0 k c n:=by
 intro l d hnd hd
 have hal:=ndSs_len l
 generalize hN:needSs c l=N
 generalize hDD:max d (depSs c l)=DD
 refine cI Tryz.func145 rfl (n:=21) rfl rfl rfl ?_
 refine gac ?_
 refine oL (fun kk ls H'=>∃ (pre l1:List Sm) (m d1:Nat),l=pre++l1∧kk=l1.length∧ls=[(0,ptr k.cb 0),(5,iv m),(8,.list (l.map encS)),(9,int .i64 ((l.map encS).length:Int)),(10,iv pre.length)]∧H'=ckH k d1∧d1≤200000000∧errSs c l1=errSs c l∧max m (needSs c l1)=N∧max d1 (depSs c l1)=DD)
  ⟨l.length,_,_,⟨[],l,0,d,rfl,rfl,rfl,rfl,hd,rfl,by omega,hDD⟩,⟨rfl,rfl,rfl,rfl,rfl,trivial⟩,HSub.refl _⟩ ?_
 rintro kk ls H' ⟨pre,l1,m,d1,hLe,rfl,rfl,rfl,hd1,hE,hM,hD1⟩ j hj
 have hb2:pre.length≤2000000:=by
  have:=congrArg List.length hLe
  rw[List.length_append] at this
  omega
 refine gak ?_
 refine oC rfl (fun hc=>?_) (fun hc=>?_)
 ·have hlen:=zt hc
  rw[List.length_map,hLe,List.length_append] at hlen
  obtain ⟨a,l2,rfl⟩:∃ a l2,l1=a::l2:=by
   cases l1 with
   |nil=>simp at hlen
   |cons a l2=>exact ⟨a,l2,rfl⟩
  have ham:ndS a≤n:=by
   have h1:∀ (p:List Sm) (x:Sm) (r:List Sm),ndS x≤ndSs (p++x::r):=fun p=>by
    induction p with
    |nil=>intro x r;show ndS x≤ndSs (x::r);rw[ndSs];omega
    |cons y p ih2=>intro x r;show ndS x≤ndSs (y::(p++x::r));rw[ndSs];have:=ih2 x r;omega
   have:=h1 pre a l2
   rw[←hLe] at this
   omega
  rw[errSs] at hE
  rw[needSs] at hM
  rw[depSs] at hD1
  have hda:=depS_le B D c hB a
  refine gal ?_
  refine oP (xR (el':=encS a) (cs:=[_,_,_,_,_,_]) rfl rfl zo (by rw[hLe];exact get_mid encS pre a l2) rfl rfl) rfl ?_
  refine gab ?_
  refine oS (S.alloc fun b7=>?_) rfl
  refine gaa ?_
  refine oS (S.callK [_,_] rfl (Inp.swap1) (ih a d1 ham hd1) (fun h0=>?_) (fun nm h0 e' he'=>?_)) rfl
  ·rw[h0] at hE
   refine oP (Pure.max2e m (needS c a) rfl rfl rfl rfl) rfl ?_
   refine gac ?_
   exact ⟨l2.length,_,_,Nat.lt_succ_self _,⟨pre++[a],l2,max m (needS c a),max d1 (depS c a),by rw[hLe];simp,rfl,rfl,rfl,by omega,hE,by omega,by omega⟩,⟨rfl,rfl,rfl,rfl,int_eq (by simp),trivial⟩,hsub_left,hj⟩
  ·refine gae ?_
   exact panK (he'.trans hj) (by rw[←hE];unfold orE;rw[if_pos h0]) h0
 ·have hlen:=zf hc
  rw[List.length_map,hLe,List.length_append] at hlen
  obtain rfl:l1=[]:=by
   cases l1 with
   |nil=>rfl
   |cons a l2=>simp at hlen;omega
  rw[needSs] at hM
  rw[depSs] at hD1
  have e1:m=N:=by omega
  have e2:d1=DD:=by omega
  subst e1 e2
  refine gac ?_
  exact retK hj (zra rfl) (hE.symm.trans rfl) rfl zhr
theorem stmt_spec {k:KB} {c:CEnv} (hk:KBok k c) {B D:Nat} (hB:KnB B D c.funcs) (hB8:B≤50000000) (hD8:D≤100000000):∀ n:Nat,n≤2000000→StmtH B0 w0 k c n
 |0,_=>fun x d h _=>by have:=ndS_pos x;omega
 |n+1,hn6=>by
  have ihs:=stmts_spec (B0:=B0) (w0:=w0) hB hD8 (n:=n) zo (stmt_spec hk hB hB8 hD8 n zo)
  have hX:ExprH B0 w0 k c n:=expr_spec hk hB zo hD8 n zo
  intro x d hnd hd
  obtain ⟨kind,name,index,value,thn,els⟩:=x
  rw[ndS] at hnd
  generalize hI:errS c (Sm.mk kind name index value thn els)=E
  rw[errS] at hI
  generalize hN:needS c (Sm.mk kind name index value thn els)=N
  rw[needS] at hN
  generalize hDD:max d (depS c (Sm.mk kind name index value thn els))=DD
  rw[depS] at hDD
  have hfs:=formed_spec (B0:=B0) (w0:=w0) (Sm.mk kind name index value thn els)
  rw[encS_mk] at hfs ⊢
  refine cI Tryz.func179 rfl (n:=65) rfl rfl rfl ?_
  refine gag ?_
  refine oS (S.box rfl fun b3=>?_) rfl
  refine gad ?_
  refine LCode.midC (A:=Unit) (fun _=>[(0,ptr k.cb 0),(3,ptr b3 0)]) (fun _=>(b3,.cells 128 [int .i64 kind,str name,.list (index.map encE),.list (value.map encE),.list (thn.map encS),.list (els.map encS)])::ckH k d) (fun _=>formS (Sm.mk kind name index value thn els)=true) ?_ (fun _ hform j hj=>?_)
  ·refine LCode.draw (m:=7) rfl [(b3,.cells 128 [int .i64 kind,str name,.list (index.map encE),.list (value.map encE),.list (thn.map encS),.list (els.map encS)]),(k.cb,.cells 104 [.atom (.map (some k.gm)),.atom (.map (some k.vm)),.atom (.map (some k.am)),.atom (.map (some k.fm)),str k.name,.atom (.map (some k.om)),int .i64 (d:Int)])] ?_
   refine aT 0 rfl rfl (Pure.ldHAgg (cs':=[_,_,_,_,_,_]) rfl zm0 rfl rfl) ?_
   refine aT 2 rfl rfl (Pure.mv (lv:=.atom _) rfl) ?_
   refine aT 3 rfl rfl (Pure.nilCheckH rfl) ?_
   refine aT 4 rfl rfl (Pure.fieldH rfl) ?_
   refine aT 5 rfl rfl (Pure.loadH (c:=.atom _) rfl zm1 rfl) ?_
   refine LAny.late ?_ (zhP pH zhp)
   refine lO 1 (lS (H1:=[]) rfl (.inl rfl) rfl zpr (zhP pH zhp) (S.fn [_] rfl hfs ?_))
   cases hf:formS (Sm.mk kind name index value thn els) with
   |true=>
    refine lO 6 (lS (H1:=[]) rfl (.inl rfl) rfl zpr (zhP pH zhp) (LStep.callK [_,_,_] rfl (req_spec true k.name 3 (by decide)) (fun _=>?_) (fun nm h=>absurd rfl h)))
    refine lD zk ?_
    refine QThen.normal ?_
    exact ⟨(),rfl,⟨rfl,rfl,trivial⟩,HSub.refl _,rfl⟩
   |false=>
    rw[hf,if_pos rfl] at hI
    refine lO 6 (lS (H1:=[]) rfl (.inl rfl) rfl zpr (zhP pH zhp) (LStep.callK [_,_,_] rfl (req_spec false k.name 3 (by decide)) (fun h=>absurd h (by decide)) (fun nm _ e' he'=>?_)))
    refine gam ?_
    exact panK (he'.trans rfl) (by rw[←hI];rfl) (by decide)
  rw[hform,if_neg (by decide)] at hI
  refine gac ?_
  by_cases h7:kind=7
  ·subst h7
   obtain rfl:=form_seven hform
   obtain rfl:=form_idx0 hform (by decide)
   obtain ⟨rfl,rfl⟩:=form_none hform (by decide) (by decide)
   refine oC rfl (fun _=>?_) (fun hc=>by cases hc)
   refine gau ?_
   have e2:d=DD:=by
    rw[←hDD]
    simp only[depEs,depSs]
    omega
   subst e2
   exact retK hj (zra rfl) (by rw[←hI];rfl) (by rw[←hN];rfl) (zhD zhr)
  refine oC rfl (fun hc=>absurd (zt hc) h7) (fun _=>?_)
  obtain ⟨x0,rfl⟩:=Inp.form_value hform h7
  rw[if_neg h7] at hN
  have hnx:ndE x0≤n:=by
   rw[ndEs,ndEs] at hnd
   omega
  have hdx:=depE_le B D c hB x0
  have hnx0:=needE_le B D c hB x0
  have hEv:∀ E2,orE (errEs c [x0]) E2=orE (errE c x0) E2:=fun E2=>by
   rw[errEs,errEs]
   unfold orE
   by_cases h:errE c x0≠0
   ·rw[if_pos h,if_pos h]
   ·rw[if_neg h,if_neg (by decide),if_neg h]
  rw[hEv] at hI
  rw[show ([x0]:List Ex).headD default=x0 from rfl] at hN
  have hDx:depEs c [x0]=depE c x0:=by
   rw[depEs,depEs]
   omega
  rw[hDx] at hDD
  refine gac ?_
  refine oP (xR (el':=encE x0) (cs:=[_,_,_,_]) rfl rfl zo rfl rfl rfl) rfl ?_
  refine gax ?_
  refine oS (S.callK [_,_] rfl (Inp.swap1) (hX x0 d hnx hd) (fun h0=>?_) (fun nm h0 e' he'=>?_)) rfl
  rotate_left
  ·refine gam ?_
   exact panK (he'.trans hj) (by rw[←hI];unfold orE;rw[if_pos h0]) h0
  rw[h0,show ∀ E2,orE 0 E2=E2 from fun E2=>rfl] at hI
  generalize hd1:max d (depE c x0)=d1
  refine LOps.perm (Inp.swap1 (H:=ckH k d1)).symm ?_
  refine gac ?_
  by_cases hk1:kind=1
  ·subst hk1
   obtain rfl:=form_idx0 hform (by decide)
   obtain ⟨rfl,rfl⟩:=form_none hform (by decide) (by decide)
   have hI4:scalarE c name=E:=by
    rw[←hI]
    simp only[errEs,errSs]
    unfold orE
    by_cases ha:scalarE c name=0 <;> simp[ha]
   refine oC rfl (fun _=>?_) (fun hc=>by cases hc)
   refine gac ?_
   refine oS (S.callK [_,_] rfl (Inp.swap1) (scalar_spec hk d1 name) (fun h1=>?_) (fun nm h1 e' he'=>?_)) rfl
   ·rw[hI4] at h1
    refine gac ?_
    refine oP (Pure.max2e 2 (needE c x0) rfl rfl rfl rfl) rfl ?_
    refine gaf ?_
    have e2:d1=DD:=by
     rw[←hDD,←hd1]
     simp only[depEs,depSs]
     omega
    subst e2
    refine retK hj (zra rfl) h1 ?_ hsub_left
    rw[←hN]
    simp only[needSs]
    exact int_eq (by simp)
   ·refine gae ?_
    exact panK (he'.trans hj) hI4.symm h1
  refine oC rfl (fun hc=>absurd (zt hc) hk1) (fun _=>?_)
  rw[if_neg hk1] at hI
  refine gas ?_
  by_cases hk2:kind=2
  ·subst hk2
   obtain ⟨i0,rfl⟩:=Inp.form_index hform
   obtain ⟨rfl,rfl⟩:=form_none hform (by decide) (by decide)
   have hni:ndE i0≤n:=by
    rw[ndEs,ndEs,ndEs,ndEs] at hnd
    omega
   have hdi:=depE_le B D c hB i0
   have hni0:=needE_le B D c hB i0
   have hI4:orE (errE c i0) (arrayE c name)=E:=by
    rw[←hI]
    simp only[errEs,errSs]
    unfold orE
    by_cases ha:errE c i0=0 <;> by_cases hb:arrayE c name=0 <;> simp[ha,hb]
   refine oC rfl (fun _=>?_) (fun hc=>by cases hc)
   refine gac ?_
   refine oP (xR (el':=encE i0) (cs:=[_,_,_,_]) rfl rfl zo rfl rfl rfl) rfl ?_
   refine gax ?_
   refine oS (S.callK [_,_] rfl (Inp.swap1) (hX i0 d1 hni zo) (fun h1=>?_) (fun nm h1 e' he'=>?_)) rfl
   rotate_left
   ·refine gae ?_
    exact panK (he'.trans hj) (by rw[←hI4];unfold orE;rw[if_pos h1]) h1
   rw[h1] at hI4
   refine LOps.perm (Inp.swap1 (H:=ckH k (max d1 (depE c i0)))).symm ?_
   refine gac ?_
   refine oS (S.callK [_,_] rfl (Inp.swap1) (array_spec hk (max d1 (depE c i0)) name) (fun h2=>?_) (fun nm h2 e' he'=>?_)) rfl
   ·refine gac ?_
    refine oP (Pure.max2e (needE c x0) (2+needE c i0) rfl rfl rfl zo) rfl ?_
    refine gan ?_
    have e2:max d1 (depE c i0)=DD:=by
     rw[←hDD,←hd1]
     simp only[depEs,depSs]
     omega
    rw[←e2]
    exact retK hj (zra rfl) (hI4.symm.trans h2) (by rw[←hN];rfl) hsub_left
   ·refine gae ?_
    exact panK (he'.trans hj) hI4.symm h2
  refine oC rfl (fun hc=>absurd (zt hc) hk2) (fun _=>?_)
  obtain rfl:=form_idx0 hform hk2
  rw[if_neg hk2] at hI hN
  refine gas ?_
  by_cases hk5:kind=5
  ·subst hk5
   obtain ⟨rfl,rfl⟩:=form_none hform (by decide) (by decide)
   refine oC rfl (fun _=>?_) (fun hc=>by cases hc)
   refine gap ?_
   have e2:d1=DD:=by
    rw[←hDD,←hd1]
    simp only[depEs,depSs]
    omega
   subst e2
   exact retK hj (zra rfl) (by rw[←hI];rfl) (by rw[←hN];rfl) (zhD zhr)
  refine oC rfl (fun hc=>absurd (zt hc) hk5) (fun _=>?_)
  rw[if_neg hk5] at hN
  have hI5:orE (errSs c thn) (errSs c els)=E:=by
   rw[←hI]
   simp only[errEs]
   rfl
  refine gas ?_
  by_cases hk3:kind=3
  ·refine oC rfl (fun _=>?_) (fun hc=>absurd hk3 (zf hc))
   refine gav ?_
   refine oC rfl (fun _=>?_) (fun hc=>absurd hk3 (zf hc))
   refine LCode.draw (m:=11) rfl [(b3,.cells 128 [int .i64 kind,str name,.list (([]:List Ex).map encE),.list ([x0].map encE),.list (thn.map encS),.list (els.map encS)])] ?_
   refine aT 0 rfl rfl (Pure.mv (lv:=.atom _) rfl) ?_
   refine aT 1 rfl rfl (Pure.mv (lv:=.atom _) rfl) ?_
   refine aT 2 rfl rfl (Pure.fieldH rfl) ?_
   refine aT 3 rfl rfl (Pure.loadH (c:=.list _) rfl zm0 rfl) ?_
   refine aT 5 rfl rfl (Pure.mv (lv:=.atom _) rfl) ?_
   refine aT 6 rfl rfl (Pure.fieldH rfl) ?_
   refine aT 7 rfl rfl (Pure.loadH (c:=.list _) rfl zm0 rfl) ?_
   refine LAny.late ?_ zhp
   refine lO 4 (lS (H1:=ckH k d1) rfl (.inl rfl) rfl Inp.swap1 zhr (LStep.callK [_,_] rfl (ihs thn d1 (by rw[ndEs,ndEs,ndEs] at hnd;omega) zo) (fun h1=>?_) (fun nm h1 e' he'=>?_)))
   rotate_left
   ·refine gae ?_
    exact panK (he'.trans hj) (by rw[←hI5];unfold orE;rw[if_pos h1]) h1
   rw[h1] at hI5
   have hdt:=depSs_le B D c hB thn
   refine lO 8 (lS (H1:=ckH k (max d1 (depSs c thn))) rfl (.inl rfl) rfl zpr zhr (LStep.callK [_,_] rfl (ihs els (max d1 (depSs c thn)) (by rw[ndEs,ndEs,ndEs] at hnd;omega) zo) (fun h2=>?_) (fun nm h2 e' he'=>?_)))
   rotate_left
   ·refine gae ?_
    exact panK (he'.trans hj) hI5.symm h2
   refine lO 9 (lH rfl rfl (Pure.max3e (needE c x0) (needSs c thn) (needSs c els) rfl rfl rfl rfl rfl rfl) ?_)
   refine lO 10 (lH rfl rfl (Pure.as (lv:=.atom _) rfl) ?_)
   refine lD zk ?_
   refine gac ?_
   refine oP (Pure.max2e 2 (max (max (needE c x0) (needSs c thn)) (needSs c els)) rfl rfl rfl rfl) rfl ?_
   refine gaf ?_
   have e2:max (max d1 (depSs c thn)) (depSs c els)=DD:=by
    rw[←hDD,←hd1]
    simp only[depEs]
    omega
   rw[←e2]
   exact retK hj (zra rfl) (hI5.symm.trans h2) (by rw[←hN];rfl) hsub_left
  refine oC rfl (fun hc=>absurd (zt hc) hk3) (fun _=>?_)
  refine gas ?_
  by_cases hk4:kind=4
  ·refine oC rfl (fun _=>?_) (fun hc=>absurd hk4 (zf hc))
   refine LCode.draw (m:=11) rfl [(b3,.cells 128 [int .i64 kind,str name,.list (([]:List Ex).map encE),.list ([x0].map encE),.list (thn.map encS),.list (els.map encS)])] ?_
   refine aT 0 rfl rfl (Pure.mv (lv:=.atom _) rfl) ?_
   refine aT 1 rfl rfl (Pure.mv (lv:=.atom _) rfl) ?_
   refine aT 2 rfl rfl (Pure.fieldH rfl) ?_
   refine aT 3 rfl rfl (Pure.loadH (c:=.list _) rfl zm0 rfl) ?_
   refine aT 5 rfl rfl (Pure.mv (lv:=.atom _) rfl) ?_
   refine aT 6 rfl rfl (Pure.fieldH rfl) ?_
   refine aT 7 rfl rfl (Pure.loadH (c:=.list _) rfl zm0 rfl) ?_
   refine LAny.late ?_ zhp
   refine lO 4 (lS (H1:=ckH k d1) rfl (.inl rfl) rfl Inp.swap1 zhr (LStep.callK [_,_] rfl (ihs thn d1 (by rw[ndEs,ndEs,ndEs] at hnd;omega) zo) (fun h1=>?_) (fun nm h1 e' he'=>?_)))
   rotate_left
   ·refine gae ?_
    exact panK (he'.trans hj) (by rw[←hI5];unfold orE;rw[if_pos h1]) h1
   rw[h1] at hI5
   have hdt:=depSs_le B D c hB thn
   refine lO 8 (lS (H1:=ckH k (max d1 (depSs c thn))) rfl (.inl rfl) rfl zpr zhr (LStep.callK [_,_] rfl (ihs els (max d1 (depSs c thn)) (by rw[ndEs,ndEs,ndEs] at hnd;omega) zo) (fun h2=>?_) (fun nm h2 e' he'=>?_)))
   rotate_left
   ·refine gae ?_
    exact panK (he'.trans hj) hI5.symm h2
   refine lO 9 (lH rfl rfl (Pure.max3e (needE c x0) (needSs c thn) (needSs c els) rfl rfl rfl rfl rfl rfl) ?_)
   refine lO 10 (lH rfl rfl (Pure.as (lv:=.atom _) rfl) ?_)
   refine lD zk ?_
   refine gac ?_
   refine oP (Pure.max2e 2 (max (max (needE c x0) (needSs c thn)) (needSs c els)) rfl rfl rfl rfl) rfl ?_
   refine gaf ?_
   have e2:max (max d1 (depSs c thn)) (depSs c els)=DD:=by
    rw[←hDD,←hd1]
    simp only[depEs]
    omega
   rw[←e2]
   exact retK hj (zra rfl) (hI5.symm.trans h2) (by rw[←hN];rfl) hsub_left
  refine oC rfl (fun hc=>absurd (zt hc) hk4) (fun _=>?_)
  obtain ⟨rfl,rfl⟩:=form_none hform hk3 hk4
  refine gac ?_
  refine oP (Pure.max2e 2 (needE c x0) rfl rfl rfl rfl) rfl ?_
  refine gaf ?_
  have e2:d1=DD:=by
   rw[←hDD,←hd1]
   simp only[depEs,depSs]
   omega
  subst e2
  refine retK hj (zra rfl) (by rw[←hI5];rfl) ?_ (zhD zhr)
  rw[←hN]
  simp only[needSs]
  exact int_eq (by simp)
end
end Go.Proofs.YtcbpcianefpniaaGreatDoor.Chk
namespace Go.Proofs.YtcbpcianefpniaaGreatDoor.Chk
open Go.GL Go.RowKit Go.Stele
set_option maxRecDepth 100000
set_option maxHeartbeats 4000000
theorem hsub_right {X A L:Heap} (h:HSub X L):HSub X (A++L):=
 let ⟨G,hG⟩:=h
 ⟨A++G,(List.Perm.append_left A hG).trans (by
  rw[←List.append_assoc,←List.append_assoc]
  exact List.perm_append_comm.append_right G)⟩
def pgH (k:KB) (o:Value) (d:Nat):Heap:=[(k.cb,.cells 104 [.atom (.map (some k.gm)),.atom (.map (some k.vm)),.atom (.map (some k.am)),.atom (.map (some k.fm)),str k.name,.atom o,int .i64 (d:Int)]),(k.gm,.map (kvs k.G) k.g1),(k.vm,.map (kvs k.V) k.g2),(k.am,.map (kvs k.A) k.g3),(k.fm,.map (kvs k.F) k.g4)]
def PostE (err:Int) (P:Heap→Prop) (r:LRes) (H:Heap):Prop:=(err=0∧r=.ret (.tuple [])∧P H)∨(err≠0∧(∃ nm,r=.panic (vio nm err))∧H=[])
section
variable {C:Ctx} {n:Nat} {e:Env} {H:Heap} {dst:Option Nat} {ty:TypeId} {pos:String} {aft:Array Edge} {g:Option (Nat×Bool)} {K:LV→Heap→Prop} {X:List PanicEntry→Heap→Prop}
theorem S.callE {err:Int} {P:Heap→Prop} {H1 F:Heap} {f:FuncId} [TEnter C.P f] (args:List Operand) {ats:Array TypeId} {av:List LV} (has:args.map e.ev=av) (hp:H.Perm (H1++F))
  (hc:LCalls C f av H1 (PostE err P)) (hk:∀ H',err=0→P H'→K (.tuple []) (H'++F)) (hx:∀ nm,err≠0→X (vio nm err) F):LStep C ⟨dst,.call { callee:=.value (.func f),args:=args.toArray,argTypes:=ats },ty,pos,aft,g⟩ e H K X:=by
 refine S.callH args has hp hc ?_ ?_
 ·rintro v H2 (⟨h1,h2,h3⟩|⟨_,⟨nm,h2⟩,_⟩)
  ·cases h2
   exact hk _ h1 h3
  ·cases h2
 ·rintro ch H2 (⟨_,h2,_⟩|⟨h1,⟨nm,h2⟩,rfl⟩)
  ·cases h2
  ·cases h2
   exact hx nm h1
theorem retEn {err:Int} {P:Heap→Prop} {H':Heap} {rs:List ResultVar} {vs:List LV} (hd:e.ds=[]) (h:AllRes C n e H rs vs) (he:err=0) (hv:resLV vs=.tuple []) (hH:HSub H' H) (hP:P H'):RetPost C n rs (PostE err P) .normal e H:=
 RetPost.normal hd h hH (.inl ⟨he,by rw[hv],hP⟩)
theorem panE {err er:Int} {P:Heap→Prop} {rs:List ResultVar} {nm:List UInt8} (hd:e.ds=[]) (he:err=er) (h0:er≠0):RetPost C n rs (PostE err P) (.panic (vio nm er)) e H:=
 RetPost.panic hd zhn (.inr ⟨by rw[he];exact h0,⟨nm,by rw[he]⟩,rfl⟩)
end
def newE (known:List Nm) (s:Nm):Int:=if isNm s=false then 7 else if s∈known then 8 else 0
theorem freshE_cons (known:List Nm) (s:Nm) (l:List Nm):freshE known (s::l)=orE (newE known s) (freshE (s::known) l):=by
 rw[freshE]
 unfold newE
 split
 ·rfl
 split
 ·rfl
 ·rfl
theorem freshE_iff:∀ (l k k':List Nm),(∀ s,s∈k ↔ s∈k')→freshE k l=freshE k' l
 |[],_,_,_=>rfl
 |s::l,k,k',h=>by
  have h2:newE k s=newE k' s:=by
   unfold newE
   simp only[h s]
  rw[freshE_cons,freshE_cons,h2,freshE_iff l (s::k) (s::k') (fun x=>by simp[h x])]
attribute [local irreducible] LOps LCode LStep LCalls Go.GL.Pure QThen QBlock RetPost LQ LAny LLate LLateOp LS
section
variable {B0:Nat} {w0:World}
theorem global_spec {k:KB} {o:Value} {d:Nat} {known:List Nm} (hG:IsSet k.G known) (s:Nm):LCalls (KC B0 w0) 93 [ptr k.cb 0,str s] (pgH k o d)
  (PostE (newE known s) (fun H=>∃ g1,H=pgH { k with G:=GL.kvPut k.G s (bool true),g1:=g1 } o d)):=by
 generalize hI:newE known s=E
 unfold newE at hI
 refine cI Tryz.func93 rfl (n:=22) rfl rfl rfl ?_
 refine gaj ?_
 refine oS (S.fn [_] rfl (isName_spec s) ?_) rfl
 refine gao ?_
 cases hn:isNm s with
 |false=>
  rw[if_pos hn] at hI
  refine oS (S.callK (H1:=[]) (F:=pgH k o d) [_,_,_] rfl zpr (req_spec false s 7 (by decide)) (fun h=>absurd h (by decide)) (fun nm _ e' he'=>?_)) rfl
  refine gam ?_
  exact panE (he'.trans rfl) hI.symm (by decide)
 |true=>
  rw[if_neg (by rw[hn];decide)] at hI
  refine oS (S.callK (H1:=[]) (F:=pgH k o d) [_,_,_] rfl zpr (req_spec true s 7 (by decide)) (fun _=>?_) (fun nm h=>absurd rfl h)) rfl
  refine gaa ?_
  refine oP (Pure.setHas rfl rfl zm1 hG) rfl ?_
  refine oB 13 rfl (fun h1=>?_) (fun h1=>?_)
  ·rw[if_pos (zt h1)] at hI
   refine gab ?_
   refine oS (S.callK (H1:=[]) (F:=pgH k o d) [_,_,_] rfl zpr (req_spec false s 8 (by decide)) (fun h=>absurd h (by decide)) (fun nm _ e' he'=>?_)) rfl
   refine gam ?_
   exact panE (he'.trans rfl) hI.symm (by decide)
  ·rw[if_neg (zf h1)] at hI
   refine gab ?_
   refine oS (S.callK (H1:=[]) (F:=pgH k o d) [_,_,_] rfl zpr (req_spec true s 8 (by decide)) (fun _=>?_) (fun nm h=>absurd rfl h)) rfl
   refine gaa ?_
   refine oS (S.kvSet (k:=s) (lv:=bool true) rfl rfl rfl zp1 fun g1=>?_) rfl
   refine gaf ?_
   exact retEn rfl rN hI.symm rfl ⟨[],by rw[List.append_nil];exact List.Perm.swap _ _ _⟩ ⟨g1,rfl⟩
theorem function_spec {vars arrays later:List Nm} {known:List FSum} {k:KB} {o:Value} {d:Nat} (f:FnD) (hG:IsSet k.G (vars++arrays++later)) (hV:IsSet k.V vars) (hA:IsSet k.A arrays) (hF:∀ n,GL.kvGet k.F n=(known.find? fun g=>decide (g.name=n)).map encSum) (hnew:f.name ∉ known.map (·.name))
  {B D:Nat} (hB:KnB B D known) (hB8:B≤50000000) (hD8:D≤100000000) (hnd:ndF f≤2000000) :
  LCalls (KC B0 w0) 95 [ptr k.cb 0,encFn f] (pgH k o d)
  (PostE (errF vars arrays later known f) (fun H=>∃ nm o' d' F' g4,(∀ n,GL.kvGet F' n=((known++[sumF vars arrays later known f]).find? fun g=>decide (g.name=n)).map encSum)∧H=pgH { k with name:=nm,F:=F',g4:=g4 } o' d')):=by
 have hsm:=smF_of hnd
 have hp6:f.params.length≤2000000:=hsm.params
 have hl6:f.locals.length≤2000000:=hsm.locals
 have hbn:ndSs f.body≤2000000:=by
  unfold ndF at hnd
  omega
 generalize hI:errF vars arrays later known f=E
 unfold errF at hI
 refine cI Tryz.func95 rfl (n:=82) rfl rfl rfl ?_
 refine gag ?_
 refine oS (S.box rfl fun b3=>?_) rfl
 refine gac ?_
 refine oS (S.kvNew fun om=>?_) rfl
 refine gaa ?_
 refine oS (S.lit (es:=[strsV f.params,strsV f.locals]) [_,_] rfl (eC rfl rfl (eC rfl rfl eN)) rfl rfl rfl ?_) rfl
 refine oS (S.callH (H1:=[]) (F:=_) [_] rfl zpr (concat_spec [f.params,f.locals] (by simp) (by
  intro l hl
  rcases List.mem_cons.1 hl with rfl|hl
  ·exact hp6
  ·rw[List.mem_singleton.1 hl]
   exact hl6)) ?_ (by rintro ch H' ⟨v,h,_⟩;cases h)) rfl
 rintro v2 Ha2 ⟨_,h,hacc2⟩
 cases h
 have hfl:[f.params,f.locals].flatten=f.params++f.locals:=by simp
 rw[hfl] at hacc2
 refine LOps.sub 24 rfl hacc2.sub ?_
 refine LOps.weak (H':=(b3,.cells 63 [str f.name,.list (f.params.map str),.list (f.locals.map str),.list (f.body.map encS)])::ckH { k with name:=f.name,om:=om,O:=[],g5:=0 } 1) ?_ ?_
 ·refine hsub_right ?_
  repeat first
   |exact HSub.nil _
   |refine zhP zb2 ?_
 refine gad ?_
 refine oL (fun kk ls H'=>∃ (pre l1:List Nm) (OO:KV) (gg:Nat),f.params++f.locals=pre++l1∧kk=l1.length∧ls=[(0,ptr k.cb 0),(3,ptr b3 0),(24,.list ((f.params++f.locals).map str)),(25,int .i64 (((f.params++f.locals).map str).length:Int)),(26,iv pre.length)] ∧
   H'=(b3,.cells 63 [str f.name,.list (f.params.map str),.list (f.locals.map str),.list (f.body.map encS)])::ckH { k with name:=f.name,om:=om,O:=OO,g5:=gg } 1∧IsSet OO pre∧orE (freshE (pre.reverse++(vars++arrays++later)) l1) (errSs (envF vars arrays later known f) f.body)=E)
  ⟨_,_,_,⟨[],f.params++f.locals,[],0,rfl,rfl,rfl,rfl,IsSet.nil,hI⟩,⟨rfl,rfl,rfl,rfl,rfl,trivial⟩,HSub.refl _⟩ ?_
 rintro kk ls H' ⟨pre,l1,OO,gg,hLe,rfl,rfl,rfl,hO,hE⟩ j hj
 have hb2:pre.length≤4000000:=by
  have:=congrArg List.length hLe
  rw[List.length_append,List.length_append] at this
  omega
 refine gak ?_
 refine oC rfl (fun hc=>?_) (fun hc=>?_)
 ·have hlen:=zt hc
  rw[List.length_map,hLe,List.length_append] at hlen
  obtain ⟨s,l2,rfl⟩:∃ a l2,l1=a::l2:=by
   cases l1 with
   |nil=>simp at hlen
   |cons a l2=>exact ⟨a,l2,rfl⟩
  rw[freshE_cons] at hE
  generalize hEn:newE (pre.reverse++(vars++arrays++later)) s=En at hE
  unfold newE at hEn
  refine gal ?_
  refine oP (xR (el':=str s) (cs:=[str s]) rfl rfl zo (by rw[hLe];exact get_mid str pre s l2) rfl rfl) rfl ?_
  refine gaa ?_
  refine oS (S.fn [_] rfl (isName_spec s) ?_) rfl
  refine gao ?_
  cases hn:isNm s with
  |false=>
   rw[if_pos hn] at hEn
   refine oS (S.callK (H1:=[]) (F:=_) [_,_,_] rfl zpr (req_spec false s 7 (by decide)) (fun h=>absurd h (by decide)) (fun nm _ e' he'=>?_)) rfl
   refine gae ?_
   exact panE (he'.trans hj) (by rw[←hE,←hEn];rfl) (by decide)
  |true=>
   rw[if_neg (by rw[hn];decide)] at hEn
   refine oS (S.callK (H1:=[]) (F:=_) [_,_,_] rfl zpr (req_spec true s 7 (by decide)) (fun _=>?_) (fun nm h=>absurd rfl h)) rfl
   refine gaa ?_
   refine oP (Pure.setHas rfl rfl zm2 hG) rfl ?_
   refine oB 39 rfl (fun h1=>?_) (fun h1=>?_)
   ·have hin:s∈pre.reverse++(vars++arrays++later):=List.mem_append_right _ (zt h1)
    rw[if_pos hin] at hEn
    refine gab ?_
    refine oS (S.callK (H1:=[]) (F:=_) [_,_,_] rfl zpr (req_spec false s 8 (by decide)) (fun h=>absurd h (by decide)) (fun nm _ e' he'=>?_)) rfl
    refine gae ?_
    exact panE (he'.trans hj) (by rw[←hE,←hEn];rfl) (by decide)
   refine gab ?_
   refine oP (Pure.setHas rfl rfl zm6 hO) rfl ?_
   refine oB 47 rfl (fun h2=>?_) (fun h2=>?_)
   ·have hin:s∈pre.reverse++(vars++arrays++later):=List.mem_append_left _ (List.mem_reverse.2 (zt h2))
    rw[if_pos hin] at hEn
    refine gab ?_
    refine oS (S.callK (H1:=[]) (F:=_) [_,_,_] rfl zpr (req_spec false s 8 (by decide)) (fun h=>absurd h (by decide)) (fun nm _ e' he'=>?_)) rfl
    refine gae ?_
    exact panE (he'.trans hj) (by rw[←hE,←hEn];rfl) (by decide)
   rw[if_neg (fun h=>(List.mem_append.1 h).elim (fun h=>zf h2 (List.mem_reverse.1 h)) (zf h1))] at hEn
   subst hEn
   refine gab ?_
   refine oS (S.callK (H1:=[]) (F:=_) [_,_,_] rfl zpr (req_spec true s 8 (by decide)) (fun _=>?_) (fun nm h=>absurd rfl h)) rfl
   refine gaa ?_
   refine oS (S.kvSet (k:=s) (lv:=bool true) rfl rfl rfl zp6 fun gg2=>?_) rfl
   refine gaw ?_
   exact ⟨l2.length,_,_,Nat.lt_succ_self _,⟨pre++[s],l2,GL.kvPut OO s (bool true),gg2,by rw[hLe];simp,rfl,rfl,rfl,hO.add s,by
    rw[←hE]
    rw[freshE_iff l2 ((pre++[s]).reverse++(vars++arrays++later)) (s::(pre.reverse++(vars++arrays++later))) (fun x=>by simp)]
    rfl⟩,⟨rfl,rfl,rfl,rfl,int_eq (by simp),trivial⟩,by
    repeat first
     |exact HSub.nil _
     |refine zhP zb2 ?_,hj⟩
 have hlen:=zf hc
 rw[List.length_map,hLe,List.length_append] at hlen
 obtain rfl:l1=[]:=by
  cases l1 with
  |nil=>rfl
  |cons a l2=>simp at hlen;omega
 rw[List.append_nil] at hLe
 rw[←hLe] at hO
 have hE2:errSs (envF vars arrays later known f) f.body=E:=by rw[←hE];rfl
 have hkb:KBok { k with name:=f.name,om:=om,O:=OO,g5:=gg } (envF vars arrays later known f):=⟨hG,hV,hA,hO,hF⟩
 have hss:=stmts_spec (B0:=B0) (w0:=w0) (k:={ k with name:=f.name,om:=om,O:=OO,g5:=gg }) (c:=envF vars arrays later known f) hB hD8 (n:=2000000) (Nat.le_refl _) (stmt_spec hkb hB hB8 hD8 2000000 (Nat.le_refl _)) f.body 1 hbn (by decide)
 have hnb:=needSs_le B D (envF vars arrays later known f) hB f.body
 have hdb:=depSs_le B D (envF vars arrays later known f) hB f.body
 refine gac ?_
 refine oS (S.callK [_,_] rfl (Inp.swap1) hss (fun h0=>?_) (fun nm h0 e' he'=>?_)) rfl
 rotate_left
 ·refine gam ?_
  exact panE (he'.trans hj) hE2.symm h0
 refine LOps.perm (Inp.swap1 (H:=ckH _ _)).symm ?_
 refine gaf ?_
 have hpl:(f.params.map str).length≤2000000:=by rw[List.length_map];exact hp6
 refine LCode.tail 20 zk ?_
 refine gaz ?_
 refine LS.pure (Pure.max3e 2 (f.params.length+1) (needSs (envF vars arrays later known f) f.body) rfl rfl rfl rfl (by rw[List.length_map];omega) rfl) rfl ?_
 refine gab ?_
 refine oS (S.kvSet (k:=f.name) (lv:=.agg [int .i64 ((f.params.map str).length:Int),int .i64 (max (max 2 (f.params.length+1)) (needSs (envF vars arrays later known f) f.body):Nat),int .i64 (max 1 (depSs (envF vars arrays later known f) f.body):Nat)]) rfl rfl rfl zp5 fun g4=>?_) rfl
 refine gaf ?_
 refine retEn hj rN (hE2.symm.trans h0) rfl (H':=pgH { k with name:=f.name,F:=GL.kvPut k.F f.name (.agg [int .i64 ((f.params.map str).length:Int),int .i64 (max (max 2 (f.params.length+1)) (needSs (envF vars arrays later known f) f.body):Nat),int .i64 (max 1 (depSs (envF vars arrays later known f) f.body):Nat)]),g4:=g4 } (.map (some om)) (max 1 (depSs (envF vars arrays later known f) f.body))) ?hs ⟨f.name,_,_,_,g4,fun n=>?kv,rfl⟩
 case hs=>
  repeat first
   |exact HSub.nil _
   |refine zhP zb2 ?_
 case kv=>
  rw[GL.kvGet_put,hF n,List.find?_append]
  by_cases h1:f.name=n
  ·rw[if_pos h1]
   have h2:(known.find? fun g=>decide (g.name=n))=none:=by
    rw[List.find?_eq_none]
    intro g hg
    simp only[decide_eq_true_eq]
    intro h3
    exact hnew (by rw[h1,←h3];exact List.mem_map_of_mem hg)
   rw[h2,Option.none_or]
   have h4:([sumF vars arrays later known f].find? fun g=>decide (g.name=n))=some (sumF vars arrays later known f):=by
    rw[List.find?_cons_of_pos]
    exact decide_eq_true h1
   rw[h4]
   show some _=some (encSum _)
   unfold encSum sumF
   rw[←List.length_map (f:=str)]
  ·rw[if_neg h1]
   have h4:([sumF vars arrays later known f].find? fun g=>decide (g.name=n))=none:=by
    rw[List.find?_eq_none]
    intro g hg
    rw[List.mem_singleton.1 hg]
    simp only[decide_eq_true_eq]
    exact h1
   rw[h4,Option.or_none]
end
end Go.Proofs.YtcbpcianefpniaaGreatDoor.Chk
namespace Go.Proofs.YtcbpcianefpniaaGreatDoor.Chk
open Go.GL Go.RowKit Go.Stele
set_option maxRecDepth 100000
set_option maxHeartbeats 4000000
def encArG (a:Nm×Int):LV:=.agg [str a.1,int .i64 a.2]
def encPrG (vars:List Nm) (arrays:List (Nm×Int)) (fs:List FnD):LV:=.agg [.list (vars.map str),.list (arrays.map encArG),.list (fs.map encFn)]
theorem freshE_zero:∀ (l known:List Nm),freshE known l=0→l.Nodup∧(∀ s∈l,s ∉ known)∧∀ s∈l,isNm s=true
 |[],known,_=>⟨List.nodup_nil,fun s h=>(List.not_mem_nil h).elim,fun s h=>(List.not_mem_nil h).elim⟩
 |s::l,known,h=>by
  rw[freshE] at h
  split at h
  ·cases h
  rename_i h1
  split at h
  ·cases h
  rename_i h2
  obtain ⟨h3,h4,h5⟩:=freshE_zero l _ h
  refine ⟨List.nodup_cons.2 ⟨fun hm=>h4 s hm (List.mem_cons_self ..),h3⟩,?_,?_⟩
  ·intro x hx
   rcases List.mem_cons.1 hx with rfl|hx
   ·exact h2
   ·exact fun hk=>h4 x hx (List.mem_cons_of_mem _ hk)
  ·intro x hx
   rcases List.mem_cons.1 hx with rfl|hx
   ·simpa using h1
   ·exact h5 x hx
theorem isNm_short {s:Nm} (h:isNm s=true):s.length≤1000:=by
 unfold isNm at h
 simp only[Bool.and_eq_true,decide_eq_true_eq] at h
 omega
theorem orE_ne {a b:Int} (h:a≠0):orE a b=a:=by
 unfold orE
 exact if_pos h
theorem ndFs_append:∀ a b:List FnD,ndFs (a++b)=ndFs a+ndFs b
 |[],b=>by rw[List.nil_append,ndFs,Nat.zero_add]
 |x::a,b=>by rw[List.cons_append,ndFs,ndFs,ndFs_append a b];omega
theorem errFs_zero {vars arrays later:List Nm}:∀ (l:List FnD) (known:List FSum),errFs vars arrays later known l=0→∀ f∈l,∃ k,errF vars arrays later k f=0
 |[],_,_,f,h=>(List.not_mem_nil h).elim
 |g::l,known,h,f,hf=>by
  rw[errFs,orE_zero] at h
  rcases List.mem_cons.1 hf with rfl|hf
  ·exact ⟨known,h.1⟩
  ·exact errFs_zero l _ h.2 f hf
theorem errF_names {vars arrays later:List Nm} {k:List FSum} {f:FnD} (h:errF vars arrays later k f=0):∀ x∈f.params++f.locals,x.length≤1000:=by
 unfold errF at h
 rw[orE_zero] at h
 intro x hx
 exact isNm_short ((freshE_zero _ _ h.1).2.2 x hx)
theorem find_last {l:List FSum} {m:FSum} (hn:(l.map (·.name)).Nodup) (hm:l.getLast? = some m):(l.find? fun g=>decide (g.name=m.name))=some m:=by
 obtain ⟨ys,rfl⟩:=List.getLast?_eq_some_iff.1 hm
 rw[List.find?_append]
 have h1:(ys.find? fun g=>decide (g.name=m.name))=none:=by
  rw[List.find?_eq_none]
  intro g hg
  simp only[decide_eq_true_eq]
  intro h2
  rw[List.map_append] at hn
  exact (List.nodup_append.1 hn).2.2 _ (List.mem_map_of_mem hg) _ (List.mem_map_of_mem (List.mem_singleton_self m)) h2
 rw[h1,Option.none_or,List.find?_cons_of_pos]
 exact decide_eq_true rfl
theorem sumFs_names {vars arrays later:List Nm}:∀ (l:List FnD) (known:List FSum),(sumFs vars arrays later known l).map (·.name)=known.map (·.name)++l.map (·.name)
 |[],known=>by rw[sumFs];simp
 |f::l,known=>by
  rw[sumFs,sumFs_names l]
  simp[sumF]
theorem fresh_step {pre l:List Nm} {s:Nm} {FR:Int} (h:freshE pre (s::l)=FR) (h0:newE pre s=0):freshE (pre++[s]) l=FR:=by
 rw[←h,freshE_cons,h0,freshE_iff l (pre++[s]) (s::pre) (fun x=>by simp[or_comm])]
 rfl
theorem fresh_bad {pre l:List Nm} {s:Nm} {FR RA E:Int} (hI:orE FR RA=E) (h:freshE pre (s::l)=FR) (h0:newE pre s≠0):E=newE pre s:=by
 rw[←hI,←h,freshE_cons,orE_ne (a:=orE _ _) (by rw[orE_ne h0];exact h0),orE_ne h0]
attribute [local irreducible] LOps LCode LStep LCalls Go.GL.Pure QThen QBlock RetPost LQ LAny LLate LLateOp LS
section
variable {B0:Nat} {w0:World}
theorem program_spec {k:KB} {o:Value} {d:Nat} (vars:List Nm) (arrays:List (Nm×Int)) (fs:List FnD) (hk1:k.G=[]) (hk2:k.V=[]) (hk3:k.A=[]) (hk4:k.F=[]) (hv6:vars.length≤2000000) (ha6:arrays.length≤2000000) (har:∀ a∈arrays,-9223372036854775808≤a.2∧a.2<9223372036854775808) (hnd:ndFs fs≤2000000) :
  LCalls (KC B0 w0) 41 [ptr k.cb 0,encPrG vars arrays fs] (pgH k o d) (PostE (checkP vars arrays fs) (fun H=>H=[])):=by
 have hf6:fs.length≤2000000:=Nat.le_trans (ndFs_len fs) hnd
 generalize hI:checkP vars arrays fs=E
 unfold checkP at hI
 generalize hFR:freshE [] (vars++arrays.map (·.1)++fs.map (·.name))=FR at hI
 generalize hSZ:sizesE 0 (arrays.map (·.2))=SZ at hI
 generalize hFS:errFs vars (arrays.map (·.1)) (fs.map (·.name)) [] fs=FS at hI
 generalize hSS:sumFs vars (arrays.map (·.1)) (fs.map (·.name)) [] fs=SS at hI
 generalize hMN:mainE vars fs SS=MN at hI
 generalize hRA:orE SZ (orE FS MN)=RA at hI
 refine cI Tryz.func41 rfl (n:=147) rfl rfl rfl ?_
 refine gag ?_
 refine oS (S.box rfl fun b3=>?_) rfl
 refine gac ?_
 refine oL (fun kk ls H'=>∃ (pre l1:List Nm) (G1 V1:KV) (g1 g2:Nat),vars=pre++l1∧kk=l1.length∧ls=[(0,ptr k.cb 0),(3,ptr b3 0),(18,.list (vars.map str)),(19,int .i64 ((vars.map str).length:Int)),(20,iv pre.length)] ∧
   H'=(b3,.cells 33 [.list (vars.map str),.list (arrays.map encArG),.list (fs.map encFn)])::pgH { k with G:=G1,g1:=g1,V:=V1,g2:=g2 } o d∧IsSet G1 pre∧IsSet V1 pre∧freshE pre (l1++arrays.map (·.1)++fs.map (·.name))=FR)
  ⟨_,_,_,⟨[],vars,k.G,k.V,k.g1,k.g2,rfl,rfl,rfl,rfl,by rw[hk1];exact IsSet.nil,by rw[hk2];exact IsSet.nil,hFR⟩,⟨rfl,rfl,rfl,rfl,rfl,trivial⟩,HSub.refl _⟩ ?_
 rintro kk ls H' ⟨pre,l1,G1,V1,g1,g2,hLe,rfl,rfl,rfl,hG1,hV1,hE⟩ j hj
 have hb2:pre.length≤2000000:=by
  have:=congrArg List.length hLe
  rw[List.length_append] at this
  omega
 refine gak ?_
 refine oC rfl (fun hc=>?_) (fun hc=>?_)
 ·have hlen:=zt hc
  rw[List.length_map,hLe,List.length_append] at hlen
  obtain ⟨s,l2,rfl⟩:∃ a l2,l1=a::l2:=by
   cases l1 with
   |nil=>simp at hlen
   |cons a l2=>exact ⟨a,l2,rfl⟩
  rw[List.cons_append,List.cons_append] at hE
  refine gal ?_
  refine oP (xR (el':=str s) (cs:=[str s]) rfl rfl zo (by rw[hLe];exact get_mid str pre s l2) rfl rfl) rfl ?_
  refine gaa ?_
  refine oS (S.callE (F:=[_]) [_,_] rfl (Inp.swap1) (global_spec (k:={ k with G:=G1,g1:=g1,V:=V1,g2:=g2 }) (o:=o) (d:=d) hG1 s) (fun H2 h0 hP=>?_) (fun nm h0 e' he'=>?_)) rfl
  rotate_left
  ·refine gae ?_
   exact panE (he'.trans hj) (fresh_bad hI hE h0) h0
  obtain ⟨g1',rfl⟩:=hP
  refine LOps.perm (Inp.swap1 (H:=pgH _ _ _)).symm ?_
  refine gaa ?_
  refine oS (S.kvSet (k:=s) (lv:=bool true) rfl rfl rfl zp3 fun g2'=>?_) rfl
  refine gaw ?_
  refine ⟨l2.length,_,_,Nat.lt_succ_self _,⟨pre++[s],l2,GL.kvPut G1 s (bool true),GL.kvPut V1 s (bool true),g1',g2',by rw[hLe];simp,rfl,rfl,rfl,hG1.add s,hV1.add s,fresh_step hE h0⟩,⟨rfl,rfl,rfl,rfl,int_eq (by simp),trivial⟩,?_,hj⟩
  repeat first
   |exact HSub.nil _
   |refine zhP zb2 ?_
 have hlen:=zf hc
 rw[List.length_map,hLe,List.length_append] at hlen
 obtain rfl:l1=[]:=by
  cases l1 with
  |nil=>rfl
  |cons a l2=>simp at hlen;omega
 rw[List.append_nil] at hLe
 subst hLe
 rw[List.nil_append] at hE
 clear hlen hc hb2
 refine gac ?_
 refine oL (fun kk ls H'=>∃ (pre l1:List (Nm×Int)) (G1 A1:KV) (g1 g3:Nat),arrays=pre++l1∧kk=l1.length∧ls=[(0,ptr k.cb 0),(3,ptr b3 0),(34,.list (arrays.map encArG)),(35,int .i64 ((arrays.map encArG).length:Int)),(36,iv pre.length)] ∧
   H'=(b3,.cells 33 [.list (vars.map str),.list (arrays.map encArG),.list (fs.map encFn)])::pgH { k with G:=G1,g1:=g1,V:=V1,g2:=g2,A:=A1,g3:=g3 } o d∧IsSet G1 (vars++pre.map (·.1))∧IsSet A1 (pre.map (·.1))∧freshE (vars++pre.map (·.1)) (l1.map (·.1)++fs.map (·.name))=FR)
  ⟨_,_,_,⟨[],arrays,G1,k.A,g1,k.g3,rfl,rfl,rfl,rfl,by simpa using hG1,by rw[hk3];exact IsSet.nil,by simpa using hE⟩,⟨rfl,rfl,rfl,rfl,rfl,trivial⟩,HSub.refl _⟩ ?_
 clear hG1 hE G1 g1
 rintro kk ls H' ⟨pre,l1,G1,A1,g1,g3,hLe,rfl,rfl,rfl,hG1,hA1,hE⟩ j hj2
 have hb2:pre.length≤2000000:=by
  have:=congrArg List.length hLe
  rw[List.length_append] at this
  omega
 refine gak ?_
 refine oC rfl (fun hc=>?_) (fun hc=>?_)
 ·have hlen:=zt hc
  rw[List.length_map,hLe,List.length_append] at hlen
  obtain ⟨s,l2,rfl⟩:∃ a l2,l1=a::l2:=by
   cases l1 with
   |nil=>simp at hlen
   |cons a l2=>exact ⟨a,l2,rfl⟩
  rw[List.map_cons,List.cons_append] at hE
  refine gal ?_
  refine oP (xR (el':=encArG s) (cs:=[str s.1,int .i64 s.2]) rfl rfl zo (by rw[hLe];exact get_mid encArG pre s l2) rfl rfl) rfl ?_
  refine gab ?_
  refine oS (S.alloc fun b7=>?_) rfl
  refine gaa ?_
  refine oS (S.callE (F:=[_,_]) [_,_] rfl (List.perm_append_comm (l₁:=[_,_])) (global_spec (k:={ k with G:=G1,g1:=g1,V:=V1,g2:=g2,A:=A1,g3:=g3 }) (o:=o) (d:=d) hG1 s.1) (fun H2 h0 hP=>?_) (fun nm h0 e' he'=>?_)) rfl
  rotate_left
  ·refine gae ?_
   exact panE (he'.trans (hj2.trans hj)) (fresh_bad hI hE h0) h0
  obtain ⟨g1',rfl⟩:=hP
  refine LOps.weak (H':=[(b7,.cells 60 [str s.1,int .i64 s.2]),(k.cb,.cells 104 [.atom (.map (some k.gm)),.atom (.map (some k.vm)),.atom (.map (some k.am)),.atom (.map (some k.fm)),str k.name,.atom o,int .i64 (d:Int)]),(b3,.cells 33 [.list (vars.map str),.list (arrays.map encArG),.list (fs.map encFn)]),
   (k.gm,.map (kvs (GL.kvPut G1 s.1 (bool true))) g1'),(k.vm,.map (kvs V1) g2),(k.am,.map (kvs A1) g3),(k.fm,.map (kvs k.F) k.g4)]) ?_ ?_
  ·repeat first
    |exact HSub.nil _
    |refine zhP zb2 ?_
  refine gaf ?_
  refine LCode.draw (m:=7) rfl [(b7,.cells 60 [str s.1,int .i64 s.2]),(k.cb,.cells 104 [.atom (.map (some k.gm)),.atom (.map (some k.vm)),.atom (.map (some k.am)),.atom (.map (some k.fm)),str k.name,.atom o,int .i64 (d:Int)])] ?_
  refine aT 0 rfl rfl (Pure.mv (lv:=.atom _) rfl) ?_
  refine aT 1 rfl rfl (Pure.nilCheckH rfl) ?_
  refine aT 2 rfl rfl (Pure.fieldH rfl) ?_
  refine aT 3 rfl rfl (Pure.loadH (c:=.atom _) rfl zm1 rfl) ?_
  refine aT 4 rfl rfl (Pure.fieldH rfl) ?_
  refine aT 5 rfl rfl (Pure.loadH (c:=.atom _) rfl zm0 rfl) ?_
  refine LAny.late ?_ (zhP pH zhp)
  refine lO 6 (lS (H1:=[(k.am,.map (kvs A1) g3)]) rfl (.inl rfl) rfl (show Pick _ _ _ from pT zp4) (zhP pH zhp) (S.kvSet (k:=s.1) (lv:=bool true) rfl rfl rfl pH fun g3'=>?_))
  refine lD zk ?_
  refine gaw ?_
  refine ⟨l2.length,_,_,Nat.lt_succ_self _,⟨pre++[s],l2,GL.kvPut G1 s.1 (bool true),GL.kvPut A1 s.1 (bool true),g1',g3',by rw[hLe];simp,rfl,rfl,rfl,by simpa using hG1.add s.1,by simpa using hA1.add s.1,by simpa using fresh_step hE h0⟩,⟨rfl,rfl,rfl,rfl,int_eq (by simp),trivial⟩,?_,hj2⟩
  repeat first
   |exact HSub.nil _
   |refine zhP zb2 ?_
 have hlen:=zf hc
 rw[List.length_map,hLe,List.length_append] at hlen
 obtain rfl:l1=[]:=by
  cases l1 with
  |nil=>rfl
  |cons a l2=>simp at hlen;omega
 rw[List.append_nil] at hLe
 subst hLe
 rw[List.map_nil,List.nil_append] at hE
 clear hlen hc hb2
 refine gac ?_
 refine oL (fun kk ls H'=>∃ (pre l1:List FnD) (G1:KV) (g1:Nat),fs=pre++l1∧kk=l1.length∧ls=[(0,ptr k.cb 0),(3,ptr b3 0),(52,.list (fs.map encFn)),(53,int .i64 ((fs.map encFn).length:Int)),(54,iv pre.length)] ∧
   H'=(b3,.cells 33 [.list (vars.map str),.list (arrays.map encArG),.list (fs.map encFn)])::pgH { k with G:=G1,g1:=g1,V:=V1,g2:=g2,A:=A1,g3:=g3 } o d∧IsSet G1 (vars++arrays.map (·.1)++pre.map (·.name))∧freshE (vars++arrays.map (·.1)++pre.map (·.name)) (l1.map (·.name))=FR)
  ⟨_,_,_,⟨[],fs,G1,g1,rfl,rfl,rfl,rfl,by simpa using hG1,by simpa using hE⟩,⟨rfl,rfl,rfl,rfl,rfl,trivial⟩,HSub.refl _⟩ ?_
 clear hG1 hE G1 g1
 rintro kk ls H' ⟨pre,l1,G1,g1,hLe,rfl,rfl,rfl,hG1,hE⟩ j hj3
 have hb2:pre.length≤2000000:=by
  have:=congrArg List.length hLe
  rw[List.length_append] at this
  omega
 refine gak ?_
 refine oC rfl (fun hc=>?_) (fun hc=>?_)
 ·have hlen:=zt hc
  rw[List.length_map,hLe,List.length_append] at hlen
  obtain ⟨s,l2,rfl⟩:∃ a l2,l1=a::l2:=by
   cases l1 with
   |nil=>simp at hlen
   |cons a l2=>exact ⟨a,l2,rfl⟩
  rw[List.map_cons] at hE
  refine gal ?_
  refine oP (xR (el':=encFn s) (cs:=[_,_,_,_]) rfl rfl zo (by rw[hLe];exact get_mid encFn pre s l2) rfl rfl) rfl ?_
  refine gax ?_
  refine oS (S.alloc fun b7=>?_) rfl
  refine gaa ?_
  refine oS (S.callE (F:=[_,_]) [_,_] rfl (List.perm_append_comm (l₁:=[_,_])) (global_spec (k:={ k with G:=G1,g1:=g1,V:=V1,g2:=g2,A:=A1,g3:=g3 }) (o:=o) (d:=d) hG1 s.name) (fun H2 h0 hP=>?_) (fun nm h0 e' he'=>?_)) rfl
  rotate_left
  ·refine gae ?_
   exact panE (he'.trans (hj3.trans (hj2.trans hj))) (fresh_bad hI hE h0) h0
  obtain ⟨g1',rfl⟩:=hP
  refine LOps.perm (List.perm_append_comm (l₂:=[_,_])) ?_
  refine gaw ?_
  refine ⟨l2.length,_,_,Nat.lt_succ_self _,⟨pre++[s],l2,GL.kvPut G1 s.name (bool true),g1',by rw[hLe];simp,rfl,rfl,rfl,by simpa using hG1.add s.name,by simpa using fresh_step hE h0⟩,⟨rfl,rfl,rfl,rfl,int_eq (by simp),trivial⟩,zhD zhr,hj3⟩
 have hlen:=zf hc
 rw[List.length_map,hLe,List.length_append] at hlen
 obtain rfl:l1=[]:=by
  cases l1 with
  |nil=>rfl
  |cons a l2=>simp at hlen;omega
 rw[List.append_nil] at hLe
 subst hLe
 have hFR0:FR=0:=hE.symm
 clear hlen hc hb2 hE
 rw[hFR0] at hI
 have hnod:=(freshE_zero _ _ (hFR.trans hFR0)).1
 have hnmok:=(freshE_zero _ _ (hFR.trans hFR0)).2.2
 have hI1:RA=E:=by rw[←hI];rfl
 rw[←hRA] at hI1
 clear hI hRA hFR
 have hPr:0≤(0:Int)∧(0:Int)≤150000:=⟨by decide,by decide⟩
 refine gac ?_
 refine oL (fun kk ls H'=>∃ (pre l1:List (Nm×Int)) (T:Int),arrays=pre++l1∧kk=l1.length∧ls=[(0,ptr k.cb 0),(3,ptr b3 0),(10,int .i64 T),(64,.list (arrays.map encArG)),(65,int .i64 ((arrays.map encArG).length:Int)),(66,iv pre.length)] ∧
   H'=(b3,.cells 33 [.list (vars.map str),.list (arrays.map encArG),.list (fs.map encFn)])::pgH { k with G:=G1,g1:=g1,V:=V1,g2:=g2,A:=A1,g3:=g3 } o d∧(0≤T∧T≤150000)∧sizesE T (l1.map (·.2))=SZ)
  ⟨_,_,_,⟨[],arrays,0,rfl,rfl,rfl,rfl,hPr,hSZ⟩,⟨rfl,rfl,rfl,rfl,rfl,rfl,trivial⟩,HSub.refl _⟩ ?_
 clear hSZ
 rintro kk ls H' ⟨pre,l1,T,hLe,rfl,rfl,rfl,⟨hT1,hT2⟩,hE⟩ j hj4
 have hb2:pre.length≤2000000:=by
  have:=congrArg List.length hLe
  rw[List.length_append] at this
  omega
 refine gak ?_
 refine oC rfl (fun hc=>?_) (fun hc=>?_)
 ·have hlen:=zt hc
  rw[List.length_map,hLe,List.length_append] at hlen
  obtain ⟨s,l2,rfl⟩:∃ a l2,l1=a::l2:=by
   cases l1 with
   |nil=>simp at hlen
   |cons a l2=>exact ⟨a,l2,rfl⟩
  obtain ⟨hs1,hs2⟩:=har s (by rw[hLe];exact List.mem_append_right _ (List.mem_cons_self ..))
  rw[List.map_cons,sizesE] at hE
  refine gal ?_
  refine oP (xR (el':=encArG s) (cs:=[str s.1,int .i64 s.2]) rfl rfl zo (by rw[hLe];exact get_mid encArG pre s l2) rfl rfl) rfl ?_
  refine gab ?_
  refine oS (S.alloc fun b7=>?_) rfl
  refine gaa ?_
  refine oB 72 rfl (fun h1=>?_) (fun h1=>?_)
  rotate_left
  ·have h2:s.2≤0:=by have:=zf h1;omega
   rw[if_pos h2] at hE
   refine oS (S.callK (H1:=[]) (F:=_) [_,_,_] rfl zpr (req_spec false s.1 2 (by decide)) (fun h=>absurd h (by decide)) (fun nm _ e' he'=>?_)) rfl
   refine gae ?_
   exact panE (he'.trans (hj4.trans (hj3.trans (hj2.trans hj)))) (by rw[←hI1,←hE];rfl) (by decide)
  have h2:¬ s.2≤0:=by have:=zt h1;omega
  rw[if_neg h2] at hE
  refine oS (S.callK (H1:=[]) (F:=_) [_,_,_] rfl zpr (req_spec true s.1 2 (by decide)) (fun _=>?_) (fun nm h=>absurd rfl h)) rfl
  refine gaa ?_
  refine oB 80 rfl (fun h3=>?_) (fun h3=>?_)
  rotate_left
  ·have h4:150000-T<s.2:=by have:=zf h3;omega
   rw[if_pos h4] at hE
   refine oS (S.callK (H1:=[]) (F:=_) [_,_,_] rfl zpr (req_spec false s.1 6 (by decide)) (fun h=>absurd h (by decide)) (fun nm _ e' he'=>?_)) rfl
   refine gae ?_
   exact panE (he'.trans (hj4.trans (hj3.trans (hj2.trans hj)))) (by rw[←hI1,←hE];rfl) (by decide)
  have h4:¬ 150000-T<s.2:=by have:=zt h3;omega
  rw[if_neg h4] at hE
  refine oS (S.callK (H1:=[]) (F:=_) [_,_,_] rfl zpr (req_spec true s.1 6 (by decide)) (fun _=>?_) (fun nm h=>absurd rfl h)) rfl
  refine gac ?_
  exact ⟨l2.length,_,_,Nat.lt_succ_self _,⟨pre++[s],l2,T+s.2,by rw[hLe];simp,rfl,rfl,rfl,⟨by omega,by omega⟩,hE⟩,⟨rfl,rfl,rfl,rfl,rfl,int_eq (by simp),trivial⟩,zhD zhr,hj4⟩
 have hlen:=zf hc
 rw[List.length_map,hLe,List.length_append] at hlen
 obtain rfl:l1=[]:=by
  cases l1 with
  |nil=>rfl
  |cons a l2=>simp at hlen;omega
 have hSZ0:SZ=0:=by rw[←hE];rfl
 rw[hSZ0] at hI1
 have hI2:orE FS MN=E:=by rw[←hI1];rfl
 clear hI1 hlen hc hb2 hLe hE
 have hnf:(fs.map (·.name)).Nodup:=(List.nodup_append.1 hnod).2.1
 have hds:j.ds=[]:=hj4.trans (hj3.trans (hj2.trans hj))
 clear hj hj2 hj3 hj4
 refine gac ?_
 refine oL (fun kk ls H'=>∃ (pre l1:List FnD) (known:List FSum) (F1:KV) (g4:Nat) (nm:Nm) (o1:Value) (d1:Nat),fs=pre++l1∧kk=l1.length∧ls=[(0,ptr k.cb 0),(3,ptr b3 0),(90,.list (fs.map encFn)),(91,int .i64 ((fs.map encFn).length:Int)),(92,iv pre.length)] ∧
   H'=(b3,.cells 33 [.list (vars.map str),.list (arrays.map encArG),.list (fs.map encFn)])::pgH { k with name:=nm,G:=G1,g1:=g1,V:=V1,g2:=g2,A:=A1,g3:=g3,F:=F1,g4:=g4 } o1 d1∧(∀ n,GL.kvGet F1 n=(known.find? fun g=>decide (g.name=n)).map encSum)∧known.map (·.name)=pre.map (·.name) ∧
   errFs vars (arrays.map (·.1)) (fs.map (·.name)) known l1=FS∧sumFs vars (arrays.map (·.1)) (fs.map (·.name)) known l1=SS∧KnB (8 * ndFs pre) pre.length known)
  ⟨_,_,_,⟨[],fs,[],k.F,k.g4,k.name,o,d,rfl,rfl,rfl,rfl,fun n=>by rw[hk4];rfl,rfl,hFS,hSS,fun x hx=>(List.not_mem_nil hx).elim⟩,⟨rfl,rfl,rfl,rfl,rfl,trivial⟩,HSub.refl _⟩ ?_
 rintro kk ls H' ⟨pre,l1,known,F1,g4,nm,o1,d1,hLe,rfl,rfl,rfl,hF,hkn,hE,hS,hB⟩ j2 hj2
 have hb2:pre.length≤2000000:=by
  have:=congrArg List.length hLe
  rw[List.length_append] at this
  omega
 refine gak ?_
 refine oC rfl (fun hc=>?_) (fun hc=>?_)
 ·have hlen:=zt hc
  rw[List.length_map,hLe,List.length_append] at hlen
  obtain ⟨s,l2,rfl⟩:∃ a l2,l1=a::l2:=by
   cases l1 with
   |nil=>simp at hlen
   |cons a l2=>exact ⟨a,l2,rfl⟩
  have hsz:ndFs pre+ndF s≤2000000:=by
   have:=hnd
   rw[hLe,ndFs_append,ndFs] at this
   omega
  have hnew:s.name ∉ known.map (·.name):=by
   rw[hkn]
   have:=hnf
   rw[hLe,List.map_append,List.map_cons] at this
   intro hm
   exact (List.nodup_append.1 this).2.2 _ hm _ (List.mem_cons_self ..) rfl
  rw[errFs] at hE
  rw[sumFs] at hS
  refine gal ?_
  refine oP (xR (el':=encFn s) (cs:=[_,_,_,_]) rfl rfl zo (by rw[hLe];exact get_mid encFn pre s l2) rfl rfl) rfl ?_
  refine gax ?_
  refine oS (S.alloc fun b7=>?_) rfl
  refine gaa ?_
  refine oS (S.callE (F:=[_,_]) [_,_] rfl (List.perm_append_comm (l₁:=[_,_])) (function_spec (vars:=vars) (arrays:=arrays.map (·.1)) (later:=fs.map (·.name)) (known:=known) (k:={ k with name:=nm,G:=G1,g1:=g1,V:=V1,g2:=g2,A:=A1,g3:=g3,F:=F1,g4:=g4 }) (o:=o1) (d:=d1) s hG1 hV1 hA1 hF hnew hB zo zo zo) (fun H2 h0 hP=>?_) (fun nm h0 e' he'=>?_)) rfl
  rotate_left
  ·refine gae ?_
   exact panE (he'.trans (hj2.trans hds)) (by rw[←hI2,←hE,orE_ne (a:=orE _ _) (by rw[orE_ne h0];exact h0),orE_ne h0]) h0
  obtain ⟨nm',o',d',F',g4',hF',rfl⟩:=hP
  refine LOps.perm (List.perm_append_comm (l₂:=[_,_])) ?_
  refine gaw ?_
  refine ⟨l2.length,_,_,Nat.lt_succ_self _,⟨pre++[s],l2,known++[sumF vars (arrays.map (·.1)) (fs.map (·.name)) known s],F',g4',nm',o',d',by rw[hLe];simp,rfl,rfl,rfl,hF',?_,by rw[←hE,h0];rfl,hS,?_⟩,⟨rfl,rfl,rfl,rfl,int_eq (by simp),trivial⟩,zhD zhr,hj2⟩
  ·rw[List.map_append,List.map_append,hkn]
   rfl
  ·have h1:=sumF_le (vars:=vars) (arrays:=arrays.map (·.1)) (later:=fs.map (·.name)) (f:=s) hB
   have h2:ndFs (pre++[s])=ndFs pre+ndF s:=by rw[ndFs_append,ndFs,ndFs];rfl
   intro g hg
   rw[h2,List.length_append,List.length_singleton]
   rcases List.mem_append.1 hg with hg|hg
   ·obtain ⟨a1,a2,a3⟩:=hB g hg
    exact ⟨by omega,by omega,by omega⟩
   ·obtain rfl:=List.mem_singleton.1 hg
    obtain ⟨a1,a2,a3⟩:=h1
    exact ⟨by omega,by omega,by omega⟩
 have hlen:=zf hc
 rw[List.length_map,hLe,List.length_append] at hlen
 obtain rfl:l1=[]:=by
  cases l1 with
  |nil=>rfl
  |cons a l2=>simp at hlen;omega
 have hFS0:FS=0:=by rw[←hE];rfl
 have hknS:known=SS:=by rw[←hS];rfl
 rw[hFS0] at hI2
 have hI3:MN=E:=by rw[←hI2];rfl
 clear hlen hc hb2 hLe hE
 subst hknS
 have hall:=errFs_zero fs [] (hFS.trans hFS0)
 have hnn:∀ f∈fs,f.name.length≤1000∧∀ x∈f.params++f.locals,x.length≤1000:=fun f hf=>by
  obtain ⟨kk,hk⟩:=hall f hf
  exact ⟨isNm_short (hnmok f.name (List.mem_append_right _ (List.mem_map_of_mem hf))),errF_names hk⟩
 have hsm:∀ f∈fs,SmF f:=fun f hf=>smF_of (Nat.le_trans (ndFs_mem hf) hnd)
 have hds2:=hj2.trans hds
 unfold mainE at hMN
 refine gaa ?_
 cases hfl:fs.getLast? with
 |none=>
  have hf0:fs=[]:=List.getLast?_eq_none_iff.1 hfl
  rw[hfl] at hMN
  refine oB 105 rfl (fun h=>absurd (zt h) (by rw[hf0];decide)) (fun _=>?_)
  refine gah ?_
  refine oS (S.callK (H1:=[]) (F:=_) [_,_,_] rfl zpr (req_spec false [109,97,105,110] 9 (by decide)) (fun h=>absurd h (by decide)) (fun nm _ e' he'=>?_)) rfl
  refine gam ?_
  exact panE (he'.trans hds2) (hI3.symm.trans hMN.symm) (by decide)
 |some f=>
  obtain ⟨ys,hys⟩:=List.getLast?_eq_some_iff.1 hfl
  have hln:(fs.map encFn).length=ys.length+1:=by rw[List.length_map,hys,List.length_append];rfl
  have hl6:(fs.map encFn).length≤2000000:=by rw[List.length_map];exact hf6
  have hn0:(0:Int)≤((fs.map encFn).length:Int)-1:=by omega
  have hget:(fs.map encFn)[(((fs.map encFn).length:Int)-1).toNat]? = some (encFn f):=by
   rw[show (((fs.map encFn).length:Int)-1).toNat=ys.length by omega,hys,List.map_append]
   rw[List.getElem?_append_right (by rw[List.length_map];exact Nat.le_refl _),List.length_map,Nat.sub_self]
   rfl
  have hnms:known.map (·.name)=fs.map (·.name):=by
   rw[←hSS,sumFs_names]
   rfl
  obtain ⟨m,hm⟩:∃ m,known.getLast? = some m:=by
   cases hx:known.getLast? with
   |some m=>exact ⟨m,rfl⟩
   |none=>
    rw[List.getLast?_eq_none_iff.1 hx,hys] at hnms
    simp at hnms
  have hmf:m.name=f.name:=by
   have h1:=congrArg List.getLast? hnms
   rw[List.getLast?_map,List.getLast?_map,hm,hfl] at h1
   exact Option.some.inj h1
  have hfind:=find_last (by rw[hnms];exact hnf) hm
  rw[hfl,hm] at hMN
  replace hMN:(if f.name=[109,97,105,110]∧f.params=[] then (if (scalarsP vars fs).length≤8000∧m.need≤200∧m.depth≤60 then 0 else 6) else 9)=MN:=hMN
  rw[hI3] at hMN
  refine oB 105 rfl (fun _=>?_) (fun h=>absurd (show ((fs.map encFn).length:Int) > 0 by omega) (zf h))
  refine gab ?_
  first|refine LOps.want rfl rfl ?_|skip
  refine oP (xR (el':=encFn f) (n:=((fs.map encFn).length:Int)-1) (cs:=[str f.name,.list (f.params.map str),.list (f.locals.map str),.list (f.body.map encS)]) rfl rfl hn0 hget rfl rfl) rfl ?_
  refine gab ?_
  refine oB 115 rfl (fun h1=>?_) (fun h1=>?_)
  rotate_left
  ·rw[if_neg (fun h=>zf h1 h.1)] at hMN
   refine gah ?_
   refine oS (S.callK (H1:=[]) (F:=_) [_,_,_] rfl zpr (req_spec false [109,97,105,110] 9 (by decide)) (fun h=>absurd h (by decide)) (fun nm _ e' he'=>?_)) rfl
   refine gam ?_
   exact panE (he'.trans hds2) hMN.symm (by decide)
  have hmain:f.name=[109,97,105,110]:=zt h1
  refine gab ?_
  first|refine LOps.want rfl rfl ?_|skip
  refine oP (xR (el':=encFn f) (n:=((fs.map encFn).length:Int)-1) (cs:=[str f.name,.list (f.params.map str),.list (f.locals.map str),.list (f.body.map encS)]) rfl rfl hn0 hget rfl rfl) rfl ?_
  refine gab ?_
  refine oB 125 rfl (fun h2=>?_) (fun h2=>?_)
  rotate_left
  ·rw[if_neg (fun h=>zf h2 (by rw[h.2];rfl))] at hMN
   refine oS (S.callK (H1:=[]) (F:=_) [_,_,_] rfl zpr (req_spec false [109,97,105,110] 9 (by decide)) (fun h=>absurd h (by decide)) (fun nm _ e' he'=>?_)) rfl
   refine gam ?_
   exact panE (he'.trans hds2) hMN.symm (by decide)
  have hpar:f.params=[]:=by
   have h3:=zt h2
   rw[List.length_map] at h3
   exact List.length_eq_zero_iff.1 zo
  rw[if_pos ⟨hmain,hpar⟩] at hMN
  refine oS (S.callK (H1:=[]) (F:=_) [_,_,_] rfl zpr (req_spec true [109,97,105,110] 9 (by decide)) (fun _=>?_) (fun nm h=>absurd rfl h)) rfl
  have hgF:GL.kvGet F1 [109,97,105,110]=some (encSum m):=by
   rw[hF,←hmain,←hmf,hfind]
   rfl
  refine gaa ?_
  refine oP (Pure.kvHit rfl rfl zm5 hgF) rfl ?_
  refine oS (S.alloc fun b16=>?_) rfl
  refine gaa ?_
  refine oS (S.fn [_] rfl (scalars_specG (.list (arrays.map encArG)) hv6 hf6 hsm hnn) ?_) rfl
  refine gab ?_
  refine oB 136 rfl (fun h3=>?_) (fun h3=>?_)
  rotate_left
  ·have hbad:¬ ((scalarsP vars fs).length≤8000∧m.need≤200∧m.depth≤60):=fun h=>zf h3 (by rw[List.length_map];have:=h.1;omega)
   rw[if_neg hbad] at hMN
   refine gah ?_
   refine oS (S.callK (H1:=[]) (F:=_) [_,_,_] rfl zpr (req_spec false [109,97,105,110] 6 (by decide)) (fun h=>absurd h (by decide)) (fun nm _ e' he'=>?_)) rfl
   exact panE (he'.trans hds2) hMN.symm (by decide)
  have h3':(scalarsP vars fs).length≤8000:=by
   have:=zt h3
   rw[List.length_map] at this
   omega
  refine gab ?_
  refine oB 141 rfl (fun h4=>?_) (fun h4=>?_)
  rotate_left
  ·have hbad:¬ ((scalarsP vars fs).length≤8000∧m.need≤200∧m.depth≤60):=fun h=>zf h4 (by have:=h.2.1;omega)
   rw[if_neg hbad] at hMN
   refine gah ?_
   refine oS (S.callK (H1:=[]) (F:=_) [_,_,_] rfl zpr (req_spec false [109,97,105,110] 6 (by decide)) (fun h=>absurd h (by decide)) (fun nm _ e' he'=>?_)) rfl
   exact panE (he'.trans hds2) hMN.symm (by decide)
  have h4':m.need≤200:=by
   have:=zt h4
   omega
  refine gab ?_
  refine oB 145 rfl (fun h5=>?_) (fun h5=>?_)
  rotate_left
  ·have hbad:¬ ((scalarsP vars fs).length≤8000∧m.need≤200∧m.depth≤60):=fun h=>zf h5 (by have:=h.2.2;omega)
   rw[if_neg hbad] at hMN
   refine oS (S.callK (H1:=[]) (F:=_) [_,_,_] rfl zpr (req_spec false [109,97,105,110] 6 (by decide)) (fun h=>absurd h (by decide)) (fun nm _ e' he'=>?_)) rfl
   exact panE (he'.trans hds2) hMN.symm (by decide)
  have h5':m.depth≤60:=by
   have:=zt h5
   omega
  rw[if_pos ⟨h3',h4',h5'⟩] at hMN
  refine oS (S.callK (H1:=[]) (F:=_) [_,_,_] rfl zpr (req_spec true [109,97,105,110] 6 (by decide)) (fun _=>?_) (fun nm h=>absurd rfl h)) rfl
  refine gaf ?_
  exact retEn hds2 rN hMN.symm rfl zhn rfl
end
end Go.Proofs.YtcbpcianefpniaaGreatDoor.Chk
namespace Go.Proofs.YtcbpcianefpniaaGreatDoor.Chk
open Go.GL Go.RowKit Go.Stele
set_option maxRecDepth 100000
set_option maxHeartbeats 4000000
section
variable {C:Ctx} {e:Env} {H:Heap} {dst:Option Nat} {ty:TypeId} {pos:String} {aft:Array Edge} {g:Option (Nat×Bool)} {x:Operand}
theorem Pure.assertNil {t xT:TypeId} [ht:TConcrete C.P t] {zs:List Value} (hz:∀ w,(zeroValue t).run C.P w=.ok (.agg zs.toArray) w) (hx:e.ev x=.atom .nilIface):Go.GL.Pure C ⟨dst,.typeAssert x xT t true,ty,pos,aft,g⟩ e H (.tuple [.agg (zs.map .atom),bool false]):=
 .of_any fun ρ w L h=>⟨.tuple #[.agg zs.toArray,.bool false],by
  simp only[Rep]
  exact ⟨[.agg zs.toArray,.bool false],rfl,by simp only[RepL,Rep];exact ⟨_,_,rfl,⟨zs,rfl,repL_atoms zs⟩,_,_,rfl,rfl,rfl⟩⟩,fun w'=>by
  obtain ⟨d,hd,hm⟩:=ht.out
  have h3:execOp ρ ⟨dst,.typeAssert x xT t true,ty,pos,aft,g⟩=(do Pure.pure (.value (←Instr.typeAssert (ρ x) xT t true))):=rfl
  rw[h3,atom_of h hx]
  simp only[Instr.typeAssert,Sem.run_bind,run_underlying' hd,Result.andThen_ok]
  cases d <;> simp_all [Sem.run_bind]⟩
end
theorem vio_zero (w:World):(zeroValue 98).run Tryz.prog w=.ok (.agg [.string ⟨#[]⟩,.int .i64 0].toArray) w:=
 (Go.zero_of_info (P:=Tryz.prog) (n:=2) zk).1 w
attribute [local irreducible] LOps LCode LStep LCalls Go.GL.Pure QThen QBlock RetPost LQ LAny LLate LLateOp LS LOpsP LCodeP LCodeS LCallsD
section
variable {B0:Nat} {w0:World}
theorem crec_ret (b2 b3:Nat) (c d:LV):LCallsD (KC B0 w0) 40 [ptr b2 0,ptr b3 0] .returning [(b2,.cells 9 [c]),(b3,.cells 25 [d])]
  (fun u H=>u=.returning∧H=[(b2,.cells 9 [c]),(b3,.cells 25 [d])]):=by
 refine LCallsD.intro Tryz.func40 rfl (n:=19) rfl rfl rfl ?_
 refine LCodeS.seq (LCodeS.recover rfl rfl ?_)
 refine LCodeS.of ?_
 refine gaj ?_
 refine oP (Pure.assertNil vio_zero rfl) rfl ?_
 refine gab ?_
 refine oS (S.alloc fun b5=>?_) rfl
 refine gaa ?_
 refine oC rfl (fun hc=>?_) (fun hc=>?_)
 ·cases hc
 refine gaa ?_
 refine oC rfl (fun hc=>?_) (fun hc=>?_)
 ·cases hc
 ·refine gav ?_
  exact ⟨rfl,_,zhD zhr,rfl,rfl⟩
theorem crec_pan (b2 b3:Nat) (c d:LV) (nm:List UInt8) (er:Int):LCallsD (KC B0 w0) 40 [ptr b2 0,ptr b3 0] (.panicking (vio nm er)) [(b2,.cells 9 [c]),(b3,.cells 25 [d])]
  (fun u H=>settle u=.returning∧H=[(b2,.cells 9 [str nm]),(b3,.cells 25 [int .i64 er])]):=by
 refine LCallsD.intro Tryz.func40 rfl (n:=19) rfl rfl rfl ?_
 refine LCodeS.seq (LCodeS.recover rfl rfl ?_)
 refine LCodeS.of ?_
 refine gaj ?_
 refine oP (Pure.assertOk (vs:=[.string ⟨nm.toArray⟩,.int .i64 er]) rfl) rfl ?_
 refine gab ?_
 refine oS (S.alloc fun b5=>?_) rfl
 refine gaa ?_
 refine oC rfl (fun hc=>?_) (fun hc=>?_)
 ·skip
  refine LCode.draw (m:=6) rfl [(b5,.cells 98 [str nm,int .i64 er])] ?_
  refine aT 0 rfl rfl (Pure.fieldH rfl) ?_
  refine aT 1 rfl rfl (Pure.loadH (c:=.atom _) rfl zm0 rfl) ?_
  refine aT 2 rfl rfl (Pure.fieldH rfl) ?_
  refine aT 3 rfl rfl (Pure.loadH (c:=.atom _) rfl zm0 rfl) ?_
  refine LAny.late ?_ zhp
  refine lO 4 (lS (H1:=[(b2,.cells 9 [c])]) (F:=[(b5,.cells 98 [str nm,int .i64 er]),(b3,.cells 25 [d])]) rfl (.inl rfl) rfl zp1 zhp (S.store (cs':=[_]) rfl pH rfl rfl rfl rfl rfl ?_))
  refine lO 5 (lS (H1:=[(b3,.cells 25 [d])]) (F:=[(b2,.cells 9 [str nm]),(b5,.cells 98 [str nm,int .i64 er])]) rfl (.inl rfl) rfl zp2 (zhP zp1 zhn) (S.store (cs':=[_]) rfl pH rfl rfl rfl rfl rfl ?_))
  refine lD zk ?_
  exact ⟨rfl,_,zhP zp1 zhp,rfl,rfl⟩
 ·cases hc
theorem check_spec (vars:List Nm) (arrays:List (Nm×Int)) (fs:List FnD) (hv6:vars.length≤2000000) (ha6:arrays.length≤2000000) (har:∀ a∈arrays,-9223372036854775808≤a.2∧a.2<9223372036854775808) (hnd:ndFs fs≤2000000) :
  LCalls (KC B0 w0) 25 [encPrG vars arrays fs] [] (fun r H=>H=[]∧∃ nm,r=.ret (.tuple [str nm,int .i64 (checkP vars arrays fs)])):=by
 generalize hE:checkP vars arrays fs=E
 refine LCalls.introD Tryz.func25 rfl (n:=15) rfl rfl rfl ?_
 refine LCodeP.seq (LCodeP.of ?_)
 refine gag ?_
 refine oS (S.box rfl fun b1=>?_) rfl
 refine oS (S.alloc fun b2=>?_) rfl
 refine oS (S.alloc fun b3=>?_) rfl
 refine gaf ?_
 refine LCodeP.seq (LCodeP.region ?_)
 refine gab ?_
 refine LOpsP.defer rfl rfl ?_
 refine LOpsP.nil ?_
 refine QThen.normal ?_
 refine LCodeP.seq (LCodeP.of ?_)
 refine gag ?_
 refine oS (S.kvNew fun gm=>?_) rfl
 refine oS (S.kvNew fun vm=>?_) rfl
 refine oS (S.kvNew fun am=>?_) rfl
 refine oS (S.kvNew fun fm=>?_) rfl
 refine gab ?_
 refine oS (S.box rfl fun cb=>?_) rfl
 refine LOps.weak (H':=pgH ⟨cb,gm,vm,am,fm,0,[],[],[],[],[],0,0,0,0,0,[]⟩ (.map none) 0++[(b3,.cells 25 [int .i64 0]),(b2,.cells 9 [str []]),(b1,.cells 33 [.list (vars.map str),.list (arrays.map encArG),.list (fs.map encFn)])]) ?_ ?_
 ·repeat first
   |exact HSub.nil _
   |refine zhP zb2 ?_
 refine gaf ?_
 refine LCodeP.seq (LCodeP.region ?_)
 refine gab ?_
 refine LOpsP.step (S.callE (F:=[_,_,_]) [_,_] rfl zpr (program_spec (k:=⟨cb,gm,vm,am,fm,0,[],[],[],[],[],0,0,0,0,0,[]⟩) (o:=.map none) (d:=0) vars arrays fs rfl rfl rfl rfl hv6 ha6 har hnd) (fun H2 h0 hP=>?_) (fun nm h0=>?_)) rfl
 ·subst hP
  rw[hE] at h0
  subst h0
  refine LOpsP.nil ?_
  refine QThen.normal ?_
  refine LCodeP.seq (LCodeP.region ?_)
  refine LOpsP.step (S.store (cs':=[_]) rfl zp1 rfl rfl rfl rfl rfl ?_) rfl
  refine LOpsP.step (S.store (cs':=[_]) rfl zp1 rfl rfl rfl rfl rfl ?_) rfl
  refine LOpsP.nil ?_
  refine QThen.normal ?_
  refine LCodeP.ret ?_
  exact RetPostD.ret1 (vs:=[str [],int .i64 0]) (H1:=[(b2,.cells 9 [str []]),(b3,.cells 25 [int .i64 0])]) (F:=[_]) (H2:=[(b2,.cells 9 [str []]),(b3,.cells 25 [int .i64 0])]) rfl (List.Perm.swap _ _ _) (crec_ret b2 b3 _ _)
   (rC (ResIs.cellOne rfl zm0 rfl zsr) (rC (ResIs.cellOne rfl zm1 rfl zsr) rN)) zhn ⟨rfl,[],rfl⟩
 ·rw[hE] at h0 ⊢
  refine QThen.panic ?_
  exact RetPostD.panic1 (vs:=[str nm,int .i64 E]) (H1:=[(b2,.cells 9 [str []]),(b3,.cells 25 [int .i64 0])]) (F:=[_]) (H2:=[(b2,.cells 9 [str nm]),(b3,.cells 25 [int .i64 E])]) rfl (List.Perm.swap _ _ _) (crec_pan b2 b3 _ _ nm E)
   (rC (ResIs.cellOne rfl zm0 rfl zsr) (rC (ResIs.cellOne rfl zm1 rfl zsr) rN)) zhn ⟨rfl,nm,rfl⟩
end
end Go.Proofs.YtcbpcianefpniaaGreatDoor.Chk
set_option maxRecDepth 100000
namespace Go.Stele
mutual
theorem PE_nd:∀ {e:Ex} {k:Nat} {ts:List KT} {d:Nat},PE e k ts d→ndE e≤ts.length∧numE e
 |_,_,_,_,.num h=>⟨by rw[ndE,ndEs];exact Nat.le_refl _,by rw[numE];exact ⟨h,trivial⟩⟩
 |_,_,_,_,.var h=>⟨by rw[ndE,ndEs];exact Nat.le_refl _,by rw[numE];exact ⟨by unfold Lt;omega,trivial⟩⟩
 |_,_,_,_,.elem h ha=>by
  obtain ⟨h1,h2⟩:=PE_nd ha
  refine ⟨?_,?_⟩
  ·rw[ndE,ndEs,ndEs]
   simp only[List.length_append,List.length_cons,List.length_nil]
   omega
  ·rw[numE,numEs,numEs]
   exact ⟨by unfold Lt;omega,h2,trivial⟩
 |_,_,_,_,.call h hl=>by
  obtain ⟨h1,h2⟩:=PEs_nd hl
  refine ⟨?_,?_⟩
  ·rw[ndE]
   simp only[List.length_append,List.length_cons,List.length_nil]
   omega
  ·rw[numE]
   exact ⟨by unfold Lt;omega,h2⟩
 |_,_,_,_,.neg ha=>by
  obtain ⟨h1,h2⟩:=PE_nd ha
  refine ⟨?_,?_⟩
  ·rw[ndE,ndEs,ndEs]
   simp only[List.length_append,List.length_cons,List.length_nil]
   omega
  ·rw[numE,numEs,numEs]
   exact ⟨by unfold Lt;omega,h2,trivial⟩
 |_,_,_,_,.not ha=>by
  obtain ⟨h1,h2⟩:=PE_nd ha
  refine ⟨?_,?_⟩
  ·rw[ndE,ndEs,ndEs]
   simp only[List.length_append,List.length_cons,List.length_nil]
   omega
  ·rw[numE,numEs,numEs]
   exact ⟨by unfold Lt;omega,h2,trivial⟩
 |_,_,_,_,.bin hs ho hk ha hb=>by
  obtain ⟨h1,h2⟩:=PE_nd ha
  obtain ⟨h3,h4⟩:=PE_nd hb
  refine ⟨?_,?_⟩
  ·rw[ndE,ndEs,ndEs,ndEs]
   simp only[List.length_append,List.length_cons,List.length_nil]
   omega
  ·rw[numE,numEs,numEs,numEs]
   exact ⟨by unfold Lt;omega,h2,h4,trivial⟩
 |_,_,_,_,.par hs ho hk ha hb=>by
  obtain ⟨h1,h2⟩:=PE_nd ha
  obtain ⟨h3,h4⟩:=PE_nd hb
  refine ⟨?_,?_⟩
  ·rw[ndE,ndEs,ndEs,ndEs]
   simp only[List.length_append,List.length_cons,List.length_nil]
   omega
  ·rw[numE,numEs,numEs,numEs]
   exact ⟨by unfold Lt;omega,h2,h4,trivial⟩
theorem PEs_nd:∀ {l:List Ex} {ts:List KT} {d:Nat},PEs l ts d→ndEs l≤ts.length∧numEs l
 |_,_,_,.nil=>⟨by rw[ndEs];exact Nat.zero_le _,by rw[numEs];trivial⟩
 |_,_,_,.one ha=>by
  obtain ⟨h1,h2⟩:=PE_nd ha
  rw[ndEs,ndEs,numEs,numEs]
  exact ⟨by omega,h2,trivial⟩
 |_,_,_,.more ha hl=>by
  obtain ⟨h1,h2⟩:=PE_nd ha
  obtain ⟨h3,h4⟩:=PEs_nd hl
  refine ⟨?_,?_⟩
  ·rw[ndEs]
   simp only[List.length_append,List.length_cons]
   omega
  ·rw[numEs]
   exact ⟨h2,h4⟩
end
theorem one_nd {e:Ex} {ts:List KT} {d:Nat} (h:PE e 0 ts d):ndEs [e]≤ts.length∧numEs [e]:=PEs_nd (.one h)
mutual
theorem PS_nd:∀ {s:Sm} {ts:List KT} {d:Nat},PS s ts d→ndS s≤ts.length∧numS s
 |_,_,_,.assign h he=>by
  obtain ⟨h1,h2⟩:=one_nd he
  refine ⟨?_,?_⟩
  ·rw[ndS,ndEs,ndSs]
   simp only[List.length_append,List.length_cons,List.length_nil]
   omega
  ·rw[numS,numSs]
   exact ⟨by rw[numEs];trivial,h2,trivial,trivial⟩
 |_,_,_,.store h hx he=>by
  obtain ⟨h1,h2⟩:=one_nd he
  obtain ⟨h3,h4⟩:=one_nd hx
  refine ⟨?_,?_⟩
  ·rw[ndS,ndSs]
   simp only[List.length_append,List.length_cons,List.length_nil]
   omega
  ·rw[numS,numSs]
   exact ⟨h4,h2,trivial,trivial⟩
 |_,_,_,.call h hl=>by
  obtain ⟨h1,h2⟩:=PEs_nd hl
  refine ⟨?_,?_⟩
  ·rw[ndS,ndSs,ndEs,ndEs,ndEs,ndE]
   simp only[List.length_append,List.length_cons,List.length_nil]
   omega
  ·rw[numS,numSs,numEs,numEs,numEs,numE]
   exact ⟨trivial,⟨⟨by unfold Lt;omega,h2⟩,trivial⟩,trivial,trivial⟩
 |_,_,_,.ret he=>by
  obtain ⟨h1,h2⟩:=one_nd he
  refine ⟨?_,?_⟩
  ·rw[ndS,ndSs]
   simp only[List.length_append,List.length_cons,List.length_nil]
   have:ndEs []=0:=by rw[ndEs]
   omega
  ·rw[numS,numSs]
   exact ⟨by rw[numEs];trivial,h2,trivial,trivial⟩
 |_,_,_,.halt=>by
  refine ⟨?_,?_⟩
  ·rw[ndS,ndSs,ndEs]
   simp only[List.length_cons,List.length_nil]
   omega
  ·rw[numS,numSs,numEs]
   exact ⟨trivial,trivial,trivial,trivial⟩
 |_,_,_,.ifElse he h1 h2 hne=>by
  obtain ⟨a1,a2⟩:=one_nd he
  obtain ⟨b1,b2⟩:=PSs_nd h1
  obtain ⟨c1,c2⟩:=PSs_nd h2
  refine ⟨?_,?_⟩
  ·rw[ndS]
   simp only[List.length_append,List.length_cons,List.length_nil]
   have:ndEs []=0:=by rw[ndEs]
   omega
  ·rw[numS]
   exact ⟨by rw[numEs];trivial,a2,b2,c2⟩
 |_,_,_,.ifThen he h1=>by
  obtain ⟨a1,a2⟩:=one_nd he
  obtain ⟨b1,b2⟩:=PSs_nd h1
  refine ⟨?_,?_⟩
  ·rw[ndS]
   simp only[List.length_append,List.length_cons,List.length_nil]
   have:ndEs []=0:=by rw[ndEs]
   have:ndSs []=0:=by rw[ndSs]
   omega
  ·rw[numS]
   exact ⟨by rw[numEs];trivial,a2,b2,by rw[numSs];trivial⟩
 |_,_,_,.while he h1=>by
  obtain ⟨a1,a2⟩:=one_nd he
  obtain ⟨b1,b2⟩:=PSs_nd h1
  refine ⟨?_,?_⟩
  ·rw[ndS]
   simp only[List.length_append,List.length_cons,List.length_nil]
   have:ndEs []=0:=by rw[ndEs]
   have:ndSs []=0:=by rw[ndSs]
   omega
  ·rw[numS]
   exact ⟨by rw[numEs];trivial,a2,b2,by rw[numSs];trivial⟩
theorem PSs_nd:∀ {l:List Sm} {ts:List KT} {d:Nat},PSs l ts d→ndSs l≤ts.length∧numSs l
 |_,_,_,.nil=>⟨by rw[ndSs];exact Nat.zero_le _,by rw[numSs];trivial⟩
 |_,_,_,.cons h hl=>by
  obtain ⟨h1,h2⟩:=PS_nd h
  obtain ⟨h3,h4⟩:=PSs_nd hl
  refine ⟨?_,?_⟩
  ·rw[ndSs]
   simp only[List.length_append]
   omega
  ·rw[numSs]
   exact ⟨h2,h4⟩
end
theorem PFs_nd:∀ (fs:List FnD) (ts:List KT),PFs fs ts→ndFs fs≤ts.length∧∀ f∈fs,numSs f.body
 |[],ts,h=>⟨by rw[ndFs];exact Nat.zero_le _,fun f hf=>(List.not_mem_nil hf).elim⟩
 |f::fs,ts,h=>by
  cases h with
  |cons h hd hl=>
   obtain ⟨h1,h2⟩:=PFs_nd fs _ hl
   cases h with
   |mk hn hp hlo hb=>
    rename_i nm ps ls b ts' d'
    obtain ⟨h3,h4⟩:=PSs_nd hb
    have h5:=commas_ge ps
    have h6:=varK_ge ls
    refine ⟨?_,?_⟩
    ·rw[ndFs]
     unfold ndF
     simp only[List.length_append,List.length_cons,List.length_nil]
     omega
    ·intro f hf
     rcases List.mem_cons.1 hf with rfl|hf
     ·exact h4
     ·exact h2 f hf
theorem arKs_len (l:List Ar):l.length≤((l.map arK).flatten).length:=by
 induction l with
 |nil=>exact Nat.zero_le _
 |cons a l ih=>
  rw[List.map_cons,List.flatten_cons,List.length_append]
  unfold arK
  simp only[List.length_cons,List.length_nil]
  unfold arK at ih
  omega
structure SzP (p:Pr) (n:Nat):Prop where
 vars:p.vars.length≤n
 arrays:p.arrays.length≤n
 size:∀ a∈p.arrays,a.size<4294967296
 funcs:ndFs p.funcs≤n
 nums:∀ f∈p.funcs,numSs f.body
theorem PP_nd {p:Pr} {ts:List KT} (h:PP p ts):SzP p ts.length:=by
 cases h with
 |mk hv ha hf=>
  rename_i v a f ts
  obtain ⟨h1,h2⟩:=PFs_nd f ts hf
  have h3:=varK_ge v
  have h4:=arKs_len a
  refine ⟨?_,?_,fun x hx=>(ha x hx).2,?_,h2⟩ <;> · simp only[List.length_append];omega
theorem SzP.mono {p:Pr} {n m:Nat} (h:SzP p n) (hm:n≤m):SzP p m:=
 ⟨Nat.le_trans h.vars hm,Nat.le_trans h.arrays hm,h.size,Nat.le_trans h.funcs hm,h.nums⟩
theorem parse_sz {s:List UInt8} {T:List Tok} {p:Pr} {i op:Nat} (hT:lexAt s 1=.ok T) (hs:sProg T (10 * T.length+20) ⟨[],[],[]⟩ 0 0=some (.ok p i op)):SzP p s.length:=by
 obtain ⟨ts,h3,h4⟩:=src_print (lexP_again _ _ _ _ hT) hs
 exact (PP_nd h3).mono (Nat.le_trans h4 (lexP_ok _ _ _ _ hT).1)
theorem SzP.small {p:Pr} {n:Nat} (h:SzP p n) (hn:n≤2000000):SmP p:=by
 have h1:=ndFs_len p.funcs
 have h2:=h.funcs
 exact ⟨show p.vars.length≤2000000 from Nat.le_trans h.vars hn,show p.arrays.length≤2000000 from Nat.le_trans h.arrays hn,show p.funcs.length≤2000000 by omega,fun f hf=>smF_of (Nat.le_trans (ndFs_mem hf) (Nat.le_trans h2 hn))⟩
end Go.Stele
namespace Go.Proofs.YtcbpcianefpniaaGreatDoor.Inp
open Go.GL Go.RowKit Go.Stele
set_option maxRecDepth 100000
set_option maxHeartbeats 4000000
theorem parse_both {s:List UInt8} (hs:s.length≤60000):∃ l,parseP s=((parseQ s).1,l,(parseQ s).2)∧SzP (parseQ s).1 s.length:=by
 have h0:SzP ⟨[],[],[]⟩ s.length:=⟨Nat.zero_le _,Nat.zero_le _,fun a ha=>(List.not_mem_nil ha).elim,Nat.zero_le _,fun a ha=>(List.not_mem_nil ha).elim⟩
 have hL:lexAllP s=lexAt s 1:=by
  unfold lexAllP
  rw[if_neg zo]
  rfl
 unfold parseP parseQ
 rw[hL]
 cases hT:lexAt s 1 with
 |error x=>
  obtain ⟨l,e⟩:=x
  exact ⟨l,rfl,h0⟩
 |ok T=>
  simp only
  obtain ⟨r,hr⟩:=sProg_ends T (10 * T.length+20) noPr 0 0 (Nat.zero_le _) zo
  have hr':sProg T (10 * T.length+20) ⟨[],[],[]⟩ 0 0=some r:=hr
  rw[hr,hr']
  cases r with
  |err l e=>exact ⟨l,rfl,h0⟩
  |ok p i op=>exact ⟨0,rfl,parse_sz hT hr'⟩
theorem encPr_eq (p:Pr):encPr p=Chk.encPrG p.vars (p.arrays.map fun a=>(a.name,(a.size:Int))) p.funcs:=by
 unfold encPr Chk.encPrG
 rw[List.map_map]
 rfl
attribute [local irreducible] LOps LCode LStep LCalls Go.GL.Pure QThen QBlock RetPost LQ LAny LLate LLateOp LS
section
variable {B0:Nat} {w0:World}
theorem checkPr_spec {p:Pr} {n:Nat} (h:SzP p n) (hn:n≤2000000):LCalls (KC B0 w0) 25 [encPr p] [] (fun r H=>H=[]∧∃ nm,r=.ret (.tuple [str nm,int .i64 (checkPr p)])):=by
 rw[encPr_eq]
 exact Chk.check_spec _ _ _ (Nat.le_trans h.vars hn) (by rw[List.length_map];exact Nat.le_trans h.arrays hn) (fun a ha=>by
  obtain ⟨x,hx,rfl⟩:=List.mem_map.1 ha
  have:=h.size x hx
  constructor
  ·show (-9223372036854775808:Int)≤(x.size:Int)
   omega
  ·show (x.size:Int)<9223372036854775808
   omega) (Nat.le_trans h.funcs hn)
theorem source_spec (hG:GW B0 w0) (s:List UInt8) (hs:s.length≤60000) {inp:List Nat} (hin:∀ v∈inp,Lt v) (steps:Int) :
  LCalls (KC B0 w0) 13 [str s,.list (inp.map u32),int .i64 steps] [] (Ret (encO (sourceI s inp steps))):=by
 obtain ⟨l,hP,hsz⟩:=parse_both hs
 have hps:=parse_spec hG s zo
 rw[hP] at hps
 unfold sourceI
 generalize hp:(parseQ s).1=p at hps hsz ⊢
 generalize he:(parseQ s).2=er at hps ⊢
 have hs6:s.length≤2000000:=by omega
 have hchk:=checkPr_spec (B0:=B0) (w0:=w0) hsz hs6
 refine cI Tryz.func13 rfl (n:=35) rfl rfl rfl ?_
 refine gag ?_
 refine oS (S.alloc fun b6=>?_) rfl
 refine gat ?_
 refine oS (S.fn [_] rfl hps ?_) rfl
 unfold encParse
 refine gab ?_
 refine oS (S.alloc fun b7=>?_) rfl
 refine gaa ?_
 by_cases hc0:er=0
 rotate_left
 ·rw[if_pos hc0]
  refine oC rfl (fun hc=>?_) (fun hc=>?_)
  ·refine gaa ?_
   exact retRet rfl (rC (rA rfl zm0 rfl zsr) rN) rfl
  ·have h2:(!decide (er=0))=false:=hc
   simp at h2
   exact absurd h2 hc0
 refine oC rfl (fun hc=>?_) (fun _=>?_)
 ·have h2:(!decide (er=0))=true:=hc
  simp[hc0] at h2
 rw[if_neg (by simpa using hc0)]
 refine gaa ?_
 refine oS (S.callH (H1:=[]) (F:=[_,_]) [_] rfl zpr hchk ?_ (by rintro ch H' ⟨_,nm,h⟩;cases h)) rfl
 rintro lv H' ⟨rfl,nm,h⟩
 cases h
 refine gaa ?_
 by_cases hc1:checkPr p=0
 rotate_left
 ·rw[if_pos hc1]
  refine oC rfl (fun hc=>?_) (fun hc=>?_)
  ·refine gaa ?_
   exact retRet rfl (rC (rA rfl zm0 rfl zsr) rN) rfl
  ·have h2:(!decide (checkPr p=0))=false:=hc
   simp at h2
   exact absurd h2 hc1
 refine oC rfl (fun hc=>?_) (fun _=>?_)
 ·have h2:(!decide (checkPr p=0))=true:=hc
  simp[hc1] at h2
 rw[if_neg (by simpa using hc1)]
 have hq:runQ p inp steps=limitI p inp steps:=by unfold runQ;rw[if_pos hc1]
 have hrun:=run_spec (B0:=B0) (w0:=w0) (hsz.small hs6) hsz.nums hchk hin steps
 rw[hq] at hrun
 refine gaa ?_
 refine oS (S.fn [_,_,_] rfl hrun ?_) rfl
 refine gab ?_
 exact retRet rfl (rC (rA rfl zm0 rfl zsr) rN) rfl
end
end Go.Proofs.YtcbpcianefpniaaGreatDoor.Inp
namespace Go.GL
open Go.RowKit
class TOut (P:Program) (t:TypeId):Prop where
 und:P.underlying t=some (.struct (P.fieldsOf t))
 apart:P.stoodInHeld t=false
 guard:P.eqGuardType P.depth t=false
 fields : ∃ f0 f1 f2 : Field, (P.fieldsOf t).toList = [f0, f1, f2] ∧ (f0.name ≠ "_" ∧ f0.offset = 0 ∧ P.underlying f0.type = some .string) ∧ (f1.name ≠ "_" ∧ f1.offset = 1 ∧ P.underlying f1.type = some (.int .i64)) ∧ (f2.name ≠ "_" ∧ f2.offset = 2 ∧ P.underlying f2.type = some (.int .i64))
def chkStrF (P : Program) (f : Field) (o : Nat) : Bool := f.name != "_" && f.offset == o && (match P.underlying f.type with | some .string => true | _ => false)
def chkI64 (P : Program) (f : Field) (o : Nat) : Bool := f.name != "_" && f.offset == o && (match P.underlying f.type with | some (.int .i64) => true | _ => false)
def chkOut (P:Program) (t:TypeId):Bool:=(match P.underlying t with|some (.struct _)=>true|_=>false) && !P.stoodInHeld t && !P.eqGuardType P.depth t && (match (P.fieldsOf t).toList with|[f0,f1,f2]=>chkStrF P f0 0 && chkI64 P f1 1 && chkI64 P f2 2|_=>false)
theorem chkStrF_of {P : Program} {f : Field} {o : Nat} (h : chkStrF P f o = true) : f.name ≠ "_" ∧ f.offset = o ∧ P.underlying f.type = some .string := by
 unfold chkStrF at h
 simp only[Bool.and_eq_true,bne_iff_ne,beq_iff_eq] at h
 obtain ⟨⟨h1,h2⟩,h3⟩:=h
 refine ⟨h1,h2,?_⟩
 split at h3
 ·assumption
 ·cases h3
theorem chkI64_of {P : Program} {f : Field} {o : Nat} (h : chkI64 P f o = true) : f.name ≠ "_" ∧ f.offset = o ∧ P.underlying f.type = some (.int .i64) := by
 unfold chkI64 at h
 simp only[Bool.and_eq_true,bne_iff_ne,beq_iff_eq] at h
 obtain ⟨⟨h1,h2⟩,h3⟩:=h
 refine ⟨h1,h2,?_⟩
 split at h3
 ·assumption
 ·cases h3
theorem TOut.of {P:Program} {t:TypeId} (h:chkOut P t=true):TOut P t:=by
 unfold chkOut at h
 simp only[Bool.and_eq_true,Bool.not_eq_true'] at h
 obtain ⟨⟨⟨h1,h2⟩,h3⟩,h4⟩:=h
 refine ⟨?_,h2,h3,?_⟩
 ·split at h1
  ·rename_i fs hu
   rw[hu]
   simp[Program.fieldsOf,hu]
  ·cases h1
 ·split at h4
  ·rename_i f0 f1 f2 hf
   simp only[Bool.and_eq_true] at h4
   exact ⟨f0,f1,f2,hf,chkStrF_of h4.1.1,chkI64_of h4.1.2,chkI64_of h4.2⟩
  ·cases h4
theorem run_part_of {P:Program} {t:TypeId} {d:TypeDesc} (hu:P.underlying t=some d) (hp:d=.string∨d=.int .i64) {xs:Array Value} {off:Nat} {v:Value} (hx:xs[off]? = some v) (w:World):(part t xs off).run P w=.ok v w:=
 run_part_plain w (by rcases hp with rfl|rfl <;> simp[Program.plainKey,hu]) hx
theorem run_eqStr {P:Program} {t:TypeId} (hu:P.underlying t=some .string) (d:Nat) (a b:List UInt8) (w:World):(Op.equalIn (d+1) t (.string ⟨a.toArray⟩) (.string ⟨b.toArray⟩)).run P w=.ok (decide (a=b)) w:=by
 simp only[Op.equalIn,Sem.run_bind,run_underlying' hu,Result.andThen_ok,Sem.run_pure]
 rw[beq_toListBytes,ByteArray.toList_eq,ByteArray.toList_eq]
 congr 1
 by_cases h:a=b <;> simp[h]
theorem run_eqInt {P:Program} {t:TypeId} (hu:P.underlying t=some (.int .i64)) (d:Nat) (a b:Int) (w:World):(Op.equalIn (d+1) t (.int .i64 a) (.int .i64 b)).run P w=.ok (decide (a=b)) w:=by
 simp only[Op.equalIn,Sem.run_bind,run_underlying' hu,Result.andThen_ok,Sem.run_pure,if_true]
 congr 1
theorem run_eqOut {P:Program} {t:TypeId} [h:TOut P t] (a b:List UInt8) (x y u v:Int) (w:World) :
  (Op.equal t (.agg #[.string ⟨a.toArray⟩,.int .i64 x,.int .i64 u]) (.agg #[.string ⟨b.toArray⟩,.int .i64 y,.int .i64 v])).run P w=.ok (decide (a=b∧x=y∧u=v)) w:=by
 obtain ⟨f0,f1,f2,hf,⟨n0,o0,u0⟩,⟨n1,o1,u1⟩,⟨n2,o2,u2⟩⟩:=h.fields
 rw[equal_step,run_equalIn_struct w 9999 t _ _ h.und h.apart,hf]
 have p0:∀ (s:List UInt8) (i j:Int),(part f0.type #[.string ⟨s.toArray⟩,.int .i64 i,.int .i64 j] f0.offset).run P w=.ok (.string ⟨s.toArray⟩) w:=fun s i j=>run_part_of u0 (.inl rfl) (by rw[o0];rfl) w
 have p1:∀ (s:List UInt8) (i j:Int),(part f1.type #[.string ⟨s.toArray⟩,.int .i64 i,.int .i64 j] f1.offset).run P w=.ok (.int .i64 i) w:=fun s i j=>run_part_of u1 (.inr rfl) (by rw[o1];rfl) w
 have p2:∀ (s:List UInt8) (i j:Int),(part f2.type #[.string ⟨s.toArray⟩,.int .i64 i,.int .i64 j] f2.offset).run P w=.ok (.int .i64 j) w:=fun s i j=>run_part_of u2 (.inr rfl) (by rw[o2];rfl) w
 have e0:=run_eqStr u0 9998 a b w
 have e1:=run_eqInt u1 9998 x y w
 have e2:=run_eqInt u2 9998 u v w
 have q1:∀ a b:Int,(Op.equalIn 9999 f1.type (.int .i64 a) (.int .i64 b)).run P w=.ok (decide (a=b)) w:=fun a b=>run_eqInt u1 9998 a b w
 have q2:∀ a b:Int,(Op.equalIn 9999 f2.type (.int .i64 a) (.int .i64 b)).run P w=.ok (decide (a=b)) w:=fun a b=>run_eqInt u2 9998 a b w
 have q0:(Op.equalIn 9999 f0.type (.string ⟨a.toArray⟩) (.string ⟨b.toArray⟩)).run P w=.ok (decide (a=b)) w:=run_eqStr u0 9998 a b w
 simp only[Op.eqFields,n0,n1,n2,ne_eq,not_false_eq_true,if_true,Sem.run_bind,p0,q0,Result.andThen_ok]
 by_cases ha:a=b
 ·simp only[ha,decide_true,Bool.not_true,Bool.false_eq_true,if_false,Sem.run_bind,p1,q1,Result.andThen_ok,true_and]
  by_cases hx:x=y
  ·simp only[hx,decide_true,Bool.not_true,Bool.false_eq_true,if_false,Sem.run_bind,p2,q2,Result.andThen_ok,true_and]
   by_cases hu:u=v
   ·simp[hu]
   ·simp[hu]
  ·simp[hx]
 ·simp[ha]
section
variable {C:Ctx} {e:Env} {H:Heap} {dst:Option Nat} {ty:TypeId} {pos:String} {aft:Array Edge} {g:Option (Nat×Bool)} {x y:Operand}
theorem agg_of {ρ:Operand→Value} {w:World} {L:Live} (h:∀ x,Rep w L (e.ev x) (ρ x)) {x:Operand} {a:List UInt8} {i j:Int} (hx:e.ev x=.agg [str a,int .i64 i,int .i64 j]):ρ x=.agg #[.string ⟨a.toArray⟩,.int .i64 i,.int .i64 j]:=by
 have hv:=h x
 rw[hx] at hv
 simp only[Rep,RepL,str,int] at hv
 obtain ⟨vs,h1,v0,r0,e0,rfl,v1,r1,e1,rfl,v2,r2,e2,rfl,e3⟩:=hv
 rw[h1,e0,e1,e2,e3]
theorem Pure.eqOut {t yT:TypeId} [h:TOut C.P t] {a b:List UInt8} {i j k l:Int} (hx:e.ev x=.agg [str a,int .i64 i,int .i64 j]) (hy:e.ev y=.agg [str b,int .i64 k,int .i64 l]) :
  Pure C ⟨dst,.binOp .eql t x y yT,ty,pos,aft,g⟩ e H (bool (decide (a=b∧i=k∧j=l))):=
 .of_any fun ρ _ _ hr=>⟨_,rep_atom,fun w'=>by
  have h1:=agg_of hr hx
  have h2:=agg_of hr hy
  have he:(eqGuard .eql t x y (.agg #[.string ⟨a.toArray⟩,.int .i64 i,.int .i64 j]) (.agg #[.string ⟨b.toArray⟩,.int .i64 k,.int .i64 l])).run C.P w'=.ok () w':=by
   simp[eqGuard,h.guard]
  have hb:binOp .eql t (.agg #[.string ⟨a.toArray⟩,.int .i64 i,.int .i64 j]) (.agg #[.string ⟨b.toArray⟩,.int .i64 k,.int .i64 l])=(do Pure.pure (.bool (←Op.equal t (.agg #[.string ⟨a.toArray⟩,.int .i64 i,.int .i64 j]) (.agg #[.string ⟨b.toArray⟩,.int .i64 k,.int .i64 l])))):=rfl
  simp only[execOp,h1,h2,he,hb,Sem.run_bind,Sem.run_pure,Result.andThen_ok,run_eqOut]⟩
theorem Pure.eqOutT {t yT:TypeId} [h:TOut C.P t] {a b:List UInt8} {i j k l:Int} (hx:e.ev x=.agg [str a,int .i64 i,int .i64 j]) (hy:e.ev y=.agg [str b,int .i64 k,int .i64 l]) (h1:a=b) (h2:i=k) (h3:j=l) :
  Pure C ⟨dst,.binOp .eql t x y yT,ty,pos,aft,g⟩ e H (bool true):=by
 have:=Pure.eqOut (C:=C) (H:=H) (dst:=dst) (ty:=ty) (pos:=pos) (aft:=aft) (g:=g) (t:=t) (yT:=yT) hx hy
 rwa [decide_eq_true ⟨h1,h2,h3⟩] at this
end
theorem LCalls.argsSub {C:Ctx} {f:FuncId} {us bs:List LV} {H:Heap} {R:LRes→Heap→Prop} (hs:SubL us bs) (h:LCalls C f bs H R):LCalls C f us H R:=fun vs w L hr hH=>h vs w L (hs.repL hr) hH
end Go.GL
namespace Go.Proofs.YtcbpcianefpniaaGreatDoor.Inp
open Go.GL Go.RowKit Go.Stele
set_option maxRecDepth 100000
set_option maxHeartbeats 4000000
instance:TOut Tryz.prog 27:=.of zk
attribute [local irreducible] LOps LCode LStep LCalls Go.GL.Pure QThen QBlock RetPost LQ LAny LLate LLateOp LS
section
variable {B0:Nat} {w0:World}
theorem source_nil (hG:GW B0 w0) (s:List UInt8) (hs:s.length≤60000) (steps:Int):LCalls (KC B0 w0) 13 [str s,nilSlice,int .i64 steps] [] (Ret (encO (sourceI s [] steps))):=
 LCalls.argsSub (bs:=[str s,.list (([]:List Nat).map u32),int .i64 steps]) ⟨LV.Sub.refl _,LV.Sub.nil,LV.Sub.refl _,trivial⟩ (source_spec hG s hs (by simp) steps)
theorem awake_spec (hG:GW B0 w0):LCalls (KC B0 w0) 12 [] [] (Ret (bool true)):=by
 have h:=source_nil hG awakeS (by decide) 100
 rw[awake_law] at h
 refine cI Tryz.func12 rfl (n:=6) rfl rfl rfl ?_
 refine gai ?_
 refine oS (S.fn [_,_,_] rfl h ?_) rfl
 refine oS (S.alloc fun b1=>?_) rfl
 refine gaa ?_
 refine oP (Pure.eqOutT (a:=[42]) (b:=[42]) (i:=0) (k:=0) (j:=5) (l:=5) rfl rfl rfl rfl rfl) rfl ?_
 refine gaf ?_
 exact retRet rfl (zra rfl) rfl
end
end Go.Proofs.YtcbpcianefpniaaGreatDoor.Inp
