/- Texts joined: RC2, RC3, RC4, RC5, RC6, RC7, RC8, RC9, ChkW8, ChkW9. -/
import Derived.Test.YtcbpcianefpniaaGreatDoorBRowIR3
import Derived.Test.YtcbpcianefpniaaGreatDoorBRowIR6
set_option linter.unusedVariables false
set_option linter.unusedSimpArgs false
namespace Go.Proofs.YtcbpcianefpniaaGreatDoor.RC
open Go.GL Go.RowKit Go.Stele
set_option maxRecDepth 100000
set_option maxHeartbeats 4000000
def scV (own:Nm) (c:CEnv) (fs:List FnD):LV:=.agg [str own,.list (c.own.map str),.list (c.vars.map str),.list (c.arrays.map str),.list (fs.map encFn),.list (c.later.map str)]
structure ScOk (c:CEnv) (fs:List FnD):Prop where
 fns:c.funcs.map (fun s=>(s.name,s.params))=fs.map (fun f=>(f.name,f.params.length))
 own:c.own.length≤1000000000
 vars:c.vars.length≤1000000000
 arrays:c.arrays.length≤1000000000
 later:c.later.length≤1000000000
 funs:fs.length≤1000000000
 pars:∀ f∈fs,f.params.length≤1000000000
def PostB (e:Int) (r:LRes) (H:Heap):Prop:=H=[]∧∃ nm,r=.ret (.agg [str nm,int .i64 e])
def FnIx (c:CEnv) (fs:List FnD) (name:Nm) (i:Int):Prop:=(∃ s pre f post,c.fn name=some s∧fs=pre++f::post∧i=(pre.length:Int)∧s.params=f.params.length)∨(c.fn name=none∧i = -1)
section
variable {C:Ctx} {n:Nat} {e:Env} {H:Heap} {dst:Option Nat} {ty:TypeId} {pos:String} {aft:Array Edge} {g:Option (Nat×Bool)} {K:LV→Heap→Prop} {X:List PanicEntry→Heap→Prop}
theorem S.pb {f:FuncId} [TEnter C.P f] (args:List Operand) {ats:Array TypeId} {avs:List LV} {er:Int} (has:args.map e.ev=avs) (hc:LCalls C f avs [] (PostB er)) (hk:∀ nm,K (.agg [str nm,int .i64 er]) H) :
  LStep C ⟨dst,.call { callee:=.value (.func f),args:=args.toArray,argTypes:=ats },ty,pos,aft,g⟩ e H K X:=
 S.callH (H1:=[]) args has zpr hc (by rintro v H' ⟨rfl,nm,h⟩;cases h;exact hk nm) (by rintro ch H' ⟨_,nm,h⟩;cases h)
theorem retB {rs:List ResultVar} {vs:List LV} {nm:Nm} {er:Int} (hd:e.ds=[]) (h:AllRes C n e H rs vs) (hv:resLV vs=.agg [str nm,int .i64 er]):RetPost C n rs (PostB er) .ret e H:=
 rR hd h zhn ⟨rfl,nm,by rw[hv]⟩
end
attribute [local irreducible] LOps LCode LStep LCalls Go.GL.Pure QThen QBlock RetPost LQ LAny LLate LLateOp LS
section
variable {B0:Nat} {w0:World}
theorem Binary_spec (op:Nm):LCalls (KC B0 w0) 185 [str op] [] (Ret (int .i64 (b01 (decide (op∈binOps))))):=by
 refine cI Tryz.func185 rfl (n:=6) rfl rfl rfl ?_
 refine ga2 ?_
 refine oS (S.lit (es:=binOps.map str) [_,_,_,_,_,_,_,_,_,_,_,_,_,_] rfl (by
  intro v hv
  obtain ⟨x,_,rfl⟩:=List.mem_map.1 hv
  exact ⟨rfl,rfl⟩) rfl rfl rfl ?_) rfl
 refine gaz ?_
 refine oS (S.fn [_,_] rfl (has_spec binOps op (by decide)) ?_) rfl
 refine gap ?_
 refine oC rfl (fun hc=>?_) (fun hc=>?_)
 ·refine gau ?_
  exact retRet rfl (zra rfl) (by rw[show decide (op∈binOps)=true from hc];rfl)
 ·refine gab ?_
  exact retRet rfl (zra rfl) (by rw[show decide (op∈binOps)=false from hc];rfl)
theorem shape_spec (x:Ex):LCalls (KC B0 w0) 153 [encE x] [] (Ret (bool (decide (opnds (exOp x) = -1∨opnds (exOp x)=((exArgs x).length:Int))))):=by
 obtain ⟨op,num,name,args⟩:=x
 have hlen:((args.map encE).length:Int)=(args.length:Int):=by rw[List.length_map]
 rw[encE_mk]
 show LCalls _ _ _ _ (Ret (bool (decide (opnds op = -1∨opnds op=(args.length:Int)))))
 generalize hI:decide (opnds op = -1∨opnds op=(args.length:Int))=R
 refine cI Tryz.func153 rfl (n:=32) rfl rfl rfl ?_
 refine gai ?_
 refine oS (S.box rfl fun b1=>?_) rfl
 refine gab ?_
 by_cases h1:op=[110,117,109]
 ·subst h1
  refine oC rfl (fun _=>?_) (fun hc=>by cases hc)
  refine gas ?_
  refine oC rfl (fun _=>?_) (fun hc=>by cases hc)
  refine gaa ?_
  exact retRet rfl (zra rfl) (bool_eq (by rw[←hI,hlen];exact decide_eq_decide.2 (by rw[show opnds [110,117,109]=0 from rfl];omega)))
 refine oC rfl (fun hc=>absurd (zt hc) h1) (fun _=>?_)
 refine gaj ?_
 by_cases h2:op=[118,97,114]
 ·subst h2
  refine oC rfl (fun _=>?_) (fun hc=>by cases hc)
  refine gaa ?_
  exact retRet rfl (zra rfl) (bool_eq (by rw[←hI,hlen];exact decide_eq_decide.2 (by rw[show opnds [118,97,114]=0 from rfl];omega)))
 refine oC rfl (fun hc=>absurd (zt hc) h2) (fun _=>?_)
 refine gaj ?_
 by_cases h3:op=[101,108,101,109]
 ·subst h3
  refine oC rfl (fun _=>?_) (fun hc=>by cases hc)
  refine gas ?_
  refine oC rfl (fun _=>?_) (fun hc=>by cases hc)
  refine gaa ?_
  exact retRet rfl (zra rfl) (bool_eq (by rw[←hI,hlen];exact decide_eq_decide.2 (by rw[show opnds [101,108,101,109]=1 from rfl];omega)))
 refine oC rfl (fun hc=>absurd (zt hc) h3) (fun _=>?_)
 refine gaj ?_
 by_cases h4:op=[110,101,103]
 ·subst h4
  refine oC rfl (fun _=>?_) (fun hc=>by cases hc)
  refine gas ?_
  refine oC rfl (fun _=>?_) (fun hc=>by cases hc)
  refine gaa ?_
  exact retRet rfl (zra rfl) (bool_eq (by rw[←hI,hlen];exact decide_eq_decide.2 (by rw[show opnds [110,101,103]=1 from rfl];omega)))
 refine oC rfl (fun hc=>absurd (zt hc) h4) (fun _=>?_)
 refine gaj ?_
 by_cases h5:op=[110,111,116]
 ·subst h5
  refine oC rfl (fun _=>?_) (fun hc=>by cases hc)
  refine gaa ?_
  exact retRet rfl (zra rfl) (bool_eq (by rw[←hI,hlen];exact decide_eq_decide.2 (by rw[show opnds [110,111,116]=1 from rfl];omega)))
 refine oC rfl (fun hc=>absurd (zt hc) h5) (fun _=>?_)
 refine gaj ?_
 by_cases h6:op=[99,97,108,108]
 ·subst h6
  refine oC rfl (fun _=>?_) (fun hc=>by cases hc)
  refine ga1 ?_
  exact retRet rfl (zra rfl) (bool_eq (by rw[←hI];exact (decide_eq_true (.inl rfl)).symm))
 refine oC rfl (fun hc=>absurd (zt hc) h6) (fun _=>?_)
 refine gab ?_
 refine oS (S.fn [_] rfl (Binary_spec op) ?_) rfl
 have ho:opnds op=if op∈binOps then 2 else -2:=by
  unfold opnds
  rw[if_neg (fun h=>h.elim h1 h2),if_neg (fun h=>h.elim h3 (fun h=>h.elim h4 h5)),if_neg (show ¬ op=nCall from h6)]
 by_cases h7:op∈binOps
 ·rw[if_pos h7] at ho
  rw[decide_eq_true h7]
  refine gac ?_
  exact retRet rfl (zra rfl) (bool_eq (by rw[←hI,hlen];exact decide_eq_decide.2 (by rw[ho];omega)))
 ·rw[if_neg h7] at ho
  rw[decide_eq_false h7]
  refine gad ?_
  exact retRet rfl (zra rfl) (bool_eq (by rw[←hI];exact (decide_eq_false (by rw[ho];omega)).symm))
theorem fn_cons {c:CEnv} {name:Nm} {s:FSum} {l:List FSum}:(s::l).find? (fun f=>decide (f.name=name))=if s.name=name then some s else l.find? (fun f=>decide (f.name=name)):=by
 rw[List.find?_cons]
 by_cases h:s.name=name
 ·rw[decide_eq_true h,if_pos h]
 ·rw[decide_eq_false h,if_neg h]
theorem function_spec {own:Nm} {c:CEnv} {fs:List FnD} (h:ScOk c fs) (name:Nm):LCalls (KC B0 w0) 186 [scV own c fs,str name] [] (RetIf fun v=>∃ i,v=int .i64 i∧FnIx c fs name i):=by
 unfold scV
 refine cI Tryz.func186 rfl (n:=21) rfl rfl rfl ?_
 refine gai ?_
 refine oS (S.box rfl fun b2=>?_) rfl
 refine gaa ?_
 refine oL (fun k ls H'=>∃ (pre l1:List FnD) (cl:List FSum),fs=pre++l1∧k=l1.length∧ls=[(1,str name),(8,.list (fs.map encFn)),(9,int .i64 ((fs.map encFn).length:Int)),(10,int .i64 (pre.length:Int))]∧H'=[]∧cl.map (fun s=>(s.name,s.params))=l1.map (fun f=>(f.name,f.params.length))∧c.fn name=cl.find? (fun f=>decide (f.name=name)))
  ⟨_,_,_,⟨[],fs,c.funcs,rfl,rfl,rfl,rfl,h.fns,rfl⟩,⟨rfl,rfl,rfl,rfl,trivial⟩,HSub.nil _⟩ ?_
 rintro k ls H' ⟨pre,l1,cl,hL,rfl,rfl,rfl,hcl,hI⟩ j hj
 have hb:=pre_le hL h.funs
 refine gak ?_
 refine oC rfl (fun hc=>?_) (fun hc=>?_)
 ·obtain ⟨a,l2,rfl⟩:=more hL hc
  obtain ⟨s,cl,rfl⟩:∃ s l,cl=s::l:=by
   cases cl with
   |nil=>simp at hcl
   |cons s l=>exact ⟨s,l,rfl⟩
  rw[List.map_cons,List.map_cons] at hcl
  injection hcl with hs hcl
  injection hs with hs1 hs2
  rw[fn_cons (c:=c)] at hI
  refine gab ?_
  refine oP (xR (el':=encFn a) (cs:=[_,_,_,_]) rfl rfl zo (by rw[hL];exact get_mid encFn pre a l2) rfl rfl) rfl ?_
  refine ga3 ?_
  refine oS (S.alloc fun b6=>?_) rfl
  refine gaa ?_
  refine oC rfl (fun hd=>?_) (fun hd=>?_)
  ·have he:a.name=name:=zt hd
   rw[if_pos (hs1.trans he)] at hI
   refine gab ?_
   exact retRetIf hj (zra rfl) ⟨_,rfl,.inl ⟨s,pre,a,l2,hI,hL,rfl,hs2⟩⟩
  ·have he:¬ a.name=name:=zf hd
   rw[if_neg (fun g=>he (hs1.symm.trans g))] at hI
   refine gab ?_
   exact ⟨l2.length,_,_,Nat.lt_succ_self _,⟨pre++[a],l2,cl,snoc hL,rfl,rfl,rfl,hcl,hI⟩,⟨rfl,rfl,rfl,int_eq (by simp),trivial⟩,HSub.nil _,hj⟩
 ·obtain rfl:=none_left hL hc
  have hcl0:cl=[]:=by
   cases cl with
   |nil=>rfl
   |cons s l=>simp at hcl
  subst hcl0
  refine gab ?_
  exact retRetIf hj (zra rfl) ⟨_,rfl,.inr ⟨hI,rfl⟩⟩
theorem scalar_spec {own:Nm} {c:CEnv} {fs:List FnD} (h:ScOk c fs) (name:Nm):LCalls (KC B0 w0) 103 [scV own c fs,str name] [] (PostB (scalarE c name)):=by
 unfold scV
 generalize hI:scalarE c name=R
 unfold scalarE CEnv.globals at hI
 refine cI Tryz.func103 rfl (n:=30) rfl rfl rfl ?_
 refine gai ?_
 refine oS (S.box rfl fun b2=>?_) rfl
 refine oS (S.alloc fun b4=>?_) rfl
 refine gaa ?_
 refine oS (S.fn [_,_] rfl (has_spec c.own name h.own) ?_) rfl
 refine gaz ?_
 by_cases h1:name∈c.own
 ·rw[if_pos (.inr h1)] at hI
  refine oB 9 rfl (fun _=>?_) (fun g=>absurd h1 (zf g))
  refine gad ?_
  refine oC rfl (fun _=>?_) (fun hc=>by cases hc)
  refine gaa ?_
  exact retB (nm:=[]) rfl (rC (rA rfl zm0 rfl zsr) rN) (by rw[←hI];rfl)
 refine oB 9 rfl (fun g=>absurd (zt g) h1) (fun _=>?_)
 refine gac ?_
 refine oS (S.fn [_,_] rfl (has_spec c.vars name h.vars) ?_) rfl
 refine gag ?_
 refine oC rfl (fun h2=>?_) (fun h2=>?_)
 ·rw[if_pos (.inl (zt h2))] at hI
  refine gaa ?_
  exact retB (nm:=[]) rfl (rC (rA rfl zm0 rfl zsr) rN) (by rw[←hI];rfl)
 have h2':name ∉ c.vars:=zf h2
 rw[if_neg (fun g=>g.elim h2' h1)] at hI
 simp only[List.mem_append,h2',false_or] at hI
 refine gaa ?_
 refine oS (S.fn [_,_] rfl (has_spec c.arrays name h.arrays) ?_) rfl
 refine gaz ?_
 by_cases h3:name∈c.arrays
 ·rw[if_pos (.inl h3)] at hI
  refine oB 20 rfl (fun _=>?_) (fun g=>absurd h3 (zf g))
  refine gad ?_
  refine oC rfl (fun _=>?_) (fun hc=>by cases hc)
  refine gaa ?_
  exact retB (nm:=name) rfl (rC (rA rfl zm0 rfl zsr) rN) (by rw[←hI];rfl)
 refine oB 20 rfl (fun g=>absurd (zt g) h3) (fun _=>?_)
 refine gac ?_
 refine oS (S.fn [_,_] rfl (has_spec c.later name h.later) ?_) rfl
 refine gag ?_
 refine oC rfl (fun h4=>?_) (fun h4=>?_)
 ·rw[if_pos (.inr (zt h4))] at hI
  refine gaa ?_
  exact retB (nm:=name) rfl (rC (rA rfl zm0 rfl zsr) rN) (by rw[←hI];rfl)
 ·rw[if_neg (fun g=>g.elim h3 (zf h4))] at hI
  refine gaa ?_
  exact retB (nm:=name) rfl (rC (rA rfl zm0 rfl zsr) rN) (by rw[←hI];rfl)
theorem indexed_spec {own:Nm} {c:CEnv} {fs:List FnD} (h:ScOk c fs) (name:Nm):LCalls (KC B0 w0) 104 [scV own c fs,str name] [] (PostB (arrayE c name)):=by
 unfold scV
 generalize hI:arrayE c name=R
 unfold arrayE CEnv.globals at hI
 refine cI Tryz.func104 rfl (n:=30) rfl rfl rfl ?_
 refine gai ?_
 refine oS (S.box rfl fun b2=>?_) rfl
 refine oS (S.alloc fun b4=>?_) rfl
 refine gaa ?_
 refine oS (S.fn [_,_] rfl (has_spec c.arrays name h.arrays) ?_) rfl
 refine gap ?_
 refine oC rfl (fun h1=>?_) (fun h1=>?_)
 ·rw[if_pos (zt h1)] at hI
  refine gaa ?_
  exact retB (nm:=[]) rfl (rC (rA rfl zm0 rfl zsr) rN) (by rw[←hI];rfl)
 have h1':name ∉ c.arrays:=zf h1
 rw[if_neg h1'] at hI
 simp only[List.mem_append,h1',or_false] at hI
 refine gaa ?_
 refine oS (S.fn [_,_] rfl (has_spec c.own name h.own) ?_) rfl
 refine gaz ?_
 by_cases h2:name∈c.own
 ·rw[if_pos (.inr h2)] at hI
  refine oB 14 rfl (fun _=>?_) (fun g=>absurd h2 (zf g))
  refine gad ?_
  refine oC rfl (fun _=>?_) (fun hc=>by cases hc)
  refine gaa ?_
  exact retB (nm:=name) rfl (rC (rA rfl zm0 rfl zsr) rN) (by rw[←hI];rfl)
 refine oB 14 rfl (fun g=>absurd (zt g) h2) (fun _=>?_)
 refine gac ?_
 refine oS (S.fn [_,_] rfl (has_spec c.vars name h.vars) ?_) rfl
 refine gag ?_
 by_cases h3:name∈c.vars
 ·rw[if_pos (.inl (.inl h3))] at hI
  refine oB 20 rfl (fun _=>?_) (fun g=>absurd h3 (zf g))
  refine gad ?_
  refine oC rfl (fun _=>?_) (fun hc=>by cases hc)
  refine gaa ?_
  exact retB (nm:=name) rfl (rC (rA rfl zm0 rfl zsr) rN) (by rw[←hI];rfl)
 refine oB 20 rfl (fun g=>absurd (zt g) h3) (fun _=>?_)
 refine gac ?_
 refine oS (S.fn [_,_] rfl (has_spec c.later name h.later) ?_) rfl
 refine gag ?_
 refine oC rfl (fun h4=>?_) (fun h4=>?_)
 ·rw[if_pos (.inl (.inr (zt h4)))] at hI
  refine gaa ?_
  exact retB (nm:=name) rfl (rC (rA rfl zm0 rfl zsr) rN) (by rw[←hI];rfl)
 ·rw[if_neg (fun g=>g.elim (fun g=>g.elim h3 (zf h4)) h2)] at hI
  refine gaa ?_
  exact retB (nm:=name) rfl (rC (rA rfl zm0 rfl zsr) rN) (by rw[←hI];rfl)
end
end Go.Proofs.YtcbpcianefpniaaGreatDoor.RC
namespace Go.Proofs.YtcbpcianefpniaaGreatDoor.RC
open Go.GL Go.RowKit Go.Stele
set_option maxRecDepth 100000
set_option maxHeartbeats 4000000
@[reducible] def scH (b:Nat) (own:Nm) (c:CEnv) (fs:List FnD):Nat×LObj:=(b,.cells 121 [str own,.list (c.own.map str),.list (c.vars.map str),.list (c.arrays.map str),.list (fs.map encFn),.list (c.later.map str)])
@[reducible] def exH (b:Nat) (op:Nm) (num:Nat) (name:Nm) (args:List Ex):Nat×LObj:=(b,.cells 170 [str op,int .u32 (num:Int),str name,.list (args.map encE)])
@[reducible] def pbH (b:Nat) (nm:Nm) (e:Int):Nat×LObj:=(b,.cells 117 [str nm,int .i64 e])
theorem ite_iff {p q:Prop} [Decidable p] [Decidable q] {a b:Int} (h:p ↔ q) (_:a=a) (_:b=b):(if p then a else b)=if q then a else b:=by
 by_cases hp:p
 ·rw[if_pos hp,if_pos (h.1 hp)]
 ·rw[if_neg hp,if_neg fun hq=>hp (h.2 hq)]
attribute [local irreducible] LOps LCode LStep LCalls Go.GL.Pure QThen QBlock RetPost LQ LAny LLate LLateOp LS
section
variable {B0:Nat} {w0:World}
theorem called_spec {own:Nm} {c:CEnv} {fs:List FnD} (h:ScOk c fs) (op:Nm) (num:Nat) (name:Nm) (args:List Ex):LCalls (KC B0 w0) 154 [scV own c fs,encE (.mk op num name args)] [] (PostB (callE c name args.length)):=by
 have hlen:((args.map encE).length:Int)=(args.length:Int):=by rw[List.length_map]
 have hfun:=function_spec (B0:=B0) (w0:=w0) (own:=own) h name
 rw[encE_mk]
 unfold scV at hfun ⊢
 generalize hI:callE c name args.length=R
 unfold callE at hI
 refine cI Tryz.func154 rfl (n:=64) rfl rfl rfl ?_
 refine gai ?_
 refine oS (S.box rfl fun b2=>?_) rfl
 refine oS (S.box rfl fun b3=>?_) rfl
 refine oS (S.alloc fun b4=>?_) rfl
 refine gaa ?_
 refine oS (S.fnIf [_,_] rfl hfun ?_) rfl
 rintro lv ⟨i,rfl,hix⟩
 refine gay ?_
 refine LCode.mid (A:=Int) (fun w=>[(2,ptr b2 0),(3,ptr b3 0),(4,ptr b4 0),(5,int .i64 w)]) (fun _=>[pbH b4 [] 0,exH b3 op num name args,scH b2 own c fs]) (fun w=>R=if (args.length:Int)=w then 0 else 1) ?_ ?_
 ·refine gaa ?_
  by_cases h1:name=[105,110]
  ·subst h1
   rw[if_pos rfl] at hI
   refine oC rfl (fun _=>?_) (fun hc=>by cases hc)
   refine gad ?_
   exact ⟨0,by rw[←hI];exact ite_iff zo rfl rfl,⟨rfl,rfl,rfl,rfl,trivial⟩,rfl,rfl⟩
  rw[if_neg h1] at hI
  refine oC rfl (fun hc=>absurd (zt hc) h1) (fun _=>?_)
  refine gaa ?_
  by_cases h2:name=[111,117,116]
  ·subst h2
   rw[if_pos rfl] at hI
   refine oC rfl (fun _=>?_) (fun hc=>by cases hc)
   refine gab ?_
   exact ⟨1,by rw[←hI];exact ite_iff zo rfl rfl,⟨rfl,rfl,rfl,rfl,trivial⟩,rfl,rfl⟩
  rw[if_neg h2] at hI
  refine oC rfl (fun hc=>absurd (zt hc) h2) (fun _=>?_)
  refine gaa ?_
  rcases hix with ⟨s,pre,f,post,hfn,hfs,rfl,hp⟩|⟨hfn,rfl⟩
  ·rw[hfn] at hI
   have hI':(if args.length=s.params then (0:Int) else 1)=R:=hI
   refine oC rfl (fun _=>?_) (fun hc=>by have:=zf hc;omega)
   refine gaa ?_
   refine oP (xR (el':=encFn f) (cs:=[_,_,_,_]) rfl rfl zo (by rw[hfs];exact get_mid encFn pre f post) rfl rfl) rfl ?_
   refine gaf ?_
   exact ⟨((f.params.map str).length:Int),by rw[←hI',List.length_map,←hp];exact ite_iff zo rfl rfl,⟨rfl,rfl,rfl,rfl,trivial⟩,rfl,rfl⟩
  ·rw[hfn] at hI
   have hI':(if name∈c.vars∨name∈c.arrays∨name∈c.own then (10:Int) else 7)=R:=hI
   refine oC rfl (fun hc=>by cases hc) (fun _=>?_)
   refine gaa ?_
   refine oS (S.fn [_,_] rfl (has_spec c.own name h.own) ?_) rfl
   refine gaz ?_
   by_cases h3:name∈c.own
   ·rw[if_pos (.inr (.inr h3))] at hI'
    refine oB 38 rfl (fun _=>?_) (fun g=>absurd h3 (zf g))
    refine gad ?_
    refine oC rfl (fun _=>?_) (fun hc=>by cases hc)
    refine gaa ?_
    exact retB (nm:=name) rfl (rC (rA rfl zm0 rfl zsr) rN) (by rw[←hI'];rfl)
   refine oB 38 rfl (fun g=>absurd (zt g) h3) (fun _=>?_)
   refine gac ?_
   refine oS (S.fn [_,_] rfl (has_spec c.vars name h.vars) ?_) rfl
   refine gag ?_
   by_cases h4:name∈c.vars
   ·rw[if_pos (.inl h4)] at hI'
    refine oB 45 rfl (fun _=>?_) (fun g=>absurd h4 (zf g))
    refine gad ?_
    refine oC rfl (fun _=>?_) (fun hc=>by cases hc)
    refine gaa ?_
    exact retB (nm:=name) rfl (rC (rA rfl zm0 rfl zsr) rN) (by rw[←hI'];rfl)
   refine oB 45 rfl (fun g=>absurd (zt g) h4) (fun _=>?_)
   refine gac ?_
   refine oS (S.fn [_,_] rfl (has_spec c.arrays name h.arrays) ?_) rfl
   refine gag ?_
   refine oC rfl (fun h5=>?_) (fun h5=>?_)
   ·rw[if_pos (.inr (.inl (zt h5)))] at hI'
    refine gaa ?_
    exact retB (nm:=name) rfl (rC (rA rfl zm0 rfl zsr) rN) (by rw[←hI'];rfl)
   ·rw[if_neg (fun g=>g.elim h4 (fun g=>g.elim (zf h5) h3))] at hI'
    refine gaa ?_
    exact retB (nm:=name) rfl (rC (rA rfl zm0 rfl zsr) rN) (by rw[←hI'];rfl)
 intro w hw j hj
 refine gaa ?_
 refine oC rfl (fun hc=>?_) (fun hc=>?_)
 ·have h1:¬ (args.length:Int)=w:=by
   have h2:(!decide (((args.map encE).length:Int)=w))=true:=hc
   rw[hlen] at h2
   simpa using h2
  rw[if_neg h1] at hw
  refine gaa ?_
  exact retB (nm:=name) hj (rC (rA rfl zm0 rfl zsr) rN) (by rw[hw];rfl)
 ·have h1:(args.length:Int)=w:=by
   have h2:(!decide (((args.map encE).length:Int)=w))=false:=hc
   rw[hlen] at h2
   simpa using h2
  rw[if_pos h1] at hw
  refine gaa ?_
  exact retB (nm:=[]) hj (rC (rA rfl zm0 rfl zsr) rN) (by rw[hw];rfl)
def ExprH (B0:Nat) (w0:World) (own:Nm) (c:CEnv) (fs:List FnD) (n:Nat):Prop:=∀ x:Ex,ndE x≤n→LCalls (KC B0 w0) 102 [scV own c fs,encE x] [] (PostB (errE c x))
theorem expr_spec {own:Nm} {c:CEnv} {fs:List FnD} (h:ScOk c fs):∀ n:Nat,n≤100000000→ExprH B0 w0 own c fs n
 |0,_=>fun x h=>by have:=ndE_pos x;omega
 |n+1,hn6=>by
  have ih:=expr_spec (own:=own) h n zo
  intro x hnd
  obtain ⟨op,num,name,args⟩:=x
  rw[ndE] at hnd
  have hal:=ndEs_len args
  have hlen:(args.map encE).length=args.length:=List.length_map _
  have hsh:=shape_spec (B0:=B0) (w0:=w0) (.mk op num name args)
  have hsc:=scalar_spec (B0:=B0) (w0:=w0) (own:=own) h name
  have hix:=indexed_spec (B0:=B0) (w0:=w0) (own:=own) h name
  have hca:=called_spec (B0:=B0) (w0:=w0) (own:=own) h op num name args
  have ih':∀ x:Ex,ndE x≤n→LCalls (KC B0 w0) 102 [.agg [str own,.list (c.own.map str),.list (c.vars.map str),.list (c.arrays.map str),.list (fs.map encFn),.list (c.later.map str)],encE x] [] (PostB (errE c x)):=ih
  generalize hI:errE c (Ex.mk op num name args)=E
  rw[errE] at hI
  rw[encE_mk] at hsh hca ⊢
  unfold scV at hsc hix hca ⊢
  have hsh':LCalls (KC B0 w0) 153 [.agg [str op,int .u32 (num:Int),str name,.list (args.map encE)]] [] (Ret (bool (decide (opnds op = -1∨opnds op=(args.length:Int))))):=hsh
  refine cI Tryz.func102 rfl (n:=49) rfl rfl rfl ?_
  refine gai ?_
  refine oS (S.box rfl fun b2=>?_) rfl
  refine oS (S.box rfl fun b3=>?_) rfl
  refine oS (S.alloc fun b4=>?_) rfl
  refine gaa ?_
  refine oS (S.fn [_] rfl hsh' ?_) rfl
  refine gac ?_
  refine oC rfl (fun hc=>?_) (fun hc=>?_)
  ·have hop:¬ (opnds op = -1∨opnds op=(args.length:Int)):=by simpa using hc
   rw[if_neg hop] at hI
   refine gaa ?_
   exact retB (nm:=own) rfl (rC (rA rfl zm0 rfl zsr) rN) (by rw[←hI];rfl)
  have hop:opnds op = -1∨opnds op=(args.length:Int):=Decidable.byContradiction fun h=>by rw[decide_eq_false h] at hc;cases hc
  rw[if_pos hop] at hI
  refine gaa ?_
  refine oL (fun kk ls H'=>∃ (pre l1:List Ex),args=pre++l1∧kk=l1.length∧ls=[(2,ptr b2 0),(3,ptr b3 0),(4,ptr b4 0),(15,.list (args.map encE)),(16,int .i64 ((args.map encE).length:Int)),(17,int .i64 (pre.length:Int))] ∧
    H'=[pbH b4 [] 0,exH b3 op num name args,scH b2 own c fs]∧orE (errEs c l1) (useE c op name args.length)=E)
   ⟨args.length,_,_,⟨[],args,rfl,rfl,rfl,rfl,hI⟩,⟨rfl,rfl,rfl,rfl,rfl,rfl,trivial⟩,HSub.refl _⟩ ?_
  rintro kk ls H' ⟨pre,l1,hL,rfl,rfl,rfl,hI2⟩ j hj
  have hb:=pre_le hL (show args.length≤100000000 by omega)
  refine gak ?_
  refine oC rfl (fun hc=>?_) (fun hc=>?_)
  ·obtain ⟨a,l2,rfl⟩:=more hL hc
   have ham:ndE a≤ndEs args:=ndEs_mem (by rw[hL];exact List.mem_append_right _ (List.mem_cons_self ..))
   rw[errEs] at hI2
   refine gan ?_
   refine oP (xR (el':=encE a) (cs:=[_,_,_,_]) rfl rfl zo (by rw[hL];exact get_mid encE pre a l2) rfl rfl) rfl ?_
   refine ga3 ?_
   refine oS (S.alloc fun b6=>?_) rfl
   refine gaa ?_
   refine oS (S.pb [_,_] rfl (ih' a zo) fun nm=>?_) rfl
   refine oS (S.alloc fun b7=>?_) rfl
   refine gaa ?_
   by_cases h1:errE c a=0
   ·rw[h1] at hI2 ⊢
    refine oC rfl (fun hd=>by cases hd) (fun _=>?_)
    refine gab ?_
    exact ⟨l2.length,_,_,Nat.lt_succ_self _,⟨pre++[a],l2,snoc hL,rfl,rfl,rfl,hI2⟩,⟨rfl,rfl,rfl,rfl,rfl,int_eq (by simp),trivial⟩,zhD (zhD zhr),hj⟩
   ·refine oC rfl (fun _=>?_) (fun hd=>?_)
    rotate_left
    ·have h2:(!decide (errE c a=0))=false:=hd
     simp at h2
     exact absurd h2 h1
    have hE:E=errE c a:=by
     rw[←hI2]
     unfold orE
     rw[if_pos (show (if errE c a≠0 then errE c a else errEs c l2)≠0 by rw[if_pos h1];exact h1),if_pos h1]
    refine gaa ?_
    exact retB (nm:=nm) hj (rC (rA (k:=2) rfl zm0 rfl zsr) rN) (by rw[hE];rfl)
  obtain rfl:=none_left hL hc
  have hI3:useE c op name args.length=E:=hI2
  unfold useE at hI3
  refine gaa ?_
  by_cases h1:op=[118,97,114]
  ·subst h1
   rw[if_pos (show ([118,97,114]:Nm)=nVar from rfl)] at hI3
   refine oC rfl (fun _=>?_) (fun hd=>by cases hd)
   refine gaa ?_
   refine oS (S.pb [_,_] rfl hsc fun nm=>?_) rfl
   refine gac ?_
   exact retB (nm:=nm) hj (rC (rA rfl zm0 rfl zsr) rN) (by rw[←hI3];rfl)
  rw[if_neg (show ¬ op=nVar from h1)] at hI3
  refine oC rfl (fun hd=>absurd (zt hd) h1) (fun _=>?_)
  refine gaj ?_
  by_cases h2:op=[101,108,101,109]
  ·subst h2
   rw[if_pos (show ([101,108,101,109]:Nm)=nElem from rfl)] at hI3
   refine oC rfl (fun _=>?_) (fun hd=>by cases hd)
   refine gaa ?_
   refine oS (S.pb [_,_] rfl hix fun nm=>?_) rfl
   refine gac ?_
   exact retB (nm:=nm) hj (rC (rA rfl zm0 rfl zsr) rN) (by rw[←hI3];rfl)
  rw[if_neg (show ¬ op=nElem from h2)] at hI3
  refine oC rfl (fun hd=>absurd (zt hd) h2) (fun _=>?_)
  refine gaj ?_
  by_cases h3:op=[99,97,108,108]
  ·subst h3
   rw[if_pos (show ([99,97,108,108]:Nm)=nCall from rfl)] at hI3
   refine oC rfl (fun _=>?_) (fun hd=>by cases hd)
   refine gaa ?_
   refine oS (S.pb [_,_] rfl hca fun nm=>?_) rfl
   refine gac ?_
   exact retB (nm:=nm) hj (rC (rA rfl zm0 rfl zsr) rN) (by rw[←hI3];rfl)
  rw[if_neg (show ¬ op=nCall from h3)] at hI3
  refine oC rfl (fun hd=>absurd (zt hd) h3) (fun _=>?_)
  refine gaa ?_
  exact retB (nm:=[]) hj (rC (rA rfl zm0 rfl zsr) rN) (by rw[←hI3];rfl)
end
end Go.Proofs.YtcbpcianefpniaaGreatDoor.RC
namespace Go.Proofs.YtcbpcianefpniaaGreatDoor.RC
open Go.GL Go.RowKit Go.Stele
set_option maxRecDepth 100000
set_option maxHeartbeats 4000000
attribute [local irreducible] LOps LCode LStep LCalls Go.GL.Pure QThen QBlock RetPost LQ LAny LLate LLateOp LS
section
variable {B0:Nat} {w0:World}
theorem form_spec (s:Sm):LCalls (KC B0 w0) 101 [encS s] [] (Ret (bool (formS s))):=by
 obtain ⟨kind,name,index,value,thn,els⟩:=s
 rw[encS_mk]
 refine cI Tryz.func101 rfl (n:=159) rfl rfl rfl ?_
 refine gai ?_
 refine oS (S.box rfl fun b1=>?_) rfl
 refine gad ?_
 refine LCode.quiet zk ?_
 refine gaa ?_
 by_cases hk1:kind=1
 ·subst hk1
  refine oC rfl (fun _=>?_) (fun hc=>by cases hc)
  rw[Chk.form_1]
  refine gae ?_
  refine oB 28 rfl (fun q1=>?_) (fun q1=>?_)
  rotate_left
  ·refine gag ?_
   refine rR rfl (zra rfl) zhn ⟨?_,rfl⟩
   simp only[q1,Bool.false_and,Bool.and_false,Bool.true_and]
   rfl
  refine gar ?_
  refine oB 32 rfl (fun q2=>?_) (fun q2=>?_)
  rotate_left
  ·refine gag ?_
   refine rR rfl (zra rfl) zhn ⟨?_,rfl⟩
   simp only[q1,q2,Bool.false_and,Bool.and_false,Bool.true_and]
   rfl
  refine gar ?_
  refine oB 36 rfl (fun q3=>?_) (fun q3=>?_)
  rotate_left
  ·refine gag ?_
   refine rR rfl (zra rfl) zhn ⟨?_,rfl⟩
   simp only[q1,q2,q3,Bool.false_and,Bool.and_false,Bool.true_and]
   rfl
  refine gar ?_
  refine oB 40 rfl (fun q4=>?_) (fun q4=>?_)
  rotate_left
  ·refine gag ?_
   refine rR rfl (zra rfl) zhn ⟨?_,rfl⟩
   simp only[q1,q2,q3,q4,Bool.false_and,Bool.and_false,Bool.true_and]
   rfl
  refine gad ?_
  refine rR rfl (zra rfl) zhn ⟨?_,rfl⟩
  simp only[q1,q2,q3,q4,Bool.true_and]
  rfl
 refine oC rfl (fun hc=>absurd (zt hc) hk1) (fun _=>?_)
 refine gaw ?_
 by_cases hk2:kind=2
 ·subst hk2
  refine oC rfl (fun _=>?_) (fun hc=>by cases hc)
  rw[Chk.form_2]
  refine gae ?_
  refine oB 47 rfl (fun q1=>?_) (fun q1=>?_)
  rotate_left
  ·refine gag ?_
   refine rR rfl (zra rfl) zhn ⟨?_,rfl⟩
   simp only[q1,Bool.false_and,Bool.and_false,Bool.true_and]
   rfl
  refine gar ?_
  refine oB 51 rfl (fun q2=>?_) (fun q2=>?_)
  rotate_left
  ·refine gag ?_
   refine rR rfl (zra rfl) zhn ⟨?_,rfl⟩
   simp only[q1,q2,Bool.false_and,Bool.and_false,Bool.true_and]
   rfl
  refine gar ?_
  refine oB 55 rfl (fun q3=>?_) (fun q3=>?_)
  rotate_left
  ·refine gag ?_
   refine rR rfl (zra rfl) zhn ⟨?_,rfl⟩
   simp only[q1,q2,q3,Bool.false_and,Bool.and_false,Bool.true_and]
   rfl
  refine gar ?_
  refine oB 59 rfl (fun q4=>?_) (fun q4=>?_)
  rotate_left
  ·refine gag ?_
   refine rR rfl (zra rfl) zhn ⟨?_,rfl⟩
   simp only[q1,q2,q3,q4,Bool.false_and,Bool.and_false,Bool.true_and]
   rfl
  refine gad ?_
  refine rR rfl (zra rfl) zhn ⟨?_,rfl⟩
  simp only[q1,q2,q3,q4,Bool.true_and]
  rfl
 refine oC rfl (fun hc=>absurd (zt hc) hk2) (fun _=>?_)
 refine gaw ?_
 by_cases hk3:kind=3
 ·subst hk3
  refine oC rfl (fun _=>?_) (fun hc=>by cases hc)
  rw[Chk.form_3]
  refine gaa ?_
  refine oB 67 rfl (fun q1=>?_) (fun q1=>?_)
  rotate_left
  ·refine gag ?_
   refine rR rfl (zra rfl) zhn ⟨?_,rfl⟩
   simp only[q1,Bool.false_and,Bool.and_false,Bool.true_and]
   rfl
  refine gar ?_
  refine oB 71 rfl (fun q2=>?_) (fun q2=>?_)
  rotate_left
  ·refine gag ?_
   refine rR rfl (zra rfl) zhn ⟨?_,rfl⟩
   simp only[q1,q2,Bool.false_and,Bool.and_false,Bool.true_and]
   rfl
  refine gad ?_
  refine rR rfl (zra rfl) zhn ⟨?_,rfl⟩
  simp only[q1,q2,Bool.true_and]
  rfl
 refine oC rfl (fun hc=>absurd (zt hc) hk3) (fun _=>?_)
 refine gaw ?_
 by_cases hk4:kind=4
 ·subst hk4
  refine oC rfl (fun _=>?_) (fun hc=>by cases hc)
  rw[Chk.form_4]
  refine gaa ?_
  refine oB 79 rfl (fun q1=>?_) (fun q1=>?_)
  rotate_left
  ·refine gag ?_
   refine rR rfl (zra rfl) zhn ⟨?_,rfl⟩
   simp only[q1,Bool.false_and,Bool.and_false,Bool.true_and]
   rfl
  refine gar ?_
  refine oB 83 rfl (fun q2=>?_) (fun q2=>?_)
  rotate_left
  ·refine gag ?_
   refine rR rfl (zra rfl) zhn ⟨?_,rfl⟩
   simp only[q1,q2,Bool.false_and,Bool.and_false,Bool.true_and]
   rfl
  refine gar ?_
  refine oB 87 rfl (fun q3=>?_) (fun q3=>?_)
  rotate_left
  ·refine gag ?_
   refine rR rfl (zra rfl) zhn ⟨?_,rfl⟩
   simp only[q1,q2,q3,Bool.false_and,Bool.and_false,Bool.true_and]
   rfl
  refine gad ?_
  refine rR rfl (zra rfl) zhn ⟨?_,rfl⟩
  simp only[q1,q2,q3,Bool.true_and]
  rfl
 refine oC rfl (fun hc=>absurd (zt hc) hk4) (fun _=>?_)
 refine gaw ?_
 by_cases hk5:kind=5
 ·subst hk5
  refine oC rfl (fun _=>?_) (fun hc=>by cases hc)
  rw[Chk.form_5]
  refine gaa ?_
  refine oB 95 rfl (fun q1=>?_) (fun q1=>?_)
  rotate_left
  ·refine gag ?_
   refine rR rfl (zra rfl) zhn ⟨?_,rfl⟩
   simp only[q1,Bool.false_and,Bool.and_false,Bool.true_and]
   rfl
  refine gar ?_
  refine oB 99 rfl (fun q2=>?_) (fun q2=>?_)
  rotate_left
  ·refine gag ?_
   refine rR rfl (zra rfl) zhn ⟨?_,rfl⟩
   simp only[q1,q2,Bool.false_and,Bool.and_false,Bool.true_and]
   rfl
  refine gar ?_
  refine oB 103 rfl (fun q3=>?_) (fun q3=>?_)
  rotate_left
  ·refine gag ?_
   refine rR rfl (zra rfl) zhn ⟨?_,rfl⟩
   simp only[q1,q2,q3,Bool.false_and,Bool.and_false,Bool.true_and]
   rfl
  refine gar ?_
  refine oB 107 rfl (fun q4=>?_) (fun q4=>?_)
  rotate_left
  ·refine gag ?_
   refine rR rfl (zra rfl) zhn ⟨?_,rfl⟩
   simp only[q1,q2,q3,q4,Bool.false_and,Bool.and_false,Bool.true_and]
   rfl
  refine gad ?_
  refine rR rfl (zra rfl) zhn ⟨?_,rfl⟩
  simp only[q1,q2,q3,q4,Bool.true_and]
  rfl
 refine oC rfl (fun hc=>absurd (zt hc) hk5) (fun _=>?_)
 refine gaw ?_
 by_cases hk6:kind=6
 ·subst hk6
  refine oC rfl (fun _=>?_) (fun hc=>by cases hc)
  rw[Chk.form_6]
  refine gaa ?_
  refine oB 115 rfl (fun q1=>?_) (fun q1=>?_)
  rotate_left
  ·refine gag ?_
   refine rR rfl (zra rfl) zhn ⟨?_,rfl⟩
   simp only[q1,Bool.false_and,Bool.and_false,Bool.true_and]
   rfl
  refine gar ?_
  refine oB 119 rfl (fun q2=>?_) (fun q2=>?_)
  rotate_left
  ·refine gag ?_
   refine rR rfl (zra rfl) zhn ⟨?_,rfl⟩
   simp only[q1,q2,Bool.false_and,Bool.and_false,Bool.true_and]
   rfl
  refine gar ?_
  refine oB 123 rfl (fun q3=>?_) (fun q3=>?_)
  rotate_left
  ·refine gag ?_
   refine rR rfl (zra rfl) zhn ⟨?_,rfl⟩
   simp only[q1,q2,q3,Bool.false_and,Bool.and_false,Bool.true_and]
   rfl
  refine gar ?_
  refine oB 127 rfl (fun q4=>?_) (fun q4=>?_)
  rotate_left
  ·refine gag ?_
   refine rR rfl (zra rfl) zhn ⟨?_,rfl⟩
   simp only[q1,q2,q3,q4,Bool.false_and,Bool.and_false,Bool.true_and]
   rfl
  refine gar ?_
  refine oB 131 rfl (fun q5=>?_) (fun q5=>?_)
  rotate_left
  ·refine gag ?_
   refine rR rfl (zra rfl) zhn ⟨?_,rfl⟩
   simp only[q1,q2,q3,q4,q5,Bool.false_and,Bool.and_false,Bool.true_and]
   rfl
  refine gac ?_
  obtain ⟨x0,rfl⟩:∃ x,value=[x]:=by
   have h1:((value.map encE).length:Int)=1:=zt q3
   rw[List.length_map] at h1
   cases value with
   |nil=>simp at h1
   |cons x l=>
    cases l with
    |nil=>exact ⟨x,rfl⟩
    |cons y l=>simp at h1;omega
  first|refine LOps.want rfl rfl ?_|skip
  refine oP (xR (el':=encE x0) (cs:=[_,_,_,_]) rfl rfl zo rfl rfl rfl) rfl ?_
  refine gac ?_
  refine rR rfl (zra rfl) zhn ⟨?_,rfl⟩
  simp only[q1,q2,q3,q4,q5,Bool.true_and]
  rfl
 refine oC rfl (fun hc=>absurd (zt hc) hk6) (fun _=>?_)
 refine gaw ?_
 by_cases hk7:kind=7
 ·subst hk7
  refine oC rfl (fun _=>?_) (fun hc=>by cases hc)
  rw[Chk.form_7]
  refine gaa ?_
  refine oB 143 rfl (fun q1=>?_) (fun q1=>?_)
  rotate_left
  ·refine gag ?_
   refine rR rfl (zra rfl) zhn ⟨?_,rfl⟩
   simp only[q1,Bool.false_and,Bool.and_false,Bool.true_and]
   rfl
  refine gar ?_
  refine oB 147 rfl (fun q2=>?_) (fun q2=>?_)
  rotate_left
  ·refine gag ?_
   refine rR rfl (zra rfl) zhn ⟨?_,rfl⟩
   simp only[q1,q2,Bool.false_and,Bool.and_false,Bool.true_and]
   rfl
  refine gar ?_
  refine oB 151 rfl (fun q3=>?_) (fun q3=>?_)
  rotate_left
  ·refine gag ?_
   refine rR rfl (zra rfl) zhn ⟨?_,rfl⟩
   simp only[q1,q2,q3,Bool.false_and,Bool.and_false,Bool.true_and]
   rfl
  refine gar ?_
  refine oB 155 rfl (fun q4=>?_) (fun q4=>?_)
  rotate_left
  ·refine gag ?_
   refine rR rfl (zra rfl) zhn ⟨?_,rfl⟩
   simp only[q1,q2,q3,q4,Bool.false_and,Bool.and_false,Bool.true_and]
   rfl
  refine gad ?_
  refine rR rfl (zra rfl) zhn ⟨?_,rfl⟩
  simp only[q1,q2,q3,q4,Bool.true_and]
  rfl
 refine oC rfl (fun hc=>absurd (zt hc) hk7) (fun _=>?_)
 refine gab ?_
 refine rR rfl (zra rfl) zhn ⟨?_,rfl⟩
 have hf:formS (.mk kind name index value thn els)=false:=by
  simp only[formS]
  rw[if_neg hk1,if_neg hk2,if_neg hk3,if_neg hk4,if_neg hk5,if_neg hk6,if_neg hk7]
 rw[hf]
 rfl
end
end Go.Proofs.YtcbpcianefpniaaGreatDoor.RC
namespace Go.Proofs.YtcbpcianefpniaaGreatDoor.RC
open Go.GL Go.RowKit Go.Stele
set_option maxRecDepth 100000
set_option maxHeartbeats 4000000
theorem ndSs_mem:∀ {l:List Sm} {f:Sm},f∈l→ndS f≤ndSs l
 |g::l,f,h=>by
  rw[ndSs]
  rcases List.mem_cons.1 h with rfl|h
  ·omega
  ·have:=ndSs_mem h
   omega
theorem ndEs_app:∀ a b:List Ex,ndEs (a++b)=ndEs a+ndEs b
 |[],b=>by rw[ndEs,List.nil_append];omega
 |x::a,b=>by rw[List.cons_append,ndEs,ndEs,ndEs_app a b];omega
theorem orE_assoc (a b c:Int):orE (orE a b) c=orE a (orE b c):=by
 unfold orE
 by_cases h:a=0
 ·subst h;rfl
 ·rw[if_pos h,if_pos h,if_pos h]
theorem orE_ne {a b:Int} (h:a≠0):orE a b=a:=by unfold orE;rw[if_pos h]
theorem encE_len (l:List Ex):∀ v∈l.map encE,v.cells.length=4:=fun v hv=>by
 obtain ⟨x,_,rfl⟩:=List.mem_map.1 hv
 rfl
theorem encE_ok (l:List Ex):((l.map encE).flatMap LV.cells).all cellOk=true:=by
 induction l with
 |nil=>rfl
 |cons a l ih=>
  simp only[List.map_cons,List.flatMap_cons,List.all_append,ih,Bool.and_true]
  rfl
@[reducible] def smH (b:Nat) (kind:Int) (name:Nm) (index value:List Ex) (thn els:List Sm):Nat×LObj:=(b,.cells 128 [int .i64 kind,str name,.list (index.map encE),.list (value.map encE),.list (thn.map encS),.list (els.map encS)])
attribute [local irreducible] LOps LCode LStep LCalls Go.GL.Pure QThen QBlock RetPost LQ LAny LLate LLateOp LS
section
variable {B0:Nat} {w0:World}
def BodyH (B0:Nat) (w0:World) (own:Nm) (c:CEnv) (fs:List FnD) (n:Nat):Prop:=∀ l:List Sm,ndSs l<n→LCalls (KC B0 w0) 53 [.agg [str own,.list (c.own.map str),.list (c.vars.map str),.list (c.arrays.map str),.list (fs.map encFn),.list (c.later.map str)],.list (l.map encS)] [] (PostB (errSs c l))
theorem body_spec {own:Nm} {c:CEnv} {fs:List FnD} (h:ScOk c fs):∀ n:Nat,n≤100000000→BodyH B0 w0 own c fs n
 |0,_=>fun l h=>by omega
 |n+1,hn6=>by
  have ih:=body_spec (own:=own) h n zo
  have hex:ExprH B0 w0 own c fs n:=expr_spec h n zo
  intro l hnd
  have hal:=ndSs_len l
  have hex':∀ x:Ex,ndE x≤n→LCalls (KC B0 w0) 102 [.agg [str own,.list (c.own.map str),.list (c.vars.map str),.list (c.arrays.map str),.list (fs.map encFn),.list (c.later.map str)],encE x] [] (PostB (errE c x)):=hex
  generalize hI:errSs c l=E
  refine cI Tryz.func53 rfl (n:=78) rfl rfl rfl ?_
  refine gai ?_
  refine oS (S.box rfl fun b2=>?_) rfl
  refine oS (S.alloc fun b4=>?_) rfl
  refine gab ?_
  refine oL (fun kk ls H'=>∃ (pre l1:List Sm),l=pre++l1∧kk=l1.length∧ls=[(2,ptr b2 0),(4,ptr b4 0),(11,.list (l.map encS)),(12,int .i64 ((l.map encS).length:Int)),(13,int .i64 (pre.length:Int))] ∧
    H'=[pbH b4 [] 0,scH b2 own c fs]∧errSs c l1=E)
   ⟨l.length,_,_,⟨[],l,rfl,rfl,rfl,rfl,hI⟩,⟨rfl,rfl,rfl,rfl,rfl,trivial⟩,HSub.refl _⟩ ?_
  rintro kk ls H' ⟨pre,l1,hL,rfl,rfl,rfl,hI2⟩ j hj
  have hb:=pre_le hL (show l.length≤100000000 by omega)
  refine gak ?_
  refine oC rfl (fun hc=>?_) (fun hc=>?_)
  rotate_left
  ·obtain rfl:=none_left hL hc
   refine gaa ?_
   exact retB (nm:=[]) hj (rC (rA rfl zm0 rfl zsr) rN) (by rw[←hI2,errSs];rfl)
  obtain ⟨a,l2,rfl⟩:=more hL hc
  have ham:ndS a≤ndSs l:=ndSs_mem (by rw[hL];exact List.mem_append_right _ (List.mem_cons_self ..))
  obtain ⟨kind,name,index,value,thn,els⟩:=a
  have hfm:=form_spec (B0:=B0) (w0:=w0) (.mk kind name index value thn els)
  rw[encS_mk] at hfm
  rw[errSs,errS] at hI2
  rw[ndS] at ham
  refine gan ?_
  refine oP (xR (el':=.agg [int .i64 kind,str name,.list (index.map encE),.list (value.map encE),.list (thn.map encS),.list (els.map encS)]) (cs:=[_,_,_,_,_,_]) rfl rfl zo (by rw[hL,←encS_mk];exact get_mid encS pre _ l2) rfl rfl) rfl ?_
  refine gac ?_
  refine oS (S.alloc fun b6=>?_) rfl
  refine gaa ?_
  refine oS (S.fn [_] rfl hfm ?_) rfl
  refine gac ?_
  by_cases hf:formS (.mk kind name index value thn els)=false
  ·rw[if_pos hf] at hI2
   refine oC rfl (fun _=>?_) (fun hd=>?_)
   rotate_left
   ·have h2:(!formS (.mk kind name index value thn els))=false:=hd
    rw[hf] at h2
    cases h2
   refine gaa ?_
   exact retB (nm:=own) hj (rC (rA rfl zm0 rfl zsr) rN) (by rw[←hI2];rfl)
  rw[if_neg hf] at hI2
  refine oC rfl (fun hd=>?_) (fun _=>?_)
  ·have h2:(!formS (.mk kind name index value thn els))=true:=hd
   rw[Bool.not_eq_true'] at h2
   exact absurd h2 hf
  have hvi:(value++index).length≤100000000:=by
   have g1:=ndEs_len value
   have g2:=ndEs_len index
   rw[List.length_append]
   omega
  rw[List.length_append] at hvi
  have hI3:orE (errEs c (value++index)) (orE (if kind=1 then scalarE c name else if kind=2 then arrayE c name else 0) (orE (errSs c thn) (orE (errSs c els) (errSs c l2))))=E:=by
   rw[errEs_app,←hI2]
   simp only[orE_assoc]
  clear hI2
  refine gad ?_
  refine LCode.draw (m:=9) rfl [smH b6 kind name index value thn els] ?_
  refine aT 1 rfl rfl (Pure.fieldH rfl) ?_
  refine aT 2 rfl rfl (Pure.loadH (c:=.list _) rfl zm0 rfl) ?_
  refine aT 4 rfl rfl (Pure.fieldH rfl) ?_
  refine aT 5 rfl rfl (Pure.loadH (c:=.list _) rfl zm0 rfl) ?_
  refine aT 8 rfl rfl (Pure.mv (lv:=.atom _) rfl) ?_
  refine LAny.late ?_ zhp
  refine lO 0 (lS (H1:=[]) rfl (.inl rfl) rfl zpr zhp (S.litA (es:=[]) [] rfl eN rfl rfl rfl fun b7=>?_))
  refine lO 3 (lS (H1:=[(b7,.row 0)]) rfl (.inl rfl) rfl zpr zhp (S.acc (F:=[]) rfl Acc.row rfl (encE_len _) (encE_ok _) (by simp;omega) fun v1 H1 h1=>?_))
  refine lO 6 (lS (H1:=H1) rfl (.inl rfl) rfl zpr zhp (S.acc (F:=[]) rfl h1 rfl (encE_len _) (encE_ok _) (by simp;omega) fun v2 H2 h2=>?_))
  have e2:([]++value.map encE++index.map encE:List LV)=(value++index).map encE:=by simp
  rw[e2] at h2
  refine lO 7 (lH rfl rfl (Pure.llen (h2.elems)) ?_)
  refine lD zk ?_
  refine gad ?_
  refine LCode.sub (d:=29) rfl h2.sub ?_
  refine LCode.weak (H':=[smH b6 kind name index value thn els,pbH b4 [] 0,scH b2 own c fs]) ⟨H2,List.perm_append_comm⟩ ?_
  have hll:((value++index).map encE).length=value.length+index.length:=by simp
  refine oL (fun kk ls H'=>∃ (pre2 l3:List Ex),value++index=pre2++l3∧kk=l3.length∧ls=[(2,ptr b2 0),(4,ptr b4 0),(6,ptr b6 0),(11,.list (l.map encS)),(12,int .i64 ((l.map encS).length:Int)),(13,int .i64 (pre.length:Int)),(29,.list ((value++index).map encE)),(30,int .i64 (((value++index).map encE).length:Int)),(31,int .i64 (pre2.length:Int))] ∧
    H'=[smH b6 kind name index value thn els,pbH b4 [] 0,scH b2 own c fs]∧orE (errEs c l3) (orE (if kind=1 then scalarE c name else if kind=2 then arrayE c name else 0) (orE (errSs c thn) (orE (errSs c els) (errSs c l2))))=E)
   ⟨_,_,_,⟨[],value++index,rfl,rfl,rfl,rfl,hI3⟩,⟨rfl,rfl,rfl,rfl,rfl,rfl,rfl,rfl,rfl,trivial⟩,HSub.refl _⟩ ?_
  rintro kk ls H' ⟨pre2,l3,hL2,rfl,rfl,rfl,hI4⟩ j2 hj2
  have hb2:=pre_le hL2 (show (value++index).length≤100000000 by rw[List.length_append];omega)
  refine gak ?_
  refine oC rfl (fun hc2=>?_) (fun hc2=>?_)
  ·obtain ⟨a,l4,rfl⟩:=more hL2 hc2
   have ham2:ndE a≤ndEs (value++index):=ndEs_mem (by rw[hL2];exact List.mem_append_right _ (List.mem_cons_self ..))
   rw[ndEs_app] at ham2
   rw[errEs,orE_assoc] at hI4
   refine gan ?_
   refine oP (xR (el':=encE a) (cs:=[_,_,_,_]) rfl rfl zo (by rw[hL2];exact get_mid encE pre2 a l4) rfl rfl) rfl ?_
   refine ga3 ?_
   refine oS (S.alloc fun b8=>?_) rfl
   refine gaa ?_
   refine oS (S.pb [_,_] rfl (hex' a zo) fun nm=>?_) rfl
   refine oS (S.alloc fun b9=>?_) rfl
   refine gaa ?_
   by_cases h1:errE c a=0
   ·rw[h1] at hI4 ⊢
    refine oC rfl (fun hd=>by cases hd) (fun _=>?_)
    refine gab ?_
    exact ⟨l4.length,_,_,Nat.lt_succ_self _,⟨pre2++[a],l4,snoc hL2,rfl,rfl,rfl,hI4⟩,⟨rfl,rfl,rfl,rfl,rfl,rfl,rfl,rfl,int_eq (by simp),trivial⟩,zhD (zhD zhr),hj2⟩
   ·refine oC rfl (fun _=>?_) (fun hd=>?_)
    rotate_left
    ·have h2:(!decide (errE c a=0))=false:=hd
     simp at h2
     exact absurd h2 h1
    rw[orE_ne h1] at hI4
    refine gaa ?_
    exact retB (nm:=nm) (hj2.trans hj) (rC (rA (k:=2) rfl zm0 rfl zsr) rN) (by rw[←hI4];rfl)
  obtain rfl:=none_left hL2 hc2
  have hI5:orE (if kind=1 then scalarE c name else if kind=2 then arrayE c name else 0) (orE (errSs c thn) (orE (errSs c els) (errSs c l2)))=E:=hI4
  refine gaa ?_
  refine oS (S.alloc fun b10=>?_) rfl
  refine gaa ?_
  refine LCode.mid (A:=Nm) (fun _=>[(2,ptr b2 0),(4,ptr b4 0),(6,ptr b6 0),(10,ptr b10 0),(11,.list (l.map encS)),(12,int .i64 ((l.map encS).length:Int)),(13,int .i64 (pre.length:Int))]) (fun nm=>[pbH b10 nm (if kind=1 then scalarE c name else 0),smH b6 kind name index value thn els,pbH b4 [] 0,scH b2 own c fs]) (fun _=>True) ?_ ?_
  ·by_cases k1:kind=1
   ·refine oC rfl (fun _=>?_) (fun hd=>absurd k1 (zf hd))
    refine gaa ?_
    refine oS (S.pb [_,_] rfl (scalar_spec (own:=own) h name) fun nm=>?_) rfl
    refine gac ?_
    exact ⟨nm,trivial,⟨rfl,rfl,rfl,rfl,rfl,rfl,rfl,trivial⟩,by rw[if_pos k1],rfl⟩
   ·refine oC rfl (fun hd=>absurd (zt hd) k1) (fun _=>?_)
    refine gas ?_
    exact ⟨[],trivial,⟨rfl,rfl,rfl,rfl,rfl,rfl,rfl,trivial⟩,by rw[if_neg k1],rfl⟩
  rintro nm1 _ j3 hj3
  refine gaa ?_
  refine LCode.mid (A:=Nm) (fun _=>[(2,ptr b2 0),(4,ptr b4 0),(6,ptr b6 0),(10,ptr b10 0),(11,.list (l.map encS)),(12,int .i64 ((l.map encS).length:Int)),(13,int .i64 (pre.length:Int))]) (fun nm=>[pbH b10 nm (if kind=1 then scalarE c name else if kind=2 then arrayE c name else 0),smH b6 kind name index value thn els,pbH b4 [] 0,scH b2 own c fs]) (fun _=>True) ?_ ?_
  ·by_cases k2:kind=2
   ·refine oC rfl (fun _=>?_) (fun hd=>absurd k2 (zf hd))
    refine gaa ?_
    refine oS (S.pb [_,_] rfl (indexed_spec (own:=own) h name) fun nm=>?_) rfl
    refine gac ?_
    exact ⟨nm,trivial,⟨rfl,rfl,rfl,rfl,rfl,rfl,rfl,trivial⟩,by rw[if_neg zo,if_pos k2],rfl⟩
   ·refine oC rfl (fun hd=>absurd (zt hd) k2) (fun _=>?_)
    refine gas ?_
    exact ⟨nm1,trivial,⟨rfl,rfl,rfl,rfl,rfl,rfl,rfl,trivial⟩,by rw[if_neg k2],rfl⟩
  rintro nm2 _ j4 hj4
  generalize (if kind=1 then scalarE c name else if kind=2 then arrayE c name else 0)=e1 at hI5 ⊢
  refine gab ?_
  refine LCode.mid (A:=Nm) (fun _=>[(2,ptr b2 0),(4,ptr b4 0),(6,ptr b6 0),(10,ptr b10 0),(11,.list (l.map encS)),(12,int .i64 ((l.map encS).length:Int)),(13,int .i64 (pre.length:Int))]) (fun nm=>[pbH b10 nm (orE e1 (errSs c thn)),smH b6 kind name index value thn els,pbH b4 [] 0,scH b2 own c fs]) (fun _=>True) ?_ ?_
  ·by_cases k3:e1=0
   ·refine oC rfl (fun _=>?_) (fun hd=>absurd k3 (zf hd))
    refine gaa ?_
    refine oS (S.pb [_,_] rfl (ih thn zo) fun nm=>?_) rfl
    refine gac ?_
    exact ⟨nm,trivial,⟨rfl,rfl,rfl,rfl,rfl,rfl,rfl,trivial⟩,by rw[k3];rfl,rfl⟩
   ·refine oC rfl (fun hd=>absurd (zt hd) k3) (fun _=>?_)
    refine gas ?_
    exact ⟨nm2,trivial,⟨rfl,rfl,rfl,rfl,rfl,rfl,rfl,trivial⟩,by rw[orE_ne k3],rfl⟩
  rintro nm3 _ j5 hj5
  rw[←orE_assoc] at hI5
  generalize orE e1 (errSs c thn)=e2 at hI5 ⊢
  refine gab ?_
  refine LCode.mid (A:=Nm) (fun _=>[(2,ptr b2 0),(4,ptr b4 0),(6,ptr b6 0),(10,ptr b10 0),(11,.list (l.map encS)),(12,int .i64 ((l.map encS).length:Int)),(13,int .i64 (pre.length:Int))]) (fun nm=>[pbH b10 nm (orE e2 (errSs c els)),smH b6 kind name index value thn els,pbH b4 [] 0,scH b2 own c fs]) (fun _=>True) ?_ ?_
  ·by_cases k3:e2=0
   ·refine oC rfl (fun _=>?_) (fun hd=>absurd k3 (zf hd))
    refine gaa ?_
    refine oS (S.pb [_,_] rfl (ih els zo) fun nm=>?_) rfl
    refine gac ?_
    exact ⟨nm,trivial,⟨rfl,rfl,rfl,rfl,rfl,rfl,rfl,trivial⟩,by rw[k3];rfl,rfl⟩
   ·refine oC rfl (fun hd=>absurd (zt hd) k3) (fun _=>?_)
    refine gas ?_
    exact ⟨nm3,trivial,⟨rfl,rfl,rfl,rfl,rfl,rfl,rfl,trivial⟩,by rw[orE_ne k3],rfl⟩
  rintro nm4 _ j6 hj6
  rw[←orE_assoc] at hI5
  generalize orE e2 (errSs c els)=e3 at hI5 ⊢
  have hjj:=((hj6.trans hj5).trans (hj4.trans hj3)).trans hj2
  refine gab ?_
  by_cases k3:e3=0
  ·subst k3
   refine oC rfl (fun hd=>by cases hd) (fun _=>?_)
   refine gab ?_
   exact ⟨l2.length,_,_,Nat.lt_succ_self _,⟨pre++[_],l2,snoc hL,rfl,rfl,rfl,hI5⟩,⟨rfl,rfl,rfl,rfl,int_eq (by simp),trivial⟩,zhD (zhD zhr),hjj.trans hj⟩
  ·refine oC rfl (fun _=>?_) (fun hd=>?_)
   rotate_left
   ·have h2:(!decide (e3=0))=false:=hd
    simp at h2
    exact absurd h2 k3
   rw[orE_ne k3] at hI5
   refine gaa ?_
   exact retB (nm:=nm4) (hjj.trans hj) (rC (rA (k:=2) rfl zm0 rfl zsr) rN) (by rw[hI5];rfl)
end
end Go.Proofs.YtcbpcianefpniaaGreatDoor.RC
namespace Go.Proofs.YtcbpcianefpniaaGreatDoor.RC
open Go.GL Go.RowKit Go.Stele
set_option maxRecDepth 100000
set_option maxHeartbeats 4000000
@[reducible] def iv (n:Nat):LV:=int .i64 (n:Int)
def mostN:List Nat→Nat
 |[]=>0
 |a::l=>l.foldl max a
theorem iv_len (l:List Nat):∀ v∈l.map iv,v.cells.length=1:=fun v hv=>by
 obtain ⟨x,_,rfl⟩:=List.mem_map.1 hv
 rfl
theorem iv_ok (l:List Nat):((l.map iv).flatMap LV.cells).all cellOk=true:=by
 induction l with
 |nil=>rfl
 |cons a l ih=>
  simp only[List.map_cons,List.flatMap_cons,List.all_append,ih,Bool.and_true]
  rfl
theorem iv_els (l:List Nat):elemsOk 1 (l.map iv):=fun v hv=>by
 obtain ⟨x,_,rfl⟩:=List.mem_map.1 hv
 exact ⟨rfl,rfl⟩
theorem iv_eq {a b:Nat} (h:a=b):iv a=iv b:=by rw[h]
theorem needEs_snoc (c:CEnv) (x:Ex):∀ l:List Ex,needEs c (l++[x])=needEs c l++[needE c x]
 |[]=>rfl
 |y::l=>by
  show needEs c (y::(l++[x]))=_
  rw[needEs,needEs_snoc c x l,needEs]
  rfl
attribute [local irreducible] LOps LCode LStep LCalls Go.GL.Pure QThen QBlock RetPost LQ LAny LLate LLateOp LS
section
variable {B0:Nat} {w0:World}
theorem most_spec (a:Nat) (r:List Nat) (hl:r.length≤1000):LCalls (KC B0 w0) 105 [.list ((a::r).map iv)] [] (Ret (iv (mostN (a::r)))):=by
 generalize hA:a::r=A
 have hAl:A.length≤1001:=by rw[←hA,List.length_cons];omega
 refine cI Tryz.func105 rfl (n:=21) rfl rfl rfl ?_
 refine gab ?_
 refine oP (xR (el':=iv a) (cs:=[_]) rfl rfl zo (by rw[←hA];rfl) rfl rfl) rfl ?_
 refine gaa ?_
 refine oL (fun k ls H'=>∃ pre l1,A=pre++l1∧k=l1.length∧ls=[(3,iv (pre.foldl max a)),(9,.list (A.map iv)),(10,int .i64 ((A.map iv).length:Int)),(11,int .i64 (pre.length:Int))]∧H'=[])
  ⟨_,_,_,⟨[],A,rfl,rfl,rfl,rfl⟩,⟨rfl,rfl,rfl,rfl,trivial⟩,HSub.refl _⟩ ?_
 rintro k ls H' ⟨pre,l1,hL,rfl,rfl,rfl⟩ j hj
 have hb:=pre_le hL hAl
 refine gak ?_
 refine oC rfl (fun hc=>?_) (fun hc=>?_)
 ·obtain ⟨x,l2,rfl⟩:=more hL hc
  refine gan ?_
  refine oP (xR (el':=iv x) (cs:=[_]) rfl rfl zo (by rw[hL];exact get_mid iv pre x l2) rfl rfl) rfl ?_
  refine gaa ?_
  refine oC rfl (fun hd=>?_) (fun hd=>?_)
  ·have h1:=zt hd
   refine gab ?_
   exact ⟨l2.length,_,_,Nat.lt_succ_self _,⟨pre++[x],l2,snoc hL,rfl,rfl,rfl⟩,⟨iv_eq (by rw[List.foldl_append];show x=max (pre.foldl max a) x;omega),rfl,rfl,int_eq (by simp),trivial⟩,HSub.refl _,hj⟩
  ·have h1:=zf hd
   refine gab ?_
   exact ⟨l2.length,_,_,Nat.lt_succ_self _,⟨pre++[x],l2,snoc hL,rfl,rfl,rfl⟩,⟨iv_eq (by rw[List.foldl_append];show pre.foldl max a=max (pre.foldl max a) x;omega),rfl,rfl,int_eq (by simp),trivial⟩,HSub.refl _,hj⟩
 ·obtain rfl:=none_left hL hc
  rw[List.append_nil] at hL
  refine gab ?_
  exact retRet hj (zra rfl) (iv_eq (by rw[←hL,←hA];show (r.foldl max (max a a))=_;rw[Nat.max_self];rfl))
def NeedH (B0:Nat) (w0:World) (c:CEnv) (fs:List FnD) (n:Nat):Prop:=∀ x:Ex,errE c x=0→ndE x<n→LCalls (KC B0 w0) 155 [encE x,.list (fs.map encFn),.list ((c.funcs.map (·.need)).map iv)] [] (Ret (iv (needE c x)))
theorem Need_spec {c:CEnv} {fs:List FnD} (hfl:fs.length≤100000000) (hfn:c.funcs.map (·.name)=fs.map (·.name)) (hd:Dist c.funcs) {B D:Nat} (hB:KnB B D c.funcs) (hB8:B≤100000000):∀ n:Nat,n≤100000000→NeedH B0 w0 c fs n
 |0,_=>fun x _ h=>by omega
 |n+1,hn6=>by
  have ih:=Need_spec hfl hfn hd hB hB8 n zo
  intro x herr hnd
  obtain ⟨op,num,name,args⟩:=x
  rw[ndE] at hnd
  have hal:=ndEs_len args
  rw[errE] at herr
  have hop:opnds op = -1∨opnds op=(args.length:Int):=Decidable.byContradiction fun h=>by rw[if_neg h] at herr;cases herr
  rw[if_pos hop] at herr
  obtain ⟨hea,hue⟩:=orE_zero.1 herr
  have hea0:=hea
  generalize hR:iv (needE c (.mk op num name args))=R
  rw[needE] at hR
  rw[encE_mk]
  refine cI Tryz.func155 rfl (n:=156) rfl rfl rfl ?_
  refine gai ?_
  refine oS (S.box rfl fun b3=>?_) rfl
  refine ga2 ?_
  refine oS (S.litA (es:=[]) [] rfl eN rfl rfl rfl fun b7=>?_) rfl
  refine gaa ?_
  refine oL (fun kk ls H'=>∃ (pre l1:List Ex) (v:LV) (Ha:Heap),args=pre++l1∧kk=l1.length∧ls=[(1,.list (fs.map encFn)),(2,.list ((c.funcs.map (·.need)).map iv)),(3,ptr b3 0),(7,v),(16,.list (args.map encE)),(17,int .i64 ((args.map encE).length:Int)),(18,int .i64 (pre.length:Int))] ∧
    H'=exH b3 op num name args::Ha∧GL.Acc 1 v ((needEs c pre).map iv) Ha []∧errEs c l1=0)
   ⟨_,_,_,⟨[],args,.app b7 0 1 [],[(b7,.row 0)],rfl,rfl,rfl,rfl,Acc.row,hea⟩,⟨rfl,rfl,rfl,rfl,rfl,rfl,rfl,trivial⟩,⟨[],by simpa using List.Perm.swap _ _ _⟩⟩ ?_
  rintro kk ls H' ⟨pre,l1,v,Ha,hL,rfl,rfl,rfl,hacc,hI2⟩ j hj
  have hb:=pre_le hL (show args.length≤100000000 by omega)
  refine gak ?_
  refine oC rfl (fun hc=>?_) (fun hc=>?_)
  ·obtain ⟨a,l2,rfl⟩:=more hL hc
   have ham:ndE a≤ndEs args:=ndEs_mem (by rw[hL];exact List.mem_append_right _ (List.mem_cons_self ..))
   rw[errEs] at hI2
   obtain ⟨h1,h2⟩:=orE_zero.1 hI2
   refine gan ?_
   refine oP (xR (el':=encE a) (cs:=[_,_,_,_]) rfl rfl zo (by rw[hL];exact get_mid encE pre a l2) rfl rfl) rfl ?_
   refine ga3 ?_
   refine oS (S.alloc fun b9=>?_) rfl
   refine gaa ?_
   refine oP (Pure.mv (lv:=v) rfl) rfl ?_
   refine gac ?_
   refine oS (S.fn [_,_,_] rfl (ih a h1 zo) ?_) rfl
   refine oS (S.lit (es:=[needE c a].map iv) [_] rfl (eC rfl rfl eN) rfl rfl rfl ?_) rfl
   have hnl:(needEs c pre).length=pre.length:=needEs_len c pre
   refine oS (S.accF (A:=[_,_]) (H1:=Ha) (List.perm_append_comm (l₁:=[_,_])) rfl hacc rfl (iv_len _) (iv_ok _) (by rw[List.length_map,List.length_map,List.length_singleton];omega) fun v2 H2 hacc2=>?_) rfl
   refine oP (Pure.as (lv:=v2) rfl) rfl ?_
   refine ga0 ?_
   exact ⟨l2.length,_,_,Nat.lt_succ_self _,⟨pre++[a],l2,v2,H2,snoc hL,rfl,rfl,rfl,by rw[needEs_snoc,List.map_append];exact hacc2,h2⟩,⟨rfl,rfl,rfl,rfl,rfl,rfl,int_eq (by simp),trivial⟩,zhD zhr,hj⟩
  obtain rfl:=none_left hL hc
  rw[List.append_nil] at hL
  subst hL
  clear hI2
  refine gad ?_
  refine LCode.sub (d:=7) rfl hacc.sub ?_
  refine LCode.weak (H':=[exH b3 op num name args]) ⟨Ha,List.Perm.refl _⟩ ?_
  have hnE:∀ x∈args,needE c x≤500000000:=fun x hx=>by
   have h1:=needE_le B D c hB x
   have h2:=ndEs_mem hx
   omega
  have two:∀ {k:Int},opnds op=k→0≤k→args.length=k.toNat:=fun {k} h h0=>by
   rcases hop with h1|h1 <;> omega
  refine gab ?_
  by_cases h1:op=[110,117,109]
  ·subst h1
   refine oC rfl (fun _=>?_) (fun hc=>by cases hc)
   refine gas ?_
   refine oC rfl (fun _=>?_) (fun hc=>by cases hc)
   refine ga1 ?_
   exact retRet hj (zra rfl) hR
  refine oC rfl (fun hc=>absurd (zt hc) h1) (fun _=>?_)
  refine gaj ?_
  by_cases h2:op=[118,97,114]
  ·subst h2
   refine oC rfl (fun _=>?_) (fun hc=>by cases hc)
   refine ga1 ?_
   exact retRet hj (zra rfl) hR
  refine oC rfl (fun hc=>absurd (zt hc) h2) (fun _=>?_)
  refine gaj ?_
  by_cases h3:op=[101,108,101,109]
  ·subst h3
   obtain ⟨x,rfl⟩:=List.length_eq_one_iff.1 (two rfl (by decide))
   have hx:=hnE x (List.mem_cons_self ..)
   refine oC rfl (fun _=>?_) (fun hc=>by cases hc)
   refine gas ?_
   refine oC rfl (fun _=>?_) (fun hc=>by cases hc)
   refine gab ?_
   refine oP (xR (el':=iv (needE c x)) (cs:=[_]) rfl rfl zo rfl rfl rfl) rfl ?_
   refine gac ?_
   exact retRet hj (zra rfl) (by rw[←hR];exact int_eq (by simp[opN,nNum,nVar,nElem,nNeg,needEs]))
  refine oC rfl (fun hc=>absurd (zt hc) h3) (fun _=>?_)
  refine gaj ?_
  by_cases h4:op=[110,101,103]
  ·subst h4
   obtain ⟨x,rfl⟩:=List.length_eq_one_iff.1 (two rfl (by decide))
   have hx:=hnE x (List.mem_cons_self ..)
   refine oC rfl (fun _=>?_) (fun hc=>by cases hc)
   refine gab ?_
   refine oP (xR (el':=iv (needE c x)) (cs:=[_]) rfl rfl zo rfl rfl rfl) rfl ?_
   refine gac ?_
   exact retRet hj (zra rfl) (by rw[←hR];exact int_eq (by simp[opN,nNum,nVar,nElem,nNeg,needEs]))
  refine oC rfl (fun hc=>absurd (zt hc) h4) (fun _=>?_)
  refine gaj ?_
  by_cases h5:op=[110,111,116]
  ·subst h5
   obtain ⟨x,rfl⟩:=List.length_eq_one_iff.1 (two rfl (by decide))
   refine oC rfl (fun _=>?_) (fun hc=>by cases hc)
   refine gab ?_
   refine oP (xR (el':=iv (needE c x)) (cs:=[_]) rfl rfl zo rfl rfl rfl) rfl ?_
   refine gac ?_
   refine oS (S.lit (es:=[2,needE c x].map iv) [_,_] rfl (iv_els _) rfl rfl rfl ?_) rfl
   refine oS (S.fn [_] rfl (most_spec 2 [needE c x] (by simp)) ?_) rfl
   refine gal ?_
   exact retRet hj (zra rfl) (by rw[←hR];rfl)
  refine oC rfl (fun hc=>absurd (zt hc) h5) (fun _=>?_)
  refine gaj ?_
  have hbin:op≠[99,97,108,108]→args.length=2:=fun h6=>by
   unfold opnds at hop
   rw[if_neg (fun h=>h.elim h1 h2),if_neg (fun h=>h.elim h3 (fun h=>h.elim h4 h5)),if_neg (show ¬ op=nCall from h6)] at hop
   split at hop <;> rcases hop with h|h <;> omega
  have pair:op≠[99,97,108,108]→∃ x y,args=[x,y]:=fun h6=>by
   have:=hbin h6
   match args,this with
   |[x,y],_=>exact ⟨x,y,rfl⟩
  by_cases h6:op=[62]
  ·subst h6
   obtain ⟨x,y,rfl⟩:=pair (by decide)
   have hx:=hnE x (List.mem_cons_self ..)
   have hy:=hnE y (List.mem_cons_of_mem _ (List.mem_cons_self ..))
   refine oC rfl (fun _=>?_) (fun hc=>by cases hc)
   refine gas ?_
   refine oC rfl (fun _=>?_) (fun hc=>by cases hc)
   refine gad ?_
   refine LCode.tail 7 zk ?_
   refine gac ?_
   refine LS.pure (xR (el':=iv (needE c x)) (cs:=[_]) rfl rfl zo rfl rfl rfl) rfl ?_
   refine gac ?_
   refine LS.pure (xR (el':=iv (needE c y)) (cs:=[_]) rfl rfl zo rfl rfl rfl) rfl ?_
   refine gaf ?_
   refine oS (S.lit (es:=[3,needE c x,1+needE c y].map iv) [_,_,_] rfl (iv_els _) rfl rfl rfl ?_) rfl
   refine oS (S.fn [_] rfl (most_spec 3 [needE c x,1+needE c y] (by simp)) ?_) rfl
   refine gal ?_
   exact retRet hj (zra rfl) (by rw[←hR];rfl)
  refine oC rfl (fun hc=>absurd (zt hc) h6) (fun _=>?_)
  refine gaj ?_
  by_cases h7:op=[60,61]
  ·subst h7
   obtain ⟨x,y,rfl⟩:=pair (by decide)
   have hx:=hnE x (List.mem_cons_self ..)
   have hy:=hnE y (List.mem_cons_of_mem _ (List.mem_cons_self ..))
   refine oC rfl (fun _=>?_) (fun hc=>by cases hc)
   refine gad ?_
   refine LCode.tail 7 zk ?_
   refine gac ?_
   refine LS.pure (xR (el':=iv (needE c x)) (cs:=[_]) rfl rfl zo rfl rfl rfl) rfl ?_
   refine gac ?_
   refine LS.pure (xR (el':=iv (needE c y)) (cs:=[_]) rfl rfl zo rfl rfl rfl) rfl ?_
   refine gaf ?_
   refine oS (S.lit (es:=[3,needE c x,1+needE c y].map iv) [_,_,_] rfl (iv_els _) rfl rfl rfl ?_) rfl
   refine oS (S.fn [_] rfl (most_spec 3 [needE c x,1+needE c y] (by simp)) ?_) rfl
   refine gal ?_
   exact retRet hj (zra rfl) (by rw[←hR];rfl)
  refine oC rfl (fun hc=>absurd (zt hc) h7) (fun _=>?_)
  refine gaj ?_
  by_cases h8:op=[33,61]
  ·subst h8
   obtain ⟨x,y,rfl⟩:=pair (by decide)
   have hx:=hnE x (List.mem_cons_self ..)
   have hy:=hnE y (List.mem_cons_of_mem _ (List.mem_cons_self ..))
   refine oC rfl (fun _=>?_) (fun hc=>by cases hc)
   refine gad ?_
   refine LCode.tail 8 zk ?_
   refine gac ?_
   refine LS.pure (xR (el':=iv (needE c x)) (cs:=[_]) rfl rfl zo rfl rfl rfl) rfl ?_
   refine gac ?_
   refine LS.pure (xR (el':=iv (needE c y)) (cs:=[_]) rfl rfl zo rfl rfl rfl) rfl ?_
   refine gaf ?_
   refine oS (S.lit (es:=[3,1+needE c x,2+needE c y].map iv) [_,_,_] rfl (iv_els _) rfl rfl rfl ?_) rfl
   refine oS (S.fn [_] rfl (most_spec 3 [1+needE c x,2+needE c y] (by simp)) ?_) rfl
   refine gal ?_
   exact retRet hj (zra rfl) (by rw[←hR];rfl)
  refine oC rfl (fun hc=>absurd (zt hc) h8) (fun _=>?_)
  refine gaj ?_
  by_cases h9:op=[38,38]
  ·subst h9
   obtain ⟨x,y,rfl⟩:=pair (by decide)
   have hx:=hnE x (List.mem_cons_self ..)
   have hy:=hnE y (List.mem_cons_of_mem _ (List.mem_cons_self ..))
   refine oC rfl (fun _=>?_) (fun hc=>by cases hc)
   refine gad ?_
   refine LCode.tail 8 zk ?_
   refine gac ?_
   refine LS.pure (xR (el':=iv (needE c x)) (cs:=[_]) rfl rfl zo rfl rfl rfl) rfl ?_
   refine gac ?_
   refine LS.pure (xR (el':=iv (needE c y)) (cs:=[_]) rfl rfl zo rfl rfl rfl) rfl ?_
   refine gaf ?_
   refine oS (S.lit (es:=[1+needE c x,2+needE c y].map iv) [_,_] rfl (iv_els _) rfl rfl rfl ?_) rfl
   refine oS (S.fn [_] rfl (most_spec (1+needE c x) [2+needE c y] (by simp)) ?_) rfl
   refine gal ?_
   exact retRet hj (zra rfl) (by rw[←hR];rfl)
  refine oC rfl (fun hc=>absurd (zt hc) h9) (fun _=>?_)
  refine gaj ?_
  by_cases h10:op=[124,124]
  ·subst h10
   obtain ⟨x,y,rfl⟩:=pair (by decide)
   have hx:=hnE x (List.mem_cons_self ..)
   have hy:=hnE y (List.mem_cons_of_mem _ (List.mem_cons_self ..))
   refine oC rfl (fun _=>?_) (fun hc=>by cases hc)
   refine gad ?_
   refine LCode.tail 8 zk ?_
   refine gac ?_
   refine LS.pure (xR (el':=iv (needE c x)) (cs:=[_]) rfl rfl zo rfl rfl rfl) rfl ?_
   refine gac ?_
   refine LS.pure (xR (el':=iv (needE c y)) (cs:=[_]) rfl rfl zo rfl rfl rfl) rfl ?_
   refine gaf ?_
   refine oS (S.lit (es:=[2+needE c x,3+needE c y].map iv) [_,_] rfl (iv_els _) rfl rfl rfl ?_) rfl
   refine oS (S.fn [_] rfl (most_spec (2+needE c x) [3+needE c y] (by simp)) ?_) rfl
   refine gal ?_
   exact retRet hj (zra rfl) (by rw[←hR];rfl)
  refine oC rfl (fun hc=>absurd (zt hc) h10) (fun _=>?_)
  refine gaj ?_
  by_cases h11:op=[99,97,108,108]
  rotate_left
  ·obtain ⟨x,y,rfl⟩:=pair h11
   have hx:=hnE x (List.mem_cons_self ..)
   have hy:=hnE y (List.mem_cons_of_mem _ (List.mem_cons_self ..))
   have hR2:iv (mostN [2,needE c x,1+needE c y])=R:=by
    rw[←hR]
    unfold opN
    rw[if_neg (fun h=>h.elim h1 h2),if_neg (fun h=>h.elim h3 h4),if_neg (show ¬ op=nCall from h11),if_neg (show ¬ op=nNot from h5),if_neg (fun h=>h.elim h6 h7),if_neg h8,if_neg h9,if_neg h10]
    rfl
   refine oC rfl (fun hc=>absurd (zt hc) h11) (fun _=>?_)
   refine gad ?_
   refine LCode.tail 7 zk ?_
   refine gac ?_
   refine LS.pure (xR (el':=iv (needE c x)) (cs:=[_]) rfl rfl zo rfl rfl rfl) rfl ?_
   refine gac ?_
   refine LS.pure (xR (el':=iv (needE c y)) (cs:=[_]) rfl rfl zo rfl rfl rfl) rfl ?_
   refine gaf ?_
   refine oS (S.lit (es:=[2,needE c x,1+needE c y].map iv) [_,_,_] rfl (iv_els _) rfl rfl rfl ?_) rfl
   refine oS (S.fn [_] rfl (most_spec 2 [needE c x,1+needE c y] (by simp)) ?_) rfl
   refine gam ?_
   exact retRet hj (zra rfl) hR2
  subst h11
  have hcl:callE c name args.length=0:=hue
  have hcall:iv (refCall c name (needEs c args))=R:=by
   rw[←hR,refCall_eq hd (by rw[needEs_len];exact hcl)]
   rfl
  unfold refCall at hcall
  refine oC rfl (fun _=>?_) (fun hc=>by cases hc)
  refine gab ?_
  by_cases h12:name=[105,110]
  ·subst h12
   refine oC rfl (fun _=>?_) (fun hc=>by cases hc)
   refine ga1 ?_
   exact retRet hj (zra rfl) hcall
  rw[if_neg h12] at hcall
  refine oC rfl (fun hc=>absurd (zt hc) h12) (fun _=>?_)
  refine gab ?_
  by_cases h13:name=[111,117,116]
  ·subst h13
   obtain ⟨x,rfl⟩:=List.length_eq_one_iff.1 (show args.length=1 by
    unfold callE at hcl
    rw[if_neg (by decide),if_pos rfl] at hcl
    exact Decidable.byContradiction fun h=>by rw[if_neg h] at hcl;cases hcl)
   refine oC rfl (fun _=>?_) (fun hc=>by cases hc)
   refine gab ?_
   refine oP (xR (el':=iv (needE c x)) (cs:=[_]) rfl rfl zo rfl rfl rfl) rfl ?_
   refine gac ?_
   exact retRet hj (zra rfl) hcall
  rw[if_neg h13] at hcall
  refine oC rfl (fun hc=>absurd (zt hc) h13) (fun _=>?_)
  have hns:∀ q∈needEs c args,q≤500000000:=fun q hq=>by
   have:∀ l:List Ex,(∀ x∈l,needE c x≤500000000)→∀ q∈needEs c l,q≤500000000:=fun l=>by
    induction l with
    |nil=>intro _ q hq;rw[needEs] at hq;cases hq
    |cons y l ih=>
     intro h q hq
     rw[needEs] at hq
     rcases List.mem_cons.1 hq with rfl|hq
     ·exact h y (List.mem_cons_self ..)
     ·exact ih (fun x hx=>h x (List.mem_cons_of_mem _ hx)) q hq
   exact this args hnE q hq
  have hnl:(needEs c args).length=args.length:=needEs_len c args
  have hnsl:(needEs c args).length≤100000000:=by omega
  generalize needEs c args=ns at hcall hns hnl hnsl ⊢
  have hmn:((ns.map iv).length:Int)≤100000000:=by rw[List.length_map];omega
  refine gab ?_
  refine oL (fun kk ls H'=>∃ (pre l1:List Nat) (m:Nat),ns=pre++l1∧kk=l1.length∧ls=[(1,.list (fs.map encFn)),(2,.list ((c.funcs.map (·.need)).map iv)),(3,ptr b3 0),(7,.list (ns.map iv)),(10,iv m),(112,int .i64 ((ns.map iv).length:Int)),(113,int .i64 (pre.length:Int))] ∧
    H'=[exH b3 [99,97,108,108] num name args]∧stair 0 ns (ns.length+1)=stair pre.length l1 m)
   ⟨_,_,_,⟨[],ns,ns.length+1,rfl,rfl,rfl,rfl,rfl⟩,⟨rfl,rfl,rfl,rfl,int_eq (by simp),rfl,rfl,trivial⟩,HSub.refl _⟩ ?_
  rintro kk ls H' ⟨pre,l1,m,hL,rfl,rfl,rfl,hI2⟩ j2 hj2
  have hb:=pre_le hL hnsl
  refine gak ?_
  refine oC rfl (fun hc=>?_) (fun hc=>?_)
  ·obtain ⟨a,l2,rfl⟩:=more hL hc
   have ha:=hns a (by rw[hL];exact List.mem_append_right _ (List.mem_cons_self ..))
   rw[stair] at hI2
   refine gab ?_
   refine oP (xR (el':=iv a) (cs:=[_]) rfl rfl zo (by rw[hL];exact get_mid iv pre a l2) rfl rfl) rfl ?_
   refine gac ?_
   refine oS (S.lit (es:=[m,pre.length+a].map iv) [_,_] rfl (iv_els _) rfl rfl rfl ?_) rfl
   refine oS (S.fn [_] rfl (most_spec m [pre.length+a] (by simp)) ?_) rfl
   refine gab ?_
   exact ⟨l2.length,_,_,Nat.lt_succ_self _,⟨pre++[a],l2,max m (pre.length+a),snoc hL,rfl,rfl,rfl,by rw[hI2,List.length_append];rfl⟩,⟨rfl,rfl,rfl,rfl,rfl,rfl,int_eq (by simp),trivial⟩,HSub.refl _,hj2⟩
  obtain rfl:=none_left hL hc
  have hI3:stair 0 ns (ns.length+1)=m:=hI2
  rw[hI3] at hcall
  refine gab ?_
  refine oL (fun kk ls H'=>∃ (pre l1:List FnD) (cp cl:List FSum) (m:Nat),fs=pre++l1∧c.funcs=cp++cl∧cp.length=pre.length∧kk=l1.length∧ls=[(1,.list (fs.map encFn)),(2,.list ((c.funcs.map (·.need)).map iv)),(3,ptr b3 0),(10,iv m),(126,.list (fs.map encFn)),(127,int .i64 ((fs.map encFn).length:Int)),(128,int .i64 (pre.length:Int))] ∧
    H'=[exH b3 [99,97,108,108] num name args]∧cl.map (·.name)=l1.map (·.name)∧R=iv (overF (·.need) name cl m))
   ⟨_,_,_,⟨[],fs,[],c.funcs,m,rfl,rfl,rfl,rfl,rfl,rfl,hfn,hcall.symm⟩,⟨rfl,rfl,rfl,rfl,rfl,rfl,rfl,trivial⟩,HSub.refl _⟩ ?_
  rintro kk ls H' ⟨pre,l1,cp,cl,m,hL,hC,hcp,rfl,rfl,rfl,hcl,hI4⟩ j3 hj3
  have hb:=pre_le hL hfl
  refine gak ?_
  refine oC rfl (fun hc=>?_) (fun hc=>?_)
  ·obtain ⟨a,l2,rfl⟩:=more hL hc
   obtain ⟨s,cl,rfl⟩:∃ s l,cl=s::l:=by
    cases cl with
    |nil=>simp at hcl
    |cons s l=>exact ⟨s,l,rfl⟩
   rw[List.map_cons,List.map_cons] at hcl
   injection hcl with hs hcl
   have hget:((c.funcs.map (·.need)).map iv)[((pre.length:Nat):Int).toNat]? = some (iv s.need):=by
    rw[hC,List.map_map,←hcp]
    exact get_mid _ cp s cl
   refine gab ?_
   refine oP (xR (el':=encFn a) (cs:=[_,_,_,_]) rfl rfl zo (by rw[hL];exact get_mid encFn pre a l2) rfl rfl) rfl ?_
   refine ga3 ?_
   refine oS (S.alloc fun b13=>?_) rfl
   refine gaa ?_
   by_cases h14:a.name=name
   ·refine oC rfl (fun _=>?_) (fun hd=>absurd h14 (zf hd))
    refine gab ?_
    refine oP (xR (el':=iv s.need) (cs:=[_]) rfl rfl zo hget rfl rfl) rfl ?_
    refine gac ?_
    refine oS (S.lit (es:=[m,s.need].map iv) [_,_] rfl (iv_els _) rfl rfl rfl ?_) rfl
    refine oS (S.fn [_] rfl (most_spec m [s.need] (by simp)) ?_) rfl
    refine gab ?_
    exact ⟨l2.length,_,_,Nat.lt_succ_self _,⟨pre++[a],l2,cp++[s],cl,max m s.need,snoc hL,snoc hC,by simp[hcp],rfl,rfl,rfl,hcl,by rw[hI4];unfold overF;rw[List.foldl_cons,if_pos (hs.trans h14)]⟩,⟨rfl,rfl,rfl,rfl,rfl,rfl,int_eq (by simp),trivial⟩,zhD zhr,hj3⟩
   ·refine oC rfl (fun hd=>absurd (zt hd) h14) (fun _=>?_)
    refine gab ?_
    exact ⟨l2.length,_,_,Nat.lt_succ_self _,⟨pre++[a],l2,cp++[s],cl,m,snoc hL,snoc hC,by simp[hcp],rfl,rfl,rfl,hcl,by rw[hI4];unfold overF;rw[List.foldl_cons,if_neg (fun h=>h14 (hs.symm.trans h))]⟩,⟨rfl,rfl,rfl,rfl,rfl,rfl,int_eq (by simp),trivial⟩,zhD zhr,hj3⟩
  obtain rfl:=none_left hL hc
  have hcl0:cl=[]:=by
   cases cl with
   |nil=>rfl
   |cons s l=>simp at hcl
  subst hcl0
  refine gab ?_
  exact retRet ((hj3.trans hj2).trans hj) (zra rfl) hI4.symm
end
end Go.Proofs.YtcbpcianefpniaaGreatDoor.RC
namespace Go.Proofs.YtcbpcianefpniaaGreatDoor.RC
open Go.GL Go.RowKit Go.Stele
set_option maxRecDepth 100000
set_option maxHeartbeats 4000000
theorem lastN_snoc (c:CEnv) (pre:List Ex) (a:Ex):lastN (needEs c (pre++[a]))=needE c a:=by
 rw[needEs_snoc]
 unfold lastN
 rw[List.getLast?_append]
 rfl
theorem lastN_le {c:CEnv} {M:Nat} {l:List Ex} (h:∀ x∈l,needE c x≤M):lastN (needEs c l)≤M:=by
 rcases List.eq_nil_or_concat l with rfl|⟨pre,a,rfl⟩
 ·rw[needEs];exact Nat.zero_le _
 ·rw[List.concat_eq_append,lastN_snoc]
  exact h a (by simp)
theorem needS_by {c:CEnv} (hd:Dist c.funcs) {kind:Int} {name:Nm} {index value:List Ex} {thn els:List Sm} (h:errS c (.mk kind name index value thn els)=0) :
  needS c (.mk kind name index value thn els)=if kind=1∨kind=6 then max 2 (lastN (needEs c value)) else if kind=2 then max (lastN (needEs c value)) (2+lastN (needEs c index))
   else if kind=3∨kind=4 then max (max (max 2 (lastN (needEs c value))) (needSs c thn)) (needSs c els) else if kind=5 then lastN (needEs c value) else 0:=by
 rw[←refS_eq hd _ h]
 rw[errS] at h
 split at h
 ·cases h
 obtain ⟨h1,h⟩:=orE_zero.1 h
 obtain ⟨h2,h⟩:=orE_zero.1 h
 obtain ⟨_,h⟩:=orE_zero.1 h
 obtain ⟨h3,h4⟩:=orE_zero.1 h
 rw[refS,refEs_eq hd value h1,refEs_eq hd index h2,refSs_eq hd thn h3,refSs_eq hd els h4]
attribute [local irreducible] LOps LCode LStep LCalls Go.GL.Pure QThen QBlock RetPost LQ LAny LLate LLateOp LS
section
variable {B0:Nat} {w0:World}
def NeedsH (B0:Nat) (w0:World) (c:CEnv) (fs:List FnD) (n:Nat):Prop:=∀ l:List Sm,errSs c l=0→ndSs l<n→LCalls (KC B0 w0) 106 [.list (l.map encS),.list (fs.map encFn),.list ((c.funcs.map (·.need)).map iv)] [] (Ret (iv (needSs c l)))
theorem needs_spec {c:CEnv} {fs:List FnD} (hfl:fs.length≤100000000) (hfn:c.funcs.map (·.name)=fs.map (·.name)) (hd:Dist c.funcs) {B D:Nat} (hB:KnB B D c.funcs) (hB8:B≤100000000):∀ n:Nat,n≤100000000→NeedsH B0 w0 c fs n
 |0,_=>fun x _ h=>by omega
 |n+1,hn6=>by
  have ih:=needs_spec hfl hfn hd hB hB8 n zo
  have hN:NeedH B0 w0 c fs n:=Need_spec hfl hfn hd hB hB8 n zo
  intro l herr hnd
  have hal:=ndSs_len l
  generalize hR:needSs c l=R
  refine cI Tryz.func106 rfl (n:=88) rfl rfl rfl ?_
  refine gab ?_
  refine oL (fun kk ls H'=>∃ (pre l1:List Sm) (m:Nat),l=pre++l1∧kk=l1.length∧ls=[(1,.list (fs.map encFn)),(2,.list ((c.funcs.map (·.need)).map iv)),(7,iv m),(16,.list (l.map encS)),(17,int .i64 ((l.map encS).length:Int)),(18,int .i64 (pre.length:Int))] ∧
    H'=[]∧errSs c l1=0∧R=max m (needSs c l1))
   ⟨_,_,_,⟨[],l,0,rfl,rfl,rfl,rfl,herr,by rw[hR,Nat.zero_max]⟩,⟨rfl,rfl,rfl,rfl,rfl,rfl,trivial⟩,HSub.refl _⟩ ?_
  rintro kk ls H' ⟨pre,l1,m,hL,rfl,rfl,rfl,hI2,hI3⟩ j hj
  have hb:=pre_le hL (show l.length≤100000000 by omega)
  refine gak ?_
  refine oC rfl (fun hc=>?_) (fun hc=>?_)
  rotate_left
  ·obtain rfl:=none_left hL hc
   refine gab ?_
   exact retRet hj (zra rfl) (iv_eq (by rw[hI3,needSs,Nat.max_zero]))
  obtain ⟨a,l2,rfl⟩:=more hL hc
  have ham:ndS a≤ndSs l:=ndSs_mem (by rw[hL];exact List.mem_append_right _ (List.mem_cons_self ..))
  obtain ⟨kind,name,index,value,thn,els⟩:=a
  rw[errSs] at hI2
  obtain ⟨he1,he2⟩:=orE_zero.1 hI2
  have hby:=needS_by hd he1
  rw[errS] at he1
  rw[ndS] at ham
  have hform:formS (.mk kind name index value thn els)=true:=by
   cases hf:formS (.mk kind name index value thn els) with
   |true=>rfl
   |false=>rw[if_pos hf] at he1;cases he1
  rw[if_neg (by rw[hform];decide)] at he1
  obtain ⟨hev,he1⟩:=orE_zero.1 he1
  obtain ⟨hei,he1⟩:=orE_zero.1 he1
  obtain ⟨_,he1⟩:=orE_zero.1 he1
  obtain ⟨het,hee⟩:=orE_zero.1 he1
  rw[needSs] at hI3
  have hle:∀ l:List Ex,ndEs l≤ndSs (pre++Sm.mk kind name index value thn els::l2)→lastN (needEs c l)≤500000000:=fun l4 h4=>lastN_le fun x hx=>by
   have h1:=needE_le B D c hB x
   have h2:=ndEs_mem hx
   rw[←hL] at h4
   omega
  have hV:=hle value (by rw[←hL];omega)
  have hX:=hle index (by rw[←hL];omega)
  refine gan ?_
  refine oP (xR (el':=.agg [int .i64 kind,str name,.list (index.map encE),.list (value.map encE),.list (thn.map encS),.list (els.map encS)]) (cs:=[_,_,_,_,_,_]) rfl rfl zo (by rw[hL,←encS_mk];exact get_mid encS pre _ l2) rfl rfl) rfl ?_
  refine gac ?_
  refine oS (S.alloc fun b9=>?_) rfl
  refine gaa ?_
  refine oL (fun kk ls H'=>∃ (p2 l3:List Ex),value=p2++l3∧kk=l3.length∧ls=[(1,.list (fs.map encFn)),(2,.list ((c.funcs.map (·.need)).map iv)),(7,iv m),(9,ptr b9 0),(10,iv (lastN (needEs c p2))),(11,iv 0),(16,.list (l.map encS)),(17,int .i64 ((l.map encS).length:Int)),(18,int .i64 (pre.length:Int)),(23,.list (value.map encE)),(24,int .i64 ((value.map encE).length:Int)),(25,int .i64 (p2.length:Int))] ∧
    H'=[smH b9 kind name index value thn els]∧errEs c l3=0)
   ⟨_,_,_,⟨[],value,rfl,rfl,rfl,rfl,hev⟩,⟨rfl,rfl,rfl,rfl,rfl,rfl,rfl,rfl,rfl,rfl,rfl,rfl,trivial⟩,HSub.refl _⟩ ?_
  rintro kk ls H' ⟨p2,l3,hL2,rfl,rfl,rfl,hI4⟩ j2 hj2
  have hval:=ndEs_len value
  have hb2:=pre_le hL2 (show value.length≤100000000 by omega)
  refine gak ?_
  refine oC rfl (fun hc2=>?_) (fun hc2=>?_)
  ·obtain ⟨a,l4,rfl⟩:=more hL2 hc2
   have ham2:ndE a≤ndEs value:=ndEs_mem (by rw[hL2];exact List.mem_append_right _ (List.mem_cons_self ..))
   rw[errEs] at hI4
   obtain ⟨h1,h2⟩:=orE_zero.1 hI4
   refine gan ?_
   refine oP (xR (el':=encE a) (cs:=[_,_,_,_]) rfl rfl zo (by rw[hL2];exact get_mid encE p2 a l4) rfl rfl) rfl ?_
   refine ga3 ?_
   refine oS (S.alloc fun b13=>?_) rfl
   refine gaa ?_
   refine oS (S.fn [_,_,_] rfl (hN a h1 zo) ?_) rfl
   refine gab ?_
   exact ⟨l4.length,_,_,Nat.lt_succ_self _,⟨p2++[a],l4,snoc hL2,rfl,rfl,rfl,h2⟩,⟨rfl,rfl,rfl,rfl,iv_eq (lastN_snoc c p2 a).symm,rfl,rfl,rfl,rfl,rfl,rfl,int_eq (by simp),trivial⟩,zhD zhr,hj2⟩
  obtain rfl:=none_left hL2 hc2
  rw[List.append_nil] at hL2
  subst hL2
  refine gaa ?_
  refine oL (fun kk ls H'=>∃ (p3 l3:List Ex),index=p3++l3∧kk=l3.length∧ls=[(1,.list (fs.map encFn)),(2,.list ((c.funcs.map (·.need)).map iv)),(7,iv m),(9,ptr b9 0),(10,iv (lastN (needEs c value))),(11,iv (lastN (needEs c p3))),(16,.list (l.map encS)),(17,int .i64 ((l.map encS).length:Int)),(18,int .i64 (pre.length:Int)),(35,.list (index.map encE)),(36,int .i64 ((index.map encE).length:Int)),(37,int .i64 (p3.length:Int))] ∧
    H'=[smH b9 kind name index value thn els]∧errEs c l3=0)
   ⟨_,_,_,⟨[],index,rfl,rfl,rfl,rfl,hei⟩,⟨rfl,rfl,rfl,rfl,rfl,rfl,rfl,rfl,rfl,rfl,rfl,rfl,trivial⟩,HSub.refl _⟩ ?_
  rintro kk ls H' ⟨p3,l3,hL3,rfl,rfl,rfl,hI5⟩ j3 hj3
  have hixl:=ndEs_len index
  have hb3:=pre_le hL3 (show index.length≤100000000 by omega)
  refine gak ?_
  refine oC rfl (fun hc2=>?_) (fun hc2=>?_)
  ·obtain ⟨a,l4,rfl⟩:=more hL3 hc2
   have ham2:ndE a≤ndEs index:=ndEs_mem (by rw[hL3];exact List.mem_append_right _ (List.mem_cons_self ..))
   rw[errEs] at hI5
   obtain ⟨h1,h2⟩:=orE_zero.1 hI5
   refine gan ?_
   refine oP (xR (el':=encE a) (cs:=[_,_,_,_]) rfl rfl zo (by rw[hL3];exact get_mid encE p3 a l4) rfl rfl) rfl ?_
   refine ga3 ?_
   refine oS (S.alloc fun b13=>?_) rfl
   refine gaa ?_
   refine oS (S.fn [_,_,_] rfl (hN a h1 zo) ?_) rfl
   refine gab ?_
   exact ⟨l4.length,_,_,Nat.lt_succ_self _,⟨p3++[a],l4,snoc hL3,rfl,rfl,rfl,h2⟩,⟨rfl,rfl,rfl,rfl,rfl,iv_eq (lastN_snoc c p3 a).symm,rfl,rfl,rfl,rfl,rfl,int_eq (by simp),trivial⟩,zhD zhr,hj3⟩
  obtain rfl:=none_left hL3 hc2
  rw[List.append_nil] at hL3
  subst hL3
  rw[hby] at hI3
  generalize lastN (needEs c value)=nv at hI3 hV ⊢
  generalize lastN (needEs c index)=ni at hI3 hX ⊢
  have hjj:=hj3.trans (hj2.trans hj)
  have fin:∀ {m2:Nat},R=max m2 (needSs c l2)→∀ {e:Env} {H:Heap},e.s 1=.list (fs.map encFn)→e.s 2=.list ((c.funcs.map (·.need)).map iv)→e.s 7=iv m2→e.s 16=.list (l.map encS)→e.s 17=int .i64 ((l.map encS).length:Int)→e.s 18=int .i64 ((pre.length:Int)+1)→e.ds=(argsEnv [.list (l.map encS),.list (fs.map encFn),.list ((c.funcs.map (·.need)).map iv)]).ds →
    Again (fun kk ls H'=>∃ (pre l1:List Sm) (m:Nat),l=pre++l1∧kk=l1.length∧ls=[(1,.list (fs.map encFn)),(2,.list ((c.funcs.map (·.need)).map iv)),(7,iv m),(16,.list (l.map encS)),(17,int .i64 ((l.map encS).length:Int)),(18,int .i64 (pre.length:Int))]∧H'=[]∧errSs c l1=0∧R=max m (needSs c l1)) (Sm.mk kind name index value thn els::l2).length [] e H:=
   fun {m2} hm {e H} e1 e2 e7 e16 e17 e18 hd2=>⟨l2.length,_,_,Nat.lt_succ_self _,⟨pre++[Sm.mk kind name index value thn els],l2,m2,snoc hL,rfl,rfl,rfl,he2,hm⟩,⟨e1,e2,e7,e16,e17,e18.trans (int_eq (by simp)),trivial⟩,HSub.nil _,hd2⟩
  refine gab ?_
  by_cases k1:kind=1
  ·subst k1
   rw[if_pos (.inl rfl)] at hI3
   refine oC rfl (fun _=>?_) (fun hd=>by cases hd)
   refine gas ?_
   refine oC rfl (fun _=>?_) (fun hd=>by cases hd)
   refine gae ?_
   refine oS (S.lit (es:=[m,2,nv].map iv) [_,_,_] rfl (iv_els _) rfl rfl rfl ?_) rfl
   refine oS (S.fn [_] rfl (most_spec m [2,nv] (by simp)) ?_) rfl
   refine gab ?_
   exact fin (m2:=mostN [m,2,nv]) (by rw[hI3];show _=max (max (max m 2) nv) _;omega) rfl rfl rfl rfl rfl rfl hjj
  refine oC rfl (fun hd=>absurd (zt hd) k1) (fun _=>?_)
  refine gaw ?_
  by_cases k6:kind=6
  ·subst k6
   rw[if_pos (.inr rfl)] at hI3
   refine oC rfl (fun _=>?_) (fun hd=>by cases hd)
   refine gae ?_
   refine oS (S.lit (es:=[m,2,nv].map iv) [_,_,_] rfl (iv_els _) rfl rfl rfl ?_) rfl
   refine oS (S.fn [_] rfl (most_spec m [2,nv] (by simp)) ?_) rfl
   refine gab ?_
   exact fin (m2:=mostN [m,2,nv]) (by rw[hI3];show _=max (max (max m 2) nv) _;omega) rfl rfl rfl rfl rfl rfl hjj
  rw[if_neg (fun h=>h.elim k1 k6)] at hI3
  refine oC rfl (fun hd=>absurd (zt hd) k6) (fun _=>?_)
  refine gaw ?_
  by_cases k2:kind=2
  ·subst k2
   rw[if_pos rfl] at hI3
   refine oC rfl (fun _=>?_) (fun hd=>by cases hd)
   refine ga0 ?_
   refine oS (S.lit (es:=[m,nv,2+ni].map iv) [_,_,_] rfl (iv_els _) rfl rfl rfl ?_) rfl
   refine oS (S.fn [_] rfl (most_spec m [nv,2+ni] (by simp)) ?_) rfl
   refine gab ?_
   exact fin (m2:=mostN [m,nv,2+ni]) (by rw[hI3];show _=max (max (max m nv) (2+ni)) _;omega) rfl rfl rfl rfl rfl rfl hjj
  rw[if_neg k2] at hI3
  refine oC rfl (fun hd=>absurd (zt hd) k2) (fun _=>?_)
  refine gaw ?_
  by_cases k3:kind=3
  ·rw[if_pos (.inl k3)] at hI3
   refine oC rfl (fun _=>?_) (fun hd=>absurd k3 (zf hd))
   refine gas ?_
   refine oC rfl (fun _=>?_) (fun hd=>absurd k3 (zf hd))
   refine LCode.draw (m:=15) rfl [smH b9 kind name index value thn els] ?_
   refine aT 0 rfl rfl (Pure.mv (lv:=.atom _) rfl) ?_
   refine aT 1 rfl rfl (Pure.mv (lv:=.atom _) rfl) ?_
   refine aT 2 rfl rfl (Pure.fieldH rfl) ?_
   refine aT 3 rfl rfl (Pure.loadH (c:=.list _) rfl zm0 rfl) ?_
   refine aT 4 rfl rfl (Pure.mv (lv:=.list _) rfl) ?_
   refine aT 5 rfl rfl (Pure.mv (lv:=.list _) rfl) ?_
   refine aT 7 rfl rfl (Pure.fieldH rfl) ?_
   refine aT 8 rfl rfl (Pure.loadH (c:=.list _) rfl zm0 rfl) ?_
   refine aT 9 rfl rfl (Pure.mv (lv:=.list _) rfl) ?_
   refine aT 10 rfl rfl (Pure.mv (lv:=.list _) rfl) ?_
   refine LAny.late ?_ zhr
   refine lO 6 (lS (H1:=[]) rfl (.inl rfl) rfl zpr zhr (S.fn [_,_,_] rfl (ih thn het zo) ?_))
   refine lO 11 (lS (H1:=[]) rfl (.inl rfl) rfl zpr zhr (S.fn [_,_,_] rfl (ih els hee zo) ?_))
   refine lO 12 (lS (H1:=[]) rfl (.inl rfl) rfl zpr zhr (S.lit (es:=[m,2,nv,needSs c thn,needSs c els].map iv) [_,_,_,_,_] rfl (iv_els _) rfl rfl rfl ?_))
   refine lO 13 (lS (H1:=[]) rfl (.inl rfl) rfl zpr zhr (S.fn [_] rfl (most_spec m [2,nv,needSs c thn,needSs c els] (by simp)) ?_))
   refine lO 14 (lH rfl rfl (Pure.as (lv:=.atom _) rfl) ?_)
   refine lD zk ?_
   refine ga0 ?_
   exact fin (m2:=mostN [m,2,nv,needSs c thn,needSs c els]) (by rw[hI3];show _=max (max (max (max (max m 2) nv) (needSs c thn)) (needSs c els)) _;omega) rfl rfl rfl rfl rfl rfl hjj
  refine oC rfl (fun hd=>absurd (zt hd) k3) (fun _=>?_)
  refine gaw ?_
  by_cases k4:kind=4
  ·rw[if_pos (.inr k4)] at hI3
   refine oC rfl (fun _=>?_) (fun hd=>absurd k4 (zf hd))
   refine LCode.draw (m:=15) rfl [smH b9 kind name index value thn els] ?_
   refine aT 0 rfl rfl (Pure.mv (lv:=.atom _) rfl) ?_
   refine aT 1 rfl rfl (Pure.mv (lv:=.atom _) rfl) ?_
   refine aT 2 rfl rfl (Pure.fieldH rfl) ?_
   refine aT 3 rfl rfl (Pure.loadH (c:=.list _) rfl zm0 rfl) ?_
   refine aT 4 rfl rfl (Pure.mv (lv:=.list _) rfl) ?_
   refine aT 5 rfl rfl (Pure.mv (lv:=.list _) rfl) ?_
   refine aT 7 rfl rfl (Pure.fieldH rfl) ?_
   refine aT 8 rfl rfl (Pure.loadH (c:=.list _) rfl zm0 rfl) ?_
   refine aT 9 rfl rfl (Pure.mv (lv:=.list _) rfl) ?_
   refine aT 10 rfl rfl (Pure.mv (lv:=.list _) rfl) ?_
   refine LAny.late ?_ zhr
   refine lO 6 (lS (H1:=[]) rfl (.inl rfl) rfl zpr zhr (S.fn [_,_,_] rfl (ih thn het zo) ?_))
   refine lO 11 (lS (H1:=[]) rfl (.inl rfl) rfl zpr zhr (S.fn [_,_,_] rfl (ih els hee zo) ?_))
   refine lO 12 (lS (H1:=[]) rfl (.inl rfl) rfl zpr zhr (S.lit (es:=[m,2,nv,needSs c thn,needSs c els].map iv) [_,_,_,_,_] rfl (iv_els _) rfl rfl rfl ?_))
   refine lO 13 (lS (H1:=[]) rfl (.inl rfl) rfl zpr zhr (S.fn [_] rfl (most_spec m [2,nv,needSs c thn,needSs c els] (by simp)) ?_))
   refine lO 14 (lH rfl rfl (Pure.as (lv:=.atom _) rfl) ?_)
   refine lD zk ?_
   refine ga0 ?_
   exact fin (m2:=mostN [m,2,nv,needSs c thn,needSs c els]) (by rw[hI3];show _=max (max (max (max (max m 2) nv) (needSs c thn)) (needSs c els)) _;omega) rfl rfl rfl rfl rfl rfl hjj
  rw[if_neg (fun h=>h.elim k3 k4)] at hI3
  refine oC rfl (fun hd=>absurd (zt hd) k4) (fun _=>?_)
  refine gaw ?_
  by_cases k5:kind=5
  ·rw[if_pos k5] at hI3
   refine oC rfl (fun _=>?_) (fun hd=>absurd k5 (zf hd))
   refine gae ?_
   refine oS (S.lit (es:=[m,nv].map iv) [_,_] rfl (iv_els _) rfl rfl rfl ?_) rfl
   refine oS (S.fn [_] rfl (most_spec m [nv] (by simp)) ?_) rfl
   refine gab ?_
   exact fin (m2:=mostN [m,nv]) (by rw[hI3];show _=max (max m nv) _;omega) rfl rfl rfl rfl rfl rfl hjj
  rw[if_neg k5] at hI3
  refine oC rfl (fun hd=>absurd (zt hd) k5) (fun _=>?_)
  refine gab ?_
  exact fin (m2:=m) (by rw[hI3];omega) rfl rfl rfl rfl rfl rfl hjj
end
end Go.Proofs.YtcbpcianefpniaaGreatDoor.RC
namespace Go.Proofs.YtcbpcianefpniaaGreatDoor.RC
open Go.GL Go.RowKit Go.Stele
set_option maxRecDepth 100000
set_option maxHeartbeats 4000000
mutual
theorem callsE_len:∀ x:Ex,(callsE x).length≤ndE x
 |.mk op num name args=>by
  rw[callsE,ndE,List.length_append]
  have:=callsEs_len args
  split <;> simp <;> omega
theorem callsEs_len:∀ l:List Ex,(callsEs l).length≤ndEs l
 |[]=>by rw[callsEs,ndEs];exact Nat.le_refl _
 |x::l=>by
  rw[callsEs,ndEs,List.length_append]
  have h1:=callsE_len x
  have h2:=callsEs_len l
  omega
end
mutual
theorem callsS_len:∀ x:Sm,(callsS x).length≤ndS x
 |.mk kind name index value thn els=>by
  rw[callsS,ndS,List.length_append,List.length_append]
  have h1:=callsEs_len (value++index)
  rw[ndEs_app] at h1
  have h2:=callsSs_len thn
  have h3:=callsSs_len els
  omega
theorem callsSs_len:∀ l:List Sm,(callsSs l).length≤ndSs l
 |[]=>by rw[callsSs,ndSs];exact Nat.le_refl _
 |x::l=>by
  rw[callsSs,ndSs,List.length_append]
  have h1:=callsS_len x
  have h2:=callsSs_len l
  omega
end
theorem callsEs_snoc (a:Ex):∀ l:List Ex,callsEs (l++[a])=callsEs l++callsE a
 |[]=>by
  show callsEs [a]=callsEs []++callsE a
  simp[callsEs]
 |x::l=>by
  show callsEs (x::(l++[a]))=_
  rw[callsEs,callsEs_snoc a l,callsEs,List.append_assoc]
theorem callsSs_snoc (a:Sm):∀ l:List Sm,callsSs (l++[a])=callsSs l++callsS a
 |[]=>by
  show callsSs [a]=callsSs []++callsS a
  simp[callsSs]
 |x::l=>by
  show callsSs (x::(l++[a]))=_
  rw[callsSs,callsSs_snoc a l,callsSs,List.append_assoc]
theorem ndSs_part {l pre:List Sm} {a:Sm} {l2:List Sm} (h:l=pre++a::l2):ndSs pre+ndS a≤ndSs l:=by
 have key:∀ p q:List Sm,ndSs (p++q)=ndSs p+ndSs q:=fun p q=>by
  induction p with
  |nil=>rw[List.nil_append,ndSs];omega
  |cons x p ih=>rw[List.cons_append,ndSs,ndSs,ih];omega
 rw[h,key,ndSs]
 omega
theorem ndEs_part {l pre:List Ex} {a:Ex} {l2:List Ex} (h:l=pre++a::l2):ndEs pre+ndE a≤ndEs l:=by
 rw[h,ndEs_app,ndEs]
 omega
attribute [local irreducible] LOps LCode LStep LCalls Go.GL.Pure QThen QBlock RetPost LQ LAny LLate LLateOp LS
section
variable {B0:Nat} {w0:World}
def CallsH (B0:Nat) (w0:World) (n:Nat):Prop:=∀ x:Ex,ndE x<n→LCalls (KC B0 w0) 156 [encE x] [] (Ret (.list ((callsE x).map str)))
theorem calls_spec:∀ n:Nat,n≤100000000→CallsH B0 w0 n
 |0,_=>fun x h=>by omega
 |n+1,hn6=>by
  have ih:=calls_spec n zo
  intro x hnd
  obtain ⟨op,num,name,args⟩:=x
  rw[ndE] at hnd
  have hal:=ndEs_len args
  generalize hR:callsE (.mk op num name args)=R
  rw[callsE] at hR
  rw[encE_mk]
  refine cI Tryz.func156 rfl (n:=28) rfl rfl rfl ?_
  refine gai ?_
  refine oS (S.box rfl fun b1=>?_) rfl
  refine ga2 ?_
  refine oS (S.litA (es:=[]) [] rfl eN rfl rfl rfl fun b3=>?_) rfl
  refine gaa ?_
  refine LCode.midC (A:=LV×Heap) (fun a=>[(1,ptr b1 0),(3,a.1)]) (fun a=>exH b1 op num name args::a.2) (fun a=>GL.Acc 1 a.1 ((if op=nCall then [name] else []).map str) a.2 []) ?_ ?_
  ·by_cases h1:op=[99,97,108,108]
   ·refine oC rfl (fun _=>?_) (fun hd=>absurd h1 (zf hd))
    refine gaa ?_
    refine oS (S.lit (es:=[name].map str) [_] rfl (eC rfl rfl eN) rfl rfl rfl ?_) rfl
    refine oS (S.accF (A:=[_]) (H1:=[(b3,.row 0)]) zpr rfl Acc.row rfl (strs_len _) (strs_ok _) (by simp) fun v2 H2 h2=>?_) rfl
    refine oP (Pure.as (lv:=v2) rfl) rfl ?_
    refine gap ?_
    exact ⟨(v2,H2),by rw[if_pos (show op=nCall from h1)];exact h2,⟨rfl,rfl,trivial⟩,HSub.refl _,rfl⟩
   ·refine oC rfl (fun hd=>absurd (zt hd) h1) (fun _=>?_)
    refine gas ?_
    exact ⟨(.app b3 0 1 [],[(b3,.row 0)]),by rw[if_neg (show ¬ op=nCall from h1)];exact Acc.row,⟨rfl,rfl,trivial⟩,⟨[],by simpa using List.Perm.swap _ _ _⟩,rfl⟩
  rintro ⟨v0,H0⟩ hacc0 j hj
  simp only at hacc0
  have hC0:(if op=nCall then [name] else []:List Nm).length≤1:=by split <;> simp
  generalize (if op=nCall then [name] else []:List Nm)=C0 at hacc0 hR hC0
  refine gaa ?_
  refine oL (fun kk ls H'=>∃ (pre l1:List Ex) (v:LV) (Ha:Heap),args=pre++l1∧kk=l1.length∧ls=[(1,ptr b1 0),(3,v),(16,.list (args.map encE)),(17,int .i64 ((args.map encE).length:Int)),(18,int .i64 (pre.length:Int))] ∧
    H'=exH b1 op num name args::Ha∧GL.Acc 1 v ((C0++callsEs pre).map str) Ha [])
   ⟨_,_,_,⟨[],args,v0,H0,rfl,rfl,rfl,rfl,by rw[callsEs,List.append_nil];exact hacc0⟩,⟨rfl,rfl,rfl,rfl,rfl,trivial⟩,HSub.refl _⟩ ?_
  rintro kk ls H' ⟨pre,l1,v,Ha,hL,rfl,rfl,rfl,hacc⟩ j2 hj2
  have hb:=pre_le hL (show args.length≤100000000 by omega)
  refine gak ?_
  refine oC rfl (fun hc=>?_) (fun hc=>?_)
  ·obtain ⟨a,l2,rfl⟩:=more hL hc
   have ham:=ndEs_part hL
   have g1:=callsEs_len pre
   have g2:=callsE_len a
   refine gan ?_
   refine oP (xR (el':=encE a) (cs:=[_,_,_,_]) rfl rfl zo (by rw[hL];exact get_mid encE pre a l2) rfl rfl) rfl ?_
   refine ga3 ?_
   refine oS (S.alloc fun b5=>?_) rfl
   refine gaa ?_
   refine oP (Pure.mv (lv:=v) rfl) rfl ?_
   refine gac ?_
   refine oS (S.fn [_] rfl (ih a zo) ?_) rfl
   refine oS (S.accF (A:=[_,_]) (H1:=Ha) (List.perm_append_comm (l₁:=[_,_])) rfl hacc rfl (strs_len _) (strs_ok _) (by simp;omega) fun v2 H2 hacc2=>?_) rfl
   refine oP (Pure.as (lv:=v2) rfl) rfl ?_
   refine ga0 ?_
   exact ⟨l2.length,_,_,Nat.lt_succ_self _,⟨pre++[a],l2,v2,H2,snoc hL,rfl,rfl,rfl,by rw[callsEs_snoc,←List.append_assoc,List.map_append (l₂:=callsE a)];exact hacc2⟩,⟨rfl,rfl,rfl,rfl,int_eq (by simp),trivial⟩,zhD zhr,hj2⟩
  obtain rfl:=none_left hL hc
  rw[List.append_nil] at hL
  subst hL
  rw[hR] at hacc
  refine gad ?_
  refine LCode.sub (d:=3) rfl hacc.sub ?_
  refine gaa ?_
  exact retRet (hj2.trans hj) (rC (rT (v:=.list _) rfl zsr) rN) rfl
def CalleesH (B0:Nat) (w0:World) (n:Nat):Prop:=∀ l:List Sm,ndSs l<n→LCalls (KC B0 w0) 107 [.list (l.map encS)] [] (Ret (.list ((callsSs l).map str)))
theorem callees_spec:∀ n:Nat,n≤100000000→CalleesH B0 w0 n
 |0,_=>fun x h=>by omega
 |n+1,hn6=>by
  have ih:=callees_spec n zo
  have hC:CallsH B0 w0 n:=calls_spec n zo
  intro l hnd
  have hal:=ndSs_len l
  refine cI Tryz.func107 rfl (n:=44) rfl rfl rfl ?_
  refine ga2 ?_
  refine oS (S.litA (es:=[]) [] rfl eN rfl rfl rfl fun b3=>?_) rfl
  refine gaa ?_
  refine oL (fun kk ls H'=>∃ (pre l1:List Sm) (v:LV) (Ha:Heap),l=pre++l1∧kk=l1.length∧ls=[(3,v),(9,.list (l.map encS)),(10,int .i64 ((l.map encS).length:Int)),(11,int .i64 (pre.length:Int))] ∧
    H'=Ha∧GL.Acc 1 v ((callsSs pre).map str) Ha [])
   ⟨_,_,_,⟨[],l,.app b3 0 1 [],[(b3,.row 0)],rfl,rfl,rfl,rfl,Acc.row⟩,⟨rfl,rfl,rfl,rfl,trivial⟩,HSub.refl _⟩ ?_
  rintro kk ls HA ⟨pre,l1,v,_,hL,rfl,rfl,rfl,hacc⟩ j hj
  have hb:=pre_le hL (show l.length≤100000000 by omega)
  refine gak ?_
  refine oC rfl (fun hc=>?_) (fun hc=>?_)
  rotate_left
  ·obtain rfl:=none_left hL hc
   rw[List.append_nil] at hL
   subst hL
   refine gad ?_
   refine LCode.sub (d:=3) rfl hacc.sub ?_
   refine gaa ?_
   exact retRet hj (rC (rT (v:=.list _) rfl zsr) rN) rfl
  obtain ⟨a,l2,rfl⟩:=more hL hc
  have ham:=ndSs_part hL
  have g1:=callsSs_len pre
  obtain ⟨kind,name,index,value,thn,els⟩:=a
  rw[ndS] at ham
  have g2:=ndEs_len value
  have g3:=ndEs_len index
  refine gan ?_
  refine oP (xR (el':=.agg [int .i64 kind,str name,.list (index.map encE),.list (value.map encE),.list (thn.map encS),.list (els.map encS)]) (cs:=[_,_,_,_,_,_]) rfl rfl zo (by rw[hL,←encS_mk];exact get_mid encS pre _ l2) rfl rfl) rfl ?_
  refine gac ?_
  refine oS (S.alloc fun b5=>?_) rfl
  refine gac ?_
  refine LCode.draw (m:=9) rfl [smH b5 kind name index value thn els] ?_
  refine aT 1 rfl rfl (Pure.fieldH rfl) ?_
  refine aT 2 rfl rfl (Pure.loadH (c:=.list _) rfl zm0 rfl) ?_
  refine aT 4 rfl rfl (Pure.fieldH rfl) ?_
  refine aT 5 rfl rfl (Pure.loadH (c:=.list _) rfl zm0 rfl) ?_
  refine aT 8 rfl rfl (Pure.mv (lv:=.atom _) rfl) ?_
  refine LAny.late ?_ zhp
  refine lO 0 (lS (H1:=[]) rfl (.inl rfl) rfl zpr zhp (S.litA (es:=[]) [] rfl eN rfl rfl rfl fun b7=>?_))
  refine lO 3 (lS (H1:=[(b7,.row 0)]) rfl (.inl rfl) rfl zpr zhp (S.acc (F:=[]) rfl Acc.row rfl (encE_len _) (encE_ok _) (by simp;omega) fun v1 H1 h1=>?_))
  refine lO 6 (lS (H1:=H1) rfl (.inl rfl) rfl zpr zhp (S.acc (F:=[]) rfl h1 rfl (encE_len _) (encE_ok _) (by simp;omega) fun v2 H2 h2=>?_))
  have e2:([]++value.map encE++index.map encE:List LV)=(value++index).map encE:=by simp
  rw[e2] at h2
  refine lO 7 (lH rfl rfl (Pure.llen (h2.elems)) ?_)
  refine lD zk ?_
  refine gad ?_
  refine LCode.sub (d:=21) rfl h2.sub ?_
  refine LCode.weak (H':=smH b5 kind name index value thn els::HA) ⟨H2,List.perm_append_comm⟩ ?_
  refine oL (fun kk ls H'=>∃ (pre2 l3:List Ex) (v:LV) (Ha:Heap),value++index=pre2++l3∧kk=l3.length∧ls=[(3,v),(5,ptr b5 0),(9,.list (l.map encS)),(10,int .i64 ((l.map encS).length:Int)),(11,int .i64 (pre.length:Int)),(21,.list ((value++index).map encE)),(22,int .i64 (((value++index).map encE).length:Int)),(23,int .i64 (pre2.length:Int))] ∧
    H'=smH b5 kind name index value thn els::Ha∧GL.Acc 1 v ((callsSs pre++callsEs pre2).map str) Ha [])
   ⟨_,_,_,⟨[],value++index,v,HA,rfl,rfl,rfl,rfl,by rw[callsEs,List.append_nil];exact hacc⟩,⟨rfl,rfl,rfl,rfl,rfl,rfl,rfl,rfl,trivial⟩,HSub.refl _⟩ ?_
  rintro kk ls H' ⟨pre2,l3,v3,Hb,hL2,rfl,rfl,rfl,hacc3⟩ j2 hj2
  have hb2:=pre_le hL2 (show (value++index).length≤100000000 by rw[List.length_append];omega)
  refine gak ?_
  refine oC rfl (fun hc2=>?_) (fun hc2=>?_)
  ·obtain ⟨a,l4,rfl⟩:=more hL2 hc2
   have ham2:=ndEs_part hL2
   rw[ndEs_app] at ham2
   have g4:=callsEs_len pre2
   have g5:=callsE_len a
   refine gan ?_
   refine oP (xR (el':=encE a) (cs:=[_,_,_,_]) rfl rfl zo (by rw[hL2];exact get_mid encE pre2 a l4) rfl rfl) rfl ?_
   refine ga3 ?_
   refine oS (S.alloc fun b7=>?_) rfl
   refine gaa ?_
   refine oP (Pure.mv (lv:=v3) rfl) rfl ?_
   refine gac ?_
   refine oS (S.fn [_] rfl (hC a zo) ?_) rfl
   refine oS (S.accF (A:=[_,_]) (H1:=Hb) (List.perm_append_comm (l₁:=[_,_])) rfl hacc3 rfl (strs_len _) (strs_ok _) (by simp;omega) fun v4 H4 hacc4=>?_) rfl
   refine oP (Pure.as (lv:=v4) rfl) rfl ?_
   refine ga0 ?_
   exact ⟨l4.length,_,_,Nat.lt_succ_self _,⟨pre2++[a],l4,v4,H4,snoc hL2,rfl,rfl,rfl,by rw[callsEs_snoc,←List.append_assoc,List.map_append (l₂:=callsE a)];exact hacc4⟩,⟨rfl,rfl,rfl,rfl,rfl,rfl,rfl,int_eq (by simp),trivial⟩,zhD zhr,hj2⟩
  obtain rfl:=none_left hL2 hc2
  rw[List.append_nil] at hL2
  subst hL2
  have g6:=callsEs_len (value++index)
  rw[ndEs_app] at g6
  have g7:=callsSs_len thn
  have g8:=callsSs_len els
  have hjj:=hj2.trans hj
  refine gab ?_
  refine oP (Pure.mv (lv:=v3) rfl) rfl ?_
  refine gac ?_
  refine oS (S.fn [_] rfl (ih thn zo) ?_) rfl
  refine oS (S.accF (A:=[_]) (H1:=Hb) (List.perm_append_comm (l₁:=[_])) rfl hacc3 rfl (strs_len _) (strs_ok _) (by simp;omega) fun v4 H4 hacc4=>?_) rfl
  refine oP (Pure.as (lv:=v4) rfl) rfl ?_
  refine gak ?_
  refine oP (Pure.mv (lv:=v4) rfl) rfl ?_
  refine gac ?_
  refine oS (S.fn [_] rfl (ih els zo) ?_) rfl
  refine oS (S.accF (A:=[_]) (H1:=H4) (List.perm_append_comm (l₁:=[_])) rfl hacc4 rfl (strs_len _) (strs_ok _) (by simp;omega) fun v5 H5 hacc5=>?_) rfl
  refine oP (Pure.as (lv:=v5) rfl) rfl ?_
  refine ga0 ?_
  exact ⟨l2.length,_,_,Nat.lt_succ_self _,⟨pre++[Sm.mk kind name index value thn els],l2,v5,H5,snoc hL,rfl,rfl,rfl,by
   rw[callsSs_snoc,callsS]
   have e:(callsSs pre++(callsEs (value++index)++callsSs thn++callsSs els)).map str=(callsSs pre++callsEs (value++index)).map str++(callsSs thn).map str++(callsSs els).map str:=by simp
   rw[e]
   exact hacc5⟩,⟨rfl,rfl,rfl,int_eq (by simp),trivial⟩,zhD zhr,hjj⟩
end
end Go.Proofs.YtcbpcianefpniaaGreatDoor.RC
namespace Go.Proofs.YtcbpcianefpniaaGreatDoor.RC
open Go.GL Go.RowKit Go.Stele
set_option maxRecDepth 100000
set_option maxHeartbeats 4000000
@[reducible] def fnH (b:Nat) (f:FnD):Nat×LObj:=(b,.cells 63 [str f.name,.list (f.params.map str),.list (f.locals.map str),.list (f.body.map encS)])
theorem encFn_len (l:List FnD):∀ v∈l.map encFn,v.cells.length=4:=fun v hv=>by
 obtain ⟨x,_,rfl⟩:=List.mem_map.1 hv
 rfl
section
variable {C:Ctx} {e:Env} {H:Heap} {dst:Option Nat} {ty:TypeId} {pos:String} {aft:Array Edge} {gd:Option (Nat×Bool)}
theorem Pure.sliceTo {t el s:Nat} [ht:TSlice C.P t el s] {A:Type} {g:A→LV} {pre l1:List A} {x hi:Operand} (hx:GL.elems (e.ev x)=some ((pre++l1).map g)) (hh:e.ev hi=int .i64 (pre.length:Int)) (hs:∀ v∈(pre++l1).map g,v.cells.length=s):GL.Pure C ⟨dst,.slice t x none (some hi) none,ty,pos,aft,gd⟩ e H (.list (pre.map g)):=by
 have h:=GL.Pure.lslice (C:=C) (e:=e) (H:=H) (dst:=dst) (ty:=ty) (pos:=pos) (aft:=aft) (g:=gd) (t:=t) (lo:=none) (hi:=some hi) (i:=0) (j:=(pre.length:Int)) hx rfl ⟨_,hh⟩ (by decide) zo (by simp;omega) hs
 have e1:(((pre++l1).map g).take ((pre.length:Int)).toNat).drop (0:Int).toNat=pre.map g:=by simp
 rw[e1] at h
 exact h
end
theorem sumFs_names (vars arrays later:List Nm):∀ (fs:List FnD) (known:List FSum),(sumFs vars arrays later known fs).map (·.name)=known.map (·.name)++fs.map (·.name)
 |[],known=>by rw[sumFs];simp
 |f::l,known=>by rw[sumFs,sumFs_names];simp[sumF]
attribute [local irreducible] LOps LCode LStep LCalls Go.GL.Pure QThen QBlock RetPost LQ LAny LLate LLateOp LS
section
variable {B0:Nat} {w0:World}
theorem rscalars_spec {vars:List Nm} {fs:List FnD} (AL:LV) (hv6:vars.length≤1000000) (hf6:fs.length≤1000000) (hsm:∀ f∈fs,SmF f) (hn:∀ f∈fs,f.name.length≤1000∧∀ x∈f.params++f.locals,x.length≤1000):LCalls (KC B0 w0) 55 [.agg [.list (vars.map str),AL,.list (fs.map encFn)]] [] (Ret (.list ((scalarsP vars fs).map str))):=by
 have hown:∀ f∈fs,(Chk.ownS f).length≤2000000:=fun f hf=>by
  have h1:f.params.length≤1000000:=(hsm f hf).params
  have h2:f.locals.length≤1000000:=(hsm f hf).locals
  unfold Chk.ownS
  rw[List.length_map,List.length_append]
  omega
 have hsum:∀ l:List FnD,(∀ f∈l,f∈fs)→((l.map Chk.ownS).flatten).length≤l.length * 2000000:=fun l hl=>by
  have:=Chk.sum_le (l.map Chk.ownS) 2000000 (fun x hx=>by
   obtain ⟨f,hf,rfl⟩:=List.mem_map.1 hx
   exact hown f (hl f hf))
  rwa [List.length_map] at this
 refine cI Tryz.func55 rfl (n:=55) rfl rfl rfl ?_
 refine gai ?_
 refine oS (S.box rfl fun b1=>?_) rfl
 refine ga2 ?_
 refine oS (S.litA (es:=[]) [] rfl eN rfl rfl rfl fun b3=>?_) rfl
 refine gac ?_
 refine oS (S.accF (A:=[_]) (H1:=[(b3,.row 0)]) zpr rfl Acc.row rfl (strs_len _) (strs_ok _) (by simp;omega) fun v Ha hacc=>?_) rfl
 refine oP (Pure.as (lv:=v) rfl) rfl ?_
 refine gaa ?_
 refine oL (fun k ls H'=>∃ pre l1 v1 Ha1,fs=pre++l1∧k=l1.length∧ls=[(3,v1),(15,.list (fs.map encFn)),(16,int .i64 ((fs.map encFn).length:Int)),(17,int .i64 (pre.length:Int))]∧H'=Ha1∧GL.Acc 1 v1 ((vars++(pre.map Chk.ownS).flatten).map str) Ha1 [])
  ⟨fs.length,_,_,⟨[],fs,v,Ha,rfl,rfl,rfl,rfl,by simpa using hacc⟩,⟨rfl,rfl,rfl,rfl,trivial⟩,zhD zhr⟩ ?_
 rintro k ls Ha1 ⟨pre,l1,v1,_,hL,rfl,rfl,rfl,hacc1⟩ j hj
 have hb:=pre_le hL hf6
 have hb1:((pre.map Chk.ownS).flatten).length≤2000000000000:=by
  have:=hsum pre (fun f hf=>by rw[hL];exact List.mem_append_left _ hf)
  omega
 refine gak ?_
 refine oC rfl (fun hc=>?_) (fun hc=>?_)
 rotate_left
 ·obtain rfl:=none_left hL hc
  rw[List.append_nil] at hL
  rw[←hL] at hacc1
  refine gad ?_
  refine LCode.sub (d:=3) rfl hacc1.sub ?_
  refine gaa ?_
  exact retRet hj (rC (rT (v:=.list _) rfl zsr) rN) rfl
 obtain ⟨f,l2,rfl⟩:=more hL hc
 have hfm:f∈fs:=by rw[hL];exact List.mem_append_right _ (List.mem_cons_self ..)
 obtain ⟨hn1,hn2⟩:=hn f hfm
 have hp6:f.params.length≤1000000:=(hsm f hfm).params
 have hl6:f.locals.length≤1000000:=(hsm f hfm).locals
 refine gan ?_
 refine oP (xR (el':=encFn f) (cs:=[_,_,_,_]) rfl rfl zo (by rw[hL];exact get_mid encFn pre f l2) rfl rfl) rfl ?_
 refine ga3 ?_
 refine oS (S.alloc fun b5=>?_) rfl
 refine gaa ?_
 refine oL (fun k ls H'=>∃ pre2 l3 v3 Ha3,f.params=pre2++l3∧k=l3.length∧ls=[(3,v3),(5,ptr b5 0),(15,.list (fs.map encFn)),(16,int .i64 ((fs.map encFn).length:Int)),(17,int .i64 (pre.length:Int)),(22,.list (f.params.map str)),(23,int .i64 ((f.params.map str).length:Int)),(24,int .i64 (pre2.length:Int))] ∧
   H'=fnH b5 f::Ha3∧GL.Acc 1 v3 ((vars++(pre.map Chk.ownS).flatten++pre2.map fun x=>f.name++[46]++x).map str) Ha3 [])
  ⟨_,_,_,⟨[],f.params,v1,Ha1,rfl,rfl,rfl,rfl,by simpa using hacc1⟩,⟨rfl,rfl,rfl,rfl,rfl,rfl,rfl,rfl,trivial⟩,HSub.refl _⟩ ?_
 rintro k ls H' ⟨pre2,l3,v3,Ha3,hL2,rfl,rfl,rfl,hacc3⟩ j2 hj2
 have hb3:=pre_le hL2 hp6
 refine gak ?_
 refine oC rfl (fun hd=>?_) (fun hd=>?_)
 ·obtain ⟨x,l4,rfl⟩:=more hL2 hd
  have hx:x.length≤1000:=hn2 x (by rw[hL2];simp)
  refine gan ?_
  refine oP (xR (el':=str x) (cs:=[_]) rfl rfl zo (by rw[hL2];exact get_mid str pre2 x l4) rfl rfl) rfl ?_
  refine gaa ?_
  refine oP (Pure.mv (lv:=v3) rfl) rfl ?_
  refine gac ?_
  refine oS (S.lit (es:=[f.name++[46]++x].map str) [_] rfl (eC rfl rfl eN) rfl rfl rfl ?_) rfl
  refine oS (S.accF (A:=[_]) (H1:=Ha3) (List.perm_append_comm (l₁:=[_])) rfl hacc3 rfl (strs_len _) (strs_ok _) (by rw[List.length_map,List.length_append,List.length_append,List.length_map,List.length_map,List.length_singleton];omega) fun v' H' hacc'=>?_) rfl
  refine oP (Pure.as (lv:=v') rfl) rfl ?_
  refine ga0 ?_
  exact ⟨l4.length,_,_,Nat.lt_succ_self _,⟨pre2++[x],l4,v',H',snoc hL2,rfl,rfl,rfl,by
   have e:((vars++(pre.map Chk.ownS).flatten++(pre2++[x]).map fun x=>f.name++[46]++x).map str)=((vars++(pre.map Chk.ownS).flatten++pre2.map fun x=>f.name++[46]++x).map str)++[f.name++[46]++x].map str:=by simp
   rw[e]
   exact hacc'⟩,⟨rfl,rfl,rfl,rfl,rfl,rfl,rfl,int_eq (by simp),trivial⟩,HSub.refl _,hj2⟩
 obtain rfl:=none_left hL2 hd
 rw[List.append_nil] at hL2
 rw[←hL2] at hacc3
 refine gaa ?_
 refine oL (fun k ls H'=>∃ pre3 l3 v4 Ha4,f.locals=pre3++l3∧k=l3.length∧ls=[(3,v4),(5,ptr b5 0),(15,.list (fs.map encFn)),(16,int .i64 ((fs.map encFn).length:Int)),(17,int .i64 (pre.length:Int)),(38,.list (f.locals.map str)),(39,int .i64 ((f.locals.map str).length:Int)),(40,int .i64 (pre3.length:Int))] ∧
   H'=fnH b5 f::Ha4∧GL.Acc 1 v4 ((vars++(pre.map Chk.ownS).flatten++(f.params++pre3).map fun x=>f.name++[46]++x).map str) Ha4 [])
  ⟨_,_,_,⟨[],f.locals,v3,Ha3,rfl,rfl,rfl,rfl,by simpa using hacc3⟩,⟨rfl,rfl,rfl,rfl,rfl,rfl,rfl,rfl,trivial⟩,HSub.refl _⟩ ?_
 rintro k ls H' ⟨pre3,l3,v4,Ha4,hL3,rfl,rfl,rfl,hacc4⟩ j3 hj3
 have hb4:=pre_le hL3 hl6
 refine gak ?_
 refine oC rfl (fun hd=>?_) (fun hd=>?_)
 ·obtain ⟨x,l4,rfl⟩:=more hL3 hd
  have hx:x.length≤1000:=hn2 x (by rw[hL3];simp)
  refine gan ?_
  refine oP (xR (el':=str x) (cs:=[_]) rfl rfl zo (by rw[hL3];exact get_mid str pre3 x l4) rfl rfl) rfl ?_
  refine gaa ?_
  refine oP (Pure.mv (lv:=v4) rfl) rfl ?_
  refine gac ?_
  refine oS (S.lit (es:=[f.name++[46]++x].map str) [_] rfl (eC rfl rfl eN) rfl rfl rfl ?_) rfl
  refine oS (S.accF (A:=[_]) (H1:=Ha4) (List.perm_append_comm (l₁:=[_])) rfl hacc4 rfl (strs_len _) (strs_ok _) (by rw[List.length_map,List.length_append,List.length_append,List.length_map,List.length_append,List.length_map,List.length_singleton];omega) fun v' H' hacc'=>?_) rfl
  refine oP (Pure.as (lv:=v') rfl) rfl ?_
  refine ga0 ?_
  exact ⟨l4.length,_,_,Nat.lt_succ_self _,⟨pre3++[x],l4,v',H',snoc hL3,rfl,rfl,rfl,by
   have e:((vars++(pre.map Chk.ownS).flatten++(f.params++(pre3++[x])).map fun x=>f.name++[46]++x).map str)=((vars++(pre.map Chk.ownS).flatten++(f.params++pre3).map fun x=>f.name++[46]++x).map str)++[f.name++[46]++x].map str:=by simp
   rw[e]
   exact hacc'⟩,⟨rfl,rfl,rfl,rfl,rfl,rfl,rfl,int_eq (by simp),trivial⟩,HSub.refl _,hj3⟩
 obtain rfl:=none_left hL3 hd
 rw[List.append_nil] at hL3
 rw[←hL3] at hacc4
 refine gab ?_
 exact ⟨l2.length,_,_,Nat.lt_succ_self _,⟨pre++[f],l2,v4,Ha4,snoc hL,rfl,rfl,rfl,by
  have e:((vars++((pre++[f]).map Chk.ownS).flatten).map str)=(vars++(pre.map Chk.ownS).flatten++(f.params++f.locals).map fun x=>f.name++[46]++x).map str:=by
   simp[Chk.ownS]
  rw[e]
  exact hacc4⟩,⟨rfl,rfl,rfl,int_eq (by simp),trivial⟩,zhD zhr,hj3.trans (hj2.trans hj)⟩
@[reducible] def prH (b:Nat) (vars:List Nm) (AL:LV) (fs:List FnD):Nat×LObj:=(b,.cells 33 [.list (vars.map str),AL,.list (fs.map encFn)])
theorem perm_two {x y:Nat×LObj} {A B:Heap}:List.Perm (x::y::(A++B)) (A++(x::y::B)):=by
 have h:List.Perm (([x,y]++A)++B) ((A++[x,y])++B):=List.perm_append_comm.append_right B
 rw[List.append_assoc A] at h
 exact h
theorem Measure_spec {vars arrays:List Nm} {fs:List FnD} (AL:LV) (hnd:ndFs fs≤1000000) (hd:Dist (fs.map fun f=>(⟨f.name,0,0,0⟩:FSum))) (herr:errFs vars arrays (fs.map (·.name)) [] fs=0) :
  LCalls (KC B0 w0) 54 [.agg [.list (vars.map str),AL,.list (fs.map encFn)]] [] (Ret (.tuple [.list (((sumFs vars arrays (fs.map (·.name)) [] fs).map (·.need)).map iv),.list (((sumFs vars arrays (fs.map (·.name)) [] fs).map (·.depth)).map iv)])):=by
 have hfl:=ndFs_len fs
 generalize hlat:fs.map (·.name)=later at herr ⊢
 generalize hS:sumFs vars arrays later [] fs=ZS
 refine cI Tryz.func54 rfl (n:=80) rfl rfl rfl ?_
 refine gai ?_
 refine oS (S.box rfl fun b1=>?_) rfl
 refine ga2 ?_
 refine oS (S.litA (es:=[]) [] rfl eN rfl rfl rfl fun b4=>?_) rfl
 refine oS (S.litA (es:=[]) [] rfl eN rfl rfl rfl fun b5=>?_) rfl
 refine gaa ?_
 refine oL (fun k ls H'=>∃ (pre l1:List FnD) (known:List FSum) (v4 v5:LV) (H4 H5:Heap),fs=pre++l1∧k=l1.length∧ls=[(1,ptr b1 0),(4,v4),(5,v5),(15,.list (fs.map encFn)),(16,int .i64 ((fs.map encFn).length:Int)),(17,int .i64 (pre.length:Int))] ∧
   H'=prH b1 vars AL fs::(H4++H5)∧GL.Acc 1 v4 ((known.map (·.need)).map iv) H4 []∧GL.Acc 1 v5 ((known.map (·.depth)).map iv) H5 []∧known.map (·.name)=pre.map (·.name)∧errFs vars arrays later known l1=0∧sumFs vars arrays later known l1=ZS∧KnB (8 * ndFs pre) pre.length known)
  ⟨_,_,_,⟨[],fs,[],.app b4 0 1 [],.app b5 0 1 [],[(b4,.row 0)],[(b5,.row 0)],rfl,rfl,rfl,rfl,Acc.row,Acc.row,rfl,herr,hS,fun k hk=>(List.not_mem_nil hk).elim⟩,⟨rfl,rfl,rfl,rfl,rfl,rfl,trivial⟩,⟨[],by simpa using (List.perm_append_comm (l₁:=[_,_]) (l₂:=[_])).trans (List.Perm.cons _ (List.Perm.swap _ _ _))⟩⟩ ?_
 rintro k ls HH ⟨pre,l1,known,v4,v5,H4,H5,hL,rfl,rfl,rfl,hacc4,hacc5,hkn,hI,hSS,hB⟩ j hj
 have hb:=pre_le hL (show fs.length≤1000000 by omega)
 have hkl:known.length=pre.length:=by
  have:=congrArg List.length hkn
  simpa using this
 refine gak ?_
 refine oC rfl (fun hc=>?_) (fun hc=>?_)
 rotate_left
 ·obtain rfl:=none_left hL hc
  have hSe:known=ZS:=hSS
  rw[←hSe]
  refine gad ?_
  refine LCode.sub (d:=4) rfl hacc4.sub ?_
  refine LCode.sub (d:=5) rfl hacc5.sub ?_
  refine gaa ?_
  exact retRet hj (rC (rT (v:=.list _) rfl zsr) (rC (rT (v:=.list _) rfl zsr) rN)) rfl
 obtain ⟨f,l2,rfl⟩:=more hL hc
 rw[errFs] at hI
 obtain ⟨hI1,hI2⟩:=orE_zero.1 hI
 rw[sumFs] at hSS
 have hndf:ndFs pre+ndF f≤ndFs fs:=by
  have key:∀ p q:List FnD,ndFs (p++q)=ndFs p+ndFs q:=fun p q=>by
   induction p with
   |nil=>rw[List.nil_append,ndFs];omega
   |cons x p ih=>rw[List.cons_append,ndFs,ndFs,ih];omega
  rw[hL,key,ndFs]
  omega
 have hndb:ndSs f.body+f.params.length<1000001:=by unfold ndF at hndf;omega
 have hp8:(f.params.map str).length≤1000000:=by rw[List.length_map];omega
 have hdk:Dist known:=by
  unfold Dist at hd ⊢
  have e:(fs.map fun f=>(⟨f.name,0,0,0⟩:FSum)).map (·.name)=known.map (·.name)++(f::l2).map (·.name):=by rw[List.map_map,hL,List.map_append,hkn];rfl
  rw[e] at hd
  exact ⟨(List.nodup_append.1 hd.1).1,fun h=>hd.2.1 (List.mem_append_left _ h),fun h=>hd.2.2 (List.mem_append_left _ h)⟩
 have herb:errSs (envF vars arrays later known f) f.body=0:=(orE_zero.1 hI1).2
 have hneeds:=needs_spec (B0:=B0) (w0:=w0) (c:=envF vars arrays later known f) (fs:=pre) zo hkn hdk hB zo 1000001 zo f.body herb zo
 have hcall:=callees_spec (B0:=B0) (w0:=w0) 1000001 zo f.body zo
 have hcl:=callsSs_len f.body
 have hsum:=sumF_le (vars:=vars) (arrays:=arrays) (later:=later) (f:=f) hB
 have hS1:(sumF vars arrays later known f).need=mostN [2,f.params.length+1,needSs (envF vars arrays later known f) f.body]:=rfl
 have hS2:(sumF vars arrays later known f).depth=overN (envF vars arrays later known f) (callsSs f.body) 1:=by
  rw[overSs hdk]
  rfl
 have hneeds':LCalls (KC B0 w0) 106 [.list (f.body.map encS),.list (pre.map encFn),v4] [] (Ret (iv (needSs (envF vars arrays later known f) f.body))):=LCalls.argsSub (bs:=[.list (f.body.map encS),.list (pre.map encFn),.list ((known.map (·.need)).map iv)]) ⟨LV.Sub.refl _,LV.Sub.refl _,hacc4.sub,trivial⟩ hneeds
 refine gab ?_
 refine oP (xR (el':=encFn f) (cs:=[_,_,_,_]) rfl rfl zo (by rw[hL];exact get_mid encFn pre f l2) rfl rfl) rfl ?_
 refine ga3 ?_
 refine oS (S.alloc fun b7=>?_) rfl
 refine gaf ?_
 refine LCode.draw (m:=18) rfl [fnH b7 f,prH b1 vars AL fs] ?_
 refine LAny.take (i:=0) (zhP pH zhp) rfl zk zk zk rfl (Pure.mv (lv:=v4) rfl) ?_
 refine aT 1 rfl rfl (Pure.fieldH rfl) ?_
 refine aT 2 rfl rfl (Pure.loadH (c:=.list _) rfl zm0 rfl) ?_
 refine aT 3 rfl rfl (Pure.llen rfl) ?_
 refine aT 4 rfl rfl (Pure.add rfl rfl zo) ?_
 refine aT 5 rfl rfl (Pure.fieldH rfl) ?_
 refine aT 6 rfl rfl (Pure.loadH (c:=.list _) rfl zm0 rfl) ?_
 refine aT 7 rfl rfl (Pure.fieldH rfl) ?_
 refine aT 8 rfl rfl (Pure.loadH (c:=.list _) rfl zm1 rfl) ?_
 refine aT 9 rfl rfl (Pure.mv (lv:=.atom _) rfl) ?_
 refine LAny.take (i:=10) (zhP pH zhp) rfl zk zk zk rfl (Pure.sliceTo (g:=encFn) (pre:=pre) (l1:=f::l2) (by rw[←hL];rfl) rfl (encFn_len _)) ?_
 refine LAny.take (i:=11) (zhP pH zhp) rfl zk zk zk rfl (Pure.mv (lv:=v4) rfl) ?_
 refine LAny.late ?_ (zhP pH zhp)
 refine lO 12 (lS (H1:=[]) rfl (.inl rfl) rfl zpr (zhP pH zhp) (S.fn [_,_,_] rfl hneeds' ?_))
 refine lO 13 (lS (H1:=[]) rfl (.inl rfl) rfl zpr (zhP pH zhp) (S.lit (es:=[2,f.params.length+1,needSs (envF vars arrays later known f) f.body].map iv) [_,_,_] (by show [int .i64 2,int .i64 (((f.params.map str).length:Int)+1),iv _]=_;simp[iv]) (iv_els _) rfl rfl rfl ?_))
 refine lO 14 (lS (H1:=[]) rfl (.inl rfl) rfl zpr (zhP pH zhp) (S.fn [_] rfl (most_spec 2 [f.params.length+1,needSs (envF vars arrays later known f) f.body] (by simp)) ?_))
 rw[←hS1]
 refine lO 15 (lS (H1:=[]) rfl (.inl rfl) rfl zpr (zhP pH zhp) (S.lit (es:=[(sumF vars arrays later known f).need].map iv) [_] rfl (iv_els _) rfl rfl rfl ?_))
 refine lO 16 (lS (H1:=H4) rfl (.inl rfl) rfl perm_two (zhP pH zhp) (S.acc (F:=[]) rfl hacc4 rfl (iv_len _) (iv_ok _) (by rw[List.length_map,List.length_map,List.length_map,List.length_singleton];omega) fun v6 H6 hacc6=>?_))
 refine lO 17 (lH rfl rfl (Pure.as (lv:=v6) rfl) ?_)
 refine lD zk ?_
 refine gap ?_
 refine LCode.perm (H':=fnH b7 f::prH b1 vars AL fs::(H5++H6)) (List.perm_append_comm (l₂:=_::_::H5)) ?_
 refine gaa ?_
 refine oS (S.fn [_] rfl hcall ?_) rfl
 refine gad ?_
 have hnm6:(callsSs f.body).length≤1000001:=by omega
 generalize hNM:callsSs f.body=names at hS2 hnm6 ⊢
 refine oL (fun k ls H'=>∃ (pn nl:List Nm) (d:Nat),names=pn++nl∧k=nl.length∧ls=[(1,ptr b1 0),(4,v6),(5,v5),(6,int .i64 (pre.length:Int)),(7,ptr b7 0),(8,iv d),(15,.list (fs.map encFn)),(16,int .i64 ((fs.map encFn).length:Int)),(17,int .i64 (pre.length:Int)),(41,.list (names.map str)),(42,int .i64 ((names.map str).length:Int)),(43,int .i64 (pn.length:Int))] ∧
   H'=fnH b7 f::prH b1 vars AL fs::(H5++H6)∧(sumF vars arrays later known f).depth=overN (envF vars arrays later known f) nl d)
  ⟨_,_,_,⟨[],names,1,rfl,rfl,rfl,rfl,hS2⟩,⟨rfl,rfl,rfl,rfl,rfl,rfl,rfl,rfl,rfl,rfl,rfl,rfl,trivial⟩,HSub.refl _⟩ ?_
 rintro k ls H' ⟨pn,nl,d,hLn,rfl,rfl,rfl,hov⟩ j2 hj2
 have hb2:=pre_le hLn hnm6
 refine gak ?_
 refine oC rfl (fun hc2=>?_) (fun hc2=>?_)
 rotate_left
 ·obtain rfl:=none_left hLn hc2
  have hdd:(sumF vars arrays later known f).depth=d:=hov
  rw[←hdd]
  refine gab ?_
  refine oP (Pure.mv (lv:=v5) rfl) rfl ?_
  refine gaz ?_
  refine oS (S.lit (es:=[(sumF vars arrays later known f).depth].map iv) [_] rfl (iv_els _) rfl rfl rfl ?_) rfl
  refine oS (S.accF (A:=fnH b7 f::prH b1 vars AL fs::H6) (H1:=H5) perm_two rfl hacc5 rfl (iv_len _) (iv_ok _) (by rw[List.length_map,List.length_map,List.length_map,List.length_singleton];omega) fun v9 H9 hacc9=>?_) rfl
  refine oP (Pure.as (lv:=v9) rfl) rfl ?_
  refine ga0 ?_
  exact ⟨l2.length,_,_,Nat.lt_succ_self _,⟨pre++[f],l2,known++[sumF vars arrays later known f],v6,v9,H6,H9,snoc hL,rfl,rfl,rfl,by rw[List.map_append,List.map_append];exact hacc6,by rw[List.map_append,List.map_append];exact hacc9,by rw[List.map_append,List.map_append,hkn];rfl,hI2,hSS,fun q hq=>by
   have key:∀ p:List FnD,ndFs (p++[f])=ndFs p+ndF f:=fun p=>by
    induction p with
    |nil=>rw[List.nil_append,ndFs,ndFs,ndFs];omega
    |cons x p ih=>rw[List.cons_append,ndFs,ndFs,ih];omega
   rw[key,List.length_append,List.length_singleton]
   rcases List.mem_append.1 hq with h1|h1
   ·have:=hB q h1
    omega
   ·rw[List.mem_singleton.1 h1]
    omega⟩,⟨rfl,rfl,rfl,rfl,rfl,int_eq (by simp),trivial⟩,zhD ⟨[],by simp⟩,hj2.trans hj⟩
 obtain ⟨name,n2,rfl⟩:=more hLn hc2
 refine gan ?_
 refine oP (xR (el':=str name) (cs:=[_]) rfl rfl zo (by rw[hLn];exact get_mid str pn name n2) rfl rfl) rfl ?_
 refine gaa ?_
 refine oP (Pure.sliceTo (g:=encFn) (pre:=pre) (l1:=f::l2) (by rw[←hL];rfl) rfl (encFn_len _)) rfl ?_
 refine gad ?_
 refine oL (fun k ls H'=>∃ (pp pl:List FnD) (kp kl:List FSum) (d2:Nat),pre=pp++pl∧known=kp++kl∧kp.length=pp.length∧k=pl.length∧ls=[(1,ptr b1 0),(4,v6),(5,v5),(6,int .i64 (pre.length:Int)),(7,ptr b7 0),(8,iv d2),(10,str name),(15,.list (fs.map encFn)),(16,int .i64 ((fs.map encFn).length:Int)),(17,int .i64 (pre.length:Int)),(41,.list (names.map str)),(42,int .i64 ((names.map str).length:Int)),(43,int .i64 (pn.length:Int)),(51,int .i64 ((pre.map encFn).length:Int)),(52,int .i64 (pp.length:Int))] ∧
   H'=fnH b7 f::prH b1 vars AL fs::(H5++H6)∧kl.map (·.name)=pl.map (·.name)∧overF (fun f=>1+f.depth) name known d=overF (fun f=>1+f.depth) name kl d2)
  ⟨_,_,_,⟨[],pre,[],known,d,rfl,rfl,rfl,rfl,rfl,rfl,hkn,rfl⟩,⟨rfl,rfl,rfl,rfl,rfl,rfl,rfl,rfl,rfl,rfl,rfl,rfl,rfl,rfl,rfl,trivial⟩,HSub.refl _⟩ ?_
 rintro k ls H' ⟨pp,pl,kp,kl,d2,hLp,hLk,hkp,rfl,rfl,rfl,hkn2,hov2⟩ j3 hj3
 have hb3:=pre_le hLp hb
 refine gak ?_
 refine oC rfl (fun hc3=>?_) (fun hc3=>?_)
 rotate_left
 ·obtain rfl:=none_left hLp hc3
  have hkl0:kl=[]:=by
   cases kl with
   |nil=>rfl
   |cons s l=>simp at hkn2
  subst hkl0
  refine gab ?_
  exact ⟨n2.length,_,_,Nat.lt_succ_self _,⟨pn++[name],n2,d2,snoc hLn,rfl,rfl,rfl,by
   rw[hov]
   show List.foldl _ (overF (fun f=>1+f.depth) name known d) n2=_
   rw[hov2]
   rfl⟩,⟨rfl,rfl,rfl,rfl,rfl,rfl,rfl,rfl,rfl,rfl,rfl,int_eq (by simp),trivial⟩,HSub.refl _,hj3.trans hj2⟩
 obtain ⟨q,pl2,rfl⟩:=more hLp hc3
 obtain ⟨s,kl,rfl⟩:∃ s l,kl=s::l:=by
  cases kl with
  |nil=>simp at hkn2
  |cons s l=>exact ⟨s,l,rfl⟩
 rw[List.map_cons,List.map_cons] at hkn2
 injection hkn2 with hs hkn2
 have hget:(fs.map encFn)[((pp.length:Nat):Int).toNat]? = some (encFn q):=by
  rw[hL,hLp,List.append_assoc]
  exact get_mid encFn pp q _
 have hget2:((known.map (·.depth)).map iv)[((pp.length:Nat):Int).toNat]? = some (iv s.depth):=by
  rw[hLk,List.map_map,←hkp]
  exact get_mid _ kp s kl
 have hsd:s.depth≤1000000:=by
  have:=(hB s (by rw[hLk];simp)).2.2
  omega
 refine gaa ?_
 refine oP (xR (el':=encFn q) (cs:=[_,_,_,_]) rfl rfl zo hget rfl rfl) rfl ?_
 refine gac ?_
 by_cases h14:q.name=name
 ·refine oC rfl (fun _=>?_) (fun hd=>absurd h14 (zf hd))
  refine gae ?_
  refine oP (Pure.mv (lv:=v5) rfl) rfl ?_
  refine gaz ?_
  refine oP (xR (el':=iv s.depth) (cs:=[_]) hacc5.elems rfl zo hget2 rfl rfl) rfl ?_
  refine gac ?_
  refine oS (S.lit (es:=[d2,1+s.depth].map iv) [_,_] rfl (iv_els _) rfl rfl rfl ?_) rfl
  refine oS (S.fn [_] rfl (most_spec d2 [1+s.depth] (by simp)) ?_) rfl
  refine gab ?_
  exact ⟨pl2.length,_,_,Nat.lt_succ_self _,⟨pp++[q],pl2,kp++[s],kl,max d2 (1+s.depth),snoc hLp,snoc hLk,by simp[hkp],rfl,rfl,rfl,hkn2,by rw[hov2];unfold overF;rw[List.foldl_cons,if_pos (hs.trans h14)]⟩,⟨rfl,rfl,rfl,rfl,rfl,rfl,rfl,rfl,rfl,rfl,rfl,rfl,rfl,rfl,int_eq (by simp),trivial⟩,HSub.refl _,hj3⟩
 ·refine oC rfl (fun hd=>absurd (zt hd) h14) (fun _=>?_)
  refine gab ?_
  exact ⟨pl2.length,_,_,Nat.lt_succ_self _,⟨pp++[q],pl2,kp++[s],kl,d2,snoc hLp,snoc hLk,by simp[hkp],rfl,rfl,rfl,hkn2,by rw[hov2];unfold overF;rw[List.foldl_cons,if_neg (fun h=>h14 (hs.symm.trans h))]⟩,⟨rfl,rfl,rfl,rfl,rfl,rfl,rfl,rfl,rfl,rfl,rfl,rfl,rfl,rfl,int_eq (by simp),trivial⟩,HSub.refl _,hj3⟩
end
end Go.Proofs.YtcbpcianefpniaaGreatDoor.RC
namespace Go.Proofs.YtcbpcianefpniaaGreatDoor.Chk
open Go.GL Go.RowKit Go.Stele
set_option maxRecDepth 100000
set_option maxHeartbeats 4000000
theorem form_idx0 {kind:Int} {name:List UInt8} {index value:List Ex} {thn els:List Sm} (h:formS (.mk kind name index value thn els)=true) (h2:¬ kind=2):index=[]:=by
 have h1:index.length=0:=by
  simp only[formS] at h
  repeat' (split at h)
  all_goals first
   |(simp only[decide_eq_true_eq] at h;omega)
   |cases h
   |contradiction
 exact List.length_eq_zero_iff.1 h1
theorem form_none {kind:Int} {name:List UInt8} {index value:List Ex} {thn els:List Sm} (h:formS (.mk kind name index value thn els)=true) (h3:¬ kind=3) (h4:¬ kind=4):thn=[]∧els=[]:=by
 have h1:thn.length=0∧els.length=0:=by
  simp only[formS] at h
  repeat' (split at h)
  all_goals first
   |(simp only[decide_eq_true_eq] at h;constructor <;> omega)
   |cases h
   |contradiction
 exact ⟨List.length_eq_zero_iff.1 h1.1,List.length_eq_zero_iff.1 h1.2⟩
theorem form_seven {name:List UInt8} {index value:List Ex} {thn els:List Sm} (h:formS (.mk 7 name index value thn els)=true):value=[]:=by
 have h1:value.length=0:=by
  simp only[formS] at h
  repeat' (split at h)
  all_goals first
   |(simp only[decide_eq_true_eq] at h;omega)
   |cases h
   |contradiction
 exact List.length_eq_zero_iff.1 h1
attribute [local irreducible] LOps LCode LStep LCalls Go.GL.Pure QThen QBlock RetPost LQ LAny LLate LLateOp LS
section
variable {B0:Nat} {w0:World}
def StmtH (B0:Nat) (w0:World) (k:KB) (c:CEnv) (n:Nat):Prop:=∀ (x:Sm) (d:Nat),ndS x≤n→d≤200000000→LCalls (KC B0 w0) 179 [ptr k.cb 0,encS x] (ckH k d) (PostK (errS c x) (iv (needS c x)) (ckH k (max d (depS c x))))
def StmtsH (B0:Nat) (w0:World) (k:KB) (c:CEnv) (n:Nat):Prop:=∀ (l:List Sm) (d:Nat),ndSs l≤n→d≤200000000→LCalls (KC B0 w0) 145 [ptr k.cb 0,.list (l.map encS)] (ckH k d) (PostK (errSs c l) (iv (needSs c l)) (ckH k (max d (depSs c l))))
theorem stmts_spec {k:KB} {c:CEnv} {B D:Nat} (hB:KnB B D c.funcs) (hD8:D≤100000000) {n:Nat} (hn6:n≤1000000) (ih:StmtH B0 w0 k c n):StmtsH B0 w0 k c n:=by
 intro l d hnd hd
 have hal:=ndSs_len l
 generalize hN:needSs c l=N
 generalize hDD:max d (depSs c l)=DD
 refine cI Tryz.func145 rfl (n:=21) rfl rfl rfl ?_
 refine gab ?_
 refine oL (fun kk ls H'=>∃ (pre l1:List Sm) (m d1:Nat),l=pre++l1∧kk=l1.length∧ls=[(0,ptr k.cb 0),(5,iv m),(8,.list (l.map encS)),(9,int .i64 ((l.map encS).length:Int)),(10,iv pre.length)]∧H'=ckH k d1∧d1≤200000000∧errSs c l1=errSs c l∧max m (needSs c l1)=N∧max d1 (depSs c l1)=DD)
  ⟨l.length,_,_,⟨[],l,0,d,rfl,rfl,rfl,rfl,hd,rfl,by omega,hDD⟩,⟨rfl,rfl,rfl,rfl,rfl,trivial⟩,HSub.refl _⟩ ?_
 rintro kk ls H' ⟨pre,l1,m,d1,hLe,rfl,rfl,rfl,hd1,hE,hM,hD1⟩ j hj
 have hb2:pre.length≤1000000:=by
  have:=congrArg List.length hLe
  rw[List.length_append] at this
  omega
 refine gak ?_
 refine oC rfl (fun hc=>?_) (fun hc=>?_)
 ·have hlen:=zt hc
  rw[List.length_map,hLe,List.length_append] at hlen
  obtain ⟨a,l2,rfl⟩:∃ a l2,l1=a::l2:=by
   cases l1 with
   |nil=>simp at hlen
   |cons a l2=>exact ⟨a,l2,rfl⟩
  have ham:ndS a≤n:=by
   have h1:∀ (p:List Sm) (x:Sm) (r:List Sm),ndS x≤ndSs (p++x::r):=fun p=>by
    induction p with
    |nil=>intro x r;show ndS x≤ndSs (x::r);rw[ndSs];omega
    |cons y p ih2=>intro x r;show ndS x≤ndSs (y::(p++x::r));rw[ndSs];have:=ih2 x r;omega
   have:=h1 pre a l2
   rw[←hLe] at this
   omega
  rw[errSs] at hE
  rw[needSs] at hM
  rw[depSs] at hD1
  have hda:=depS_le B D c hB a
  refine gan ?_
  refine oP (xR (el':=encS a) (cs:=[_,_,_,_,_,_]) rfl rfl zo (by rw[hLe];exact get_mid encS pre a l2) rfl rfl) rfl ?_
  refine gac ?_
  refine oS (S.alloc fun b7=>?_) rfl
  refine gaa ?_
  refine oS (S.callK [_,_] rfl (Inp.swap1) (ih a d1 ham hd1) (fun h0=>?_) (fun nm h0 e' he'=>?_)) rfl
  ·rw[h0] at hE
   refine oP (Pure.max2e m (needS c a) rfl rfl rfl rfl) rfl ?_
   refine gab ?_
   exact ⟨l2.length,_,_,Nat.lt_succ_self _,⟨pre++[a],l2,max m (needS c a),max d1 (depS c a),by rw[hLe];simp,rfl,rfl,rfl,by omega,hE,by omega,by omega⟩,⟨rfl,rfl,rfl,rfl,int_eq (by simp),trivial⟩,hsub_left,hj⟩
  ·refine gah ?_
   exact panK (he'.trans hj) (by rw[←hE];unfold orE;rw[if_pos h0]) h0
 ·have hlen:=zf hc
  rw[List.length_map,hLe,List.length_append] at hlen
  obtain rfl:l1=[]:=by
   cases l1 with
   |nil=>rfl
   |cons a l2=>simp at hlen;omega
  rw[needSs] at hM
  rw[depSs] at hD1
  have e1:m=N:=by omega
  have e2:d1=DD:=by omega
  subst e1 e2
  refine gab ?_
  exact retK hj (zra rfl) (hE.symm.trans rfl) rfl zhr
theorem stmt_spec {k:KB} {c:CEnv} (hk:KBok k c) {B D:Nat} (hB:KnB B D c.funcs) (hB8:B≤50000000) (hD8:D≤100000000):∀ n:Nat,n≤1000000→StmtH B0 w0 k c n
 |0,_=>fun x d h _=>by have:=ndS_pos x;omega
 |n+1,hn6=>by
  have ihs:=stmts_spec (B0:=B0) (w0:=w0) hB hD8 (n:=n) zo (stmt_spec hk hB hB8 hD8 n zo)
  have hX:ExprH B0 w0 k c n:=expr_spec hk hB zo hD8 n zo
  intro x d hnd hd
  obtain ⟨kind,name,index,value,thn,els⟩:=x
  rw[ndS] at hnd
  generalize hI:errS c (Sm.mk kind name index value thn els)=E
  rw[errS] at hI
  generalize hN:needS c (Sm.mk kind name index value thn els)=N
  rw[needS] at hN
  generalize hDD:max d (depS c (Sm.mk kind name index value thn els))=DD
  rw[depS] at hDD
  have hfs:=formed_spec (B0:=B0) (w0:=w0) (Sm.mk kind name index value thn els)
  rw[encS_mk] at hfs ⊢
  refine cI Tryz.func179 rfl (n:=65) rfl rfl rfl ?_
  refine gai ?_
  refine oS (S.box rfl fun b3=>?_) rfl
  refine gad ?_
  refine LCode.midC (A:=Unit) (fun _=>[(0,ptr k.cb 0),(3,ptr b3 0)]) (fun _=>(b3,.cells 128 [int .i64 kind,str name,.list (index.map encE),.list (value.map encE),.list (thn.map encS),.list (els.map encS)])::ckH k d) (fun _=>formS (Sm.mk kind name index value thn els)=true) ?_ (fun _ hform j hj=>?_)
  ·refine LCode.draw (m:=7) rfl [(b3,.cells 128 [int .i64 kind,str name,.list (index.map encE),.list (value.map encE),.list (thn.map encS),.list (els.map encS)]),(k.cb,.cells 104 [.atom (.map (some k.gm)),.atom (.map (some k.vm)),.atom (.map (some k.am)),.atom (.map (some k.fm)),str k.name,.atom (.map (some k.om)),int .i64 (d:Int)])] ?_
   refine aT 0 rfl rfl (Pure.ldHAgg (cs':=[_,_,_,_,_,_]) rfl zm0 rfl rfl) ?_
   refine aT 2 rfl rfl (Pure.mv (lv:=.atom _) rfl) ?_
   refine aT 3 rfl rfl (Pure.nilCheckH rfl) ?_
   refine aT 4 rfl rfl (Pure.fieldH rfl) ?_
   refine aT 5 rfl rfl (Pure.loadH (c:=.atom _) rfl zm1 rfl) ?_
   refine LAny.late ?_ (zhP pH zhp)
   refine lO 1 (lS (H1:=[]) rfl (.inl rfl) rfl zpr (zhP pH zhp) (S.fn [_] rfl hfs ?_))
   cases hf:formS (Sm.mk kind name index value thn els) with
   |true=>
    refine lO 6 (lS (H1:=[]) rfl (.inl rfl) rfl zpr (zhP pH zhp) (LStep.callK [_,_,_] rfl (req_spec true k.name 3 (by decide)) (fun _=>?_) (fun nm h=>absurd rfl h)))
    refine lD zk ?_
    refine QThen.normal ?_
    exact ⟨(),rfl,⟨rfl,rfl,trivial⟩,HSub.refl _,rfl⟩
   |false=>
    rw[hf,if_pos rfl] at hI
    refine lO 6 (lS (H1:=[]) rfl (.inl rfl) rfl zpr (zhP pH zhp) (LStep.callK [_,_,_] rfl (req_spec false k.name 3 (by decide)) (fun h=>absurd h (by decide)) (fun nm _ e' he'=>?_)))
    refine gao ?_
    exact panK (he'.trans rfl) (by rw[←hI];rfl) (by decide)
  rw[hform,if_neg (by decide)] at hI
  refine gab ?_
  by_cases h7:kind=7
  ·subst h7
   obtain rfl:=form_seven hform
   obtain rfl:=form_idx0 hform (by decide)
   obtain ⟨rfl,rfl⟩:=form_none hform (by decide) (by decide)
   refine oC rfl (fun _=>?_) (fun hc=>by cases hc)
   refine gau ?_
   have e2:d=DD:=by
    rw[←hDD]
    simp only[depEs,depSs]
    omega
   subst e2
   exact retK hj (zra rfl) (by rw[←hI];rfl) (by rw[←hN];rfl) (zhD zhr)
  refine oC rfl (fun hc=>absurd (zt hc) h7) (fun _=>?_)
  obtain ⟨x0,rfl⟩:=Inp.form_value hform h7
  rw[if_neg h7] at hN
  have hnx:ndE x0≤n:=by
   rw[ndEs,ndEs] at hnd
   omega
  have hdx:=depE_le B D c hB x0
  have hnx0:=needE_le B D c hB x0
  have hEv:∀ E2,orE (errEs c [x0]) E2=orE (errE c x0) E2:=fun E2=>by
   rw[errEs,errEs]
   unfold orE
   by_cases h:errE c x0≠0
   ·rw[if_pos h,if_pos h]
   ·rw[if_neg h,if_neg (by decide),if_neg h]
  rw[hEv] at hI
  rw[show ([x0]:List Ex).headD default=x0 from rfl] at hN
  have hDx:depEs c [x0]=depE c x0:=by
   rw[depEs,depEs]
   omega
  rw[hDx] at hDD
  refine gaa ?_
  refine oP (xR (el':=encE x0) (cs:=[_,_,_,_]) rfl rfl zo rfl rfl rfl) rfl ?_
  refine ga3 ?_
  refine oS (S.callK [_,_] rfl (Inp.swap1) (hX x0 d hnx hd) (fun h0=>?_) (fun nm h0 e' he'=>?_)) rfl
  rotate_left
  ·refine gao ?_
   exact panK (he'.trans hj) (by rw[←hI];unfold orE;rw[if_pos h0]) h0
  rw[h0,show ∀ E2,orE 0 E2=E2 from fun E2=>rfl] at hI
  generalize hd1:max d (depE c x0)=d1
  refine LOps.perm (Inp.swap1 (H:=ckH k d1)).symm ?_
  refine gab ?_
  by_cases hk1:kind=1
  ·subst hk1
   obtain rfl:=form_idx0 hform (by decide)
   obtain ⟨rfl,rfl⟩:=form_none hform (by decide) (by decide)
   have hI4:scalarE c name=E:=by
    rw[←hI]
    simp only[errEs,errSs]
    unfold orE
    by_cases ha:scalarE c name=0 <;> simp[ha]
   refine oC rfl (fun _=>?_) (fun hc=>by cases hc)
   refine gab ?_
   refine oS (S.callK [_,_] rfl (Inp.swap1) (scalar_spec hk d1 name) (fun h1=>?_) (fun nm h1 e' he'=>?_)) rfl
   ·rw[hI4] at h1
    refine gab ?_
    refine oP (Pure.max2e 2 (needE c x0) rfl rfl rfl rfl) rfl ?_
    refine gam ?_
    have e2:d1=DD:=by
     rw[←hDD,←hd1]
     simp only[depEs,depSs]
     omega
    subst e2
    refine retK hj (zra rfl) h1 ?_ hsub_left
    rw[←hN]
    simp only[needSs]
    exact int_eq (by simp)
   ·refine gah ?_
    exact panK (he'.trans hj) hI4.symm h1
  refine oC rfl (fun hc=>absurd (zt hc) hk1) (fun _=>?_)
  rw[if_neg hk1] at hI
  refine gaw ?_
  by_cases hk2:kind=2
  ·subst hk2
   obtain ⟨i0,rfl⟩:=Inp.form_index hform
   obtain ⟨rfl,rfl⟩:=form_none hform (by decide) (by decide)
   have hni:ndE i0≤n:=by
    rw[ndEs,ndEs,ndEs,ndEs] at hnd
    omega
   have hdi:=depE_le B D c hB i0
   have hni0:=needE_le B D c hB i0
   have hI4:orE (errE c i0) (arrayE c name)=E:=by
    rw[←hI]
    simp only[errEs,errSs]
    unfold orE
    by_cases ha:errE c i0=0 <;> by_cases hb:arrayE c name=0 <;> simp[ha,hb]
   refine oC rfl (fun _=>?_) (fun hc=>by cases hc)
   refine gaa ?_
   refine oP (xR (el':=encE i0) (cs:=[_,_,_,_]) rfl rfl zo rfl rfl rfl) rfl ?_
   refine ga3 ?_
   refine oS (S.callK [_,_] rfl (Inp.swap1) (hX i0 d1 hni zo) (fun h1=>?_) (fun nm h1 e' he'=>?_)) rfl
   rotate_left
   ·refine gah ?_
    exact panK (he'.trans hj) (by rw[←hI4];unfold orE;rw[if_pos h1]) h1
   rw[h1] at hI4
   refine LOps.perm (Inp.swap1 (H:=ckH k (max d1 (depE c i0)))).symm ?_
   refine gab ?_
   refine oS (S.callK [_,_] rfl (Inp.swap1) (array_spec hk (max d1 (depE c i0)) name) (fun h2=>?_) (fun nm h2 e' he'=>?_)) rfl
   ·refine gab ?_
    refine oP (Pure.max2e (needE c x0) (2+needE c i0) rfl rfl rfl zo) rfl ?_
    refine gal ?_
    have e2:max d1 (depE c i0)=DD:=by
     rw[←hDD,←hd1]
     simp only[depEs,depSs]
     omega
    rw[←e2]
    exact retK hj (zra rfl) (hI4.symm.trans h2) (by rw[←hN];rfl) hsub_left
   ·refine gah ?_
    exact panK (he'.trans hj) hI4.symm h2
  refine oC rfl (fun hc=>absurd (zt hc) hk2) (fun _=>?_)
  obtain rfl:=form_idx0 hform hk2
  rw[if_neg hk2] at hI hN
  refine gaw ?_
  by_cases hk5:kind=5
  ·subst hk5
   obtain ⟨rfl,rfl⟩:=form_none hform (by decide) (by decide)
   refine oC rfl (fun _=>?_) (fun hc=>by cases hc)
   refine gab ?_
   have e2:d1=DD:=by
    rw[←hDD,←hd1]
    simp only[depEs,depSs]
    omega
   subst e2
   exact retK hj (zra rfl) (by rw[←hI];rfl) (by rw[←hN];rfl) (zhD zhr)
  refine oC rfl (fun hc=>absurd (zt hc) hk5) (fun _=>?_)
  rw[if_neg hk5] at hN
  have hI5:orE (errSs c thn) (errSs c els)=E:=by
   rw[←hI]
   simp only[errEs]
   rfl
  refine gaw ?_
  by_cases hk3:kind=3
  ·refine oC rfl (fun _=>?_) (fun hc=>absurd hk3 (zf hc))
   refine gas ?_
   refine oC rfl (fun _=>?_) (fun hc=>absurd hk3 (zf hc))
   refine LCode.draw (m:=11) rfl [(b3,.cells 128 [int .i64 kind,str name,.list (([]:List Ex).map encE),.list ([x0].map encE),.list (thn.map encS),.list (els.map encS)])] ?_
   refine aT 0 rfl rfl (Pure.mv (lv:=.atom _) rfl) ?_
   refine aT 1 rfl rfl (Pure.mv (lv:=.atom _) rfl) ?_
   refine aT 2 rfl rfl (Pure.fieldH rfl) ?_
   refine aT 3 rfl rfl (Pure.loadH (c:=.list _) rfl zm0 rfl) ?_
   refine aT 5 rfl rfl (Pure.mv (lv:=.atom _) rfl) ?_
   refine aT 6 rfl rfl (Pure.fieldH rfl) ?_
   refine aT 7 rfl rfl (Pure.loadH (c:=.list _) rfl zm0 rfl) ?_
   refine LAny.late ?_ zhp
   refine lO 4 (lS (H1:=ckH k d1) rfl (.inl rfl) rfl Inp.swap1 zhr (LStep.callK [_,_] rfl (ihs thn d1 (by rw[ndEs,ndEs,ndEs] at hnd;omega) zo) (fun h1=>?_) (fun nm h1 e' he'=>?_)))
   rotate_left
   ·refine gah ?_
    exact panK (he'.trans hj) (by rw[←hI5];unfold orE;rw[if_pos h1]) h1
   rw[h1] at hI5
   have hdt:=depSs_le B D c hB thn
   refine lO 8 (lS (H1:=ckH k (max d1 (depSs c thn))) rfl (.inl rfl) rfl zpr zhr (LStep.callK [_,_] rfl (ihs els (max d1 (depSs c thn)) (by rw[ndEs,ndEs,ndEs] at hnd;omega) zo) (fun h2=>?_) (fun nm h2 e' he'=>?_)))
   rotate_left
   ·refine gah ?_
    exact panK (he'.trans hj) hI5.symm h2
   refine lO 9 (lH rfl rfl (Pure.max3e (needE c x0) (needSs c thn) (needSs c els) rfl rfl rfl rfl rfl rfl) ?_)
   refine lO 10 (lH rfl rfl (Pure.as (lv:=.atom _) rfl) ?_)
   refine lD zk ?_
   refine gab ?_
   refine oP (Pure.max2e 2 (max (max (needE c x0) (needSs c thn)) (needSs c els)) rfl rfl rfl rfl) rfl ?_
   refine gam ?_
   have e2:max (max d1 (depSs c thn)) (depSs c els)=DD:=by
    rw[←hDD,←hd1]
    simp only[depEs]
    omega
   rw[←e2]
   exact retK hj (zra rfl) (hI5.symm.trans h2) (by rw[←hN];rfl) hsub_left
  refine oC rfl (fun hc=>absurd (zt hc) hk3) (fun _=>?_)
  refine gaw ?_
  by_cases hk4:kind=4
  ·refine oC rfl (fun _=>?_) (fun hc=>absurd hk4 (zf hc))
   refine LCode.draw (m:=11) rfl [(b3,.cells 128 [int .i64 kind,str name,.list (([]:List Ex).map encE),.list ([x0].map encE),.list (thn.map encS),.list (els.map encS)])] ?_
   refine aT 0 rfl rfl (Pure.mv (lv:=.atom _) rfl) ?_
   refine aT 1 rfl rfl (Pure.mv (lv:=.atom _) rfl) ?_
   refine aT 2 rfl rfl (Pure.fieldH rfl) ?_
   refine aT 3 rfl rfl (Pure.loadH (c:=.list _) rfl zm0 rfl) ?_
   refine aT 5 rfl rfl (Pure.mv (lv:=.atom _) rfl) ?_
   refine aT 6 rfl rfl (Pure.fieldH rfl) ?_
   refine aT 7 rfl rfl (Pure.loadH (c:=.list _) rfl zm0 rfl) ?_
   refine LAny.late ?_ zhp
   refine lO 4 (lS (H1:=ckH k d1) rfl (.inl rfl) rfl Inp.swap1 zhr (LStep.callK [_,_] rfl (ihs thn d1 (by rw[ndEs,ndEs,ndEs] at hnd;omega) zo) (fun h1=>?_) (fun nm h1 e' he'=>?_)))
   rotate_left
   ·refine gah ?_
    exact panK (he'.trans hj) (by rw[←hI5];unfold orE;rw[if_pos h1]) h1
   rw[h1] at hI5
   have hdt:=depSs_le B D c hB thn
   refine lO 8 (lS (H1:=ckH k (max d1 (depSs c thn))) rfl (.inl rfl) rfl zpr zhr (LStep.callK [_,_] rfl (ihs els (max d1 (depSs c thn)) (by rw[ndEs,ndEs,ndEs] at hnd;omega) zo) (fun h2=>?_) (fun nm h2 e' he'=>?_)))
   rotate_left
   ·refine gah ?_
    exact panK (he'.trans hj) hI5.symm h2
   refine lO 9 (lH rfl rfl (Pure.max3e (needE c x0) (needSs c thn) (needSs c els) rfl rfl rfl rfl rfl rfl) ?_)
   refine lO 10 (lH rfl rfl (Pure.as (lv:=.atom _) rfl) ?_)
   refine lD zk ?_
   refine gab ?_
   refine oP (Pure.max2e 2 (max (max (needE c x0) (needSs c thn)) (needSs c els)) rfl rfl rfl rfl) rfl ?_
   refine gam ?_
   have e2:max (max d1 (depSs c thn)) (depSs c els)=DD:=by
    rw[←hDD,←hd1]
    simp only[depEs]
    omega
   rw[←e2]
   exact retK hj (zra rfl) (hI5.symm.trans h2) (by rw[←hN];rfl) hsub_left
  refine oC rfl (fun hc=>absurd (zt hc) hk4) (fun _=>?_)
  obtain ⟨rfl,rfl⟩:=form_none hform hk3 hk4
  refine gab ?_
  refine oP (Pure.max2e 2 (needE c x0) rfl rfl rfl rfl) rfl ?_
  refine gam ?_
  have e2:d1=DD:=by
   rw[←hDD,←hd1]
   simp only[depEs,depSs]
   omega
  subst e2
  refine retK hj (zra rfl) (by rw[←hI5];rfl) ?_ (zhD zhr)
  rw[←hN]
  simp only[needSs]
  exact int_eq (by simp)
end
end Go.Proofs.YtcbpcianefpniaaGreatDoor.Chk
namespace Go.Proofs.YtcbpcianefpniaaGreatDoor.Chk
open Go.GL Go.RowKit Go.Stele
set_option maxRecDepth 100000
set_option maxHeartbeats 4000000
theorem hsub_right {X A L:Heap} (h:HSub X L):HSub X (A++L):=
 let ⟨G,hG⟩:=h
 ⟨A++G,(List.Perm.append_left A hG).trans (by
  rw[←List.append_assoc,←List.append_assoc]
  exact List.perm_append_comm.append_right G)⟩
def pgH (k:KB) (o:Value) (d:Nat):Heap:=[(k.cb,.cells 104 [.atom (.map (some k.gm)),.atom (.map (some k.vm)),.atom (.map (some k.am)),.atom (.map (some k.fm)),str k.name,.atom o,int .i64 (d:Int)]),(k.gm,.map (kvs k.G) k.g1),(k.vm,.map (kvs k.V) k.g2),(k.am,.map (kvs k.A) k.g3),(k.fm,.map (kvs k.F) k.g4)]
def PostE (err:Int) (P:Heap→Prop) (r:LRes) (H:Heap):Prop:=(err=0∧r=.ret (.tuple [])∧P H)∨(err≠0∧(∃ nm,r=.panic (vio nm err))∧H=[])
section
variable {C:Ctx} {n:Nat} {e:Env} {H:Heap} {dst:Option Nat} {ty:TypeId} {pos:String} {aft:Array Edge} {g:Option (Nat×Bool)} {K:LV→Heap→Prop} {X:List PanicEntry→Heap→Prop}
theorem S.callE {err:Int} {P:Heap→Prop} {H1 F:Heap} {f:FuncId} [TEnter C.P f] (args:List Operand) {ats:Array TypeId} {av:List LV} (has:args.map e.ev=av) (hp:H.Perm (H1++F))
  (hc:LCalls C f av H1 (PostE err P)) (hk:∀ H',err=0→P H'→K (.tuple []) (H'++F)) (hx:∀ nm,err≠0→X (vio nm err) F):LStep C ⟨dst,.call { callee:=.value (.func f),args:=args.toArray,argTypes:=ats },ty,pos,aft,g⟩ e H K X:=by
 refine S.callH args has hp hc ?_ ?_
 ·rintro v H2 (⟨h1,h2,h3⟩|⟨_,⟨nm,h2⟩,_⟩)
  ·cases h2
   exact hk _ h1 h3
  ·cases h2
 ·rintro ch H2 (⟨_,h2,_⟩|⟨h1,⟨nm,h2⟩,rfl⟩)
  ·cases h2
  ·cases h2
   exact hx nm h1
theorem retEn {err:Int} {P:Heap→Prop} {H':Heap} {rs:List ResultVar} {vs:List LV} (hd:e.ds=[]) (h:AllRes C n e H rs vs) (he:err=0) (hv:resLV vs=.tuple []) (hH:HSub H' H) (hP:P H'):RetPost C n rs (PostE err P) .normal e H:=
 RetPost.normal hd h hH (.inl ⟨he,by rw[hv],hP⟩)
theorem panE {err er:Int} {P:Heap→Prop} {rs:List ResultVar} {nm:List UInt8} (hd:e.ds=[]) (he:err=er) (h0:er≠0):RetPost C n rs (PostE err P) (.panic (vio nm er)) e H:=
 RetPost.panic hd zhn (.inr ⟨by rw[he];exact h0,⟨nm,by rw[he]⟩,rfl⟩)
end
def newE (known:List Nm) (s:Nm):Int:=if isNm s=false then 7 else if s∈known then 8 else 0
theorem freshE_cons (known:List Nm) (s:Nm) (l:List Nm):freshE known (s::l)=orE (newE known s) (freshE (s::known) l):=by
 rw[freshE]
 unfold newE
 split
 ·rfl
 split
 ·rfl
 ·rfl
theorem freshE_iff:∀ (l k k':List Nm),(∀ s,s∈k ↔ s∈k')→freshE k l=freshE k' l
 |[],_,_,_=>rfl
 |s::l,k,k',h=>by
  have h2:newE k s=newE k' s:=by
   unfold newE
   simp only[h s]
  rw[freshE_cons,freshE_cons,h2,freshE_iff l (s::k) (s::k') (fun x=>by simp[h x])]
attribute [local irreducible] LOps LCode LStep LCalls Go.GL.Pure QThen QBlock RetPost LQ LAny LLate LLateOp LS
section
variable {B0:Nat} {w0:World}
theorem global_spec {k:KB} {o:Value} {d:Nat} {known:List Nm} (hG:IsSet k.G known) (s:Nm):LCalls (KC B0 w0) 93 [ptr k.cb 0,str s] (pgH k o d)
  (PostE (newE known s) (fun H=>∃ g1,H=pgH { k with G:=GL.kvPut k.G s (bool true),g1:=g1 } o d)):=by
 generalize hI:newE known s=E
 unfold newE at hI
 refine cI Tryz.func93 rfl (n:=22) rfl rfl rfl ?_
 refine gae ?_
 refine oS (S.fn [_] rfl (isName_spec s) ?_) rfl
 refine gaz ?_
 cases hn:isNm s with
 |false=>
  rw[if_pos hn] at hI
  refine oS (S.callK (H1:=[]) (F:=pgH k o d) [_,_,_] rfl zpr (req_spec false s 7 (by decide)) (fun h=>absurd h (by decide)) (fun nm _ e' he'=>?_)) rfl
  refine gao ?_
  exact panE (he'.trans rfl) hI.symm (by decide)
 |true=>
  rw[if_neg (by rw[hn];decide)] at hI
  refine oS (S.callK (H1:=[]) (F:=pgH k o d) [_,_,_] rfl zpr (req_spec true s 7 (by decide)) (fun _=>?_) (fun nm h=>absurd rfl h)) rfl
  refine gab ?_
  refine oP (Pure.setHas rfl rfl zm1 hG) rfl ?_
  refine oB 13 rfl (fun h1=>?_) (fun h1=>?_)
  ·rw[if_pos (zt h1)] at hI
   refine gac ?_
   refine oS (S.callK (H1:=[]) (F:=pgH k o d) [_,_,_] rfl zpr (req_spec false s 8 (by decide)) (fun h=>absurd h (by decide)) (fun nm _ e' he'=>?_)) rfl
   refine gao ?_
   exact panE (he'.trans rfl) hI.symm (by decide)
  ·rw[if_neg (zf h1)] at hI
   refine gac ?_
   refine oS (S.callK (H1:=[]) (F:=pgH k o d) [_,_,_] rfl zpr (req_spec true s 8 (by decide)) (fun _=>?_) (fun nm h=>absurd rfl h)) rfl
   refine gab ?_
   refine oS (S.kvSet (k:=s) (lv:=bool true) rfl rfl rfl zp1 fun g1=>?_) rfl
   refine gap ?_
   exact retEn rfl rN hI.symm rfl ⟨[],by rw[List.append_nil];exact List.Perm.swap _ _ _⟩ ⟨g1,rfl⟩
theorem function_spec {vars arrays later:List Nm} {known:List FSum} {k:KB} {o:Value} {d:Nat} (f:FnD) (hG:IsSet k.G (vars++arrays++later)) (hV:IsSet k.V vars) (hA:IsSet k.A arrays) (hF:∀ n,GL.kvGet k.F n=(known.find? fun g=>decide (g.name=n)).map encSum) (hnew:f.name ∉ known.map (·.name))
  {B D:Nat} (hB:KnB B D known) (hB8:B≤50000000) (hD8:D≤100000000) (hnd:ndF f≤1000000) :
  LCalls (KC B0 w0) 95 [ptr k.cb 0,encFn f] (pgH k o d)
  (PostE (errF vars arrays later known f) (fun H=>∃ nm o' d' F' g4,(∀ n,GL.kvGet F' n=((known++[sumF vars arrays later known f]).find? fun g=>decide (g.name=n)).map encSum)∧H=pgH { k with name:=nm,F:=F',g4:=g4 } o' d')):=by
 have hsm:=smF_of hnd
 have hp6:f.params.length≤1000000:=hsm.params
 have hl6:f.locals.length≤1000000:=hsm.locals
 have hbn:ndSs f.body≤1000000:=by
  unfold ndF at hnd
  omega
 generalize hI:errF vars arrays later known f=E
 unfold errF at hI
 refine cI Tryz.func95 rfl (n:=82) rfl rfl rfl ?_
 refine gai ?_
 refine oS (S.box rfl fun b3=>?_) rfl
 refine gab ?_
 refine oS (S.kvNew fun om=>?_) rfl
 refine gaa ?_
 refine oS (S.lit (es:=[strsV f.params,strsV f.locals]) [_,_] rfl (eC rfl rfl (eC rfl rfl eN)) rfl rfl rfl ?_) rfl
 refine oS (S.callH (H1:=[]) (F:=_) [_] rfl zpr (concat_spec [f.params,f.locals] (by simp) (by
  intro l hl
  rcases List.mem_cons.1 hl with rfl|hl
  ·exact hp6
  ·rw[List.mem_singleton.1 hl]
   exact hl6)) ?_ (by rintro ch H' ⟨v,h,_⟩;cases h)) rfl
 rintro v2 Ha2 ⟨_,h,hacc2⟩
 cases h
 have hfl:[f.params,f.locals].flatten=f.params++f.locals:=by simp
 rw[hfl] at hacc2
 refine LOps.sub 24 rfl hacc2.sub ?_
 refine LOps.weak (H':=(b3,.cells 63 [str f.name,.list (f.params.map str),.list (f.locals.map str),.list (f.body.map encS)])::ckH { k with name:=f.name,om:=om,O:=[],g5:=0 } 1) ?_ ?_
 ·refine hsub_right ?_
  repeat first
   |exact HSub.nil _
   |refine zhP zb2 ?_
 refine gad ?_
 refine oL (fun kk ls H'=>∃ (pre l1:List Nm) (OO:KV) (gg:Nat),f.params++f.locals=pre++l1∧kk=l1.length∧ls=[(0,ptr k.cb 0),(3,ptr b3 0),(24,.list ((f.params++f.locals).map str)),(25,int .i64 (((f.params++f.locals).map str).length:Int)),(26,iv pre.length)] ∧
   H'=(b3,.cells 63 [str f.name,.list (f.params.map str),.list (f.locals.map str),.list (f.body.map encS)])::ckH { k with name:=f.name,om:=om,O:=OO,g5:=gg } 1∧IsSet OO pre∧orE (freshE (pre.reverse++(vars++arrays++later)) l1) (errSs (envF vars arrays later known f) f.body)=E)
  ⟨_,_,_,⟨[],f.params++f.locals,[],0,rfl,rfl,rfl,rfl,IsSet.nil,hI⟩,⟨rfl,rfl,rfl,rfl,rfl,trivial⟩,HSub.refl _⟩ ?_
 rintro kk ls H' ⟨pre,l1,OO,gg,hLe,rfl,rfl,rfl,hO,hE⟩ j hj
 have hb2:pre.length≤2000000:=by
  have:=congrArg List.length hLe
  rw[List.length_append,List.length_append] at this
  omega
 refine gak ?_
 refine oC rfl (fun hc=>?_) (fun hc=>?_)
 ·have hlen:=zt hc
  rw[List.length_map,hLe,List.length_append] at hlen
  obtain ⟨s,l2,rfl⟩:∃ a l2,l1=a::l2:=by
   cases l1 with
   |nil=>simp at hlen
   |cons a l2=>exact ⟨a,l2,rfl⟩
  rw[freshE_cons] at hE
  generalize hEn:newE (pre.reverse++(vars++arrays++later)) s=En at hE
  unfold newE at hEn
  refine gan ?_
  refine oP (xR (el':=str s) (cs:=[str s]) rfl rfl zo (by rw[hLe];exact get_mid str pre s l2) rfl rfl) rfl ?_
  refine gaa ?_
  refine oS (S.fn [_] rfl (isName_spec s) ?_) rfl
  refine gaz ?_
  cases hn:isNm s with
  |false=>
   rw[if_pos hn] at hEn
   refine oS (S.callK (H1:=[]) (F:=_) [_,_,_] rfl zpr (req_spec false s 7 (by decide)) (fun h=>absurd h (by decide)) (fun nm _ e' he'=>?_)) rfl
   refine gah ?_
   exact panE (he'.trans hj) (by rw[←hE,←hEn];rfl) (by decide)
  |true=>
   rw[if_neg (by rw[hn];decide)] at hEn
   refine oS (S.callK (H1:=[]) (F:=_) [_,_,_] rfl zpr (req_spec true s 7 (by decide)) (fun _=>?_) (fun nm h=>absurd rfl h)) rfl
   refine gaa ?_
   refine oP (Pure.setHas rfl rfl zm2 hG) rfl ?_
   refine oB 39 rfl (fun h1=>?_) (fun h1=>?_)
   ·have hin:s∈pre.reverse++(vars++arrays++later):=List.mem_append_right _ (zt h1)
    rw[if_pos hin] at hEn
    refine gac ?_
    refine oS (S.callK (H1:=[]) (F:=_) [_,_,_] rfl zpr (req_spec false s 8 (by decide)) (fun h=>absurd h (by decide)) (fun nm _ e' he'=>?_)) rfl
    refine gah ?_
    exact panE (he'.trans hj) (by rw[←hE,←hEn];rfl) (by decide)
   refine gac ?_
   refine oP (Pure.setHas rfl rfl zm6 hO) rfl ?_
   refine oB 47 rfl (fun h2=>?_) (fun h2=>?_)
   ·have hin:s∈pre.reverse++(vars++arrays++later):=List.mem_append_left _ (List.mem_reverse.2 (zt h2))
    rw[if_pos hin] at hEn
    refine gac ?_
    refine oS (S.callK (H1:=[]) (F:=_) [_,_,_] rfl zpr (req_spec false s 8 (by decide)) (fun h=>absurd h (by decide)) (fun nm _ e' he'=>?_)) rfl
    refine gah ?_
    exact panE (he'.trans hj) (by rw[←hE,←hEn];rfl) (by decide)
   rw[if_neg (fun h=>(List.mem_append.1 h).elim (fun h=>zf h2 (List.mem_reverse.1 h)) (zf h1))] at hEn
   subst hEn
   refine gac ?_
   refine oS (S.callK (H1:=[]) (F:=_) [_,_,_] rfl zpr (req_spec true s 8 (by decide)) (fun _=>?_) (fun nm h=>absurd rfl h)) rfl
   refine gaa ?_
   refine oS (S.kvSet (k:=s) (lv:=bool true) rfl rfl rfl zp6 fun gg2=>?_) rfl
   refine ga0 ?_
   exact ⟨l2.length,_,_,Nat.lt_succ_self _,⟨pre++[s],l2,GL.kvPut OO s (bool true),gg2,by rw[hLe];simp,rfl,rfl,rfl,hO.add s,by
    rw[←hE]
    rw[freshE_iff l2 ((pre++[s]).reverse++(vars++arrays++later)) (s::(pre.reverse++(vars++arrays++later))) (fun x=>by simp)]
    rfl⟩,⟨rfl,rfl,rfl,rfl,int_eq (by simp),trivial⟩,by
    repeat first
     |exact HSub.nil _
     |refine zhP zb2 ?_,hj⟩
 have hlen:=zf hc
 rw[List.length_map,hLe,List.length_append] at hlen
 obtain rfl:l1=[]:=by
  cases l1 with
  |nil=>rfl
  |cons a l2=>simp at hlen;omega
 rw[List.append_nil] at hLe
 rw[←hLe] at hO
 have hE2:errSs (envF vars arrays later known f) f.body=E:=by rw[←hE];rfl
 have hkb:KBok { k with name:=f.name,om:=om,O:=OO,g5:=gg } (envF vars arrays later known f):=⟨hG,hV,hA,hO,hF⟩
 have hss:=stmts_spec (B0:=B0) (w0:=w0) (k:={ k with name:=f.name,om:=om,O:=OO,g5:=gg }) (c:=envF vars arrays later known f) hB hD8 (n:=1000000) (Nat.le_refl _) (stmt_spec hkb hB hB8 hD8 1000000 (Nat.le_refl _)) f.body 1 hbn (by decide)
 have hnb:=needSs_le B D (envF vars arrays later known f) hB f.body
 have hdb:=depSs_le B D (envF vars arrays later known f) hB f.body
 refine gaa ?_
 refine oS (S.callK [_,_] rfl (Inp.swap1) hss (fun h0=>?_) (fun nm h0 e' he'=>?_)) rfl
 rotate_left
 ·refine gao ?_
  exact panE (he'.trans hj) hE2.symm h0
 refine LOps.perm (Inp.swap1 (H:=ckH _ _)).symm ?_
 refine gay ?_
 have hpl:(f.params.map str).length≤1000000:=by rw[List.length_map];exact hp6
 refine LCode.tail 20 zk ?_
 refine gaf ?_
 refine LS.pure (Pure.max3e 2 (f.params.length+1) (needSs (envF vars arrays later known f) f.body) rfl rfl rfl rfl (by rw[List.length_map];omega) rfl) rfl ?_
 refine gac ?_
 refine oS (S.kvSet (k:=f.name) (lv:=.agg [int .i64 ((f.params.map str).length:Int),int .i64 (max (max 2 (f.params.length+1)) (needSs (envF vars arrays later known f) f.body):Nat),int .i64 (max 1 (depSs (envF vars arrays later known f) f.body):Nat)]) rfl rfl rfl zp5 fun g4=>?_) rfl
 refine gap ?_
 refine retEn hj rN (hE2.symm.trans h0) rfl (H':=pgH { k with name:=f.name,F:=GL.kvPut k.F f.name (.agg [int .i64 ((f.params.map str).length:Int),int .i64 (max (max 2 (f.params.length+1)) (needSs (envF vars arrays later known f) f.body):Nat),int .i64 (max 1 (depSs (envF vars arrays later known f) f.body):Nat)]),g4:=g4 } (.map (some om)) (max 1 (depSs (envF vars arrays later known f) f.body))) ?hs ⟨f.name,_,_,_,g4,fun n=>?kv,rfl⟩
 case hs=>
  repeat first
   |exact HSub.nil _
   |refine zhP zb2 ?_
 case kv=>
  rw[GL.kvGet_put,hF n,List.find?_append]
  by_cases h1:f.name=n
  ·rw[if_pos h1]
   have h2:(known.find? fun g=>decide (g.name=n))=none:=by
    rw[List.find?_eq_none]
    intro g hg
    simp only[decide_eq_true_eq]
    intro h3
    exact hnew (by rw[h1,←h3];exact List.mem_map_of_mem hg)
   rw[h2,Option.none_or]
   have h4:([sumF vars arrays later known f].find? fun g=>decide (g.name=n))=some (sumF vars arrays later known f):=by
    rw[List.find?_cons_of_pos]
    exact decide_eq_true h1
   rw[h4]
   show some _=some (encSum _)
   unfold encSum sumF
   rw[←List.length_map (f:=str)]
  ·rw[if_neg h1]
   have h4:([sumF vars arrays later known f].find? fun g=>decide (g.name=n))=none:=by
    rw[List.find?_eq_none]
    intro g hg
    rw[List.mem_singleton.1 hg]
    simp only[decide_eq_true_eq]
    exact h1
   rw[h4,Option.or_none]
end
end Go.Proofs.YtcbpcianefpniaaGreatDoor.Chk
