/- Texts joined: ChkW4, ChkW5, ChkW6, ChkW7, ChkW8, ChkW9. -/
import Derived.Test.YtpbbgkoalnonoaaGreatDoorBRowM28
import Derived.Test.YtpbbgkoalnonoaaGreatDoorBRowM210
set_option linter.unusedVariables false
set_option linter.unusedSimpArgs false
set_option maxRecDepth 100000
set_option maxHeartbeats 4000000
namespace Go.Proofs.YtpbbgkoalnonoaaGreatDoor.Chk
open Go.GL Go.RowKit Go.Stele
structure KB where
 cb:Nat
 gm:Nat
 vm:Nat
 am:Nat
 fm:Nat
 om:Nat
 G:KV
 V:KV
 A:KV
 F:KV
 O:KV
 g1:Nat
 g2:Nat
 g3:Nat
 g4:Nat
 g5:Nat
 name:List UInt8
def encSum (f:FSum):LV:=.agg [int .i64 (f.params:Int),int .i64 (f.need:Int),int .i64 (f.depth:Int)]
structure KBok (k:KB) (c:CEnv):Prop where
 G:IsSet k.G c.globals
 V:IsSet k.V c.vars
 A:IsSet k.A c.arrays
 O:IsSet k.O c.own
 F:∀ n,GL.kvGet k.F n=(c.fn n).map encSum
def ckH (k:KB) (d:Nat):Heap:=[(k.cb,.cells 113 [.atom (.map (some k.gm)),.atom (.map (some k.vm)),.atom (.map (some k.am)),.atom (.map (some k.fm)),str k.name,.atom (.map (some k.om)),int .i64 (d:Int)]),(k.gm,.map (kvs k.G) k.g1),(k.vm,.map (kvs k.V) k.g2),(k.am,.map (kvs k.A) k.g3),(k.fm,.map (kvs k.F) k.g4),(k.om,.map (kvs k.O) k.g5)]
def PostK (err:Int) (lv:LV) (H':Heap) (r:LRes) (H:Heap):Prop:=(err=0∧r=.ret lv∧H=H')∨(err≠0∧(∃ nm,r=.panic (vio nm err))∧H=[])
section
variable {C:Ctx} {n:Nat} {e:Env} {H:Heap} {dst:Option Nat} {ty:TypeId} {pos:String} {aft:Array Edge} {g:Option (Nat×Bool)} {K:LV→Heap→Prop} {X:List PanicEntry→Heap→Prop}
theorem S.callK {err:Int} {lv:LV} {H1 H' F:Heap} {f:FuncId} [TEnter C.P f] (args:List Operand) {ats:Array TypeId} {av:List LV} (has:args.map e.ev=av) (hp:H.Perm (H1++F))
  (hc:LCalls C f av H1 (PostK err lv H')) (hk:err=0→K lv (H'++F)) (hx:∀ nm,err≠0→X (vio nm err) F):LStep C ⟨dst,.call { callee:=.value (.func f),args:=args.toArray,argTypes:=ats },ty,pos,aft,g⟩ e H K X:=by
 refine S.callH args has hp hc ?_ ?_
 ·rintro v H2 (⟨h1,h2,rfl⟩|⟨_,⟨nm,h2⟩,_⟩)
  ·cases h2
   exact hk h1
  ·cases h2
 ·rintro ch H2 (⟨_,h2,_⟩|⟨h1,⟨nm,h2⟩,rfl⟩)
  ·cases h2
  ·cases h2
   exact hx nm h1
theorem LStep.callK {err:Int} {lv:LV} {H':Heap} {f:FuncId} [TEnter C.P f] (args:List Operand) {ats:Array TypeId} {av:List LV} (has:args.map e.ev=av)
  (hc:LCalls C f av H (PostK err lv H')) (hk:err=0→K lv H') (hx:∀ nm,err≠0→X (vio nm err) []):LStep C ⟨dst,.call { callee:=.value (.func f),args:=args.toArray,argTypes:=ats },ty,pos,aft,g⟩ e H K X:=by
 refine LStep.conseq (S.callK (F:=[]) (K:=fun lv H'=>K lv H') (X:=X) args has (by rw[zLz]) hc (fun h=>by rw[zLz];exact hk h) hx) (fun lv H' h=>⟨lv,H',LV.Sub.refl _,zhR _,h⟩)
theorem retK {err:Int} {lv:LV} {H':Heap} {rs:List ResultVar} {vs:List LV} (hd:e.ds=[]) (h:AllRes C n e H rs vs) (he:err=0) (hv:resLV vs=lv) (hH:HSub H' H):RetPost C n rs (PostK err lv H') .ret e H:=
 rR hd h hH (.inl ⟨he,by rw[hv],rfl⟩)
theorem retKn {err:Int} {lv:LV} {H':Heap} {rs:List ResultVar} {vs:List LV} (hd:e.ds=[]) (h:AllRes C n e H rs vs) (he:err=0) (hv:resLV vs=lv) (hH:HSub H' H):RetPost C n rs (PostK err lv H') .normal e H:=
 rO hd h hH (.inl ⟨he,by rw[hv],rfl⟩)
theorem panK {err er:Int} {lv:LV} {H':Heap} {rs:List ResultVar} {nm:List UInt8} (hd:e.ds=[]) (he:err=er) (h0:er≠0):RetPost C n rs (PostK err lv H') (.panic (vio nm er)) e H:=
 RetPost.panic hd zhn (.inr ⟨by rw[he];exact h0,⟨nm,by rw[he]⟩,rfl⟩)
end
attribute [local irreducible] LOps LCode LStep LCalls Go.GL.Pure QThen QBlock RetPost LQ LAny LLate LLateOp LS
section
variable {B0:Nat} {w0:World}
theorem req_spec (b:Bool) (nm:List UInt8) (er:Int) (h0:er≠0):LCalls (KC B0 w0) 103 [bool b,str nm,int .i64 er] [] (PostK (if b=true then 0 else er) (.tuple []) []):=
 LCalls.mono (require_spec b nm er) fun r H ⟨h1,h2⟩=>by
  cases b with
  |true=>exact .inl ⟨rfl,h2,h1⟩
  |false=>exact .inr ⟨h0,⟨nm,h2⟩,h1⟩
theorem scalar_spec {k:KB} {c:CEnv} (hk:KBok k c) (d:Nat) (name:List UInt8):LCalls (KC B0 w0) 248 [ptr k.cb 0,str name] (ckH k d) (PostK (scalarE c name) (.tuple []) (ckH k d)):=by
 generalize hI:scalarE c name=E
 unfold scalarE at hI
 refine cI Tryz.func248 rfl (n:=34) rfl rfl rfl ?_
 refine gab ?_
 refine oP (Pure.setHas rfl rfl zm2 hk.V) rfl ?_
 have both:∀ {e:Env} {Q:Post} {ops:Array Oper} {rest:List Oper} {n:Nat},True:=fun {_ _ _ _ _}=>trivial
 refine oB 10 rfl (fun h1=>?_) (fun h1=>?_)
 ·have hin:name∈c.vars∨name∈c.own:=.inl (zt h1)
  refine gab ?_
  refine oS (S.callK (H1:=[]) (F:=ckH k d) [_,_,_] rfl zpr (req_spec true name 10 zDd) (fun _=>?_) (fun nm h=>absurd rfl h)) rfl
  refine gan ?_
  refine oS (S.callK (H1:=[]) (F:=ckH k d) [_,_,_] rfl zpr (req_spec true name 7 zDd) (fun _=>?_) (fun nm h=>absurd rfl h)) rfl
  refine gap ?_
  exact retKn rfl rN (by rw[←hI,if_pos hin]) rfl zhr
 have hv:name ∉ c.vars:=zf h1
 refine gaa ?_
 refine oP (Pure.setHas rfl rfl zm5 hk.O) rfl ?_
 refine oB 17 rfl (fun h2=>?_) (fun h2=>?_)
 ·have hin:name∈c.vars∨name∈c.own:=.inr (zt h2)
  refine gab ?_
  refine oS (S.callK (H1:=[]) (F:=ckH k d) [_,_,_] rfl zpr (req_spec true name 10 zDd) (fun _=>?_) (fun nm h=>absurd rfl h)) rfl
  refine gan ?_
  refine oS (S.callK (H1:=[]) (F:=ckH k d) [_,_,_] rfl zpr (req_spec true name 7 zDd) (fun _=>?_) (fun nm h=>absurd rfl h)) rfl
  refine gap ?_
  exact retKn rfl rN (by rw[←hI,if_pos hin]) rfl zhr
 have ho:name ∉ c.own:=zf h2
 rw[if_neg (fun h=>h.elim hv ho)] at hI
 refine gab ?_
 refine oP (Pure.setHas rfl rfl zm1 hk.G) rfl ?_
 refine oB 26 rfl (fun h3=>?_) (fun h3=>?_)
 ·rw[if_pos (zt h3)] at hI
  refine gaa ?_
  refine oS (S.callK (H1:=[]) (F:=ckH k d) [_,_,_] rfl zpr (req_spec false name 10 zDd) (fun h=>absurd h zDd) (fun nm _ e' he'=>?_)) rfl
  refine gah ?_
  exact panK (he'.trans rfl) (by rw[←hI];try rfl) zDd
 ·rw[if_neg (zf h3)] at hI
  refine gaa ?_
  refine oS (S.callK (H1:=[]) (F:=ckH k d) [_,_,_] rfl zpr (req_spec true name 10 zDd) (fun _=>?_) (fun nm h=>absurd rfl h)) rfl
  refine gan ?_
  refine oS (S.callK (H1:=[]) (F:=ckH k d) [_,_,_] rfl zpr (req_spec false name 7 zDd) (fun h=>absurd h zDd) (fun nm _ e' he'=>?_)) rfl
  exact panK (he'.trans rfl) (by rw[←hI];try rfl) zDd
theorem array_spec {k:KB} {c:CEnv} (hk:KBok k c) (d:Nat) (name:List UInt8):LCalls (KC B0 w0) 249 [ptr k.cb 0,str name] (ckH k d) (PostK (arrayE c name) (.tuple []) (ckH k d)):=by
 generalize hI:arrayE c name=E
 unfold arrayE at hI
 refine cI Tryz.func249 rfl (n:=35) rfl rfl rfl ?_
 refine gab ?_
 refine oP (Pure.setHas rfl rfl zm3 hk.A) rfl ?_
 refine oB 10 rfl (fun h1=>?_) (fun h1=>?_)
 ·refine gaj ?_
  refine oS (S.callK (H1:=[]) (F:=ckH k d) [_,_,_] rfl zpr (req_spec true name 10 zDd) (fun _=>?_) (fun nm h=>absurd rfl h)) rfl
  refine gan ?_
  refine oS (S.callK (H1:=[]) (F:=ckH k d) [_,_,_] rfl zpr (req_spec true name 7 zDd) (fun _=>?_) (fun nm h=>absurd rfl h)) rfl
  refine gap ?_
  exact retKn rfl rN (by rw[←hI,if_pos (zt h1)]) rfl zhr
 rw[if_neg (zf h1)] at hI
 refine gab ?_
 refine oP (Pure.setHas rfl rfl zm1 hk.G) rfl ?_
 refine oB 18 rfl (fun h2=>?_) (fun h2=>?_)
 ·have hin:name∈c.globals∨name∈c.own:=.inl (zt h2)
  refine gaa ?_
  refine oS (S.callK (H1:=[]) (F:=ckH k d) [_,_,_] rfl zpr (req_spec false name 10 zDd) (fun h=>absurd h zDd) (fun nm _ e' he'=>?_)) rfl
  refine gah ?_
  exact panK (he'.trans rfl) (by rw[←hI,if_pos hin];try rfl) zDd
 refine gaa ?_
 refine oP (Pure.setHas rfl rfl zm5 hk.O) rfl ?_
 refine oB 26 rfl (fun h3=>?_) (fun h3=>?_)
 ·have hin:name∈c.globals∨name∈c.own:=.inr (zt h3)
  refine gaa ?_
  refine oS (S.callK (H1:=[]) (F:=ckH k d) [_,_,_] rfl zpr (req_spec false name 10 zDd) (fun h=>absurd h zDd) (fun nm _ e' he'=>?_)) rfl
  refine gah ?_
  exact panK (he'.trans rfl) (by rw[←hI,if_pos hin];try rfl) zDd
 rw[if_neg (fun h=>h.elim (zf h2) (zf h3))] at hI
 refine gaa ?_
 refine oS (S.callK (H1:=[]) (F:=ckH k d) [_,_,_] rfl zpr (req_spec true name 10 zDd) (fun _=>?_) (fun nm h=>absurd rfl h)) rfl
 refine gan ?_
 refine oS (S.callK (H1:=[]) (F:=ckH k d) [_,_,_] rfl zpr (req_spec false name 7 zDd) (fun h=>absurd h zDd) (fun nm _ e' he'=>?_)) rfl
 exact panK (he'.trans rfl) (by rw[←hI];try rfl) zDd
end
end Go.Proofs.YtpbbgkoalnonoaaGreatDoor.Chk
namespace Go.Proofs.YtpbbgkoalnonoaaGreatDoor.Chk
open Go.GL Go.RowKit Go.Stele
@[reducible] def iv (n:Nat):LV:=int .i64 (n:Int)
attribute [local irreducible] LOps LCode LStep LCalls Go.GL.Pure QThen QBlock RetPost LQ LAny LLate LLateOp LS
section
variable {B0:Nat} {w0:World}
theorem call_spec {k:KB} {c:CEnv} (hk:KBok k c) {B D:Nat} (hB:KnB B D c.funcs) (hB8:B≤100000000) (hD8:D≤100000000) (d:Nat) (hd:d≤1000000000) (name:List UInt8) (ns:List Nat) (hl:ns.length≤2000000) (hns:∀ n∈ns,n≤1000000000) :
  LCalls (KC B0 w0) 273 [ptr k.cb 0,str name,.list (ns.map iv)] (ckH k d) (PostK (callE c name ns.length) (iv (callN c name ns)) (ckH k (max d (callD c nCall name)))):=by
 generalize hI:callE c name ns.length=E
 generalize hN:callN c name ns=N
 generalize hDD:callD c nCall name=DD
 unfold callE at hI
 unfold callN at hN
 unfold callD at hDD
 have hll:(ns.map iv).length=ns.length:=zLm _
 refine cI Tryz.func273 rfl (n:=110) rfl rfl rfl ?_
 refine gab ?_
 by_cases hin:name=[105,110]
 ·rw[if_pos hin] at hI hN
  rw[if_neg (fun h=>h.2.1 hin)] at hDD
  subst hDD
  refine oC rfl (fun _=>?_) (fun hc=>absurd hin (zf hc))
  refine gac ?_
  refine oS (S.callK (H1:=[]) (F:=ckH k d) [_,_,_] rfl zpr (req_spec (decide (((ns.map iv).length:Int)=0)) name 1 zDd) (fun h=>?_) (fun nm h e' he'=>?_)) rfl
  ·have h0:ns.length=0:=by
    by_cases h1:((ns.map iv).length:Int)=0
    ·omega
    ·rw[decide_eq_false h1] at h
     cases h
   refine gab ?_
   exact retK rfl (zra rfl) (by rw[←hI,if_pos h0]) (by rw[←hN];try rfl) (by rw[Nat.max_zero];exact zhR _)
  ·have h0:¬ ns.length=0:=by
    intro h1
    rw[decide_eq_true (show ((ns.map iv).length:Int)=0 by omega)] at h
    exact h rfl
   rw[show (if decide (((ns.map iv).length:Int)=0)=true then (0:Int) else 1)=1 by rw[if_neg];simp only[zDe];omega]
   refine gae ?_
   exact panK (he'.trans rfl) (by rw[←hI,if_neg h0]) zDd
 rw[if_neg hin] at hI hN
 refine oC rfl (fun hc=>absurd (zt hc) hin) (fun _=>?_)
 refine gar ?_
 by_cases hout:name=[111,117,116]
 ·rw[if_pos hout] at hI hN
  rw[if_neg (fun h=>h.2.2 hout)] at hDD
  subst hDD
  refine oC rfl (fun _=>?_) (fun hc=>absurd hout (zf hc))
  refine gac ?_
  refine oS (S.callK (H1:=[]) (F:=ckH k d) [_,_,_] rfl zpr (req_spec (decide (((ns.map iv).length:Int)=1)) name 1 zDd) (fun h=>?_) (fun nm h e' he'=>?_)) rfl
  ·have h0:ns.length=1:=by
    by_cases h1:((ns.map iv).length:Int)=1
    ·omega
    ·rw[decide_eq_false h1] at h
     cases h
   obtain ⟨a,l,rfl⟩:∃ a l,ns=a::l:=by
    cases ns with
    |nil=>simp at h0
    |cons a l=>exact ⟨a,l,rfl⟩
   refine gab ?_
   refine oP (xR (el':=iv a) (cs:=[iv a]) rfl rfl zo rfl rfl rfl) rfl ?_
   refine gaa ?_
   exact retK rfl (zra rfl) (by rw[←hI,if_pos h0]) (by rw[←hN];try rfl) (by rw[Nat.max_zero];exact zhR _)
  ·have h0:¬ ns.length=1:=by
    intro h1
    rw[decide_eq_true (show ((ns.map iv).length:Int)=1 by omega)] at h
    exact h rfl
   rw[show (if decide (((ns.map iv).length:Int)=1)=true then (0:Int) else 1)=1 by rw[if_neg];simp only[zDe];omega]
   refine gae ?_
   exact panK (he'.trans rfl) (by rw[←hI,if_neg h0]) zDd
 rw[if_neg hout] at hI hN
 rw[if_pos ⟨rfl,hin,hout⟩] at hDD
 refine oC rfl (fun hc=>absurd (zt hc) hout) (fun _=>?_)
 refine gab ?_
 have hF:=hk.F name
 cases hfn:c.fn name with
 |none=>
  rw[hfn] at hI hF
  refine oP (Pure.kvMiss2 rfl rfl zm4 hF) rfl ?_
  refine gad ?_
  refine oS (sA fun b7=>?_) rfl
  refine gab ?_
  refine oP (Pure.setHas rfl rfl zm3 hk.V) rfl ?_
  refine oB 46 rfl (fun h2=>?_) (fun h2=>?_)
  ·have hbad:name∈c.vars∨name∈c.arrays∨name∈c.own:=.inl (zt h2)
   refine gaa ?_
   refine oS (S.callK (H1:=[]) (F:=_::ckH k d) [_,_,_] rfl zpr (req_spec false name 10 zDd) (fun h=>absurd h zDd) (fun nm _ e' he'=>?_)) rfl
   refine gah ?_
   exact panK (he'.trans rfl) (by rw[←hI];exact if_pos hbad) zDd
  refine gaa ?_
  refine oP (Pure.setHas rfl rfl zm4 hk.A) rfl ?_
  refine oB 54 rfl (fun h3=>?_) (fun h3=>?_)
  ·have hbad:name∈c.vars∨name∈c.arrays∨name∈c.own:=.inr (.inl (zt h3))
   refine gaa ?_
   refine oS (S.callK (H1:=[]) (F:=_::ckH k d) [_,_,_] rfl zpr (req_spec false name 10 zDd) (fun h=>absurd h zDd) (fun nm _ e' he'=>?_)) rfl
   refine gah ?_
   exact panK (he'.trans rfl) (by rw[←hI];exact if_pos hbad) zDd
  refine gaa ?_
  refine oP (Pure.setHas rfl rfl zm6 hk.O) rfl ?_
  refine oB 63 rfl (fun h4=>?_) (fun h4=>?_)
  ·have hbad:name∈c.vars∨name∈c.arrays∨name∈c.own:=.inr (.inr (zt h4))
   refine gaa ?_
   refine oS (S.callK (H1:=[]) (F:=_::ckH k d) [_,_,_] rfl zpr (req_spec false name 10 zDd) (fun h=>absurd h zDd) (fun nm _ e' he'=>?_)) rfl
   refine gah ?_
   exact panK (he'.trans rfl) (by rw[←hI];exact if_pos hbad) zDd
  refine gaa ?_
  refine oS (S.callK (H1:=[]) (F:=_::ckH k d) [_,_,_] rfl zpr (req_spec true name 10 zDd) (fun _=>?_) (fun nm h=>absurd rfl h)) rfl
  refine gan ?_
  refine oS (S.callK (H1:=[]) (F:=_::ckH k d) [_,_,_] rfl zpr (req_spec false name 7 zDd) (fun h=>absurd h zDd) (fun nm _ e' he'=>?_)) rfl
  refine gah ?_
  exact panK (he'.trans rfl) (by rw[←hI];exact if_neg (fun h=>h.elim (zf h2) (fun h=>h.elim (zf h3) (zf h4)))) zDd
 |some f=>
  rw[hfn] at hI hF hN hDD
  have hkb:=hB f (List.mem_of_find?_eq_some hfn)
  refine oP (Pure.kvHit2 rfl rfl zm4 hF) rfl ?_
  refine gad ?_
  refine oS (sA fun b7=>?_) rfl
  refine gaj ?_
  refine oS (S.callK (H1:=[]) (F:=_::ckH k d) [_,_,_] rfl zpr (req_spec true name 10 zDd) (fun _=>?_) (fun nm h=>absurd rfl h)) rfl
  refine gan ?_
  refine oS (S.callK (H1:=[]) (F:=_::ckH k d) [_,_,_] rfl zpr (req_spec true name 7 zDd) (fun _=>?_) (fun nm h=>absurd rfl h)) rfl
  refine gac ?_
  by_cases h0:ns.length=f.params
  rotate_left
  ·have h0':¬ ((ns.map iv).length:Int)=(f.params:Int):=by omega
   refine oB 76 rfl (fun h=>absurd (zt h) h0') (fun _=>?_)
   refine oS (S.callK (H1:=[]) (F:=_::ckH k d) [_,_,_] rfl zpr (req_spec false name 1 zDd) (fun h=>absurd h zDd) (fun nm _ e' he'=>?_)) rfl
   refine gah ?_
   exact panK (he'.trans rfl) (by rw[←hI];exact if_neg h0) zDd
  have h0':((ns.map iv).length:Int)=(f.params:Int):=by omega
  refine oB 76 rfl (fun _=>?_) (fun h=>absurd h0' (zf h))
  have hI0:E=0:=by rw[←hI];exact if_pos h0
  refine oS (S.callK (H1:=[]) (F:=_::ckH k d) [_,_,_] rfl zpr (req_spec true name 1 zDd) (fun _=>?_) (fun nm h=>absurd rfl h)) rfl
  refine gaa ?_
  refine LCode.draw (m:=12) rfl [(b7,.cells 197 [iv f.params,iv f.need,iv f.depth])] ?_
  refine aT 0 rfl rfl (pM (lv:=.atom _) rfl) ?_
  refine aT 1 rfl rfl (pM (lv:=.atom _) rfl) ?_
  refine aT 2 rfl rfl (pN rfl) ?_
  refine aT 3 rfl rfl (pF rfl) ?_
  refine aT 5 rfl rfl (pF rfl) ?_
  refine aT 6 rfl rfl (pL (c:=.atom _) rfl zm0 rfl) ?_
  refine aT 7 rfl rfl (Pure.add rfl rfl zo) ?_
  refine LAny.late ?_ zhp
  refine lO 4 (lH rfl rfl (pL (c:=iv d) rfl zm1 rfl) ?_)
  refine lO 8 (lH rfl rfl (Pure.max2e d (f.depth+1) rfl rfl zo zo) ?_)
  refine lO 9 (lH rfl rfl (pN rfl) ?_)
  refine lO 10 (lH rfl rfl (pF rfl) ?_)
  refine lO 11 (lS (H1:=[(k.cb,.cells 113 [.atom (.map (some k.gm)),.atom (.map (some k.vm)),.atom (.map (some k.am)),.atom (.map (some k.fm)),str k.name,.atom (.map (some k.om)),int .i64 (d:Int)])]) rfl (.inl rfl) rfl (show Pick _ _ _ from pT pH) zhp (sS (n:=1) (cs':=[_,_,_,_,_,_,iv (max d (f.depth+1))]) rfl pH rfl rfl rfl rfl rfl ?_))
  refine lD zk ?_
  have hdd:max d DD=max d (f.depth+1):=by rw[←hDD]
  rw[hdd]
  refine qN ?_
  refine LCode.perm (H':=(b7,.cells 197 [iv f.params,iv f.need,iv f.depth])::ckH k (max d (f.depth+1))) (List.Perm.swap _ _ _) ?_
  refine gab ?_
  refine oP (Pure.max2e (f.params+1) f.need rfl rfl zo zo) rfl ?_
  refine gac ?_
  refine oL (fun kk ls H'=>∃ (pre l1:List Nat) (m:Nat),ns=pre++l1∧kk=l1.length∧ls=[(9,iv m),(96,.list (ns.map iv)),(97,int .i64 ((ns.map iv).length:Int)),(98,iv pre.length)]∧H'=ckH k (max d (f.depth+1))∧stair pre.length l1 m=N)
   ⟨ns.length,_,_,⟨[],ns,max (f.params+1) f.need,rfl,rfl,rfl,rfl,hN⟩,⟨rfl,rfl,rfl,rfl,trivial⟩,zhD zhr⟩ ?_
  rintro kk ls H' ⟨pre,l1,m,hLe,rfl,rfl,rfl,hS⟩ j hj
  have hb2:pre.length≤2000000:=by
   rw[hLe,zLa] at hl
   omega
  refine gal ?_
  refine oC rfl (fun hc=>?_) (fun hc=>?_)
  ·have hlen:=zt hc
   rw[zLm,hLe,zLa] at hlen
   obtain ⟨a,l2,rfl⟩:∃ a l2,l1=a::l2:=by
    cases l1 with
    |nil=>simp at hlen
    |cons a l2=>exact ⟨a,l2,rfl⟩
   have ha:a≤1000000000:=hns a (by rw[hLe];exact List.mem_append_right _ zMs)
   rw[stair] at hS
   refine gab ?_
   refine oP (xR (el':=iv a) (cs:=[iv a]) rfl rfl zo (by rw[hLe];exact get_mid iv pre a l2) rfl rfl) rfl ?_
   refine gab ?_
   refine oP (Pure.max2e m (pre.length+a) rfl rfl zo zo) rfl ?_
   refine gab ?_
   exact ⟨l2.length,_,_,Nat.lt_succ_self _,⟨pre++[a],l2,max m (pre.length+a),by rw[hLe];simp,rfl,rfl,rfl,by rw[zLa];exact hS⟩,⟨rfl,rfl,rfl,int_eq (by simp),trivial⟩,zhR _,hj⟩
  ·have hlen:=zf hc
   rw[zLm,hLe,zLa] at hlen
   obtain rfl:l1=[]:=by
    cases l1 with
    |nil=>rfl
    |cons a l2=>simp at hlen;omega
   rw[stair] at hS
   refine gab ?_
   exact retK hj (zra rfl) hI0 (by rw[←hS];try rfl) zhr
end
end Go.Proofs.YtpbbgkoalnonoaaGreatDoor.Chk
namespace Go.Proofs.YtpbbgkoalnonoaaGreatDoor.Chk
open Go.GL Go.RowKit Go.Stele
theorem permCall {x y:Nat×LObj} {A B:Heap}:List.Perm (x::y::(A++B)) (A++(x::y::B)):=by
 have h:List.Perm (([x,y]++A)++B) ((A++[x,y])++B):=zPc.append_right B
 rw[zAs A] at h
 exact h
theorem permCall1 {x:Nat×LObj} {A B:Heap}:List.Perm (x::(A++B)) (A++(x::B)):=by
 have h:List.Perm (([x]++A)++B) ((A++[x])++B):=zPc.append_right B
 rw[zAs A] at h
 exact h
theorem permAcc {x y:Nat×LObj} {A B:Heap}:List.Perm (A++(x::y::B)) (B++(x::y::A)):=by
 refine permCall.symm.trans ?_
 exact (List.perm_append_comm (l₁:=x::y::A) (l₂:=B))
theorem iv_one (n:Nat):∀ v∈[iv n],v.cells.length=1:=fun v hv=>by rw[List.mem_singleton.1 hv];try rfl
theorem needEs_len (c:CEnv):∀ l:List Ex,(needEs c l).length=l.length
 |[]=>rfl
 |x::l=>by rw[needEs,zLc,zLc,needEs_len c l]
theorem needEs_app (c:CEnv) (x:Ex):∀ l:List Ex,needEs c (l++[x])=needEs c l++[needE c x]
 |[]=>rfl
 |y::l=>by
  show needEs c (y::(l++[x]))=_
  rw[needEs,needEs_app c x l,needEs]
  try rfl
theorem depEs_app (c:CEnv) (x:Ex):∀ l:List Ex,depEs c (l++[x])=max (depEs c l) (depE c x)
 |[]=>by
  show max (depE c x) 0=max 0 (depE c x)
  omega
 |y::l=>by
  show depEs c (y::(l++[x]))=_
  rw[depEs,depEs_app c x l,depEs,Nat.max_assoc]
theorem needEs_mem {c:CEnv} {B D:Nat} (hB:KnB B D c.funcs):∀ {l:List Ex} {n:Nat},n∈needEs c l→n≤4 * ndEs l+B
 |[],n,h=>by rw[needEs] at h;cases h
 |x::l,n,h=>by
  rw[needEs] at h
  rw[ndEs]
  rcases zMi.1 h with rfl|h
  ·have:=needE_le B D c hB x
   omega
  ·have:=needEs_mem hB h
   omega
attribute [local irreducible] LOps LCode LStep LCalls Go.GL.Pure QThen QBlock RetPost LQ LAny LLate LLateOp LS
section
variable {B0:Nat} {w0:World}
def ExprH (B0:Nat) (w0:World) (k:KB) (c:CEnv) (n:Nat):Prop:=∀ (x:Ex) (d:Nat),ndE x≤n→d≤200000000→LCalls (KC B0 w0) 247 [ptr k.cb 0,encE x] (ckH k d) (PostK (errE c x) (iv (needE c x)) (ckH k (max d (depE c x))))
theorem expr_spec {k:KB} {c:CEnv} (hk:KBok k c) {B D:Nat} (hB:KnB B D c.funcs) (hB8:B≤100000000) (hD8:D≤100000000):∀ n:Nat,n≤2000000→ExprH B0 w0 k c n
 |0,_=>fun x d h _=>by have:=ndE_pos x;omega
 |n+1,hn6=>by
  have ih:=expr_spec hk hB hB8 hD8 n zo
  intro x d hnd hd
  obtain ⟨op,num,name,args⟩:=x
  rw[ndE] at hnd
  have hal:=ndEs_len args
  have hall:(args.map encE).length=args.length:=zLm _
  generalize hI:errE c (Ex.mk op num name args)=E
  rw[errE] at hI
  rw[needE,depE]
  rw[encE_mk]
  refine cI Tryz.func247 rfl (n:=121) rfl rfl rfl ?_
  refine gag ?_
  refine oS (S.box rfl fun b3=>?_) rfl
  refine gab ?_
  refine oS (sF [_] rfl (operands_spec op) ?_) rfl
  refine gaa ?_
  refine LCode.midC (A:=Unit) (fun _=>[(0,ptr k.cb 0),(3,ptr b3 0)]) (fun _=>(b3,.cells 104 [str op,int .u32 (num:Int),str name,.list (args.map encE)])::ckH k d) (fun _=>opnds op = -1∨opnds op=args.length) ?_ (fun _ hop j hj=>?_)
  ·refine LCode.draw (m:=14) rfl [(b3,.cells 104 [str op,int .u32 (num:Int),str name,.list (args.map encE)]),(k.cb,.cells 113 [.atom (.map (some k.gm)),.atom (.map (some k.vm)),.atom (.map (some k.am)),.atom (.map (some k.fm)),str k.name,.atom (.map (some k.om)),int .i64 (d:Int)])] ?_
   refine aT 0 rfl rfl (pM (lv:=.atom _) rfl) ?_
   by_cases h1:opnds op = -1
   ·refine LAny.take (i:=1) (zhP pH zhp) rfl zk zk zk rfl (Pure.eqlT h1 rfl rfl) ?_
    refine aT 2 rfl rfl (pM (lv:=.atom _) rfl) ?_
    refine LAny.takeSkip (i:=3) rfl rfl rfl rfl zk zk zk rfl ?_
    refine LAny.takeSkip (i:=4) rfl rfl rfl rfl zk zk zk rfl ?_
    refine LAny.takeSkip (i:=5) rfl rfl rfl rfl zk zk zk rfl ?_
    refine LAny.takeSkip (i:=6) rfl rfl rfl rfl zk zk zk rfl ?_
    refine LAny.takeSkip (i:=7) rfl rfl rfl rfl zk zk zk rfl ?_
    refine aT 8 rfl rfl (Pure.pickT (lv:=.atom _) rfl rfl) ?_
    refine aT 9 rfl rfl (pM (lv:=.atom _) rfl) ?_
    refine aT 10 rfl rfl (pN rfl) ?_
    refine aT 11 rfl rfl (pF rfl) ?_
    refine aT 12 rfl rfl (pL (c:=.atom _) rfl zm1 rfl) ?_
    refine LAny.late ?_ (zhP pH zhp)
    refine lO 13 (lS (H1:=[]) rfl (.inl rfl) rfl zpr (zhP pH zhp) (LStep.callK [_,_,_] rfl (req_spec true k.name 3 zDd) (fun _=>?_) (fun nm h=>absurd rfl h)))
    refine lD zk ?_
    refine qN ?_
    exact ⟨(),.inl h1,⟨rfl,rfl,trivial⟩,zhR _,rfl⟩
   ·refine LAny.take (i:=1) (zhP pH zhp) rfl zk zk zk rfl (Pure.eqlF h1 rfl rfl) ?_
    refine aT 2 rfl rfl (pM (lv:=.atom _) rfl) ?_
    refine LAny.tkW 3 rfl rfl rfl rfl (pM (lv:=.atom _) rfl) ?_
    refine LAny.tkW 4 rfl rfl rfl rfl (pF rfl) ?_
    refine LAny.tkW 5 rfl rfl rfl rfl (pL (c:=.list _) rfl zm0 rfl) ?_
    refine LAny.tkW 6 rfl rfl rfl rfl (Pure.llen rfl) ?_
    by_cases h2:opnds op=args.length
    ·refine LAny.takeWant (i:=7) (zhP pH zhp) rfl rfl rfl zk zk zk rfl (Pure.eqlT (show opnds op=((args.map encE).length:Int) by rw[hall];exact h2) rfl rfl) ?_
     refine aT 8 rfl rfl (Pure.pickF (lv:=.atom _) rfl rfl) ?_
     refine aT 9 rfl rfl (pM (lv:=.atom _) rfl) ?_
     refine aT 10 rfl rfl (pN rfl) ?_
     refine aT 11 rfl rfl (pF rfl) ?_
     refine aT 12 rfl rfl (pL (c:=.atom _) rfl zm1 rfl) ?_
     refine LAny.late ?_ (zhP pH zhp)
     refine lO 13 (lS (H1:=[]) rfl (.inl rfl) rfl zpr (zhP pH zhp) (LStep.callK [_,_,_] rfl (req_spec true k.name 3 zDd) (fun _=>?_) (fun nm h=>absurd rfl h)))
     refine lD zk ?_
     refine qN ?_
     exact ⟨(),.inr h2,⟨rfl,rfl,trivial⟩,zhR _,rfl⟩
    ·refine LAny.takeWant (i:=7) (zhP pH zhp) rfl rfl rfl zk zk zk rfl (Pure.eqlF (show ¬ opnds op=((args.map encE).length:Int) by rw[hall];exact h2) rfl rfl) ?_
     refine aT 8 rfl rfl (Pure.pickF (lv:=.atom _) rfl rfl) ?_
     refine aT 9 rfl rfl (pM (lv:=.atom _) rfl) ?_
     refine aT 10 rfl rfl (pN rfl) ?_
     refine aT 11 rfl rfl (pF rfl) ?_
     refine aT 12 rfl rfl (pL (c:=.atom _) rfl zm1 rfl) ?_
     refine LAny.late ?_ (zhP pH zhp)
     refine lO 13 (lS (H1:=[]) rfl (.inl rfl) rfl zpr (zhP pH zhp) (LStep.callK [_,_,_] rfl (req_spec false k.name 3 zDd) (fun h=>absurd h zDd) (fun nm _ e' he'=>?_)))
     refine gah ?_
     exact panK (he'.trans rfl) (by rw[←hI,if_neg (fun h=>h.elim h1 h2)];try rfl) zDd
  rw[if_pos hop] at hI
  refine gac ?_
  refine oL (fun kk ls H'=>∃ (pre l1:List Ex) (v:LV) (Ha:Heap),args=pre++l1∧kk=l1.length∧ls=[(0,ptr k.cb 0),(3,ptr b3 0),(6,v),(29,.list (args.map encE)),(30,int .i64 ((args.map encE).length:Int)),(31,int .i64 (pre.length:Int))] ∧
    H'=(b3,.cells 104 [str op,int .u32 (num:Int),str name,.list (args.map encE)])::(ckH k (max d (depEs c pre))++Ha)∧GL.Acc 1 v ((needEs c pre).map iv) Ha []∧orE (errEs c l1) (useE c op name args.length)=E)
   ⟨args.length,_,_,⟨[],args,nilSlice,[],rfl,rfl,rfl,rfl,Acc.nil,hI⟩,⟨rfl,rfl,rfl,rfl,rfl,rfl,trivial⟩,⟨[],by
    rw[zLz,zLz,depEs,Nat.max_zero]⟩⟩ ?_
  rintro kk ls H' ⟨pre,l1,v,Ha,hLe,rfl,rfl,rfl,hacc,hI2⟩ j2 hj2
  have hb2:pre.length≤2000000:=by
   have:=congrArg List.length hLe
   rw[zLa] at this
   omega
  have hdp:max d (depEs c pre)≤200000000:=by
   have:=depEs_le B D c hB pre
   omega
  refine gal ?_
  refine oC rfl (fun hc=>?_) (fun hc=>?_)
  ·have hlen:=zt hc
   rw[zLm,hLe,zLa] at hlen
   obtain ⟨a,l2,rfl⟩:∃ a l2,l1=a::l2:=by
    cases l1 with
    |nil=>simp at hlen
    |cons a l2=>exact ⟨a,l2,rfl⟩
   have ham:ndE a≤ndEs args:=ndEs_mem (by rw[hLe];exact List.mem_append_right _ zMs)
   rw[errEs] at hI2
   refine gam ?_
   refine oP (xR (el':=encE a) (cs:=[_,_,_,_]) rfl rfl zo (by rw[hLe];exact get_mid encE pre a l2) rfl rfl) rfl ?_
   refine gat ?_
   refine oS (sA fun b8=>?_) rfl
   refine gac ?_
   refine oP (pM (lv:=v) rfl) rfl ?_
   refine gad ?_
   refine oS (S.callK [_,_] rfl permCall (ih a _ zo hdp) (fun h0=>?_) (fun nm h0 e' he'=>?_)) rfl
   ·rw[h0] at hI2
    refine oS (sL (es:=[iv (needE c a)]) [_] rfl (eC rfl rfl eN) rfl rfl rfl ?_) rfl
    refine oS (S.accF permAcc rfl hacc rfl (iv_one _) rfl (by rw[zLm,needEs_len,zLc,zLn];omega) fun v' Ha' hacc'=>?_) rfl
    refine oP (pA (lv:=v') rfl) rfl ?_
    refine gaq ?_
    exact ⟨l2.length,_,_,Nat.lt_succ_self _,⟨pre++[a],l2,v',Ha',by rw[hLe];simp,rfl,rfl,rfl,by rw[needEs_app,zMa];exact hacc',by rw[←hI2];try rfl⟩,⟨rfl,rfl,rfl,rfl,rfl,int_eq (by simp),trivial⟩,by
     rw[depEs_app,←Nat.max_assoc]
     exact zhD zhr,hj2⟩
   ·refine gae ?_
    exact panK ((he'.trans hj2).trans hj) (by rw[←hI2];unfold orE;rw[if_pos h0,if_pos h0]) h0
  have hlen:=zf hc
  rw[zLm,hLe,zLa] at hlen
  obtain rfl:l1=[]:=by
   cases l1 with
   |nil=>rfl
   |cons a l2=>simp at hlen;omega
  rw[zLz] at hLe
  subst hLe
  have hI3:useE c op name args.length=E:=by rw[←hI2];try rfl
  have hds:j2.ds=[]:=hj2.trans hj
  generalize hd1:max d (depEs c args)=d1 at hdp ⊢
  have hdd:max d (max (depEs c args) (callD c op name))=max d1 (callD c op name):=by rw[←hd1,Nat.max_assoc]
  rw[hdd]
  generalize hns:needEs c args=ns at hacc ⊢
  have hnl:ns.length=args.length:=by rw[←hns,needEs_len]
  have hnb:∀ m∈ns,m≤1000000000:=fun m hm=>by
   rw[←hns] at hm
   have:=needEs_mem hB hm
   omega
  have hel:=hacc.elems
  refine gab ?_
  have ret1:∀ (nd:LV) {e:Env} {H:Heap},E=0→e.ds=[]→e.s 4=nd→HSub (ckH k d1) H→callD c op name=0→iv (opN c op name ns)=nd→RetPost (KC B0 w0) 121 [ResultVar.tmp 4] (PostK E (iv (opN c op name ns)) (ckH k (max d1 (callD c op name)))) .ret e H:=fun nd {e H} h0 hd he hH hcd hn=>by
   rw[hcd,Nat.max_zero]
   exact retK hd (rC (rT he zsr) rN) h0 hn.symm hH
  have hcall0:¬ op=nCall→callD c op name=0:=fun h=>by
   unfold callD
   rw[if_neg (fun h2=>h h2.1)]
  have hE0:¬ op=nVar→¬ op=nElem→¬ op=nCall→E=0:=fun a1 a2 a3=>by
   rw[←hI3]
   unfold useE
   rw[if_neg a1,if_neg a2,if_neg a3]
  have HS:HSub (ckH k d1) ((b3,.cells 104 [str op,int .u32 (num:Int),str name,.list (args.map encE)])::(ckH k d1++Ha)):=zhD hsub_left
  by_cases h1:op=[110,117,109]
  ·refine oC rfl (fun _=>?_) (fun hc=>absurd h1 (zf hc))
   refine gab ?_
   refine ret1 (iv 1) ?_ ?_ ?_ ?_ ?_ ?_
   ·subst h1;exact hE0 zDd zDd zDd
   ·exact hds
   ·rfl
   ·exact HS
   ·subst h1;exact hcall0 zDd
   ·subst h1;rfl
  refine oC rfl (fun hc=>absurd (zt hc) h1) (fun _=>?_)
  refine gar ?_
  by_cases h2:op=[118,97,114]
  ·refine oC rfl (fun _=>?_) (fun hc=>absurd h2 (zf hc))
   have hI4:scalarE c name=E:=by rw[←hI3];subst h2;rfl
   refine gab ?_
   refine oS (S.callK [_,_] rfl permCall1 (scalar_spec hk d1 name) (fun h0=>?_) (fun nm h0 e' he'=>?_)) rfl
   ·rw[hI4] at h0
    refine gab ?_
    refine ret1 (iv 1) h0 ?_ ?_ ?_ ?_ ?_
    ·exact hds
    ·rfl
    ·exact hsub_left
    ·subst h2;exact hcall0 zDd
    ·subst h2;rfl
   ·refine gae ?_
    exact panK (he'.trans hds) hI4.symm h0
  refine oC rfl (fun hc=>absurd (zt hc) h2) (fun _=>?_)
  refine gar ?_
  by_cases h3:op=[101,108,101,109]
  ·refine oC rfl (fun _=>?_) (fun hc=>absurd h3 (zf hc))
   have hI4:arrayE c name=E:=by rw[←hI3];subst h3;rfl
   obtain ⟨n0,rfl⟩:∃ n0,ns=[n0]:=by
    have h9:ns.length=1:=by
     rcases hop with h|h
     ·subst h3;exact absurd h zDd
     ·subst h3
      have h9:(1:Int)=(args.length:Int):=h
      omega
    cases ns with
    |nil=>cases h9
    |cons a l=>
     cases l with
     |nil=>exact ⟨a,rfl⟩
     |cons b l=>simp at h9
   have hn0:=hnb n0 zMs
   refine gab ?_
   refine oS (S.callK [_,_] rfl permCall1 (array_spec hk d1 name) (fun h0=>?_) (fun nm h0 e' he'=>?_)) rfl
   ·rw[hI4] at h0
    refine gal ?_
    refine oP (pM (lv:=v) rfl) rfl ?_
    refine oP (xR (el':=iv n0) (cs:=[iv n0]) hel rfl zo rfl rfl rfl) rfl ?_
    refine gaa ?_
    refine ret1 (int .i64 (1+(n0:Int))) h0 ?_ ?_ ?_ ?_ ?_
    ·exact hds
    ·rfl
    ·exact hsub_left
    ·subst h3;exact hcall0 zDd
    ·subst h3;exact int_eq (show ((1+n0:Nat):Int)=_ by omega)
   ·refine gae ?_
    exact panK (he'.trans hds) hI4.symm h0
  refine oC rfl (fun hc=>absurd (zt hc) h3) (fun _=>?_)
  refine gar ?_
  by_cases h4:op=[99,97,108,108]
  ·refine oC rfl (fun _=>?_) (fun hc=>absurd h4 (zf hc))
   have hI4:callE c name ns.length=E:=by rw[←hI3,hnl];subst h4;rfl
   have hN4:opN c op name ns=callN c name ns:=by subst h4;rfl
   have hD4:callD c op name=callD c nCall name:=by subst h4;rfl
   refine gab ?_
   refine oP (pM (lv:=v) rfl) rfl ?_
   refine LOps.sub 67 rfl hacc.sub ?_
   refine oS (S.callK [_,_,_] rfl permCall1 (call_spec hk hB hB8 hD8 d1 zo name ns zo hnb) (fun h0=>?_) (fun nm h0 e' he'=>?_)) rfl
   ·rw[hI4] at h0
    refine gaa ?_
    rw[hN4,hD4]
    exact retK hds (zra rfl) h0 rfl hsub_left
   ·refine gae ?_
    exact panK (he'.trans hds) hI4.symm h0
  refine oC rfl (fun hc=>absurd (zt hc) h4) (fun _=>?_)
  have hE00:=hE0 h2 h3 h4
  have hcd:=hcall0 h4
  refine gar ?_
  by_cases h5:op=[110,101,103]
  ·refine oC rfl (fun _=>?_) (fun hc=>absurd h5 (zf hc))
   obtain ⟨n0,rfl⟩:∃ n0,ns=[n0]:=by
    have h9:ns.length=1:=by
     rcases hop with h|h
     ·subst h5;exact absurd h zDd
     ·subst h5
      have h9:(1:Int)=(args.length:Int):=h
      omega
    cases ns with
    |nil=>cases h9
    |cons a l=>
     cases l with
     |nil=>exact ⟨a,rfl⟩
     |cons b l=>simp at h9
   have hn0:=hnb n0 zMs
   refine gag ?_
   refine oP (pM (lv:=v) rfl) rfl ?_
   refine oP (xR (el':=iv n0) (cs:=[iv n0]) hel rfl zo rfl rfl rfl) rfl ?_
   refine gaa ?_
   refine ret1 (int .i64 (1+(n0:Int))) hE00 ?_ ?_ ?_ hcd ?_
   ·exact hds
   ·rfl
   ·exact HS
   ·subst h5;exact int_eq (show ((1+n0:Nat):Int)=_ by omega)
  refine oC rfl (fun hc=>absurd (zt hc) h5) (fun _=>?_)
  have h5n:=h5
  clear h5
  refine gar ?_
  by_cases h5:op=[110,111,116]
  ·refine oC rfl (fun _=>?_) (fun hc=>absurd h5 (zf hc))
   obtain ⟨n0,rfl⟩:∃ n0,ns=[n0]:=by
    have h9:ns.length=1:=by
     rcases hop with h|h
     ·subst h5;exact absurd h zDd
     ·subst h5
      have h9:(1:Int)=(args.length:Int):=h
      omega
    cases ns with
    |nil=>cases h9
    |cons a l=>
     cases l with
     |nil=>exact ⟨a,rfl⟩
     |cons b l=>simp at h9
   have hn0:=hnb n0 zMs
   refine gag ?_
   refine oP (pM (lv:=v) rfl) rfl ?_
   refine oP (xR (el':=iv n0) (cs:=[iv n0]) hel rfl zo rfl rfl rfl) rfl ?_
   refine gaa ?_
   refine oP (Pure.max2e 2 n0 rfl rfl rfl rfl) rfl ?_
   refine gaa ?_
   refine ret1 (iv (max 2 n0)) hE00 ?_ ?_ ?_ hcd ?_
   ·exact hds
   ·rfl
   ·exact HS
   ·subst h5;rfl
  refine oC rfl (fun hc=>absurd (zt hc) h5) (fun _=>?_)
  have hbin:ns.length=2:=by
   unfold opnds at hop
   rw[if_neg (fun h=>h.elim h1 h2),if_neg (fun h=>h.elim h3 (fun h=>h.elim h5n h5)),if_neg (show ¬ op=nCall from h4)] at hop
   split at hop
   ·rcases hop with h|h <;> omega
   ·rcases hop with h|h <;> omega
  obtain ⟨a,b,rfl⟩:∃ a b,ns=[a,b]:=by
   match ns,hbin with
   |[a,b],_=>exact ⟨a,b,rfl⟩
  have ha:=hnb a zMs
  have hb:=hnb b (zMo _ zMs)
  refine gaa ?_
  refine LCode.quiet zk ?_
  refine LQ.pure (pM (lv:=v) rfl) rfl ?_
  refine LQ.pure (xR (el':=iv a) (cs:=[iv a]) hel rfl zo rfl rfl rfl) rfl ?_
  refine gad ?_
  refine LQ.pure (pM (lv:=v) rfl) rfl ?_
  refine LQ.pure (xR (el':=iv b) (cs:=[iv b]) hel rfl zo rfl rfl rfl) rfl ?_
  refine gac ?_
  by_cases h6:op=[62]
  ·refine oC rfl (fun _=>?_) (fun hc=>absurd h6 (zf hc))
   refine gaa ?_
   refine oC rfl (fun _=>?_) (fun hc=>absurd h6 (zf hc))
   refine gab ?_
   refine oP (Pure.max3e 3 a (1+b) rfl rfl rfl rfl rfl zo) rfl ?_
   refine gaa ?_
   refine ret1 (iv (max (max 3 a) (1+b))) hE00 ?_ ?_ ?_ hcd ?_
   ·exact hds
   ·rfl
   ·exact HS
   ·subst h6;rfl
  refine oC rfl (fun hc=>absurd (zt hc) h6) (fun _=>?_)
  have h6n:=h6
  clear h6
  refine gar ?_
  by_cases h6:op=[60,61]
  ·refine oC rfl (fun _=>?_) (fun hc=>absurd h6 (zf hc))
   refine gab ?_
   refine oP (Pure.max3e 3 a (1+b) rfl rfl rfl rfl rfl zo) rfl ?_
   refine gaa ?_
   refine ret1 (iv (max (max 3 a) (1+b))) hE00 ?_ ?_ ?_ hcd ?_
   ·exact hds
   ·rfl
   ·exact HS
   ·subst h6;rfl
  refine oC rfl (fun hc=>absurd (zt hc) h6) (fun _=>?_)
  refine gar ?_
  by_cases h7:op=[33,61]
  ·refine oC rfl (fun _=>?_) (fun hc=>absurd h7 (zf hc))
   refine gab ?_
   refine oP (Pure.max3e 3 (1+a) (2+b) rfl rfl rfl rfl zo zo) rfl ?_
   refine gaa ?_
   refine ret1 (iv (max (max 3 (1+a)) (2+b))) hE00 ?_ ?_ ?_ hcd ?_
   ·exact hds
   ·rfl
   ·exact HS
   ·subst h7;rfl
  refine oC rfl (fun hc=>absurd (zt hc) h7) (fun _=>?_)
  refine gar ?_
  by_cases h8:op=[38,38]
  ·refine oC rfl (fun _=>?_) (fun hc=>absurd h8 (zf hc))
   refine gab ?_
   refine oP (Pure.max2e (1+a) (2+b) rfl rfl zo zo) rfl ?_
   refine gaa ?_
   refine ret1 (iv (max (1+a) (2+b))) hE00 ?_ ?_ ?_ hcd ?_
   ·exact hds
   ·rfl
   ·exact HS
   ·subst h8;rfl
  refine oC rfl (fun hc=>absurd (zt hc) h8) (fun _=>?_)
  refine gar ?_
  by_cases h9:op=[124,124]
  ·refine oC rfl (fun _=>?_) (fun hc=>absurd h9 (zf hc))
   refine gab ?_
   refine oP (Pure.max2e (2+a) (3+b) rfl rfl zo zo) rfl ?_
   refine gaa ?_
   refine ret1 (iv (max (2+a) (3+b))) hE00 ?_ ?_ ?_ hcd ?_
   ·exact hds
   ·rfl
   ·exact HS
   ·subst h9;rfl
  refine oC rfl (fun hc=>absurd (zt hc) h9) (fun _=>?_)
  refine gab ?_
  refine oP (Pure.max3e 2 a (1+b) rfl rfl rfl rfl rfl zo) rfl ?_
  refine gak ?_
  refine ret1 (iv (max (max 2 a) (1+b))) hE00 ?_ ?_ ?_ hcd ?_
  ·exact hds
  ·rfl
  ·exact HS
  ·unfold opN
   rw[if_neg (fun h=>h.elim h1 h2),if_neg (fun h=>h.elim h3 h5n),if_neg (show ¬ op=nCall from h4),if_neg (show ¬ op=nNot from h5),if_neg (fun h=>h.elim h6n h6),if_neg h7,if_neg h8,if_neg h9]
   try rfl
end
end Go.Proofs.YtpbbgkoalnonoaaGreatDoor.Chk
namespace Go.Proofs.YtpbbgkoalnonoaaGreatDoor.Chk
open Go.GL Go.RowKit Go.Stele
theorem form_1 {name:List UInt8} {index value:List Ex} {thn els:List Sm}:formS (.mk 1 name index value thn els)=((!decide (name=[])) && decide (((index.map encE).length:Int)=0) && decide (((value.map encE).length:Int)=1) && decide (((thn.map encS).length:Int)=0) && decide (((els.map encS).length:Int)=0)):=by
 rw[Bool.eq_iff_iff]
 simp only[formS,zBa,zDe,Bool.not_eq_true',decide_eq_false_iff_not,zLm]
 constructor
 ·intro h
  have h':_:=zt h
  obtain ⟨a1,a2,a3,a4,a5⟩:=h'
  exact ⟨⟨⟨⟨by simpa using a1,by omega⟩,by omega⟩,by omega⟩,by omega⟩
 ·rintro ⟨⟨⟨⟨a1,a2⟩,a3⟩,a4⟩,a5⟩
  exact decide_eq_true ⟨by simpa using a1,by omega,by omega,by omega,by omega⟩
theorem form_2 {name:List UInt8} {index value:List Ex} {thn els:List Sm}:formS (.mk 2 name index value thn els)=((!decide (name=[])) && decide (((index.map encE).length:Int)=1) && decide (((value.map encE).length:Int)=1) && decide (((thn.map encS).length:Int)=0) && decide (((els.map encS).length:Int)=0)):=by
 rw[Bool.eq_iff_iff]
 simp only[formS,zBa,zDe,Bool.not_eq_true',decide_eq_false_iff_not,zLm]
 constructor
 ·intro h
  have h':_:=zt h
  obtain ⟨a1,a2,a3,a4,a5⟩:=h'
  exact ⟨⟨⟨⟨by simpa using a1,by omega⟩,by omega⟩,by omega⟩,by omega⟩
 ·rintro ⟨⟨⟨⟨a1,a2⟩,a3⟩,a4⟩,a5⟩
  exact decide_eq_true ⟨by simpa using a1,by omega,by omega,by omega,by omega⟩
theorem form_3 {name:List UInt8} {index value:List Ex} {thn els:List Sm}:formS (.mk 3 name index value thn els)=((!!decide (name=[])) && decide (((index.map encE).length:Int)=0) && decide (((value.map encE).length:Int)=1)):=by
 rw[Bool.eq_iff_iff]
 simp only[formS,zBa,zDe,Bool.not_eq_true',decide_eq_false_iff_not,zLm]
 constructor
 ·intro h
  have h':_:=zt h
  obtain ⟨a1,a2,a3⟩:=h'
  exact ⟨⟨by simpa using a1,by omega⟩,by omega⟩
 ·rintro ⟨⟨a1,a2⟩,a3⟩
  exact decide_eq_true ⟨by simpa using a1,by omega,by omega⟩
theorem form_4 {name:List UInt8} {index value:List Ex} {thn els:List Sm}:formS (.mk 4 name index value thn els)=((!!decide (name=[])) && decide (((index.map encE).length:Int)=0) && decide (((value.map encE).length:Int)=1) && decide (((els.map encS).length:Int)=0)):=by
 rw[Bool.eq_iff_iff]
 simp only[formS,zBa,zDe,Bool.not_eq_true',decide_eq_false_iff_not,zLm]
 constructor
 ·intro h
  have h':_:=zt h
  obtain ⟨a1,a2,a3,a4⟩:=h'
  exact ⟨⟨⟨by simpa using a1,by omega⟩,by omega⟩,by omega⟩
 ·rintro ⟨⟨⟨a1,a2⟩,a3⟩,a4⟩
  exact decide_eq_true ⟨by simpa using a1,by omega,by omega,by omega⟩
theorem form_5 {name:List UInt8} {index value:List Ex} {thn els:List Sm}:formS (.mk 5 name index value thn els)=((!!decide (name=[])) && decide (((index.map encE).length:Int)=0) && decide (((value.map encE).length:Int)=1) && decide (((thn.map encS).length:Int)=0) && decide (((els.map encS).length:Int)=0)):=by
 rw[Bool.eq_iff_iff]
 simp only[formS,zBa,zDe,Bool.not_eq_true',decide_eq_false_iff_not,zLm]
 constructor
 ·intro h
  have h':_:=zt h
  obtain ⟨a1,a2,a3,a4,a5⟩:=h'
  exact ⟨⟨⟨⟨by simpa using a1,by omega⟩,by omega⟩,by omega⟩,by omega⟩
 ·rintro ⟨⟨⟨⟨a1,a2⟩,a3⟩,a4⟩,a5⟩
  exact decide_eq_true ⟨by simpa using a1,by omega,by omega,by omega,by omega⟩
theorem form_6 {name:List UInt8} {index value:List Ex} {thn els:List Sm}:formS (.mk 6 name index value thn els)=((!!decide (name=[])) && decide (((index.map encE).length:Int)=0) && decide (((value.map encE).length:Int)=1) && decide (((thn.map encS).length:Int)=0) && decide (((els.map encS).length:Int)=0) && decide (exOp (value.headD default)=[99,97,108,108])):=by
 rw[Bool.eq_iff_iff]
 simp only[formS,zBa,zDe,Bool.not_eq_true',decide_eq_false_iff_not,zLm]
 constructor
 ·intro h
  have h':_:=zt h
  obtain ⟨a1,a2,a3,a4,a5,a6⟩:=h'
  exact ⟨⟨⟨⟨⟨by simpa using a1,by omega⟩,by omega⟩,by omega⟩,by omega⟩,a6⟩
 ·rintro ⟨⟨⟨⟨⟨a1,a2⟩,a3⟩,a4⟩,a5⟩,a6⟩
  exact decide_eq_true ⟨by simpa using a1,by omega,by omega,by omega,by omega,a6⟩
theorem form_7 {name:List UInt8} {index value:List Ex} {thn els:List Sm}:formS (.mk 7 name index value thn els)=((!!decide (name=[])) && decide (((index.map encE).length:Int)=0) && decide (((value.map encE).length:Int)=0) && decide (((thn.map encS).length:Int)=0) && decide (((els.map encS).length:Int)=0)):=by
 rw[Bool.eq_iff_iff]
 simp only[formS,zBa,zDe,Bool.not_eq_true',decide_eq_false_iff_not,zLm]
 constructor
 ·intro h
  have h':_:=zt h
  obtain ⟨a1,a2,a3,a4,a5⟩:=h'
  exact ⟨⟨⟨⟨by simpa using a1,by omega⟩,by omega⟩,by omega⟩,by omega⟩
 ·rintro ⟨⟨⟨⟨a1,a2⟩,a3⟩,a4⟩,a5⟩
  exact decide_eq_true ⟨by simpa using a1,by omega,by omega,by omega,by omega⟩
attribute [local irreducible] LOps LCode LStep LCalls Go.GL.Pure QThen QBlock RetPost LQ LAny LLate LLateOp LS
section
variable {B0:Nat} {w0:World}
theorem formed_spec (s:Sm):LCalls (KC B0 w0) 246 [encS s] [] (Ret (bool (formS s))):=by
 obtain ⟨kind,name,index,value,thn,els⟩:=s
 rw[encS_mk]
 refine cI Tryz.func246 rfl (n:=159) rfl rfl rfl ?_
 refine gag ?_
 refine oS (S.box rfl fun b1=>?_) rfl
 refine gaa ?_
 refine LCode.quiet zk ?_
 refine gac ?_
 by_cases hk1:kind=1
 ·subst hk1
  refine oC rfl (fun _=>?_) (fun hc=>by cases hc)
  rw[form_1]
  refine gaf ?_
  refine oB 28 rfl (fun q1=>?_) (fun q1=>?_)
  rotate_left
  ·refine gaa ?_
   refine rR rfl (zra rfl) zhn ⟨?_,rfl⟩
   simp only[q1,Bool.false_and,Bool.and_false,Bool.true_and]
   rfl
  refine gaa ?_
  refine oB 32 rfl (fun q2=>?_) (fun q2=>?_)
  rotate_left
  ·refine gaa ?_
   refine rR rfl (zra rfl) zhn ⟨?_,rfl⟩
   simp only[q1,q2,Bool.false_and,Bool.and_false,Bool.true_and]
   rfl
  refine gaa ?_
  refine oB 36 rfl (fun q3=>?_) (fun q3=>?_)
  rotate_left
  ·refine gaa ?_
   refine rR rfl (zra rfl) zhn ⟨?_,rfl⟩
   simp only[q1,q2,q3,Bool.false_and,Bool.and_false,Bool.true_and]
   rfl
  refine gaa ?_
  refine oB 40 rfl (fun q4=>?_) (fun q4=>?_)
  rotate_left
  ·refine gaa ?_
   refine rR rfl (zra rfl) zhn ⟨?_,rfl⟩
   simp only[q1,q2,q3,q4,Bool.false_and,Bool.and_false,Bool.true_and]
   rfl
  refine gaa ?_
  refine rR rfl (zra rfl) zhn ⟨?_,rfl⟩
  simp only[q1,q2,q3,q4,Bool.true_and]
  rfl
 refine oC rfl (fun hc=>absurd (zt hc) hk1) (fun _=>?_)
 refine gai ?_
 by_cases hk2:kind=2
 ·subst hk2
  refine oC rfl (fun _=>?_) (fun hc=>by cases hc)
  rw[form_2]
  refine gaf ?_
  refine oB 47 rfl (fun q1=>?_) (fun q1=>?_)
  rotate_left
  ·refine gaa ?_
   refine rR rfl (zra rfl) zhn ⟨?_,rfl⟩
   simp only[q1,Bool.false_and,Bool.and_false,Bool.true_and]
   rfl
  refine gaa ?_
  refine oB 51 rfl (fun q2=>?_) (fun q2=>?_)
  rotate_left
  ·refine gaa ?_
   refine rR rfl (zra rfl) zhn ⟨?_,rfl⟩
   simp only[q1,q2,Bool.false_and,Bool.and_false,Bool.true_and]
   rfl
  refine gaa ?_
  refine oB 55 rfl (fun q3=>?_) (fun q3=>?_)
  rotate_left
  ·refine gaa ?_
   refine rR rfl (zra rfl) zhn ⟨?_,rfl⟩
   simp only[q1,q2,q3,Bool.false_and,Bool.and_false,Bool.true_and]
   rfl
  refine gaa ?_
  refine oB 59 rfl (fun q4=>?_) (fun q4=>?_)
  rotate_left
  ·refine gaa ?_
   refine rR rfl (zra rfl) zhn ⟨?_,rfl⟩
   simp only[q1,q2,q3,q4,Bool.false_and,Bool.and_false,Bool.true_and]
   rfl
  refine gaa ?_
  refine rR rfl (zra rfl) zhn ⟨?_,rfl⟩
  simp only[q1,q2,q3,q4,Bool.true_and]
  rfl
 refine oC rfl (fun hc=>absurd (zt hc) hk2) (fun _=>?_)
 refine gai ?_
 by_cases hk3:kind=3
 ·subst hk3
  refine oC rfl (fun _=>?_) (fun hc=>by cases hc)
  rw[form_3]
  refine gab ?_
  refine oB 67 rfl (fun q1=>?_) (fun q1=>?_)
  rotate_left
  ·refine gaa ?_
   refine rR rfl (zra rfl) zhn ⟨?_,rfl⟩
   simp only[q1,Bool.false_and,Bool.and_false,Bool.true_and]
   rfl
  refine gaa ?_
  refine oB 71 rfl (fun q2=>?_) (fun q2=>?_)
  rotate_left
  ·refine gaa ?_
   refine rR rfl (zra rfl) zhn ⟨?_,rfl⟩
   simp only[q1,q2,Bool.false_and,Bool.and_false,Bool.true_and]
   rfl
  refine gaa ?_
  refine rR rfl (zra rfl) zhn ⟨?_,rfl⟩
  simp only[q1,q2,Bool.true_and]
  rfl
 refine oC rfl (fun hc=>absurd (zt hc) hk3) (fun _=>?_)
 refine gai ?_
 by_cases hk4:kind=4
 ·subst hk4
  refine oC rfl (fun _=>?_) (fun hc=>by cases hc)
  rw[form_4]
  refine gab ?_
  refine oB 79 rfl (fun q1=>?_) (fun q1=>?_)
  rotate_left
  ·refine gaa ?_
   refine rR rfl (zra rfl) zhn ⟨?_,rfl⟩
   simp only[q1,Bool.false_and,Bool.and_false,Bool.true_and]
   rfl
  refine gaa ?_
  refine oB 83 rfl (fun q2=>?_) (fun q2=>?_)
  rotate_left
  ·refine gaa ?_
   refine rR rfl (zra rfl) zhn ⟨?_,rfl⟩
   simp only[q1,q2,Bool.false_and,Bool.and_false,Bool.true_and]
   rfl
  refine gaa ?_
  refine oB 87 rfl (fun q3=>?_) (fun q3=>?_)
  rotate_left
  ·refine gaa ?_
   refine rR rfl (zra rfl) zhn ⟨?_,rfl⟩
   simp only[q1,q2,q3,Bool.false_and,Bool.and_false,Bool.true_and]
   rfl
  refine gaa ?_
  refine rR rfl (zra rfl) zhn ⟨?_,rfl⟩
  simp only[q1,q2,q3,Bool.true_and]
  rfl
 refine oC rfl (fun hc=>absurd (zt hc) hk4) (fun _=>?_)
 refine gai ?_
 by_cases hk5:kind=5
 ·subst hk5
  refine oC rfl (fun _=>?_) (fun hc=>by cases hc)
  rw[form_5]
  refine gab ?_
  refine oB 95 rfl (fun q1=>?_) (fun q1=>?_)
  rotate_left
  ·refine gaa ?_
   refine rR rfl (zra rfl) zhn ⟨?_,rfl⟩
   simp only[q1,Bool.false_and,Bool.and_false,Bool.true_and]
   rfl
  refine gaa ?_
  refine oB 99 rfl (fun q2=>?_) (fun q2=>?_)
  rotate_left
  ·refine gaa ?_
   refine rR rfl (zra rfl) zhn ⟨?_,rfl⟩
   simp only[q1,q2,Bool.false_and,Bool.and_false,Bool.true_and]
   rfl
  refine gaa ?_
  refine oB 103 rfl (fun q3=>?_) (fun q3=>?_)
  rotate_left
  ·refine gaa ?_
   refine rR rfl (zra rfl) zhn ⟨?_,rfl⟩
   simp only[q1,q2,q3,Bool.false_and,Bool.and_false,Bool.true_and]
   rfl
  refine gaa ?_
  refine oB 107 rfl (fun q4=>?_) (fun q4=>?_)
  rotate_left
  ·refine gaa ?_
   refine rR rfl (zra rfl) zhn ⟨?_,rfl⟩
   simp only[q1,q2,q3,q4,Bool.false_and,Bool.and_false,Bool.true_and]
   rfl
  refine gaa ?_
  refine rR rfl (zra rfl) zhn ⟨?_,rfl⟩
  simp only[q1,q2,q3,q4,Bool.true_and]
  rfl
 refine oC rfl (fun hc=>absurd (zt hc) hk5) (fun _=>?_)
 refine gai ?_
 by_cases hk6:kind=6
 ·subst hk6
  refine oC rfl (fun _=>?_) (fun hc=>by cases hc)
  rw[form_6]
  refine gab ?_
  refine oB 115 rfl (fun q1=>?_) (fun q1=>?_)
  rotate_left
  ·refine gaa ?_
   refine rR rfl (zra rfl) zhn ⟨?_,rfl⟩
   simp only[q1,Bool.false_and,Bool.and_false,Bool.true_and]
   rfl
  refine gaa ?_
  refine oB 119 rfl (fun q2=>?_) (fun q2=>?_)
  rotate_left
  ·refine gaa ?_
   refine rR rfl (zra rfl) zhn ⟨?_,rfl⟩
   simp only[q1,q2,Bool.false_and,Bool.and_false,Bool.true_and]
   rfl
  refine gaa ?_
  refine oB 123 rfl (fun q3=>?_) (fun q3=>?_)
  rotate_left
  ·refine gaa ?_
   refine rR rfl (zra rfl) zhn ⟨?_,rfl⟩
   simp only[q1,q2,q3,Bool.false_and,Bool.and_false,Bool.true_and]
   rfl
  refine gaa ?_
  refine oB 127 rfl (fun q4=>?_) (fun q4=>?_)
  rotate_left
  ·refine gaa ?_
   refine rR rfl (zra rfl) zhn ⟨?_,rfl⟩
   simp only[q1,q2,q3,q4,Bool.false_and,Bool.and_false,Bool.true_and]
   rfl
  refine gaa ?_
  refine oB 131 rfl (fun q5=>?_) (fun q5=>?_)
  rotate_left
  ·refine gaa ?_
   refine rR rfl (zra rfl) zhn ⟨?_,rfl⟩
   simp only[q1,q2,q3,q4,q5,Bool.false_and,Bool.and_false,Bool.true_and]
   rfl
  refine gad ?_
  obtain ⟨x0,rfl⟩:∃ x,value=[x]:=by
   have h1:((value.map encE).length:Int)=1:=zt q3
   rw[zLm] at h1
   cases value with
   |nil=>simp at h1
   |cons x l=>
    cases l with
    |nil=>exact ⟨x,rfl⟩
    |cons y l=>simp at h1;omega
  first|refine LOps.want rfl rfl ?_|skip
  refine oP (xR (el':=encE x0) (cs:=[_,_,_,_]) rfl rfl zo rfl rfl rfl) rfl ?_
  refine gad ?_
  refine rR rfl (zra rfl) zhn ⟨?_,rfl⟩
  simp only[q1,q2,q3,q4,q5,Bool.true_and]
  rfl
 refine oC rfl (fun hc=>absurd (zt hc) hk6) (fun _=>?_)
 refine gai ?_
 by_cases hk7:kind=7
 ·subst hk7
  refine oC rfl (fun _=>?_) (fun hc=>by cases hc)
  rw[form_7]
  refine gab ?_
  refine oB 143 rfl (fun q1=>?_) (fun q1=>?_)
  rotate_left
  ·refine gaa ?_
   refine rR rfl (zra rfl) zhn ⟨?_,rfl⟩
   simp only[q1,Bool.false_and,Bool.and_false,Bool.true_and]
   rfl
  refine gaa ?_
  refine oB 147 rfl (fun q2=>?_) (fun q2=>?_)
  rotate_left
  ·refine gaa ?_
   refine rR rfl (zra rfl) zhn ⟨?_,rfl⟩
   simp only[q1,q2,Bool.false_and,Bool.and_false,Bool.true_and]
   rfl
  refine gaa ?_
  refine oB 151 rfl (fun q3=>?_) (fun q3=>?_)
  rotate_left
  ·refine gaa ?_
   refine rR rfl (zra rfl) zhn ⟨?_,rfl⟩
   simp only[q1,q2,q3,Bool.false_and,Bool.and_false,Bool.true_and]
   rfl
  refine gaa ?_
  refine oB 155 rfl (fun q4=>?_) (fun q4=>?_)
  rotate_left
  ·refine gaa ?_
   refine rR rfl (zra rfl) zhn ⟨?_,rfl⟩
   simp only[q1,q2,q3,q4,Bool.false_and,Bool.and_false,Bool.true_and]
   rfl
  refine gaa ?_
  refine rR rfl (zra rfl) zhn ⟨?_,rfl⟩
  simp only[q1,q2,q3,q4,Bool.true_and]
  rfl
 refine oC rfl (fun hc=>absurd (zt hc) hk7) (fun _=>?_)
 refine gab ?_
 refine rR rfl (zra rfl) zhn ⟨?_,rfl⟩
 have hf:formS (.mk kind name index value thn els)=false:=by
  simp only[formS]
  rw[if_neg hk1,if_neg hk2,if_neg hk3,if_neg hk4,if_neg hk5,if_neg hk6,if_neg hk7]
 rw[hf]
 try rfl
end
end Go.Proofs.YtpbbgkoalnonoaaGreatDoor.Chk
namespace Go.Proofs.YtpbbgkoalnonoaaGreatDoor.Chk
open Go.GL Go.RowKit Go.Stele
theorem form_idx0 {kind:Int} {name:List UInt8} {index value:List Ex} {thn els:List Sm} (h:formS (.mk kind name index value thn els)=true) (h2:¬ kind=2):index=[]:=by
 have h1:index.length=0:=by
  simp only[formS] at h
  repeat' (split at h)
  all_goals first
   |(simp only[zDe] at h;omega)
   |cases h
   |contradiction
 exact List.length_eq_zero_iff.1 h1
theorem form_none {kind:Int} {name:List UInt8} {index value:List Ex} {thn els:List Sm} (h:formS (.mk kind name index value thn els)=true) (h3:¬ kind=3) (h4:¬ kind=4):thn=[]∧els=[]:=by
 have h1:thn.length=0∧els.length=0:=by
  simp only[formS] at h
  repeat' (split at h)
  all_goals first
   |(simp only[zDe] at h;constructor <;> omega)
   |cases h
   |contradiction
 exact ⟨List.length_eq_zero_iff.1 h1.1,List.length_eq_zero_iff.1 h1.2⟩
theorem form_seven {name:List UInt8} {index value:List Ex} {thn els:List Sm} (h:formS (.mk 7 name index value thn els)=true):value=[]:=by
 have h1:value.length=0:=by
  simp only[formS] at h
  repeat' (split at h)
  all_goals first
   |(simp only[zDe] at h;omega)
   |cases h
   |contradiction
 exact List.length_eq_zero_iff.1 h1
attribute [local irreducible] LOps LCode LStep LCalls Go.GL.Pure QThen QBlock RetPost LQ LAny LLate LLateOp LS
section
variable {B0:Nat} {w0:World}
def StmtH (B0:Nat) (w0:World) (k:KB) (c:CEnv) (n:Nat):Prop:=∀ (x:Sm) (d:Nat),ndS x≤n→d≤200000000→LCalls (KC B0 w0) 217 [ptr k.cb 0,encS x] (ckH k d) (PostK (errS c x) (iv (needS c x)) (ckH k (max d (depS c x))))
def StmtsH (B0:Nat) (w0:World) (k:KB) (c:CEnv) (n:Nat):Prop:=∀ (l:List Sm) (d:Nat),ndSs l≤n→d≤200000000→LCalls (KC B0 w0) 167 [ptr k.cb 0,.list (l.map encS)] (ckH k d) (PostK (errSs c l) (iv (needSs c l)) (ckH k (max d (depSs c l))))
theorem stmts_spec {k:KB} {c:CEnv} {B D:Nat} (hB:KnB B D c.funcs) (hD8:D≤100000000) {n:Nat} (hn6:n≤2000000) (ih:StmtH B0 w0 k c n):StmtsH B0 w0 k c n:=by
 intro l d hnd hd
 have hal:=ndSs_len l
 generalize hN:needSs c l=N
 generalize hDD:max d (depSs c l)=DD
 refine cI Tryz.func167 rfl (n:=21) rfl rfl rfl ?_
 refine gac ?_
 refine oL (fun kk ls H'=>∃ (pre l1:List Sm) (m d1:Nat),l=pre++l1∧kk=l1.length∧ls=[(0,ptr k.cb 0),(5,iv m),(8,.list (l.map encS)),(9,int .i64 ((l.map encS).length:Int)),(10,iv pre.length)]∧H'=ckH k d1∧d1≤200000000∧errSs c l1=errSs c l∧max m (needSs c l1)=N∧max d1 (depSs c l1)=DD)
  ⟨l.length,_,_,⟨[],l,0,d,rfl,rfl,rfl,rfl,hd,rfl,by omega,hDD⟩,⟨rfl,rfl,rfl,rfl,rfl,trivial⟩,zhR _⟩ ?_
 rintro kk ls H' ⟨pre,l1,m,d1,hLe,rfl,rfl,rfl,hd1,hE,hM,hD1⟩ j hj
 have hb2:pre.length≤2000000:=by
  have:=congrArg List.length hLe
  rw[zLa] at this
  omega
 refine gal ?_
 refine oC rfl (fun hc=>?_) (fun hc=>?_)
 ·have hlen:=zt hc
  rw[zLm,hLe,zLa] at hlen
  obtain ⟨a,l2,rfl⟩:∃ a l2,l1=a::l2:=by
   cases l1 with
   |nil=>simp at hlen
   |cons a l2=>exact ⟨a,l2,rfl⟩
  have ham:ndS a≤n:=by
   have h1:∀ (p:List Sm) (x:Sm) (r:List Sm),ndS x≤ndSs (p++x::r):=fun p=>by
    induction p with
    |nil=>intro x r;show ndS x≤ndSs (x::r);rw[ndSs];omega
    |cons y p ih2=>intro x r;show ndS x≤ndSs (y::(p++x::r));rw[ndSs];have:=ih2 x r;omega
   have:=h1 pre a l2
   rw[←hLe] at this
   omega
  rw[errSs] at hE
  rw[needSs] at hM
  rw[depSs] at hD1
  have hda:=depS_le B D c hB a
  refine gam ?_
  refine oP (xR (el':=encS a) (cs:=[_,_,_,_,_,_]) rfl rfl zo (by rw[hLe];exact get_mid encS pre a l2) rfl rfl) rfl ?_
  refine gad ?_
  refine oS (sA fun b7=>?_) rfl
  refine gac ?_
  refine oS (S.callK [_,_] rfl (Inp.swap1) (ih a d1 ham hd1) (fun h0=>?_) (fun nm h0 e' he'=>?_)) rfl
  ·rw[h0] at hE
   refine oP (Pure.max2e m (needS c a) rfl rfl rfl rfl) rfl ?_
   refine gab ?_
   exact ⟨l2.length,_,_,Nat.lt_succ_self _,⟨pre++[a],l2,max m (needS c a),max d1 (depS c a),by rw[hLe];simp,rfl,rfl,rfl,by omega,hE,by omega,by omega⟩,⟨rfl,rfl,rfl,rfl,int_eq (by simp),trivial⟩,hsub_left,hj⟩
  ·refine gae ?_
   exact panK (he'.trans hj) (by rw[←hE];unfold orE;rw[if_pos h0]) h0
 ·have hlen:=zf hc
  rw[zLm,hLe,zLa] at hlen
  obtain rfl:l1=[]:=by
   cases l1 with
   |nil=>rfl
   |cons a l2=>simp at hlen;omega
  rw[needSs] at hM
  rw[depSs] at hD1
  have e1:m=N:=by omega
  have e2:d1=DD:=by omega
  subst e1 e2
  refine gab ?_
  exact retK hj (zra rfl) (hE.symm.trans rfl) rfl zhr
theorem stmt_spec {k:KB} {c:CEnv} (hk:KBok k c) {B D:Nat} (hB:KnB B D c.funcs) (hB8:B≤50000000) (hD8:D≤100000000):∀ n:Nat,n≤2000000→StmtH B0 w0 k c n
 |0,_=>fun x d h _=>by have:=ndS_pos x;omega
 |n+1,hn6=>by
  have ihs:=stmts_spec (B0:=B0) (w0:=w0) hB hD8 (n:=n) zo (stmt_spec hk hB hB8 hD8 n zo)
  have hX:ExprH B0 w0 k c n:=expr_spec hk hB zo hD8 n zo
  intro x d hnd hd
  obtain ⟨kind,name,index,value,thn,els⟩:=x
  rw[ndS] at hnd
  generalize hI:errS c (Sm.mk kind name index value thn els)=E
  rw[errS] at hI
  generalize hN:needS c (Sm.mk kind name index value thn els)=N
  rw[needS] at hN
  generalize hDD:max d (depS c (Sm.mk kind name index value thn els))=DD
  rw[depS] at hDD
  have hfs:=formed_spec (B0:=B0) (w0:=w0) (Sm.mk kind name index value thn els)
  rw[encS_mk] at hfs ⊢
  refine cI Tryz.func217 rfl (n:=65) rfl rfl rfl ?_
  refine gag ?_
  refine oS (S.box rfl fun b3=>?_) rfl
  refine gaa ?_
  refine LCode.midC (A:=Unit) (fun _=>[(0,ptr k.cb 0),(3,ptr b3 0)]) (fun _=>(b3,.cells 102 [int .i64 kind,str name,.list (index.map encE),.list (value.map encE),.list (thn.map encS),.list (els.map encS)])::ckH k d) (fun _=>formS (Sm.mk kind name index value thn els)=true) ?_ (fun _ hform j hj=>?_)
  ·refine LCode.draw (m:=7) rfl [(b3,.cells 102 [int .i64 kind,str name,.list (index.map encE),.list (value.map encE),.list (thn.map encS),.list (els.map encS)]),(k.cb,.cells 113 [.atom (.map (some k.gm)),.atom (.map (some k.vm)),.atom (.map (some k.am)),.atom (.map (some k.fm)),str k.name,.atom (.map (some k.om)),int .i64 (d:Int)])] ?_
   refine aT 0 rfl rfl (Pure.ldHAgg (cs':=[_,_,_,_,_,_]) rfl zm0 rfl rfl) ?_
   refine aT 2 rfl rfl (pM (lv:=.atom _) rfl) ?_
   refine aT 3 rfl rfl (pN rfl) ?_
   refine aT 4 rfl rfl (pF rfl) ?_
   refine aT 5 rfl rfl (pL (c:=.atom _) rfl zm1 rfl) ?_
   refine LAny.late ?_ (zhP pH zhp)
   refine lO 1 (lS (H1:=[]) rfl (.inl rfl) rfl zpr (zhP pH zhp) (sF [_] rfl hfs ?_))
   cases hf:formS (Sm.mk kind name index value thn els) with
   |true=>
    refine lO 6 (lS (H1:=[]) rfl (.inl rfl) rfl zpr (zhP pH zhp) (LStep.callK [_,_,_] rfl (req_spec true k.name 3 zDd) (fun _=>?_) (fun nm h=>absurd rfl h)))
    refine lD zk ?_
    refine qN ?_
    exact ⟨(),rfl,⟨rfl,rfl,trivial⟩,zhR _,rfl⟩
   |false=>
    rw[hf,if_pos rfl] at hI
    refine lO 6 (lS (H1:=[]) rfl (.inl rfl) rfl zpr (zhP pH zhp) (LStep.callK [_,_,_] rfl (req_spec false k.name 3 zDd) (fun h=>absurd h zDd) (fun nm _ e' he'=>?_)))
    refine gah ?_
    exact panK (he'.trans rfl) (by rw[←hI];try rfl) zDd
  rw[hform,if_neg zDd] at hI
  refine gab ?_
  by_cases h7:kind=7
  ·subst h7
   obtain rfl:=form_seven hform
   obtain rfl:=form_idx0 hform zDd
   obtain ⟨rfl,rfl⟩:=form_none hform zDd zDd
   refine oC rfl (fun _=>?_) (fun hc=>by cases hc)
   refine gas ?_
   have e2:d=DD:=by
    rw[←hDD]
    simp only[depEs,depSs]
    omega
   subst e2
   exact retK hj (zra rfl) (by rw[←hI];try rfl) (by rw[←hN];try rfl) (zhD zhr)
  refine oC rfl (fun hc=>absurd (zt hc) h7) (fun _=>?_)
  obtain ⟨x0,rfl⟩:=Inp.form_value hform h7
  rw[if_neg h7] at hN
  have hnx:ndE x0≤n:=by
   rw[ndEs,ndEs] at hnd
   omega
  have hdx:=depE_le B D c hB x0
  have hnx0:=needE_le B D c hB x0
  have hEv:∀ E2,orE (errEs c [x0]) E2=orE (errE c x0) E2:=fun E2=>by
   rw[errEs,errEs]
   unfold orE
   by_cases h:errE c x0≠0
   ·rw[if_pos h,if_pos h]
   ·rw[if_neg h,if_neg zDd,if_neg h]
  rw[hEv] at hI
  rw[show ([x0]:List Ex).headD default=x0 from rfl] at hN
  have hDx:depEs c [x0]=depE c x0:=by
   rw[depEs,depEs]
   omega
  rw[hDx] at hDD
  refine gac ?_
  refine oP (xR (el':=encE x0) (cs:=[_,_,_,_]) rfl rfl zo rfl rfl rfl) rfl ?_
  refine gat ?_
  refine oS (S.callK [_,_] rfl (Inp.swap1) (hX x0 d hnx hd) (fun h0=>?_) (fun nm h0 e' he'=>?_)) rfl
  rotate_left
  ·refine gah ?_
   exact panK (he'.trans hj) (by rw[←hI];unfold orE;rw[if_pos h0]) h0
  rw[h0,show ∀ E2,orE 0 E2=E2 from fun E2=>rfl] at hI
  generalize hd1:max d (depE c x0)=d1
  refine LOps.perm (Inp.swap1 (H:=ckH k d1)).symm ?_
  refine gab ?_
  by_cases hk1:kind=1
  ·subst hk1
   obtain rfl:=form_idx0 hform zDd
   obtain ⟨rfl,rfl⟩:=form_none hform zDd zDd
   have hI4:scalarE c name=E:=by
    rw[←hI]
    simp only[errEs,errSs]
    unfold orE
    by_cases ha:scalarE c name=0 <;> simp[ha]
   refine oC rfl (fun _=>?_) (fun hc=>by cases hc)
   refine gab ?_
   refine oS (S.callK [_,_] rfl (Inp.swap1) (scalar_spec hk d1 name) (fun h1=>?_) (fun nm h1 e' he'=>?_)) rfl
   ·rw[hI4] at h1
    refine gab ?_
    refine oP (Pure.max2e 2 (needE c x0) rfl rfl rfl rfl) rfl ?_
    refine gak ?_
    have e2:d1=DD:=by
     rw[←hDD,←hd1]
     simp only[depEs,depSs]
     omega
    subst e2
    refine retK hj (zra rfl) h1 ?_ hsub_left
    rw[←hN]
    simp only[needSs]
    exact int_eq (by simp)
   ·refine gae ?_
    exact panK (he'.trans hj) hI4.symm h1
  refine oC rfl (fun hc=>absurd (zt hc) hk1) (fun _=>?_)
  rw[if_neg hk1] at hI
  refine gai ?_
  by_cases hk2:kind=2
  ·subst hk2
   obtain ⟨i0,rfl⟩:=Inp.form_index hform
   obtain ⟨rfl,rfl⟩:=form_none hform zDd zDd
   have hni:ndE i0≤n:=by
    rw[ndEs,ndEs,ndEs,ndEs] at hnd
    omega
   have hdi:=depE_le B D c hB i0
   have hni0:=needE_le B D c hB i0
   have hI4:orE (errE c i0) (arrayE c name)=E:=by
    rw[←hI]
    simp only[errEs,errSs]
    unfold orE
    by_cases ha:errE c i0=0 <;> by_cases hb:arrayE c name=0 <;> simp[ha,hb]
   refine oC rfl (fun _=>?_) (fun hc=>by cases hc)
   refine gac ?_
   refine oP (xR (el':=encE i0) (cs:=[_,_,_,_]) rfl rfl zo rfl rfl rfl) rfl ?_
   refine gat ?_
   refine oS (S.callK [_,_] rfl (Inp.swap1) (hX i0 d1 hni zo) (fun h1=>?_) (fun nm h1 e' he'=>?_)) rfl
   rotate_left
   ·refine gae ?_
    exact panK (he'.trans hj) (by rw[←hI4];unfold orE;rw[if_pos h1]) h1
   rw[h1] at hI4
   refine LOps.perm (Inp.swap1 (H:=ckH k (max d1 (depE c i0)))).symm ?_
   refine gab ?_
   refine oS (S.callK [_,_] rfl (Inp.swap1) (array_spec hk (max d1 (depE c i0)) name) (fun h2=>?_) (fun nm h2 e' he'=>?_)) rfl
   ·refine gab ?_
    refine oP (Pure.max2e (needE c x0) (2+needE c i0) rfl rfl rfl zo) rfl ?_
    refine gaa ?_
    have e2:max d1 (depE c i0)=DD:=by
     rw[←hDD,←hd1]
     simp only[depEs,depSs]
     omega
    rw[←e2]
    exact retK hj (zra rfl) (hI4.symm.trans h2) (by rw[←hN];try rfl) hsub_left
   ·refine gae ?_
    exact panK (he'.trans hj) hI4.symm h2
  refine oC rfl (fun hc=>absurd (zt hc) hk2) (fun _=>?_)
  obtain rfl:=form_idx0 hform hk2
  rw[if_neg hk2] at hI hN
  refine gai ?_
  by_cases hk5:kind=5
  ·subst hk5
   obtain ⟨rfl,rfl⟩:=form_none hform zDd zDd
   refine oC rfl (fun _=>?_) (fun hc=>by cases hc)
   refine gab ?_
   have e2:d1=DD:=by
    rw[←hDD,←hd1]
    simp only[depEs,depSs]
    omega
   subst e2
   exact retK hj (zra rfl) (by rw[←hI];try rfl) (by rw[←hN];try rfl) (zhD zhr)
  refine oC rfl (fun hc=>absurd (zt hc) hk5) (fun _=>?_)
  rw[if_neg hk5] at hN
  have hI5:orE (errSs c thn) (errSs c els)=E:=by
   rw[←hI]
   simp only[errEs]
   rfl
  refine gai ?_
  by_cases hk3:kind=3
  ·refine oC rfl (fun _=>?_) (fun hc=>absurd hk3 (zf hc))
   refine gaa ?_
   refine oC rfl (fun _=>?_) (fun hc=>absurd hk3 (zf hc))
   refine LCode.draw (m:=11) rfl [(b3,.cells 102 [int .i64 kind,str name,.list (([]:List Ex).map encE),.list ([x0].map encE),.list (thn.map encS),.list (els.map encS)])] ?_
   refine aT 0 rfl rfl (pM (lv:=.atom _) rfl) ?_
   refine aT 1 rfl rfl (pM (lv:=.atom _) rfl) ?_
   refine aT 2 rfl rfl (pF rfl) ?_
   refine aT 3 rfl rfl (pL (c:=.list _) rfl zm0 rfl) ?_
   refine aT 5 rfl rfl (pM (lv:=.atom _) rfl) ?_
   refine aT 6 rfl rfl (pF rfl) ?_
   refine aT 7 rfl rfl (pL (c:=.list _) rfl zm0 rfl) ?_
   refine LAny.late ?_ zhp
   refine lO 4 (lS (H1:=ckH k d1) rfl (.inl rfl) rfl Inp.swap1 zhr (LStep.callK [_,_] rfl (ihs thn d1 (by rw[ndEs,ndEs,ndEs] at hnd;omega) zo) (fun h1=>?_) (fun nm h1 e' he'=>?_)))
   rotate_left
   ·refine gae ?_
    exact panK (he'.trans hj) (by rw[←hI5];unfold orE;rw[if_pos h1]) h1
   rw[h1] at hI5
   have hdt:=depSs_le B D c hB thn
   refine lO 8 (lS (H1:=ckH k (max d1 (depSs c thn))) rfl (.inl rfl) rfl zpr zhr (LStep.callK [_,_] rfl (ihs els (max d1 (depSs c thn)) (by rw[ndEs,ndEs,ndEs] at hnd;omega) zo) (fun h2=>?_) (fun nm h2 e' he'=>?_)))
   rotate_left
   ·refine gae ?_
    exact panK (he'.trans hj) hI5.symm h2
   refine lO 9 (lH rfl rfl (Pure.max3e (needE c x0) (needSs c thn) (needSs c els) rfl rfl rfl rfl rfl rfl) ?_)
   refine lO 10 (lH rfl rfl (pA (lv:=.atom _) rfl) ?_)
   refine lD zk ?_
   refine gab ?_
   refine oP (Pure.max2e 2 (max (max (needE c x0) (needSs c thn)) (needSs c els)) rfl rfl rfl rfl) rfl ?_
   refine gak ?_
   have e2:max (max d1 (depSs c thn)) (depSs c els)=DD:=by
    rw[←hDD,←hd1]
    simp only[depEs]
    omega
   rw[←e2]
   exact retK hj (zra rfl) (hI5.symm.trans h2) (by rw[←hN];try rfl) hsub_left
  refine oC rfl (fun hc=>absurd (zt hc) hk3) (fun _=>?_)
  refine gai ?_
  by_cases hk4:kind=4
  ·refine oC rfl (fun _=>?_) (fun hc=>absurd hk4 (zf hc))
   refine LCode.draw (m:=11) rfl [(b3,.cells 102 [int .i64 kind,str name,.list (([]:List Ex).map encE),.list ([x0].map encE),.list (thn.map encS),.list (els.map encS)])] ?_
   refine aT 0 rfl rfl (pM (lv:=.atom _) rfl) ?_
   refine aT 1 rfl rfl (pM (lv:=.atom _) rfl) ?_
   refine aT 2 rfl rfl (pF rfl) ?_
   refine aT 3 rfl rfl (pL (c:=.list _) rfl zm0 rfl) ?_
   refine aT 5 rfl rfl (pM (lv:=.atom _) rfl) ?_
   refine aT 6 rfl rfl (pF rfl) ?_
   refine aT 7 rfl rfl (pL (c:=.list _) rfl zm0 rfl) ?_
   refine LAny.late ?_ zhp
   refine lO 4 (lS (H1:=ckH k d1) rfl (.inl rfl) rfl Inp.swap1 zhr (LStep.callK [_,_] rfl (ihs thn d1 (by rw[ndEs,ndEs,ndEs] at hnd;omega) zo) (fun h1=>?_) (fun nm h1 e' he'=>?_)))
   rotate_left
   ·refine gae ?_
    exact panK (he'.trans hj) (by rw[←hI5];unfold orE;rw[if_pos h1]) h1
   rw[h1] at hI5
   have hdt:=depSs_le B D c hB thn
   refine lO 8 (lS (H1:=ckH k (max d1 (depSs c thn))) rfl (.inl rfl) rfl zpr zhr (LStep.callK [_,_] rfl (ihs els (max d1 (depSs c thn)) (by rw[ndEs,ndEs,ndEs] at hnd;omega) zo) (fun h2=>?_) (fun nm h2 e' he'=>?_)))
   rotate_left
   ·refine gae ?_
    exact panK (he'.trans hj) hI5.symm h2
   refine lO 9 (lH rfl rfl (Pure.max3e (needE c x0) (needSs c thn) (needSs c els) rfl rfl rfl rfl rfl rfl) ?_)
   refine lO 10 (lH rfl rfl (pA (lv:=.atom _) rfl) ?_)
   refine lD zk ?_
   refine gab ?_
   refine oP (Pure.max2e 2 (max (max (needE c x0) (needSs c thn)) (needSs c els)) rfl rfl rfl rfl) rfl ?_
   refine gak ?_
   have e2:max (max d1 (depSs c thn)) (depSs c els)=DD:=by
    rw[←hDD,←hd1]
    simp only[depEs]
    omega
   rw[←e2]
   exact retK hj (zra rfl) (hI5.symm.trans h2) (by rw[←hN];try rfl) hsub_left
  refine oC rfl (fun hc=>absurd (zt hc) hk4) (fun _=>?_)
  obtain ⟨rfl,rfl⟩:=form_none hform hk3 hk4
  refine gab ?_
  refine oP (Pure.max2e 2 (needE c x0) rfl rfl rfl rfl) rfl ?_
  refine gak ?_
  have e2:d1=DD:=by
   rw[←hDD,←hd1]
   simp only[depEs,depSs]
   omega
  subst e2
  refine retK hj (zra rfl) (by rw[←hI5];try rfl) ?_ (zhD zhr)
  rw[←hN]
  simp only[needSs]
  exact int_eq (by simp)
end
end Go.Proofs.YtpbbgkoalnonoaaGreatDoor.Chk
namespace Go.Proofs.YtpbbgkoalnonoaaGreatDoor.Chk
open Go.GL Go.RowKit Go.Stele
theorem hsub_right {X A L:Heap} (h:HSub X L):HSub X (A++L):=
 let ⟨G,hG⟩:=h
 ⟨A++G,(List.Perm.append_left A hG).trans (by
  rw[←zAs,←zAs]
  exact zPc.append_right G)⟩
def pgH (k:KB) (o:Value) (d:Nat):Heap:=[(k.cb,.cells 113 [.atom (.map (some k.gm)),.atom (.map (some k.vm)),.atom (.map (some k.am)),.atom (.map (some k.fm)),str k.name,.atom o,int .i64 (d:Int)]),(k.gm,.map (kvs k.G) k.g1),(k.vm,.map (kvs k.V) k.g2),(k.am,.map (kvs k.A) k.g3),(k.fm,.map (kvs k.F) k.g4)]
def PostE (err:Int) (P:Heap→Prop) (r:LRes) (H:Heap):Prop:=(err=0∧r=.ret (.tuple [])∧P H)∨(err≠0∧(∃ nm,r=.panic (vio nm err))∧H=[])
section
variable {C:Ctx} {n:Nat} {e:Env} {H:Heap} {dst:Option Nat} {ty:TypeId} {pos:String} {aft:Array Edge} {g:Option (Nat×Bool)} {K:LV→Heap→Prop} {X:List PanicEntry→Heap→Prop}
theorem S.callE {err:Int} {P:Heap→Prop} {H1 F:Heap} {f:FuncId} [TEnter C.P f] (args:List Operand) {ats:Array TypeId} {av:List LV} (has:args.map e.ev=av) (hp:H.Perm (H1++F))
  (hc:LCalls C f av H1 (PostE err P)) (hk:∀ H',err=0→P H'→K (.tuple []) (H'++F)) (hx:∀ nm,err≠0→X (vio nm err) F):LStep C ⟨dst,.call { callee:=.value (.func f),args:=args.toArray,argTypes:=ats },ty,pos,aft,g⟩ e H K X:=by
 refine S.callH args has hp hc ?_ ?_
 ·rintro v H2 (⟨h1,h2,h3⟩|⟨_,⟨nm,h2⟩,_⟩)
  ·cases h2
   exact hk _ h1 h3
  ·cases h2
 ·rintro ch H2 (⟨_,h2,_⟩|⟨h1,⟨nm,h2⟩,rfl⟩)
  ·cases h2
  ·cases h2
   exact hx nm h1
theorem retEn {err:Int} {P:Heap→Prop} {H':Heap} {rs:List ResultVar} {vs:List LV} (hd:e.ds=[]) (h:AllRes C n e H rs vs) (he:err=0) (hv:resLV vs=.tuple []) (hH:HSub H' H) (hP:P H'):RetPost C n rs (PostE err P) .normal e H:=
 rO hd h hH (.inl ⟨he,by rw[hv],hP⟩)
theorem panE {err er:Int} {P:Heap→Prop} {rs:List ResultVar} {nm:List UInt8} (hd:e.ds=[]) (he:err=er) (h0:er≠0):RetPost C n rs (PostE err P) (.panic (vio nm er)) e H:=
 RetPost.panic hd zhn (.inr ⟨by rw[he];exact h0,⟨nm,by rw[he]⟩,rfl⟩)
end
def newE (known:List Nm) (s:Nm):Int:=if isNm s=false then 7 else if s∈known then 8 else 0
theorem freshE_cons (known:List Nm) (s:Nm) (l:List Nm):freshE known (s::l)=orE (newE known s) (freshE (s::known) l):=by
 rw[freshE]
 unfold newE
 split
 ·rfl
 split
 ·rfl
 ·rfl
theorem freshE_iff:∀ (l k k':List Nm),(∀ s,s∈k ↔ s∈k')→freshE k l=freshE k' l
 |[],_,_,_=>rfl
 |s::l,k,k',h=>by
  have h2:newE k s=newE k' s:=by
   unfold newE
   simp only[h s]
  rw[freshE_cons,freshE_cons,h2,freshE_iff l (s::k) (s::k') (fun x=>by simp[h x])]
attribute [local irreducible] LOps LCode LStep LCalls Go.GL.Pure QThen QBlock RetPost LQ LAny LLate LLateOp LS
section
variable {B0:Nat} {w0:World}
theorem global_spec {k:KB} {o:Value} {d:Nat} {known:List Nm} (hG:IsSet k.G known) (s:Nm):LCalls (KC B0 w0) 102 [ptr k.cb 0,str s] (pgH k o d)
  (PostE (newE known s) (fun H=>∃ g1,H=pgH { k with G:=GL.kvPut k.G s (bool true),g1:=g1 } o d)):=by
 generalize hI:newE known s=E
 unfold newE at hI
 refine cI Tryz.func102 rfl (n:=22) rfl rfl rfl ?_
 refine gaf ?_
 refine oS (sF [_] rfl (isName_spec s) ?_) rfl
 refine gaa ?_
 cases hn:isNm s with
 |false=>
  rw[if_pos hn] at hI
  refine oS (S.callK (H1:=[]) (F:=pgH k o d) [_,_,_] rfl zpr (req_spec false s 7 zDd) (fun h=>absurd h zDd) (fun nm _ e' he'=>?_)) rfl
  refine gah ?_
  exact panE (he'.trans rfl) hI.symm zDd
 |true=>
  rw[if_neg (by rw[hn];decide)] at hI
  refine oS (S.callK (H1:=[]) (F:=pgH k o d) [_,_,_] rfl zpr (req_spec true s 7 zDd) (fun _=>?_) (fun nm h=>absurd rfl h)) rfl
  refine gab ?_
  refine oP (Pure.setHas rfl rfl zm1 hG) rfl ?_
  refine oB 13 rfl (fun h1=>?_) (fun h1=>?_)
  ·rw[if_pos (zt h1)] at hI
   refine gaa ?_
   refine oS (S.callK (H1:=[]) (F:=pgH k o d) [_,_,_] rfl zpr (req_spec false s 8 zDd) (fun h=>absurd h zDd) (fun nm _ e' he'=>?_)) rfl
   refine gah ?_
   exact panE (he'.trans rfl) hI.symm zDd
  ·rw[if_neg (zf h1)] at hI
   refine gaa ?_
   refine oS (S.callK (H1:=[]) (F:=pgH k o d) [_,_,_] rfl zpr (req_spec true s 8 zDd) (fun _=>?_) (fun nm h=>absurd rfl h)) rfl
   refine gab ?_
   refine oS (S.kvSet (k:=s) (lv:=bool true) rfl rfl rfl zp1 fun g1=>?_) rfl
   refine gap ?_
   exact retEn rfl rN hI.symm rfl ⟨[],by rw[zLz];exact List.Perm.swap _ _ _⟩ ⟨g1,rfl⟩
theorem function_spec {vars arrays later:List Nm} {known:List FSum} {k:KB} {o:Value} {d:Nat} (f:FnD) (hG:IsSet k.G (vars++arrays++later)) (hV:IsSet k.V vars) (hA:IsSet k.A arrays) (hF:∀ n,GL.kvGet k.F n=(known.find? fun g=>decide (g.name=n)).map encSum) (hnew:f.name ∉ known.map (·.name))
  {B D:Nat} (hB:KnB B D known) (hB8:B≤50000000) (hD8:D≤100000000) (hnd:ndF f≤2000000) :
  LCalls (KC B0 w0) 104 [ptr k.cb 0,encFn f] (pgH k o d)
  (PostE (errF vars arrays later known f) (fun H=>∃ nm o' d' F' g4,(∀ n,GL.kvGet F' n=((known++[sumF vars arrays later known f]).find? fun g=>decide (g.name=n)).map encSum)∧H=pgH { k with name:=nm,F:=F',g4:=g4 } o' d')):=by
 have hsm:=smF_of hnd
 have hp6:f.params.length≤2000000:=hsm.params
 have hl6:f.locals.length≤2000000:=hsm.locals
 have hbn:ndSs f.body≤2000000:=by
  unfold ndF at hnd
  omega
 generalize hI:errF vars arrays later known f=E
 unfold errF at hI
 refine cI Tryz.func104 rfl (n:=82) rfl rfl rfl ?_
 refine gag ?_
 refine oS (S.box rfl fun b3=>?_) rfl
 refine gab ?_
 refine oS (S.kvNew fun om=>?_) rfl
 refine gac ?_
 refine oS (sL (es:=[strsV f.params,strsV f.locals]) [_,_] rfl (eC rfl rfl (eC rfl rfl eN)) rfl rfl rfl ?_) rfl
 refine oS (S.callH (H1:=[]) (F:=_) [_] rfl zpr (concat_spec [f.params,f.locals] (by simp) (by
  intro l hl
  rcases zMi.1 hl with rfl|hl
  ·exact hp6
  ·rw[List.mem_singleton.1 hl]
   exact hl6)) ?_ (by rintro ch H' ⟨v,h,_⟩;cases h)) rfl
 rintro v2 Ha2 ⟨_,h,hacc2⟩
 cases h
 have hfl:[f.params,f.locals].flatten=f.params++f.locals:=by simp
 rw[hfl] at hacc2
 refine LOps.sub 24 rfl hacc2.sub ?_
 refine LOps.weak (H':=(b3,.cells 59 [str f.name,.list (f.params.map str),.list (f.locals.map str),.list (f.body.map encS)])::ckH { k with name:=f.name,om:=om,O:=[],g5:=0 } 1) ?_ ?_
 ·refine hsub_right ?_
  repeat first
   |exact HSub.nil _
   |refine zhP zb2 ?_
 refine gad ?_
 refine oL (fun kk ls H'=>∃ (pre l1:List Nm) (OO:KV) (gg:Nat),f.params++f.locals=pre++l1∧kk=l1.length∧ls=[(0,ptr k.cb 0),(3,ptr b3 0),(24,.list ((f.params++f.locals).map str)),(25,int .i64 (((f.params++f.locals).map str).length:Int)),(26,iv pre.length)] ∧
   H'=(b3,.cells 59 [str f.name,.list (f.params.map str),.list (f.locals.map str),.list (f.body.map encS)])::ckH { k with name:=f.name,om:=om,O:=OO,g5:=gg } 1∧IsSet OO pre∧orE (freshE (pre.reverse++(vars++arrays++later)) l1) (errSs (envF vars arrays later known f) f.body)=E)
  ⟨_,_,_,⟨[],f.params++f.locals,[],0,rfl,rfl,rfl,rfl,IsSet.nil,hI⟩,⟨rfl,rfl,rfl,rfl,rfl,trivial⟩,zhR _⟩ ?_
 rintro kk ls H' ⟨pre,l1,OO,gg,hLe,rfl,rfl,rfl,hO,hE⟩ j hj
 have hb2:pre.length≤4000000:=by
  have:=congrArg List.length hLe
  rw[zLa,zLa] at this
  omega
 refine gal ?_
 refine oC rfl (fun hc=>?_) (fun hc=>?_)
 ·have hlen:=zt hc
  rw[zLm,hLe,zLa] at hlen
  obtain ⟨s,l2,rfl⟩:∃ a l2,l1=a::l2:=by
   cases l1 with
   |nil=>simp at hlen
   |cons a l2=>exact ⟨a,l2,rfl⟩
  rw[freshE_cons] at hE
  generalize hEn:newE (pre.reverse++(vars++arrays++later)) s=En at hE
  unfold newE at hEn
  refine gam ?_
  refine oP (xR (el':=str s) (cs:=[str s]) rfl rfl zo (by rw[hLe];exact get_mid str pre s l2) rfl rfl) rfl ?_
  refine gab ?_
  refine oS (sF [_] rfl (isName_spec s) ?_) rfl
  refine gaa ?_
  cases hn:isNm s with
  |false=>
   rw[if_pos hn] at hEn
   refine oS (S.callK (H1:=[]) (F:=_) [_,_,_] rfl zpr (req_spec false s 7 zDd) (fun h=>absurd h zDd) (fun nm _ e' he'=>?_)) rfl
   refine gae ?_
   exact panE (he'.trans hj) (by rw[←hE,←hEn];try rfl) zDd
  |true=>
   rw[if_neg (by rw[hn];decide)] at hEn
   refine oS (S.callK (H1:=[]) (F:=_) [_,_,_] rfl zpr (req_spec true s 7 zDd) (fun _=>?_) (fun nm h=>absurd rfl h)) rfl
   refine gab ?_
   refine oP (Pure.setHas rfl rfl zm2 hG) rfl ?_
   refine oB 39 rfl (fun h1=>?_) (fun h1=>?_)
   ·have hin:s∈pre.reverse++(vars++arrays++later):=List.mem_append_right _ (zt h1)
    rw[if_pos hin] at hEn
    refine gaa ?_
    refine oS (S.callK (H1:=[]) (F:=_) [_,_,_] rfl zpr (req_spec false s 8 zDd) (fun h=>absurd h zDd) (fun nm _ e' he'=>?_)) rfl
    refine gae ?_
    exact panE (he'.trans hj) (by rw[←hE,←hEn];try rfl) zDd
   refine gaa ?_
   refine oP (Pure.setHas rfl rfl zm6 hO) rfl ?_
   refine oB 47 rfl (fun h2=>?_) (fun h2=>?_)
   ·have hin:s∈pre.reverse++(vars++arrays++later):=List.mem_append_left _ (List.mem_reverse.2 (zt h2))
    rw[if_pos hin] at hEn
    refine gaa ?_
    refine oS (S.callK (H1:=[]) (F:=_) [_,_,_] rfl zpr (req_spec false s 8 zDd) (fun h=>absurd h zDd) (fun nm _ e' he'=>?_)) rfl
    refine gae ?_
    exact panE (he'.trans hj) (by rw[←hE,←hEn];try rfl) zDd
   rw[if_neg (fun h=>(List.mem_append.1 h).elim (fun h=>zf h2 (List.mem_reverse.1 h)) (zf h1))] at hEn
   subst hEn
   refine gaa ?_
   refine oS (S.callK (H1:=[]) (F:=_) [_,_,_] rfl zpr (req_spec true s 8 zDd) (fun _=>?_) (fun nm h=>absurd rfl h)) rfl
   refine gab ?_
   refine oS (S.kvSet (k:=s) (lv:=bool true) rfl rfl rfl zp6 fun gg2=>?_) rfl
   refine gaq ?_
   exact ⟨l2.length,_,_,Nat.lt_succ_self _,⟨pre++[s],l2,GL.kvPut OO s (bool true),gg2,by rw[hLe];simp,rfl,rfl,rfl,hO.add s,by
    rw[←hE]
    rw[freshE_iff l2 ((pre++[s]).reverse++(vars++arrays++later)) (s::(pre.reverse++(vars++arrays++later))) (fun x=>by simp)]
    rfl⟩,⟨rfl,rfl,rfl,rfl,int_eq (by simp),trivial⟩,by
    repeat first
     |exact HSub.nil _
     |refine zhP zb2 ?_,hj⟩
 have hlen:=zf hc
 rw[zLm,hLe,zLa] at hlen
 obtain rfl:l1=[]:=by
  cases l1 with
  |nil=>rfl
  |cons a l2=>simp at hlen;omega
 rw[zLz] at hLe
 rw[←hLe] at hO
 have hE2:errSs (envF vars arrays later known f) f.body=E:=by rw[←hE];try rfl
 have hkb:KBok { k with name:=f.name,om:=om,O:=OO,g5:=gg } (envF vars arrays later known f):=⟨hG,hV,hA,hO,hF⟩
 have hss:=stmts_spec (B0:=B0) (w0:=w0) (k:={ k with name:=f.name,om:=om,O:=OO,g5:=gg }) (c:=envF vars arrays later known f) hB hD8 (n:=2000000) (zNr _) (stmt_spec hkb hB hB8 hD8 2000000 (zNr _)) f.body 1 hbn zDd
 have hnb:=needSs_le B D (envF vars arrays later known f) hB f.body
 have hdb:=depSs_le B D (envF vars arrays later known f) hB f.body
 refine gac ?_
 refine oS (S.callK [_,_] rfl (Inp.swap1) hss (fun h0=>?_) (fun nm h0 e' he'=>?_)) rfl
 rotate_left
 ·refine gah ?_
  exact panE (he'.trans hj) hE2.symm h0
 refine LOps.perm (Inp.swap1 (H:=ckH _ _)).symm ?_
 refine gau ?_
 have hpl:(f.params.map str).length≤2000000:=by rw[zLm];exact hp6
 refine LCode.tail 20 zk ?_
 refine gad ?_
 refine LS.pure (Pure.max3e 2 (f.params.length+1) (needSs (envF vars arrays later known f) f.body) rfl rfl rfl rfl (by rw[zLm];omega) rfl) rfl ?_
 refine gad ?_
 refine oS (S.kvSet (k:=f.name) (lv:=.agg [int .i64 ((f.params.map str).length:Int),int .i64 (max (max 2 (f.params.length+1)) (needSs (envF vars arrays later known f) f.body):Nat),int .i64 (max 1 (depSs (envF vars arrays later known f) f.body):Nat)]) rfl rfl rfl zp5 fun g4=>?_) rfl
 refine gap ?_
 refine retEn hj rN (hE2.symm.trans h0) rfl (H':=pgH { k with name:=f.name,F:=GL.kvPut k.F f.name (.agg [int .i64 ((f.params.map str).length:Int),int .i64 (max (max 2 (f.params.length+1)) (needSs (envF vars arrays later known f) f.body):Nat),int .i64 (max 1 (depSs (envF vars arrays later known f) f.body):Nat)]),g4:=g4 } (.map (some om)) (max 1 (depSs (envF vars arrays later known f) f.body))) ?hs ⟨f.name,_,_,_,g4,fun n=>?kv,rfl⟩
 case hs=>
  repeat first
   |exact HSub.nil _
   |refine zhP zb2 ?_
 case kv=>
  rw[GL.kvGet_put,hF n,List.find?_append]
  by_cases h1:f.name=n
  ·rw[if_pos h1]
   have h2:(known.find? fun g=>decide (g.name=n))=none:=by
    rw[List.find?_eq_none]
    intro g hg
    simp only[zDe]
    intro h3
    exact hnew (by rw[h1,←h3];exact List.mem_map_of_mem hg)
   rw[h2,Option.none_or]
   have h4:([sumF vars arrays later known f].find? fun g=>decide (g.name=n))=some (sumF vars arrays later known f):=by
    rw[List.find?_cons_of_pos]
    exact decide_eq_true h1
   rw[h4]
   show some _=some (encSum _)
   unfold encSum sumF
   rw[←zLm (f:=str)]
  ·rw[if_neg h1]
   have h4:([sumF vars arrays later known f].find? fun g=>decide (g.name=n))=none:=by
    rw[List.find?_eq_none]
    intro g hg
    rw[List.mem_singleton.1 hg]
    simp only[zDe]
    exact h1
   rw[h4,Option.or_none]
end
end Go.Proofs.YtpbbgkoalnonoaaGreatDoor.Chk
