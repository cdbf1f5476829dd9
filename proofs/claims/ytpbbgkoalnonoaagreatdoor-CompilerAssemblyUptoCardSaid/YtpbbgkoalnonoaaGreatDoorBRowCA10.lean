/- Texts joined: CmpA, CmpB, CmpC, CmpD, CmpE, CmpF, CmpMap, CmpFit, GlClear, CmpG. -/
import Derived.Test.YtpbbgkoalnonoaaGreatDoorBRowCA3
import Derived.Test.YtpbbgkoalnonoaaGreatDoorBRowCA8
import Derived.Test.YtpbbgkoalnonoaaGreatDoorBRowCA9
set_option linter.unusedVariables false
set_option linter.unusedSimpArgs false
set_option maxRecDepth 100000
set_option maxHeartbeats 4000000
namespace Go.Proofs.YtpbbgkoalnonoaaGreatDoor.Cmp
open Go.GL Go.RowKit Go.Stele
open Go.Lib (decDigits itoa join)
structure TB where
 tb:Nat
 sm:Nat
 am:Nat
 S:KV
 A:KV
 g1:Nat
 g2:Nat
 sc:Nat
def TrH (k:TB) (own:Nm) (ws:List Wd) (n:Nat) (H:Heap):Prop:=∃ v Hv,GL.Acc 1 v (ws.map str) Hv []∧H=(k.tb,.cells 64 [v,int .i64 (n:Nat),int .i64 (k.sc:Nat),.atom (.map (some k.sm)),.atom (.map (some k.am)),str own])::(k.sm,.map (kvs k.S) k.g1)::(k.am,.map (kvs k.A) k.g2)::Hv
def PostT (P:Heap→Prop):LRes→Heap→Prop:=fun r H=>r=.ret (.tuple [])∧P H
def PostS (s:List UInt8) (P:Heap→Prop):LRes→Heap→Prop:=fun r H=>r=.ret (str s)∧P H
structure TBok (k:TB) (c:CC) (own:Nm):Prop where
 sc:∀ name,∃ a:Nat,a≤1000000000∧c.sc name=decDigits a∧((∃ v,GL.kvGet k.S (own++[46]++name)=some v∧v=int .i64 (a:Nat))∨(GL.kvGet k.S (own++[46]++name)=none∧(GL.kvGet k.S name).getD (int .i64 0)=int .i64 (a:Nat)))
 ar:∀ name,∃ a:Nat,a≤1000000000∧c.ar name=decDigits a∧(GL.kvGet k.A name).getD (int .i64 0)=int .i64 (a:Nat)
 t0:c.t0=decDigits k.sc
 t1:c.t1=decDigits (k.sc+1)
 t2:c.t2=decDigits (k.sc+2)
 small:k.sc≤1000000000
 own:own.length≤1000000
theorem perm3 {x y z:Nat×LObj} {A:Heap}:(x::y::z::A).Perm (A++[x,y,z]):=zPc (l₁:=[x,y,z])
theorem permR {x:Nat×LObj} {A:Heap}:(x::A).Perm (A++[x]):=(List.perm_append_singleton _ _).symm
theorem permR2 {x y:Nat×LObj} {A:Heap}:(x::y::A).Perm (A++[x,y]):=zPc (l₁:=[x,y])
theorem permN {A:Heap}:A.Perm (A++[]):=by rw[zLz]
theorem hsubD1 {x:Nat×LObj} {A:Heap}:HSub A (x::A):=zhD zhr
theorem hsubD2 {x y:Nat×LObj} {A:Heap}:HSub A (x::y::A):=zhD (zhD zhr)
theorem hsubP1 {x:Nat×LObj} {A:Heap}:HSub [x] (x::A):=zhP pH zhn
theorem hsubP2 {x y:Nat×LObj} {A:Heap}:HSub [x,y] (x::y::A):=zhP pH zhp
theorem hsubRot1 {x:Nat×LObj} {A:Heap}:HSub (x::A) (A++[x]):=⟨[],by rw[zLz];exact permR.symm⟩
theorem hsubRot2 {x y:Nat×LObj} {A:Heap}:HSub (x::y::A) (A++[x,y]):=⟨[],by rw[zLz];exact permR2.symm⟩
theorem wrap_u64n {m:Nat} (h:m<4294967296):IntKind.u64.wrap (m:Int)=m:=by
 simp only[IntKind.wrap,IntKind.bits,IntKind.signed,Bool.false_and]
 simp
 omega
section
variable {C:Ctx} {e:Env} {H:Heap} {dst:Option Nat} {ty:TypeId} {pos:String} {aft:Array Edge} {g:Option (Nat×Bool)} {K:LV→Heap→Prop} {X:List PanicEntry→Heap→Prop}
theorem S.callT {f:FuncId} [TEnter C.P f] (args:List Operand) {ats:Array TypeId} {avs:List LV} {P:Heap→Prop} {H1 F:Heap} (has:args.map e.ev=avs) (hp:H.Perm (H1++F)) (hc:LCalls C f avs H1 (PostT P)) (hk:∀ H',P H'→K (.tuple []) (F++H')) :
  LStep C ⟨dst,.call { callee:=.value (.func f),args:=args.toArray,argTypes:=ats },ty,pos,aft,g⟩ e H K X:=
 LStep.conseq (K:=fun lv H''=>∃ H',H''=H'++F∧P H'∧lv=.tuple []) (S.callH args has hp hc (by rintro v H' ⟨h,h2⟩;cases h;exact ⟨H',rfl,h2,rfl⟩) (by rintro ch H' ⟨h,_⟩;cases h))
  (by rintro lv H'' ⟨H',rfl,hP,rfl⟩;exact ⟨_,F++H',LV.Sub.refl _,⟨[],by rw[zLz];exact zPc⟩,hk H' hP⟩)
theorem Pure.kvOr {t el:TypeId} {zv:Value} {zl lv:LV} [h:TMap C.P t el zv zl] {x y:Operand} {b clock:Nat} {m:KV} {s:List UInt8} (hm:e.ev x=.atom (.map (some b))) (hx:e.ev y=str s) (hb:(b,.map (kvs m) clock)∈H) (hg:(GL.kvGet m s).getD zl=lv) :
  GL.Pure C ⟨dst,.lookup t x y false,ty,pos,aft,g⟩ e H lv:=by
 obtain ⟨kt,h1,h2⟩:=h.und
 exact hg▸GL.Pure.kvGet h1 h2 h.zero h.rep hm hx hb
theorem S.callS {f:FuncId} [TEnter C.P f] (args:List Operand) {ats:Array TypeId} {avs:List LV} {P:Heap→Prop} {s:List UInt8} {H1 F:Heap} (has:args.map e.ev=avs) (hp:H.Perm (H1++F)) (hc:LCalls C f avs H1 (PostS s P)) (hk:∀ H',P H'→K (str s) (F++H')) :
  LStep C ⟨dst,.call { callee:=.value (.func f),args:=args.toArray,argTypes:=ats },ty,pos,aft,g⟩ e H K X:=
 LStep.conseq (K:=fun lv H''=>∃ H',H''=H'++F∧P H'∧lv=str s) (S.callH args has hp hc (by rintro v H' ⟨h,h2⟩;cases h;exact ⟨H',rfl,h2,rfl⟩) (by rintro ch H' ⟨h,_⟩;cases h))
  (by rintro lv H'' ⟨H',rfl,hP,rfl⟩;exact ⟨_,F++H',LV.Sub.refl _,⟨[],by rw[zLz];exact zPc⟩,hk H' hP⟩)
theorem S.callTV {fo:Operand} {f:FuncId} [TEnter C.P f] {first caps:Array Value} (args:List Operand) {ats:Array TypeId} {avs:List LV} {P:Heap→Prop} {H1 F:Heap} (hf:e.ev fo=.atom (.func (.func f) first caps))
  (has:first.toList.map .atom++args.map e.ev++caps.toList.map .atom=avs) (hp:H.Perm (H1++F)) (hc:LCalls C f avs H1 (PostT P)) (hk:∀ H',P H'→K (.tuple []) (F++H')) :
  LStep C ⟨dst,.call { callee:=.value fo,args:=args.toArray,argTypes:=ats },ty,pos,aft,g⟩ e H K X:=
 LStep.conseq (K:=fun lv H''=>∃ H',H''=H'++F∧P H'∧lv=.tuple []) (S.callV args hf has hp hc (by rintro v H' ⟨h,h2⟩;cases h;exact ⟨H',rfl,h2,rfl⟩) (by rintro ch H' ⟨h,_⟩;cases h))
  (by rintro lv H'' ⟨H',rfl,hP,rfl⟩;exact ⟨_,F++H',LV.Sub.refl _,⟨[],by rw[zLz];exact zPc⟩,hk H' hP⟩)
end
attribute [local irreducible] LOps LCode LStep LCalls Go.GL.Pure QThen QBlock RetPost LQ LAny LLate LLateOp LS
section
variable {B0:Nat} {w0:World} {k:TB} {own:Nm} {c:CC} {ws:List Wd} {n:Nat} {H:Heap}
theorem put_spec (h:TrH k own ws n H) (W:List Wd) {a:LV} (ha:GL.elems a=some (W.map str)) (hr:ws.length+W.length≤1000000000):LCalls (KC B0 w0) 50 [ptr k.tb 0,a] H (PostT (TrH k own (ws++W) n)):=by
 obtain ⟨v,Hv,hacc,rfl⟩:=h
 have h1:(ws.map str).length=ws.length:=zLm _
 have h2:(W.map str).length=W.length:=zLm _
 refine cI Tryz.func50 rfl (n:=13) rfl rfl rfl ?_
 refine gab ?_
 refine oP (pL (c:=v) rfl zm0 rfl) rfl ?_
 refine oP (pM (lv:=a) rfl) rfl ?_
 refine oS (S.accF perm3 rfl hacc ha (strs_len W) (strs_ok W) zo fun v' H' hacc'=>?_) rfl
 refine gac ?_
 refine oS (sS (cs':=[v',int .i64 (n:Nat),int .i64 (k.sc:Nat),.atom (.map (some k.sm)),.atom (.map (some k.am)),str own]) rfl pH (Acc.cell hacc').1 rfl rfl (Acc.cell hacc').2 rfl ?_) rfl
 refine gae ?_
 exact rO rfl rN zhr ⟨rfl,v',H',by rw[zMa];exact hacc',rfl⟩
theorem label_spec (hG:GW B0 w0) (h:TrH k own ws n H) (hn:n≤1000000000000):LCalls (KC B0 w0) 172 [ptr k.tb 0] H (PostS (labW n) (TrH k own ws (n+1))):=by
 obtain ⟨v,Hv,hacc,rfl⟩:=h
 have hd:(Go.Lib.decDigits n).length≤20:=by
  rw[Go.Lib.decDigits_length]
  exact zNt (nDigits_le 12 n zo) zDd
 refine cI Tryz.func172 rfl (n:=18) rfl rfl rfl ?_
 refine gab ?_
 refine oS (sF [_] rfl (itoa_spec hG n zo) ?_) rfl
 refine gab ?_
 first|(refine oS (sS (cs':=[_,_,_,_,_,_]) rfl pH rfl rfl rfl rfl rfl ?_) rfl)|skip
 refine gaa ?_
 exact rR rfl (zra rfl) zhr ⟨rfl,v,Hv,hacc,rfl⟩
theorem scalar_spec (hG:GW B0 w0) (hk:TBok k c own) (h:TrH k own ws n H) (name:List UInt8) (hn:name.length≤1000000):LCalls (KC B0 w0) 52 [ptr k.tb 0,str name] H (PostS (c.sc name) (TrH k own ws n)):=by
 obtain ⟨a,ha1,ha2,ha3⟩:=hk.sc name
 have ho:=hk.own
 have h0:=h
 obtain ⟨v,Hv,hacc,rfl⟩:=h
 rw[ha2]
 refine cI Tryz.func52 rfl (n:=32) rfl rfl rfl ?_
 refine gai ?_
 refine LCode.quiet zk ?_
 refine gac ?_
 rcases ha3 with ⟨v3,hv3,rfl⟩|⟨hv3,hv4⟩
 ·refine LQ.pure (Pure.kvHit2 rfl rfl zm1 hv3) rfl ?_
  refine gab ?_
  refine oC rfl (fun hc=>?_) (fun hc=>?_)
  ·refine gaj ?_
   refine oS (sF [_] rfl (itoa_spec hG a zo) ?_) rfl
   refine gae ?_
   exact rR rfl (zra rfl) zhr ⟨rfl,h0⟩
  ·cases hc
 ·refine LQ.pure (Pure.kvMiss2 rfl rfl zm1 hv3) rfl ?_
  refine gab ?_
  refine oC rfl (fun hc=>?_) (fun hc=>?_)
  ·cases hc
  ·refine gab ?_
   refine oP (Pure.kvOr rfl rfl zm1 hv4) rfl ?_
   refine oS (sF [_] rfl (itoa_spec hG a zo) ?_) rfl
   refine gae ?_
   exact rR rfl (zra rfl) zhr ⟨rfl,h0⟩
theorem temporary_spec (hG:GW B0 w0) (hk:TBok k c own) (h:TrH k own ws n H) (i:Nat) (hi:i≤2):LCalls (KC B0 w0) 51 [ptr k.tb 0,int .i64 (i:Nat)] H (PostS (decDigits (k.sc+i)) (TrH k own ws n)):=by
 have h0:=h
 obtain ⟨v,Hv,hacc,rfl⟩:=h
 have hs:=hk.small
 have e1:int .i64 ((k.sc:Int)+(i:Int))=int .i64 ((k.sc+i:Nat):Int):=int_eq zo
 refine cI Tryz.func51 rfl (n:=12) rfl rfl rfl ?_
 refine gab ?_
 refine oS (sF [_] (by show [_]=_;exact congrArg (fun x=>[x]) e1) (itoa_spec hG (k.sc+i) zo) ?_) rfl
 refine gae ?_
 exact rR rfl (zra rfl) zhr ⟨rfl,h0⟩
theorem greater_spec (hG:GW B0 w0) (hk:TBok k c own) (h:TrH k own ws n H) (hr:ws.length+(greaterW c).length≤1000000000):LCalls (KC B0 w0) 221 [ptr k.tb 0] H (PostT (TrH k own (ws++greaterW c) n)):=by
 have e:greaterW c=[c.t2,[33],c.t1,[33],c.t2,[64],c.t1,[64],[60]]:=rfl
 rw[e] at hr ⊢
 rw[hk.t1,hk.t2]
 rw[hk.t1,hk.t2] at hr
 refine cI Tryz.func221 rfl (n:=15) rfl rfl rfl ?_
 refine gaj ?_
 refine oS (S.callS (F:=[]) [_,_] rfl permN (temporary_spec hG hk h 1 zDd) fun H1 h1=>?_) rfl
 refine gav ?_
 refine oS (S.callS (H1:=H1) (F:=[]) [_,_] rfl permN (temporary_spec hG hk h1 2 zDd) fun H2 h2=>?_) rfl
 refine gat ?_
 refine oS (sL [_,_,_,_,_,_,_,_,_] rfl (elemsOk_strs [_,_,_,_,_,_,_,_,_]) rfl rfl rfl ?_) rfl
 refine oS (S.callT (H1:=H2) (F:=[]) [_,_] rfl permN (put_spec h2 [_,_,_,_,_,_,_,_,_] rfl hr) fun H3 h3=>?_) rfl
 refine gae ?_
 exact rO rfl rN zhr ⟨rfl,h3⟩
end
end Go.Proofs.YtpbbgkoalnonoaaGreatDoor.Cmp
namespace Go.Proofs.YtpbbgkoalnonoaaGreatDoor.Cmp
open Go.GL Go.RowKit Go.Stele
open Go.Lib (decDigits itoa join)
structure EnvOk (env:CEnv):Prop where
 sc:∀ s,scalarE env s=0→s.length≤24
 fn:∀ k∈env.funcs,k.name.length≤24
theorem EnvOk.call {env:CEnv} (h:EnvOk env) {name:Nm} {m:Nat} (hc:callE env name m=0):name.length≤24:=by
 unfold callE at hc
 split at hc
 ·rename_i e;rw[e];decide
 split at hc
 ·rename_i e;rw[e];decide
 unfold CEnv.fn at hc
 cases hf:env.funcs.find? fun f=>decide (f.name=name) with
 |none=>
  rw[hf] at hc
  simp only at hc
  split at hc <;> cases hc
 |some k=>
  have e:k.name=name:=zt (List.find?_some (p:=fun g:FSum=>decide (g.name=name)) hf)
  rw[←e]
  exact h.fn k (List.mem_of_find?_eq_some hf)
section
variable {C:Ctx} {e:Env} {H:Heap} {dst:Option Nat} {ty:TypeId} {pos:String} {aft:Array Edge} {g:Option (Nat×Bool)} {K:LV→Heap→Prop} {X:List PanicEntry→Heap→Prop}
theorem LStep.callT {f:FuncId} [TEnter C.P f] (args:List Operand) {ats:Array TypeId} {avs:List LV} {P:Heap→Prop} (has:args.map e.ev=avs) (hc:LCalls C f avs H (PostT P)) (hk:∀ H',P H'→K (.tuple []) H') :
  LStep C ⟨dst,.call { callee:=.value (.func f),args:=args.toArray,argTypes:=ats },ty,pos,aft,g⟩ e H K X:=
 LStep.conseq (S.callT (F:=[]) (K:=fun lv H'=>K lv H') (X:=X) args has (by rw[zLz]) hc (fun H' h=>hk H' h)) (fun lv H' h=>⟨lv,H',LV.Sub.refl _,zhR _,h⟩)
end
attribute [local irreducible] LOps LCode LStep LCalls Go.GL.Pure QThen QBlock RetPost LQ LAny LLate LLateOp LS
section
variable {B0:Nat} {w0:World}
abbrev exB (b:Nat) (op:Nm) (num:Nat) (name:Nm) (args:List Ex):Nat×LObj:=(b,.cells 104 [str op,int .u32 (num:Int),str name,.list (args.map encE)])
def ExprT (B0:Nat) (w0:World) (k:TB) (own:Nm) (c:CC) (env:CEnv) (m:Nat):Prop:=∀ (x:Ex) (ws:List Wd) (n:Nat) (H:Heap),ndE x≤m→numE x→errE env x=0→TrH k own ws n H→ws.length+(exW c x).length≤1000000000→LCalls (KC B0 w0) 107 [ptr k.tb 0,encE x] H (PostT (TrH k own (ws++exW c x) n))
theorem all_spec {k:TB} {own:Nm} {c:CC} {env:CEnv} {m:Nat} (ih:ExprT B0 w0 k own c env m) (l:List Ex) (ws:List Wd) (n:Nat) (H:Heap) (hm:ndEs l≤m) (hl:l.length≤2000000) (hnum:numEs l) (he:errEs env l=0) (h:TrH k own ws n H) (hr:ws.length+(exWl c l).flatten.length≤1000000000) :
  LCalls (KC B0 w0) 170 [ptr k.tb 0,.list (l.map encE)] H (PostT (TrH k own (ws++(exWl c l).flatten) n)):=by
 have hall:(l.map encE).length=l.length:=zLm _
 refine cI Tryz.func170 rfl (n:=16) rfl rfl rfl ?_
 refine gaa ?_
 refine oL (fun kk ls H'=>∃ (pre l1:List Ex) (ws':List Wd),l=pre++l1∧kk=l1.length∧ls=[(0,ptr k.tb 0),(6,.list (l.map encE)),(7,int .i64 ((l.map encE).length:Int)),(8,int .i64 (pre.length:Int))]∧TrH k own ws' n H'∧ws'++(exWl c l1).flatten=ws++(exWl c l).flatten∧errEs env l1=0∧numEs l1)
  ⟨l.length,_,_,⟨[],l,ws,rfl,rfl,rfl,h,rfl,he,hnum⟩,⟨rfl,rfl,rfl,rfl,trivial⟩,zhR _⟩ ?_
 rintro kk ls H' ⟨pre,l1,ws',hLe,rfl,rfl,hT,hW,he1,hn1⟩ j hj
 have hb2:pre.length≤2000000:=by
  have:=congrArg List.length hLe
  rw[zLa] at this
  omega
 refine gah ?_
 refine oC rfl (fun hc=>?_) (fun hc=>?_)
 ·have hlen:=zt hc
  rw[zLm,hLe,zLa] at hlen
  obtain ⟨a,l2,rfl⟩:∃ a l2,l1=a::l2:=by
   cases l1 with
   |nil=>simp at hlen
   |cons a l2=>exact ⟨a,l2,rfl⟩
  have ham:ndE a≤ndEs l:=ndEs_mem (by rw[hLe];exact List.mem_append_right _ zMs)
  rw[errEs] at he1
  rw[numEs] at hn1
  rw[exWl,List.flatten_cons,←zAs] at hW
  obtain ⟨h1,h2⟩:=orE_zero.1 he1
  have hlw:=congrArg List.length hW
  rw[zLa,zLa,zLa] at hlw
  refine gak ?_
  refine oP (xR (el':=encE a) (cs:=[_,_,_,_]) rfl rfl zo (by rw[hLe];exact Chk.get_mid encE pre a l2) rfl rfl) rfl ?_
  refine gaq ?_
  refine oS (sA fun b8=>?_) rfl
  refine gab ?_
  refine oS (S.callT (H1:=H') (F:=[_]) [_,_] rfl permR (ih a ws' n H' zo hn1.1 h1 hT zo) fun H2 hT2=>?_) rfl
  refine gal ?_
  exact ⟨l2.length,_,_,Nat.lt_succ_self _,⟨pre++[a],l2,ws'++exW c a,by rw[hLe];simp,rfl,rfl,hT2,hW,h2,hn1.2⟩,⟨rfl,rfl,rfl,int_eq (by simp),trivial⟩,hsubD1,hj⟩
 ·have hlen:=zf hc
  rw[zLm,hLe,zLa] at hlen
  obtain rfl:l1=[]:=by
   cases l1 with
   |nil=>rfl
   |cons a l2=>simp at hlen;omega
  rw[exWl,List.flatten_nil,zLz] at hW
  refine gad ?_
  exact rO hj rN zhr ⟨rfl,by rw[←hW];exact hT⟩
theorem between_spec {k:TB} {own:Nm} {c:CC} {env:CEnv} {m:Nat} (ih:ExprT B0 w0 k own c env m) (b2 b3:Nat) (op:Nm) (num:Nat) (name:Nm) (x y:Ex) (ws:List Wd) (n:Nat) (H:Heap) (hx:ndE x≤m) (hy:ndE y≤m) (nx:numE x) (ny:numE y) (ex:errE env x=0) (ey:errE env y=0) (h:TrH k own ws n H)
  (A B:List Wd) {a b:LV} (ha:GL.elems a=some (A.map str)) (hb:GL.elems b=some (B.map str)) (hr:ws.length+(A++exW c x++B++exW c y).length≤1000000000) :
  LCalls (KC B0 w0) 220 [a,b,ptr b2 0,ptr b3 0] ((b2,.cells 61 [ptr k.tb 0])::exB b3 op num name [x,y]::H)
   (PostT (fun H'=>∃ H2,H'=(b2,.cells 61 [ptr k.tb 0])::exB b3 op num name [x,y]::H2∧TrH k own (ws++(A++exW c x++B++exW c y)) n H2)):=by
 simp only[zLa] at hr
 refine cI Tryz.func220 rfl (n:=24) rfl rfl rfl ?_
 refine gaa ?_
 refine oP (pM (lv:=a) rfl) rfl ?_
 refine oS (S.callT (H1:=H) (F:=[_,_]) [_,_] rfl permR2 (put_spec h A ha zo) fun H2 h2=>?_) rfl
 refine gad ?_
 refine LCode.draw (m:=6) rfl [(b2,.cells 61 [ptr k.tb 0]),exB b3 op num name [x,y]] ?_
 refine aT 0 rfl rfl (pL (c:=.atom _) rfl zm0 rfl) ?_
 refine aT 1 rfl rfl (pF rfl) ?_
 refine aT 2 rfl rfl (pL (c:=.list _) rfl zm1 rfl) ?_
 refine LAny.take (i:=3) hsubP2 rfl zk zk zk rfl (xR (el':=encE x) (cs:=[_,_,_,_]) rfl rfl zDd rfl rfl rfl) ?_
 refine aT 4 rfl rfl (Pure.ldRefAgg (cs':=[_,_,_,_]) rfl rfl rfl) ?_
 refine LAny.late ?_ hsubP2
 refine lO 5 (lS (H1:=H2) (F:=[_,_]) rfl (.inl rfl) rfl permR2 zhr (LStep.callT [_,_] rfl (ih x _ n H2 hx nx ex h2 (by rw[zLa];omega)) fun H3 h3=>?_))
 refine lD zk ?_
 refine qN ?_
 refine LCode.weak hsubRot2 ?_
 refine gaa ?_
 refine oP (pM (lv:=b) rfl) rfl ?_
 refine oS (S.callT (H1:=H3) (F:=[_,_]) [_,_] rfl permR2 (put_spec h3 B hb (by simp only[zLa];omega)) fun H4 h4=>?_) rfl
 refine gae ?_
 refine LCode.draw (m:=6) rfl [(b2,.cells 61 [ptr k.tb 0]),exB b3 op num name [x,y]] ?_
 refine aT 0 rfl rfl (pL (c:=.atom _) rfl zm0 rfl) ?_
 refine aT 1 rfl rfl (pF rfl) ?_
 refine aT 2 rfl rfl (pL (c:=.list _) rfl zm1 rfl) ?_
 refine LAny.take (i:=3) hsubP2 rfl zk zk zk rfl (xR (el':=encE y) (cs:=[_,_,_,_]) rfl rfl zDd rfl rfl rfl) ?_
 refine aT 4 rfl rfl (Pure.ldRefAgg (cs':=[_,_,_,_]) rfl rfl rfl) ?_
 refine LAny.late ?_ hsubP2
 refine lO 5 (lS (H1:=H4) (F:=[_,_]) rfl (.inl rfl) rfl permR2 zhr (LStep.callT [_,_] rfl (ih y _ n H4 hy ny ey h4 (by simp only[zLa];omega)) fun H5 h5=>?_))
 refine lD zk ?_
 exact rO rfl rN hsubRot2 ⟨rfl,H5,rfl,by
  simp only[zAs] at h5 ⊢
  exact h5⟩
end
end Go.Proofs.YtpbbgkoalnonoaaGreatDoor.Cmp
namespace Go.Proofs.YtpbbgkoalnonoaaGreatDoor.Cmp
open Go.GL Go.RowKit Go.Stele
open Go.Lib (decDigits itoa join)
theorem exWl_nil (c:CC):exWl c []=[]:=by rw[exWl]
theorem exWl_cons (c:CC) (x:Ex) (l:List Ex):exWl c (x::l)=exW c x::exWl c l:=by rw[exWl]
theorem one_arg {env:CEnv} {op name:Nm} {args:List Ex} (h:opnds op = -1∨opnds op=args.length) (ho:opnds op=1):∃ x,args=[x]:=by
 have:args.length=1:=by omega
 exact List.length_eq_one_iff.1 this
theorem two_args {op:Nm} {args:List Ex} (h:opnds op = -1∨opnds op=args.length) (ho:opnds op=2):∃ x y,args=[x,y]:=by
 have h2:args.length=2:=by omega
 match args,h2 with
 |[x,y],_=>exact ⟨x,y,rfl⟩
def binW (c:CC) (op:Nm):List Wd:=if op=[62] then greaterW c else if op=[60,61] then greaterW c++[[49],[94]] else if op=[62,61] then [[60],[49],[94]] else if op=[61,61] then [[94],[49],[60]] else [op]
def twoW (c:CC) (op:Nm) (X Y:List Wd):List Wd:=
 if op=[33,61] then [[48]]++X++[]++Y++[[94],[60]]
 else if op=[38,38] then [[48]]++X++[[60],[48]]++Y++[[60],[42]]
 else if op=[124,124] then [[48],[48]]++X++[[60],[48]]++Y++[[60],[43],[60]]
 else []++X++[]++Y++binW c op
theorem exW_two (c:CC) {op:Nm} (num:Nat) (name:Nm) (x y:Ex) (h1:op≠nNum) (h2:op≠nVar) (h3:op≠nElem) (h4:op≠nCall) (h5:op≠nNeg) (h6:op≠nNot):exW c (.mk op num name [x,y])=twoW c op (exW c x) (exW c y):=by
 rw[exW,exWl_cons,exWl_cons,exWl_nil]
 unfold opW twoW binW
 rw[if_neg h1,if_neg h2,if_neg h3,if_neg h4,if_neg h5,if_neg h6]
 simp only[List.headD_cons,List.drop_one,List.tail_cons,List.nil_append,zLz,zAs,List.cons_append,List.singleton_append]
attribute [local irreducible] LOps LCode LStep LCalls Go.GL.Pure QThen QBlock RetPost LQ LAny LLate LLateOp LS
section
variable {B0:Nat} {w0:World}
theorem binary_spec (hG:GW B0 w0) {k:TB} {own:Nm} {c:CC} (hk:TBok k c own) {env:CEnv} {m:Nat} (ih:ExprT B0 w0 k own c env m) (op:Nm) (num:Nat) (name:Nm) (x y:Ex) (ws:List Wd) (n:Nat) (H:Heap) (hx:ndE x≤m) (hy:ndE y≤m) (nx:numE x) (ny:numE y) (ex:errE env x=0) (ey:errE env y=0) (h:TrH k own ws n H)
  (hr:ws.length+(twoW c op (exW c x) (exW c y)).length≤1000000000) :
  LCalls (KC B0 w0) 171 [ptr k.tb 0,encE (.mk op num name [x,y])] H (PostT (TrH k own (ws++twoW c op (exW c x) (exW c y)) n)):=by
 rw[encE_mk]
 generalize hW:twoW c op (exW c x) (exW c y)=W at hr ⊢
 unfold twoW at hW
 refine cI Tryz.func171 rfl (n:=64) rfl rfl rfl ?_
 refine gaf ?_
 refine oS (S.box rfl fun b2=>?_) rfl
 refine oS (S.box rfl fun b3=>?_) rfl
 refine LOps.weak (H':=(b2,.cells 61 [ptr k.tb 0])::exB b3 op num name [x,y]::H) ⟨[],by rw[zLz];exact List.Perm.swap _ _ _⟩ ?_
 refine gab ?_
 have hBT:=fun (A B:List Wd) {a b:LV} (ha:GL.elems a=some (A.map str)) (hb:GL.elems b=some (B.map str)) hr=>between_spec (B0:=B0) (w0:=w0) ih b2 b3 op num name x y ws n H hx hy nx ny ex ey h A B ha hb hr
 by_cases h1:op=[33,61]
 ·rw[if_pos h1] at hW
  refine oC rfl (fun _=>?_) (fun hc=>absurd h1 (zf hc))
  refine gaj ?_
  refine oS (sL [_] rfl (elemsOk_strs [_]) rfl rfl rfl ?_) rfl
  refine oS (S.callTV (f:=220) (F:=[]) [_,_] rfl rfl permN (hBT [[48]] [] rfl rfl (by rw[←hW] at hr;simp only[zLa] at hr ⊢;omega)) ?_) rfl
  rintro H1 ⟨H2,rfl,h2⟩
  refine gaa ?_
  refine oS (sL [_,_] rfl (elemsOk_strs [_,_]) rfl rfl rfl ?_) rfl
  refine oS (S.callT (H1:=H2) (F:=[_,_]) [_,_] rfl permR2 (put_spec h2 [[94],[60]] rfl (by rw[←hW] at hr;simp only[zLa] at hr ⊢;omega)) fun H3 h3=>?_) rfl
  refine gae ?_
  exact rR rfl rN hsubD2 ⟨rfl,by rw[←hW];simp only[zAs] at h3 ⊢;exact h3⟩
 rw[if_neg h1] at hW
 refine oC rfl (fun hc=>absurd (zt hc) h1) (fun _=>?_)
 refine gai ?_
 by_cases h2:op=[38,38]
 ·rw[if_pos h2] at hW
  refine oC rfl (fun _=>?_) (fun hc=>absurd h2 (zf hc))
  refine gaj ?_
  refine oS (sL [_] rfl (elemsOk_strs [_]) rfl rfl rfl ?_) rfl
  refine oS (sL [_,_] rfl (elemsOk_strs [_,_]) rfl rfl rfl ?_) rfl
  refine oS (S.callTV (f:=220) (F:=[]) [_,_] rfl rfl permN (hBT [[48]] [[60],[48]] rfl rfl (by rw[←hW] at hr;simp only[zLa] at hr ⊢;omega)) ?_) rfl
  rintro H1 ⟨H2,rfl,h2⟩
  refine gaa ?_
  refine oS (sL [_,_] rfl (elemsOk_strs [_,_]) rfl rfl rfl ?_) rfl
  refine oS (S.callT (H1:=H2) (F:=[_,_]) [_,_] rfl permR2 (put_spec h2 [[60],[42]] rfl (by rw[←hW] at hr;simp only[zLa] at hr ⊢;omega)) fun H3 h3=>?_) rfl
  refine gae ?_
  exact rR rfl rN hsubD2 ⟨rfl,by rw[←hW];simp only[zAs] at h3 ⊢;exact h3⟩
 rw[if_neg h2] at hW
 refine oC rfl (fun hc=>absurd (zt hc) h2) (fun _=>?_)
 refine gai ?_
 by_cases h3:op=[124,124]
 ·rw[if_pos h3] at hW
  refine oC rfl (fun _=>?_) (fun hc=>absurd h3 (zf hc))
  refine gaj ?_
  refine oS (sL [_,_] rfl (elemsOk_strs [_,_]) rfl rfl rfl ?_) rfl
  refine oS (sL [_,_] rfl (elemsOk_strs [_,_]) rfl rfl rfl ?_) rfl
  refine oS (S.callTV (f:=220) (F:=[]) [_,_] rfl rfl permN (hBT [[48],[48]] [[60],[48]] rfl rfl (by rw[←hW] at hr;simp only[zLa] at hr ⊢;omega)) ?_) rfl
  rintro H1 ⟨H2,rfl,h2⟩
  refine gaa ?_
  refine oS (sL [_,_,_] rfl (elemsOk_strs [_,_,_]) rfl rfl rfl ?_) rfl
  refine oS (S.callT (H1:=H2) (F:=[_,_]) [_,_] rfl permR2 (put_spec h2 [[60],[43],[60]] rfl (by rw[←hW] at hr;simp only[zLa] at hr ⊢;omega)) fun H3 h3=>?_) rfl
  refine gae ?_
  exact rR rfl rN hsubD2 ⟨rfl,by rw[←hW];simp only[zAs] at h3 ⊢;exact h3⟩
 rw[if_neg h3] at hW
 refine oC rfl (fun hc=>absurd (zt hc) h3) (fun _=>?_)
 refine gaa ?_
 refine oS (S.callTV (f:=220) (F:=[]) [_,_] rfl rfl permN (hBT [] [] rfl rfl (by rw[←hW] at hr;simp only[zLa] at hr ⊢;omega)) ?_) rfl
 rintro H1 ⟨H2,rfl,h2⟩
 generalize hX:ws++([]++exW c x++[]++exW c y)=wx at h2
 have hW2:wx++binW c op=ws++W:=by rw[←hW,←hX];simp only[zAs]
 have hlw:=congrArg List.length hW2
 rw[zLa,zLa] at hlw
 unfold binW at hW2 hlw
 refine gab ?_
 by_cases g1:op=[62]
 ·rw[if_pos g1] at hW2 hlw
  refine oC rfl (fun _=>?_) (fun hc=>absurd g1 (zf hc))
  refine gaa ?_
  refine oS (S.callT (H1:=H2) (F:=[_,_]) [_] rfl permR2 (greater_spec hG hk h2 zo) fun H3 h3=>?_) rfl
  refine gad ?_
  exact rO rfl rN hsubD2 ⟨rfl,by rw[←hW2];exact h3⟩
 rw[if_neg g1] at hW2 hlw
 refine oC rfl (fun hc=>absurd (zt hc) g1) (fun _=>?_)
 refine gai ?_
 by_cases g2:op=[60,61]
 ·rw[if_pos g2] at hW2 hlw
  rw[zLa] at hlw
  refine oC rfl (fun _=>?_) (fun hc=>absurd g2 (zf hc))
  refine gaa ?_
  refine oS (S.callT (H1:=H2) (F:=[_,_]) [_] rfl permR2 (greater_spec hG hk h2 zo) fun H3 h3=>?_) rfl
  refine gaa ?_
  refine oS (sL [_,_] rfl (elemsOk_strs [_,_]) rfl rfl rfl ?_) rfl
  refine oS (S.callT (H1:=H3) (F:=[_,_]) [_,_] rfl permR2 (put_spec h3 [[49],[94]] rfl (by rw[zLa];omega)) fun H4 h4=>?_) rfl
  refine gad ?_
  exact rO rfl rN hsubD2 ⟨rfl,by rw[←hW2,←zAs];exact h4⟩
 rw[if_neg g2] at hW2 hlw
 refine oC rfl (fun hc=>absurd (zt hc) g2) (fun _=>?_)
 refine gai ?_
 by_cases g3:op=[62,61]
 ·rw[if_pos g3] at hW2 hlw
  refine oC rfl (fun _=>?_) (fun hc=>absurd g3 (zf hc))
  refine gaa ?_
  refine oS (sL [_,_,_] rfl (elemsOk_strs [_,_,_]) rfl rfl rfl ?_) rfl
  refine oS (S.callT (H1:=H2) (F:=[_,_]) [_,_] rfl permR2 (put_spec h2 [[60],[49],[94]] rfl zo) fun H3 h3=>?_) rfl
  refine gad ?_
  exact rO rfl rN hsubD2 ⟨rfl,by rw[←hW2];exact h3⟩
 rw[if_neg g3] at hW2 hlw
 refine oC rfl (fun hc=>absurd (zt hc) g3) (fun _=>?_)
 refine gai ?_
 by_cases g4:op=[61,61]
 ·rw[if_pos g4] at hW2 hlw
  refine oC rfl (fun _=>?_) (fun hc=>absurd g4 (zf hc))
  refine gaa ?_
  refine oS (sL [_,_,_] rfl (elemsOk_strs [_,_,_]) rfl rfl rfl ?_) rfl
  refine oS (S.callT (H1:=H2) (F:=[_,_]) [_,_] rfl permR2 (put_spec h2 [[94],[49],[60]] rfl zo) fun H3 h3=>?_) rfl
  refine gad ?_
  exact rO rfl rN hsubD2 ⟨rfl,by rw[←hW2];exact h3⟩
 rw[if_neg g4] at hW2 hlw
 refine oC rfl (fun hc=>absurd (zt hc) g4) (fun _=>?_)
 refine gab ?_
 refine oS (sL [_] rfl (elemsOk_strs [_]) rfl rfl rfl ?_) rfl
 refine oS (S.callT (H1:=H2) (F:=[_,_]) [_,_] rfl permR2 (put_spec h2 [op] rfl zo) fun H3 h3=>?_) rfl
 refine gad ?_
 exact rO rfl rN hsubD2 ⟨rfl,by rw[←hW2];exact h3⟩
theorem expr_spec (hG:GW B0 w0) {k:TB} {own:Nm} {c:CC} (hk:TBok k c own) {env:CEnv} (hE:EnvOk env):∀ m:Nat,m≤2000000→ExprT B0 w0 k own c env m
 |0,_=>fun x ws n H h=>by have:=ndE_pos x;omega
 |m+1,hm6=>by
  have ih:=expr_spec hG hk hE m zo
  intro x ws n H hnd hnum herr h hr
  obtain ⟨op,num,name,args⟩:=x
  rw[ndE] at hnd
  rw[numE] at hnum
  obtain ⟨hnum,hna⟩:=hnum
  have hal:=ndEs_len args
  have hall:(args.map encE).length=args.length:=zLm _
  rw[errE] at herr
  by_cases hop:opnds op = -1∨opnds op=args.length
  rotate_left
  ·rw[if_neg hop] at herr;cases herr
  rw[if_pos hop] at herr
  obtain ⟨he1,he2⟩:=orE_zero.1 herr
  have hW:exW c (Ex.mk op num name args)=opW c op num name (exWl c args):=by rw[exW]
  have hone:opnds op=1→∃ x,args=[x]:=fun h1=>one_arg (env:=env) (name:=name) hop h1
  rw[encE_mk]
  refine cI Tryz.func107 rfl (n:=98) rfl rfl rfl ?_
  refine gaf ?_
  refine oS (S.box rfl fun b3=>?_) rfl
  refine gaa ?_
  by_cases h1:op=[110,117,109]
  ·have hW1:exW c (Ex.mk op num name args)=[decDigits num]:=by rw[hW];subst h1;rfl
   rw[hW1] at hr ⊢
   refine oC rfl (fun _=>?_) (fun hc=>absurd h1 (zf hc))
   refine gab ?_
   refine oS (sF [_,_] (by show [int .u64 (IntKind.u64.wrap (num:Int)),_]=[int .u64 (num:Nat),int .i64 10];rw[wrap_u64n hnum];rfl) (fmtUint_spec hG num (by have:num<4294967296:=hnum;omega)) ?_) rfl
   refine oS (sL [_] rfl (elemsOk_strs [_]) rfl rfl rfl ?_) rfl
   refine oS (S.callT (H1:=H) (F:=[_]) [_,_] rfl permR (put_spec h [decDigits num] rfl hr) fun H2 h2=>?_) rfl
   refine gad ?_
   exact rO rfl rN hsubD1 ⟨rfl,h2⟩
  refine oC rfl (fun hc=>absurd (zt hc) h1) (fun _=>?_)
  refine gai ?_
  by_cases h2:op=[118,97,114]
  ·have hW1:exW c (Ex.mk op num name args)=[c.sc name,[64]]:=by rw[hW];subst h2;rfl
   have hsc:scalarE env name=0:=by rw[←he2];subst h2;rfl
   have hnl:=hE.sc name hsc
   rw[hW1] at hr ⊢
   refine oC rfl (fun _=>?_) (fun hc=>absurd h2 (zf hc))
   refine gaa ?_
   refine oS (S.callS (H1:=H) (F:=[_]) [_,_] rfl permR (scalar_spec hG hk h name zo) fun H2 h2=>?_) rfl
   refine oS (sL [_,_] rfl (elemsOk_strs [_,_]) rfl rfl rfl ?_) rfl
   refine oS (S.callT (H1:=H2) (F:=[_]) [_,_] rfl permR (put_spec h2 [c.sc name,[64]] rfl hr) fun H3 h3=>?_) rfl
   refine gad ?_
   exact rO rfl rN hsubD1 ⟨rfl,h3⟩
  refine oC rfl (fun hc=>absurd (zt hc) h2) (fun _=>?_)
  refine gai ?_
  by_cases h3:op=[101,108,101,109]
  ·obtain ⟨x,rfl⟩:=hone (by subst h3;rfl)
   have hW1:exW c (Ex.mk op num name [x])=[c.ar name]++(exW c x++[[43],[64]]):=by rw[hW,exWl_cons,exWl_nil];subst h3;rfl
   rw[hW1] at hr ⊢
   simp only[zLa,zLc,zLn] at hr
   rw[errEs] at he1
   rw[numEs] at hna
   rw[ndEs] at hnd
   have hex:=(orE_zero.1 he1).1
   obtain ⟨a,ha1,ha2,ha3⟩:=hk.ar name
   refine oC rfl (fun _=>?_) (fun hc=>absurd h3 (zf hc))
   refine gau ?_
   have h0:=h
   obtain ⟨v,Hv,hacc,rfl⟩:=h
   refine LCode.draw (m:=11) rfl [exB b3 op num name [x]] ?_
   refine aT 0 rfl rfl (pM (lv:=.atom _) rfl) ?_
   refine aT 1 rfl rfl (pM (lv:=.atom _) rfl) ?_
   refine aT 2 rfl rfl (pN rfl) ?_
   refine aT 3 rfl rfl (pF rfl) ?_
   refine aT 5 rfl rfl (pF rfl) ?_
   refine aT 6 rfl rfl (pL (c:=.atom _) rfl zm0 rfl) ?_
   refine LAny.late ?_ zhp
   refine lO 4 (lH rfl rfl (pL (c:=.atom _) rfl zm1 rfl) ?_)
   refine lO 7 (lH rfl rfl (Pure.kvOr rfl rfl zm3 ha3) ?_)
   refine lO 8 (lS (H1:=[]) rfl (.inl rfl) rfl zpr zhp (sF [_] rfl (itoa_spec hG a zo) ?_))
   rw[←ha2]
   refine lO 9 (lS (H1:=[]) rfl (.inl rfl) rfl zpr zhp (sL [_] rfl (elemsOk_strs [_]) rfl rfl rfl ?_))
   refine lO 10 (lS (F:=[exB b3 op num name [x]]) rfl (.inl rfl) rfl permR zhr (LStep.callT [_,_] rfl (put_spec h0 [c.ar name] rfl (by simp only[zLc,zLn];omega)) fun H2 h2=>?_))
   refine lD zk ?_
   refine qN ?_
   refine LCode.weak hsubRot1 ?_
   refine gaa ?_
   refine oP (xR (el':=encE x) (cs:=[_,_,_,_]) rfl rfl zDd rfl rfl rfl) rfl ?_
   refine gaq ?_
   refine oS (S.callT (H1:=H2) (F:=[_]) [_,_] rfl permR (ih x _ n H2 zo hna.1 hex h2 (by simp only[zLa,zLc,zLn];omega)) fun H3 h3=>?_) rfl
   refine gal ?_
   refine oS (sL [_,_] rfl (elemsOk_strs [_,_]) rfl rfl rfl ?_) rfl
   refine oS (S.callT (H1:=H3) (F:=[_]) [_,_] rfl permR (put_spec h3 [[43],[64]] rfl (by simp only[zLa,zLc,zLn];omega)) fun H4 h4=>?_) rfl
   refine gad ?_
   exact rO rfl rN hsubD1 ⟨rfl,by rw[zAs,zAs] at h4;exact h4⟩
  refine oC rfl (fun hc=>absurd (zt hc) h3) (fun _=>?_)
  refine gai ?_
  by_cases h4:op=[99,97,108,108]
  ·have hcl:callE env name args.length=0:=by rw[←he2];subst h4;rfl
   have hnl:=hE.call hcl
   have hW1:exW c (Ex.mk op num name args)=(exWl c args).flatten++(if name=[105,110] then [[44]] else if name=[111,117,116] then [[46],[48]] else [[38,102,95]++name,[58]]):=by rw[hW];subst h4;rfl
   rw[hW1] at hr ⊢
   rw[zLa] at hr
   refine oC rfl (fun _=>?_) (fun hc=>absurd h4 (zf hc))
   refine gaa ?_
   refine oS (S.callT (H1:=H) (F:=[_]) [_,_] rfl permR (all_spec ih args ws n H zo zo hna he1 h zo) fun H2 h2=>?_) rfl
   rw[←zAs]
   generalize hX:ws++(exWl c args).flatten=wx at h2 ⊢
   have hlx:=congrArg List.length hX
   rw[zLa] at hlx
   refine gaa ?_
   by_cases g1:name=[105,110]
   ·rw[if_pos g1] at hr ⊢
    refine oC rfl (fun _=>?_) (fun hc=>absurd g1 (zf hc))
    refine gaj ?_
    refine oS (sL [_] rfl (elemsOk_strs [_]) rfl rfl rfl ?_) rfl
    refine oS (S.callT (H1:=H2) (F:=[_]) [_,_] rfl permR (put_spec h2 [[44]] rfl zo) fun H3 h3=>?_) rfl
    refine gad ?_
    exact rO rfl rN hsubD1 ⟨rfl,h3⟩
   rw[if_neg g1] at hr ⊢
   refine oC rfl (fun hc=>absurd (zt hc) g1) (fun _=>?_)
   refine gai ?_
   by_cases g2:name=[111,117,116]
   ·rw[if_pos g2] at hr ⊢
    refine oC rfl (fun _=>?_) (fun hc=>absurd g2 (zf hc))
    refine gaj ?_
    refine oS (sL [_,_] rfl (elemsOk_strs [_,_]) rfl rfl rfl ?_) rfl
    refine oS (S.callT (H1:=H2) (F:=[_]) [_,_] rfl permR (put_spec h2 [[46],[48]] rfl zo) fun H3 h3=>?_) rfl
    refine gad ?_
    exact rO rfl rN hsubD1 ⟨rfl,h3⟩
   rw[if_neg g2] at hr ⊢
   refine oC rfl (fun hc=>absurd (zt hc) g2) (fun _=>?_)
   refine gab ?_
   refine oS (sL [_,_] rfl (elemsOk_strs [_,_]) rfl rfl rfl ?_) rfl
   refine oS (S.callT (H1:=H2) (F:=[_]) [_,_] rfl permR (put_spec h2 [[38,102,95]++name,[58]] rfl zo) fun H3 h3=>?_) rfl
   refine gad ?_
   exact rO rfl rN hsubD1 ⟨rfl,h3⟩
  refine oC rfl (fun hc=>absurd (zt hc) h4) (fun _=>?_)
  refine gai ?_
  by_cases h5:op=[110,101,103]
  ·obtain ⟨x,rfl⟩:=hone (by subst h5;rfl)
   have hW1:exW c (Ex.mk op num name [x])=[[48]]++(exW c x++[[45]]):=by rw[hW,exWl_cons,exWl_nil];subst h5;rfl
   rw[hW1] at hr ⊢
   simp only[zLa,zLc,zLn] at hr
   rw[errEs] at he1
   rw[numEs] at hna
   rw[ndEs] at hnd
   have hex:=(orE_zero.1 he1).1
   refine oC rfl (fun _=>?_) (fun hc=>absurd h5 (zf hc))
   refine gaj ?_
   refine oS (sL [_] rfl (elemsOk_strs [_]) rfl rfl rfl ?_) rfl
   refine oS (S.callT (H1:=H) (F:=[_]) [_,_] rfl permR (put_spec h [[48]] rfl (by simp only[zLc,zLn];omega)) fun H2 h2=>?_) rfl
   refine gaa ?_
   refine oP (xR (el':=encE x) (cs:=[_,_,_,_]) rfl rfl zDd rfl rfl rfl) rfl ?_
   refine gaq ?_
   refine oS (S.callT (H1:=H2) (F:=[_]) [_,_] rfl permR (ih x _ n H2 zo hna.1 hex h2 (by simp only[zLa,zLc,zLn];omega)) fun H3 h3=>?_) rfl
   refine gal ?_
   refine oS (sL [_] rfl (elemsOk_strs [_]) rfl rfl rfl ?_) rfl
   refine oS (S.callT (H1:=H3) (F:=[_]) [_,_] rfl permR (put_spec h3 [[45]] rfl (by simp only[zLa,zLc,zLn];omega)) fun H4 h4=>?_) rfl
   refine gad ?_
   exact rO rfl rN hsubD1 ⟨rfl,by rw[zAs,zAs] at h4;exact h4⟩
  refine oC rfl (fun hc=>absurd (zt hc) h5) (fun _=>?_)
  refine gai ?_
  by_cases h6:op=[110,111,116]
  ·obtain ⟨x,rfl⟩:=hone (by subst h6;rfl)
   have hW1:exW c (Ex.mk op num name [x])=exW c x++[[49],[60]]:=by rw[hW,exWl_cons,exWl_nil];subst h6;rfl
   rw[hW1] at hr ⊢
   simp only[zLa,zLc,zLn] at hr
   rw[errEs] at he1
   rw[numEs] at hna
   rw[ndEs] at hnd
   have hex:=(orE_zero.1 he1).1
   refine oC rfl (fun _=>?_) (fun hc=>absurd h6 (zf hc))
   refine gaa ?_
   refine oP (xR (el':=encE x) (cs:=[_,_,_,_]) rfl rfl zDd rfl rfl rfl) rfl ?_
   refine gaq ?_
   refine oS (S.callT (H1:=H) (F:=[_]) [_,_] rfl permR (ih x _ n H zo hna.1 hex h zo) fun H3 h3=>?_) rfl
   refine gal ?_
   refine oS (sL [_,_] rfl (elemsOk_strs [_,_]) rfl rfl rfl ?_) rfl
   refine oS (S.callT (H1:=H3) (F:=[_]) [_,_] rfl permR (put_spec h3 [[49],[60]] rfl (by simp only[zLa,zLc,zLn];omega)) fun H4 h4=>?_) rfl
   refine gad ?_
   exact rO rfl rN hsubD1 ⟨rfl,by rw[zAs] at h4;exact h4⟩
  refine oC rfl (fun hc=>absurd (zt hc) h6) (fun _=>?_)
  have htwo:opnds op=2:=by
   unfold opnds at hop ⊢
   rw[if_neg (fun h=>h.elim h1 h2),if_neg (fun h=>h.elim h3 (fun h=>h.elim h5 h6)),if_neg (show ¬ op=nCall from h4)] at hop ⊢
   split
   ·rfl
   ·rename_i hb
    rw[if_neg hb] at hop
    omega
  obtain ⟨x,y,rfl⟩:=two_args hop htwo
  have hW2:=exW_two c num name x y h1 h2 h3 h4 h5 h6
  rw[hW2] at hr ⊢
  simp only[errEs] at he1
  simp only[numEs] at hna
  simp only[ndEs] at hnd
  have hex:=orE_zero.1 he1
  refine gab ?_
  refine oS (S.callT (H1:=H) (F:=[_]) [_,_] rfl permR (binary_spec hG hk ih op num name x y ws n H zo zo hna.1 hna.2.1 hex.1 (orE_zero.1 hex.2).1 h hr) fun H3 h3=>?_) rfl
  refine gad ?_
  exact rO rfl rN hsubD1 ⟨rfl,h3⟩
end
end Go.Proofs.YtpbbgkoalnonoaaGreatDoor.Cmp
namespace Go.Proofs.YtpbbgkoalnonoaaGreatDoor.Cmp
open Go.GL Go.RowKit Go.Stele
open Go.Lib (decDigits itoa join)
mutual
theorem stW_lab (c:CC):∀ (s:Sm) (n:Nat),(stW c n s).2≤n+2 * ndS s
 |.mk kind name index value thn els,n=>by
  have ht:=fun n=>stWs_lab c thn n
  have he:=fun n=>stWs_lab c els n
  rw[ndS]
  unfold stW
  by_cases k1:kind=1
  ·rw[if_pos k1];simp only;omega
  rw[if_neg k1]
  by_cases k2:kind=2
  ·rw[if_pos k2];simp only;omega
  rw[if_neg k2]
  by_cases k3:kind=3
  ·rw[if_pos k3]
   cases els with
   |nil=>have:=ht (n+1);simp only;omega
   |cons a r=>have h1:=ht (n+2);have h2:=he (stWs c (n+2) thn).2;simp only;omega
  rw[if_neg k3]
  by_cases k4:kind=4
  ·have h1:=ht (n+2);rw[if_pos k4];simp only;omega
  rw[if_neg k4]
  by_cases k5:kind=5
  ·rw[if_pos k5];simp only;omega
  rw[if_neg k5]
  by_cases k6:kind=6
  ·rw[if_pos k6];simp only;omega
  rw[if_neg k6]
  by_cases k7:kind=7
  ·rw[if_pos k7];simp only;omega
  ·rw[if_neg k7];simp only;omega
theorem stWs_lab (c:CC):∀ (l:List Sm) (n:Nat),(stWs c n l).2≤n+2 * ndSs l
 |[],n=>by rw[stWs,ndSs];simp
 |s::l,n=>by
  have h1:=stW_lab c s n
  have h2:=stWs_lab c l (stW c n s).2
  rw[stWs,ndSs]
  simp only
  omega
end
theorem stWs_cons (c:CC) (n:Nat) (s:Sm) (l:List Sm):stWs c n (s::l)=((stW c n s).1++(stWs c (stW c n s).2 l).1,(stWs c (stW c n s).2 l).2):=by rw[stWs]
theorem stWs_nil (c:CC) (n:Nat):stWs c n []=([],n):=by rw[stWs]
theorem headD_one (x:Ex):([x]:List Ex).headD default=x:=rfl
theorem ndSs_mem:∀ {l:List Sm} {x:Sm},x∈l→ndS x≤ndSs l
 |g::l,f,h=>by
  rw[ndSs]
  rcases zMi.1 h with rfl|h
  ·omega
  ·have:=ndSs_mem h
   omega
abbrev stB (b:Nat) (kind:Int) (name:Nm) (index value:List Ex) (thn els:List Sm):Nat×LObj:=(b,.cells 102 [int .i64 kind,str name,.list (index.map encE),.list (value.map encE),.list (thn.map encS),.list (els.map encS)])
attribute [local irreducible] LOps LCode LStep LCalls Go.GL.Pure QThen QBlock RetPost LQ LAny LLate LLateOp LS
section
variable {B0:Nat} {w0:World}
def BlockT (B0:Nat) (w0:World) (k:TB) (own:Nm) (c:CC) (env:CEnv) (m:Nat):Prop:=∀ (l:List Sm) (ws:List Wd) (n:Nat) (H:Heap),ndSs l≤m→numSs l→errSs env l=0→TrH k own ws n H→ws.length+(stWs c n l).1.length≤1000000000→n+2 * ndSs l≤1000000000→LCalls (KC B0 w0) 53 [ptr k.tb 0,.list (l.map encS)] H (PostT (TrH k own (ws++(stWs c n l).1) (stWs c n l).2))
theorem branch_spec (hG:GW B0 w0) {k:TB} {own:Nm} {c:CC} {env:CEnv} (hX:ExprT B0 w0 k own c env 2000000) {m:Nat} (ih:BlockT B0 w0 k own c env m) (name:Nm) (index:List Ex) (v:Ex) (thn els:List Sm) (ws:List Wd) (n:Nat) (H:Heap) (hv:ndE v≤2000000) (hm:ndSs thn+ndSs els≤m) (h2m:els.length≤2000000)
  (nv:numE v) (nt:numSs thn) (ne:numSs els) (ev:errE env v=0) (et:errSs env thn=0) (ee:errSs env els=0) (h:TrH k own ws n H) (hr:ws.length+(stW c n (.mk 3 name index [v] thn els)).1.length≤1000000000) (hN:n+2+2 * (ndSs thn+ndSs els)≤1000000000) :
  LCalls (KC B0 w0) 108 [ptr k.tb 0,encS (.mk 3 name index [v] thn els)] H (PostT (TrH k own (ws++(stW c n (.mk 3 name index [v] thn els)).1) (stW c n (.mk 3 name index [v] thn els)).2)):=by
 have hlt:=stWs_lab c thn (n+2)
 have hlab:∀ i:Nat,i≤1000000001→(labW i).length≤11:=fun i hi=>lab_len zo
 have hle:(els.map encS).length=els.length:=zLm _
 rw[encS_mk]
 refine cI Tryz.func108 rfl (n:=65) rfl rfl rfl ?_
 refine gaf ?_
 refine oS (S.box rfl fun b3=>?_) rfl
 refine gaa ?_
 refine oS (S.callS (H1:=H) (F:=[_]) [_] rfl permR (label_spec hG h zo) fun H1 h1=>?_) rfl
 have hl0:=hlab n zo
 refine gaa ?_
 cases els with
 |nil=>
  have hS:stW c n (.mk 3 name index [v] thn [])=(exW c v++([38::labW n,[63]]++((stWs c (n+1) thn).1++[labW n++[58]])),(stWs c (n+1) thn).2):=by
   unfold stW;rw[if_neg zDd,if_neg zDd,if_pos rfl]
   simp only[headD_one,zAs]
  rw[hS] at hr ⊢
  simp only[zLa,zLc,zLn] at hr
  refine oC rfl (fun _=>?_) (fun hc=>by cases hc)
  refine gaa ?_
  refine oP (xR (el':=encE v) (cs:=[_,_,_,_]) rfl rfl zDd rfl rfl rfl) rfl ?_
  refine gaq ?_
  refine oS (S.callT (H1:=H1) (F:=[_]) [_,_] rfl permR (hX v ws (n+1) H1 hv nv ev h1 zo) fun H2 h2=>?_) rfl
  refine gab ?_
  refine oS (sL [_,_] rfl (elemsOk_strs [_,_]) rfl rfl rfl ?_) rfl
  refine oS (S.callT (H1:=H2) (F:=[_]) [_,_] rfl permR (put_spec h2 [38::labW n,[63]] rfl (by simp only[zLa,zLc,zLn];omega)) fun H3 h3=>?_) rfl
  refine gaa ?_
  refine oS (S.callT (H1:=H3) (F:=[_]) [_,_] rfl permR (ih thn _ (n+1) H3 zo nt et h3 (by simp only[zLa,zLc,zLn];omega) zo) fun H4 h4=>?_) rfl
  refine gab ?_
  refine oS (sL [_] rfl (elemsOk_strs [_]) rfl rfl rfl ?_) rfl
  refine oS (S.callT (H1:=H4) (F:=[_]) [_,_] rfl permR (put_spec h4 [labW n++[58]] rfl (by simp only[zLa,zLc,zLn];omega)) fun H5 h5=>?_) rfl
  refine gae ?_
  exact rR rfl rN hsubD1 ⟨rfl,by simp only[zAs] at h5 ⊢;exact h5⟩
 |cons s0 r0=>
  have hS:stW c n (.mk 3 name index [v] thn (s0::r0))=(exW c v++([38::labW n,[63]]++((stWs c (n+2) thn).1++([[48],38::labW (n+1),[63],labW n++[58]]++((stWs c (stWs c (n+2) thn).2 (s0::r0)).1++[labW (n+1)++[58]])))),(stWs c (stWs c (n+2) thn).2 (s0::r0)).2):=by
   unfold stW;rw[if_neg zDd,if_neg zDd,if_pos rfl]
   simp only[headD_one,zAs]
  rw[hS] at hr ⊢
  simp only[zLa,zLc,zLn] at hr
  have hl1:=hlab (n+1) zo
  generalize hels:s0::r0=els at *
  have hne:¬ ((els.map encS).length:Int)=0:=by
   rw[←hels]
   simp only[zLm,zLc]
   omega
  refine oC rfl (fun hc=>absurd (zt hc) hne) (fun _=>?_)
  refine gaa ?_
  refine oS (S.callS (H1:=H1) (F:=[_]) [_] rfl permR (label_spec hG h1 zo) fun H1 h1=>?_) rfl
  refine gaa ?_
  refine oP (xR (el':=encE v) (cs:=[_,_,_,_]) rfl rfl zDd rfl rfl rfl) rfl ?_
  refine gaq ?_
  refine oS (S.callT (H1:=H1) (F:=[_]) [_,_] rfl permR (hX v ws (n+1+1) H1 hv nv ev h1 zo) fun H2 h2=>?_) rfl
  refine gab ?_
  refine oS (sL [_,_] rfl (elemsOk_strs [_,_]) rfl rfl rfl ?_) rfl
  refine oS (S.callT (H1:=H2) (F:=[_]) [_,_] rfl permR (put_spec h2 [38::labW n,[63]] rfl (by simp only[zLa,zLc,zLn];omega)) fun H3 h3=>?_) rfl
  refine gaa ?_
  refine oS (S.callT (H1:=H3) (F:=[_]) [_,_] rfl permR (ih thn _ (n+2) H3 zo nt et h3 (by simp only[zLa,zLc,zLn];omega) zo) fun H4 h4=>?_) rfl
  refine gab ?_
  refine oS (sL [_,_,_,_] rfl (elemsOk_strs [_,_,_,_]) rfl rfl rfl ?_) rfl
  refine oS (S.callT (H1:=H4) (F:=[_]) [_,_] rfl permR (put_spec h4 [[48],38::labW (n+1),[63],labW n++[58]] rfl (by simp only[zLa,zLc,zLn];omega)) fun H5 h5=>?_) rfl
  refine gaa ?_
  refine oS (S.callT (H1:=H5) (F:=[_]) [_,_] rfl permR (ih els _ _ H5 zo ne ee h5 (by simp only[zLa,zLc,zLn];omega) zo) fun H6 h6=>?_) rfl
  refine gab ?_
  refine oS (sL [_] rfl (elemsOk_strs [_]) rfl rfl rfl ?_) rfl
  refine oS (S.callT (H1:=H6) (F:=[_]) [_,_] rfl permR (put_spec h6 [labW (n+1)++[58]] rfl (by simp only[zLa,zLc,zLn];omega)) fun H7 h7=>?_) rfl
  refine gae ?_
  exact rO rfl rN hsubD1 ⟨rfl,by simp only[zAs] at h7 ⊢;exact h7⟩
theorem loop_spec (hG:GW B0 w0) {k:TB} {own:Nm} {c:CC} {env:CEnv} (hX:ExprT B0 w0 k own c env 2000000) {m:Nat} (ih:BlockT B0 w0 k own c env m) (name:Nm) (index:List Ex) (v:Ex) (thn els:List Sm) (ws:List Wd) (n:Nat) (H:Heap) (hv:ndE v≤2000000) (hm:ndSs thn≤m)
  (nv:numE v) (nt:numSs thn) (ev:errE env v=0) (et:errSs env thn=0) (h:TrH k own ws n H) (hr:ws.length+(stW c n (.mk 4 name index [v] thn els)).1.length≤1000000000) (hN:n+2+2 * ndSs thn≤1000000000) :
  LCalls (KC B0 w0) 109 [ptr k.tb 0,encS (.mk 4 name index [v] thn els)] H (PostT (TrH k own (ws++(stW c n (.mk 4 name index [v] thn els)).1) (stW c n (.mk 4 name index [v] thn els)).2)):=by
 have hl0:(labW n).length≤11:=lab_len zo
 have hl1:(labW (n+1)).length≤11:=lab_len zo
 have hS:stW c n (.mk 4 name index [v] thn els)=([labW n++[58]]++(exW c v++([38::labW (n+1),[63]]++((stWs c (n+2) thn).1++[[48],38::labW n,[63],labW (n+1)++[58]]))),(stWs c (n+2) thn).2):=by
  unfold stW;rw[if_neg zDd,if_neg zDd,if_neg zDd,if_pos rfl]
  simp only[headD_one,zAs]
 rw[hS] at hr ⊢
 simp only[zLa,zLc,zLn] at hr
 rw[encS_mk]
 refine cI Tryz.func109 rfl (n:=37) rfl rfl rfl ?_
 refine gaf ?_
 refine oS (S.box rfl fun b3=>?_) rfl
 refine gaa ?_
 refine oS (S.callS (H1:=H) (F:=[_]) [_] rfl permR (label_spec hG h zo) fun H1 h1=>?_) rfl
 refine gav ?_
 refine oS (S.callS (H1:=H1) (F:=[_]) [_] rfl permR (label_spec hG h1 zo) fun H1 h1=>?_) rfl
 refine gab ?_
 refine oS (sL [_] rfl (elemsOk_strs [_]) rfl rfl rfl ?_) rfl
 refine oS (S.callT (H1:=H1) (F:=[_]) [_,_] rfl permR (put_spec h1 [labW n++[58]] rfl (by simp only[zLa,zLc,zLn];omega)) fun H2 h2=>?_) rfl
 refine gaa ?_
 refine oP (xR (el':=encE v) (cs:=[_,_,_,_]) rfl rfl zDd rfl rfl rfl) rfl ?_
 refine gaq ?_
 refine oS (S.callT (H1:=H2) (F:=[_]) [_,_] rfl permR (hX v _ (n+1+1) H2 hv nv ev h2 (by simp only[zLa,zLc,zLn];omega)) fun H3 h3=>?_) rfl
 refine gab ?_
 refine oS (sL [_,_] rfl (elemsOk_strs [_,_]) rfl rfl rfl ?_) rfl
 refine oS (S.callT (H1:=H3) (F:=[_]) [_,_] rfl permR (put_spec h3 [38::labW (n+1),[63]] rfl (by simp only[zLa,zLc,zLn];omega)) fun H4 h4=>?_) rfl
 refine gaa ?_
 refine oS (S.callT (H1:=H4) (F:=[_]) [_,_] rfl permR (ih thn _ (n+2) H4 zo nt et h4 (by simp only[zLa,zLc,zLn];omega) zo) fun H5 h5=>?_) rfl
 refine gab ?_
 refine oS (sL [_,_,_,_] rfl (elemsOk_strs [_,_,_,_]) rfl rfl rfl ?_) rfl
 refine oS (S.callT (H1:=H5) (F:=[_]) [_,_] rfl permR (put_spec h5 [[48],38::labW n,[63],labW (n+1)++[58]] rfl (by simp only[zLa,zLc,zLn];omega)) fun H6 h6=>?_) rfl
 refine gae ?_
 exact rO rfl rN hsubD1 ⟨rfl,by simp only[zAs] at h6 ⊢;exact h6⟩
end
end Go.Proofs.YtpbbgkoalnonoaaGreatDoor.Cmp
namespace Go.Proofs.YtpbbgkoalnonoaaGreatDoor.Cmp
open Go.GL Go.RowKit Go.Stele
open Go.Lib (decDigits itoa join)
theorem form_idx1 {name:List UInt8} {index value:List Ex} {thn els:List Sm} (h:formS (.mk 2 name index value thn els)=true):∃ x,index=[x]:=by
 have h1:index.length=1:=by
  simp only[formS] at h
  repeat' (split at h)
  all_goals first
   |(simp only[zDe] at h;omega)
   |cases h
   |contradiction
 exact List.length_eq_one_iff.1 h1
theorem form_kind {kind:Int} {name:List UInt8} {index value:List Ex} {thn els:List Sm} (h:formS (.mk kind name index value thn els)=true):kind=1∨kind=2∨kind=3∨kind=4∨kind=5∨kind=6∨kind=7:=by
 simp only[formS] at h
 repeat' (split at h)
 all_goals first
  |omega
  |cases h
attribute [local irreducible] LOps LCode LStep LCalls Go.GL.Pure QThen QBlock RetPost LQ LAny LLate LLateOp LS
section
variable {B0:Nat} {w0:World}
theorem block_spec (hG:GW B0 w0) {k:TB} {own:Nm} {c:CC} (hk:TBok k c own) {env:CEnv} (hE:EnvOk env):∀ m:Nat,m≤2000000→BlockT B0 w0 k own c env m
 |0,_=>fun l ws n H hm hnum herr h hr hN=>by
  have:l=[]:=by
   cases l with
   |nil=>rfl
   |cons s r=>have:=ndS_pos s;rw[ndSs] at hm;omega
  subst this
  rw[stWs_nil]
  refine cI Tryz.func53 rfl (n:=97) rfl rfl rfl ?_
  refine gaa ?_
  refine oL (fun kk ls H'=>kk=0∧ls=[(0,ptr k.tb 0),(6,.list []),(7,int .i64 0),(8,int .i64 0)]∧H'=H) ⟨0,_,_,⟨rfl,rfl,rfl⟩,⟨rfl,rfl,rfl,rfl,trivial⟩,zhR _⟩ ?_
  rintro kk ls H' ⟨rfl,rfl,rfl⟩ j hj
  refine gah ?_
  refine oC rfl (fun hc=>by cases hc) (fun hc=>?_)
  refine gad ?_
  exact rO hj rN zhr ⟨rfl,by rw[zLz];exact h⟩
 |m+1,hm6=>by
  have ih:=block_spec hG hk hE m zo
  have hX:ExprT B0 w0 k own c env 2000000:=expr_spec hG hk hE 2000000 (zNr _)
  intro l ws n H hm hnum herr h hr hN
  have hal:=ndSs_len l
  generalize hT:stWs c n l=T at hr ⊢
  refine cI Tryz.func53 rfl (n:=97) rfl rfl rfl ?_
  refine gaa ?_
  refine oL (fun kk ls H'=>∃ (pre l1:List Sm) (ws':List Wd) (n':Nat),l=pre++l1∧kk=l1.length∧ls=[(0,ptr k.tb 0),(6,.list (l.map encS)),(7,int .i64 ((l.map encS).length:Int)),(8,int .i64 (pre.length:Int))]∧TrH k own ws' n' H'∧ws'++(stWs c n' l1).1=ws++T.1∧(stWs c n' l1).2=T.2∧n'+2 * ndSs l1≤1000000000∧errSs env l1=0∧numSs l1)
   ⟨l.length,_,_,⟨[],l,ws,n,rfl,rfl,rfl,h,by rw[hT],by rw[hT],hN,herr,hnum⟩,⟨rfl,rfl,rfl,rfl,trivial⟩,zhR _⟩ ?_
  rintro kk ls H' ⟨pre,l1,ws',n',hLe,rfl,rfl,hTr,hW,hL,hN1,he1,hn1⟩ j hj
  have hb2:pre.length≤2000000:=by
   have:=congrArg List.length hLe
   rw[zLa] at this
   omega
  refine gah ?_
  refine oC rfl (fun hc=>?_) (fun hc=>?_)
  rotate_left
  ·have hlen:=zf hc
   rw[zLm,hLe,zLa] at hlen
   obtain rfl:l1=[]:=by
    cases l1 with
    |nil=>rfl
    |cons a l2=>simp at hlen;omega
   rw[stWs_nil,zLz] at hW
   rw[stWs_nil] at hL
   simp only at hL
   refine gad ?_
   exact rO hj rN zhr ⟨rfl,by rw[←hW,←hL];exact hTr⟩
  have hlen:=zt hc
  rw[zLm,hLe,zLa] at hlen
  obtain ⟨s,l2,rfl⟩:∃ a l2,l1=a::l2:=by
   cases l1 with
   |nil=>simp at hlen
   |cons a l2=>exact ⟨a,l2,rfl⟩
  have ham:ndS s≤ndSs l:=ndSs_mem (by rw[hLe];exact List.mem_append_right _ zMs)
  have hsl:=stW_lab c s n'
  rw[errSs] at he1
  rw[numSs] at hn1
  rw[ndSs] at hN1
  obtain ⟨hns,hn2⟩:=hn1
  obtain ⟨hes,he2⟩:=orE_zero.1 he1
  rw[stWs_cons] at hW hL
  simp only at hW hL
  rw[←zAs] at hW
  have hlw:=congrArg List.length hW
  rw[zLa,zLa,zLa] at hlw
  obtain ⟨kind,name,index,value,thn,els⟩:=s
  rw[errS] at hes
  by_cases hf:formS (.mk kind name index value thn els)=false
  ·rw[if_pos hf] at hes;cases hes
  rw[if_neg hf] at hes
  rw[Bool.not_eq_false] at hf
  obtain ⟨e1,hes⟩:=orE_zero.1 hes
  obtain ⟨e2,hes⟩:=orE_zero.1 hes
  obtain ⟨e3,hes⟩:=orE_zero.1 hes
  obtain ⟨e4,e5⟩:=orE_zero.1 hes
  rw[numS] at hns
  obtain ⟨n1,n2,n3,n4⟩:=hns
  rw[ndS] at ham hN1 hsl
  have hel:=ndSs_len els
  refine gak ?_
  refine oP (xR (el':=.agg [int .i64 kind,str name,.list (index.map encE),.list (value.map encE),.list (thn.map encS),.list (els.map encS)]) (cs:=[_,_,_,_,_,_]) rfl rfl zo (by
   have h9:=Chk.get_mid encS pre (Sm.mk kind name index value thn els) l2
   rw[encS_mk] at h9
   rw[hLe]
   exact h9) rfl rfl) rfl ?_
  refine gac ?_
  refine oS (sA fun b5=>?_) rfl
  refine gab ?_
  have fin:∀ {e:Env} {Hx:Heap} (W:List Wd) (nx:Nat) (H2:Heap),stW c n' (.mk kind name index value thn els)=(W,nx)→TrH k own (ws'++W) nx H2→HSub H2 Hx→e.ds=j.ds →
    (e.s 0=ptr k.tb 0∧e.s 6=.list (l.map encS)∧e.s 7=int .i64 ((l.map encS).length:Int)∧e.s 8=int .i64 ((pre.length:Int)+1)) →
    ∃ k' ls' H3,k'<(Sm.mk kind name index value thn els::l2).length∧(∃ (pre l1:List Sm) (ws':List Wd) (n':Nat),l=pre++l1∧k'=l1.length∧ls'=[(0,ptr k.tb 0),(6,.list (l.map encS)),(7,int .i64 ((l.map encS).length:Int)),(8,int .i64 (pre.length:Int))]∧TrH k own ws' n' H3∧ws'++(stWs c n' l1).1=ws++T.1∧(stWs c n' l1).2=T.2∧n'+2 * ndSs l1≤1000000000∧errSs env l1=0∧numSs l1)∧AllSlots e ls'∧HSub H3 Hx∧e.ds=[]:=by
   intro e Hx W nx H2 hS hT2 hsub hd hv
   rw[hS] at hW hL hsl
   simp only at hW hL hsl
   exact ⟨l2.length,_,H2,Nat.lt_succ_self _,⟨pre++[Sm.mk kind name index value thn els],l2,ws'++W,nx,by rw[hLe];simp,rfl,rfl,hT2,hW,hL,by omega,he2,hn2⟩,⟨hv.1,hv.2.1,hv.2.2.1,by rw[hv.2.2.2];exact int_eq (by simp),trivial⟩,hsub,hd.trans hj⟩
  by_cases k1:kind=1
  ·subst k1
   obtain ⟨x,rfl⟩:=Inp.form_value hf zDd
   rw[errEs] at e1
   rw[numEs] at n2
   rw[ndEs,ndEs] at ham hN1 hsl
   have hex:=(orE_zero.1 e1).1
   have hsc:scalarE env name=0:=by rw[if_pos rfl] at e3;exact e3
   have hnl:=hE.sc name hsc
   have hS:stW c n' (.mk 1 name index [x] thn els)=(exW c x++[c.sc name,[33]],n'):=by unfold stW;rw[if_pos rfl];rfl
   have hlS:=hlw
   rw[hS] at hlS
   simp only[zLa,zLc,zLn] at hlS
   refine oC rfl (fun _=>?_) (fun hc=>by cases hc)
   refine gaa ?_
   refine oP (xR (el':=encE x) (cs:=[_,_,_,_]) rfl rfl zDd rfl rfl rfl) rfl ?_
   refine gaq ?_
   refine oS (S.callT (H1:=H') (F:=[_]) [_,_] rfl permR (hX x ws' n' H' zo n2.1 hex hTr zo) fun H2 h2=>?_) rfl
   refine gaa ?_
   refine oS (S.callS (H1:=H2) (F:=[_]) [_,_] rfl permR (scalar_spec hG hk h2 name zo) fun H3 h3=>?_) rfl
   refine oS (sL [_,_] rfl (elemsOk_strs [_,_]) rfl rfl rfl ?_) rfl
   refine oS (S.callT (H1:=H3) (F:=[_]) [_,_] rfl permR (put_spec h3 [c.sc name,[33]] rfl (by simp only[zLa,zLc,zLn];omega)) fun H4 h4=>?_) rfl
   refine gal ?_
   exact fin _ _ H4 hS (by rw[←zAs];exact h4) hsubD1 rfl ⟨rfl,rfl,rfl,rfl⟩
  refine oC rfl (fun hc=>absurd (zt hc) k1) (fun _=>?_)
  refine gas ?_
  by_cases k2:kind=2
  ·subst k2
   obtain ⟨x,rfl⟩:=Inp.form_value hf zDd
   obtain ⟨y,rfl⟩:=form_idx1 hf
   rw[errEs] at e1 e2
   rw[numEs] at n1 n2
   rw[ndEs,ndEs,ndEs,ndEs] at ham hN1 hsl
   have hex:=(orE_zero.1 e1).1
   have hey:=(orE_zero.1 e2).1
   obtain ⟨a,ha1,ha2,ha3⟩:=hk.ar name
   have hS:stW c n' (.mk 2 name [y] [x] thn els)=(exW c x++([c.ar name]++(exW c y++[[43],[33]])),n'):=by unfold stW;rw[if_neg zDd,if_pos rfl];rfl
   have hlS:=hlw
   rw[hS] at hlS
   simp only[zLa,zLc,zLn] at hlS
   refine oC rfl (fun _=>?_) (fun hc=>by cases hc)
   refine gaa ?_
   refine oP (xR (el':=encE x) (cs:=[_,_,_,_]) rfl rfl zDd rfl rfl rfl) rfl ?_
   refine gaq ?_
   refine oS (S.callT (H1:=H') (F:=[_]) [_,_] rfl permR (hX x ws' n' H' zo n2.1 hex hTr zo) fun H2 h2=>?_) rfl
   refine gad ?_
   have h0:=h2
   obtain ⟨v,Hv,hacc,rfl⟩:=h2
   refine LCode.draw (m:=11) rfl [stB b5 2 name [y] [x] thn els] ?_
   refine aT 0 rfl rfl (pM (lv:=.atom _) rfl) ?_
   refine aT 1 rfl rfl (pM (lv:=.atom _) rfl) ?_
   refine aT 2 rfl rfl (pN rfl) ?_
   refine aT 3 rfl rfl (pF rfl) ?_
   refine aT 5 rfl rfl (pF rfl) ?_
   refine aT 6 rfl rfl (pL (c:=.atom _) rfl zm0 rfl) ?_
   refine LAny.late ?_ hsubP1
   refine lO 4 (lH rfl rfl (pL (c:=.atom _) rfl zm1 rfl) ?_)
   refine lO 7 (lH rfl rfl (Pure.kvOr rfl rfl zm3 ha3) ?_)
   refine lO 8 (lS (H1:=[]) rfl (.inl rfl) rfl zpr hsubP1 (sF [_] rfl (itoa_spec hG a zo) ?_))
   rw[←ha2]
   refine lO 9 (lS (H1:=[]) rfl (.inl rfl) rfl zpr hsubP1 (sL [_] rfl (elemsOk_strs [_]) rfl rfl rfl ?_))
   refine lO 10 (lS (F:=[stB b5 2 name [y] [x] thn els]) rfl (.inl rfl) rfl permR zhr (LStep.callT [_,_] rfl (put_spec h0 [c.ar name] rfl (by simp only[zLa,zLc,zLn];omega)) fun H2 h2=>?_))
   refine lD zk ?_
   refine qN ?_
   refine LCode.weak hsubRot1 ?_
   refine gaa ?_
   refine oP (xR (el':=encE y) (cs:=[_,_,_,_]) rfl rfl zDd rfl rfl rfl) rfl ?_
   refine gaq ?_
   refine oS (S.callT (H1:=H2) (F:=[_]) [_,_] rfl permR (hX y _ n' H2 zo n1.1 hey h2 (by simp only[zLa,zLc,zLn];omega)) fun H3 h3=>?_) rfl
   refine gal ?_
   refine oS (sL [_,_] rfl (elemsOk_strs [_,_]) rfl rfl rfl ?_) rfl
   refine oS (S.callT (H1:=H3) (F:=[_]) [_,_] rfl permR (put_spec h3 [[43],[33]] rfl (by simp only[zLa,zLc,zLn];omega)) fun H4 h4=>?_) rfl
   refine gal ?_
   exact fin _ _ H4 hS (by simp only[zAs] at h4 ⊢;exact h4) hsubD1 rfl ⟨rfl,rfl,rfl,rfl⟩
  refine oC rfl (fun hc=>absurd (zt hc) k2) (fun _=>?_)
  refine gas ?_
  by_cases k3:kind=3
  ·subst k3
   obtain ⟨x,rfl⟩:=Inp.form_value hf zDd
   rw[errEs] at e1
   rw[numEs] at n2
   rw[ndEs,ndEs] at ham hN1 hsl
   have hex:=(orE_zero.1 e1).1
   refine oC rfl (fun _=>?_) (fun hc=>by cases hc)
   refine gab ?_
   refine oS (S.callT (H1:=H') (F:=[_]) [_,_] (by show [ptr k.tb 0,_]=_;rw[encS_mk];rfl) permR (branch_spec hG hX ih name index x thn els ws' n' H' zo zo zo n2.1 n3 n4 hex e4 e5 hTr zo zo) fun H2 h2=>?_) rfl
   refine gal ?_
   exact fin _ _ H2 rfl h2 hsubD1 rfl ⟨rfl,rfl,rfl,rfl⟩
  refine oC rfl (fun hc=>absurd (zt hc) k3) (fun _=>?_)
  refine gas ?_
  by_cases k4:kind=4
  ·subst k4
   obtain ⟨x,rfl⟩:=Inp.form_value hf zDd
   rw[errEs] at e1
   rw[numEs] at n2
   rw[ndEs,ndEs] at ham hN1 hsl
   have hex:=(orE_zero.1 e1).1
   refine oC rfl (fun _=>?_) (fun hc=>by cases hc)
   refine gab ?_
   refine oS (S.callT (H1:=H') (F:=[_]) [_,_] (by show [ptr k.tb 0,_]=_;rw[encS_mk];rfl) permR (loop_spec hG hX ih name index x thn els ws' n' H' zo zo n2.1 n3 hex e4 hTr zo zo) fun H2 h2=>?_) rfl
   refine gal ?_
   exact fin _ _ H2 rfl h2 hsubD1 rfl ⟨rfl,rfl,rfl,rfl⟩
  refine oC rfl (fun hc=>absurd (zt hc) k4) (fun _=>?_)
  refine gas ?_
  by_cases k5:kind=5
  ·subst k5
   obtain ⟨x,rfl⟩:=Inp.form_value hf zDd
   rw[errEs] at e1
   rw[numEs] at n2
   rw[ndEs,ndEs] at ham hN1 hsl
   have hex:=(orE_zero.1 e1).1
   have hS:stW c n' (.mk 5 name index [x] thn els)=(exW c x++[[59]],n'):=by unfold stW;rw[if_neg zDd,if_neg zDd,if_neg zDd,if_neg zDd,if_pos rfl];rfl
   have hlS:=hlw
   rw[hS] at hlS
   simp only[zLa,zLc,zLn] at hlS
   refine oC rfl (fun _=>?_) (fun hc=>by cases hc)
   refine gaa ?_
   refine oP (xR (el':=encE x) (cs:=[_,_,_,_]) rfl rfl zDd rfl rfl rfl) rfl ?_
   refine gaq ?_
   refine oS (S.callT (H1:=H') (F:=[_]) [_,_] rfl permR (hX x ws' n' H' zo n2.1 hex hTr zo) fun H2 h2=>?_) rfl
   refine gal ?_
   refine oS (sL [_] rfl (elemsOk_strs [_]) rfl rfl rfl ?_) rfl
   refine oS (S.callT (H1:=H2) (F:=[_]) [_,_] rfl permR (put_spec h2 [[59]] rfl (by simp only[zLa,zLc,zLn];omega)) fun H4 h4=>?_) rfl
   refine gal ?_
   exact fin _ _ H4 hS (by rw[←zAs];exact h4) hsubD1 rfl ⟨rfl,rfl,rfl,rfl⟩
  refine oC rfl (fun hc=>absurd (zt hc) k5) (fun _=>?_)
  refine gas ?_
  by_cases k6:kind=6
  ·subst k6
   obtain ⟨x,rfl⟩:=Inp.form_value hf zDd
   rw[errEs] at e1
   rw[numEs] at n2
   rw[ndEs,ndEs] at ham hN1 hsl
   have hex:=(orE_zero.1 e1).1
   have hS:stW c n' (.mk 6 name index [x] thn els)=(exW c x++[c.t0,[33]],n'):=by unfold stW;rw[if_neg zDd,if_neg zDd,if_neg zDd,if_neg zDd,if_neg zDd,if_pos rfl];rfl
   have hlS:=hlw
   rw[hS] at hlS
   simp only[zLa,zLc,zLn] at hlS
   refine oC rfl (fun _=>?_) (fun hc=>by cases hc)
   refine gaa ?_
   refine oP (xR (el':=encE x) (cs:=[_,_,_,_]) rfl rfl zDd rfl rfl rfl) rfl ?_
   refine gaq ?_
   refine oS (S.callT (H1:=H') (F:=[_]) [_,_] rfl permR (hX x ws' n' H' zo n2.1 hex hTr zo) fun H2 h2=>?_) rfl
   refine gal ?_
   refine oS (S.callS (H1:=H2) (F:=[_]) [_,_] rfl permR (by
    have h9:=temporary_spec (B0:=B0) (w0:=w0) hG hk h2 0 zDd
    rw[Nat.add_zero,←hk.t0] at h9
    exact h9) fun H3 h3=>?_) rfl
   refine oS (sL [_,_] rfl (elemsOk_strs [_,_]) rfl rfl rfl ?_) rfl
   refine oS (S.callT (H1:=H3) (F:=[_]) [_,_] rfl permR (put_spec h3 [c.t0,[33]] rfl (by simp only[zLa,zLc,zLn];omega)) fun H4 h4=>?_) rfl
   refine gal ?_
   exact fin _ _ H4 hS (by rw[←zAs];exact h4) hsubD1 rfl ⟨rfl,rfl,rfl,rfl⟩
  refine oC rfl (fun hc=>absurd (zt hc) k6) (fun _=>?_)
  refine gas ?_
  have k7:kind=7:=by have:=form_kind hf;omega
  subst k7
  have hS:stW c n' (.mk 7 name index value thn els)=([[36]],n'):=by unfold stW;rw[if_neg zDd,if_neg zDd,if_neg zDd,if_neg zDd,if_neg zDd,if_neg zDd,if_pos rfl]
  have hlS:=hlw
  rw[hS] at hlS
  simp only[zLa,zLc,zLn] at hlS
  refine oC rfl (fun _=>?_) (fun hc=>by cases hc)
  refine gaj ?_
  refine oS (sL [_] rfl (elemsOk_strs [_]) rfl rfl rfl ?_) rfl
  refine oS (S.callT (H1:=H') (F:=[_]) [_,_] rfl permR (put_spec hTr [[36]] rfl (by simp only[zLa,zLc,zLn];omega)) fun H4 h4=>?_) rfl
  refine gal ?_
  exact fin _ _ H4 hS h4 hsubD1 rfl ⟨rfl,rfl,rfl,rfl⟩
end
end Go.Proofs.YtpbbgkoalnonoaaGreatDoor.Cmp
namespace Go.Proofs.YtpbbgkoalnonoaaGreatDoor.Cmp
open Go.GL Go.RowKit Go.Stele
open Go.Lib (decDigits itoa join)
abbrev parW (c:CC) (l:List Nm):List Wd:=l.flatMap fun p=>[c.sc p,[33]]
theorem parW_cons (c:CC) (p:Nm) (l:List Nm):parW c (p::l)=[c.sc p,[33]]++parW c l:=by
 unfold parW
 rw[List.flatMap_cons]
theorem fnWs_nil (cc:Nm→CC) (n:Nat):fnWs cc n []=([],n):=by rw[fnWs]
theorem fnWs_cons (cc:Nm→CC) (n:Nat) (f:FnD) (l:List FnD):fnWs cc n (f::l)=((fnW (cc f.name) n f).1++(fnWs cc (fnW (cc f.name) n f).2 l).1,(fnWs cc (fnW (cc f.name) n f).2 l).2):=by rw[fnWs]
theorem fnW_eq (c:CC) (n:Nat) (f:FnD):fnW c n f=([[102,95]++f.name++[58]]++(parW c f.params.reverse++((stWs c n f.body).1++[[48],[59]])),(stWs c n f.body).2):=by
 unfold fnW parW
 simp only[zAs]
theorem take_rev {l:List Nm} {i:Nat} (h:i<l.length):(l.take (i+1)).reverse=l[i]::(l.take i).reverse:=by
 rw[List.take_succ_eq_append_getElem h,List.reverse_append]
 rfl
structure FnT (k:TB) (cc:Nm→CC) (f:FnD):Prop where
 tb:TBok k (cc f.name) f.name
 name:f.name.length≤24
 params:∀ p∈f.params,p.length≤1000000
 num:numSs f.body
 env:∃ env,EnvOk env∧errSs env f.body=0
attribute [local irreducible] LOps LCode LStep LCalls Go.GL.Pure QThen QBlock RetPost LQ LAny LLate LLateOp LS
section
variable {B0:Nat} {w0:World}
theorem program_spec (hG:GW B0 w0) {k:TB} {cc:Nm→CC} (hsm:k.sc≤1000000000) (vars:List Nm) (arrays:List (Nm×Int)) (fs:List FnD) (hnd:ndFs fs≤2000000) (hf:∀ f∈fs,FnT k cc f) {own0:Nm} {c0:CC} (hk0:TBok k c0 own0) (H:Heap) (h:TrH k own0 [] 0 H)
  (hr:5+(fnWs cc 0 fs).1.length≤1000000000) :
  LCalls (KC B0 w0) 28 [ptr k.tb 0,Chk.encPrG vars arrays fs] H (PostT (fun H'=>∃ own n,TrH k own ([[38,102,95,109,97,105,110],[58],decDigits k.sc,[33],[36]]++(fnWs cc 0 fs).1) n H')):=by
 have hal:=ndFs_len fs
 have hall:(fs.map encFn).length=fs.length:=zLm _
 refine cI Tryz.func28 rfl (n:=57) rfl rfl rfl ?_
 refine gaf ?_
 refine oS (S.box rfl fun b3=>?_) rfl
 refine gaa ?_
 refine oS (S.callS (H1:=H) (F:=[_]) [_,_] rfl permR (by
  have h9:=temporary_spec (B0:=B0) (w0:=w0) hG hk0 h 0 zDd
  rw[Nat.add_zero] at h9
  exact h9) fun H1 h1=>?_) rfl
 refine oS (sL [_,_,_,_,_] rfl (elemsOk_strs [_,_,_,_,_]) rfl rfl rfl ?_) rfl
 refine oS (S.callT (H1:=H1) (F:=[_]) [_,_] rfl permR (put_spec h1 [[38,102,95,109,97,105,110],[58],decDigits k.sc,[33],[36]] rfl (by simp only[zLc,zLn];omega)) fun H2 h2=>?_) rfl
 rw[List.nil_append] at h2
 refine gaa ?_
 generalize hP:([[38,102,95,109,97,105,110],[58],decDigits k.sc,[33],[36]]:List Wd)=P5 at h2 ⊢
 have hP5:P5.length=5:=by rw[←hP];rfl
 clear hP
 generalize hT:fnWs cc 0 fs=T at hr ⊢
 refine oL (fun kk ls H'=>∃ (pre l1:List FnD) (ws':List Wd) (n':Nat) (own:Nm),fs=pre++l1∧kk=l1.length∧ls=[(0,ptr k.tb 0),(13,.list (fs.map encFn)),(14,int .i64 ((fs.map encFn).length:Int)),(15,int .i64 (pre.length:Int))]∧TrH k own ws' n' H'∧ws'++(fnWs cc n' l1).1=P5++T.1∧n'+2 * ndFs l1≤1000000000)
  ⟨fs.length,_,_,⟨[],fs,P5,0,own0,rfl,rfl,rfl,h2,by rw[hT],by omega⟩,⟨rfl,rfl,rfl,rfl,trivial⟩,hsubD1⟩ ?_
 rintro kk ls H' ⟨pre,l1,ws',n',own,hLe,rfl,rfl,hTr,hW,hN1⟩ j hj
 have hb2:pre.length≤2000000:=by
  have:=congrArg List.length hLe
  rw[zLa] at this
  omega
 refine gah ?_
 refine oC rfl (fun hc=>?_) (fun hc=>?_)
 rotate_left
 ·have hlen:=zf hc
  rw[zLm,hLe,zLa] at hlen
  obtain rfl:l1=[]:=by
   cases l1 with
   |nil=>rfl
   |cons a l2=>simp at hlen;omega
  rw[fnWs_nil,zLz] at hW
  refine gad ?_
  exact rO hj rN zhr ⟨rfl,own,n',by rw[←hW];exact hTr⟩
 have hlen:=zt hc
 rw[zLm,hLe,zLa] at hlen
 obtain ⟨f,l2,rfl⟩:∃ a l2,l1=a::l2:=by
  cases l1 with
  |nil=>simp at hlen
  |cons a l2=>exact ⟨a,l2,rfl⟩
 have hfm:f∈fs:=by rw[hLe];exact List.mem_append_right _ zMs
 have hnf:=ndFs_mem hfm
 obtain ⟨hk,hnm,hpm,hnum,env,hE,herr⟩:=hf f hfm
 rw[ndFs] at hN1
 have hbl:=stWs_lab (cc f.name) f.body n'
 have hpl:(f.params.map str).length=f.params.length:=zLm _
 unfold ndF at hnf hN1
 rw[fnWs_cons] at hW
 rw[fnW_eq] at hW
 simp only at hW
 have hlw:=congrArg List.length hW
 simp only[zLa,zLc,zLn] at hlw
 obtain ⟨v,Hv,hacc,rfl⟩:=hTr
 refine gak ?_
 refine oP (xR (el':=encFn f) (cs:=[_,_,_,_]) rfl rfl zo (by rw[hLe];exact Chk.get_mid encFn pre f l2) rfl rfl) rfl ?_
 refine gaq ?_
 refine oS (sA fun b5=>?_) rfl
 refine gab ?_
 first|(refine oS (sS (cs':=[_,_,_,_,_,_]) rfl zp1 rfl rfl rfl rfl rfl ?_) rfl)|skip
 refine gab ?_
 have h1:TrH k f.name ws' n' ((k.tb,.cells 64 [v,int .i64 (n':Nat),int .i64 (k.sc:Nat),.atom (.map (some k.sm)),.atom (.map (some k.am)),str f.name])::(k.sm,.map (kvs k.S) k.g1)::(k.am,.map (kvs k.A) k.g2)::Hv):=⟨v,Hv,hacc,rfl⟩
 refine LOps.weak (H':=(b5,.cells 59 [str f.name,.list (f.params.map str),.list (f.locals.map str),.list (f.body.map encS)])::(k.tb,.cells 64 [v,int .i64 (n':Nat),int .i64 (k.sc:Nat),.atom (.map (some k.sm)),.atom (.map (some k.am)),str f.name])::(k.sm,.map (kvs k.S) k.g1)::(k.am,.map (kvs k.A) k.g2)::Hv) ⟨[],by rw[zLz];exact List.Perm.swap _ _ _⟩ ?_
 generalize ((k.tb,.cells 64 [v,int .i64 (n':Nat),int .i64 (k.sc:Nat),.atom (.map (some k.sm)),.atom (.map (some k.am)),str f.name])::(k.sm,.map (kvs k.S) k.g1)::(k.am,.map (kvs k.A) k.g2)::Hv:Heap)=H1 at h1 ⊢
 refine oS (sL [_] rfl (elemsOk_strs [_]) rfl rfl rfl ?_) rfl
 refine oS (S.callT (H1:=H1) (F:=[_]) [_,_] rfl permR (put_spec h1 [[102,95]++f.name++[58]] rfl (by simp only[zLc,zLn];omega)) fun H2 h2=>?_) rfl
 refine gab ?_
 refine oL (fun kk ls H'=>∃ (i:Nat) (ws2:List Wd) (H3:Heap),i≤f.params.length∧kk=i∧ls=[(0,ptr k.tb 0),(5,ptr b5 0),(6,int .i64 ((i:Int)-1)),(13,.list (fs.map encFn)),(14,int .i64 ((fs.map encFn).length:Int)),(15,int .i64 (pre.length:Int))]∧H'=(b5,.cells 59 [str f.name,.list (f.params.map str),.list (f.locals.map str),.list (f.body.map encS)])::H3∧TrH k f.name ws2 n' H3∧ws2++parW (cc f.name) (f.params.take i).reverse=ws'++[[102,95]++f.name++[58]]++parW (cc f.name) f.params.reverse)
  ⟨f.params.length,_,_,⟨f.params.length,_,H2,zNr _,rfl,rfl,rfl,h2,by rw[List.take_length]⟩,⟨rfl,rfl,by rw[←hpl];rfl,rfl,rfl,rfl,trivial⟩,zhR _⟩ ?_
 rintro kk ls H' ⟨i,ws2,H3,hi,rfl,rfl,rfl,h3,hW3⟩ j2 hj2
 refine gab ?_
 refine oC rfl (fun hc=>?_) (fun hc=>?_)
 ·have hge:=zt hc
  obtain ⟨i,rfl⟩:∃ i',kk=i'+1:=⟨kk-1,by omega⟩
  have hlt:i<f.params.length:=by omega
  rw[take_rev hlt,parW_cons] at hW3
  have hlw3:=congrArg List.length hW3
  simp only[zLa,zLc,zLn] at hlw3
  have hpi:=hpm _ (List.getElem_mem hlt)
  refine gaa ?_
  refine oP (xR (el':=str f.params[i]) (cs:=[str f.params[i]]) rfl rfl zo (by rw[show (((i+1:Nat):Int)-1).toNat=i by omega,List.getElem?_map,List.getElem?_eq_getElem hlt];rfl) rfl rfl) rfl ?_
  refine gac ?_
  refine oS (S.callS (H1:=H3) (F:=[_]) [_,_] rfl permR (scalar_spec hG hk h3 f.params[i] zo) fun H4 h4=>?_) rfl
  refine oS (sL [_,_] rfl (elemsOk_strs [_,_]) rfl rfl rfl ?_) rfl
  refine oS (S.callT (H1:=H4) (F:=[_]) [_,_] rfl permR (put_spec h4 [(cc f.name).sc f.params[i],[33]] rfl (by simp only[zLc,zLn];omega)) fun H5 h5=>?_) rfl
  refine gab ?_
  exact ⟨i,_,_,Nat.lt_succ_self _,⟨i,_,H5,by omega,rfl,rfl,rfl,h5,by rw[zAs];exact hW3⟩,⟨rfl,rfl,int_eq zo,rfl,rfl,rfl,trivial⟩,zhR _,hj2⟩
 ·have hlt:=zf hc
  obtain rfl:kk=0:=by omega
  rw[List.take_zero,List.reverse_nil,show parW (cc f.name) []=[] from rfl,zLz] at hW3
  have hlw3:=congrArg List.length hW3
  simp only[zLa,zLc,zLn] at hlw3
  refine gaa ?_
  refine oS (S.callT (H1:=H3) (F:=[_]) [_,_] rfl permR (block_spec hG hk hE (ndSs f.body) zo f.body ws2 n' H3 (zNr _) hnum herr h3 zo zo) fun H4 h4=>?_) rfl
  refine gal ?_
  refine oS (sL [_,_] rfl (elemsOk_strs [_,_]) rfl rfl rfl ?_) rfl
  refine oS (S.callT (H1:=H4) (F:=[_]) [_,_] rfl permR (put_spec h4 [[48],[59]] rfl (by simp only[zLa,zLc,zLn];omega)) fun H5 h5=>?_) rfl
  refine gal ?_
  exact ⟨l2.length,_,_,Nat.lt_succ_self _,⟨pre++[f],l2,_,_,f.name,by rw[hLe];simp,rfl,rfl,h5,by
   rw[hW3]
   simp only[zAs] at hW ⊢
   exact hW,by omega⟩,⟨rfl,rfl,rfl,int_eq (by simp),trivial⟩,hsubD1,hj2.trans hj⟩
end
end Go.Proofs.YtpbbgkoalnonoaaGreatDoor.Cmp
namespace Go.Stele
open Go.Lib
def prOf (vars:List Nm) (arrays:List (Nm×Int)) (fs:List FnD):Pr:=⟨vars,arrays.map fun a=>⟨a.1,a.2.toNat⟩,fs⟩
theorem prOf_arrs {vars:List Nm} {arrays:List (Nm×Int)} {fs:List FnD} (h:∀ a∈arrays,0≤a.2):arrsP (prOf vars arrays fs)=arrays:=by
 unfold arrsP prOf
 simp only[List.map_map]
 conv=>rhs;rw[←List.map_id arrays]
 refine List.map_congr_left fun a ha=>?_
 have:=h a ha
 simp only[Function.comp,id]
 rw[Int.toNat_of_nonneg this]
theorem sizes_sum:∀ (l:List Int) (t:Int),0≤t→t≤150000→sizesE t l=0→t+l.sum≤150000∧∀ n∈l,0<n
 |[],t,h0,h1,_=>by
  rw[List.sum_nil]
  exact ⟨by omega,fun n hn=>(List.not_mem_nil hn).elim⟩
 |a::l,t,h0,h1,h=>by
  rw[sizesE] at h
  split at h
  ·cases h
  split at h
  ·cases h
  obtain ⟨g1,g2⟩:=sizes_sum l (t+a) (by omega) (by omega) h
  rw[List.sum_cons]
  refine ⟨by omega,fun n hn=>?_⟩
  rcases zMi.1 hn with rfl|hn
  ·omega
  ·exact g2 n hn
theorem check_parts {vars:List Nm} {arrays:List (Nm×Int)} {fs:List FnD} (h:checkP vars arrays fs=0):(arrays.map (·.2)).sum≤150000∧(∀ a∈arrays,0<a.2)∧arrsP (prOf vars arrays fs)=arrays∧checkPr (prOf vars arrays fs)=0∧Valid (prOf vars arrays fs):=by
 have h0:=h
 unfold checkP at h
 obtain ⟨h1,h⟩:=orE_zero.1 h
 obtain ⟨h2,h⟩:=orE_zero.1 h
 obtain ⟨s1,s2⟩:=sizes_sum _ 0 zDd zDd h2
 have hp:∀ a∈arrays,0<a.2:=fun a ha=>s2 a.2 (List.mem_map_of_mem ha)
 have ha:=prOf_arrs (vars:=vars) (fs:=fs) fun a ha=>Int.le_of_lt (hp a ha)
 have hc:checkPr (prOf vars arrays fs)=0:=by
  have:(prOf vars arrays fs).arrays.map (fun a=>(a.name,(a.size:Int)))=arrays:=ha
  unfold checkPr
  rw[this]
  exact h0
 exact ⟨by omega,hp,ha,hc,valid_of hc⟩
def symA:Int→List (Nm×Int)→List (Nm×Int)
 |_,[]=>[]
 |a,(x,n)::r=>(x,a)::symA (a+n) r
theorem symA_names:∀ (l:List (Nm×Int)) (a:Int),(symA a l).map (·.1)=l.map (·.1)
 |[],_=>rfl
 |(x,n)::r,a=>by rw[symA,zMc,zMc,symA_names r]
theorem symA_len:∀ (l:List (Nm×Int)) (a:Int),(symA a l).length=l.length
 |[],_=>rfl
 |(x,n)::r,a=>by rw[symA,zLc,zLc,symA_len r]
theorem symA_app:∀ (l m:List (Nm×Int)) (a:Int),symA a (l++m)=symA a l++symA (a+(l.map (·.2)).sum) m
 |[],m,a=>by simp[symA]
 |(x,n)::r,m,a=>by
  rw[List.cons_append,symA,symA_app r m,symA,List.cons_append,zMc,List.sum_cons,Int.add_assoc]
/-! ### The regions -/
def insideR (r:Int×Int):Bool:=insideA r.1 r.2
def meetsR (r s:Int×Int):Bool:=meetsA r.1 r.2 s.1 s.2
def goR:List (Int×Int)→List (Int×Int)→Bool
 |_,[]=>true
 |prev,r::rest=>insideR r && (prev.all fun s=>!meetsR r s) && goR (prev++[r]) rest
theorem fits_go (vars:List Nm) (arrays:List (Nm×Int)) (fs:List FnD) (o:Org):fitsP vars arrays fs o=goR [] [(o.scalars,3+((scalarsP vars fs).length:Nat)),(o.code,40000),(o.arrays,(arrays.map (·.2)).sum)]:=by
 unfold fitsP goR goR goR goR insideR meetsR
 simp only[List.all_nil,List.nil_append,List.all_cons,List.singleton_append,List.cons_append,Bool.and_true]
 generalize insideA o.scalars _=a
 generalize insideA o.code 40000=b
 generalize insideA o.arrays _=c
 generalize meetsA o.code 40000 o.scalars _=d
 generalize meetsA o.arrays _ o.scalars _=e
 generalize meetsA o.arrays _ o.code 40000=f
 revert a b c d e f
 decide
end Go.Stele
namespace Go.Stele
open Go.Lib
theorem errT_vals (all:List Wd):∀ (l:List (Wd×Nat)) (met:List Wd),(errT all met l).2=0∨(errT all met l).2=8∨(errT all met l).2=7∨(errT all met l).2=3
 |[],met=>.inl rfl
 |(w,ln)::r,met=>by
  rw[errT]
  cases hd:defW w with
  |some x=>
   simp only
   split
   ·exact .inr (.inl rfl)
   ·exact errT_vals all r _
  |none=>
   simp only
   cases hr:refW w with
   |some x=>
    simp only
    split
    ·exact errT_vals all r _
    ·exact .inr (.inr (.inl rfl))
   |none=>
    simp only
    split
    ·exact errT_vals all r _
    ·exact .inr (.inr (.inr rfl))
theorem asm_vals {src:Wd} {og:Int} (h:0≤og∧og<262144) {e:Nat×Nat} (he:asmP src og=.error e):e.2=8∨e.2=7∨e.2=3∨e.2=6:=by
 unfold asmP at he
 split at he
 ·omega
 split at he
 ·rename_i h1
  injection he with he
  rw[←he]
  rcases errT_vals (defs (wordsP src)) (toksP src) [] with h2|h2|h2|h2
  ·exact absurd h2 h1
  ·exact .inl h2
  ·exact .inr (.inl h2)
  ·exact .inr (.inr (.inl h2))
 split at he
 ·injection he with he
  rw[←he]
  exact .inr (.inr (.inr rfl))
 ·cases he
section
variable {vars:List Nm} {arrays:List (Nm×Int)} {fs:List FnD} {o:Org}
theorem fits_code (h:fitsP vars arrays fs o=true):0≤o.code∧o.code<262144:=by
 unfold fitsP insideA at h
 simp only[zBa,zDe] at h
 have:=h.1.1.1.1.2
 omega
def buildC (vars:List Nm) (arrays:List (Nm×Int)) (fs:List FnD) (o:Org):Except Int Wd:=match cmpP vars arrays fs o with
 |.error e=>.error e
 |.ok t=>match asmP t o.code with
  |.error e=>.error e.2
  |.ok x=>.ok x.1
theorem cmp_asm {t:Wd} (h:cmpP vars arrays fs o=.ok t):∃ x,asmP t o.code=.ok x∧buildC vars arrays fs o=.ok x.1:=by
 have h0:=h
 unfold cmpP at h
 split at h
 ·cases h
 split at h
 ·cases h
 split at h
 ·cases h
 rename_i x hx
 injection h with h
 rw[h] at hx
 refine ⟨x,hx,?_⟩
 unfold buildC
 rw[h0]
 simp only
 rw[hx]
end
theorem cmp_ne {vars:List Nm} {arrays:List (Nm×Int)} {fs:List FnD} {o:Org} {e:Int} (h:cmpP vars arrays fs o=.error e):e≠0:=by
 unfold cmpP at h
 split at h
 ·rename_i h1
  injection h with h
  rw[←h]
  exact h1
 split at h
 ·injection h with h
  omega
 rename_i h2
 split at h
 ·rename_i e' he
  injection h with h
  have:=asm_vals (fits_code (by simpa using h2)) he
  omega
 ·cases h
end Go.Stele
namespace Go.GL
open Go.RowKit
section
variable {C:Ctx} {e:Env} {H:Heap} {x y:Operand} {dst:Option Nat} {ty:TypeId} {pos:String} {aft:Array Edge} {g:Option (Nat×Bool)} {K:LV→Heap→Prop} {X:List PanicEntry→Heap→Prop}
theorem Pure.ssliceE {xT:TypeId} {lo hi:Option Operand} {l m:List UInt8} {i j:Int} [hT:TStr C.P xT] (hx:e.ev x=str l)
  (hlo:BoundIs e lo 0 i) (hhi:BoundIs e hi l.length j) (h0:0≤i) (h1:i≤j) (h2:j≤l.length) (he:(l.take j.toNat).drop i.toNat=m) :
  Pure C ⟨dst,.slice xT x lo hi none,ty,pos,aft,g⟩ e H (str m):=he▸Pure.sslice hx hlo hhi h0 h1 h2
theorem Pure.lsliceE {t el s:Nat} {lo hi:Option Operand} {es ms:List LV} {i j:Int} [ht:TSlice C.P t el s] (hx:elems (e.ev x)=some es)
  (hlo:BoundIs e lo 0 i) (hhi:BoundIs e hi es.length j) (h0:0≤i) (h1:i≤j) (h2:j≤es.length) (hs:∀ v∈es,v.cells.length=s) (he:(es.take j.toNat).drop i.toNat=ms) :
  Pure C ⟨dst,.slice t x lo hi none,ty,pos,aft,g⟩ e H (.list ms):=he▸Pure.lslice hx hlo hhi h0 h1 h2 hs
end
section
variable {C:Ctx} {n:Nat} {Q:Post} {e:Env} {H F:Heap}
end
end Go.GL
namespace Go.Proofs.YtpbbgkoalnonoaaGreatDoor.Cmp
open Go.GL Go.RowKit Go.Stele
open Go.Lib (decDigits itoa join)
def regLV (r:Int×Int):LV:=.agg [int .i64 r.1,int .i64 r.2]
def orgLV (o:Org):LV:=.agg [int .i64 o.code,int .i64 o.scalars,int .i64 o.arrays]
def symLV (p:Nm×Int):LV:=.agg [str p.1,int .i64 p.2]
def I64 (n:Int):Prop := -9223372036854775808≤n∧n<9223372036854775808
def SmI (n:Int):Prop := -1000000000000≤n∧n≤1000000000000
theorem sum_take {l:List Int} {i:Nat} (h:i<l.length):(l.take (i+1)).sum=(l.take i).sum+l[i]:=by
 rw[List.take_succ_eq_append_getElem h,List.sum_append]
 simp
theorem sum_take_le:∀ (l:List Int) (i:Nat),(∀ n∈l,0<n)→0≤(l.take i).sum∧(l.take i).sum≤l.sum
 |[],i,_=>by simp
 |a::l,0,h=>by
  have:=sum_take_le l l.length fun n hn=>h n (zMo _ hn)
  have h1:=h a zMs
  rw[List.take_length] at this
  rw[List.take_zero,List.sum_nil,List.sum_cons]
  omega
 |a::l,i+1,h=>by
  have:=sum_take_le l i fun n hn=>h n (zMo _ hn)
  have h1:=h a zMs
  rw[List.take_succ_cons,List.sum_cons,List.sum_cons]
  omega
theorem symA_take {l:List (Nm×Int)} {i:Nat} (h:i<l.length) (a:Int):symA a (l.take (i+1))=symA a (l.take i)++[(l[i].1,a+((l.map (·.2)).take i).sum)]:=by
 rw[List.take_succ_eq_append_getElem h,symA_app,←List.map_take]
 rfl
attribute [local irreducible] LOps LCode LStep LCalls Go.GL.Pure QThen QBlock RetPost LQ LAny LLate LLateOp LS
section
variable {B0:Nat} {w0:World}
theorem inside_spec (r:Int×Int) (h2:SmI r.2):LCalls (KC B0 w0) 46 [regLV r] [] (Ret (bool (insideR r))):=by
 obtain ⟨a,n⟩:=r
 unfold SmI at h2
 simp only at h2
 have hI:insideR (a,n)=decide (0≤a∧a≤262144-n):=rfl
 unfold regLV
 refine cI Tryz.func46 rfl (n:=14) rfl rfl rfl ?_
 refine gaf ?_
 refine oS (S.box rfl fun b1=>?_) rfl
 refine gab ?_
 refine oB 6 rfl (fun h=>?_) (fun h=>?_)
 ·have h1:a ≥ 0:=zt h
  refine gac ?_
  exact retRet rfl (zra rfl) (bool_eq (by
   rw[hI,Bool.eq_iff_iff,decide_eq_true_iff,decide_eq_true_iff]
   omega))
 ·have h1:¬ a ≥ 0:=zf h
  refine gae ?_
  exact retRet rfl (zra rfl) (bool_eq (by
   rw[hI]
   symm
   exact decide_eq_false zo))
theorem meets_spec (r s:Int×Int) (h1:SmI r.1) (h2:SmI r.2) (h3:SmI s.1) (h4:SmI s.2):LCalls (KC B0 w0) 47 [regLV r,regLV s] [] (Ret (bool (meetsR r s))):=by
 obtain ⟨a,n⟩:=r
 obtain ⟨b,m⟩:=s
 unfold SmI at h1 h2 h3 h4
 simp only at h1 h2 h3 h4
 have hI:meetsR (a,n) (b,m)=decide (0<n∧0<m∧a<b+m∧b<a+n):=rfl
 unfold regLV
 refine cI Tryz.func47 rfl (n:=33) rfl rfl rfl ?_
 refine gaf ?_
 refine oS (S.box rfl fun b1=>?_) rfl
 refine oS (S.box rfl fun b2=>?_) rfl
 refine gab ?_
 refine oB 8 rfl (fun g1=>?_) (fun g1=>?_)
 rotate_left
 ·have g1':¬ n > 0:=zf g1
  refine gae ?_
  exact retRet rfl (zra rfl) (bool_eq (by rw[hI];symm;exact decide_eq_false zo))
 have g1':n > 0:=zt g1
 refine gac ?_
 refine oB 13 rfl (fun g2=>?_) (fun g2=>?_)
 rotate_left
 ·have g2':¬ m > 0:=zf g2
  refine gae ?_
  exact retRet rfl (zra rfl) (bool_eq (by rw[hI];symm;exact decide_eq_false zo))
 have g2':m > 0:=zt g2
 refine gac ?_
 refine oB 23 rfl (fun g3=>?_) (fun g3=>?_)
 rotate_left
 ·have g3':¬ a<b+m:=zf g3
  refine gae ?_
  exact retRet rfl (zra rfl) (bool_eq (by rw[hI];symm;exact decide_eq_false zo))
 have g3':a<b+m:=zt g3
 refine gac ?_
 exact retRet rfl (zra rfl) (bool_eq (by
  rw[hI,Bool.eq_iff_iff,decide_eq_true_iff,decide_eq_true_iff]
  omega))
theorem arrays_spec (vars:List Nm) (arrays:List (Nm×Int)) (fs:List FnD) (o:Org) (hl:arrays.length≤2000000) (hp:∀ a∈arrays,0<a.2) (h0:0≤o.arrays) (h1:o.arrays+(arrays.map (·.2)).sum≤262144):LCalls (KC B0 w0) 27 [Chk.encPrG vars arrays fs,orgLV o] [] (Ret (.tuple [.list ((symA o.arrays arrays).map symLV),int .i64 0])):=by
 have hal:(arrays.map Chk.encArG).length=arrays.length:=zLm _
 have hml:(arrays.map (·.2)).length=arrays.length:=zLm _
 have hps:∀ n∈arrays.map (·.2),0<n:=fun n hn=>by
  obtain ⟨a,ha,rfl⟩:=List.mem_map.1 hn
  exact hp a ha
 unfold Chk.encPrG orgLV
 refine cI Tryz.func27 rfl (n:=50) rfl rfl rfl ?_
 refine gaf ?_
 refine oS (S.box rfl fun b2=>?_) rfl
 refine oS (S.box rfl fun b3=>?_) rfl
 refine gab ?_
 refine oL (fun kk ls H'=>∃ (i:Nat) (v:LV),i≤arrays.length∧kk=arrays.length-i∧ls=[(6,v),(7,int .i64 (o.arrays+((arrays.map (·.2)).take i).sum)),(13,.list (arrays.map Chk.encArG)),(14,int .i64 arrays.length),(15,int .i64 (i:Nat))]∧GL.Acc 2 v ((symA o.arrays (arrays.take i)).map symLV) H' [])
  ⟨_,_,_,⟨0,nilSlice,Nat.zero_le _,rfl,rfl,Acc.nil⟩,⟨rfl,int_eq (by simp),rfl,int_eq zo,rfl,trivial⟩,HSub.nil _⟩ ?_
 rintro kk ls H' ⟨i,v,hi,rfl,rfl,hacc⟩ j hj
 have hsum:=sum_take_le (arrays.map (·.2)) i hps
 refine gah ?_
 refine oC rfl (fun hc=>?_) (fun hc=>?_)
 ·have hlt:i<arrays.length:=by have:=zt hc;omega
  have hpi:=hp _ (List.getElem_mem hlt)
  have hst:=sum_take (l:=arrays.map (·.2)) (i:=i) zo
  rw[List.getElem_map] at hst
  have hsum2:=sum_take_le (arrays.map (·.2)) (i+1) hps
  have hlen:((symA o.arrays (arrays.take i)).map symLV).length=i:=by
   rw[zLm,symA_len,List.length_take]
   omega
  generalize hsi:((arrays.map (·.2)).take i).sum=si at hsum hst
  have hsy:=symA_take hlt o.arrays
  rw[hsi] at hsy
  refine gak ?_
  refine oP (xR (el':=Chk.encArG arrays[i]) (cs:=[_,_]) rfl rfl zo (map_get _ _ _ hlt) rfl rfl) rfl ?_
  refine gac ?_
  refine oS (sA fun b9=>?_) rfl
  refine gaa ?_
  refine oB 21 rfl (fun h=>?_) (fun _=>?_)
  ·have:=zt h;omega
  refine gac ?_
  refine oB 25 rfl (fun h=>?_) (fun _=>?_)
  ·have:=zt h;omega
  refine gac ?_
  refine oB 30 rfl (fun h=>?_) (fun _=>?_)
  ·have:=zt h;omega
  refine gac ?_
  refine oC rfl (fun h=>?_) (fun _=>?_)
  ·have:=zt h;omega
  refine gak ?_
  refine oP (pM (lv:=v) rfl) rfl ?_
  refine gac ?_
  refine oS (sL [_] rfl (zeC rfl rfl eN) rfl rfl rfl ?_) rfl
  refine oS (S.acc1 rfl hacc rfl (by simp;rfl) rfl (by rw[hlen];simp;omega) fun v' H2 hacc'=>?_) rfl
  refine oP (pA (lv:=v') rfl) rfl ?_
  refine gaa ?_
  exact ⟨_,_,_,by omega,⟨i+1,v',by omega,rfl,rfl,by rw[hsy,zMa];exact hacc'⟩,⟨rfl,int_eq (by rw[hst];omega),rfl,rfl,int_eq zo,trivial⟩,zhD zhr,hj⟩
 ·exact zT52
theorem fits_spec (vars:List Nm) (arrays:List (Nm×Int)) (fs:List FnD) (o:Org) (hv6:vars.length≤2000000) (hf6:fs.length≤2000000) (hl:arrays.length≤2000000) (hsm:∀ f∈fs,SmF f) (hn:∀ f∈fs,f.name.length≤1000∧∀ x∈f.params++f.locals,x.length≤1000)
  (hp:∀ a∈arrays,0<a.2) (ht:(arrays.map (·.2)).sum≤150000) (hsc:(scalarsP vars fs).length≤8000) (o1:I64 o.code) (o2:I64 o.scalars) (o3:I64 o.arrays) :
  LCalls (KC B0 w0) 25 [Chk.encPrG vars arrays fs,orgLV o] [] (Ret (bool (fitsP vars arrays fs o))):=by
 have hal:(arrays.map Chk.encArG).length=arrays.length:=zLm _
 have hml:(arrays.map (·.2)).length=arrays.length:=zLm _
 have hps:∀ n∈arrays.map (·.2),0<n:=fun n hn=>by
  obtain ⟨a,ha,rfl⟩:=List.mem_map.1 hn
  exact hp a ha
 have hscl:((scalarsP vars fs).map str).length=(scalarsP vars fs).length:=zLm _
 have hS:=Chk.scalars_specG (B0:=B0) (w0:=w0) (vars:=vars) (fs:=fs) (.list (arrays.map Chk.encArG)) hv6 hf6 hsm hn
 rw[fits_go]
 unfold Chk.encPrG orgLV
 refine cI Tryz.func25 rfl (n:=63) rfl rfl rfl ?_
 refine gaf ?_
 refine oS (S.box rfl fun b2=>?_) rfl
 refine oS (S.box rfl fun b3=>?_) rfl
 refine gab ?_
 refine oL (fun kk ls H'=>∃ (i:Nat),i≤arrays.length∧kk=arrays.length-i∧ls=[(2,ptr b2 0),(3,ptr b3 0),(5,int .i64 (((arrays.map (·.2)).take i).sum)),(14,.list (arrays.map Chk.encArG)),(15,int .i64 arrays.length),(16,int .i64 (i:Nat))]∧H'=[(b3,.cells 28 [int .i64 o.code,int .i64 o.scalars,int .i64 o.arrays]),(b2,.cells 26 [.list (vars.map str),.list (arrays.map Chk.encArG),.list (fs.map encFn)])])
  ⟨_,_,_,⟨0,Nat.zero_le _,rfl,rfl,rfl⟩,⟨rfl,rfl,rfl,rfl,int_eq zo,rfl,trivial⟩,zhR _⟩ ?_
 rintro kk ls H' ⟨i,hi,rfl,rfl,rfl⟩ j hj
 have hsum:=sum_take_le (arrays.map (·.2)) i hps
 refine gah ?_
 refine oC rfl (fun hc=>?_) (fun hc=>?_)
 ·have hlt:i<arrays.length:=by have:=zt hc;omega
  have hpi:=hp _ (List.getElem_mem hlt)
  have hst:=sum_take (l:=arrays.map (·.2)) (i:=i) zo
  rw[List.getElem_map] at hst
  have hsum2:=sum_take_le (arrays.map (·.2)) (i+1) hps
  generalize hsi:((arrays.map (·.2)).take i).sum=si at hsum hst
  refine gak ?_
  refine oP (xR (el':=Chk.encArG arrays[i]) (cs:=[_,_]) rfl rfl zo (map_get _ _ _ hlt) rfl rfl) rfl ?_
  refine gac ?_
  refine oS (sA fun b7=>?_) rfl
  refine gaa ?_
  exact ⟨_,_,_,by omega,⟨i+1,by omega,rfl,rfl,rfl⟩,⟨rfl,rfl,int_eq (by rw[hst]),rfl,rfl,int_eq zo,trivial⟩,zhD zhr,hj⟩
 have hi':i=arrays.length:=by have:=zf hc;omega
 subst hi'
 rw[←hml,List.take_length] at hsum ⊢
 generalize (arrays.map (·.2)).sum=total at hsum ht ⊢
 generalize (scalarsP vars fs).length=ns at hsc hscl ⊢
 refine gad ?_
 refine LCode.draw (m:=16) rfl [(b3,.cells 28 [int .i64 o.code,int .i64 o.scalars,int .i64 o.arrays]),(b2,.cells 26 [.list (vars.map str),.list (arrays.map Chk.encArG),.list (fs.map encFn)])] ?_
 refine aT 0 rfl rfl (pF rfl) ?_
 refine aT 1 rfl rfl (pL (c:=.atom _) rfl zm0 rfl) ?_
 refine aT 2 rfl rfl (Pure.ldHAgg (cs':=[_,_,_]) rfl zm1 rfl rfl) ?_
 refine aT 7 rfl rfl (pF rfl) ?_
 refine aT 8 rfl rfl (pL (c:=.atom _) rfl zm0 rfl) ?_
 refine aT 9 rfl rfl (Pure.bld _ (cs:=[_,_]) rfl) ?_
 refine aT 10 rfl rfl (pF rfl) ?_
 refine aT 11 rfl rfl (pL (c:=.atom _) rfl zm0 rfl) ?_
 refine aT 12 rfl rfl (pM (lv:=.atom _) rfl) ?_
 refine aT 13 rfl rfl (Pure.bld _ (cs:=[_,_]) rfl) ?_
 refine LAny.late ?_ zhr
 refine lO 3 (lS (H1:=[]) rfl (.inl rfl) rfl zpr zhr (sF [_] rfl hS ?_))
 refine lO 4 (lH rfl rfl (Pure.llen rfl) ?_)
 refine lO 5 (lH rfl rfl (Pure.add rfl rfl zo) ?_)
 refine lO 6 (lH rfl rfl (Pure.bld _ (cs:=[_,_]) rfl) ?_)
 refine lO 14 (lS (H1:=[]) rfl (.inl rfl) rfl zpr zhr (sL (es:=[LV.agg [int .i64 o.scalars,int .i64 (3+(((scalarsP vars fs).map str).length:Int))],.agg [int .i64 o.code,int .i64 40000],.agg [int .i64 o.arrays,int .i64 total]]) [_,_,_] rfl (zeC rfl rfl (zeC rfl rfl (zeC rfl rfl eN))) rfl rfl rfl ?_))
 refine lO 15 (lH rfl rfl (pA (lv:=.list _) rfl) ?_)
 refine lD zk ?_
 have e3:(3:Int)+(((scalarsP vars fs).map str).length:Int)=3+(ns:Nat):=by rw[hscl]
 rw[e3]
 generalize hrs:[(o.scalars,(3:Int)+(ns:Nat)),(o.code,(40000:Int)),(o.arrays,total)]=rs
 have hrl:([LV.agg [int .i64 o.scalars,int .i64 (3+(ns:Int))],.agg [int .i64 o.code,int .i64 40000],.agg [int .i64 o.arrays,int .i64 total]]:List LV)=rs.map regLV:=by rw[←hrs];rfl
 rw[hrl]
 have hlr:rs.length=3:=by rw[←hrs];rfl
 have hsz:∀ r∈rs,SmI r.2∧0≤r.2:=by
  rw[←hrs]
  intro r hr
  simp only[zMi,List.not_mem_nil,or_false] at hr
  unfold SmI
  rcases hr with rfl|rfl|rfl <;> simp only <;> omega
 have hrm:(rs.map regLV).length=rs.length:=zLm _
 clear hrl hrs
 generalize hR:goR [] rs=R
 refine qN ?_
 refine LCode.weak zhn ?_
 refine gaa ?_
 refine oL (fun kk ls H'=>∃ (i:Nat),i≤rs.length∧kk=rs.length-i∧ls=[(8,.list (rs.map regLV)),(40,.list (rs.map regLV)),(41,int .i64 rs.length),(42,int .i64 (i:Nat))]∧H'=[]∧goR (rs.take i) (rs.drop i)=R∧∀ r∈rs.take i,insideR r=true)
  ⟨_,_,_,⟨0,Nat.zero_le _,rfl,rfl,rfl,hR,fun r hr=>by cases hr⟩,⟨rfl,rfl,int_eq zo,rfl,trivial⟩,zhR _⟩ ?_
 rintro kk ls H' ⟨i,hi,rfl,rfl,rfl,hgo,hins⟩ j1 hj1
 refine gah ?_
 refine oC rfl (fun hc=>?_) (fun hc=>?_)
 rotate_left
 ·have hi':i=rs.length:=by have:=zf hc;omega
  subst hi'
  rw[List.drop_length,goR] at hgo
  refine gaa ?_
  exact retRet (hj1.trans hj) (zra rfl) (bool_eq hgo)
 have hlt:i<rs.length:=by have:=zt hc;omega
 have hsi:=hsz _ (List.getElem_mem hlt)
 rw[List.drop_eq_getElem_cons hlt,goR,←List.take_succ_eq_append_getElem hlt] at hgo
 generalize hgr:rs[i]=r at hgo hsi
 refine gaa ?_
 refine oP (xR (el':=regLV r) (cs:=[_,_]) rfl rfl zo (by rw[←hgr];exact map_get _ _ _ hlt) rfl rfl) rfl ?_
 refine gac ?_
 refine oS (sA fun b10=>?_) rfl
 refine gab ?_
 refine oS (sF [_] rfl (inside_spec r hsi.1) ?_) rfl
 refine gad ?_
 refine oC rfl (fun h=>?_) (fun h=>?_)
 ·have h':insideR r=false:=by simpa using h
  rw[h',Bool.false_and,Bool.false_and] at hgo
  refine gaa ?_
  exact retRet (hj1.trans hj) (zra rfl) (bool_eq hgo)
 have h':insideR r=true:=by simpa using h
 rw[h',Bool.true_and] at hgo
 have inb:∀ r:Int×Int,SmI r.2∧0≤r.2→insideR r=true→SmI r.1:=fun r h1 h2=>by
  have:0≤r.1∧r.1≤262144-r.2:=zt h2
  unfold SmI at h1 ⊢
  omega
 have hri:=inb r hsi h'
 have htl:(rs.take i).length=i:=by rw[List.length_take];omega
 have htm:((rs.take i).map regLV).length=i:=by rw[zLm,htl]
 have hts:((rs.map regLV).take i)=(rs.take i).map regLV:=List.map_take.symm
 refine gaa ?_
 refine oP (Pure.lsliceE (i:=0) (j:=(i:Nat)) (es:=rs.map regLV) (ms:=(rs.take i).map regLV) rfl rfl ⟨_,rfl⟩ zo zo zo (fun v hv=>by obtain ⟨r,_,rfl⟩:=List.mem_map.1 hv;rfl) (by rw[Int.toNat_natCast,←hts];rfl)) rfl ?_
 refine gad ?_
 refine oL (fun kk ls H'=>∃ (x:Nat),x≤i∧kk=i-x∧ls=[(8,.list (rs.map regLV)),(10,ptr b10 0),(40,.list (rs.map regLV)),(41,int .i64 rs.length),(42,int .i64 (i:Nat)),(52,.list ((rs.take i).map regLV)),(53,int .i64 i),(54,int .i64 (x:Nat))]∧H'=[(b10,.cells 115 [int .i64 r.1,int .i64 r.2])]∧((((rs.take i).drop x).all fun s=>!meetsR r s) && goR (rs.take (i+1)) (rs.drop (i+1)))=R)
  ⟨_,_,_,⟨0,Nat.zero_le _,rfl,rfl,rfl,by rw[List.drop_zero];exact hgo⟩,⟨rfl,rfl,rfl,rfl,rfl,rfl,int_eq zo,rfl,trivial⟩,zhR _⟩ ?_
 rintro kk ls H' ⟨x,hx,rfl,rfl,rfl,hall⟩ j2 hj2
 refine gah ?_
 refine oC rfl (fun hc=>?_) (fun hc=>?_)
 ·have hlx:x<(rs.take i).length:=by have:=zt hc;omega
  have hm1:=List.getElem_mem hlx
  have hss:=hsz _ (List.mem_of_mem_take hm1)
  have hsn:=inb _ hss (hins _ hm1)
  rw[List.drop_eq_getElem_cons hlx,List.all_cons] at hall
  generalize hgs:(rs.take i)[x]=s at hall hss hsn
  refine gak ?_
  refine oP (xR (el':=regLV s) (cs:=[_,_]) rfl rfl zo (by rw[←hgs];exact map_get _ _ _ hlx) rfl rfl) rfl ?_
  refine gac ?_
  refine oS (sA fun b12=>?_) rfl
  refine gab ?_
  refine oS (sF [_,_] rfl (meets_spec r s hri hsi.1 hsn hss.1) ?_) rfl
  refine gae ?_
  refine oC rfl (fun h=>?_) (fun h=>?_)
  ·have h2:meetsR r s=true:=h
   rw[h2] at hall
   refine gaa ?_
   exact retRet (hj2.trans (hj1.trans hj)) (zra rfl) (bool_eq (by rw[←hall];rfl))
  ·have h2:meetsR r s=false:=h
   rw[h2] at hall
   refine gaa ?_
   exact ⟨_,_,_,by omega,⟨x+1,by omega,rfl,rfl,rfl,hall⟩,⟨rfl,rfl,rfl,rfl,rfl,rfl,rfl,int_eq zo,trivial⟩,zhD zhr,hj2⟩
 ·have hx':x=i:=by have:=zf hc;omega
  subst hx'
  rw[List.drop_eq_nil_of_le (by rw[htl];exact zNr _)] at hall
  refine gaa ?_
  exact ⟨_,_,_,by omega,⟨x+1,by omega,rfl,rfl,rfl,hall,fun q hq=>by
   rw[List.take_succ_eq_append_getElem hlt,hgr] at hq
   rcases List.mem_append.1 hq with hq|hq
   ·exact hins q hq
   ·rw[List.mem_singleton.1 hq];exact h'⟩,⟨rfl,rfl,rfl,int_eq zo,trivial⟩,HSub.nil _,hj2.trans hj1⟩
end
end Go.Proofs.YtpbbgkoalnonoaaGreatDoor.Cmp
