/- Texts joined: A23F, A23D, A23G, RFt, RC10. -/
import Derived.Test.YtpbbgkoalnonoaaGreatDoorBRowCA6
import Derived.Test.YtpbbgkoalnonoaaGreatDoorBRowCA9
import Derived.Test.YtpbbgkoalnonoaaGreatDoorBRowCA10
import Derived.Test.YtpbbgkoalnonoaaGreatDoorBRowCA11
import Derived.Test.YtpbbgkoalnonoaaGreatDoorBRowCA13
set_option linter.unusedVariables false
set_option linter.unusedSimpArgs false
set_option maxRecDepth 100000
set_option maxHeartbeats 4000000
namespace Go.Proofs.YtpbbgkoalnonoaaGreatDoor.R23
open Go.GL Go.RowKit Go.Stele
open Go.Lib (decDigits itoa join)
open Cmp (symLV orgLV EnvOk stW_lab stWs_lab ndSs_mem form_idx1 form_kind)
theorem errSs_mem {env:CEnv}:∀ {l:List Sm},errSs env l=0→∀ x∈l,errS env x=0
 |[],_,x,h=>(List.not_mem_nil h).elim
 |y::l,he,x,h=>by
  rw[errSs] at he
  rcases zMi.1 h with rfl|h
  ·exact (orE_zero.1 he).1
  ·exact errSs_mem (orE_zero.1 he).2 x h
theorem numSs_mem:∀ {l:List Sm},numSs l→∀ x∈l,numS x
 |[],_,x,h=>(List.not_mem_nil h).elim
 |y::l,he,x,h=>by
  rw[numSs] at he
  rcases zMi.1 h with rfl|h
  ·exact he.1
  ·exact numSs_mem he.2 x h
@[reducible] def sR (b:Nat) (kind:Int) (name:Nm) (index value:List Ex) (thn els:List Sm):Nat×LObj:=(b,.cells 102 [int .i64 kind,str name,.list (index.map encE),.list (value.map encE),.list (thn.map encS),.list (els.map encS)])
attribute [local irreducible] LOps LCode LStep LCalls Go.GL.Pure QThen QBlock RetPost LQ LAny LLate LLateOp LS
section
variable {B0:Nat} {w0:World}
theorem stmt23_spec {vars:List Nm} {arrays:List (Nm×Int)} {fs:List FnD} {sc:Nat} {ars:List (Nm×Int)} {own:Nm} {c:CC} {env:CEnv} (hc:RefC B0 w0 vars arrays fs sc ars own c env) (hE:EnvOk env) (hcl:ClC c) (hfn:∀ k∈env.funcs,Plain k.name):∀ m:Nat,m≤2000000→∀ s:Sm,ndS s≤m→numS s→errS env s=0→StmO B0 w0 vars arrays fs sc ars own c s
 |0,_=>fun s h=>by have:=ndS_pos s;omega
 |m+1,hm6=>by
  have ih:=stmt23_spec hc hE hcl hfn m zo
  have hX:Exp23 B0 w0 vars arrays fs sc ars own c env 2000000:=expr23_spec hc hE 2000000 (zNr _)
  intro s hnd hnum herr ws n hws hT hn
  have hneX:∀ w∈(stW c n s).1,w≠[]:=fun w hw=>(stW_clean hcl hfn s n herr w hw).1
  obtain ⟨kind,name,index,value,thn,els⟩:=s
  obtain ⟨hf,e1,e2,e3,e4,e5⟩:=Inp.errS_parts herr
  rw[numS] at hnum
  obtain ⟨n1,n2,n3,n4⟩:=hnum
  rw[ndS] at hnd hn
  have hth:∀ s∈thn,StmO B0 w0 vars arrays fs sc ars own c s:=fun s hs=>ih s (by have:=ndSs_mem hs;omega) (numSs_mem n3 s hs) (errSs_mem e4 s hs)
  have hel:∀ s∈els,StmO B0 w0 vars arrays fs sc ars own c s:=fun s hs=>ih s (by have:=ndSs_mem hs;omega) (numSs_mem n4 s hs) (errSs_mem e5 s hs)
  have htl:=ndSs_len thn
  have hell:=ndSs_len els
  have hle:=hc.le
  have eC:cLV vars arrays fs sc ars own=.agg [.list (vars.map str),.list (arrays.map Chk.encArG),.list (fs.map encFn),int .i64 (sc:Nat),.list (ars.map symLV),str own]:=rfl
  have eT:∀ ws n,tLV ws n=.agg [str (join ws [32]),int .i64 (n:Nat)]:=fun _ _=>rfl
  have hlab:∀ i:Nat,i≤4000000000→(labW i).length≤21:=fun i hi=>by
   have:(decDigits i).length≤20:=by
    rw[Go.Lib.decDigits_length]
    exact Go.Lib.nDigits_le20 i zo
   unfold labW
   rw[zLc]
   omega
  have hl0:=hlab n zo
  have hl1:=hlab (n+1) zo
  have hb1:=label23_spec (B0:=B0) (w0:=w0) ws n zo
  have hb2:=label23_spec (B0:=B0) (w0:=w0) ws (n+1) zo
  simp only[eT] at hb1 hb2
  obtain ⟨R,M,hRM⟩:∃ R M,stW c n (.mk kind name index value thn els)=(R,M):=⟨_,_,rfl⟩
  rw[hRM] at hT hneX ⊢
  simp only at hT hneX ⊢
  rw[encS_mk,eC,eT ws]
  refine cI Tryz.func122 rfl (n:=175) rfl rfl rfl ?_
  refine gaf ?_
  refine oS (S.box rfl fun b3=>?_) rfl
  refine oS (S.box rfl fun b4=>?_) rfl
  refine oS (S.box rfl fun b5=>?_) rfl
  refine oS (sA fun b6=>?_) rfl
  repeat (first|refine LOps.nil ?_|refine qN ?_|refine LCode.skip ?_)
  refine LCode.weak (H':=[cR b3 vars arrays fs sc ars own,tR b4 ws n,sR b5 kind name index value thn els,zR b6]) ⟨[],by rw[zLz];exact (List.reverse_perm [cR b3 vars arrays fs sc ars own,tR b4 ws n,sR b5 kind name index value thn els,zR b6])⟩ ?_
  refine gab ?_
  by_cases k1:kind=1
  ·subst k1
   obtain ⟨x,rfl⟩:=Inp.form_value hf zDd
   rw[errEs] at e1
   rw[numEs] at n2
   rw[ndEs,ndEs] at hnd
   have hex:=(orE_zero.1 e1).1
   have hsc:scalarE env name=0:=by rw[if_pos rfl] at e3;exact e3
   have hS:stW c n (.mk 1 name index [x] thn els)=(exW c x++[c.sc name,[33]],n):=by
    unfold stW;rw[if_pos rfl]
    all_goals first|done|(simp only[Cmp.headD_one,zAs];done)|(simp only[Cmp.headD_one,zAs];rfl)|rfl
   obtain ⟨rfl,rfl⟩:=Prod.mk.inj (hS.symm.trans hRM)
   have hall:=List.forall_mem_append.2 ⟨hws,hneX⟩
   simp only[tot_app] at hT
   have p6:=hX x ws n zo n2.1 hex (fun w hw=>hall w (by simp at hw ⊢;grind)) (by simp only[tot_app];omega)
   simp only[eC,eT] at p6
   have p10:=hc.sc1 name hsc
   simp only[eC] at p10
   have p12:=put_spec (B0:=B0) (w0:=w0) (ws++exW c x) [c.sc name,[33]] n (fun w hw=>hall w (by simp at hw ⊢;grind)) (fun w hw=>hall w (by simp at hw ⊢;grind)) (by simp only[tot_app];omega)
   simp only[eT,zMc,List.map_nil] at p12
   refine oC rfl (fun _=>?_) (fun hc=>by cases hc)
   refine gau ?_
   refine LCode.midC (A:=Unit) (fun _=>[(6,ptr b6 0)]) (fun _=>[tR b6 ((ws++exW c x)++[c.sc name,[33]]) n]) (fun _=>True) ?_ (fun _ _ j2 hj2=>?_)
   ·refine LCode.draw (m:=14) rfl [cR b3 vars arrays fs sc ars own,tR b4 ws n,sR b5 1 name index [x] thn els] ?_
    refine aT 0 rfl rfl (Pure.ldHAgg (cs':=[_,_,_,_,_,_]) rfl zm0 rfl rfl) ?_
    refine aT 1 rfl rfl (Pure.ldHAgg (cs':=[_,_]) rfl zm1 rfl rfl) ?_
    refine aT 2 rfl rfl (pF rfl) ?_
    refine aT 3 rfl rfl (pL (c:=.list _) rfl zm2 rfl) ?_
    refine aT 4 rfl rfl (xR (el':=encE x) (cs:=[_,_,_,_]) rfl rfl zDd rfl rfl rfl) ?_
    refine aT 5 rfl rfl (Pure.ldRefAgg (cs':=[_,_,_,_]) rfl rfl rfl) ?_
    refine aT 7 rfl rfl (Pure.ldHAgg (cs':=[_,_,_,_,_,_]) rfl zm0 rfl rfl) ?_
    refine aT 8 rfl rfl (pF rfl) ?_
    refine aT 9 rfl rfl (pL (c:=.atom _) rfl zm2 rfl) ?_
    refine LAny.late ?_ ⟨_,List.Perm.refl _⟩
    refine zl1 (i:=6) zk ?_
    refine lS (H1:=[]) rfl (.inl rfl) rfl zpr ⟨_,List.Perm.refl _⟩ (sF [_,_,_] rfl p6 ?_)
    refine zl1 (i:=10) zk ?_
    refine lS (H1:=[]) rfl (.inl rfl) rfl zpr ⟨_,List.Perm.refl _⟩ (sF [_,_] rfl p10 ?_)
    refine zl1 (i:=11) zk ?_
    refine lS (H1:=[]) rfl (.inl rfl) rfl zpr ⟨_,List.Perm.refl _⟩ (sL [_,_] rfl (elemsOk_strs [_,_]) rfl rfl rfl ?_)
    refine zl1 (i:=12) zk ?_
    refine lS (H1:=[]) rfl (.inl rfl) rfl zpr ⟨_,List.Perm.refl _⟩ (sF [_,_] rfl p12 ?_)
    refine zl1 (i:=13) zk ?_
    refine lS (H1:=[zR b6]) (F:=[cR b3 vars arrays fs sc ars own,tR b4 ws n,sR b5 1 name index [x] thn els]) rfl (.inl rfl) rfl (zPc (l₁:=[cR b3 vars arrays fs sc ars own,tR b4 ws n,sR b5 1 name index [x] thn els]) (l₂:=[_])) zhr (sS (cs':=[_,_]) rfl pH rfl rfl rfl rfl rfl ?_)
    refine lD zk ?_
    refine qN ?_
    exact ⟨(),trivial,⟨rfl,trivial⟩,⟨_,List.Perm.refl _⟩,rfl⟩
   refine gae ?_
   exact retRet hj2 (rC (rA rfl zm0 rfl zsr) rN) (by simp only[zAs];rfl)
  refine oC rfl (fun hc=>absurd (zt hc) k1) (fun _=>?_)
  refine gas ?_
  by_cases k2:kind=2
  ·subst k2
   obtain ⟨x,rfl⟩:=Inp.form_value hf zDd
   rw[errEs] at e1
   rw[numEs] at n2
   rw[ndEs,ndEs] at hnd
   have hex:=(orE_zero.1 e1).1
   obtain ⟨y,rfl⟩:=form_idx1 hf
   rw[errEs] at e2
   rw[numEs] at n1
   rw[ndEs,ndEs] at hnd
   have hey:=(orE_zero.1 e2).1
   have hS:stW c n (.mk 2 name [y] [x] thn els)=(exW c x++([c.ar name]++(exW c y++[[43],[33]])),n):=by
    unfold stW;rw[if_neg zDd,if_pos rfl]
    all_goals first|done|(simp only[Cmp.headD_one,zAs];done)|(simp only[Cmp.headD_one,zAs];rfl)|rfl
   obtain ⟨rfl,rfl⟩:=Prod.mk.inj (hS.symm.trans hRM)
   have hall:=List.forall_mem_append.2 ⟨hws,hneX⟩
   simp only[tot_app] at hT
   have p7:=hX x ws n zo n2.1 hex (fun w hw=>hall w (by simp at hw ⊢;grind)) (by simp only[tot_app];omega)
   simp only[eC,eT] at p7
   have p11:=hc.ar1 name
   simp only[eC] at p11
   have p13:=put_spec (B0:=B0) (w0:=w0) (ws++exW c x) [c.ar name] n (fun w hw=>hall w (by simp at hw ⊢;grind)) (fun w hw=>hall w (by simp at hw ⊢;grind)) (by simp only[tot_app];omega)
   simp only[eT,zMc,List.map_nil] at p13
   have p18:=hX y (ws++exW c x++[c.ar name]) n zo n1.1 hey (fun w hw=>hall w (by simp at hw ⊢;grind)) (by simp only[tot_app];omega)
   simp only[eC,eT] at p18
   have p20:=put_spec (B0:=B0) (w0:=w0) (ws++exW c x++[c.ar name]++exW c y) [[43],[33]] n (fun w hw=>hall w (by simp at hw ⊢;grind)) (fun w hw=>hall w (by simp at hw ⊢;grind)) (by simp only[tot_app];omega)
   simp only[eT,zMc,List.map_nil] at p20
   refine oC rfl (fun _=>?_) (fun hc=>by cases hc)
   refine gau ?_
   refine LCode.midC (A:=Unit) (fun _=>[(6,ptr b6 0)]) (fun _=>[tR b6 ((ws++exW c x++[c.ar name]++exW c y)++[[43],[33]]) n]) (fun _=>True) ?_ (fun _ _ j2 hj2=>?_)
   ·refine LCode.draw (m:=22) rfl [cR b3 vars arrays fs sc ars own,tR b4 ws n,sR b5 2 name [y] [x] thn els] ?_
    refine aT 0 rfl rfl (Pure.ldHAgg (cs':=[_,_,_,_,_,_]) rfl zm0 rfl rfl) ?_
    refine aT 1 rfl rfl (Pure.ldHAgg (cs':=[_,_,_,_,_,_]) rfl zm0 rfl rfl) ?_
    refine aT 2 rfl rfl (Pure.ldHAgg (cs':=[_,_]) rfl zm1 rfl rfl) ?_
    refine aT 3 rfl rfl (pF rfl) ?_
    refine aT 4 rfl rfl (pL (c:=.list _) rfl zm2 rfl) ?_
    refine aT 5 rfl rfl (xR (el':=encE x) (cs:=[_,_,_,_]) rfl rfl zDd rfl rfl rfl) ?_
    refine aT 6 rfl rfl (Pure.ldRefAgg (cs':=[_,_,_,_]) rfl rfl rfl) ?_
    refine aT 8 rfl rfl (Pure.ldHAgg (cs':=[_,_,_,_,_,_]) rfl zm0 rfl rfl) ?_
    refine aT 9 rfl rfl (pF rfl) ?_
    refine aT 10 rfl rfl (pL (c:=.atom _) rfl zm2 rfl) ?_
    refine aT 14 rfl rfl (pF rfl) ?_
    refine aT 15 rfl rfl (pL (c:=.list _) rfl zm2 rfl) ?_
    refine aT 16 rfl rfl (xR (el':=encE y) (cs:=[_,_,_,_]) rfl rfl zDd rfl rfl rfl) ?_
    refine aT 17 rfl rfl (Pure.ldRefAgg (cs':=[_,_,_,_]) rfl rfl rfl) ?_
    refine LAny.late ?_ ⟨_,List.Perm.refl _⟩
    refine LLate.two (i:=7) (j:=19) zk ?_ ?_
    ·refine lS (H1:=[]) rfl (.inl rfl) rfl zpr ⟨_,List.Perm.refl _⟩ (sF [_,_,_] rfl p7 ?_)
     refine LLate.two (i:=11) (j:=19) zk ?_ ?_
     ·refine lS (H1:=[]) rfl (.inl rfl) rfl zpr ⟨_,List.Perm.refl _⟩ (sF [_,_] rfl p11 ?_)
      refine LLate.two (i:=12) (j:=19) zk ?_ ?_
      ·refine lS (H1:=[]) rfl (.inl rfl) rfl zpr ⟨_,List.Perm.refl _⟩ (sL [_] rfl (elemsOk_strs [_]) rfl rfl rfl ?_)
       refine LLate.two (i:=13) (j:=19) zk ?_ ?_
       ·refine lS (H1:=[]) rfl (.inl rfl) rfl zpr ⟨_,List.Perm.refl _⟩ (sF [_,_] rfl p13 ?_)
        refine LLate.two (i:=18) (j:=19) zk ?_ ?_
        ·refine lS (H1:=[]) rfl (.inl rfl) rfl zpr ⟨_,List.Perm.refl _⟩ (sF [_,_,_] rfl p18 ?_)
         refine zl1 (i:=19) zk ?_
         refine lS (H1:=[]) rfl (.inl rfl) rfl zpr ⟨_,List.Perm.refl _⟩ (sL [_,_] rfl (elemsOk_strs [_,_]) rfl rfl rfl ?_)
         exact zT13
        ·refine lS (H1:=[]) rfl (.inl rfl) rfl zpr ⟨_,List.Perm.refl _⟩ (sL [_,_] rfl (elemsOk_strs [_,_]) rfl rfl rfl ?_)
         refine zl1 (i:=18) zk ?_
         refine lS (H1:=[]) rfl (.inl rfl) rfl zpr ⟨_,List.Perm.refl _⟩ (sF [_,_,_] rfl p18 ?_)
         exact zT13
       ·refine lS (H1:=[]) rfl (.inl rfl) rfl zpr ⟨_,List.Perm.refl _⟩ (sL [_,_] rfl (elemsOk_strs [_,_]) rfl rfl rfl ?_)
        refine zl1 (i:=13) zk ?_
        refine lS (H1:=[]) rfl (.inl rfl) rfl zpr ⟨_,List.Perm.refl _⟩ (sF [_,_] rfl p13 ?_)
        refine zl1 (i:=18) zk ?_
        refine lS (H1:=[]) rfl (.inl rfl) rfl zpr ⟨_,List.Perm.refl _⟩ (sF [_,_,_] rfl p18 ?_)
        exact zT13
      ·refine lS (H1:=[]) rfl (.inl rfl) rfl zpr ⟨_,List.Perm.refl _⟩ (sL [_,_] rfl (elemsOk_strs [_,_]) rfl rfl rfl ?_)
       exact zT28
     ·refine lS (H1:=[]) rfl (.inl rfl) rfl zpr ⟨_,List.Perm.refl _⟩ (sL [_,_] rfl (elemsOk_strs [_,_]) rfl rfl rfl ?_)
      refine zl1 (i:=11) zk ?_
      refine lS (H1:=[]) rfl (.inl rfl) rfl zpr ⟨_,List.Perm.refl _⟩ (sF [_,_] rfl p11 ?_)
      exact zT28
    ·refine lS (H1:=[]) rfl (.inl rfl) rfl zpr ⟨_,List.Perm.refl _⟩ (sL [_,_] rfl (elemsOk_strs [_,_]) rfl rfl rfl ?_)
     refine zl1 (i:=7) zk ?_
     refine lS (H1:=[]) rfl (.inl rfl) rfl zpr ⟨_,List.Perm.refl _⟩ (sF [_,_,_] rfl p7 ?_)
     refine zl1 (i:=11) zk ?_
     refine lS (H1:=[]) rfl (.inl rfl) rfl zpr ⟨_,List.Perm.refl _⟩ (sF [_,_] rfl p11 ?_)
     exact zT28
   refine gae ?_
   exact retRet hj2 (rC (rA rfl zm0 rfl zsr) rN) (by simp only[zAs];rfl)
  refine oC rfl (fun hc=>absurd (zt hc) k2) (fun _=>?_)
  refine gas ?_
  by_cases k5:kind=5
  ·subst k5
   obtain ⟨x,rfl⟩:=Inp.form_value hf zDd
   rw[errEs] at e1
   rw[numEs] at n2
   rw[ndEs,ndEs] at hnd
   have hex:=(orE_zero.1 e1).1
   have hS:stW c n (.mk 5 name index [x] thn els)=(exW c x++[[59]],n):=by
    unfold stW;rw[if_neg zDd,if_neg zDd,if_neg zDd,if_neg zDd,if_pos rfl]
    all_goals first|done|(simp only[Cmp.headD_one,zAs];done)|(simp only[Cmp.headD_one,zAs];rfl)|rfl
   obtain ⟨rfl,rfl⟩:=Prod.mk.inj (hS.symm.trans hRM)
   have hall:=List.forall_mem_append.2 ⟨hws,hneX⟩
   simp only[tot_app] at hT
   have p6:=hX x ws n zo n2.1 hex (fun w hw=>hall w (by simp at hw ⊢;grind)) (by simp only[tot_app];omega)
   simp only[eC,eT] at p6
   have p8:=put_spec (B0:=B0) (w0:=w0) (ws++exW c x) [[59]] n (fun w hw=>hall w (by simp at hw ⊢;grind)) (fun w hw=>hall w (by simp at hw ⊢;grind)) (by simp only[tot_app];omega)
   simp only[eT,zMc,List.map_nil] at p8
   refine oC rfl (fun _=>?_) (fun hc=>by cases hc)
   refine gau ?_
   refine LCode.midC (A:=Unit) (fun _=>[(6,ptr b6 0)]) (fun _=>[tR b6 ((ws++exW c x)++[[59]]) n]) (fun _=>True) ?_ (fun _ _ j2 hj2=>?_)
   ·refine LCode.draw (m:=10) rfl [cR b3 vars arrays fs sc ars own,tR b4 ws n,sR b5 5 name index [x] thn els] ?_
    refine aT 0 rfl rfl (Pure.ldHAgg (cs':=[_,_,_,_,_,_]) rfl zm0 rfl rfl) ?_
    refine aT 1 rfl rfl (Pure.ldHAgg (cs':=[_,_]) rfl zm1 rfl rfl) ?_
    refine aT 2 rfl rfl (pF rfl) ?_
    refine aT 3 rfl rfl (pL (c:=.list _) rfl zm2 rfl) ?_
    refine aT 4 rfl rfl (xR (el':=encE x) (cs:=[_,_,_,_]) rfl rfl zDd rfl rfl rfl) ?_
    refine aT 5 rfl rfl (Pure.ldRefAgg (cs':=[_,_,_,_]) rfl rfl rfl) ?_
    refine LAny.late ?_ ⟨_,List.Perm.refl _⟩
    refine LLate.two (i:=6) (j:=7) zk ?_ ?_
    ·refine lS (H1:=[]) rfl (.inl rfl) rfl zpr ⟨_,List.Perm.refl _⟩ (sF [_,_,_] rfl p6 ?_)
     refine zl1 (i:=7) zk ?_
     refine lS (H1:=[]) rfl (.inl rfl) rfl zpr ⟨_,List.Perm.refl _⟩ (sL [_] rfl (elemsOk_strs [_]) rfl rfl rfl ?_)
     exact zT34
    ·refine lS (H1:=[]) rfl (.inl rfl) rfl zpr ⟨_,List.Perm.refl _⟩ (sL [_] rfl (elemsOk_strs [_]) rfl rfl rfl ?_)
     refine zl1 (i:=6) zk ?_
     refine lS (H1:=[]) rfl (.inl rfl) rfl zpr ⟨_,List.Perm.refl _⟩ (sF [_,_,_] rfl p6 ?_)
     exact zT34
   refine gae ?_
   exact retRet hj2 (rC (rA rfl zm0 rfl zsr) rN) (by simp only[zAs];rfl)
  refine oC rfl (fun hc=>absurd (zt hc) k5) (fun _=>?_)
  refine gas ?_
  by_cases k6:kind=6
  ·subst k6
   obtain ⟨x,rfl⟩:=Inp.form_value hf zDd
   rw[errEs] at e1
   rw[numEs] at n2
   rw[ndEs,ndEs] at hnd
   have hex:=(orE_zero.1 e1).1
   have hS:stW c n (.mk 6 name index [x] thn els)=(exW c x++[c.t0,[33]],n):=by
    unfold stW;rw[if_neg zDd,if_neg zDd,if_neg zDd,if_neg zDd,if_neg zDd,if_pos rfl]
    all_goals first|done|(simp only[Cmp.headD_one,zAs];done)|(simp only[Cmp.headD_one,zAs];rfl)|rfl
   obtain ⟨rfl,rfl⟩:=Prod.mk.inj (hS.symm.trans hRM)
   have hall:=List.forall_mem_append.2 ⟨hws,hneX⟩
   simp only[tot_app] at hT
   have p6:=hX x ws n zo n2.1 hex (fun w hw=>hall w (by simp at hw ⊢;grind)) (by simp only[tot_app];omega)
   simp only[eC,eT] at p6
   have p9:=num23_spec (B0:=B0) (w0:=w0) sc zo
   rw[←hc.t0] at p9
   have p11:=put_spec (B0:=B0) (w0:=w0) (ws++exW c x) [c.t0,[33]] n (fun w hw=>hall w (by simp at hw ⊢;grind)) (fun w hw=>hall w (by simp at hw ⊢;grind)) (by simp only[tot_app];omega)
   simp only[eT,zMc,List.map_nil] at p11
   refine oC rfl (fun _=>?_) (fun hc=>by cases hc)
   refine gau ?_
   refine LCode.midC (A:=Unit) (fun _=>[(6,ptr b6 0)]) (fun _=>[tR b6 ((ws++exW c x)++[c.t0,[33]]) n]) (fun _=>True) ?_ (fun _ _ j2 hj2=>?_)
   ·refine LCode.draw (m:=13) rfl [cR b3 vars arrays fs sc ars own,tR b4 ws n,sR b5 6 name index [x] thn els] ?_
    refine aT 0 rfl rfl (Pure.ldHAgg (cs':=[_,_,_,_,_,_]) rfl zm0 rfl rfl) ?_
    refine aT 1 rfl rfl (Pure.ldHAgg (cs':=[_,_]) rfl zm1 rfl rfl) ?_
    refine aT 2 rfl rfl (pF rfl) ?_
    refine aT 3 rfl rfl (pL (c:=.list _) rfl zm2 rfl) ?_
    refine aT 4 rfl rfl (xR (el':=encE x) (cs:=[_,_,_,_]) rfl rfl zDd rfl rfl rfl) ?_
    refine aT 5 rfl rfl (Pure.ldRefAgg (cs':=[_,_,_,_]) rfl rfl rfl) ?_
    refine aT 7 rfl rfl (pF rfl) ?_
    refine aT 8 rfl rfl (pL (c:=.atom _) rfl zm0 rfl) ?_
    refine LAny.late ?_ ⟨_,List.Perm.refl _⟩
    refine zl1 (i:=6) zk ?_
    refine lS (H1:=[]) rfl (.inl rfl) rfl zpr ⟨_,List.Perm.refl _⟩ (sF [_,_,_] rfl p6 ?_)
    refine zl1 (i:=9) zk ?_
    refine lS (H1:=[]) rfl (.inl rfl) rfl zpr ⟨_,List.Perm.refl _⟩ (sF [_] rfl p9 ?_)
    refine zl1 (i:=10) zk ?_
    refine lS (H1:=[]) rfl (.inl rfl) rfl zpr ⟨_,List.Perm.refl _⟩ (sL [_,_] rfl (elemsOk_strs [_,_]) rfl rfl rfl ?_)
    refine zl1 (i:=11) zk ?_
    refine lS (H1:=[]) rfl (.inl rfl) rfl zpr ⟨_,List.Perm.refl _⟩ (sF [_,_] rfl p11 ?_)
    refine zl1 (i:=12) zk ?_
    refine lS (H1:=[zR b6]) (F:=[cR b3 vars arrays fs sc ars own,tR b4 ws n,sR b5 6 name index [x] thn els]) rfl (.inl rfl) rfl (zPc (l₁:=[cR b3 vars arrays fs sc ars own,tR b4 ws n,sR b5 6 name index [x] thn els]) (l₂:=[_])) zhr (sS (cs':=[_,_]) rfl pH rfl rfl rfl rfl rfl ?_)
    refine lD zk ?_
    refine qN ?_
    exact ⟨(),trivial,⟨rfl,trivial⟩,⟨_,List.Perm.refl _⟩,rfl⟩
   refine gae ?_
   exact retRet hj2 (rC (rA rfl zm0 rfl zsr) rN) (by simp only[zAs];rfl)
  refine oC rfl (fun hc=>absurd (zt hc) k6) (fun _=>?_)
  refine gas ?_
  by_cases k7:kind=7
  ·subst k7
   have hS:stW c n (.mk 7 name index value thn els)=([[36]],n):=by
    unfold stW;rw[if_neg zDd,if_neg zDd,if_neg zDd,if_neg zDd,if_neg zDd,if_neg zDd,if_pos rfl]
    all_goals first|done|(simp only[Cmp.headD_one,zAs];done)|(simp only[Cmp.headD_one,zAs];rfl)|rfl
   obtain ⟨rfl,rfl⟩:=Prod.mk.inj (hS.symm.trans hRM)
   have hall:=List.forall_mem_append.2 ⟨hws,hneX⟩
   simp only[tot_app] at hT
   have p2:=put_spec (B0:=B0) (w0:=w0) ws [[36]] n (fun w hw=>hall w (by simp at hw ⊢;grind)) (fun w hw=>hall w (by simp at hw ⊢;grind)) (by simp only[tot_app];omega)
   simp only[eT,zMc,List.map_nil] at p2
   refine oC rfl (fun _=>?_) (fun hc=>by cases hc)
   refine gab ?_
   refine oS (sL [_] rfl (elemsOk_strs [_]) rfl rfl rfl ?_) rfl
   refine oS (sF [_,_] rfl p2 ?_) rfl
   refine oS (sS (cs':=[_,_]) rfl zp3 rfl rfl rfl rfl rfl ?_) rfl
   refine gae ?_
   exact retRet rfl (rC (rA rfl zm0 rfl zsr) rN) rfl
  refine oC rfl (fun hc=>absurd (zt hc) k7) (fun _=>?_)
  refine gab ?_
  have hk34:kind=3∨kind=4:=by
   have:=form_kind hf
   omega
  obtain ⟨x,rfl⟩:=Inp.form_value hf k7
  rw[errEs] at e1
  rw[numEs] at n2
  rw[ndEs,ndEs] at hnd
  have hex:=(orE_zero.1 e1).1
  rcases hk34 with rfl|rfl
  ·cases els with
   |nil=>
    have hS:stW c n (.mk 3 name index [x] thn [])=(exW c x++([38::labW n,[63]]++((stWs c (n+1) thn).1++[labW n++[58]])),(stWs c (n+1) thn).2):=by
     unfold stW;rw[if_neg zDd,if_neg zDd,if_pos rfl]
     all_goals first|done|(simp only[Cmp.headD_one,zAs];done)|(simp only[Cmp.headD_one,zAs];rfl)|rfl
    obtain ⟨rfl,rfl⟩:=Prod.mk.inj (hS.symm.trans hRM)
    have hall:=List.forall_mem_append.2 ⟨hws,hneX⟩
    simp only[tot_app] at hT
    generalize hB:stWs c (n+1) thn=B at *
    have p7:=hX x ws (n+1) zo n2.1 hex (fun w hw=>hall w (by simp at hw ⊢;grind)) (by simp only[tot_app];omega)
    simp only[eC,eT] at p7
    have p11:=put_spec (B0:=B0) (w0:=w0) (ws++exW c x) [38::labW n,[63]] (n+1) (fun w hw=>hall w (by simp at hw ⊢;grind)) (fun w hw=>hall w (by simp at hw ⊢;grind)) (by simp only[tot_app];omega)
    simp only[eT,zMc,List.map_nil] at p11
    have p14:=body23_spec thn hth (ws++exW c x++[38::labW n,[63]]) (n+1) zo (by rw[hB];exact (fun w hw=>hall w (by simp at hw ⊢;grind))) (by rw[hB];simp only[tot_app];omega) zo
    rw[hB] at p14
    simp only[eC,eT] at p14
    have p18:=put_spec (B0:=B0) (w0:=w0) (ws++exW c x++[38::labW n,[63]]++B.1) [labW n++[58]] B.2 (fun w hw=>hall w (by simp at hw ⊢;grind)) (fun w hw=>hall w (by simp at hw ⊢;grind)) (by simp only[tot_app];omega)
    simp only[eT,zMc,List.map_nil] at p18
    refine oS (sF [_] rfl hb1 ?_) rfl
    refine gab ?_
    refine LCode.weak (H':=[cR b3 vars arrays fs sc ars own,tR b4 ws (n+1),sR b5 3 name index [x] thn [],zR b6]) ⟨[],by rw[zLz];exact List.Perm.swap _ _ _⟩ ?_
    refine oC rfl (fun _=>?_) (fun hc=>by cases hc)
    refine gau ?_
    refine LCode.midC (A:=Unit) (fun _=>[(6,ptr b6 0)]) (fun _=>[tR b6 ((ws++exW c x++[38::labW n,[63]]++B.1)++[labW n++[58]]) B.2]) (fun _=>True) ?_ (fun _ _ j2 hj2=>?_)
    ·refine LCode.draw (m:=20) rfl [cR b3 vars arrays fs sc ars own,tR b4 ws (n+1),sR b5 3 name index [x] thn []] ?_
     refine aT 0 rfl rfl (Pure.ldHAgg (cs':=[_,_,_,_,_,_]) rfl zm0 rfl rfl) ?_
     refine aT 1 rfl rfl (Pure.ldHAgg (cs':=[_,_,_,_,_,_]) rfl zm0 rfl rfl) ?_
     refine aT 2 rfl rfl (Pure.ldHAgg (cs':=[_,_]) rfl zm1 rfl rfl) ?_
     refine aT 3 rfl rfl (pF rfl) ?_
     refine aT 4 rfl rfl (pL (c:=.list _) rfl zm2 rfl) ?_
     refine aT 5 rfl rfl (xR (el':=encE x) (cs:=[_,_,_,_]) rfl rfl zDd rfl rfl rfl) ?_
     refine aT 6 rfl rfl (Pure.ldRefAgg (cs':=[_,_,_,_]) rfl rfl rfl) ?_
     refine aT 8 rfl rfl (pM (lv:=.atom _) rfl) ?_
     refine aT 9 rfl rfl (Pure.sadd rfl rfl (by first|omega|(simp only[zLa,zLc,zLn];omega))) ?_
     refine aT 12 rfl rfl (pF rfl) ?_
     refine aT 13 rfl rfl (pL (c:=.list _) rfl zm2 rfl) ?_
     refine aT 15 rfl rfl (pM (lv:=.atom _) rfl) ?_
     refine aT 16 rfl rfl (Pure.sadd rfl rfl (by first|omega|(simp only[zLa,zLc,zLn];omega))) ?_
     refine LAny.late ?_ ⟨_,List.Perm.refl _⟩
     refine LLate.three (i:=7) (j:=10) (k:=17) zk ?_ ?_ ?_
     ·refine lS (H1:=[]) rfl (.inl rfl) rfl zpr ⟨_,List.Perm.refl _⟩ (sF [_,_,_] rfl p7 ?_)
      refine LLate.two (i:=10) (j:=17) zk ?_ ?_
      ·refine lS (H1:=[]) rfl (.inl rfl) rfl zpr ⟨_,List.Perm.refl _⟩ (sL [_,_] rfl (elemsOk_strs [_,_]) rfl rfl rfl ?_)
       exact zT25
      ·refine lS (H1:=[]) rfl (.inl rfl) rfl zpr ⟨_,List.Perm.refl _⟩ (sL [_] rfl (elemsOk_strs [_]) rfl rfl rfl ?_)
       refine zl1 (i:=10) zk ?_
       refine lS (H1:=[]) rfl (.inl rfl) rfl zpr ⟨_,List.Perm.refl _⟩ (sL [_,_] rfl (elemsOk_strs [_,_]) rfl rfl rfl ?_)
       exact zT21
     ·refine lS (H1:=[]) rfl (.inl rfl) rfl zpr ⟨_,List.Perm.refl _⟩ (sL [_,_] rfl (elemsOk_strs [_,_]) rfl rfl rfl ?_)
      refine LLate.two (i:=7) (j:=17) zk ?_ ?_
      ·refine lS (H1:=[]) rfl (.inl rfl) rfl zpr ⟨_,List.Perm.refl _⟩ (sF [_,_,_] rfl p7 ?_)
       exact zT25
      ·refine lS (H1:=[]) rfl (.inl rfl) rfl zpr ⟨_,List.Perm.refl _⟩ (sL [_] rfl (elemsOk_strs [_]) rfl rfl rfl ?_)
       refine zl1 (i:=7) zk ?_
       refine lS (H1:=[]) rfl (.inl rfl) rfl zpr ⟨_,List.Perm.refl _⟩ (sF [_,_,_] rfl p7 ?_)
       exact zT21
     ·refine lS (H1:=[]) rfl (.inl rfl) rfl zpr ⟨_,List.Perm.refl _⟩ (sL [_] rfl (elemsOk_strs [_]) rfl rfl rfl ?_)
      refine LLate.two (i:=7) (j:=10) zk ?_ ?_
      ·refine lS (H1:=[]) rfl (.inl rfl) rfl zpr ⟨_,List.Perm.refl _⟩ (sF [_,_,_] rfl p7 ?_)
       refine zl1 (i:=10) zk ?_
       refine lS (H1:=[]) rfl (.inl rfl) rfl zpr ⟨_,List.Perm.refl _⟩ (sL [_,_] rfl (elemsOk_strs [_,_]) rfl rfl rfl ?_)
       exact zT21
      ·refine lS (H1:=[]) rfl (.inl rfl) rfl zpr ⟨_,List.Perm.refl _⟩ (sL [_,_] rfl (elemsOk_strs [_,_]) rfl rfl rfl ?_)
       refine zl1 (i:=7) zk ?_
       refine lS (H1:=[]) rfl (.inl rfl) rfl zpr ⟨_,List.Perm.refl _⟩ (sF [_,_,_] rfl p7 ?_)
       exact zT21
    refine gae ?_
    exact retRet hj2 (rC (rA rfl zm0 rfl zsr) rN) (by simp only[zAs];rfl)
   |cons s0 r0=>
    have hne0:¬ (((s0::r0).map encS).length:Int)=0:=by
     rw[zLm,zLc]
     omega
    have hS:stW c n (.mk 3 name index [x] thn (s0::r0))=(exW c x++([38::labW n,[63]]++((stWs c (n+2) thn).1++([[48],38::labW (n+1),[63],labW n++[58]]++((stWs c (stWs c (n+2) thn).2 (s0::r0)).1++[labW (n+1)++[58]])))),(stWs c (stWs c (n+2) thn).2 (s0::r0)).2):=by
     unfold stW;rw[if_neg zDd,if_neg zDd,if_pos rfl]
     all_goals first|done|(simp only[Cmp.headD_one,zAs];done)|(simp only[Cmp.headD_one,zAs];rfl)|rfl
    obtain ⟨rfl,rfl⟩:=Prod.mk.inj (hS.symm.trans hRM)
    have hall:=List.forall_mem_append.2 ⟨hws,hneX⟩
    simp only[tot_app] at hT
    have hlb:=stWs_lab c thn (n+2)
    generalize hels:s0::r0=els at *
    generalize hB:stWs c (n+2) thn=B at *
    generalize hD:stWs c B.2 els=D at *
    have p7:=hX x ws (n+2) zo n2.1 hex (fun w hw=>hall w (by simp at hw ⊢;grind)) (by simp only[tot_app];omega)
    simp only[eC,eT] at p7
    have p11:=put_spec (B0:=B0) (w0:=w0) (ws++exW c x) [38::labW n,[63]] (n+2) (fun w hw=>hall w (by simp at hw ⊢;grind)) (fun w hw=>hall w (by simp at hw ⊢;grind)) (by simp only[tot_app];omega)
    simp only[eT,zMc,List.map_nil] at p11
    have p14:=body23_spec thn hth (ws++exW c x++[38::labW n,[63]]) (n+2) zo (by rw[hB];exact (fun w hw=>hall w (by simp at hw ⊢;grind))) (by rw[hB];simp only[tot_app];omega) zo
    rw[hB] at p14
    simp only[eC,eT] at p14
    have p20:=put_spec (B0:=B0) (w0:=w0) (ws++exW c x++[38::labW n,[63]]++B.1) [[48],38::labW (n+1),[63],labW n++[58]] B.2 (fun w hw=>hall w (by simp at hw ⊢;grind)) (fun w hw=>hall w (by simp at hw ⊢;grind)) (by simp only[tot_app];omega)
    simp only[eT,zMc,List.map_nil] at p20
    have p40:=body23_spec els hel ((ws++exW c x++[38::labW n,[63]]++B.1)++[[48],38::labW (n+1),[63],labW n++[58]]) B.2 zo (by rw[hD];exact (fun w hw=>hall w (by simp at hw ⊢;grind))) (by rw[hD];simp only[tot_app];omega) zo
    rw[hD] at p40
    simp only[eC,eT] at p40
    have p41:=put_spec (B0:=B0) (w0:=w0) (((ws++exW c x++[38::labW n,[63]]++B.1)++[[48],38::labW (n+1),[63],labW n++[58]])++D.1) [labW (n+1)++[58]] D.2 (fun w hw=>hall w (by simp at hw ⊢;grind)) (fun w hw=>hall w (by simp at hw ⊢;grind)) (by simp only[tot_app];omega)
    simp only[eT,zMc,List.map_nil] at p41
    refine oS (sF [_] rfl hb1 ?_) rfl
    refine gab ?_
    refine LCode.weak (H':=[cR b3 vars arrays fs sc ars own,tR b4 ws (n+1),sR b5 3 name index [x] thn els,zR b6]) ⟨[],by rw[zLz];exact List.Perm.swap _ _ _⟩ ?_
    refine oC rfl (fun hc=>absurd (zt hc) hne0) (fun _=>?_)
    refine gab ?_
    refine oS (sF [_] rfl hb2 ?_) rfl
    refine gab ?_
    refine LCode.weak (H':=[cR b3 vars arrays fs sc ars own,sR b5 3 name index [x] thn els,tR b4 ws (n+2),zR b6]) ⟨[],by rw[zLz];exact (List.Perm.swap _ _ _).trans (List.Perm.cons _ (List.Perm.swap _ _ _))⟩ ?_
    refine oC rfl (fun hc=>by cases hc) (fun _=>?_)
    refine gad ?_
    refine LCode.midC (A:=Unit) (fun _=>[(3,ptr b3 0),(4,ptr b4 0),(5,ptr b5 0),(6,ptr b6 0),(8,str (labW (n+1)))]) (fun _=>[tR b4 (((ws++exW c x++[38::labW n,[63]]++B.1)++[[48],38::labW (n+1),[63],labW n++[58]])) B.2,cR b3 vars arrays fs sc ars own,sR b5 3 name index [x] thn els,zR b6]) (fun _=>True) ?_ (fun _ _ j2 hj2=>?_)
    ·refine LCode.draw (m:=22) rfl [cR b3 vars arrays fs sc ars own,sR b5 3 name index [x] thn els] ?_
     refine aT 0 rfl rfl (Pure.ldHAgg (cs':=[_,_,_,_,_,_]) rfl zm0 rfl rfl) ?_
     refine aT 1 rfl rfl (Pure.ldHAgg (cs':=[_,_,_,_,_,_]) rfl zm0 rfl rfl) ?_
     refine aT 3 rfl rfl (pF rfl) ?_
     refine aT 4 rfl rfl (pL (c:=.list _) rfl zm1 rfl) ?_
     refine aT 5 rfl rfl (xR (el':=encE x) (cs:=[_,_,_,_]) rfl rfl zDd rfl rfl rfl) ?_
     refine aT 6 rfl rfl (Pure.ldRefAgg (cs':=[_,_,_,_]) rfl rfl rfl) ?_
     refine aT 8 rfl rfl (pM (lv:=.atom _) rfl) ?_
     refine aT 9 rfl rfl (Pure.sadd rfl rfl (by first|omega|(simp only[zLa,zLc,zLn];omega))) ?_
     refine aT 12 rfl rfl (pF rfl) ?_
     refine aT 13 rfl rfl (pL (c:=.list _) rfl zm1 rfl) ?_
     refine aT 15 rfl rfl (pM (lv:=.atom _) rfl) ?_
     refine aT 16 rfl rfl (Pure.sadd rfl rfl (by first|omega|(simp only[zLa,zLc,zLn];omega))) ?_
     refine aT 17 rfl rfl (pM (lv:=.atom _) rfl) ?_
     refine aT 18 rfl rfl (Pure.sadd rfl rfl (by first|omega|(simp only[zLa,zLc,zLn];omega))) ?_
     refine LAny.late ?_ ⟨_,List.Perm.refl _⟩
     refine LLate.three (i:=2) (j:=10) (k:=19) zk ?_ ?_ ?_
     ·refine lH rfl rfl (Pure.ldHAgg (cs':=[_,_]) rfl zm2 rfl rfl) ?_
      refine LLate.three (i:=7) (j:=10) (k:=19) zk ?_ ?_ ?_
      ·refine lS (H1:=[]) rfl (.inl rfl) rfl zpr ⟨_,List.Perm.refl _⟩ (sF [_,_,_] rfl p7 ?_)
       refine LLate.two (i:=10) (j:=19) zk ?_ ?_
       ·refine lS (H1:=[]) rfl (.inl rfl) rfl zpr ⟨_,List.Perm.refl _⟩ (sL [_,_] rfl (elemsOk_strs [_,_]) rfl rfl rfl ?_)
        exact zT11
       ·refine lS (H1:=[]) rfl (.inl rfl) rfl zpr ⟨_,List.Perm.refl _⟩ (sL [_,_,_,_] rfl (elemsOk_strs [_,_,_,_]) rfl rfl rfl ?_)
        refine zl1 (i:=10) zk ?_
        refine lS (H1:=[]) rfl (.inl rfl) rfl zpr ⟨_,List.Perm.refl _⟩ (sL [_,_] rfl (elemsOk_strs [_,_]) rfl rfl rfl ?_)
        refine zl1 (i:=11) zk ?_
        refine lS (H1:=[]) rfl (.inl rfl) rfl zpr ⟨_,List.Perm.refl _⟩ (sF [_,_] rfl p11 ?_)
        exact zT2
      ·refine lS (H1:=[]) rfl (.inl rfl) rfl zpr ⟨_,List.Perm.refl _⟩ (sL [_,_] rfl (elemsOk_strs [_,_]) rfl rfl rfl ?_)
       exact zT45
      ·refine lS (H1:=[]) rfl (.inl rfl) rfl zpr ⟨_,List.Perm.refl _⟩ (sL [_,_,_,_] rfl (elemsOk_strs [_,_,_,_]) rfl rfl rfl ?_)
       exact zT32
     ·refine lS (H1:=[]) rfl (.inl rfl) rfl zpr ⟨_,List.Perm.refl _⟩ (sL [_,_] rfl (elemsOk_strs [_,_]) rfl rfl rfl ?_)
      refine LLate.two (i:=2) (j:=19) zk ?_ ?_
      ·refine lH rfl rfl (Pure.ldHAgg (cs':=[_,_]) rfl zm2 rfl rfl) ?_
       exact zT45
      ·refine lS (H1:=[]) rfl (.inl rfl) rfl zpr ⟨_,List.Perm.refl _⟩ (sL [_,_,_,_] rfl (elemsOk_strs [_,_,_,_]) rfl rfl rfl ?_)
       refine zl1 (i:=2) zk ?_
       refine lH rfl rfl (Pure.ldHAgg (cs':=[_,_]) rfl zm2 rfl rfl) ?_
       exact zT22
     ·refine lS (H1:=[]) rfl (.inl rfl) rfl zpr ⟨_,List.Perm.refl _⟩ (sL [_,_,_,_] rfl (elemsOk_strs [_,_,_,_]) rfl rfl rfl ?_)
      refine LLate.two (i:=2) (j:=10) zk ?_ ?_
      ·refine lH rfl rfl (Pure.ldHAgg (cs':=[_,_]) rfl zm2 rfl rfl) ?_
       exact zT32
      ·refine lS (H1:=[]) rfl (.inl rfl) rfl zpr ⟨_,List.Perm.refl _⟩ (sL [_,_] rfl (elemsOk_strs [_,_]) rfl rfl rfl ?_)
       refine zl1 (i:=2) zk ?_
       refine lH rfl rfl (Pure.ldHAgg (cs':=[_,_]) rfl zm2 rfl rfl) ?_
       exact zT22
    refine gab ?_
    refine oS (sF [_,_,_] rfl p40 ?_) rfl
    refine gac ?_
    refine oS (sL [_] rfl (elemsOk_strs [_]) rfl rfl rfl ?_) rfl
    refine oS (sF [_,_] rfl p41 ?_) rfl
    refine oS (sS (cs':=[_,_]) rfl zp3 rfl rfl rfl rfl rfl ?_) rfl
    refine gae ?_
    exact retRet hj2 (rC (rA rfl zm0 rfl zsr) rN) (by simp only[zAs];rfl)
  ·skip
   have hS:stW c n (.mk 4 name index [x] thn els)=([labW n++[58]]++(exW c x++([38::labW (n+1),[63]]++((stWs c (n+2) thn).1++[[48],38::labW n,[63],labW (n+1)++[58]]))),(stWs c (n+2) thn).2):=by
    unfold stW;rw[if_neg zDd,if_neg zDd,if_neg zDd,if_pos rfl]
    all_goals first|done|(simp only[Cmp.headD_one,zAs];done)|(simp only[Cmp.headD_one,zAs];rfl)|rfl
   obtain ⟨rfl,rfl⟩:=Prod.mk.inj (hS.symm.trans hRM)
   have hall:=List.forall_mem_append.2 ⟨hws,hneX⟩
   simp only[tot_app] at hT
   generalize hB:stWs c (n+2) thn=B at *
   have p6:=put_spec (B0:=B0) (w0:=w0) ws [labW n++[58]] (n+2) (fun w hw=>hall w (by simp at hw ⊢;grind)) (fun w hw=>hall w (by simp at hw ⊢;grind)) (by simp only[tot_app];omega)
   simp only[eT,zMc,List.map_nil] at p6
   have p11:=hX x (ws++[labW n++[58]]) (n+2) zo n2.1 hex (fun w hw=>hall w (by simp at hw ⊢;grind)) (by simp only[tot_app];omega)
   simp only[eC,eT] at p11
   have p15:=put_spec (B0:=B0) (w0:=w0) (ws++[labW n++[58]]++exW c x) [38::labW (n+1),[63]] (n+2) (fun w hw=>hall w (by simp at hw ⊢;grind)) (fun w hw=>hall w (by simp at hw ⊢;grind)) (by simp only[tot_app];omega)
   simp only[eT,zMc,List.map_nil] at p15
   have p18:=body23_spec thn hth (ws++[labW n++[58]]++exW c x++[38::labW (n+1),[63]]) (n+2) zo (by rw[hB];exact (fun w hw=>hall w (by simp at hw ⊢;grind))) (by rw[hB];simp only[tot_app];omega) zo
   rw[hB] at p18
   simp only[eC,eT] at p18
   have p24:=put_spec (B0:=B0) (w0:=w0) (ws++[labW n++[58]]++exW c x++[38::labW (n+1),[63]]++B.1) [[48],38::labW n,[63],labW (n+1)++[58]] B.2 (fun w hw=>hall w (by simp at hw ⊢;grind)) (fun w hw=>hall w (by simp at hw ⊢;grind)) (by simp only[tot_app];omega)
   simp only[eT,zMc,List.map_nil] at p24
   refine oS (sF [_] rfl hb1 ?_) rfl
   refine gab ?_
   refine LCode.weak (H':=[cR b3 vars arrays fs sc ars own,tR b4 ws (n+1),sR b5 4 name index [x] thn els,zR b6]) ⟨[],by rw[zLz];exact List.Perm.swap _ _ _⟩ ?_
   refine oC rfl (fun hc=>by cases hc) (fun _=>?_)
   refine gab ?_
   refine oS (sF [_] rfl hb2 ?_) rfl
   refine gab ?_
   refine LCode.weak (H':=[cR b3 vars arrays fs sc ars own,tR b4 ws (n+2),sR b5 4 name index [x] thn els,zR b6]) ⟨[],by rw[zLz];exact List.Perm.swap _ _ _⟩ ?_
   refine oC rfl (fun _=>?_) (fun hc=>by cases hc)
   refine gau ?_
   refine LCode.midC (A:=Unit) (fun _=>[(6,ptr b6 0)]) (fun _=>[tR b6 ((ws++[labW n++[58]]++exW c x++[38::labW (n+1),[63]]++B.1)++[[48],38::labW n,[63],labW (n+1)++[58]]) B.2]) (fun _=>True) ?_ (fun _ _ j2 hj2=>?_)
   ·refine LCode.draw (m:=26) rfl [cR b3 vars arrays fs sc ars own,tR b4 ws (n+2),sR b5 4 name index [x] thn els] ?_
    refine aT 0 rfl rfl (Pure.ldHAgg (cs':=[_,_,_,_,_,_]) rfl zm0 rfl rfl) ?_
    refine aT 1 rfl rfl (Pure.ldHAgg (cs':=[_,_,_,_,_,_]) rfl zm0 rfl rfl) ?_
    refine aT 2 rfl rfl (Pure.ldHAgg (cs':=[_,_]) rfl zm1 rfl rfl) ?_
    refine aT 3 rfl rfl (pM (lv:=.atom _) rfl) ?_
    refine aT 4 rfl rfl (Pure.sadd rfl rfl (by first|omega|(simp only[zLa,zLc,zLn];omega))) ?_
    refine aT 7 rfl rfl (pF rfl) ?_
    refine aT 8 rfl rfl (pL (c:=.list _) rfl zm2 rfl) ?_
    refine aT 9 rfl rfl (xR (el':=encE x) (cs:=[_,_,_,_]) rfl rfl zDd rfl rfl rfl) ?_
    refine aT 10 rfl rfl (Pure.ldRefAgg (cs':=[_,_,_,_]) rfl rfl rfl) ?_
    refine aT 12 rfl rfl (pM (lv:=.atom _) rfl) ?_
    refine aT 13 rfl rfl (Pure.sadd rfl rfl (by first|omega|(simp only[zLa,zLc,zLn];omega))) ?_
    refine aT 16 rfl rfl (pF rfl) ?_
    refine aT 17 rfl rfl (pL (c:=.list _) rfl zm2 rfl) ?_
    refine aT 19 rfl rfl (pM (lv:=.atom _) rfl) ?_
    refine aT 20 rfl rfl (Pure.sadd rfl rfl (by first|omega|(simp only[zLa,zLc,zLn];omega))) ?_
    refine aT 21 rfl rfl (pM (lv:=.atom _) rfl) ?_
    refine aT 22 rfl rfl (Pure.sadd rfl rfl (by first|omega|(simp only[zLa,zLc,zLn];omega))) ?_
    refine LAny.late ?_ ⟨_,List.Perm.refl _⟩
    refine LLate.three (i:=5) (j:=14) (k:=23) zk ?_ ?_ ?_
    ·refine lS (H1:=[]) rfl (.inl rfl) rfl zpr ⟨_,List.Perm.refl _⟩ (sL [_] rfl (elemsOk_strs [_]) rfl rfl rfl ?_)
     refine LLate.three (i:=6) (j:=14) (k:=23) zk ?_ ?_ ?_
     ·refine lS (H1:=[]) rfl (.inl rfl) rfl zpr ⟨_,List.Perm.refl _⟩ (sF [_,_] rfl p6 ?_)
      refine LLate.three (i:=11) (j:=14) (k:=23) zk ?_ ?_ ?_
      ·refine lS (H1:=[]) rfl (.inl rfl) rfl zpr ⟨_,List.Perm.refl _⟩ (sF [_,_,_] rfl p11 ?_)
       refine LLate.two (i:=14) (j:=23) zk ?_ ?_
       ·refine lS (H1:=[]) rfl (.inl rfl) rfl zpr ⟨_,List.Perm.refl _⟩ (sL [_,_] rfl (elemsOk_strs [_,_]) rfl rfl rfl ?_)
        exact zT5
       ·refine lS (H1:=[]) rfl (.inl rfl) rfl zpr ⟨_,List.Perm.refl _⟩ (sL [_,_,_,_] rfl (elemsOk_strs [_,_,_,_]) rfl rfl rfl ?_)
        refine zl1 (i:=14) zk ?_
        refine lS (H1:=[]) rfl (.inl rfl) rfl zpr ⟨_,List.Perm.refl _⟩ (sL [_,_] rfl (elemsOk_strs [_,_]) rfl rfl rfl ?_)
        refine zl1 (i:=15) zk ?_
        refine lS (H1:=[]) rfl (.inl rfl) rfl zpr ⟨_,List.Perm.refl _⟩ (sF [_,_] rfl p15 ?_)
        exact zT1
      ·refine lS (H1:=[]) rfl (.inl rfl) rfl zpr ⟨_,List.Perm.refl _⟩ (sL [_,_] rfl (elemsOk_strs [_,_]) rfl rfl rfl ?_)
       refine LLate.two (i:=11) (j:=23) zk ?_ ?_
       ·refine lS (H1:=[]) rfl (.inl rfl) rfl zpr ⟨_,List.Perm.refl _⟩ (sF [_,_,_] rfl p11 ?_)
        exact zT5
       ·refine lS (H1:=[]) rfl (.inl rfl) rfl zpr ⟨_,List.Perm.refl _⟩ (sL [_,_,_,_] rfl (elemsOk_strs [_,_,_,_]) rfl rfl rfl ?_)
        exact zT12
      ·refine lS (H1:=[]) rfl (.inl rfl) rfl zpr ⟨_,List.Perm.refl _⟩ (sL [_,_,_,_] rfl (elemsOk_strs [_,_,_,_]) rfl rfl rfl ?_)
       exact zT23
     ·refine lS (H1:=[]) rfl (.inl rfl) rfl zpr ⟨_,List.Perm.refl _⟩ (sL [_,_] rfl (elemsOk_strs [_,_]) rfl rfl rfl ?_)
      exact zT29
     ·refine lS (H1:=[]) rfl (.inl rfl) rfl zpr ⟨_,List.Perm.refl _⟩ (sL [_,_,_,_] rfl (elemsOk_strs [_,_,_,_]) rfl rfl rfl ?_)
      exact zT41
    ·refine lS (H1:=[]) rfl (.inl rfl) rfl zpr ⟨_,List.Perm.refl _⟩ (sL [_,_] rfl (elemsOk_strs [_,_]) rfl rfl rfl ?_)
     refine LLate.two (i:=5) (j:=23) zk ?_ ?_
     ·refine lS (H1:=[]) rfl (.inl rfl) rfl zpr ⟨_,List.Perm.refl _⟩ (sL [_] rfl (elemsOk_strs [_]) rfl rfl rfl ?_)
      exact zT29
     ·refine lS (H1:=[]) rfl (.inl rfl) rfl zpr ⟨_,List.Perm.refl _⟩ (sL [_,_,_,_] rfl (elemsOk_strs [_,_,_,_]) rfl rfl rfl ?_)
      exact zT49
    ·refine lS (H1:=[]) rfl (.inl rfl) rfl zpr ⟨_,List.Perm.refl _⟩ (sL [_,_,_,_] rfl (elemsOk_strs [_,_,_,_]) rfl rfl rfl ?_)
     refine LLate.two (i:=5) (j:=14) zk ?_ ?_
     ·refine lS (H1:=[]) rfl (.inl rfl) rfl zpr ⟨_,List.Perm.refl _⟩ (sL [_] rfl (elemsOk_strs [_]) rfl rfl rfl ?_)
      exact zT41
     ·refine lS (H1:=[]) rfl (.inl rfl) rfl zpr ⟨_,List.Perm.refl _⟩ (sL [_,_] rfl (elemsOk_strs [_,_]) rfl rfl rfl ?_)
      exact zT49
   refine gae ?_
   exact retRet hj2 (rC (rA rfl zm0 rfl zsr) rN) (by simp only[zAs];rfl)
end
end Go.Proofs.YtpbbgkoalnonoaaGreatDoor.R23
namespace Go.Proofs.YtpbbgkoalnonoaaGreatDoor.R23
open Go.GL Go.RowKit Go.Stele
open Go.Lib (decDigits itoa join)
open Cmp (symLV orgLV sum_take sum_take_le symA_take)
attribute [local irreducible] LOps LCode LStep LCalls Go.GL.Pure QThen QBlock RetPost LQ LAny LLate LLateOp LS
section
variable {B0:Nat} {w0:World}
theorem rarrays_spec (vars:List Nm) (arrays:List (Nm×Int)) (fs:List FnD) (o:Org) (hl:arrays.length≤2000000) (hp:∀ a∈arrays,0<a.2) (h0:0≤o.arrays) (h1:o.arrays+(arrays.map (·.2)).sum≤262144):LCalls (KC B0 w0) 60 [Chk.encPrG vars arrays fs,orgLV o] [] (Ret (.tuple [.list ((symA o.arrays arrays).map symLV),int .i64 0])):=by
 have hal:(arrays.map Chk.encArG).length=arrays.length:=zLm _
 have hml:(arrays.map (·.2)).length=arrays.length:=zLm _
 have hps:∀ n∈arrays.map (·.2),0<n:=fun n hn=>by
  obtain ⟨a,ha,rfl⟩:=List.mem_map.1 hn
  exact hp a ha
 unfold Chk.encPrG orgLV
 refine cI Tryz.func60 rfl (n:=51) rfl rfl rfl ?_
 refine gaf ?_
 refine oS (S.box rfl fun b2=>?_) rfl
 refine oS (S.box rfl fun b3=>?_) rfl
 refine gai ?_
 refine oS (S.litA (es:=[]) [] rfl eN rfl rfl rfl fun b1=>?_) rfl
 refine oP (pA (lv:=.app b1 0 2 []) rfl) rfl ?_
 refine gab ?_
 refine oL (fun kk ls H'=>∃ (i:Nat) (v:LV),i≤arrays.length∧kk=arrays.length-i∧ls=[(6,v),(7,int .i64 (o.arrays+((arrays.map (·.2)).take i).sum)),(14,.list (arrays.map Chk.encArG)),(15,int .i64 arrays.length),(16,int .i64 (i:Nat))]∧GL.Acc 2 v ((symA o.arrays (arrays.take i)).map symLV) H' [])
  ⟨_,_,_,⟨0,.app b1 0 2 [],Nat.zero_le _,rfl,rfl,Acc.row⟩,⟨rfl,int_eq (by simp),rfl,int_eq zo,rfl,trivial⟩,⟨_,List.Perm.refl _⟩⟩ ?_
 rintro kk ls H' ⟨i,v,hi,rfl,rfl,hacc⟩ j hj
 have hsum:=sum_take_le (arrays.map (·.2)) i hps
 refine gah ?_
 refine oC rfl (fun hc=>?_) (fun hc=>?_)
 ·have hlt:i<arrays.length:=by have:=zt hc;omega
  have hpi:=hp _ (List.getElem_mem hlt)
  have hst:=sum_take (l:=arrays.map (·.2)) (i:=i) zo
  rw[List.getElem_map] at hst
  have hsum2:=sum_take_le (arrays.map (·.2)) (i+1) hps
  have hlen:((symA o.arrays (arrays.take i)).map symLV).length=i:=by
   rw[zLm,symA_len,List.length_take]
   omega
  generalize hsi:((arrays.map (·.2)).take i).sum=si at hsum hst
  have hsy:=symA_take hlt o.arrays
  rw[hsi] at hsy
  refine gak ?_
  refine oP (xR (el':=Chk.encArG arrays[i]) (cs:=[_,_]) rfl rfl zo (map_get _ _ _ hlt) rfl rfl) rfl ?_
  refine gac ?_
  refine oS (sA fun b9=>?_) rfl
  refine gab ?_
  refine oB 23 rfl (fun h=>?_) (fun _=>?_)
  ·have:=zt h;omega
  refine gad ?_
  refine oB 27 rfl (fun h=>?_) (fun _=>?_)
  ·have:=zt h;omega
  refine gac ?_
  refine oB 31 rfl (fun h=>?_) (fun _=>?_)
  ·have:=zt h;omega
  refine gac ?_
  refine oC rfl (fun h=>?_) (fun _=>?_)
  ·have:=zt h;omega
  refine gak ?_
  refine oP (pM (lv:=v) rfl) rfl ?_
  refine gac ?_
  refine oS (sL [_] rfl (zeC rfl rfl eN) rfl rfl rfl ?_) rfl
  refine oS (S.acc1 rfl hacc rfl (by simp;rfl) rfl (by rw[hlen];simp;omega) fun v' H2 hacc'=>?_) rfl
  refine oP (pA (lv:=v') rfl) rfl ?_
  refine gaa ?_
  exact ⟨_,_,_,by omega,⟨i+1,v',by omega,rfl,rfl,by rw[hsy,zMa];exact hacc'⟩,⟨rfl,int_eq (by rw[hst];omega),rfl,rfl,int_eq zo,trivial⟩,zhD zhr,hj⟩
 ·exact zT52
end
end Go.Proofs.YtpbbgkoalnonoaaGreatDoor.R23
namespace Go.Proofs.YtpbbgkoalnonoaaGreatDoor.R23
open Go.GL Go.RowKit Go.Stele
open Go.Lib (decDigits itoa join)
open Cmp (symLV orgLV EnvOk stW_lab stWs_lab parW parW_cons ndSs_mem fnWs_nil fnWs_cons fnW_eq take_rev env_ok own_short nm_len)
theorem arrR_no (name:Nm):∀ (l:List (Nm×Int)) (a:Int),name ∉ l.map (·.1)→arrR name l a=a
 |[],a,_=>rfl
 |(x,n)::r,a,h=>by
  rw[zMc,zMi] at h
  rw[arrR,if_neg (fun e=>h (.inl e.symm))]
  exact arrR_no name r a (fun g=>h (.inr g))
theorem arrR_sym (name:Nm):∀ (l:List (Nm×Int)) (a:Int),(l.map (·.1)).Nodup→arrR name (symA a l) 0=arrA a l name
 |[],a,_=>rfl
 |(x,n)::r,a,h=>by
  rw[zMc,List.nodup_cons] at h
  rw[symA,arrR,arrA]
  by_cases e:x=name
  ·rw[if_pos e,if_pos e]
   exact arrR_no name _ a (by rw[symA_names,←e];exact h.1)
  ·rw[if_neg e,if_neg e]
   exact arrR_sym name r (a+n) h.2
theorem symA_in:∀ (l:List (Nm×Int)) (a:Int),(∀ p∈l,0≤p.2)→∀ q∈symA a l,a≤q.2∧q.2≤a+(l.map (·.2)).sum
 |[],a,_,q,h=>(List.not_mem_nil h).elim
 |(x,n)::r,a,hp,q,h=>by
  have h0:=hp (x,n) zMs
  have hs:0≤(r.map (·.2)).sum:=by
   clear h
   induction r with
   |nil=>simp
   |cons y r ih=>
    have h1:=hp y (zMo _ zMs)
    have h2:=ih (fun p hp'=>hp p (by
     rcases zMi.1 hp' with h|h
     ·rw[h];exact List.mem_cons_self ..
     ·exact zMo _ (zMo _ h)))
    rw[zMc,List.sum_cons]
    omega
  rw[symA] at h
  rw[zMc,List.sum_cons]
  simp only at h0 ⊢
  rcases zMi.1 h with rfl|h
  ·simp only
   omega
  ·have:=symA_in r (a+n) (fun p hp'=>hp p (zMo _ hp')) q h
   omega
attribute [local irreducible] LOps LCode LStep LCalls Go.GL.Pure QThen QBlock RetPost LQ LAny LLate LLateOp LS
section
variable {B0:Nat} {w0:World}
structure PrgOk (vars:List Nm) (arrays:List (Nm×Int)) (fs:List FnD) (oc:Int) (sc:Nat) (oa:Int):Prop where
 chk:checkP vars arrays fs=0
 fit:fitsP vars arrays fs ⟨oc,(sc:Int),oa⟩=true
 v6:vars.length≤2000000
 a6:arrays.length≤2000000
 nd:ndFs fs≤2000000
 num:∀ f∈fs,numSs f.body
theorem refC_of {vars:List Nm} {arrays:List (Nm×Int)} {fs:List FnD} {oc:Int} {sc:Nat} {oa:Int} (h:PrgOk vars arrays fs oc sc oa) {f:FnD} (hf:f∈fs) {kn:List FSum} (hk:Known fs kn) :
  RefC B0 w0 vars arrays fs sc (symA oa arrays) f.name (ccF vars arrays fs ⟨oc,(sc:Int),oa⟩ f.name) (envF vars (arrays.map (·.1)) (fs.map (·.name)) kn f)∧ClC (ccF vars arrays fs ⟨oc,(sc:Int),oa⟩ f.name)∧EnvOk (envF vars (arrays.map (·.1)) (fs.map (·.name)) kn f)∧∀ k∈(envF vars (arrays.map (·.1)) (fs.map (·.name)) kn f).funcs,Plain k.name:=by
 obtain ⟨ht,hp,hPa,hPc,hV⟩:=check_parts h.chk
 have hfitP:fitsP (prOf vars arrays fs).vars (arrsP (prOf vars arrays fs)) (prOf vars arrays fs).funcs ⟨oc,(sc:Int),oa⟩=true:=by rw[hPa];exact h.fit
 have hF:=fit_of hfitP
 have hcl:ClC (ccF vars arrays fs ⟨oc,(sc:Int),oa⟩ f.name):=by
  have:=cc_clean hF f.name
  rw[hPa] at this
  exact this
 have hf6:=ndFs_len fs
 have hnd6:=h.nd
 have hsm:∀ f∈fs,SmF f:=fun f hf=>smF_of (by have:=ndFs_mem hf;omega)
 have hown:∀ f∈fs,∀ x∈f.params++f.locals,x.length≤24:=by
  have h:=h.chk
  unfold checkP at h
  exact own_short _ _ _ _ _ (orE_zero.1 (orE_zero.1 (orE_zero.1 h).2).2).1
 have hfr:=fresh_zero _ _ hV.names
 have hfn:∀ f∈fs,f.name.length≤24:=fun f hf=>nm_len (hfr.2 _ (List.mem_append_right _ (List.mem_map_of_mem hf))).2
 have hn:∀ f∈fs,f.name.length≤1000∧∀ x∈f.params++f.locals,x.length≤1000:=fun f hf=>⟨by have:=hfn f hf;omega,fun x hx=>by have:=hown f hf x hx;omega⟩
 have hsc8:(scalarsP vars fs).length≤8000:=hV.few
 have hs1:((sc:Nat):Int).toNat+3+(scalarsP vars fs).length≤262144:=hF.s1
 rw[Int.toNat_natCast] at hs1
 have hnames:(prOf vars arrays fs).arrays.map (·.name)=arrays.map (·.1):=by
  unfold prOf
  rw[List.map_map]
  rfl
 have hE:EnvOk (envF vars (arrays.map (·.1)) (fs.map (·.name)) kn f):=by
  have:=env_ok hV (f:=f) hf (hown f hf) hk
  rw[hnames] at this
  exact this
 have hplain:∀ k∈(envF vars (arrays.map (·.1)) (fs.map (·.name)) kn f).funcs,Plain k.name:=fun k hk'=>by
  obtain ⟨g,g1,g2,_⟩:=hk k hk'
  rw[←g2]
  exact nm_plain (hfr.2 _ (List.mem_append.2 (.inr (List.mem_map.2 ⟨g,g1,rfl⟩)))).2
 have hnodup:(arrays.map (·.1)).Nodup:=by
  have h1:=(List.nodup_append.1 (List.nodup_append.1 hfr.1).1).2.1
  rw[hnames] at h1
  exact h1
 have hfd:(46:UInt8) ∉ f.name:=noDot (hfr.2 _ (List.mem_append_right _ (List.mem_map_of_mem hf))).2
 have htot:(arrays.map (·.2)).sum=((totA (prOf vars arrays fs).arrays:Nat):Int):=by
  have:=totA_int (prOf vars arrays fs).arrays
  rw[←this]
  congr 2
  exact hPa.symm
 have a0:=hF.a0
 have a1:=hF.a1
 simp only at a0 a1
 have hpos:∀ p∈arrays,0≤p.2:=fun p hp'=>Int.le_of_lt (hp p hp')
 refine ⟨⟨fun name hs=>?_,fun name=>?_,?_,?_,?_,by omega,fun x _ hx=>fun w hw=>(exW_clean hcl hplain x hx w hw).1⟩,hcl,hE,hplain⟩
 ·have hnl:=hE.sc name hs
  have h1:=scalar23_spec (B0:=B0) (w0:=w0) vars arrays fs sc (symA oa arrays) f.name name h.v6 zo hsm hn zo zo (by have:=hfn f hf;omega) zo
  have hnd:(46:UInt8) ∉ name:=by
   unfold scalarE at hs
   split at hs
   ·rename_i g
    rcases g with g|g
    ·exact noDot (hfr.2 name (List.mem_append_left _ (List.mem_append_left _ g))).2
    ·have h2:=h.chk
     unfold checkP at h2
     have h3:=(orE_zero.1 (orE_zero.1 (orE_zero.1 h2).2).2).1
     clear h1 h2
     have key:∀ (vars arrays later:List Nm) (known:List FSum) (fs:List FnD),errFs vars arrays later known fs=0→∀ f∈fs,∀ x∈f.params++f.locals,isNm x=true:=by
      intro vars arrays later known fs
      induction fs generalizing known with
      |nil=>intro _ f hf;cases hf
      |cons q l ih=>
       intro h f hf
       rw[errFs] at h
       obtain ⟨h1,h2⟩:=orE_zero.1 h
       rcases zMi.1 hf with rfl|hf
       ·unfold errF at h1
        intro x hx
        exact ((fresh_zero _ _ (orE_zero.1 h1).1).2 x hx).2
       ·exact ih _ h2 f hf
     exact noDot (key _ _ _ _ _ h3 f hf name g)
   ·split at hs <;> cases hs
  have h2:=scR_place (vars:=vars) (locs:=(fs.map fun (f:FnD)=>(f.params++f.locals).map fun x=>f.name++[46]++x).flatten) (own:=f.name) (name:=name) sc (show (scalarsP vars fs).Nodup from hV.keys)
   (fun g=>by
    have:=noDot (hfr.2 _ (List.mem_append_left _ (List.mem_append_left _ g))).2
    exact this (by simp))
   (fun g=>by
    rw[List.mem_flatten] at g
    obtain ⟨l,hl,g⟩:=g
    obtain ⟨q,_,rfl⟩:=List.mem_map.1 hl
    obtain ⟨x,_,rfl⟩:=List.mem_map.1 g
    exact hnd (by simp))
  have h3:(ccF vars arrays fs ⟨oc,(sc:Int),oa⟩ f.name).sc name=decDigits (scR vars.length f.name name sc 0 (scalarsP vars fs) 0):=by
   show itoa (placeA (scalarsP vars fs) (sc:Int) (keyC (scalarsP vars fs) f.name name))=_
   have h4:placeA (scalarsP vars fs) (sc:Int) (keyC (scalarsP vars fs) f.name name)=((scR vars.length f.name name sc 0 (scalarsP vars fs) 0:Nat):Int):=h2.symm
   rw[h4,itoa_pos (Int.natCast_nonneg _),Int.toNat_natCast]
  rw[h3]
  exact h1
 ·have hin:=symA_in arrays oa hpos
  have h1:=array23_spec (B0:=B0) (w0:=w0) vars arrays fs sc (symA oa arrays) f.name name (by rw[symA_len];have:=h.a6;omega) (fun p hp'=>by have:=hin p hp';omega)
  have h3:(ccF vars arrays fs ⟨oc,(sc:Int),oa⟩ f.name).ar name=decDigits (arrR name (symA oa arrays) 0).toNat:=by
   show itoa (arrA oa arrays name)=_
   rw[arrR_sym name arrays oa hnodup,itoa_pos (arrA_pos arrays oa a0 hpos name)]
  rw[h3]
  exact h1
 ·show itoa (sc:Int)=_
  rw[itoa_pos (Int.natCast_nonneg _),Int.toNat_natCast]
 ·show itoa ((sc:Int)+1)=_
  rw[itoa_pos zo]
  congr 1
 ·show itoa ((sc:Int)+2)=_
  rw[itoa_pos zo]
  congr 1
theorem rassembly_spec {vars:List Nm} {arrays:List (Nm×Int)} {fs:List FnD} {oc:Int} {sc:Nat} {oa:Int} (h:PrgOk vars arrays fs oc sc oa) :
  LCalls (KC B0 w0) 31 [Chk.encPrG vars arrays fs,orgLV ⟨oc,(sc:Int),oa⟩] [] (Ret (str (join (prW vars arrays fs ⟨oc,(sc:Int),oa⟩) [32]))):=by
 obtain ⟨ht,hp,hPa,hPc,hV⟩:=check_parts h.chk
 have hfitP:fitsP (prOf vars arrays fs).vars (arrsP (prOf vars arrays fs)) (prOf vars arrays fs).funcs ⟨oc,(sc:Int),oa⟩=true:=by rw[hPa];exact h.fit
 have hF:=fit_of hfitP
 have hs1:((sc:Nat):Int).toNat+3+(scalarsP vars fs).length≤262144:=hF.s1
 rw[Int.toNat_natCast] at hs1
 have hW:=prW_clean hPc hfitP
 have hWt:=(prW_tot hPc h.num hfitP h.nd).1
 have hpw:wordsC (prOf vars arrays fs) ⟨oc,(sc:Int),oa⟩=[[38,102,95,109,97,105,110],[58],decDigits sc,[33],[36]]++(fnWs (ccF vars arrays fs ⟨oc,(sc:Int),oa⟩) 0 fs).1:=by
  show prW vars (arrsP (prOf vars arrays fs)) fs ⟨oc,(sc:Int),oa⟩=_
  rw[hPa]
  unfold prW
  rw[itoa_pos (Int.natCast_nonneg _),Int.toNat_natCast]
 have hpw2:prW vars arrays fs ⟨oc,(sc:Int),oa⟩=wordsC (prOf vars arrays fs) ⟨oc,(sc:Int),oa⟩:=by
  show _=prW vars (arrsP (prOf vars arrays fs)) fs ⟨oc,(sc:Int),oa⟩
  rw[hPa]
 have hWne:∀ w∈wordsC (prOf vars arrays fs) ⟨oc,(sc:Int),oa⟩,w≠[]:=fun w hw=>(hW w hw).1
 have hndP:ndFs (prOf vars arrays fs).funcs=ndFs fs:=rfl
 have hnd6:=h.nd
 rw[hndP] at hWt
 rw[hpw2]
 generalize wordsC (prOf vars arrays fs) ⟨oc,(sc:Int),oa⟩=W at hpw hWt hWne ⊢
 clear hW hpw2 hfitP
 have hfr:=fresh_zero _ _ hV.names
 have hfn:∀ f∈fs,f.name.length≤24:=fun f hf=>nm_len (hfr.2 _ (List.mem_append_right _ (List.mem_map_of_mem hf))).2
 have hf6:=ndFs_len fs
 have hsmF:∀ f∈fs,f.params.length≤2000000:=fun f hf=>by
  have:=(smF_of (f:=f) (by have:=ndFs_mem hf;omega)).params
  exact zNt this zDd
 have hbody:∀ f∈fs,∃ (kn:List FSum),errSs (envF vars (arrays.map (·.1)) (fs.map (·.name)) kn f) f.body=0∧Known fs kn:=fun f hf=>by
  obtain ⟨kn,k1,k2⟩:=hV.bodies f hf
  have hnames:(prOf vars arrays fs).arrays.map (·.name)=arrays.map (·.1):=by
   unfold prOf
   rw[List.map_map]
   rfl
  rw[hnames] at k1
  exact ⟨kn,k1,k2⟩
 have hpar:∀ f∈fs,∀ p∈f.params,∀ kn,scalarE (envF vars (arrays.map (·.1)) (fs.map (·.name)) kn f) p=0:=fun f hf p hp kn=>by
  unfold scalarE
  rw[if_pos]
  exact .inr (List.mem_append_left _ hp)
 have hsum:(arrays.map (·.2)).sum=((totA (prOf vars arrays fs).arrays:Nat):Int):=by
  have:=totA_int (prOf vars arrays fs).arrays
  rw[←this]
  congr 2
  exact hPa.symm
 have a0:=hF.a0
 have a1:=hF.a1
 simp only at a0 a1
 have hAs:=rarrays_spec (B0:=B0) (w0:=w0) vars arrays fs ⟨oc,(sc:Int),oa⟩ h.a6 hp a0 (by show oa+_≤_;rw[hsum];omega)
 have hN:=num23_spec (B0:=B0) (w0:=w0) sc zo
 have hfl:(fs.map encFn).length=fs.length:=zLm _
 have eC:∀ own,cLV vars arrays fs sc (symA oa arrays) own=.agg [.list (vars.map str),.list (arrays.map Chk.encArG),.list (fs.map encFn),int .i64 (sc:Nat),.list ((symA oa arrays).map symLV),str own]:=fun _=>rfl
 have eT:∀ ws n,tLV ws n=.agg [str (join ws [32]),int .i64 (n:Nat)]:=fun _ _=>rfl
 have ePr:Chk.encPrG vars arrays fs=.agg [.list (vars.map str),.list (arrays.map Chk.encArG),.list (fs.map encFn)]:=rfl
 have eOr:orgLV ⟨oc,(sc:Int),oa⟩=.agg [int .i64 oc,int .i64 (sc:Nat),int .i64 oa]:=rfl
 have eA:(symA (Org.arrays ⟨oc,(sc:Int),oa⟩) arrays)=symA oa arrays:=rfl
 rw[eA] at hAs
 have hput0:=put_spec (B0:=B0) (w0:=w0) [] [[38,102,95,109,97,105,110],[58],decDigits sc,[33],[36]] 0 (by simp) (fun w hw=>hWne w (by rw[hpw];exact List.mem_append_left _ hw)) (by
  rw[hpw,tot_app] at hWt
  rw[List.nil_append]
  omega)
 simp only[eT,zMc,List.map_nil,List.nil_append] at hput0
 rw[ePr,eOr] at hAs ⊢
 refine cI Tryz.func31 rfl (n:=78) rfl rfl rfl ?_
 refine gaf ?_
 refine oS (S.box rfl fun b2=>?_) rfl
 refine oS (S.box rfl fun b3=>?_) rfl
 refine gab ?_
 refine oS (sF [_,_] rfl hAs ?_) rfl
 refine gab ?_
 refine oS (sA fun b7=>?_) rfl
 refine gab ?_
 refine oS (sF [_] rfl hN ?_) rfl
 refine oS (sL [_,_,_,_,_] rfl (elemsOk_strs [_,_,_,_,_]) rfl rfl rfl ?_) rfl
 refine oS (sF [_,_] rfl hput0 ?_) rfl
 refine oS (sA fun b8=>?_) rfl
 refine gaa ?_
 generalize hP5:[[38,102,95,109,97,105,110],[58],decDigits sc,[33],[36]]=P5 at hpw
 refine oL (fun kk ls H'=>∃ (i:Nat) (us:List Wd) (m:Nat) (own:Nm),i≤fs.length∧kk=fs.length-i∧ls=[(2,ptr b2 0),(3,ptr b3 0),(7,ptr b7 0),(8,ptr b8 0),(9,int .i64 (i:Nat))]∧H'=[tR b8 us m,cR b7 vars arrays fs sc (symA oa arrays) own,(b2,.cells 26 [.list (vars.map str),.list (arrays.map Chk.encArG),.list (fs.map encFn)])]∧us++(fnWs (ccF vars arrays fs ⟨oc,(sc:Int),oa⟩) m (fs.drop i)).1=W∧m+2 * ndFs (fs.drop i)≤4000000000)
  ⟨_,_,_,⟨0,P5,0,[],Nat.zero_le _,rfl,rfl,rfl,hpw.symm,by rw[List.drop_zero];omega⟩,⟨rfl,rfl,rfl,rfl,rfl,trivial⟩,by
   rw[←hP5]
   first
    |exact zhP pH (zhP pH (zhP zp1 zhn))
    |exact zhP pH (zhP pH zhp)
    |exact zhP zp1 (zhP pH (zhP zp1 zhn))⟩ ?_
 rintro kk ls H' ⟨i,us,m,own,hi,rfl,rfl,rfl,hU,hM⟩ j hj
 refine gab ?_
 refine oC rfl (fun hc=>?_) (fun hc=>?_)
 rotate_left
 ·have hi':i=fs.length:=by have:=zf hc;omega
  subst hi'
  rw[List.drop_length,fnWs_nil,zLz] at hU
  subst hU
  refine gaa ?_
  exact retRet hj (zra rfl) rfl
 have hlt:i<fs.length:=by have:=zt hc;omega
 have hmi:=map_get encFn fs i hlt
 have hfm:=List.getElem_mem hlt
 rw[List.drop_eq_getElem_cons hlt] at hU hM
 generalize fs[i]=f at hmi hfm hU hM
 obtain ⟨kn,k1,k2⟩:=hbody f hfm
 obtain ⟨hRC,hcl,hE,hplain⟩:=refC_of (B0:=B0) (w0:=w0) h hfm k2
 have hpl:=hsmF f hfm
 have hfnl:=hfn f hfm
 have hnf:=ndFs_mem hfm
 have hst:∀ s∈f.body,StmO B0 w0 vars arrays fs sc (symA oa arrays) f.name (ccF vars arrays fs ⟨oc,(sc:Int),oa⟩ f.name) s:=fun s hs=>stmt23_spec hRC hE hcl hplain 2000000 (zNr _) s (by have:=ndSs_mem hs;unfold ndF at hnf;omega) (numSs_mem (h.num f hfm) s hs) (errSs_mem k1 s hs)
 have hparf:=hpar f hfm
 rw[fnWs_cons] at hU
 simp only at hU
 rw[fnW_eq] at hU
 simp only at hU
 rw[ndFs] at hM
 have hbl:=stWs_lab (ccF vars arrays fs ⟨oc,(sc:Int),oa⟩ f.name) f.body m
 have hblen:=ndSs_len f.body
 unfold ndF at hnf hM
 generalize hcc:ccF vars arrays fs ⟨oc,(sc:Int),oa⟩ f.name=c at *
 have hsub:∀ w,(w∈us∨w=[102,95]++f.name++[58]∨w∈parW c f.params.reverse∨w∈(stWs c m f.body).1∨w∈([[48],[59]]:List Wd))→w≠[]:=fun w hw=>hWne w (by
  rw[←hU]
  simp only[List.mem_append,List.mem_singleton]
  rcases hw with g|g|g|g|g
  ·exact .inl g
  ·exact .inr (.inl (.inl g))
  ·exact .inr (.inl (.inr (.inl g)))
  ·exact .inr (.inl (.inr (.inr (.inl g))))
  ·exact .inr (.inl (.inr (.inr (.inr g)))))
 have hWt2:tot us+tot [[102,95]++f.name++[58]]+tot (parW c f.params.reverse)+tot (stWs c m f.body).1+tot [[48],[59]]≤1000000000000:=by
  rw[←hU] at hWt
  simp only[tot_app] at hWt
  omega
 have hq1:=put_spec (B0:=B0) (w0:=w0) us [[102,95]++f.name++[58]] m (fun w hw=>hsub w (.inl hw)) (fun w hw=>hsub w (.inr (.inl (List.mem_singleton.1 hw)))) (by simp only[tot_app];omega)
 simp only[eT,zMc,List.map_nil] at hq1
 refine gab ?_
 refine oP (xR (el':=encFn f) (cs:=[_,_,_,_]) rfl rfl zo hmi rfl rfl) rfl ?_
 refine gaq ?_
 refine oS (sA fun b10=>?_) rfl
 refine gab ?_
 refine oS (sL [_] rfl (elemsOk_strs [_]) rfl rfl rfl ?_) rfl
 refine oS (sF [_,_] rfl hq1 ?_) rfl
 have hparl:(f.params.map str).length=f.params.length:=zLm _
 refine gab ?_
 refine oL (fun kk ls H'=>∃ (i2:Nat) (vs:List Wd),i2≤f.params.length∧kk=i2∧ls=[(2,ptr b2 0),(3,ptr b3 0),(7,ptr b7 0),(8,ptr b8 0),(9,int .i64 (i:Nat)),(10,ptr b10 0),(11,int .i64 ((i2:Int)-1))]∧H'=[cR b7 vars arrays fs sc (symA oa arrays) f.name,(b10,.cells 59 [str f.name,.list (f.params.map str),.list (f.locals.map str),.list (f.body.map encS)]),tR b8 vs m,(b2,.cells 26 [.list (vars.map str),.list (arrays.map Chk.encArG),.list (fs.map encFn)])]∧vs++parW c (f.params.take i2).reverse=(us++[[102,95]++f.name++[58]])++parW c f.params.reverse)
  ⟨_,_,_,⟨f.params.length,_,zNr _,rfl,rfl,rfl,by rw[List.take_length]⟩,⟨rfl,rfl,rfl,rfl,rfl,rfl,by rw[←hparl];rfl,trivial⟩,by
   first
    |exact zhP zp1 (zhP zp1 (zhP pH zhr))
    |exact zhP zp2 (zhP zp1 (zhP pH zhr))
    |exact zhP zp1 (zhP pH (zhP pH zhr))
    |exact zhP pH (zhP pH (zhP pH zhr))⟩ ?_
 rintro kk ls H' ⟨i2,vs,hi2,rfl,rfl,rfl,hV2⟩ j2 hj2
 have hvs:∀ w∈vs,w≠[]:=fun w hw=>by
  have:w∈(us++[[102,95]++f.name++[58]])++parW c f.params.reverse:=by rw[←hV2];exact List.mem_append_left _ hw
  simp only[List.mem_append,List.mem_singleton] at this
  rcases this with (g|g)|g
  ·exact hsub w (.inl g)
  ·exact hsub w (.inr (.inl g))
  ·exact hsub w (.inr (.inr (.inl g)))
 have hvt:tot vs+tot (parW c (f.params.take kk).reverse)=tot us+tot [[102,95]++f.name++[58]]+tot (parW c f.params.reverse):=by
  have:=congrArg tot hV2
  simp only[tot_app] at this
  omega
 refine gab ?_
 refine oC rfl (fun hd=>?_) (fun hd=>?_)
 ·have hge:=zt hd
  obtain ⟨i2,rfl⟩:∃ i',kk=i'+1:=⟨kk-1,by omega⟩
  have hlt2:i2<f.params.length:=by omega
  have hmp:=map_get str f.params i2 hlt2
  have hpm:f.params[i2]∈f.params:=List.getElem_mem hlt2
  have hsc:=hRC.sc1 f.params[i2] (hparf _ hpm kn)
  rw[take_rev hlt2,parW_cons] at hV2 hvt
  simp only[tot_app] at hvt
  have hpne:∀ w∈[c.sc f.params[i2],[33]],w≠[]:=fun w hw=>by
   have:w∈(us++[[102,95]++f.name++[58]])++parW c f.params.reverse:=by rw[←hV2];exact List.mem_append_right _ (List.mem_append_left _ hw)
   simp only[List.mem_append,List.mem_singleton] at this
   rcases this with (g|g)|g
   ·exact hsub w (.inl g)
   ·exact hsub w (.inr (.inl g))
   ·exact hsub w (.inr (.inr (.inl g)))
  generalize f.params[i2]=p at hmp hsc hV2 hvt hpne
  have hq2:=put_spec (B0:=B0) (w0:=w0) vs [c.sc p,[33]] m hvs hpne (by simp only[tot_app];omega)
  simp only[eT,zMc,List.map_nil] at hq2
  simp only[eC] at hsc
  refine gad ?_
  have hsb:HSub [cR b7 vars arrays fs sc (symA oa arrays) f.name,(b10,.cells 59 [str f.name,.list (f.params.map str),.list (f.locals.map str),.list (f.body.map encS)])] [cR b7 vars arrays fs sc (symA oa arrays) f.name,(b10,.cells 59 [str f.name,.list (f.params.map str),.list (f.locals.map str),.list (f.body.map encS)]),tR b8 vs m,(b2,.cells 26 [.list (vars.map str),.list (arrays.map Chk.encArG),.list (fs.map encFn)])]:=⟨_,List.Perm.refl _⟩
  refine LCode.draw (m:=11) rfl [cR b7 vars arrays fs sc (symA oa arrays) f.name,(b10,.cells 59 [str f.name,.list (f.params.map str),.list (f.locals.map str),.list (f.body.map encS)])] ?_
  refine aT 1 rfl rfl (Pure.ldHAgg (cs':=[_,_,_,_,_,_]) rfl zm0 rfl rfl) ?_
  refine aT 2 rfl rfl (pF rfl) ?_
  refine aT 3 rfl rfl (pL (c:=.list _) rfl zm1 rfl) ?_
  refine aT 4 rfl rfl (pM (lv:=.atom _) rfl) ?_
  refine aT 5 rfl rfl (xR (el':=str p) (cs:=[str p]) rfl rfl zo (by rw[show (((i2+1:Nat):Int)-1).toNat=i2 by omega];exact hmp) rfl rfl) ?_
  refine aT 6 rfl rfl (Pure.loadRef (c:=.atom _) rfl rfl) ?_
  refine LAny.late ?_ hsb
  refine LLate.two (i:=0) (j:=7) zk ?_ ?_
  ·refine lH rfl rfl (Pure.ldHAgg (cs':=[_,_]) rfl zm2 rfl rfl) ?_
   refine zl1 (i:=7) zk ?_
   refine lS (H1:=[]) rfl (.inl rfl) rfl zpr hsb (sF [_,_] rfl hsc ?_)
   refine zl1 (i:=8) zk ?_
   refine lS (H1:=[]) rfl (.inl rfl) rfl zpr hsb (sL [_,_] rfl (elemsOk_strs [_,_]) rfl rfl rfl ?_)
   exact zT19
  ·refine lS (H1:=[]) rfl (.inl rfl) rfl zpr hsb (sF [_,_] rfl hsc ?_)
   refine LLate.two (i:=0) (j:=8) zk ?_ ?_
   ·refine lH rfl rfl (Pure.ldHAgg (cs':=[_,_]) rfl zm2 rfl rfl) ?_
    refine zl1 (i:=8) zk ?_
    refine lS (H1:=[]) rfl (.inl rfl) rfl zpr hsb (sL [_,_] rfl (elemsOk_strs [_,_]) rfl rfl rfl ?_)
    exact zT19
   ·refine lS (H1:=[]) rfl (.inl rfl) rfl zpr hsb (sL [_,_] rfl (elemsOk_strs [_,_]) rfl rfl rfl ?_)
    refine zl1 (i:=0) zk ?_
    refine lH rfl rfl (Pure.ldHAgg (cs':=[_,_]) rfl zm2 rfl rfl) ?_
    exact zT19
 have hge:=zf hd
 obtain rfl:kk=0:=by omega
 rw[List.take_zero,List.reverse_nil,show parW c []=[] from rfl] at hV2 hvt
 rw[zLz] at hV2
 have htn:tot ([]:List Wd)=0:=rfl
 rw[htn] at hvt
 have hq3:=body23_spec f.body hst vs m zo (fun w hw=>by
  rcases List.mem_append.1 hw with g|g
  ·exact hvs w g
  ·exact hsub w (.inr (.inr (.inr (.inl g))))) (by simp only[tot_app];omega) zo
 have hq4:=put_spec (B0:=B0) (w0:=w0) (vs++(stWs c m f.body).1) [[48],[59]] (stWs c m f.body).2 (fun w hw=>by
  rcases List.mem_append.1 hw with g|g
  ·exact hvs w g
  ·exact hsub w (.inr (.inr (.inr (.inl g))))) (fun w hw=>hsub w (.inr (.inr (.inr (.inr hw))))) (by simp only[tot_app];omega)
 simp only[eC,eT,zMc,List.map_nil] at hq3 hq4
 refine gab ?_
 refine oS (sF [_,_,_] rfl hq3 ?_) rfl
 refine oS (sL [_,_] rfl (elemsOk_strs [_,_]) rfl rfl rfl ?_) rfl
 refine oS (sF [_,_] rfl hq4 ?_) rfl
 refine oS (sS (cs':=[_,_]) rfl zp2 rfl rfl rfl rfl rfl ?_) rfl
 refine gat ?_
 exact ⟨_,_,_,by omega,⟨i+1,vs++(stWs c m f.body).1++[[48],[59]],(stWs c m f.body).2,f.name,by omega,rfl,rfl,rfl,by
  rw[←hU,hV2]
  simp only[zAs],by omega⟩,⟨rfl,rfl,rfl,rfl,int_eq zo,trivial⟩,by
   first
    |exact zhP pH (zhP pH (zhP zp1 zhn))
    |exact zhP pH (zhP zp1 (zhP zp1 zhn)),hj2.trans hj⟩
end
end Go.Proofs.YtpbbgkoalnonoaaGreatDoor.R23
namespace Go.Proofs.YtpbbgkoalnonoaaGreatDoor.Cmp
open Go.GL Go.RowKit Go.Stele
theorem goR_iff:∀ (l prev:List (Int×Int)),goR prev l=true ↔ (∀ r∈l,insideR r=true)∧(∀ i (h:i<l.length),(∀ s∈prev,meetsR l[i] s=false)∧∀ k (h2:k<i),meetsR l[i] (l[k]'zo)=false)
 |[],prev=>by simp[goR]
 |r::rest,prev=>by
  rw[goR,zBa,zBa,goR_iff rest (prev++[r]),List.all_eq_true]
  constructor
  ·rintro ⟨⟨h1,h2⟩,h3,h4⟩
   refine ⟨fun s hs=>?_,fun i hi=>?_⟩
   ·rcases zMi.1 hs with rfl|hs
    ·exact h1
    ·exact h3 s hs
   ·cases i with
    |zero=>exact ⟨fun s hs=>by simpa using h2 s hs,fun k hk=>by omega⟩
    |succ i=>
     obtain ⟨h5,h6⟩:=h4 i (by simpa using hi)
     refine ⟨fun s hs=>h5 s (List.mem_append_left _ hs),fun k hk=>?_⟩
     cases k with
     |zero=>exact h5 r (List.mem_append_right _ (List.mem_singleton.2 rfl))
     |succ k=>exact h6 k zo
  ·rintro ⟨h1,h2⟩
   refine ⟨⟨h1 r zMs,fun s hs=>?_⟩,fun s hs=>h1 s (zMo _ hs),fun i hi=>⟨fun s hs=>?_,fun k hk=>?_⟩⟩
   ·have:=(h2 0 (by simp)).1 s hs
    simpa using this
   ·rcases List.mem_append.1 hs with hs|hs
    ·exact (h2 (i+1) (by simpa using hi)).1 s hs
    ·rw[List.mem_singleton.1 hs]
     exact (h2 (i+1) (by simpa using hi)).2 0 zo
   ·exact (h2 (i+1) (by simpa using hi)).2 (k+1) zo
theorem goR_in {l:List (Int×Int)} {i:Nat} (h:i<l.length) (hi:insideR l[i]=false):goR [] l=false:=by
 cases hg:goR [] l with
 |false=>rfl
 |true=>
  have:=((goR_iff l []).1 hg).1 _ (List.getElem_mem h)
  rw[hi] at this
  cases this
theorem goR_meet {l:List (Int×Int)} {i k:Nat} (h:i<l.length) (hk:k<i) (hi:meetsR l[i] (l[k]'zo)=true):goR [] l=false:=by
 cases hg:goR [] l with
 |false=>rfl
 |true=>
  have:=(((goR_iff l []).1 hg).2 i h).2 k hk
  rw[hi] at this
  cases this
attribute [local irreducible] LOps LCode LStep LCalls Go.GL.Pure QThen QBlock RetPost LQ LAny LLate LLateOp LS
section
variable {B0:Nat} {w0:World}
theorem rfits_spec (vars:List Nm) (arrays:List (Nm×Int)) (fs:List FnD) (o:Org) (hv6:vars.length≤2000000) (hf6:fs.length≤2000000) (hl:arrays.length≤2000000) (hsm:∀ f∈fs,SmF f) (hn:∀ f∈fs,f.name.length≤1000∧∀ x∈f.params++f.locals,x.length≤1000)
  (hp:∀ a∈arrays,0<a.2) (ht:(arrays.map (·.2)).sum≤150000) (hsc:(scalarsP vars fs).length≤8000) (o1:I64 o.code) (o2:I64 o.scalars) (o3:I64 o.arrays) :
  LCalls (KC B0 w0) 16 [Chk.encPrG vars arrays fs,orgLV o] [] (Ret (bool (fitsP vars arrays fs o))):=by
 have hal:(arrays.map Chk.encArG).length=arrays.length:=zLm _
 have hml:(arrays.map (·.2)).length=arrays.length:=zLm _
 have hps:∀ n∈arrays.map (·.2),0<n:=fun n hn=>by
  obtain ⟨a,ha,rfl⟩:=List.mem_map.1 hn
  exact hp a ha
 have hscl:((scalarsP vars fs).map str).length=(scalarsP vars fs).length:=zLm _
 have hS:=RC.rscalars_spec (B0:=B0) (w0:=w0) (vars:=vars) (fs:=fs) (.list (arrays.map Chk.encArG)) hv6 hf6 hsm hn
 rw[fits_go]
 unfold Chk.encPrG orgLV
 refine cI Tryz.func16 rfl (n:=126) rfl rfl rfl ?_
 refine gaf ?_
 refine oS (S.box rfl fun b2=>?_) rfl
 refine oS (S.box rfl fun b3=>?_) rfl
 refine gaa ?_
 refine oL (fun kk ls H'=>∃ (i:Nat),i≤arrays.length∧kk=arrays.length-i∧ls=[(2,ptr b2 0),(3,ptr b3 0),(5,int .i64 (((arrays.map (·.2)).take i).sum)),(6,int .i64 (i:Nat))]∧H'=[(b3,.cells 28 [int .i64 o.code,int .i64 o.scalars,int .i64 o.arrays]),(b2,.cells 26 [.list (vars.map str),.list (arrays.map Chk.encArG),.list (fs.map encFn)])])
  ⟨_,_,_,⟨0,Nat.zero_le _,rfl,rfl,rfl⟩,⟨rfl,rfl,rfl,rfl,trivial⟩,zhR _⟩ ?_
 rintro kk ls H' ⟨i,hi,rfl,rfl,rfl⟩ j hj
 have hsum:=sum_take_le (arrays.map (·.2)) i hps
 refine gab ?_
 refine oC rfl (fun hc=>?_) (fun hc=>?_)
 ·have hlt:i<arrays.length:=by have:=zt hc;omega
  have hpi:=hp _ (List.getElem_mem hlt)
  have hst:=sum_take (l:=arrays.map (·.2)) (i:=i) zo
  rw[List.getElem_map] at hst
  have hsum2:=sum_take_le (arrays.map (·.2)) (i+1) hps
  generalize hsi:((arrays.map (·.2)).take i).sum=si at hsum hst
  refine gab ?_
  refine oP (xR (el':=Chk.encArG arrays[i]) (cs:=[_,_]) rfl rfl zo (map_get _ _ _ hlt) rfl rfl) rfl ?_
  refine gab ?_
  exact ⟨_,_,_,by omega,⟨i+1,by omega,rfl,rfl,rfl⟩,⟨rfl,rfl,int_eq (by rw[hst]),int_eq zo,trivial⟩,zhR _,hj⟩
 have hi':i=arrays.length:=by have:=zf hc;omega
 subst hi'
 rw[←hml,List.take_length] at hsum ⊢
 generalize (arrays.map (·.2)).sum=total at hsum ht ⊢
 generalize (scalarsP vars fs).length=ns at hsc hscl ⊢
 refine gad ?_
 refine LCode.draw (m:=16) rfl [(b3,.cells 28 [int .i64 o.code,int .i64 o.scalars,int .i64 o.arrays]),(b2,.cells 26 [.list (vars.map str),.list (arrays.map Chk.encArG),.list (fs.map encFn)])] ?_
 refine aT 0 rfl rfl (pF rfl) ?_
 refine aT 1 rfl rfl (pL (c:=.atom _) rfl zm0 rfl) ?_
 refine aT 2 rfl rfl (Pure.ldHAgg (cs':=[_,_,_]) rfl zm1 rfl rfl) ?_
 refine aT 7 rfl rfl (pF rfl) ?_
 refine aT 8 rfl rfl (pL (c:=.atom _) rfl zm0 rfl) ?_
 refine aT 9 rfl rfl (Pure.bld _ (cs:=[_,_]) rfl) ?_
 refine aT 10 rfl rfl (pF rfl) ?_
 refine aT 11 rfl rfl (pL (c:=.atom _) rfl zm0 rfl) ?_
 refine aT 12 rfl rfl (pM (lv:=.atom _) rfl) ?_
 refine aT 13 rfl rfl (Pure.bld _ (cs:=[_,_]) rfl) ?_
 refine LAny.late ?_ zhr
 refine lO 3 (lS (H1:=[]) rfl (.inl rfl) rfl zpr zhr (sF [_] rfl hS ?_))
 refine lO 4 (lH rfl rfl (Pure.llen rfl) ?_)
 refine lO 5 (lH rfl rfl (Pure.add rfl rfl zo) ?_)
 refine lO 6 (lH rfl rfl (Pure.bld _ (cs:=[_,_]) rfl) ?_)
 refine lO 14 (lS (H1:=[]) rfl (.inl rfl) rfl zpr zhr (sL (es:=[LV.agg [int .i64 o.scalars,int .i64 (3+(((scalarsP vars fs).map str).length:Int))],.agg [int .i64 o.code,int .i64 40000],.agg [int .i64 o.arrays,int .i64 total]]) [_,_,_] rfl (zeC rfl rfl (zeC rfl rfl (zeC rfl rfl eN))) rfl rfl rfl ?_))
 refine lO 15 (lH rfl rfl (pA (lv:=.list _) rfl) ?_)
 refine lD zk ?_
 have e3:(3:Int)+(((scalarsP vars fs).map str).length:Int)=3+(ns:Nat):=by rw[hscl]
 rw[e3]
 generalize hrs:[(o.scalars,(3:Int)+(ns:Nat)),(o.code,(40000:Int)),(o.arrays,total)]=rs
 have hrl:([LV.agg [int .i64 o.scalars,int .i64 (3+(ns:Int))],.agg [int .i64 o.code,int .i64 40000],.agg [int .i64 o.arrays,int .i64 total]]:List LV)=rs.map regLV:=by rw[←hrs];rfl
 rw[hrl]
 have hlr:rs.length=3:=by rw[←hrs];rfl
 have hsz:∀ r∈rs,SmI r.2∧0≤r.2:=by
  rw[←hrs]
  intro r hr
  simp only[zMi,List.not_mem_nil,or_false] at hr
  unfold SmI
  rcases hr with rfl|rfl|rfl <;> simp only <;> omega
 have hrm:(rs.map regLV).length=rs.length:=zLm _
 clear hrl hrs
 refine qN ?_
 refine LCode.weak zhn ?_
 refine gaa ?_
 refine oL (fun kk ls H'=>∃ (i:Nat),i≤3∧kk=3-i∧ls=[(7,.list (rs.map regLV)),(8,int .i64 (i:Nat))]∧H'=[]∧∀ x (h:x<rs.length),x<i→insideR rs[x]=true)
  ⟨_,_,_,⟨0,Nat.zero_le _,rfl,rfl,rfl,fun x h hx=>by omega⟩,⟨rfl,rfl,trivial⟩,zhR _⟩ ?_
 rintro kk ls H' ⟨i,hi,rfl,rfl,rfl,hins⟩ j1 hj1
 refine gaa ?_
 refine oC rfl (fun hc=>?_) (fun hc=>?_)
 ·have hlt:i<rs.length:=by have:=zt hc;omega
  have hsi:=hsz _ (List.getElem_mem hlt)
  obtain ⟨⟨a,n⟩,hgr⟩:∃ r,r=rs[i]:=⟨_,rfl⟩
  have hgi:=@goR_in rs i hlt
  rw[←hgr] at hsi hgi
  unfold SmI at hsi
  simp only at hsi
  have hI:insideR (a,n)=decide (0≤a∧a≤262144-n):=rfl
  have hix:(rs.map regLV)[i]? = some (regLV (a,n)):=by rw[hgr];exact map_get _ _ _ hlt
  refine gad ?_
  refine LCode.cut [(7,.list (rs.map regLV)),(8,int .i64 i),(64,bool (!insideR (a,n)))] ?_ (fun j2 hj2=>?_)
  ·refine LCode.quiet zk ?_
   refine gac ?_
   refine LQ.pure (xR (el':=regLV (a,n)) (cs:=[_,_]) rfl rfl zo hix rfl rfl) rfl ?_
   refine gac ?_
   refine LQ.bcase 51 rfl (fun h1=>?_) (fun h1=>?_)
   ·have h1':=zt h1
    refine gac ?_
    exact ⟨⟨rfl,rfl,bool_eq (by rw[hI,decide_eq_false zo];rfl),trivial⟩,rfl,rfl⟩
   ·have h1':=zf h1
    refine gac ?_
    refine LQ.pure (xR (el':=regLV (a,n)) (cs:=[_,_]) rfl rfl zo hix rfl rfl) rfl ?_
    refine gac ?_
    refine LQ.pure (xR (el':=regLV (a,n)) (cs:=[_,_]) rfl rfl zo hix rfl rfl) rfl ?_
    refine gac ?_
    exact ⟨⟨rfl,rfl,bool_eq (by
     rw[hI,←decide_not,decide_eq_decide]
     omega),trivial⟩,rfl,rfl⟩
  refine oC rfl (fun h=>?_) (fun h=>?_)
  ·have h':insideR (a,n)=false:=by simpa using h
   refine gaa ?_
   exact retRet (hj2.trans (hj1.trans hj)) (zra rfl) (bool_eq (hgi h').symm)
  ·have h':insideR (a,n)=true:=by simpa using h
   refine gaa ?_
   exact ⟨_,_,_,by omega,⟨i+1,by omega,rfl,rfl,rfl,fun x hx hx1=>by
    by_cases he:x=i
    ·subst he
     rw[←hgr]
     exact h'
    ·exact hins x hx zo⟩,⟨rfl,int_eq zo,trivial⟩,zhR _,hj2.trans hj1⟩
 have hi3:i=3:=by have:=zf hc;omega
 subst hi3
 have hin:∀ x (h:x<rs.length),insideR rs[x]=true:=fun x h=>hins x h zo
 clear hins hc
 have inb:∀ r:Int×Int,SmI r.2∧0≤r.2→insideR r=true→0≤r.1∧r.1≤262144∧r.2≤262144:=fun r h1 h2=>by
  have:0≤r.1∧r.1≤262144-r.2:=zt h2
  omega
 refine gaa ?_
 refine oL (fun kk ls H'=>∃ (i:Nat),i≤3∧kk=3-i∧ls=[(7,.list (rs.map regLV)),(9,int .i64 (i:Nat))]∧H'=[]∧∀ x (h:x<rs.length),x<i→∀ k (hk:k<x),meetsR rs[x] (rs[k]'zo)=false)
  ⟨_,_,_,⟨0,Nat.zero_le _,rfl,rfl,rfl,fun x h hx=>by omega⟩,⟨rfl,rfl,trivial⟩,zhR _⟩ ?_
 rintro kk ls H' ⟨i,hi,rfl,rfl,rfl,hmt⟩ j2 hj2
 refine gaa ?_
 refine oC rfl (fun hc=>?_) (fun hc=>?_)
 rotate_left
 ·have hi3:i=3:=by have:=zf hc;omega
  subst hi3
  refine gaa ?_
  exact retRet (hj2.trans (hj1.trans hj)) (zra rfl) (bool_eq ((goR_iff rs []).2 ⟨fun r hr=>by
   obtain ⟨x,hx,rfl⟩:=List.getElem_of_mem hr
   exact hin x hx,fun x hx=>⟨fun s hs=>(List.not_mem_nil hs).elim,fun k hk=>hmt x hx zo k hk⟩⟩).symm)
 have hlt:i<rs.length:=by have:=zt hc;omega
 have hsi:=inb _ (hsz _ (List.getElem_mem hlt)) (hin i hlt)
 have hsj:=(hsz _ (List.getElem_mem hlt)).2
 obtain ⟨⟨a,n⟩,hgr⟩:∃ r,r=rs[i]:=⟨_,rfl⟩
 have hix:(rs.map regLV)[i]? = some (regLV (a,n)):=by rw[hgr];exact map_get _ _ _ hlt
 have hgm:=fun k hk=>@goR_meet rs i k hlt hk
 rw[←hgr] at hsi hsj hgm
 simp only at hsi hsj
 refine gaa ?_
 refine oL (fun kk ls H'=>∃ (y:Nat),y≤i∧kk=i-y∧ls=[(7,.list (rs.map regLV)),(9,int .i64 (i:Nat)),(10,int .i64 (y:Nat))]∧H'=[]∧∀ k (hk:k<rs.length),k<y→meetsR (a,n) rs[k]=false)
  ⟨_,_,_,⟨0,Nat.zero_le _,rfl,rfl,rfl,fun x h hx=>by omega⟩,⟨rfl,rfl,rfl,trivial⟩,zhR _⟩ ?_
 rintro kk ls H' ⟨y,hy,rfl,rfl,rfl,hmy⟩ j3 hj3
 refine gaa ?_
 refine oC rfl (fun hc=>?_) (fun hc=>?_)
 ·have hly:y<i:=by have:=zt hc;omega
  have hlt2:y<rs.length:=by omega
  have hti:=inb _ (hsz _ (List.getElem_mem hlt2)) (hin y hlt2)
  have htj:=(hsz _ (List.getElem_mem hlt2)).2
  have hgy:=hgm y hly
  obtain ⟨⟨b,m⟩,hgs⟩:∃ r,r=rs[y]:=⟨_,rfl⟩
  have hiy:(rs.map regLV)[y]? = some (regLV (b,m)):=by rw[hgs];exact map_get _ _ _ hlt2
  rw[←hgs] at hti htj hgy
  simp only at hti htj
  have hM:meetsR (a,n) (b,m)=decide (0<n∧0<m∧a<b+m∧b<a+n):=rfl
  refine gad ?_
  refine LCode.cut [(7,.list (rs.map regLV)),(9,int .i64 i),(10,int .i64 y),(125,bool (meetsR (a,n) (b,m)))] ?_ (fun j4 hj4=>?_)
  ·refine LCode.quiet zk ?_
   refine gac ?_
   refine LQ.pure (xR (el':=regLV (a,n)) (cs:=[_,_]) rfl rfl zo hix rfl rfl) rfl ?_
   refine gac ?_
   refine LQ.bcase 80 rfl (fun h1=>?_) (fun h1=>?_)
   rotate_left
   ·have h1':=zf h1
    refine gac ?_
    exact ⟨⟨rfl,rfl,rfl,bool_eq (by rw[hM];symm;exact decide_eq_false zo),trivial⟩,rfl,rfl⟩
   have h1':=zt h1
   refine gac ?_
   refine LQ.pure (xR (el':=regLV (b,m)) (cs:=[_,_]) rfl rfl zo hiy rfl rfl) rfl ?_
   refine gac ?_
   refine LQ.bcase 88 rfl (fun h2=>?_) (fun h2=>?_)
   rotate_left
   ·have h2':=zf h2
    refine gac ?_
    exact ⟨⟨rfl,rfl,rfl,bool_eq (by rw[hM];symm;exact decide_eq_false zo),trivial⟩,rfl,rfl⟩
   have h2':=zt h2
   refine gac ?_
   refine LQ.pure (xR (el':=regLV (a,n)) (cs:=[_,_]) rfl rfl zo hix rfl rfl) rfl ?_
   refine gac ?_
   refine LQ.pure (xR (el':=regLV (b,m)) (cs:=[_,_]) rfl rfl zo hiy rfl rfl) rfl ?_
   refine gac ?_
   refine LQ.pure (xR (el':=regLV (b,m)) (cs:=[_,_]) rfl rfl zo hiy rfl rfl) rfl ?_
   refine gac ?_
   refine LQ.bcase 107 rfl (fun h3=>?_) (fun h3=>?_)
   rotate_left
   ·have h3':=zf h3
    refine gac ?_
    exact ⟨⟨rfl,rfl,rfl,bool_eq (by rw[hM];symm;exact decide_eq_false zo),trivial⟩,rfl,rfl⟩
   have h3':=zt h3
   refine gac ?_
   refine LQ.pure (xR (el':=regLV (b,m)) (cs:=[_,_]) rfl rfl zo hiy rfl rfl) rfl ?_
   refine gac ?_
   refine LQ.pure (xR (el':=regLV (a,n)) (cs:=[_,_]) rfl rfl zo hix rfl rfl) rfl ?_
   refine gac ?_
   refine LQ.pure (xR (el':=regLV (a,n)) (cs:=[_,_]) rfl rfl zo hix rfl rfl) rfl ?_
   refine gac ?_
   exact ⟨⟨rfl,rfl,rfl,bool_eq (by rw[hM,decide_eq_decide];omega),trivial⟩,rfl,rfl⟩
  refine oC rfl (fun h=>?_) (fun h=>?_)
  ·refine gaa ?_
   exact retRet (hj4.trans (hj3.trans (hj2.trans (hj1.trans hj)))) (zra rfl) (bool_eq (hgy h).symm)
  ·refine gaa ?_
   exact ⟨_,_,_,by omega,⟨y+1,by omega,rfl,rfl,rfl,fun k hk hk1=>by
    by_cases he:k=y
    ·subst he
     rw[←hgs]
     exact h
    ·exact hmy k hk zo⟩,⟨rfl,rfl,int_eq zo,trivial⟩,zhR _,hj4.trans hj3⟩
 ·have hy':y=i:=by have:=zf hc;omega
  subst hy'
  refine gaa ?_
  exact ⟨_,_,_,by omega,⟨y+1,by omega,rfl,rfl,rfl,fun x hx hx1 k hk=>by
   by_cases he:x=y
   ·subst he
    rw[←hgr]
    exact hmy k zo hk
   ·exact hmt x hx zo k hk⟩,⟨rfl,int_eq zo,trivial⟩,zhR _,hj3.trans hj2⟩
end
end Go.Proofs.YtpbbgkoalnonoaaGreatDoor.Cmp
namespace Go.Proofs.YtpbbgkoalnonoaaGreatDoor.RC
open Go.GL Go.RowKit Go.Stele
open Chk (encArG encPrG freshE_zero isNm_short ndFs_append errFs_zero errF_names)
@[reducible] def pgmH (b:Nat) (vars:List Nm) (arrays:List (Nm×Int)) (fs:List FnD):Nat×LObj:=prH b vars (.list (arrays.map encArG)) fs
def PostC (e:Int) (r:LRes) (H:Heap):Prop:=H=[]∧∃ nm,r=.ret (.tuple [str nm,int .i64 e])
section
variable {C:Ctx} {n:Nat} {e:Env} {H:Heap}
theorem retC {rs:List ResultVar} {vs:List LV} {nm:Nm} {er:Int} (hd:e.ds=[]) (h:AllRes C n e H rs vs) (hv:resLV vs=.tuple [str nm,int .i64 er]):RetPost C n rs (PostC er) .ret e H:=
 rR hd h zhn ⟨rfl,nm,by rw[hv]⟩
end
theorem sums_len (vars arrays later:List Nm) (fs:List FnD):(sumFs vars arrays later [] fs).length=fs.length:=by
 have:=congrArg List.length (sumFs_names vars arrays later fs [])
 simpa using this
theorem last_ix {A B:Type} (g:A→B) {l:List A} {x:A} {n:Nat} (h:l.getLast? = some x) (hn:l.length=n):(l.map g)[((n:Int)-1).toNat]? = some (g x):=by
 rw[List.getLast?_eq_getElem?] at h
 subst hn
 rw[List.getElem?_map,show ((l.length:Int)-1).toNat=l.length-1 by omega,h]
 rfl
attribute [local irreducible] LOps LCode LStep LCalls Go.GL.Pure QThen QBlock RetPost LQ LAny LLate LLateOp LS
section
variable {B0:Nat} {w0:World}
theorem rcheck_spec (vars:List Nm) (arrays:List (Nm×Int)) (fs:List FnD) (hv6:vars.length≤2000000) (ha6:arrays.length≤2000000) (har:∀ a∈arrays,-9223372036854775808≤a.2∧a.2<9223372036854775808) (hnd:ndFs fs≤2000000) :
  LCalls (KC B0 w0) 15 [encPrG vars arrays fs] [] (PostC (checkP vars arrays fs)):=by
 have hfl:=ndFs_len fs
 rw[←refCheck_eq]
 generalize hE:refCheck vars arrays fs=E
 unfold refCheck at hE
 unfold encPrG
 refine cI Tryz.func15 rfl (n:=199) rfl rfl rfl ?_
 refine gaf ?_
 refine oS (S.box rfl fun b1=>?_) rfl
 refine gai ?_
 refine oS (S.litA (es:=[]) [] rfl eN rfl rfl rfl fun b4=>?_) rfl
 refine oS (S.litA (es:=[]) [] rfl eN rfl rfl rfl fun b5=>?_) rfl
 refine gab ?_
 refine oL (fun k ls H'=>∃ (pre l1:List (Nm×Int)) (v4:LV) (H4:Heap),arrays=pre++l1∧k=l1.length∧ls=[(1,ptr b1 0),(4,v4),(5,.app b5 0 1 []),(28,.list (arrays.map encArG)),(29,int .i64 ((arrays.map encArG).length:Int)),(30,int .i64 (pre.length:Int))] ∧
   H'=pgmH b1 vars arrays fs::(b5,.row 0)::H4∧GL.Acc 1 v4 ((pre.map (·.1)).map str) H4 [])
  ⟨_,_,_,⟨[],arrays,.app b4 0 1 [],[(b4,.row 0)],rfl,rfl,rfl,rfl,Acc.row⟩,⟨rfl,rfl,rfl,rfl,rfl,rfl,trivial⟩,⟨[],by simpa using (zPc (l₁:=[_,_]) (l₂:=[_]))⟩⟩ ?_
 rintro k ls H' ⟨pre,l1,v4,H4,hL,rfl,rfl,rfl,hacc4⟩ j hj
 have hb:=pre_le hL ha6
 refine gah ?_
 refine oC rfl (fun hc=>?_) (fun hc=>?_)
 ·obtain ⟨a,l2,rfl⟩:=more hL hc
  refine gak ?_
  refine oP (xR (el':=encArG a) (cs:=[_,_]) rfl rfl zo (by rw[hL];exact get_mid encArG pre a l2) rfl rfl) rfl ?_
  refine gac ?_
  refine oS (sA fun b7=>?_) rfl
  refine gaa ?_
  refine oP (pM (lv:=v4) rfl) rfl ?_
  refine gad ?_
  refine oS (sL (es:=[a.1].map str) [_] rfl (zeC rfl rfl eN) rfl rfl rfl ?_) rfl
  refine oS (S.accF (A:=[_,_,_]) (H1:=H4) (zPc (l₁:=[_,_,_])) rfl hacc4 rfl (strs_len _) (strs_ok _) (by simp;omega) fun v6 H6 hacc6=>?_) rfl
  refine oP (pA (lv:=v6) rfl) rfl ?_
  refine gal ?_
  exact ⟨l2.length,_,_,Nat.lt_succ_self _,⟨pre++[a],l2,v6,H6,snoc hL,rfl,rfl,rfl,by rw[zMa,zMa];exact hacc6⟩,⟨rfl,rfl,rfl,rfl,rfl,int_eq (by simp),trivial⟩,zhD zhr,hj⟩
 obtain rfl:=none_left hL hc
 rw[zLz] at hL
 rw[←hL] at hacc4
 have harl:(arrays.map (·.1)).length=arrays.length:=zLm _
 generalize hA:arrays.map (·.1)=A at hacc4 hE harl
 refine gad ?_
 refine LCode.sub (d:=4) rfl hacc4.sub ?_
 refine LCode.weak (H':=[pgmH b1 vars arrays fs,(b5,.row 0)]) ⟨H4,List.Perm.refl _⟩ ?_
 refine gaa ?_
 refine oL (fun k ls H'=>∃ (pre l1:List FnD) (v5:LV) (H5:Heap),fs=pre++l1∧k=l1.length∧ls=[(1,ptr b1 0),(4,.list (A.map str)),(5,v5),(41,.list (fs.map encFn)),(42,int .i64 ((fs.map encFn).length:Int)),(43,int .i64 (pre.length:Int))] ∧
   H'=pgmH b1 vars arrays fs::H5∧GL.Acc 1 v5 ((pre.map (·.name)).map str) H5 [])
  ⟨_,_,_,⟨[],fs,.app b5 0 1 [],[(b5,.row 0)],rfl,rfl,rfl,rfl,Acc.row⟩,⟨rfl,rfl,rfl,rfl,rfl,rfl,trivial⟩,zhR _⟩ ?_
 rintro k ls H' ⟨pre2,l1,v5,H5,hL2,rfl,rfl,rfl,hacc5⟩ j2 hj2
 have hb2:=pre_le hL2 (show fs.length≤2000000 by omega)
 refine gah ?_
 refine oC rfl (fun hc=>?_) (fun hc=>?_)
 ·obtain ⟨a,l2,rfl⟩:=more hL2 hc
  refine gak ?_
  refine oP (xR (el':=encFn a) (cs:=[_,_,_,_]) rfl rfl zo (by rw[hL2];exact get_mid encFn pre2 a l2) rfl rfl) rfl ?_
  refine gaq ?_
  refine oS (sA fun b9=>?_) rfl
  refine gab ?_
  refine oP (pM (lv:=v5) rfl) rfl ?_
  refine gad ?_
  refine oS (sL (es:=[a.name].map str) [_] rfl (zeC rfl rfl eN) rfl rfl rfl ?_) rfl
  refine oS (S.accF (A:=[_,_]) (H1:=H5) (zPc (l₁:=[_,_])) rfl hacc5 rfl (strs_len _) (strs_ok _) (by simp;omega) fun v6 H6 hacc6=>?_) rfl
  refine oP (pA (lv:=v6) rfl) rfl ?_
  refine gal ?_
  exact ⟨l2.length,_,_,Nat.lt_succ_self _,⟨pre2++[a],l2,v6,H6,snoc hL2,rfl,rfl,rfl,by rw[zMa,zMa];exact hacc6⟩,⟨rfl,rfl,rfl,rfl,rfl,int_eq (by simp),trivial⟩,zhD zhr,hj2⟩
 obtain rfl:=none_left hL2 hc
 rw[zLz] at hL2
 rw[←hL2] at hacc5
 have hfnl:(fs.map (·.name)).length=fs.length:=zLm _
 have hdist0:=fun h=>dist_of (vars:=vars) (arrays:=A) (fs:=fs) h
 have hnames0:∀ h:freshE [] (vars++A++fs.map (·.name))=0,∀ f∈fs,f.name.length≤1000:=fun h f hf=>isNm_short ((freshE_zero _ _ h).2.2 f.name (List.mem_append_right _ (List.mem_map_of_mem hf)))
 have hMeas:=fun (h1:freshE [] (vars++A++fs.map (·.name))=0) h2=>Measure_spec (B0:=B0) (w0:=w0) (vars:=vars) (arrays:=A) (fs:=fs) (.list (arrays.map encArG)) hnd (hdist0 h1) h2
 have hslen:=sums_len vars A (fs.map (·.name)) fs
 have hlens:((sumFs vars A (fs.map (·.name)) [] fs).map (·.name))=fs.map (·.name):=by rw[sumFs_names];rfl
 generalize hF:fs.map (·.name)=F at hacc5 hE hfnl hdist0 hnames0 hMeas hslen hlens
 refine gad ?_
 refine LCode.sub (d:=5) rfl hacc5.sub ?_
 refine LCode.weak (H':=[pgmH b1 vars arrays fs]) ⟨H5,List.Perm.refl _⟩ ?_
 refine gaf ?_
 refine oS (S.litA (es:=[]) [] rfl eN rfl rfl rfl fun b6=>?_) rfl
 refine gac ?_
 refine oS (S.accF (A:=[_]) (H1:=[(b6,.row 0)]) zpr rfl Acc.row rfl (strs_len _) (strs_ok _) (by simp;omega) fun v1 H1 h1=>?_) rfl
 refine gad ?_
 refine oS (S.accF (A:=[_]) (H1:=H1) (zPc (l₁:=[_])) rfl h1 rfl (strs_len _) (strs_ok _) (by simp;omega) fun v2 H2 h2=>?_) rfl
 refine gad ?_
 refine oS (S.accF (A:=[_]) (H1:=H2) (zPc (l₁:=[_])) rfl h2 rfl (strs_len _) (strs_ok _) (by simp;omega) fun v3 H3 h3=>?_) rfl
 have e3:([]++vars.map str++A.map str++F.map str:List LV)=(vars++A++F).map str:=by simp
 rw[e3] at h3
 refine LOps.sub 61 rfl h3.sub ?_
 refine LOps.weak (H':=[pgmH b1 vars arrays fs]) ⟨H3,List.Perm.refl _⟩ ?_
 have hfr:LCalls (KC B0 w0) 35 [nilSlice,.list ((vars++A++F).map str)] [] (PostF [] (vars++A++F)):=LCalls.argsSub (bs:=[.list (([]:List Nm).map str),.list ((vars++A++F).map str)]) ⟨LV.Sub.nil,LV.Sub.refl _,trivial⟩ (fresh_spec [] _ (Nat.zero_le _) (by rw[zLa,zLa];omega))
 refine oS (S.callH (H1:=[]) (F:=[_]) [_,_] rfl zpr hfr ?_ (by
  rintro ch H' ⟨rfl,nm,f1,f2⟩
  by_cases h0:freshE [] (vars++A++F)=0
  ·cases f1 h0
  ·cases f2 h0)) rfl
 rintro lv H' ⟨rfl,nm,f1,f2⟩
 by_cases h0:freshE [] (vars++A++F)=0
 rotate_left
 ·cases f2 h0
  have hE':freshE [] (vars++A++F)=E:=by rw[←hE];exact (Chk.orE_ne h0).symm
  refine gac ?_
  refine oS (sA fun b11=>?_) rfl
  refine gab ?_
  refine oC rfl (fun _=>?_) (fun hd=>?_)
  rotate_left
  ·have h2:(!decide (freshE [] (vars++A++F)=0))=false:=hd
   simp at h2
   exact absurd h2 (by simpa using h0)
  refine gau ?_
  refine LCode.quiet zk ?_
  refine gac ?_
  exact retC (nm:=nm) (hj2.trans hj) (rC (zrt rfl) (zra rfl)) (by rw[hE'];rfl)
 have e0:=f1 h0
 rw[List.nil_append] at e0
 cases e0
 rw[h0] at hE
 replace hE:orE (sizesE 0 (arrays.map (·.2))) (orE (errFs vars A F [] fs) (mainE vars fs (refFs vars A F [] fs)))=E:=hE
 refine gac ?_
 refine oS (sA fun b11=>?_) rfl
 refine gab ?_
 refine oC rfl (fun hd=>by cases hd) (fun _=>?_)
 refine gab ?_
 refine oL (fun k ls H'=>∃ (pre l1:List (Nm×Int)) (T:Int),arrays=pre++l1∧k=l1.length∧ls=[(1,ptr b1 0),(4,.list (A.map str)),(5,.list (F.map str)),(10,.list ((vars++A++F).map str)),(12,int .i64 T),(73,.list (arrays.map encArG)),(74,int .i64 ((arrays.map encArG).length:Int)),(75,int .i64 (pre.length:Int))] ∧
   H'=[pgmH b1 vars arrays fs]∧0≤T∧T≤150000∧orE (sizesE T (l1.map (·.2))) (orE (errFs vars A F [] fs) (mainE vars fs (refFs vars A F [] fs)))=E)
  ⟨_,_,_,⟨[],arrays,0,rfl,rfl,rfl,rfl,by omega,by omega,hE⟩,⟨rfl,rfl,rfl,rfl,rfl,rfl,rfl,rfl,trivial⟩,zhD zhr⟩ ?_
 rintro k ls H' ⟨pre3,l1,T,hL3,rfl,rfl,rfl,hT0,hT1,hI⟩ j3 hj3
 have hb3:=pre_le hL3 ha6
 have hds:=hj3.trans (hj2.trans hj)
 refine gah ?_
 refine oC rfl (fun hc=>?_) (fun hc=>?_)
 ·obtain ⟨a,l2,rfl⟩:=more hL3 hc
  obtain ⟨ar1,ar2⟩:=har a (by rw[hL3];simp)
  rw[zMc,sizesE] at hI
  refine gak ?_
  refine oP (xR (el':=encArG a) (cs:=[_,_]) rfl rfl zo (by rw[hL3];exact get_mid encArG pre3 a l2) rfl rfl) rfl ?_
  refine gac ?_
  refine oS (sA fun b14=>?_) rfl
  refine gab ?_
  refine oC rfl (fun h5=>?_) (fun h5=>?_)
  ·rw[if_pos (zt h5)] at hI
   refine gaa ?_
   exact retC (nm:=a.1) hds (rC (zrt rfl) (zra rfl)) (by rw[←hI];rfl)
  have h5':=zf h5
  rw[if_neg h5'] at hI
  refine gab ?_
  refine oC rfl (fun h6=>?_) (fun h6=>?_)
  ·rw[if_pos (zt h6)] at hI
   refine gaa ?_
   exact retC (nm:=a.1) hds (rC (zrt rfl) (zra rfl)) (by rw[←hI];rfl)
  have h6':=zf h6
  rw[if_neg h6'] at hI
  refine gaa ?_
  exact ⟨l2.length,_,_,Nat.lt_succ_self _,⟨pre3++[a],l2,T+a.2,snoc hL3,rfl,rfl,rfl,by omega,by omega,hI⟩,⟨rfl,rfl,rfl,rfl,rfl,rfl,rfl,int_eq (by simp),trivial⟩,zhD zhr,hj3⟩
 obtain rfl:=none_left hL3 hc
 replace hI:orE (errFs vars A F [] fs) (mainE vars fs (refFs vars A F [] fs))=E:=hI
 clear hE
 refine gaa ?_
 refine oL (fun k ls H'=>∃ (pre l1:List FnD) (known:List FSum),fs=pre++l1∧k=l1.length∧ls=[(1,ptr b1 0),(4,.list (A.map str)),(5,.list (F.map str)),(10,.list ((vars++A++F).map str)),(97,.list (fs.map encFn)),(98,int .i64 ((fs.map encFn).length:Int)),(99,int .i64 (pre.length:Int))] ∧
   H'=[pgmH b1 vars arrays fs]∧known.map (fun s=>(s.name,s.params))=pre.map (fun f=>(f.name,f.params.length))∧(errFs vars A F known l1=0→errFs vars A F [] fs=0)∧orE (errFs vars A F known l1) (mainE vars fs (refFs vars A F [] fs))=E)
  ⟨_,_,_,⟨[],fs,[],rfl,rfl,rfl,rfl,rfl,id,hI⟩,⟨rfl,rfl,rfl,rfl,rfl,rfl,rfl,trivial⟩,zhR _⟩ ?_
 rintro k ls H' ⟨pre4,l1,known,hL4,rfl,rfl,rfl,hkn,hz,hI4⟩ j4 hj4
 have hb4:=pre_le hL4 (show fs.length≤2000000 by omega)
 have hds4:=hj4.trans hds
 refine gah ?_
 refine oC rfl (fun hc=>?_) (fun hc=>?_)
 ·obtain ⟨f,l2,rfl⟩:=more hL4 hc
  have hfm:f∈fs:=by rw[hL4];simp
  have hndf:=ndFs_mem hfm
  have hndf':1+f.params.length+f.locals.length+ndSs f.body≤2000000:=by unfold ndF at hndf;omega
  rw[errFs,errF,orE_assoc,orE_assoc] at hI4
  rw[errFs,errF] at hz
  have hsc:ScOk (envF vars A F known f) pre4:=by
   refine ⟨hkn,?_,?_,?_,?_,?_,fun g hg=>?_⟩
   ·show (f.params++f.locals).length≤_
    rw[zLa];omega
   ·show vars.length≤_
    omega
   ·show A.length≤_
    omega
   ·show F.length≤_
    omega
   ·omega
   ·have h7:=ndFs_mem (show g∈fs by rw[hL4];exact List.mem_append_left _ hg)
    unfold ndF at h7
    omega
  have hbody:=body_spec (B0:=B0) (w0:=w0) (own:=f.name) hsc 2000001 zo f.body zo
  refine gaa ?_
  refine oP (xR (el':=encFn f) (cs:=[_,_,_,_]) rfl rfl zo (by rw[hL4];exact get_mid encFn pre4 f l2) rfl rfl) rfl ?_
  refine gaq ?_
  refine oS (sA fun b16=>?_) rfl
  refine gac ?_
  refine LCode.draw (m:=8) rfl [fnH b16 f] ?_
  refine aT 1 rfl rfl (pF rfl) ?_
  refine aT 2 rfl rfl (pL (c:=.list _) rfl zm0 rfl) ?_
  refine aT 4 rfl rfl (pF rfl) ?_
  refine aT 5 rfl rfl (pL (c:=.list _) rfl zm0 rfl) ?_
  refine LAny.late ?_ zhp
  refine lO 0 (lS (H1:=[]) rfl (.inl rfl) rfl zpr zhp (S.litA (es:=[]) [] rfl eN rfl rfl rfl fun b7=>?_))
  refine lO 3 (lS (H1:=[(b7,.row 0)]) rfl (.inl rfl) rfl zpr zhp (S.acc (F:=[]) rfl Acc.row rfl (strs_len _) (strs_ok _) (by simp;omega) fun v1 H1 h1=>?_))
  refine lO 6 (lS (H1:=H1) rfl (.inl rfl) rfl zpr zhp (S.acc (F:=[]) rfl h1 rfl (strs_len _) (strs_ok _) (by simp;omega) fun v2 H2 h2=>?_))
  have e2:([]++f.params.map str++f.locals.map str:List LV)=(f.params++f.locals).map str:=by simp
  rw[e2] at h2
  refine lO 7 (lH rfl rfl (pA (lv:=v2) rfl) ?_)
  refine lD zk ?_
  refine gar ?_
  refine LCode.sub (d:=17) rfl h2.sub ?_
  refine LCode.weak (H':=[fnH b16 f,pgmH b1 vars arrays fs]) ⟨H2,zPc⟩ ?_
  refine gaa ?_
  refine oS (S.callH (H1:=[]) (F:=[_,_]) [_,_] rfl zpr (fresh_spec (vars++A++F) (f.params++f.locals) (by rw[zLa,zLa];omega) (by rw[zLa];omega)) ?_ (by
   rintro ch H' ⟨rfl,nm,f1,f2⟩
   by_cases h0:freshE (vars++A++F) (f.params++f.locals)=0
   ·cases f1 h0
   ·cases f2 h0)) rfl
  rintro lv H' ⟨rfl,nm,f1,f2⟩
  by_cases h0:freshE (vars++A++F) (f.params++f.locals)=0
  rotate_left
  ·cases f2 h0
   rw[Chk.orE_ne h0] at hI4
   refine gac ?_
   refine oS (sA fun b19=>?_) rfl
   refine gab ?_
   refine oC rfl (fun _=>?_) (fun hd=>?_)
   rotate_left
   ·have h2:(!decide (freshE (vars++A++F) (f.params++f.locals)=0))=false:=hd
    simp at h2
    exact absurd h2 (by simpa using h0)
   refine gau ?_
   refine LCode.quiet zk ?_
   refine gac ?_
   exact retC (nm:=nm) hds4 (rC (zrt rfl) (zra rfl)) (by rw[←hI4];rfl)
  cases f1 h0
  rw[h0] at hI4 hz
  replace hI4:orE (errSs (envF vars A F known f) f.body) (orE (errFs vars A F (known++[sumF vars A F known f]) l2) (mainE vars fs (refFs vars A F [] fs)))=E:=hI4
  replace hz:orE (errSs (envF vars A F known f) f.body) (errFs vars A F (known++[sumF vars A F known f]) l2)=0→errFs vars A F [] fs=0:=hz
  refine gac ?_
  refine oS (sA fun b19=>?_) rfl
  refine gab ?_
  refine oC rfl (fun hd=>by cases hd) (fun _=>?_)
  refine gad ?_
  refine LCode.weak (H':=[fnH b16 f,pgmH b1 vars arrays fs]) (zhD zhr) ?_
  refine LCode.draw (m:=14) rfl [fnH b16 f,pgmH b1 vars arrays fs] ?_
  refine aT 0 rfl rfl (pF rfl) ?_
  refine aT 1 rfl rfl (pL (c:=.atom _) rfl zm0 rfl) ?_
  refine aT 2 rfl rfl (pM (lv:=.list _) rfl) ?_
  refine aT 3 rfl rfl (pF rfl) ?_
  refine aT 4 rfl rfl (pL (c:=.list _) rfl zm1 rfl) ?_
  refine aT 5 rfl rfl (pM (lv:=.list _) rfl) ?_
  refine aT 6 rfl rfl (pF rfl) ?_
  refine aT 7 rfl rfl (pL (c:=.list _) rfl zm1 rfl) ?_
  refine aT 8 rfl rfl (pM (lv:=.atom _) rfl) ?_
  refine LAny.take (i:=9) zhr rfl zk zk zk rfl (Pure.sliceTo (g:=encFn) (pre:=pre4) (l1:=f::l2) (by rw[←hL4];rfl) rfl (encFn_len _)) ?_
  refine aT 10 rfl rfl (pM (lv:=.list _) rfl) ?_
  refine aT 11 rfl rfl (Pure.bld _ (cs:=[_,_,_,_,_,_]) rfl) ?_
  refine LAny.late ?_ zhr
  refine lO 12 (lS (H1:=[]) rfl (.inl rfl) rfl zpr zhr (sA fun b20=>?_))
  refine lO 13 (lS (H1:=[_]) rfl (.inl rfl) rfl zpr zhr (sS (n:=6) (cs':=[_,_,_,_,_,_]) rfl pH rfl rfl rfl rfl rfl ?_))
  refine lD zk ?_
  refine gab ?_
  refine oS (S.pb [_,_] rfl hbody fun nm=>?_) rfl
  refine oS (sA fun b21=>?_) rfl
  refine gab ?_
  by_cases h1:errSs (envF vars A F known f) f.body=0
  ·rw[h1] at hI4 hz ⊢
   refine oC rfl (fun hd=>by cases hd) (fun _=>?_)
   refine gaa ?_
   exact ⟨l2.length,_,_,Nat.lt_succ_self _,⟨pre4++[f],l2,known++[sumF vars A F known f],snoc hL4,rfl,rfl,rfl,by rw[zMa,zMa,hkn];rfl,hz,hI4⟩,⟨rfl,rfl,rfl,rfl,rfl,rfl,int_eq (by simp),trivial⟩,zhD (zhD (zhD zhr)),hj4⟩
  ·rw[Chk.orE_ne h1] at hI4
   refine oC rfl (fun _=>?_) (fun hd=>?_)
   rotate_left
   ·have h2:(!decide (errSs (envF vars A F known f) f.body=0))=false:=hd
    simp at h2
    exact absurd h2 h1
   refine gau ?_
   refine LCode.quiet zk ?_
   refine gac ?_
   exact retC (nm:=nm) hds4 (rC (zrt rfl) (zra rfl)) (by rw[←hI4];rfl)
 obtain rfl:=none_left hL4 hc
 have hz0:errFs vars A F [] fs=0:=hz rfl
 replace hI4:mainE vars fs (refFs vars A F [] fs)=E:=hI4
 rw[refFs_eq fs [] (by rw[List.nil_append];exact hdist0 h0) hz0] at hI4
 have hM:=hMeas h0 hz0
 have hown:∀ f∈fs,∀ x∈f.params++f.locals,x.length≤1000:=fun f hf=>by
  obtain ⟨k,hk⟩:=errFs_zero _ _ hz0 f hf
  exact errF_names hk
 have hnn:∀ f∈fs,f.name.length≤1000∧∀ x∈f.params++f.locals,x.length≤1000:=fun f hf=>⟨hnames0 h0 f hf,hown f hf⟩
 have hsm:∀ f∈fs,SmF f:=fun f hf=>smF_of (zNt (ndFs_mem hf) hnd)
 clear hz hI hMeas
 unfold mainE at hI4
 refine gaa ?_
 cases hfl2:fs.getLast? with
 |none=>
  have hnil:=List.getLast?_eq_none_iff.1 hfl2
  rw[hfl2] at hI4
  refine oB 153 rfl (fun _=>?_) (fun h=>absurd (by rw[hnil];rfl) (zf h))
  refine gad ?_
  refine oC rfl (fun _=>?_) (fun hd=>by cases hd)
  refine gao ?_
  exact retC (nm:=[109,97,105,110]) hds4 (rC (zrt rfl) (zra rfl)) (by rw[←hI4];rfl)
 |some f=>
  have hfm:f∈fs:=List.mem_of_getLast? hfl2
  have hpos:0<fs.length:=List.length_pos_of_mem hfm
  have hml:((fs.map encFn).length:Int)=(fs.length:Int):=by rw[zLm]
  obtain ⟨m,hm⟩:∃ m,(sumFs vars A F [] fs).getLast? = some m:=by
   cases hx:(sumFs vars A F [] fs).getLast? with
   |some m=>exact ⟨m,rfl⟩
   |none=>
    rw[List.getLast?_eq_none_iff.1 hx] at hslen
    simp at hslen
    omega
  rw[hfl2,hm] at hI4
  replace hI4:(if f.name=[109,97,105,110]∧f.params=[] then (if (scalarsP vars fs).length≤8000∧m.need≤200∧m.depth≤60 then 0 else 6) else 9)=E:=hI4
  have hget:(fs.map encFn)[(((fs.map encFn).length:Int)-1).toNat]? = some (encFn f):=by rw[hml];exact last_ix encFn hfl2 rfl
  have hg1:(((sumFs vars A F [] fs).map (·.need)).map iv)[(((fs.map encFn).length:Int)-1).toNat]? = some (iv m.need):=by
   rw[hml,List.map_map]
   exact last_ix _ hm hslen
  have hg2:(((sumFs vars A F [] fs).map (·.depth)).map iv)[(((fs.map encFn).length:Int)-1).toNat]? = some (iv m.depth):=by
   rw[hml,List.map_map]
   exact last_ix _ hm hslen
  have hn0:0≤((fs.map encFn).length:Int)-1:=by omega
  have hml2:((fs.map encFn).length:Int)≤2000000:=by omega
  refine oB 153 rfl (fun h=>?_) (fun _=>?_)
  ·have:=zt h
   omega
  refine gac ?_
  refine oP (xR (el':=encFn f) (n:=((fs.map encFn).length:Int)-1) (cs:=[_,_,_,_]) rfl rfl hn0 hget rfl rfl) rfl ?_
  refine gac ?_
  by_cases h1:f.name=[109,97,105,110]
  rotate_left
  ·rw[if_neg (fun h=>h1 h.1)] at hI4
   refine oB 163 (b:=!decide (f.name=[109,97,105,110])) rfl (fun _=>?_) (fun h=>absurd (by simpa using h) h1)
   refine gad ?_
   refine oC rfl (fun _=>?_) (fun hd=>by cases hd)
   refine gao ?_
   exact retC (nm:=[109,97,105,110]) hds4 (rC (zrt rfl) (zra rfl)) (by rw[←hI4];rfl)
  refine oB 163 (b:=!decide (f.name=[109,97,105,110])) rfl (fun h=>?_) (fun _=>?_)
  ·simp[h1] at h
  refine gac ?_
  refine oP (xR (el':=encFn f) (n:=((fs.map encFn).length:Int)-1) (cs:=[_,_,_,_]) rfl rfl hn0 hget rfl rfl) rfl ?_
  refine gac ?_
  refine oC rfl (fun h2=>?_) (fun h2=>?_)
  ·have h3:=zt h2
   rw[zLm] at h3
   rw[if_neg (fun h=>by rw[h.2] at h3;simp at h3)] at hI4
   refine gao ?_
   exact retC (nm:=[109,97,105,110]) hds4 (rC (zrt rfl) (zra rfl)) (by rw[←hI4];rfl)
  have hpar:f.params=[]:=by
   have h3:=zf h2
   rw[zLm] at h3
   exact List.length_eq_zero_iff.1 zo
  rw[if_pos ⟨h1,hpar⟩] at hI4
  refine gab ?_
  refine oS (sF [_] rfl hM ?_) rfl
  refine gab ?_
  refine oS (sF [_] rfl (rscalars_spec (.list (arrays.map encArG)) hv6 zo hsm hnn) ?_) rfl
  refine gac ?_
  refine oB 183 rfl (fun h3=>?_) (fun h3=>?_)
  ·have h4:=zt h3
   rw[zLm] at h4
   rw[if_neg (fun h=>by have:=h.1;omega)] at hI4
   refine gad ?_
   refine oC rfl (fun _=>?_) (fun hd=>by cases hd)
   refine gao ?_
   exact retC (nm:=[109,97,105,110]) hds4 (rC (zrt rfl) (zra rfl)) (by rw[←hI4];rfl)
  have h3':=zf h3
  rw[zLm] at h3'
  refine gac ?_
  refine oP (xR (el':=iv m.need) (n:=((fs.map encFn).length:Int)-1) (cs:=[_]) rfl rfl hn0 hg1 rfl rfl) rfl ?_
  refine gac ?_
  refine oB 191 rfl (fun h4=>?_) (fun h4=>?_)
  ·have h5:=zt h4
   rw[if_neg (fun h=>by have:=h.2.1;omega)] at hI4
   refine gad ?_
   refine oC rfl (fun _=>?_) (fun hd=>by cases hd)
   refine gao ?_
   exact retC (nm:=[109,97,105,110]) hds4 (rC (zrt rfl) (zra rfl)) (by rw[←hI4];rfl)
  have h4':=zf h4
  refine gac ?_
  refine oP (xR (el':=iv m.depth) (n:=((fs.map encFn).length:Int)-1) (cs:=[_]) rfl rfl hn0 hg2 rfl rfl) rfl ?_
  refine gac ?_
  refine oC rfl (fun h5=>?_) (fun h5=>?_)
  ·have h6:=zt h5
   rw[if_neg (fun h=>by have:=h.2.2;omega)] at hI4
   refine gao ?_
   exact retC (nm:=[109,97,105,110]) hds4 (rC (zrt rfl) (zra rfl)) (by rw[←hI4];rfl)
  have h5':=zf h5
  rw[if_pos ⟨by omega,by omega,by omega⟩] at hI4
  refine gaa ?_
  exact retC (nm:=[]) hds4 (rC (zrt rfl) (zra rfl)) (by rw[←hI4];rfl)
end
end Go.Proofs.YtpbbgkoalnonoaaGreatDoor.RC
