/- Texts joined: A23C, A23E, A23F, A23D, A23G, RFt. -/
import Derived.Test.YthmhncflhnbedaaGreatDoorBRowCB9
import Derived.Test.YthmhncflhnbedaaGreatDoorBRowCB10
import Derived.Test.YthmhncflhnbedaaGreatDoorBRowCB12
set_option linter.unusedVariables false
set_option linter.unusedSimpArgs false
set_option maxRecDepth 100000
set_option maxHeartbeats 4000000
namespace Go.Proofs.YthmhncflhnbedaaGreatDoor.R23
open Go.GL Go.RowKit Go.Stele
open Go.Lib (decDigits itoa join)
open Cmp (qdd qcM EnvOk qmS qbP qcb qmv twoW binW)
theorem qeO {c:CC}:∀ l:List Ex,exWl c l=l.map (exW c)
 |[]=>qcb ..
 |x::l=>by rw[qbP,qeO l];rfl
theorem qk2 {env:CEnv}:∀ {l:List Ex},qaZ env l=0->∀ x∈l,errE env x=0
 |[],_,x,h=>(List.not_mem_nil h).elim
 |y::l,he,x,h=>by
  rw[qaZ] at he;rcases zMi.1 h with rfl|h
  ·exact (qad.1 he).1
  ·exact qk2 (qad.1 he).2 x h
theorem qpF:∀ {l:List Ex} {x:Ex},x∈l->ndE x<=ndEs l
 |[],x,h=>(List.not_mem_nil h).elim
 |y::l,x,h=>by
  rw[ndEs];rcases zMi.1 h with rfl|h
  ·omega
  ·have:=qpF h;omega
structure RefC (B0:Nat) (w0:World) (vars:List Nm) (arrays:List (Nm×Int)) (fs:List FnD) (sc:Nat) (ars:List (Nm×Int)) (own:Nm) (c:CC) (env:CEnv):Prop where
 sc1:∀ name,qbj env name=0->LCalls (KC B0 w0) 83 [cLV vars arrays fs sc ars own,str name] [] (Ret (str (c.sc name)))
 ar1:∀ name,LCalls (KC B0 w0) 184 [cLV vars arrays fs sc ars own,str name] [] (Ret (str (c.ar name)))
 t0:c.t0=decDigits sc
 t1:c.t1=decDigits (sc+1)
 t2:c.t2=decDigits (sc+2)
 le:sc<=1000000
 ne:∀ x,numE x->errE env x=0->∀ w∈exW c x,w≠[]
attribute [local irreducible] LOps qae qag LCalls Go.GL.Pure qaA qaq qah LQ LAny qaF qap LS
section
variable {B0:Nat} {w0:World}
def qtc (B0:Nat) (w0:World) (vars:List Nm) (arrays:List (Nm×Int)) (fs:List FnD) (sc:Nat) (ars:List (Nm×Int)) (own:Nm) (c:CC) (env:CEnv) (m:Nat):Prop:=∀ (x:Ex) (ws:List Wd) (n:Nat),ndE x<=m->numE x->errE env x=0->(∀ w∈ws,w≠[])->tot (ws++exW c x)<=1000000000000 ->
 LCalls (KC B0 w0) 183 [cLV vars arrays fs sc ars own,tLV ws n,encE x] [] (Ret (tLV (ws++exW c x) n))
@[reducible] def exR (b:Nat) (op:Nm) (num:Nat) (name:Nm) (args:List Ex):Nat×LObj:=(b,.cells 182 [str op,int .u32 (num:Int),str name,.list (args.map encE)])
@[reducible] def tR (b:Nat) (ws:List Wd) (n:Nat):Nat×LObj:=(b,.cells 160 [str (join ws [32]),int .i64 (n:Nat)])
@[reducible] def zR (b:Nat):Nat×LObj:=(b,.cells 160 [str [],int .i64 0])
@[reducible] def cR (b:Nat) (vars:List Nm) (arrays:List (Nm×Int)) (fs:List FnD) (sc:Nat) (ars:List (Nm×Int)) (own:Nm):Nat×LObj:=(b,.cells 158 [.list (vars.map str),.list (arrays.map Chk.encArG),.list (fs.map qav),int .i64 (sc:Nat),.list (ars.map qdd),str own])
theorem qh7 {vars:List Nm} {arrays:List (Nm×Int)} {fs:List FnD} {sc:Nat} {ars:List (Nm×Int)} {own:Nm} {c:CC} {env:CEnv} (hc:RefC B0 w0 vars arrays fs sc ars own c env) (hE:EnvOk env):∀ m:Nat,m<=2000000->qtc B0 w0 vars arrays fs sc ars own c env m
 |0,_=>fun x ws n h=>by have:=qgN x;omega
 |m+1,hm6=>by
  have ih:=qh7 hc hE m zo;intro x ws n hnd hnum herr hws hT;have hneX:=hc.ne x hnum herr;obtain ⟨op,num,name,args⟩:=x;rw[ndE] at hnd;rw[numE] at hnum;obtain ⟨hnum,hna⟩:=hnum;have hal:=qbT args;rw[errE] at herr
  by_cases hop:qba op = -1∨qba op=args.length
  rotate_left
  ·rw[if_neg hop] at herr;cases herr
  rw[if_pos hop] at herr;obtain ⟨he1,he2⟩:=qad.1 herr;have hW:exW c (Ex.mk op num name args)=opW c op num name (exWl c args):=by rw[exW]
  have hone:qba op=1->∃ x,args=[x]:=fun h1=>qmS (env:=env) (name:=name) hop h1
  have htwo:qba op=2->∃ x y,args=[x,y]:=fun h2=>by
   rcases hop with h|h
   ·rw[h2] at h;cases h
   ·rw[h2] at h
    match args,h with
    |[x,y],_=>exact ⟨x,y,rfl⟩
  have hle:=hc.le;have hn1:=qcS (B0:=B0) (w0:=w0) (sc+1) zo;have hn2:=qcS (B0:=B0) (w0:=w0) (sc+2) zo;rw[<-hc.t1] at hn1;rw[<-hc.t2] at hn2;have eC:cLV vars arrays fs sc ars own=.agg [.list (vars.map str),.list (arrays.map Chk.encArG),.list (fs.map qav),int .i64 (sc:Nat),.list (ars.map qdd),str own]:=rfl;have eT:∀ ws,tLV ws n=.agg [str (join ws [32]),int .i64 (n:Nat)]:=fun _=>rfl;rw[qbW,eC,eT ws];refine cI Tryz.func183 rfl (n:=210) rfl rfl rfl ?_;refine gag ?_;refine oS (sB rfl fun b3=>?_) rfl;refine oS (sB rfl fun b4=>?_) rfl;refine oS (sB rfl fun b5=>?_) rfl;refine oS (sA fun b6=>?_) rfl
  repeat (first|refine LOps.nil ?_|refine qN ?_|refine qae.skip ?_)
  refine cW (H':=[cR b3 vars arrays fs sc ars own,tR b4 ws n,exR b5 op num name args,zR b6]) ⟨[],by rw[zLz];exact (List.reverse_perm [cR b3 vars arrays fs sc ars own,tR b4 ws n,exR b5 op num name args,zR b6])⟩ ?_;refine qae.seq ?_;refine cC [(3,ptr b3 0),(4,ptr b4 0),(5,ptr b5 0),(6,ptr b6 0),(7,str c.t1),(8,str c.t2)] ?_ (fun j hj=>?_)
  ·refine cD (m:=10) rfl [cR b3 vars arrays fs sc ars own,tR b4 ws n,exR b5 op num name args,zR b6] ?_;refine aT 0 rfl rfl (pF rfl) ?_;refine aT 1 rfl rfl (pL (c:=.atom _) rfl zm0 rfl) ?_;refine aT 2 rfl rfl (Pure.add rfl rfl zo) ?_;refine aT 4 rfl rfl (pF rfl) ?_;refine aT 5 rfl rfl (pL (c:=.atom _) rfl zm0 rfl) ?_;refine aT 6 rfl rfl (Pure.add rfl rfl zo) ?_;refine aL ?_ zhr;refine zl1 (i:=3) zk ?_;refine lS (H1:=[]) rfl (.inl rfl) rfl zpr zhr (sF [_] rfl hn1 ?_);refine zl1 (i:=7) zk ?_;refine lS (H1:=[]) rfl (.inl rfl) rfl zpr zhr (sF [_] rfl hn2 ?_);refine zl1 (i:=8) zk ?_;refine lH rfl rfl (pA (lv:=.atom _) rfl) ?_;refine zl1 (i:=9) zk ?_;refine lH rfl rfl (pA (lv:=.atom _) rfl) ?_;refine qhE ?_;exact ⟨⟨rfl,rfl,rfl,rfl,rfl,rfl,trivial⟩,rfl,rfl⟩
  refine gab ?_
  by_cases h1:op=[110,117,109]
  ·have hW1:exW c (Ex.mk op num name args)=[decDigits num]:=by rw[hW];subst h1;rfl
   rw[hW1] at hT hneX ⊢;refine oC rfl (fun _=>?_) (fun hc=>absurd h1 (zf hc));refine ga1 ?_;have hnl:num<4294967296:=hnum;have hnn:=qcS (B0:=B0) (w0:=w0) num zo;have hpt:=qak (B0:=B0) (w0:=w0) ws [decDigits num] n hws hneX hT;simp only[eT] at hpt;refine cD (m:=8) rfl [cR b3 vars arrays fs sc ars own,tR b4 ws n,exR b5 op num name args] ?_;refine aT 0 rfl rfl (pG (cs':=[_,_]) rfl zm1 rfl rfl) ?_;refine aT 1 rfl rfl (pF rfl) ?_;refine aT 2 rfl rfl (pL (c:=.atom _) rfl zm2 rfl) ?_;refine aT 3 rfl rfl (Pure.cvt rfl) ?_;refine zQ81 ?_;refine lO 4 (lS (H1:=[]) rfl (.inl rfl) rfl zpr ⟨_,List.Perm.refl _⟩ (sF [_] (by show [int .i64 (IntKind.i64.wrap (num:Int))]=[int .i64 (num:Nat)];rw[qc4 zo]) hnn ?_));refine lO 5 (lS (H1:=[]) rfl (.inl rfl) rfl zpr ⟨_,List.Perm.refl _⟩ (sL [_] rfl (qaC [_]) rfl rfl rfl ?_));refine zQ63 ?_;exact qac hj (rC (rA rfl zm0 rfl zsr) rN) rfl
  refine oC rfl (fun hc=>absurd (zt hc) h1) (fun _=>?_);refine gaj ?_
  by_cases h2:op=[118,97,114]
  ·have hW1:exW c (Ex.mk op num name args)=[c.sc name,[64]]:=by rw[hW];subst h2;rfl
   have hsc:qbj env name=0:=by rw[<-he2];subst h2;rfl
   have hss:=hc.sc1 name hsc;rw[hW1] at hT hneX ⊢;have hpt:=qak (B0:=B0) (w0:=w0) ws [c.sc name,[64]] n hws hneX hT;simp only[eT] at hpt;refine oC rfl (fun _=>?_) (fun hc=>absurd h2 (zf hc));refine ga1 ?_;refine cD (m:=8) rfl [cR b3 vars arrays fs sc ars own,tR b4 ws n,exR b5 op num name args] ?_;refine aT 0 rfl rfl (pG (cs':=[_,_]) rfl zm1 rfl rfl) ?_;refine aT 1 rfl rfl (pG (cs':=[_,_,_,_,_,_]) rfl zm0 rfl rfl) ?_;refine aT 2 rfl rfl (pF rfl) ?_;refine aT 3 rfl rfl (pL (c:=.atom _) rfl zm2 rfl) ?_;refine zQ81 ?_;refine lO 4 (lS (H1:=[]) rfl (.inl rfl) rfl zpr ⟨_,List.Perm.refl _⟩ (sF [_,_] rfl hss ?_));refine lO 5 (lS (H1:=[]) rfl (.inl rfl) rfl zpr ⟨_,List.Perm.refl _⟩ (sL [_,_] rfl (qaC [_,_]) rfl rfl rfl ?_));refine zQ63 ?_;exact qac hj (rC (rA rfl zm0 rfl zsr) rN) rfl
  refine oC rfl (fun hc=>absurd (zt hc) h2) (fun _=>?_);refine gaj ?_
  by_cases h3:op=[101,108,101,109]
  ·obtain ⟨x,rfl⟩:=hone (by subst h3;rfl);have hW1:exW c (Ex.mk op num name [x])=[c.ar name]++(exW c x++[[43],[64]]):=by rw[hW];simp only[qbP,qcb];subst h3;simp[opW,nNum,nVar,qdH,qa8,nNeg,nNot]
   rw[hW1] at hT hneX ⊢;simp only[qaZ] at he1;simp only[qbd] at hna;simp only[ndEs] at hnd;have hall:=List.forall_mem_append.2 ⟨hws,hneX⟩;simp only[qaj] at hT;have hex:=(qad.1 he1).1;have p5:=hc.ar1 name;simp only[eC] at p5;have p7:=qak (B0:=B0) (w0:=w0) ws [c.ar name] n (fun w hw=>hall w (by simp at hw ⊢;grind)) (fun w hw=>hall w (by simp at hw ⊢;grind)) (by simp only[qaj];omega);simp only[eT,zMc,List.map_nil] at p7;have p12:=ih x (ws++[c.ar name]) n zo hna.1 hex (fun w hw=>hall w (by simp at hw ⊢;grind)) (by simp only[qaj];omega);simp only[eC,eT] at p12;have p14:=qak (B0:=B0) (w0:=w0) (ws++[c.ar name]++exW c x) [[43],[64]] n (fun w hw=>hall w (by simp at hw ⊢;grind)) (fun w hw=>hall w (by simp at hw ⊢;grind)) (by simp only[qaj];omega);simp only[eT,zMc,List.map_nil] at p14;refine oC rfl (fun _=>?_) (fun hc=>absurd h3 (zf hc));refine ga1 ?_;refine cM (A:=Unit) (fun _=>[(6,ptr b6 0)]) (fun _=>[tR b6 ((ws++[c.ar name]++exW c x)++[[43],[64]]) n]) (fun _=>True) ?_ (fun _ _ j2 hj2=>?_)
   ·refine cD (m:=16) rfl [cR b3 vars arrays fs sc ars own,tR b4 ws n,exR b5 op num name [x]] ?_;refine aT 0 rfl rfl (pG (cs':=[_,_,_,_,_,_]) rfl zm0 rfl rfl) ?_;refine aT 1 rfl rfl (pG (cs':=[_,_]) rfl zm1 rfl rfl) ?_;refine aT 2 rfl rfl (pG (cs':=[_,_,_,_,_,_]) rfl zm0 rfl rfl) ?_;refine aT 3 rfl rfl (pF rfl) ?_;refine aT 4 rfl rfl (pL (c:=.atom _) rfl zm2 rfl) ?_;refine aT 8 rfl rfl (pF rfl) ?_;refine aT 9 rfl rfl (pL (c:=.list _) rfl zm2 rfl) ?_;refine aT 10 rfl rfl (xR (el':=encE x) (cs:=[_,_,_,_]) rfl rfl zDd rfl rfl rfl) ?_;refine aT 11 rfl rfl (pR (cs':=[_,_,_,_]) rfl rfl rfl) ?_;refine zQ81 ?_;refine zl2 (i:=5) (j:=13) zk ?_ ?_
    ·refine lS (H1:=[]) rfl (.inl rfl) rfl zpr ⟨_,List.Perm.refl _⟩ (sF [_,_] rfl p5 ?_);refine zl2 (i:=6) (j:=13) zk ?_ ?_
     ·refine zQ7 ?_;refine zl2 (i:=7) (j:=13) zk ?_ ?_
      ·refine lS (H1:=[]) rfl (.inl rfl) rfl zpr ⟨_,List.Perm.refl _⟩ (sF [_,_] rfl p7 ?_);refine zl2 (i:=12) (j:=13) zk ?_ ?_
       ·refine lS (H1:=[]) rfl (.inl rfl) rfl zpr ⟨_,List.Perm.refl _⟩ (sF [_,_,_] rfl p12 ?_);refine zl1 (i:=13) zk ?_;refine zQ2 ?_;refine zl1 (i:=14) zk ?_;refine lS (H1:=[]) rfl (.inl rfl) rfl zpr ⟨_,List.Perm.refl _⟩ (sF [_,_] rfl p14 ?_);refine zl1 (i:=15) zk ?_;refine zQ10 ?_;exact ⟨(),trivial,⟨rfl,trivial⟩,⟨_,List.Perm.refl _⟩,rfl⟩
       ·refine zQ2 ?_;refine zQ32 ?_;exact ⟨(),trivial,⟨rfl,trivial⟩,⟨_,List.Perm.refl _⟩,rfl⟩
      ·refine zQ2 ?_;refine zQ93 ?_;exact ⟨(),trivial,⟨rfl,trivial⟩,⟨_,List.Perm.refl _⟩,rfl⟩
     ·refine zQ2 ?_;refine zl1 (i:=6) zk ?_;refine zQ7 ?_;refine zQ93 ?_;exact ⟨(),trivial,⟨rfl,trivial⟩,⟨_,List.Perm.refl _⟩,rfl⟩
    ·refine zQ2 ?_;refine zl1 (i:=5) zk ?_;refine lS (H1:=[]) rfl (.inl rfl) rfl zpr ⟨_,List.Perm.refl _⟩ (sF [_,_] rfl p5 ?_);refine zl1 (i:=6) zk ?_;refine zQ7 ?_;refine zQ93 ?_;exact ⟨(),trivial,⟨rfl,trivial⟩,⟨_,List.Perm.refl _⟩,rfl⟩
   refine gae ?_;exact qac (hj2.trans hj) (rC (rA rfl zm0 rfl zsr) rN) (by simp only[zAs];rfl)
  refine oC rfl (fun hc=>absurd (zt hc) h3) (fun _=>?_);refine gaj ?_
  by_cases h5:op=[110,101,103]
  ·obtain ⟨x,rfl⟩:=hone (by subst h5;rfl);have hW1:exW c (Ex.mk op num name [x])=[[48]]++(exW c x++[[45]]):=by rw[hW];simp only[qbP,qcb];subst h5;simp[opW,nNum,nVar,qdH,qa8,nNeg,nNot]
   rw[hW1] at hT hneX ⊢;simp only[qaZ] at he1;simp only[qbd] at hna;simp only[ndEs] at hnd;have hall:=List.forall_mem_append.2 ⟨hws,hneX⟩;simp only[qaj] at hT;have hex:=(qad.1 he1).1;have p3:=qak (B0:=B0) (w0:=w0) ws [[48]] n (fun w hw=>hall w (by simp at hw ⊢;grind)) (fun w hw=>hall w (by simp at hw ⊢;grind)) (by simp only[qaj];omega);simp only[eT,zMc,List.map_nil] at p3;have p8:=ih x (ws++[[48]]) n zo hna.1 hex (fun w hw=>hall w (by simp at hw ⊢;grind)) (by simp only[qaj];omega);simp only[eC,eT] at p8;have p10:=qak (B0:=B0) (w0:=w0) (ws++[[48]]++exW c x) [[45]] n (fun w hw=>hall w (by simp at hw ⊢;grind)) (fun w hw=>hall w (by simp at hw ⊢;grind)) (by simp only[qaj];omega);simp only[eT,zMc,List.map_nil] at p10;refine oC rfl (fun _=>?_) (fun hc=>absurd h5 (zf hc));refine ga1 ?_;refine cM (A:=Unit) (fun _=>[(6,ptr b6 0)]) (fun _=>[tR b6 ((ws++[[48]]++exW c x)++[[45]]) n]) (fun _=>True) ?_ (fun _ _ j2 hj2=>?_)
   ·refine cD (m:=12) rfl [cR b3 vars arrays fs sc ars own,tR b4 ws n,exR b5 op num name [x]] ?_;refine aT 0 rfl rfl (pG (cs':=[_,_,_,_,_,_]) rfl zm0 rfl rfl) ?_;refine aT 1 rfl rfl (pG (cs':=[_,_]) rfl zm1 rfl rfl) ?_;refine aT 4 rfl rfl (pF rfl) ?_;refine aT 5 rfl rfl (pL (c:=.list _) rfl zm2 rfl) ?_;refine aT 6 rfl rfl (xR (el':=encE x) (cs:=[_,_,_,_]) rfl rfl zDd rfl rfl rfl) ?_;refine aT 7 rfl rfl (pR (cs':=[_,_,_,_]) rfl rfl rfl) ?_;refine zQ81 ?_;refine zl2 (i:=2) (j:=9) zk ?_ ?_
    ·refine zQ7 ?_;refine zl2 (i:=3) (j:=9) zk ?_ ?_
     ·refine lS (H1:=[]) rfl (.inl rfl) rfl zpr ⟨_,List.Perm.refl _⟩ (sF [_,_] rfl p3 ?_);refine zl2 (i:=8) (j:=9) zk ?_ ?_
      ·refine lS (H1:=[]) rfl (.inl rfl) rfl zpr ⟨_,List.Perm.refl _⟩ (sF [_,_,_] rfl p8 ?_);refine zl1 (i:=9) zk ?_;refine zQ7 ?_;refine zl1 (i:=10) zk ?_;refine lS (H1:=[]) rfl (.inl rfl) rfl zpr ⟨_,List.Perm.refl _⟩ (sF [_,_] rfl p10 ?_);refine zl1 (i:=11) zk ?_;refine zQ10 ?_;exact ⟨(),trivial,⟨rfl,trivial⟩,⟨_,List.Perm.refl _⟩,rfl⟩
      ·refine zQ7 ?_;refine zQ46 ?_;exact ⟨(),trivial,⟨rfl,trivial⟩,⟨_,List.Perm.refl _⟩,rfl⟩
     ·refine zQ7 ?_;exact zT43
    ·refine zQ7 ?_;refine zl1 (i:=2) zk ?_;refine zQ7 ?_;exact zT43
   refine gae ?_;exact qac (hj2.trans hj) (rC (rA rfl zm0 rfl zsr) rN) (by simp only[zAs];rfl)
  refine oC rfl (fun hc=>absurd (zt hc) h5) (fun _=>?_);refine gaj ?_
  by_cases h6:op=[110,111,116]
  ·obtain ⟨x,rfl⟩:=hone (by subst h6;rfl);have hW1:exW c (Ex.mk op num name [x])=exW c x++[[49],[60]]:=by rw[hW];simp only[qbP,qcb];subst h6;simp[opW,nNum,nVar,qdH,qa8,nNeg,nNot]
   rw[hW1] at hT hneX ⊢;simp only[qaZ] at he1;simp only[qbd] at hna;simp only[ndEs] at hnd;have hall:=List.forall_mem_append.2 ⟨hws,hneX⟩;simp only[qaj] at hT;have hex:=(qad.1 he1).1;have p6:=ih x ws n zo hna.1 hex (fun w hw=>hall w (by simp at hw ⊢;grind)) (by simp only[qaj];omega);simp only[eC,eT] at p6;have p8:=qak (B0:=B0) (w0:=w0) (ws++exW c x) [[49],[60]] n (fun w hw=>hall w (by simp at hw ⊢;grind)) (fun w hw=>hall w (by simp at hw ⊢;grind)) (by simp only[qaj];omega);simp only[eT,zMc,List.map_nil] at p8;refine oC rfl (fun _=>?_) (fun hc=>absurd h6 (zf hc));refine ga1 ?_;refine cM (A:=Unit) (fun _=>[(6,ptr b6 0)]) (fun _=>[tR b6 ((ws++exW c x)++[[49],[60]]) n]) (fun _=>True) ?_ (fun _ _ j2 hj2=>?_)
   ·refine cD (m:=10) rfl [cR b3 vars arrays fs sc ars own,tR b4 ws n,exR b5 op num name [x]] ?_;refine zQ23 ?_;refine zQ81 ?_;refine zl2 (i:=6) (j:=7) zk ?_ ?_
    ·refine zQ65 ?_;refine zl1 (i:=7) zk ?_;refine zQ2 ?_;exact zT35
    ·refine zQ2 ?_;refine zl1 (i:=6) zk ?_;refine zQ65 ?_;exact zT35
   refine gae ?_;exact qac (hj2.trans hj) (rC (rA rfl zm0 rfl zsr) rN) (by simp only[zAs];rfl)
  refine oC rfl (fun hc=>absurd (zt hc) h6) (fun _=>?_);refine gaj ?_
  by_cases h7:op=[33,61]
  ·obtain ⟨x,y,rfl⟩:=htwo (by subst h7;rfl);have hW1:exW c (Ex.mk op num name [x,y])=[[48]]++(exW c x++(exW c y++[[94],[60]])):=by rw[hW];simp only[qbP,qcb];subst h7;simp[opW,nNum,nVar,qdH,qa8,nNeg,nNot]
   rw[hW1] at hT hneX ⊢;simp only[qaZ] at he1;simp only[qbd] at hna;simp only[ndEs] at hnd;have hall:=List.forall_mem_append.2 ⟨hws,hneX⟩;simp only[qaj] at hT;have hex:=(qad.1 he1).1;have hey:=(qad.1 (qad.1 he1).2).1;have p4:=qak (B0:=B0) (w0:=w0) ws [[48]] n (fun w hw=>hall w (by simp at hw ⊢;grind)) (fun w hw=>hall w (by simp at hw ⊢;grind)) (by simp only[qaj];omega);simp only[eT,zMc,List.map_nil] at p4;have p9:=ih x (ws++[[48]]) n zo hna.1 hex (fun w hw=>hall w (by simp at hw ⊢;grind)) (by simp only[qaj];omega);simp only[eC,eT] at p9;have p14:=ih y (ws++[[48]]++exW c x) n zo hna.2.1 hey (fun w hw=>hall w (by simp at hw ⊢;grind)) (by simp only[qaj];omega);simp only[eC,eT] at p14;have p16:=qak (B0:=B0) (w0:=w0) (ws++[[48]]++exW c x++exW c y) [[94],[60]] n (fun w hw=>hall w (by simp at hw ⊢;grind)) (fun w hw=>hall w (by simp at hw ⊢;grind)) (by simp only[qaj];omega);simp only[eT,zMc,List.map_nil] at p16;refine oC rfl (fun _=>?_) (fun hc=>absurd h7 (zf hc));refine ga1 ?_;refine cM (A:=Unit) (fun _=>[(6,ptr b6 0)]) (fun _=>[tR b6 ((ws++[[48]]++exW c x++exW c y)++[[94],[60]]) n]) (fun _=>True) ?_ (fun _ _ j2 hj2=>?_)
   ·refine cD (m:=18) rfl [cR b3 vars arrays fs sc ars own,tR b4 ws n,exR b5 op num name [x,y]] ?_;refine zQ57 ?_;refine aT 10 rfl rfl (pF rfl) ?_;refine aT 11 rfl rfl (pL (c:=.list _) rfl zm2 rfl) ?_;refine aT 12 rfl rfl (xR (el':=encE y) (cs:=[_,_,_,_]) rfl rfl zDd rfl rfl rfl) ?_;refine aT 13 rfl rfl (pR (cs':=[_,_,_,_]) rfl rfl rfl) ?_;refine zQ81 ?_;refine zl2 (i:=3) (j:=15) zk ?_ ?_
    ·refine zQ7 ?_;refine zl2 (i:=4) (j:=15) zk ?_ ?_
     ·refine zQ16 ?_;refine zl2 (i:=9) (j:=15) zk ?_ ?_
      ·refine zQ19 ?_;refine zl2 (i:=14) (j:=15) zk ?_ ?_
       ·refine zQ18 ?_;refine zl1 (i:=15) zk ?_;refine zQ2 ?_;refine zQ42 ?_;exact ⟨(),trivial,⟨rfl,trivial⟩,⟨_,List.Perm.refl _⟩,rfl⟩
       ·refine zQ2 ?_;refine zl1 (i:=14) zk ?_;refine zQ18 ?_;refine zQ42 ?_;exact ⟨(),trivial,⟨rfl,trivial⟩,⟨_,List.Perm.refl _⟩,rfl⟩
      ·refine zQ2 ?_;refine qsy ?_;exact ⟨(),trivial,⟨rfl,trivial⟩,⟨_,List.Perm.refl _⟩,rfl⟩
     ·refine zQ2 ?_;refine zl1 (i:=4) zk ?_;refine zQ16 ?_;refine qsy ?_;exact ⟨(),trivial,⟨rfl,trivial⟩,⟨_,List.Perm.refl _⟩,rfl⟩
    ·refine zQ2 ?_;refine zl1 (i:=3) zk ?_;refine zQ7 ?_;refine zl1 (i:=4) zk ?_;refine zQ16 ?_;refine qsy ?_;exact ⟨(),trivial,⟨rfl,trivial⟩,⟨_,List.Perm.refl _⟩,rfl⟩
   refine gae ?_;exact qac (hj2.trans hj) (rC (rA rfl zm0 rfl zsr) rN) (by simp only[zAs];rfl)
  refine oC rfl (fun hc=>absurd (zt hc) h7) (fun _=>?_);refine gaj ?_
  by_cases h8:op=[38,38]
  ·obtain ⟨x,y,rfl⟩:=htwo (by subst h8;rfl);have hW1:exW c (Ex.mk op num name [x,y])=[[48]]++(exW c x++([[60],[48]]++(exW c y++[[60],[42]]))):=by rw[hW];simp only[qbP,qcb];subst h8;simp[opW,nNum,nVar,qdH,qa8,nNeg,nNot]
   rw[hW1] at hT hneX ⊢;simp only[qaZ] at he1;simp only[qbd] at hna;simp only[ndEs] at hnd;have hall:=List.forall_mem_append.2 ⟨hws,hneX⟩;simp only[qaj] at hT;have hex:=(qad.1 he1).1;have hey:=(qad.1 (qad.1 he1).2).1;have p4:=qak (B0:=B0) (w0:=w0) ws [[48]] n (fun w hw=>hall w (by simp at hw ⊢;grind)) (fun w hw=>hall w (by simp at hw ⊢;grind)) (by simp only[qaj];omega);simp only[eT,zMc,List.map_nil] at p4;have p9:=ih x (ws++[[48]]) n zo hna.1 hex (fun w hw=>hall w (by simp at hw ⊢;grind)) (by simp only[qaj];omega);simp only[eC,eT] at p9;have p11:=qak (B0:=B0) (w0:=w0) (ws++[[48]]++exW c x) [[60],[48]] n (fun w hw=>hall w (by simp at hw ⊢;grind)) (fun w hw=>hall w (by simp at hw ⊢;grind)) (by simp only[qaj];omega);simp only[eT,zMc,List.map_nil] at p11;have p16:=ih y (ws++[[48]]++exW c x++[[60],[48]]) n zo hna.2.1 hey (fun w hw=>hall w (by simp at hw ⊢;grind)) (by simp only[qaj];omega);simp only[eC,eT] at p16;have p18:=qak (B0:=B0) (w0:=w0) (ws++[[48]]++exW c x++[[60],[48]]++exW c y) [[60],[42]] n (fun w hw=>hall w (by simp at hw ⊢;grind)) (fun w hw=>hall w (by simp at hw ⊢;grind)) (by simp only[qaj];omega);simp only[eT,zMc,List.map_nil] at p18;refine oC rfl (fun _=>?_) (fun hc=>absurd h8 (zf hc));refine ga1 ?_;refine cM (A:=Unit) (fun _=>[(6,ptr b6 0)]) (fun _=>[tR b6 ((ws++[[48]]++exW c x++[[60],[48]]++exW c y)++[[60],[42]]) n]) (fun _=>True) ?_ (fun _ _ j2 hj2=>?_)
   ·refine zQ66 ?_;refine qaF.three (i:=3) (j:=10) (k:=17) zk ?_ ?_ ?_
    ·refine zQ7 ?_;refine qaF.three (i:=4) (j:=10) (k:=17) zk ?_ ?_ ?_
     ·refine zQ16 ?_;refine qaF.three (i:=9) (j:=10) (k:=17) zk ?_ ?_ ?_
      ·refine zQ19 ?_;refine zl2 (i:=10) (j:=17) zk ?_ ?_
       ·refine zQ2 ?_;refine zl2 (i:=11) (j:=17) zk ?_ ?_
        ·refine zQ26 ?_;refine zl2 (i:=16) (j:=17) zk ?_ ?_
         ·refine zQ36 ?_;refine zQ2 ?_;refine zQ25 ?_;exact ⟨(),trivial,⟨rfl,trivial⟩,⟨_,List.Perm.refl _⟩,rfl⟩
         ·refine zQ2 ?_;refine zQ0 ?_;exact ⟨(),trivial,⟨rfl,trivial⟩,⟨_,List.Perm.refl _⟩,rfl⟩
        ·refine zQ2 ?_;refine zQ4 ?_;refine zQ0 ?_;exact ⟨(),trivial,⟨rfl,trivial⟩,⟨_,List.Perm.refl _⟩,rfl⟩
       ·refine zQ2 ?_;refine zQ43 ?_;refine zQ0 ?_;exact ⟨(),trivial,⟨rfl,trivial⟩,⟨_,List.Perm.refl _⟩,rfl⟩
      ·refine zQ2 ?_;refine zl2 (i:=9) (j:=17) zk ?_ ?_
       ·exact zT4
       ·exact zT20
      ·refine zQ2 ?_;refine zl2 (i:=9) (j:=10) zk ?_ ?_
       ·refine qsi ?_;exact ⟨(),trivial,⟨rfl,trivial⟩,⟨_,List.Perm.refl _⟩,rfl⟩
       ·exact zT20
     ·refine zQ2 ?_;refine zl2 (i:=4) (j:=17) zk ?_ ?_
      ·refine zQ16 ?_;refine zl2 (i:=9) (j:=17) zk ?_ ?_
       ·exact zT4
       ·exact zT20
      ·exact zT16
     ·refine zQ2 ?_;refine zl2 (i:=4) (j:=10) zk ?_ ?_
      ·exact zT8
      ·exact zT16
    ·refine zQ2 ?_;refine zl2 (i:=3) (j:=17) zk ?_ ?_
     ·refine zQ7 ?_;refine zl2 (i:=4) (j:=17) zk ?_ ?_
      ·refine zQ16 ?_;refine zl2 (i:=9) (j:=17) zk ?_ ?_
       ·exact zT4
       ·exact zT20
      ·exact zT16
     ·refine zQ2 ?_;refine zl1 (i:=3) zk ?_;refine zQ7 ?_;refine zQ51 ?_;exact ⟨(),trivial,⟨rfl,trivial⟩,⟨_,List.Perm.refl _⟩,rfl⟩
    ·refine zQ2 ?_;refine zl2 (i:=3) (j:=10) zk ?_ ?_
     ·refine zQ7 ?_;refine zl2 (i:=4) (j:=10) zk ?_ ?_
      ·exact zT8
      ·exact zT16
     ·refine zQ2 ?_;refine zl1 (i:=3) zk ?_;refine zQ7 ?_;refine zQ51 ?_;exact ⟨(),trivial,⟨rfl,trivial⟩,⟨_,List.Perm.refl _⟩,rfl⟩
   refine gae ?_;exact qac (hj2.trans hj) (rC (rA rfl zm0 rfl zsr) rN) (by simp only[zAs];rfl)
  refine oC rfl (fun hc=>absurd (zt hc) h8) (fun _=>?_);refine gaj ?_
  by_cases h9:op=[124,124]
  ·obtain ⟨x,y,rfl⟩:=htwo (by subst h9;rfl);have hW1:exW c (Ex.mk op num name [x,y])=[[48],[48]]++(exW c x++([[60],[48]]++(exW c y++[[60],[43],[60]]))):=by rw[hW];simp only[qbP,qcb];subst h9;simp[opW,nNum,nVar,qdH,qa8,nNeg,nNot]
   rw[hW1] at hT hneX ⊢;simp only[qaZ] at he1;simp only[qbd] at hna;simp only[ndEs] at hnd;have hall:=List.forall_mem_append.2 ⟨hws,hneX⟩;simp only[qaj] at hT;have hex:=(qad.1 he1).1;have hey:=(qad.1 (qad.1 he1).2).1;have p4:=qak (B0:=B0) (w0:=w0) ws [[48],[48]] n (fun w hw=>hall w (by simp at hw ⊢;grind)) (fun w hw=>hall w (by simp at hw ⊢;grind)) (by simp only[qaj];omega);simp only[eT,zMc,List.map_nil] at p4;have p9:=ih x (ws++[[48],[48]]) n zo hna.1 hex (fun w hw=>hall w (by simp at hw ⊢;grind)) (by simp only[qaj];omega);simp only[eC,eT] at p9;have p11:=qak (B0:=B0) (w0:=w0) (ws++[[48],[48]]++exW c x) [[60],[48]] n (fun w hw=>hall w (by simp at hw ⊢;grind)) (fun w hw=>hall w (by simp at hw ⊢;grind)) (by simp only[qaj];omega);simp only[eT,zMc,List.map_nil] at p11;have p16:=ih y (ws++[[48],[48]]++exW c x++[[60],[48]]) n zo hna.2.1 hey (fun w hw=>hall w (by simp at hw ⊢;grind)) (by simp only[qaj];omega);simp only[eC,eT] at p16;have p18:=qak (B0:=B0) (w0:=w0) (ws++[[48],[48]]++exW c x++[[60],[48]]++exW c y) [[60],[43],[60]] n (fun w hw=>hall w (by simp at hw ⊢;grind)) (fun w hw=>hall w (by simp at hw ⊢;grind)) (by simp only[qaj];omega);simp only[eT,zMc,List.map_nil] at p18;refine oC rfl (fun _=>?_) (fun hc=>absurd h9 (zf hc));refine ga1 ?_;refine cM (A:=Unit) (fun _=>[(6,ptr b6 0)]) (fun _=>[tR b6 ((ws++[[48],[48]]++exW c x++[[60],[48]]++exW c y)++[[60],[43],[60]]) n]) (fun _=>True) ?_ (fun _ _ j2 hj2=>?_)
   ·refine zQ66 ?_;refine qaF.three (i:=3) (j:=10) (k:=17) zk ?_ ?_ ?_
    ·refine zQ2 ?_;refine qaF.three (i:=4) (j:=10) (k:=17) zk ?_ ?_ ?_
     ·refine zQ16 ?_;refine qaF.three (i:=9) (j:=10) (k:=17) zk ?_ ?_ ?_
      ·refine zQ19 ?_;refine zl2 (i:=10) (j:=17) zk ?_ ?_
       ·refine zQ2 ?_;refine zl2 (i:=11) (j:=17) zk ?_ ?_
        ·refine zQ26 ?_;refine zl2 (i:=16) (j:=17) zk ?_ ?_
         ·refine zQ36 ?_;refine zQ12 ?_;refine zQ25 ?_;exact ⟨(),trivial,⟨rfl,trivial⟩,⟨_,List.Perm.refl _⟩,rfl⟩
         ·refine zQ12 ?_;refine zQ0 ?_;exact ⟨(),trivial,⟨rfl,trivial⟩,⟨_,List.Perm.refl _⟩,rfl⟩
        ·refine zQ12 ?_;refine zQ4 ?_;refine zQ0 ?_;exact ⟨(),trivial,⟨rfl,trivial⟩,⟨_,List.Perm.refl _⟩,rfl⟩
       ·refine zQ12 ?_;refine zQ43 ?_;refine zQ0 ?_;exact ⟨(),trivial,⟨rfl,trivial⟩,⟨_,List.Perm.refl _⟩,rfl⟩
      ·refine zQ2 ?_;refine zl2 (i:=9) (j:=17) zk ?_ ?_
       ·exact zT3
       ·refine zQ12 ?_;refine zQ9 ?_;exact ⟨(),trivial,⟨rfl,trivial⟩,⟨_,List.Perm.refl _⟩,rfl⟩
      ·refine zQ12 ?_;refine zl2 (i:=9) (j:=10) zk ?_ ?_
       ·refine qsi ?_;exact ⟨(),trivial,⟨rfl,trivial⟩,⟨_,List.Perm.refl _⟩,rfl⟩
       ·exact zT20
     ·exact zT21
     ·refine zQ12 ?_;refine zl2 (i:=4) (j:=10) zk ?_ ?_
      ·exact zT8
      ·exact zT16
    ·refine zQ2 ?_;refine zl2 (i:=3) (j:=17) zk ?_ ?_
     ·exact zT21
     ·refine zQ12 ?_;refine zl1 (i:=3) zk ?_;refine zQ2 ?_;refine zQ51 ?_;exact ⟨(),trivial,⟨rfl,trivial⟩,⟨_,List.Perm.refl _⟩,rfl⟩
    ·refine zQ12 ?_;refine zl2 (i:=3) (j:=10) zk ?_ ?_
     ·refine zQ2 ?_;refine zl2 (i:=4) (j:=10) zk ?_ ?_
      ·exact zT8
      ·exact zT16
     ·refine zQ2 ?_;refine zl1 (i:=3) zk ?_;refine zQ2 ?_;refine zQ51 ?_;exact ⟨(),trivial,⟨rfl,trivial⟩,⟨_,List.Perm.refl _⟩,rfl⟩
   refine gae ?_;exact qac (hj2.trans hj) (rC (rA rfl zm0 rfl zsr) rN) (by simp only[zAs];rfl)
  refine oC rfl (fun hc=>absurd (zt hc) h9) (fun _=>?_);refine gaa ?_
  have hop2:¬ op=qa8->qba op=2:=fun h4=>by
   unfold qba at hop ⊢;rw[if_neg (fun h=>h.elim h1 h2),if_neg (fun h=>h.elim h3 (fun h=>h.elim h5 h6)),if_neg h4] at hop ⊢;split
   ·rfl
   ·rename_i hb
    rw[if_neg hb] at hop;omega
  obtain ⟨suf,hsuf,hsu⟩:∃ suf:List Wd,exW c (Ex.mk op num name args)=(exWl c args).flatten++suf/\suf=(if op=qa8 then (if name=[105,110] then [[44]] else if name=[111,117,116] then [[46],[48]] else [[38,102,95]++name,[58]]) else binW c op):=by
   refine ⟨_,?_,rfl⟩
   by_cases hcl:op=qa8
   ·rw[if_pos hcl,hW];subst hcl;rfl
   ·rw[if_neg hcl];obtain ⟨x,y,rfl⟩:=htwo (hop2 hcl);rw[qmv c num name x y h1 h2 h3 hcl h5 h6];unfold twoW;rw[if_neg h7,if_neg h8,if_neg h9];simp[qbP,qcb]
  rw[hsuf] at hT hneX ⊢;have hWn:∀ w∈ws++(exWl c args).flatten,w≠[]:=List.forall_mem_append.2 ⟨hws,fun w hw=>hneX w (List.mem_append_left _ hw)⟩;have hsn:∀ w∈suf,w≠[]:=fun w hw=>hneX w (List.mem_append_right _ hw);have hTW:tot ((ws++(exWl c args).flatten)++suf)<=1000000000000:=by rw[zAs];exact hT
  have hall:(args.map encE).length=args.length:=zLm _
  refine oL (fun kk ls H'=>∃ i:Nat,i<=args.length/\kk=args.length-i/\ls=[(3,ptr b3 0),(4,ptr b4 0),(5,ptr b5 0),(6,ptr b6 0),(7,str c.t1),(8,str c.t2),(9,int .i64 (i:Nat))]/\H'=[cR b3 vars arrays fs sc ars own,tR b4 (ws++(exWl c (args.take i)).flatten) n,exR b5 op num name args,zR b6])
   ⟨_,_,_,⟨0,Nat.zero_le _,rfl,rfl,by rw[List.take_zero,qcb,List.flatten_nil,zLz]⟩,⟨rfl,rfl,rfl,rfl,rfl,rfl,rfl,trivial⟩,zhR _⟩ ?_
  rintro kk ls H' ⟨i,hi,rfl,rfl,rfl⟩ j2 hj2;refine gab ?_;refine oC rfl (fun hd=>?_) (fun hd=>?_)
  ·have hlt:i<args.length:=by have:=zt hd;omega
   have hmi:=qa0 encE args i hlt
   have hsn2:(exWl c (args.take (i+1))).flatten=(exWl c (args.take i)).flatten++exW c args[i]:=by
    rw[List.take_succ_eq_append_getElem hlt,qeO,qeO,zMa,List.flatten_append]
    simp
   have hpr:∀ w,w∈(exWl c (args.take i)).flatten->w∈(exWl c args).flatten:=fun w hw=>by
    rw[qeO,List.mem_flatten] at hw ⊢;obtain ⟨l,hl,hw⟩:=hw;obtain ⟨e,he,rfl⟩:=List.mem_map.1 hl;exact ⟨_,List.mem_map.2 ⟨e,List.mem_of_mem_take he,rfl⟩,hw⟩
   have htt:tot (exWl c (args.take (i+1))).flatten<=tot (exWl c args).flatten:=by
    have e1:(exWl c args).flatten=(exWl c (args.take (i+1))).flatten++(exWl c (args.drop (i+1))).flatten:=by
     rw[qeO,qeO,qeO,<-List.flatten_append,<-zMa,List.take_append_drop]
    rw[e1,qaj];omega
   have hex:=ih args[i] (ws++(exWl c (args.take i)).flatten) n (by have:=qpF (List.getElem_mem hlt);omega) (qlb hna (List.getElem_mem hlt)) (qk2 he1 _ (List.getElem_mem hlt)) (fun w hw=>hWn w (by
    rcases List.mem_append.1 hw with h|h
    ·exact List.mem_append_left _ h
    ·exact List.mem_append_right _ (hpr w h))) (by
    rw[zAs,<-hsn2];simp only[qaj] at hTW ⊢
    omega)
   simp only[eC,eT] at hex;rw[zAs,<-hsn2] at hex;generalize args[i]=x at hmi hex;refine gad ?_;refine qae.tail 7 zk ?_;refine gac ?_;refine lP (xR (el':=encE x) (cs:=[_,_,_,_]) rfl rfl zo hmi rfl rfl) rfl ?_;refine gac ?_;refine oS (sF [_,_,_] rfl hex ?_) rfl;refine oS (sS (cs':=[_,_]) rfl zp1 rfl rfl rfl rfl rfl ?_) rfl;refine gaa ?_;exact ⟨_,_,_,by omega,⟨i+1,by omega,rfl,rfl,rfl⟩,⟨rfl,rfl,rfl,rfl,rfl,rfl,qaf zo,trivial⟩,⟨[],by rw[zLz];exact List.Perm.swap _ _ _⟩,hj2⟩
  have hi':i=args.length:=by have:=zf hd;omega
  subst hi';rw[List.take_length];obtain ⟨W,hWd⟩:∃ W,ws++(exWl c args).flatten=W:=⟨_,rfl⟩;rw[hWd] at hWn hTW ⊢;refine gab ?_
  by_cases k1:op=[99,97,108,108]
  ·rw[if_pos (show op=qa8 from k1)] at hsu;refine oC rfl (fun _=>?_) (fun hc=>absurd k1 (zf hc));refine gab ?_
   by_cases g1:name=[105,110]
   ·rw[if_pos g1] at hsu;subst hsu;refine oC rfl (fun _=>?_) (fun hc=>absurd g1 (zf hc));refine gab ?_;have pt:=qak (B0:=B0) (w0:=w0) W [[44]] n hWn hsn hTW;simp only[eT] at pt;refine zQ33 ?_;refine zQ37 ?_;exact qac (hj2.trans hj) (rC (rA rfl zm0 rfl zsr) rN) (by rw[<-zAs,hWd];rfl)
   rw[if_neg g1] at hsu;refine oC rfl (fun hc=>absurd (zt hc) g1) (fun _=>?_);refine gab ?_
   by_cases g2:name=[111,117,116]
   ·rw[if_pos g2] at hsu;subst hsu;refine oC rfl (fun _=>?_) (fun hc=>absurd g2 (zf hc));refine gab ?_;have pt:=qak (B0:=B0) (w0:=w0) W [[46],[48]] n hWn hsn hTW;simp only[eT] at pt;refine zQ22 ?_;refine zQ37 ?_;exact qac (hj2.trans hj) (rC (rA rfl zm0 rfl zsr) rN) (by rw[<-zAs,hWd];rfl)
   rw[if_neg g2] at hsu;subst hsu;refine oC rfl (fun hc=>absurd (zt hc) g2) (fun _=>?_);have hnl:name.length<=24:=hE.call (show callE env name args.length=0 by rw[<-he2];subst k1;rfl);refine gab ?_;have pt:=qak (B0:=B0) (w0:=w0) W [[38,102,95]++name,[58]] n hWn hsn hTW;simp only[eT] at pt;refine zQ22 ?_;refine zQ37 ?_;exact qac (hj2.trans hj) (rC (rA rfl zm0 rfl zsr) rN) (by rw[<-zAs,hWd];rfl)
  rw[if_neg (show ¬ op=qa8 from k1)] at hsu;unfold binW at hsu;refine oC rfl (fun hc=>absurd (zt hc) k1) (fun _=>?_);refine gaj ?_
  by_cases k2:op=[62]
  ·rw[if_pos k2] at hsu;subst hsu;refine oC rfl (fun _=>?_) (fun hc=>absurd k2 (zf hc));refine gab ?_;have pt:=qak (B0:=B0) (w0:=w0) W [c.t2,[33],c.t1,[33],c.t2,[64],c.t1,[64],[60]] n hWn hsn hTW;simp only[eT] at pt;refine oS (sL [_,_,_,_,_,_,_,_,_] rfl (qaC [_,_,_,_,_,_,_,_,_]) rfl rfl rfl ?_) rfl;refine zQ37 ?_;exact qac (hj2.trans hj) (rC (rA rfl zm0 rfl zsr) rN) (by rw[<-zAs,hWd];rfl)
  rw[if_neg k2] at hsu;refine oC rfl (fun hc=>absurd (zt hc) k2) (fun _=>?_);refine gaj ?_
  by_cases k3:op=[60,61]
  ·rw[if_pos k3] at hsu;subst hsu;refine oC rfl (fun _=>?_) (fun hc=>absurd k3 (zf hc));refine gab ?_;have pt:=qak (B0:=B0) (w0:=w0) W [c.t2,[33],c.t1,[33],c.t2,[64],c.t1,[64],[60],[49],[94]] n hWn hsn hTW;simp only[eT] at pt;refine oS (sL [_,_,_,_,_,_,_,_,_,_,_] rfl (qaC [_,_,_,_,_,_,_,_,_,_,_]) rfl rfl rfl ?_) rfl;refine zQ37 ?_;exact qac (hj2.trans hj) (rC (rA rfl zm0 rfl zsr) rN) (by rw[<-zAs,hWd];rfl)
  rw[if_neg k3] at hsu;refine oC rfl (fun hc=>absurd (zt hc) k3) (fun _=>?_);refine gaj ?_
  by_cases k4:op=[62,61]
  ·rw[if_pos k4] at hsu;subst hsu;refine oC rfl (fun _=>?_) (fun hc=>absurd k4 (zf hc));refine gab ?_;have pt:=qak (B0:=B0) (w0:=w0) W [[60],[49],[94]] n hWn hsn hTW;simp only[eT] at pt;refine zQ99 ?_;refine zQ37 ?_;exact qac (hj2.trans hj) (rC (rA rfl zm0 rfl zsr) rN) (by rw[<-zAs,hWd];rfl)
  rw[if_neg k4] at hsu;refine oC rfl (fun hc=>absurd (zt hc) k4) (fun _=>?_);refine gaj ?_
  by_cases k5:op=[61,61]
  ·rw[if_pos k5] at hsu;subst hsu;refine oC rfl (fun _=>?_) (fun hc=>absurd k5 (zf hc));refine gab ?_;have pt:=qak (B0:=B0) (w0:=w0) W [[94],[49],[60]] n hWn hsn hTW;simp only[eT] at pt;refine zQ99 ?_;refine zQ37 ?_;exact qac (hj2.trans hj) (rC (rA rfl zm0 rfl zsr) rN) (by rw[<-zAs,hWd];rfl)
  rw[if_neg k5] at hsu;subst hsu;refine oC rfl (fun hc=>absurd (zt hc) k5) (fun _=>?_);refine gab ?_;have pt:=qak (B0:=B0) (w0:=w0) W [op] n hWn hsn hTW;simp only[eT] at pt;refine zQ33 ?_;refine zQ37 ?_;exact qac (hj2.trans hj) (rC (rA rfl zm0 rfl zsr) rN) (by rw[<-zAs,hWd];rfl)
end
end Go.Proofs.YthmhncflhnbedaaGreatDoor.R23
namespace Go.Proofs.YthmhncflhnbedaaGreatDoor.R23
open Go.GL Go.RowKit Go.Stele
open Go.Lib (decDigits itoa join)
open Cmp (qdd qcM qgH qdl)
def StmO (B0:Nat) (w0:World) (vars:List Nm) (arrays:List (Nm×Int)) (fs:List FnD) (sc:Nat) (ars:List (Nm×Int)) (own:Nm) (c:CC) (s:Sm):Prop:=∀ (ws:List Wd) (n:Nat),(∀ w∈ws,w≠[])->tot (ws++(stW c n s).1)<=1000000000000->n+2 * ndS s<=4000000000 ->
 LCalls (KC B0 w0) 144 [cLV vars arrays fs sc ars own,tLV ws n,encS s] [] (Ret (tLV (ws++(stW c n s).1) (stW c n s).2))
attribute [local irreducible] LOps qae qag LCalls Go.GL.Pure qaA qaq qah LQ LAny qaF qap LS
section
variable {B0:Nat} {w0:World}
theorem qd0 {vars:List Nm} {arrays:List (Nm×Int)} {fs:List FnD} {sc:Nat} {ars:List (Nm×Int)} {own:Nm} {c:CC} (l:List Sm) (hS:∀ s∈l,StmO B0 w0 vars arrays fs sc ars own c s) (ws:List Wd) (n:Nat) (hl:l.length<=2000000) (hne:∀ w∈ws++(stWs c n l).1,w≠[]) (hT:tot (ws++(stWs c n l).1)<=1000000000000) (hn:n+2 * ndSs l<=4000000000) :
  LCalls (KC B0 w0) 84 [cLV vars arrays fs sc ars own,tLV ws n,.list (l.map encS)] [] (Ret (tLV (ws++(stWs c n l).1) (stWs c n l).2)):=by
 have eC:cLV vars arrays fs sc ars own=.agg [.list (vars.map str),.list (arrays.map Chk.encArG),.list (fs.map qav),int .i64 (sc:Nat),.list (ars.map qdd),str own]:=rfl;have eT:∀ ws n,tLV ws n=.agg [str (join ws [32]),int .i64 (n:Nat)]:=fun _ _=>rfl;have hla:(l.map encS).length=l.length:=zLm _;generalize hR:ws++(stWs c n l).1=R at hne hT ⊢;generalize hM:(stWs c n l).2=M;rw[eC,eT ws];refine cI Tryz.func84 rfl (n:=22) rfl rfl rfl ?_;refine gag ?_;refine oS (sB rfl fun b3=>?_) rfl;refine oS (sB rfl fun b4=>?_) rfl;refine oS (sA fun b6=>?_) rfl;refine gaa ?_
 refine oL (fun kk ls H'=>∃ (i:Nat) (us:List Wd) (m:Nat),i<=l.length/\kk=l.length-i/\ls=[(2,.list (l.map encS)),(3,ptr b3 0),(4,ptr b4 0),(6,ptr b6 0),(7,int .i64 (i:Nat))]/\H'=[tR b4 us m,cR b3 vars arrays fs sc ars own,zR b6]/\us++(stWs c m (l.drop i)).1=R/\(stWs c m (l.drop i)).2=M/\m+2 * ndSs (l.drop i)<=4000000000)
  ⟨_,_,_,⟨0,ws,n,Nat.zero_le _,rfl,rfl,rfl,hR,hM,hn⟩,⟨rfl,rfl,rfl,rfl,rfl,trivial⟩,⟨[],by rw[zLz];exact (List.Perm.trans (List.Perm.swap _ _ _) (List.Perm.trans (List.Perm.cons _ (List.Perm.swap _ _ _)) zpr))⟩⟩ ?_
 rintro kk ls H' ⟨i,us,m,hi,rfl,rfl,rfl,hU,hV,hW⟩ j hj;refine gaa ?_;refine oC rfl (fun hc=>?_) (fun hc=>?_);rotate_left
 ·have hi':i=l.length:=by have:=zf hc;omega
  subst hi';rw[List.drop_length] at hU hV;rw[stWs,zLz] at hU;rw[stWs] at hV;subst hU;have hV:m=M:=hV;subst hV;refine gab ?_;exact qac hj (rC (rA rfl zm0 rfl zsr) rN) rfl
 have hlt:i<l.length:=by have:=zt hc;omega
 have hmi:=qa0 encS l i hlt;have hs:=hS _ (List.getElem_mem hlt);rw[List.drop_eq_getElem_cons hlt] at hU hV hW;generalize l[i]=s at hmi hs hU hV hW;rw[stWs] at hU hV;simp only at hU hV;rw[ndSs] at hW;have hlab:=qgH c s m;have h1:=hs us m (fun w hw=>hne w (by rw[<-hU];exact List.mem_append_left _ hw)) (by rw[<-hU] at hT;simp only[qaj] at hT ⊢;omega) zo;simp only[eC,eT] at h1;refine gad ?_;refine qae.tail 6 zk ?_;refine gac ?_;refine lP (xR (el':=encS s) (cs:=[_,_,_,_,_,_]) rfl rfl zo hmi rfl rfl) rfl ?_;refine gac ?_;refine oS (sF [_,_,_] rfl h1 ?_) rfl;refine oS (sS (cs':=[_,_]) rfl pH rfl rfl rfl rfl rfl ?_) rfl;refine gaa ?_;exact ⟨_,_,_,by omega,⟨i+1,us++(stW c m s).1,(stW c m s).2,by omega,rfl,rfl,rfl,by rw[zAs];exact hU,hV,by omega⟩,⟨rfl,rfl,rfl,rfl,qaf zo,trivial⟩,zhR _,hj⟩
end
end Go.Proofs.YthmhncflhnbedaaGreatDoor.R23
namespace Go.Proofs.YthmhncflhnbedaaGreatDoor.R23
open Go.GL Go.RowKit Go.Stele
open Go.Lib (decDigits itoa join)
open Cmp (qdd qcM EnvOk qgH qdl qc1 qh1 qiS)
theorem qgi {env:CEnv}:∀ {l:List Sm},qa7 env l=0->∀ x∈l,errS env x=0
 |[],_,x,h=>(List.not_mem_nil h).elim
 |y::l,he,x,h=>by
  rw[qa7] at he;rcases zMi.1 h with rfl|h
  ·exact (qad.1 he).1
  ·exact qgi (qad.1 he).2 x h
theorem qgb:∀ {l:List Sm},qcA l->∀ x∈l,numS x
 |[],_,x,h=>(List.not_mem_nil h).elim
 |y::l,he,x,h=>by
  rw[qcA] at he;rcases zMi.1 h with rfl|h
  ·exact he.1
  ·exact qgb he.2 x h
@[reducible] def sR (b:Nat) (kind:Int) (name:Nm) (index value:List Ex) (thn els:List Sm):Nat×LObj:=(b,.cells 179 [int .i64 kind,str name,.list (index.map encE),.list (value.map encE),.list (thn.map encS),.list (els.map encS)])
attribute [local irreducible] LOps qae qag LCalls Go.GL.Pure qaA qaq qah LQ LAny qaF qap LS
section
variable {B0:Nat} {w0:World}
theorem qh8 {vars:List Nm} {arrays:List (Nm×Int)} {fs:List FnD} {sc:Nat} {ars:List (Nm×Int)} {own:Nm} {c:CC} {env:CEnv} (hc:RefC B0 w0 vars arrays fs sc ars own c env) (hE:EnvOk env) (hcl:ClC c) (hfn:∀ k∈env.funcs,qd3 k.name):∀ m:Nat,m<=2000000->∀ s:Sm,ndS s<=m->numS s->errS env s=0->StmO B0 w0 vars arrays fs sc ars own c s
 |0,_=>fun s h=>by have:=qkv s;omega
 |m+1,hm6=>by
  have ih:=qh8 hc hE hcl hfn m zo;have hX:qtc B0 w0 vars arrays fs sc ars own c env 2000000:=qh7 hc hE 2000000 (zNr _);intro s hnd hnum herr ws n hws hT hn;have hneX:∀ w∈(stW c n s).1,w≠[]:=fun w hw=>(qk7 hcl hfn s n herr w hw).1;obtain ⟨kind,name,index,value,thn,els⟩:=s;obtain ⟨hf,e1,e2,e3,e4,e5⟩:=Inp.errS_parts herr;rw[numS] at hnum;obtain ⟨n1,n2,n3,n4⟩:=hnum;rw[ndS] at hnd hn;have hth:∀ s∈thn,StmO B0 w0 vars arrays fs sc ars own c s:=fun s hs=>ih s (by have:=qc1 hs;omega) (qgb n3 s hs) (qgi e4 s hs);have hel:∀ s∈els,StmO B0 w0 vars arrays fs sc ars own c s:=fun s hs=>ih s (by have:=qc1 hs;omega) (qgb n4 s hs) (qgi e5 s hs);have htl:=qcn thn;have hell:=qcn els;have hle:=hc.le;have eC:cLV vars arrays fs sc ars own=.agg [.list (vars.map str),.list (arrays.map Chk.encArG),.list (fs.map qav),int .i64 (sc:Nat),.list (ars.map qdd),str own]:=rfl;have eT:∀ ws n,tLV ws n=.agg [str (join ws [32]),int .i64 (n:Nat)]:=fun _ _=>rfl
  have hlab:∀ i:Nat,i<=4000000000->(labW i).length<=21:=fun i hi=>by
   have:(decDigits i).length<=20:=by
    rw[Go.Lib.decDigits_length];exact Go.Lib.nDigits_le20 i zo
   unfold labW;rw[zLc];omega
  have hl0:=hlab n zo;have hl1:=hlab (n+1) zo;have hb1:=qhr (B0:=B0) (w0:=w0) ws n zo;have hb2:=qhr (B0:=B0) (w0:=w0) ws (n+1) zo;simp only[eT] at hb1 hb2;obtain ⟨R,M,hRM⟩:∃ R M,stW c n (.mk kind name index value thn els)=(R,M):=⟨_,_,rfl⟩;rw[hRM] at hT hneX ⊢;simp only at hT hneX ⊢;rw[qbk,eC,eT ws];refine cI Tryz.func144 rfl (n:=175) rfl rfl rfl ?_;refine gag ?_;refine oS (sB rfl fun b3=>?_) rfl;refine oS (sB rfl fun b4=>?_) rfl;refine oS (sB rfl fun b5=>?_) rfl;refine oS (sA fun b6=>?_) rfl
  repeat (first|refine LOps.nil ?_|refine qN ?_|refine qae.skip ?_)
  refine cW (H':=[cR b3 vars arrays fs sc ars own,tR b4 ws n,sR b5 kind name index value thn els,zR b6]) ⟨[],by rw[zLz];exact (List.reverse_perm [cR b3 vars arrays fs sc ars own,tR b4 ws n,sR b5 kind name index value thn els,zR b6])⟩ ?_;refine gab ?_
  by_cases k1:kind=1
  ·subst k1;obtain ⟨x,rfl⟩:=Inp.form_value hf zDd;rw[qaZ] at e1;rw[qbd] at n2;rw[ndEs,ndEs] at hnd;have hex:=(qad.1 e1).1;have hsc:qbj env name=0:=by rw[if_pos rfl] at e3;exact e3
   have hS:stW c n (.mk 1 name index [x] thn els)=(exW c x++[c.sc name,[33]],n):=by
    unfold stW;rw[if_pos rfl]
    all_goals first|done|(simp only[Cmp.headD_one,zAs];done)|(simp only[Cmp.headD_one,zAs];rfl)|rfl
   obtain ⟨rfl,rfl⟩:=Prod.mk.inj (hS.symm.trans hRM);have hall:=List.forall_mem_append.2 ⟨hws,hneX⟩;simp only[qaj] at hT;have p6:=hX x ws n zo n2.1 hex (fun w hw=>hall w (by simp at hw ⊢;grind)) (by simp only[qaj];omega);simp only[eC,eT] at p6;have p10:=hc.sc1 name hsc;simp only[eC] at p10;have p12:=qak (B0:=B0) (w0:=w0) (ws++exW c x) [c.sc name,[33]] n (fun w hw=>hall w (by simp at hw ⊢;grind)) (fun w hw=>hall w (by simp at hw ⊢;grind)) (by simp only[qaj];omega);simp only[eT,zMc,List.map_nil] at p12;refine oC rfl (fun _=>?_) (fun hc=>by cases hc);refine ga1 ?_;refine cM (A:=Unit) (fun _=>[(6,ptr b6 0)]) (fun _=>[tR b6 ((ws++exW c x)++[c.sc name,[33]]) n]) (fun _=>True) ?_ (fun _ _ j2 hj2=>?_)
   ·refine cD (m:=14) rfl [cR b3 vars arrays fs sc ars own,tR b4 ws n,sR b5 1 name index [x] thn els] ?_;refine zQ23 ?_;refine aT 7 rfl rfl (pG (cs':=[_,_,_,_,_,_]) rfl zm0 rfl rfl) ?_;refine aT 8 rfl rfl (pF rfl) ?_;refine aT 9 rfl rfl (pL (c:=.atom _) rfl zm2 rfl) ?_;refine zQ81 ?_;refine zl1 (i:=6) zk ?_;refine zQ65 ?_;refine zl1 (i:=10) zk ?_;refine lS (H1:=[]) rfl (.inl rfl) rfl zpr ⟨_,List.Perm.refl _⟩ (sF [_,_] rfl p10 ?_);refine zl1 (i:=11) zk ?_;refine zQ2 ?_;refine zl1 (i:=12) zk ?_;refine lS (H1:=[]) rfl (.inl rfl) rfl zpr ⟨_,List.Perm.refl _⟩ (sF [_,_] rfl p12 ?_);refine zl1 (i:=13) zk ?_;refine lS (H1:=[zR b6]) (F:=[cR b3 vars arrays fs sc ars own,tR b4 ws n,sR b5 1 name index [x] thn els]) rfl (.inl rfl) rfl (zPc (l₁:=[cR b3 vars arrays fs sc ars own,tR b4 ws n,sR b5 1 name index [x] thn els]) (l₂:=[_])) zhr (sS (cs':=[_,_]) rfl pH rfl rfl rfl rfl rfl ?_);refine qhE ?_;exact ⟨(),trivial,⟨rfl,trivial⟩,⟨_,List.Perm.refl _⟩,rfl⟩
   refine gae ?_;exact qac hj2 (rC (rA rfl zm0 rfl zsr) rN) (by simp only[zAs];rfl)
  refine oC rfl (fun hc=>absurd (zt hc) k1) (fun _=>?_);refine gay ?_
  by_cases k2:kind=2
  ·subst k2;obtain ⟨x,rfl⟩:=Inp.form_value hf zDd;rw[qaZ] at e1;rw[qbd] at n2;rw[ndEs,ndEs] at hnd;have hex:=(qad.1 e1).1;obtain ⟨y,rfl⟩:=qh1 hf;rw[qaZ] at e2;rw[qbd] at n1;rw[ndEs,ndEs] at hnd;have hey:=(qad.1 e2).1
   have hS:stW c n (.mk 2 name [y] [x] thn els)=(exW c x++([c.ar name]++(exW c y++[[43],[33]])),n):=by
    unfold stW;rw[if_neg zDd,if_pos rfl]
    all_goals first|done|(simp only[Cmp.headD_one,zAs];done)|(simp only[Cmp.headD_one,zAs];rfl)|rfl
   obtain ⟨rfl,rfl⟩:=Prod.mk.inj (hS.symm.trans hRM);have hall:=List.forall_mem_append.2 ⟨hws,hneX⟩;simp only[qaj] at hT;have p7:=hX x ws n zo n2.1 hex (fun w hw=>hall w (by simp at hw ⊢;grind)) (by simp only[qaj];omega);simp only[eC,eT] at p7;have p11:=hc.ar1 name;simp only[eC] at p11;have p13:=qak (B0:=B0) (w0:=w0) (ws++exW c x) [c.ar name] n (fun w hw=>hall w (by simp at hw ⊢;grind)) (fun w hw=>hall w (by simp at hw ⊢;grind)) (by simp only[qaj];omega);simp only[eT,zMc,List.map_nil] at p13;have p18:=hX y (ws++exW c x++[c.ar name]) n zo n1.1 hey (fun w hw=>hall w (by simp at hw ⊢;grind)) (by simp only[qaj];omega);simp only[eC,eT] at p18;have p20:=qak (B0:=B0) (w0:=w0) (ws++exW c x++[c.ar name]++exW c y) [[43],[33]] n (fun w hw=>hall w (by simp at hw ⊢;grind)) (fun w hw=>hall w (by simp at hw ⊢;grind)) (by simp only[qaj];omega);simp only[eT,zMc,List.map_nil] at p20;refine oC rfl (fun _=>?_) (fun hc=>by cases hc);refine ga1 ?_;refine cM (A:=Unit) (fun _=>[(6,ptr b6 0)]) (fun _=>[tR b6 ((ws++exW c x++[c.ar name]++exW c y)++[[43],[33]]) n]) (fun _=>True) ?_ (fun _ _ j2 hj2=>?_)
   ·refine cD (m:=22) rfl [cR b3 vars arrays fs sc ars own,tR b4 ws n,sR b5 2 name [y] [x] thn els] ?_;refine zQ28 ?_;refine aT 3 rfl rfl (pF rfl) ?_;refine aT 4 rfl rfl (pL (c:=.list _) rfl zm2 rfl) ?_;refine aT 5 rfl rfl (xR (el':=encE x) (cs:=[_,_,_,_]) rfl rfl zDd rfl rfl rfl) ?_;refine aT 6 rfl rfl (pR (cs':=[_,_,_,_]) rfl rfl rfl) ?_;refine aT 8 rfl rfl (pG (cs':=[_,_,_,_,_,_]) rfl zm0 rfl rfl) ?_;refine aT 9 rfl rfl (pF rfl) ?_;refine aT 10 rfl rfl (pL (c:=.atom _) rfl zm2 rfl) ?_;refine aT 14 rfl rfl (pF rfl) ?_;refine aT 15 rfl rfl (pL (c:=.list _) rfl zm2 rfl) ?_;refine aT 16 rfl rfl (xR (el':=encE y) (cs:=[_,_,_,_]) rfl rfl zDd rfl rfl rfl) ?_;refine aT 17 rfl rfl (pR (cs':=[_,_,_,_]) rfl rfl rfl) ?_;refine zQ81 ?_;refine zl2 (i:=7) (j:=19) zk ?_ ?_
    ·refine zQ20 ?_;refine zl2 (i:=11) (j:=19) zk ?_ ?_
     ·refine zQ26 ?_;refine zl2 (i:=12) (j:=19) zk ?_ ?_
      ·refine zQ7 ?_;refine zl2 (i:=13) (j:=19) zk ?_ ?_
       ·refine lS (H1:=[]) rfl (.inl rfl) rfl zpr ⟨_,List.Perm.refl _⟩ (sF [_,_] rfl p13 ?_);refine zl2 (i:=18) (j:=19) zk ?_ ?_
        ·refine lS (H1:=[]) rfl (.inl rfl) rfl zpr ⟨_,List.Perm.refl _⟩ (sF [_,_,_] rfl p18 ?_);refine zl1 (i:=19) zk ?_;refine zQ2 ?_;refine zl1 (i:=20) zk ?_;refine lS (H1:=[]) rfl (.inl rfl) rfl zpr ⟨_,List.Perm.refl _⟩ (sF [_,_] rfl p20 ?_);refine zl1 (i:=21) zk ?_;refine lS (H1:=[zR b6]) (F:=[cR b3 vars arrays fs sc ars own,tR b4 ws n,sR b5 2 name [y] [x] thn els]) rfl (.inl rfl) rfl (zPc (l₁:=[cR b3 vars arrays fs sc ars own,tR b4 ws n,sR b5 2 name [y] [x] thn els]) (l₂:=[_])) zhr (sS (cs':=[_,_]) rfl pH rfl rfl rfl rfl rfl ?_);refine qhE ?_;exact ⟨(),trivial,⟨rfl,trivial⟩,⟨_,List.Perm.refl _⟩,rfl⟩
        ·refine zQ2 ?_;refine zQ13 ?_;exact ⟨(),trivial,⟨rfl,trivial⟩,⟨_,List.Perm.refl _⟩,rfl⟩
       ·refine zQ2 ?_;refine zQ67 ?_;exact ⟨(),trivial,⟨rfl,trivial⟩,⟨_,List.Perm.refl _⟩,rfl⟩
      ·refine zQ2 ?_;exact zT32
     ·refine zQ2 ?_;refine zQ4 ?_;exact zT32
    ·refine zQ2 ?_;refine zQ68 ?_;exact zT32
   refine gae ?_;exact qac hj2 (rC (rA rfl zm0 rfl zsr) rN) (by simp only[zAs];rfl)
  refine oC rfl (fun hc=>absurd (zt hc) k2) (fun _=>?_);refine gay ?_
  by_cases k5:kind=5
  ·subst k5;obtain ⟨x,rfl⟩:=Inp.form_value hf zDd;rw[qaZ] at e1;rw[qbd] at n2;rw[ndEs,ndEs] at hnd;have hex:=(qad.1 e1).1
   have hS:stW c n (.mk 5 name index [x] thn els)=(exW c x++[[59]],n):=by
    unfold stW;rw[if_neg zDd,if_neg zDd,if_neg zDd,if_neg zDd,if_pos rfl]
    all_goals first|done|(simp only[Cmp.headD_one,zAs];done)|(simp only[Cmp.headD_one,zAs];rfl)|rfl
   obtain ⟨rfl,rfl⟩:=Prod.mk.inj (hS.symm.trans hRM);have hall:=List.forall_mem_append.2 ⟨hws,hneX⟩;simp only[qaj] at hT;have p6:=hX x ws n zo n2.1 hex (fun w hw=>hall w (by simp at hw ⊢;grind)) (by simp only[qaj];omega);simp only[eC,eT] at p6;have p8:=qak (B0:=B0) (w0:=w0) (ws++exW c x) [[59]] n (fun w hw=>hall w (by simp at hw ⊢;grind)) (fun w hw=>hall w (by simp at hw ⊢;grind)) (by simp only[qaj];omega);simp only[eT,zMc,List.map_nil] at p8;refine oC rfl (fun _=>?_) (fun hc=>by cases hc);refine ga1 ?_;refine cM (A:=Unit) (fun _=>[(6,ptr b6 0)]) (fun _=>[tR b6 ((ws++exW c x)++[[59]]) n]) (fun _=>True) ?_ (fun _ _ j2 hj2=>?_)
   ·refine cD (m:=10) rfl [cR b3 vars arrays fs sc ars own,tR b4 ws n,sR b5 5 name index [x] thn els] ?_;refine zQ23 ?_;refine zQ81 ?_;refine zl2 (i:=6) (j:=7) zk ?_ ?_
    ·refine zQ65 ?_;refine zl1 (i:=7) zk ?_;refine zQ7 ?_;refine zQ61 ?_;exact ⟨(),trivial,⟨rfl,trivial⟩,⟨_,List.Perm.refl _⟩,rfl⟩
    ·refine zQ7 ?_;refine zl1 (i:=6) zk ?_;refine zQ65 ?_;refine zQ61 ?_;exact ⟨(),trivial,⟨rfl,trivial⟩,⟨_,List.Perm.refl _⟩,rfl⟩
   refine gae ?_;exact qac hj2 (rC (rA rfl zm0 rfl zsr) rN) (by simp only[zAs];rfl)
  refine oC rfl (fun hc=>absurd (zt hc) k5) (fun _=>?_);refine gay ?_
  by_cases k6:kind=6
  ·subst k6;obtain ⟨x,rfl⟩:=Inp.form_value hf zDd;rw[qaZ] at e1;rw[qbd] at n2;rw[ndEs,ndEs] at hnd;have hex:=(qad.1 e1).1
   have hS:stW c n (.mk 6 name index [x] thn els)=(exW c x++[c.t0,[33]],n):=by
    unfold stW;rw[if_neg zDd,if_neg zDd,if_neg zDd,if_neg zDd,if_neg zDd,if_pos rfl]
    all_goals first|done|(simp only[Cmp.headD_one,zAs];done)|(simp only[Cmp.headD_one,zAs];rfl)|rfl
   obtain ⟨rfl,rfl⟩:=Prod.mk.inj (hS.symm.trans hRM);have hall:=List.forall_mem_append.2 ⟨hws,hneX⟩;simp only[qaj] at hT;have p6:=hX x ws n zo n2.1 hex (fun w hw=>hall w (by simp at hw ⊢;grind)) (by simp only[qaj];omega);simp only[eC,eT] at p6;have p9:=qcS (B0:=B0) (w0:=w0) sc zo;rw[<-hc.t0] at p9;have p11:=qak (B0:=B0) (w0:=w0) (ws++exW c x) [c.t0,[33]] n (fun w hw=>hall w (by simp at hw ⊢;grind)) (fun w hw=>hall w (by simp at hw ⊢;grind)) (by simp only[qaj];omega);simp only[eT,zMc,List.map_nil] at p11;refine oC rfl (fun _=>?_) (fun hc=>by cases hc);refine ga1 ?_;refine cM (A:=Unit) (fun _=>[(6,ptr b6 0)]) (fun _=>[tR b6 ((ws++exW c x)++[c.t0,[33]]) n]) (fun _=>True) ?_ (fun _ _ j2 hj2=>?_)
   ·refine cD (m:=13) rfl [cR b3 vars arrays fs sc ars own,tR b4 ws n,sR b5 6 name index [x] thn els] ?_;refine zQ23 ?_;refine aT 7 rfl rfl (pF rfl) ?_;refine aT 8 rfl rfl (pL (c:=.atom _) rfl zm0 rfl) ?_;refine zQ81 ?_;refine zl1 (i:=6) zk ?_;refine zQ65 ?_;refine zl1 (i:=9) zk ?_;refine lS (H1:=[]) rfl (.inl rfl) rfl zpr ⟨_,List.Perm.refl _⟩ (sF [_] rfl p9 ?_);refine zQ43 ?_;refine zl1 (i:=12) zk ?_;refine lS (H1:=[zR b6]) (F:=[cR b3 vars arrays fs sc ars own,tR b4 ws n,sR b5 6 name index [x] thn els]) rfl (.inl rfl) rfl (zPc (l₁:=[cR b3 vars arrays fs sc ars own,tR b4 ws n,sR b5 6 name index [x] thn els]) (l₂:=[_])) zhr (sS (cs':=[_,_]) rfl pH rfl rfl rfl rfl rfl ?_);refine qhE ?_;exact ⟨(),trivial,⟨rfl,trivial⟩,⟨_,List.Perm.refl _⟩,rfl⟩
   refine gae ?_;exact qac hj2 (rC (rA rfl zm0 rfl zsr) rN) (by simp only[zAs];rfl)
  refine oC rfl (fun hc=>absurd (zt hc) k6) (fun _=>?_);refine gay ?_
  by_cases k7:kind=7
  ·subst k7
   have hS:stW c n (.mk 7 name index value thn els)=([[36]],n):=by
    unfold stW;rw[if_neg zDd,if_neg zDd,if_neg zDd,if_neg zDd,if_neg zDd,if_neg zDd,if_pos rfl]
    all_goals first|done|(simp only[Cmp.headD_one,zAs];done)|(simp only[Cmp.headD_one,zAs];rfl)|rfl
   obtain ⟨rfl,rfl⟩:=Prod.mk.inj (hS.symm.trans hRM);have hall:=List.forall_mem_append.2 ⟨hws,hneX⟩;simp only[qaj] at hT;have p2:=qak (B0:=B0) (w0:=w0) ws [[36]] n (fun w hw=>hall w (by simp at hw ⊢;grind)) (fun w hw=>hall w (by simp at hw ⊢;grind)) (by simp only[qaj];omega);simp only[eT,zMc,List.map_nil] at p2;refine oC rfl (fun _=>?_) (fun hc=>by cases hc);refine gab ?_;refine zQ33 ?_;refine oS (sF [_,_] rfl p2 ?_) rfl;refine oS (sS (cs':=[_,_]) rfl zp3 rfl rfl rfl rfl rfl ?_) rfl;refine gae ?_;exact qac rfl (rC (rA rfl zm0 rfl zsr) rN) rfl
  refine oC rfl (fun hc=>absurd (zt hc) k7) (fun _=>?_);refine gab ?_
  have hk34:kind=3∨kind=4:=by
   have:=qiS hf;omega
  obtain ⟨x,rfl⟩:=Inp.form_value hf k7;rw[qaZ] at e1;rw[qbd] at n2;rw[ndEs,ndEs] at hnd;have hex:=(qad.1 e1).1;rcases hk34 with rfl|rfl
  ·cases els with
   |nil=>
    have hS:stW c n (.mk 3 name index [x] thn [])=(exW c x++([38::labW n,[63]]++((stWs c (n+1) thn).1++[labW n++[58]])),(stWs c (n+1) thn).2):=by
     unfold stW;rw[if_neg zDd,if_neg zDd,if_pos rfl]
     all_goals first|done|(simp only[Cmp.headD_one,zAs];done)|(simp only[Cmp.headD_one,zAs];rfl)|rfl
    obtain ⟨rfl,rfl⟩:=Prod.mk.inj (hS.symm.trans hRM);have hall:=List.forall_mem_append.2 ⟨hws,hneX⟩;simp only[qaj] at hT;generalize hB:stWs c (n+1) thn=B at *;have p7:=hX x ws (n+1) zo n2.1 hex (fun w hw=>hall w (by simp at hw ⊢;grind)) (by simp only[qaj];omega);simp only[eC,eT] at p7;have p11:=qak (B0:=B0) (w0:=w0) (ws++exW c x) [38::labW n,[63]] (n+1) (fun w hw=>hall w (by simp at hw ⊢;grind)) (fun w hw=>hall w (by simp at hw ⊢;grind)) (by simp only[qaj];omega);simp only[eT,zMc,List.map_nil] at p11;have p14:=qd0 thn hth (ws++exW c x++[38::labW n,[63]]) (n+1) zo (by rw[hB];exact (fun w hw=>hall w (by simp at hw ⊢;grind))) (by rw[hB];simp only[qaj];omega) zo;rw[hB] at p14;simp only[eC,eT] at p14;have p18:=qak (B0:=B0) (w0:=w0) (ws++exW c x++[38::labW n,[63]]++B.1) [labW n++[58]] B.2 (fun w hw=>hall w (by simp at hw ⊢;grind)) (fun w hw=>hall w (by simp at hw ⊢;grind)) (by simp only[qaj];omega);simp only[eT,zMc,List.map_nil] at p18;refine oS (sF [_] rfl hb1 ?_) rfl;refine gab ?_;refine cW (H':=[cR b3 vars arrays fs sc ars own,tR b4 ws (n+1),sR b5 3 name index [x] thn [],zR b6]) ⟨[],by rw[zLz];exact List.Perm.swap _ _ _⟩ ?_;refine oC rfl (fun _=>?_) (fun hc=>by cases hc);refine ga1 ?_;refine cM (A:=Unit) (fun _=>[(6,ptr b6 0)]) (fun _=>[tR b6 ((ws++exW c x++[38::labW n,[63]]++B.1)++[labW n++[58]]) B.2]) (fun _=>True) ?_ (fun _ _ j2 hj2=>?_)
    ·refine cD (m:=20) rfl [cR b3 vars arrays fs sc ars own,tR b4 ws (n+1),sR b5 3 name index [x] thn []] ?_;refine zQ28 ?_;refine aT 3 rfl rfl (pF rfl) ?_;refine aT 4 rfl rfl (pL (c:=.list _) rfl zm2 rfl) ?_;refine zQ75 ?_;refine aT 13 rfl rfl (pL (c:=.list _) rfl zm2 rfl) ?_;refine aT 15 rfl rfl (pM (lv:=.atom _) rfl) ?_;refine aT 16 rfl rfl (Pure.sadd rfl rfl (by first|omega|(simp only[zLa,zLc,zLn];omega))) ?_;refine zQ81 ?_;refine qaF.three (i:=7) (j:=10) (k:=17) zk ?_ ?_ ?_
     ·refine zQ20 ?_;refine zl2 (i:=10) (j:=17) zk ?_ ?_
      ·refine zQ2 ?_;refine zl2 (i:=11) (j:=17) zk ?_ ?_
       ·exact zT24
       ·refine zQ7 ?_;refine zQ4 ?_;refine zQ73 ?_;exact ⟨(),trivial,⟨rfl,trivial⟩,⟨_,List.Perm.refl _⟩,rfl⟩
      ·refine zQ7 ?_;refine zQ43 ?_;refine zQ73 ?_;exact ⟨(),trivial,⟨rfl,trivial⟩,⟨_,List.Perm.refl _⟩,rfl⟩
     ·refine zQ2 ?_;refine zl2 (i:=7) (j:=17) zk ?_ ?_
      ·refine zQ20 ?_;refine zl2 (i:=11) (j:=17) zk ?_ ?_
       ·exact zT24
       ·refine zQ7 ?_;refine zQ4 ?_;refine zQ73 ?_;exact ⟨(),trivial,⟨rfl,trivial⟩,⟨_,List.Perm.refl _⟩,rfl⟩
      ·refine zQ7 ?_;refine zQ68 ?_;refine zQ73 ?_;exact ⟨(),trivial,⟨rfl,trivial⟩,⟨_,List.Perm.refl _⟩,rfl⟩
     ·refine zQ7 ?_;refine zl2 (i:=7) (j:=10) zk ?_ ?_
      ·refine zQ20 ?_;refine zQ43 ?_;refine zQ73 ?_;exact ⟨(),trivial,⟨rfl,trivial⟩,⟨_,List.Perm.refl _⟩,rfl⟩
      ·refine zQ2 ?_;refine zQ68 ?_;refine zQ73 ?_;exact ⟨(),trivial,⟨rfl,trivial⟩,⟨_,List.Perm.refl _⟩,rfl⟩
    refine gae ?_
    exact qac hj2 (rC (rA rfl zm0 rfl zsr) rN) (by simp only[zAs];rfl)
   |cons s0 r0=>
    have hne0:¬ (((s0::r0).map encS).length:Int)=0:=by
     rw[zLm,zLc];omega
    have hS:stW c n (.mk 3 name index [x] thn (s0::r0))=(exW c x++([38::labW n,[63]]++((stWs c (n+2) thn).1++([[48],38::labW (n+1),[63],labW n++[58]]++((stWs c (stWs c (n+2) thn).2 (s0::r0)).1++[labW (n+1)++[58]])))),(stWs c (stWs c (n+2) thn).2 (s0::r0)).2):=by
     unfold stW;rw[if_neg zDd,if_neg zDd,if_pos rfl]
     all_goals first|done|(simp only[Cmp.headD_one,zAs];done)|(simp only[Cmp.headD_one,zAs];rfl)|rfl
    obtain ⟨rfl,rfl⟩:=Prod.mk.inj (hS.symm.trans hRM);have hall:=List.forall_mem_append.2 ⟨hws,hneX⟩;simp only[qaj] at hT;have hlb:=qdl c thn (n+2);generalize hels:s0::r0=els at *;generalize hB:stWs c (n+2) thn=B at *;generalize hD:stWs c B.2 els=D at *;have p7:=hX x ws (n+2) zo n2.1 hex (fun w hw=>hall w (by simp at hw ⊢;grind)) (by simp only[qaj];omega);simp only[eC,eT] at p7;have p11:=qak (B0:=B0) (w0:=w0) (ws++exW c x) [38::labW n,[63]] (n+2) (fun w hw=>hall w (by simp at hw ⊢;grind)) (fun w hw=>hall w (by simp at hw ⊢;grind)) (by simp only[qaj];omega);simp only[eT,zMc,List.map_nil] at p11;have p14:=qd0 thn hth (ws++exW c x++[38::labW n,[63]]) (n+2) zo (by rw[hB];exact (fun w hw=>hall w (by simp at hw ⊢;grind))) (by rw[hB];simp only[qaj];omega) zo;rw[hB] at p14;simp only[eC,eT] at p14;have p20:=qak (B0:=B0) (w0:=w0) (ws++exW c x++[38::labW n,[63]]++B.1) [[48],38::labW (n+1),[63],labW n++[58]] B.2 (fun w hw=>hall w (by simp at hw ⊢;grind)) (fun w hw=>hall w (by simp at hw ⊢;grind)) (by simp only[qaj];omega);simp only[eT,zMc,List.map_nil] at p20;have p40:=qd0 els hel ((ws++exW c x++[38::labW n,[63]]++B.1)++[[48],38::labW (n+1),[63],labW n++[58]]) B.2 zo (by rw[hD];exact (fun w hw=>hall w (by simp at hw ⊢;grind))) (by rw[hD];simp only[qaj];omega) zo;rw[hD] at p40;simp only[eC,eT] at p40;have p41:=qak (B0:=B0) (w0:=w0) (((ws++exW c x++[38::labW n,[63]]++B.1)++[[48],38::labW (n+1),[63],labW n++[58]])++D.1) [labW (n+1)++[58]] D.2 (fun w hw=>hall w (by simp at hw ⊢;grind)) (fun w hw=>hall w (by simp at hw ⊢;grind)) (by simp only[qaj];omega);simp only[eT,zMc,List.map_nil] at p41;refine oS (sF [_] rfl hb1 ?_) rfl;refine gab ?_;refine cW (H':=[cR b3 vars arrays fs sc ars own,tR b4 ws (n+1),sR b5 3 name index [x] thn els,zR b6]) ⟨[],by rw[zLz];exact List.Perm.swap _ _ _⟩ ?_;refine oC rfl (fun hc=>absurd (zt hc) hne0) (fun _=>?_);refine gab ?_;refine oS (sF [_] rfl hb2 ?_) rfl;refine gab ?_;refine cW (H':=[cR b3 vars arrays fs sc ars own,sR b5 3 name index [x] thn els,tR b4 ws (n+2),zR b6]) ⟨[],by rw[zLz];exact (List.Perm.swap _ _ _).trans (List.Perm.cons _ (List.Perm.swap _ _ _))⟩ ?_;refine oC rfl (fun hc=>by cases hc) (fun _=>?_);refine gad ?_;refine cM (A:=Unit) (fun _=>[(3,ptr b3 0),(4,ptr b4 0),(5,ptr b5 0),(6,ptr b6 0),(8,str (labW (n+1)))]) (fun _=>[tR b4 (((ws++exW c x++[38::labW n,[63]]++B.1)++[[48],38::labW (n+1),[63],labW n++[58]])) B.2,cR b3 vars arrays fs sc ars own,sR b5 3 name index [x] thn els,zR b6]) (fun _=>True) ?_ (fun _ _ j2 hj2=>?_)
    ·refine cD (m:=22) rfl [cR b3 vars arrays fs sc ars own,sR b5 3 name index [x] thn els] ?_;refine aT 0 rfl rfl (pG (cs':=[_,_,_,_,_,_]) rfl zm0 rfl rfl) ?_;refine aT 1 rfl rfl (pG (cs':=[_,_,_,_,_,_]) rfl zm0 rfl rfl) ?_;refine aT 3 rfl rfl (pF rfl) ?_;refine aT 4 rfl rfl (pL (c:=.list _) rfl zm1 rfl) ?_;refine zQ75 ?_;refine aT 13 rfl rfl (pL (c:=.list _) rfl zm1 rfl) ?_;refine aT 15 rfl rfl (pM (lv:=.atom _) rfl) ?_;refine aT 16 rfl rfl (Pure.sadd rfl rfl (by first|omega|(simp only[zLa,zLc,zLn];omega))) ?_;refine aT 17 rfl rfl (pM (lv:=.atom _) rfl) ?_;refine aT 18 rfl rfl (Pure.sadd rfl rfl (by first|omega|(simp only[zLa,zLc,zLn];omega))) ?_;refine zQ81 ?_;refine qaF.three (i:=2) (j:=10) (k:=19) zk ?_ ?_ ?_
     ·refine zQ82 ?_;refine qaF.three (i:=7) (j:=10) (k:=19) zk ?_ ?_ ?_
      ·refine zQ20 ?_;refine zl2 (i:=10) (j:=19) zk ?_ ?_
       ·refine zQ2 ?_;refine zl2 (i:=11) (j:=19) zk ?_ ?_
        ·exact zT10
        ·exact zT38
       ·refine zQ6 ?_;refine zQ43 ?_;refine zQ3 ?_;exact ⟨(),trivial,⟨rfl,rfl,rfl,rfl,rfl,trivial⟩,zhR _,rfl⟩
      ·refine zQ2 ?_;refine zl2 (i:=7) (j:=19) zk ?_ ?_
       ·refine zQ20 ?_;refine zl2 (i:=11) (j:=19) zk ?_ ?_
        ·exact zT10
        ·exact zT38
       ·refine zQ6 ?_;refine zQ68 ?_;refine zQ3 ?_;exact ⟨(),trivial,⟨rfl,rfl,rfl,rfl,rfl,trivial⟩,zhR _,rfl⟩
      ·refine zQ6 ?_;refine zl2 (i:=7) (j:=10) zk ?_ ?_
       ·refine zQ20 ?_;refine zQ43 ?_;refine zQ3 ?_;exact ⟨(),trivial,⟨rfl,rfl,rfl,rfl,rfl,trivial⟩,zhR _,rfl⟩
       ·refine zQ2 ?_;refine zQ68 ?_;refine zQ3 ?_;exact ⟨(),trivial,⟨rfl,rfl,rfl,rfl,rfl,trivial⟩,zhR _,rfl⟩
     ·refine zQ2 ?_;refine zl2 (i:=2) (j:=19) zk ?_ ?_
      ·refine zQ82 ?_;refine zl2 (i:=7) (j:=19) zk ?_ ?_
       ·refine zQ20 ?_;refine zl2 (i:=11) (j:=19) zk ?_ ?_
        ·exact zT10
        ·exact zT38
       ·refine zQ6 ?_;refine zQ68 ?_;refine zQ3 ?_;exact ⟨(),trivial,⟨rfl,rfl,rfl,rfl,rfl,trivial⟩,zhR _,rfl⟩
      ·refine zQ6 ?_;refine zl1 (i:=2) zk ?_;refine zQ82 ?_;refine zQ68 ?_;refine zQ3 ?_;exact ⟨(),trivial,⟨rfl,rfl,rfl,rfl,rfl,trivial⟩,zhR _,rfl⟩
     ·refine zQ6 ?_;refine zl2 (i:=2) (j:=10) zk ?_ ?_
      ·refine zQ82 ?_;refine zl2 (i:=7) (j:=10) zk ?_ ?_
       ·refine zQ20 ?_;refine zQ43 ?_;refine zQ3 ?_;exact ⟨(),trivial,⟨rfl,rfl,rfl,rfl,rfl,trivial⟩,zhR _,rfl⟩
       ·refine zQ2 ?_;refine zQ68 ?_;refine zQ3 ?_;exact ⟨(),trivial,⟨rfl,rfl,rfl,rfl,rfl,trivial⟩,zhR _,rfl⟩
      ·refine zQ2 ?_;refine zl1 (i:=2) zk ?_;refine zQ82 ?_;refine zQ68 ?_;refine zQ3 ?_;exact ⟨(),trivial,⟨rfl,rfl,rfl,rfl,rfl,trivial⟩,zhR _,rfl⟩
    refine gab ?_;refine oS (sF [_,_,_] rfl p40 ?_) rfl;refine gac ?_;refine zQ33 ?_;refine oS (sF [_,_] rfl p41 ?_) rfl;refine oS (sS (cs':=[_,_]) rfl zp3 rfl rfl rfl rfl rfl ?_) rfl;refine gae ?_;exact qac hj2 (rC (rA rfl zm0 rfl zsr) rN) (by simp only[zAs];rfl)
  ·skip
   have hS:stW c n (.mk 4 name index [x] thn els)=([labW n++[58]]++(exW c x++([38::labW (n+1),[63]]++((stWs c (n+2) thn).1++[[48],38::labW n,[63],labW (n+1)++[58]]))),(stWs c (n+2) thn).2):=by
    unfold stW;rw[if_neg zDd,if_neg zDd,if_neg zDd,if_pos rfl]
    all_goals first|done|(simp only[Cmp.headD_one,zAs];done)|(simp only[Cmp.headD_one,zAs];rfl)|rfl
   obtain ⟨rfl,rfl⟩:=Prod.mk.inj (hS.symm.trans hRM);have hall:=List.forall_mem_append.2 ⟨hws,hneX⟩;simp only[qaj] at hT;generalize hB:stWs c (n+2) thn=B at *;have p6:=qak (B0:=B0) (w0:=w0) ws [labW n++[58]] (n+2) (fun w hw=>hall w (by simp at hw ⊢;grind)) (fun w hw=>hall w (by simp at hw ⊢;grind)) (by simp only[qaj];omega);simp only[eT,zMc,List.map_nil] at p6;have p11:=hX x (ws++[labW n++[58]]) (n+2) zo n2.1 hex (fun w hw=>hall w (by simp at hw ⊢;grind)) (by simp only[qaj];omega);simp only[eC,eT] at p11;have p15:=qak (B0:=B0) (w0:=w0) (ws++[labW n++[58]]++exW c x) [38::labW (n+1),[63]] (n+2) (fun w hw=>hall w (by simp at hw ⊢;grind)) (fun w hw=>hall w (by simp at hw ⊢;grind)) (by simp only[qaj];omega);simp only[eT,zMc,List.map_nil] at p15;have p18:=qd0 thn hth (ws++[labW n++[58]]++exW c x++[38::labW (n+1),[63]]) (n+2) zo (by rw[hB];exact (fun w hw=>hall w (by simp at hw ⊢;grind))) (by rw[hB];simp only[qaj];omega) zo;rw[hB] at p18;simp only[eC,eT] at p18;have p24:=qak (B0:=B0) (w0:=w0) (ws++[labW n++[58]]++exW c x++[38::labW (n+1),[63]]++B.1) [[48],38::labW n,[63],labW (n+1)++[58]] B.2 (fun w hw=>hall w (by simp at hw ⊢;grind)) (fun w hw=>hall w (by simp at hw ⊢;grind)) (by simp only[qaj];omega);simp only[eT,zMc,List.map_nil] at p24;refine oS (sF [_] rfl hb1 ?_) rfl;refine gab ?_;refine cW (H':=[cR b3 vars arrays fs sc ars own,tR b4 ws (n+1),sR b5 4 name index [x] thn els,zR b6]) ⟨[],by rw[zLz];exact List.Perm.swap _ _ _⟩ ?_;refine oC rfl (fun hc=>by cases hc) (fun _=>?_);refine gab ?_;refine oS (sF [_] rfl hb2 ?_) rfl;refine gab ?_;refine cW (H':=[cR b3 vars arrays fs sc ars own,tR b4 ws (n+2),sR b5 4 name index [x] thn els,zR b6]) ⟨[],by rw[zLz];exact List.Perm.swap _ _ _⟩ ?_;refine oC rfl (fun _=>?_) (fun hc=>by cases hc);refine ga1 ?_;refine cM (A:=Unit) (fun _=>[(6,ptr b6 0)]) (fun _=>[tR b6 ((ws++[labW n++[58]]++exW c x++[38::labW (n+1),[63]]++B.1)++[[48],38::labW n,[63],labW (n+1)++[58]]) B.2]) (fun _=>True) ?_ (fun _ _ j2 hj2=>?_)
   ·refine cD (m:=26) rfl [cR b3 vars arrays fs sc ars own,tR b4 ws (n+2),sR b5 4 name index [x] thn els] ?_;refine zQ28 ?_;refine aT 3 rfl rfl (pM (lv:=.atom _) rfl) ?_;refine aT 4 rfl rfl (Pure.sadd rfl rfl (by first|omega|(simp only[zLa,zLc,zLn];omega))) ?_;refine aT 7 rfl rfl (pF rfl) ?_;refine aT 8 rfl rfl (pL (c:=.list _) rfl zm2 rfl) ?_;refine aT 9 rfl rfl (xR (el':=encE x) (cs:=[_,_,_,_]) rfl rfl zDd rfl rfl rfl) ?_;refine aT 10 rfl rfl (pR (cs':=[_,_,_,_]) rfl rfl rfl) ?_;refine aT 12 rfl rfl (pM (lv:=.atom _) rfl) ?_;refine aT 13 rfl rfl (Pure.sadd rfl rfl (by first|omega|(simp only[zLa,zLc,zLn];omega))) ?_;refine aT 16 rfl rfl (pF rfl) ?_;refine aT 17 rfl rfl (pL (c:=.list _) rfl zm2 rfl) ?_;refine aT 19 rfl rfl (pM (lv:=.atom _) rfl) ?_;refine aT 20 rfl rfl (Pure.sadd rfl rfl (by first|omega|(simp only[zLa,zLc,zLn];omega))) ?_;refine aT 21 rfl rfl (pM (lv:=.atom _) rfl) ?_;refine aT 22 rfl rfl (Pure.sadd rfl rfl (by first|omega|(simp only[zLa,zLc,zLn];omega))) ?_;refine zQ81 ?_;refine qaF.three (i:=5) (j:=14) (k:=23) zk ?_ ?_ ?_
    ·refine zQ7 ?_;refine qaF.three (i:=6) (j:=14) (k:=23) zk ?_ ?_ ?_
     ·refine zQ35 ?_;refine qaF.three (i:=11) (j:=14) (k:=23) zk ?_ ?_ ?_
      ·refine zQ59 ?_;refine zl2 (i:=14) (j:=23) zk ?_ ?_
       ·refine zQ2 ?_;refine zl2 (i:=15) (j:=23) zk ?_ ?_
        ·refine zQ97 ?_;refine zl2 (i:=18) (j:=23) zk ?_ ?_
         ·refine zQ17 ?_;refine qN ?_;exact ⟨(),trivial,⟨rfl,trivial⟩,⟨_,List.Perm.refl _⟩,rfl⟩
         ·refine zQ6 ?_;refine zQ1 ?_;exact ⟨(),trivial,⟨rfl,trivial⟩,⟨_,List.Perm.refl _⟩,rfl⟩
        ·refine zQ6 ?_;refine zQ31 ?_;exact ⟨(),trivial,⟨rfl,trivial⟩,⟨_,List.Perm.refl _⟩,rfl⟩
       ·refine zQ6 ?_;exact zT19
      ·refine zQ2 ?_;refine zl2 (i:=11) (j:=23) zk ?_ ?_
       ·exact zT6
       ·refine zQ6 ?_;refine zQ11 ?_;exact ⟨(),trivial,⟨rfl,trivial⟩,⟨_,List.Perm.refl _⟩,rfl⟩
      ·refine zQ6 ?_;refine zl2 (i:=11) (j:=14) zk ?_ ?_
       ·refine zQ59 ?_;exact zT19
       ·refine zQ2 ?_;refine zQ11 ?_;exact ⟨(),trivial,⟨rfl,trivial⟩,⟨_,List.Perm.refl _⟩,rfl⟩
     ·refine zQ2 ?_;refine zl2 (i:=6) (j:=23) zk ?_ ?_
      ·refine zQ35 ?_;refine zl2 (i:=11) (j:=23) zk ?_ ?_
       ·exact zT6
       ·refine zQ6 ?_;refine zQ11 ?_;exact ⟨(),trivial,⟨rfl,trivial⟩,⟨_,List.Perm.refl _⟩,rfl⟩
      ·refine zQ6 ?_;refine zQ96 ?_;exact ⟨(),trivial,⟨rfl,trivial⟩,⟨_,List.Perm.refl _⟩,rfl⟩
     ·refine zQ6 ?_;refine zl2 (i:=6) (j:=14) zk ?_ ?_
      ·exact zT44
      ·refine zQ2 ?_;refine zQ96 ?_;exact ⟨(),trivial,⟨rfl,trivial⟩,⟨_,List.Perm.refl _⟩,rfl⟩
    ·refine zQ2 ?_;refine zl2 (i:=5) (j:=23) zk ?_ ?_
     ·refine zQ7 ?_;refine zl2 (i:=6) (j:=23) zk ?_ ?_
      ·refine zQ35 ?_;refine zl2 (i:=11) (j:=23) zk ?_ ?_
       ·exact zT6
       ·refine zQ6 ?_;refine zQ11 ?_;exact ⟨(),trivial,⟨rfl,trivial⟩,⟨_,List.Perm.refl _⟩,rfl⟩
      ·refine zQ6 ?_;refine zQ96 ?_;exact ⟨(),trivial,⟨rfl,trivial⟩,⟨_,List.Perm.refl _⟩,rfl⟩
     ·refine zQ6 ?_;refine zl1 (i:=5) zk ?_;refine zQ7 ?_;refine zQ96 ?_;exact ⟨(),trivial,⟨rfl,trivial⟩,⟨_,List.Perm.refl _⟩,rfl⟩
    ·refine zQ6 ?_;refine zl2 (i:=5) (j:=14) zk ?_ ?_
     ·refine zQ7 ?_;refine zl2 (i:=6) (j:=14) zk ?_ ?_
      ·exact zT44
      ·refine zQ2 ?_;refine zQ96 ?_;exact ⟨(),trivial,⟨rfl,trivial⟩,⟨_,List.Perm.refl _⟩,rfl⟩
     ·refine zQ2 ?_;refine zl1 (i:=5) zk ?_;refine zQ7 ?_;refine zQ96 ?_;exact ⟨(),trivial,⟨rfl,trivial⟩,⟨_,List.Perm.refl _⟩,rfl⟩
   refine gae ?_;exact qac hj2 (rC (rA rfl zm0 rfl zsr) rN) (by simp only[zAs];rfl)
end
end Go.Proofs.YthmhncflhnbedaaGreatDoor.R23
namespace Go.Proofs.YthmhncflhnbedaaGreatDoor.R23
open Go.GL Go.RowKit Go.Stele
open Go.Lib (decDigits itoa join)
open Cmp (qdd qcM qgo qbH qic)
attribute [local irreducible] LOps qae qag LCalls Go.GL.Pure qaA qaq qah LQ LAny qaF qap LS
section
variable {B0:Nat} {w0:World}
theorem qk9 (vars:List Nm) (arrays:List (Nm×Int)) (fs:List FnD) (o:Org) (hl:arrays.length<=2000000) (hp:∀ a∈arrays,0<a.2) (h0:0<=o.arrays) (h1:o.arrays+(arrays.map (·.2)).sum<=262144):LCalls (KC B0 w0) 80 [Chk.encPrG vars arrays fs,qcM o] [] (Ret (.tuple [.list ((symA o.arrays arrays).map qdd),int .i64 0])):=by
 have hal:(arrays.map Chk.encArG).length=arrays.length:=zLm _;have hml:(arrays.map (·.2)).length=arrays.length:=zLm _
 have hps:∀ n∈arrays.map (·.2),0<n:=fun n hn=>by
  obtain ⟨a,ha,rfl⟩:=List.mem_map.1 hn;exact hp a ha
 unfold Chk.encPrG qcM;refine cI Tryz.func80 rfl (n:=51) rfl rfl rfl ?_;refine gag ?_;refine oS (sB rfl fun b2=>?_) rfl;refine oS (sB rfl fun b3=>?_) rfl;refine ga0 ?_;refine oS (S.litA (es:=[]) [] rfl eN rfl rfl rfl fun b1=>?_) rfl;refine oP (pA (lv:=.app b1 0 2 []) rfl) rfl ?_;refine gab ?_
 refine oL (fun kk ls H'=>∃ (i:Nat) (v:LV),i<=arrays.length/\kk=arrays.length-i/\ls=[(6,v),(7,int .i64 (o.arrays+((arrays.map (·.2)).take i).sum)),(14,.list (arrays.map Chk.encArG)),(15,int .i64 arrays.length),(16,int .i64 (i:Nat))]/\GL.Acc 2 v ((symA o.arrays (arrays.take i)).map qdd) H' [])
  ⟨_,_,_,⟨0,.app b1 0 2 [],Nat.zero_le _,rfl,rfl,Acc.row⟩,⟨rfl,qaf (by simp),rfl,qaf zo,rfl,trivial⟩,⟨_,List.Perm.refl _⟩⟩ ?_
 rintro kk ls H' ⟨i,v,hi,rfl,rfl,hacc⟩ j hj;have hsum:=qbH (arrays.map (·.2)) i hps;refine gai ?_;refine oC rfl (fun hc=>?_) (fun hc=>?_)
 ·have hlt:i<arrays.length:=by have:=zt hc;omega
  have hpi:=hp _ (List.getElem_mem hlt);have hst:=qgo (l:=arrays.map (·.2)) (i:=i) zo;rw[List.getElem_map] at hst;have hsum2:=qbH (arrays.map (·.2)) (i+1) hps
  have hlen:((symA o.arrays (arrays.take i)).map qdd).length=i:=by
   rw[zLm,qga,List.length_take];omega
  generalize hsi:((arrays.map (·.2)).take i).sum=si at hsum hst;have hsy:=qic hlt o.arrays;rw[hsi] at hsy;refine gak ?_;refine zQ89 ?_;refine gac ?_;refine oS (sA fun b9=>?_) rfl;refine gab ?_;refine oB 23 rfl (fun h=>?_) (fun _=>?_)
  ·have:=zt h;omega
  refine gad ?_;refine oB 27 rfl (fun h=>?_) (fun _=>?_)
  ·have:=zt h;omega
  refine gac ?_;refine oB 31 rfl (fun h=>?_) (fun _=>?_)
  ·have:=zt h;omega
  refine gac ?_;refine oC rfl (fun h=>?_) (fun _=>?_)
  ·have:=zt h;omega
  refine gak ?_;refine zQ60 ?_;refine qiR ?_;refine oS (S.acc1 rfl hacc rfl (by simp;rfl) rfl (by rw[hlen];simp;omega) fun v' H2 hacc'=>?_) rfl;refine zQ62 ?_;refine gaa ?_;exact ⟨_,_,_,by omega,⟨i+1,v',by omega,rfl,rfl,by rw[hsy,zMa];exact hacc'⟩,⟨rfl,qaf (by rw[hst];omega),rfl,rfl,qaf zo,trivial⟩,zhD zhr,hj⟩
 ·exact zT29
end
end Go.Proofs.YthmhncflhnbedaaGreatDoor.R23
namespace Go.Proofs.YthmhncflhnbedaaGreatDoor.R23
open Go.GL Go.RowKit Go.Stele
open Go.Lib (decDigits itoa join)
open Cmp (qdd qcM EnvOk qgH qdl parW qiH qc1 qkz qh2 qoU qkQ qp7 qeq qgh)
theorem qqd (name:Nm):∀ (l:List (Nm×Int)) (a:Int),name ∉ l.map (·.1)->arrR name l a=a
 |[],a,_=>rfl
 |(x,n)::r,a,h=>by
  rw[zMc,zMi] at h;rw[arrR,if_neg (fun e=>h (.inl e.symm))];exact qqd name r a (fun g=>h (.inr g))
theorem qnc (name:Nm):∀ (l:List (Nm×Int)) (a:Int),(l.map (·.1)).Nodup->arrR name (symA a l) 0=arrA a l name
 |[],a,_=>rfl
 |(x,n)::r,a,h=>by
  rw[zMc,List.nodup_cons] at h;rw[symA,arrR,arrA]
  by_cases e:x=name
  ·rw[if_pos e,if_pos e];exact qqd name _ a (by rw[qg1,<-e];exact h.1)
  ·rw[if_neg e,if_neg e];exact qnc name r (a+n) h.2
theorem qoN:∀ (l:List (Nm×Int)) (a:Int),(∀ p∈l,0<=p.2)->∀ q∈symA a l,a<=q.2/\q.2<=a+(l.map (·.2)).sum
 |[],a,_,q,h=>(List.not_mem_nil h).elim
 |(x,n)::r,a,hp,q,h=>by
  have h0:=hp (x,n) zMs
  have hs:0<=(r.map (·.2)).sum:=by
   clear h
   induction r with
   |nil=>simp
   |cons y r ih=>
    have h1:=hp y (zMo _ zMs)
    have h2:=ih (fun p hp'=>hp p (by
     rcases zMi.1 hp' with h|h
     ·rw[h];exact List.mem_cons_self ..
     ·exact zMo _ (zMo _ h)))
    rw[zMc,List.sum_cons];omega
  rw[symA] at h;rw[zMc,List.sum_cons];simp only at h0 ⊢;rcases zMi.1 h with rfl|h
  ·simp only;omega
  ·have:=qoN r (a+n) (fun p hp'=>hp p (zMo _ hp')) q h;omega
attribute [local irreducible] LOps qae qag LCalls Go.GL.Pure qaA qaq qah LQ LAny qaF qap LS
section
variable {B0:Nat} {w0:World}
structure PrgOk (vars:List Nm) (arrays:List (Nm×Int)) (fs:List FnD) (oc:Int) (sc:Nat) (oa:Int):Prop where
 chk:qb1 vars arrays fs=0
 fit:qdI vars arrays fs ⟨oc,(sc:Int),oa⟩=true
 v6:vars.length<=2000000
 a6:arrays.length<=2000000
 nd:ndFs fs<=2000000
 num:∀ f∈fs,qcA f.body
theorem qr7 {vars:List Nm} {arrays:List (Nm×Int)} {fs:List FnD} {oc:Int} {sc:Nat} {oa:Int} (h:PrgOk vars arrays fs oc sc oa) {f:FnD} (hf:f∈fs) {kn:List FSum} (hk:qkk fs kn) :
  RefC B0 w0 vars arrays fs sc (symA oa arrays) f.name (ccF vars arrays fs ⟨oc,(sc:Int),oa⟩ f.name) (envF vars (arrays.map (·.1)) (fs.map (·.name)) kn f)/\ClC (ccF vars arrays fs ⟨oc,(sc:Int),oa⟩ f.name)/\EnvOk (envF vars (arrays.map (·.1)) (fs.map (·.name)) kn f)/\∀ k∈(envF vars (arrays.map (·.1)) (fs.map (·.name)) kn f).funcs,qd3 k.name:=by
 obtain ⟨ht,hp,hPa,hPc,hV⟩:=qeS h.chk;have hfitP:qdI (prOf vars arrays fs).vars (qbK (prOf vars arrays fs)) (prOf vars arrays fs).funcs ⟨oc,(sc:Int),oa⟩=true:=by rw[hPa];exact h.fit
 have hF:=qjS hfitP
 have hcl:ClC (ccF vars arrays fs ⟨oc,(sc:Int),oa⟩ f.name):=by
  have:=qj1 hF f.name;rw[hPa] at this;exact this
 have hf6:=qdF fs;have hnd6:=h.nd;have hsm:∀ f∈fs,SmF f:=fun f hf=>qi5 (by have:=qc8 hf;omega)
 have hown:∀ f∈fs,∀ x∈f.params++f.locals,x.length<=24:=by
  have h:=h.chk;unfold qb1 at h;exact qeq _ _ _ _ _ (qad.1 (qad.1 (qad.1 h).2).2).1
 have hfr:=qbB _ _ hV.names;have hfn:∀ f∈fs,f.name.length<=24:=fun f hf=>qgh (hfr.2 _ (List.mem_append_right _ (List.mem_map_of_mem hf))).2;have hn:∀ f∈fs,f.name.length<=1000/\∀ x∈f.params++f.locals,x.length<=1000:=fun f hf=>⟨by have:=hfn f hf;omega,fun x hx=>by have:=hown f hf x hx;omega⟩;have hsc8:(qat vars fs).length<=8000:=hV.few;have hs1:((sc:Nat):Int).toNat+3+(qat vars fs).length<=262144:=hF.s1;rw[Int.toNat_natCast] at hs1
 have hnames:(prOf vars arrays fs).arrays.map (·.name)=arrays.map (·.1):=by
  unfold prOf;rw[List.map_map];rfl
 have hE:EnvOk (envF vars (arrays.map (·.1)) (fs.map (·.name)) kn f):=by
  have:=qp7 hV (f:=f) hf (hown f hf) hk;rw[hnames] at this;exact this
 have hplain:∀ k∈(envF vars (arrays.map (·.1)) (fs.map (·.name)) kn f).funcs,qd3 k.name:=fun k hk'=>by
  obtain ⟨g,g1,g2,_⟩:=hk k hk';rw[<-g2];exact qnH (hfr.2 _ (List.mem_append.2 (.inr (List.mem_map.2 ⟨g,g1,rfl⟩)))).2
 have hnodup:(arrays.map (·.1)).Nodup:=by
  have h1:=(List.nodup_append.1 (List.nodup_append.1 hfr.1).1).2.1;rw[hnames] at h1;exact h1
 have hfd:(46:UInt8) ∉ f.name:=qn0 (hfr.2 _ (List.mem_append_right _ (List.mem_map_of_mem hf))).2
 have htot:(arrays.map (·.2)).sum=((totA (prOf vars arrays fs).arrays:Nat):Int):=by
  have:=qfs (prOf vars arrays fs).arrays;rw[<-this];congr 2;exact hPa.symm
 have a0:=hF.a0;have a1:=hF.a1;simp only at a0 a1;have hpos:∀ p∈arrays,0<=p.2:=fun p hp'=>Int.le_of_lt (hp p hp');refine ⟨⟨fun name hs=>?_,fun name=>?_,?_,?_,?_,by omega,fun x _ hx=>fun w hw=>(qiA hcl hplain x hx w hw).1⟩,hcl,hE,hplain⟩
 ·have hnl:=hE.sc name hs;have h1:=qkB (B0:=B0) (w0:=w0) vars arrays fs sc (symA oa arrays) f.name name h.v6 zo hsm hn zo zo (by have:=hfn f hf;omega) zo
  have hnd:(46:UInt8) ∉ name:=by
   unfold qbj at hs;split at hs
   ·rename_i g
    rcases g with g|g
    ·exact qn0 (hfr.2 name (List.mem_append_left _ (List.mem_append_left _ g))).2
    ·have h2:=h.chk;unfold qb1 at h2;have h3:=(qad.1 (qad.1 (qad.1 h2).2).2).1;clear h1 h2
     have key:∀ (vars arrays later:List Nm) (known:List FSum) (fs:List FnD),qcf vars arrays later known fs=0->∀ f∈fs,∀ x∈f.params++f.locals,isNm x=true:=by
      intro vars arrays later known fs
      induction fs generalizing known with
      |nil=>intro _ f hf;cases hf
      |cons q l ih=>
       intro h f hf;rw[qcf] at h;obtain ⟨h1,h2⟩:=qad.1 h;rcases zMi.1 hf with rfl|hf
       ·unfold errF at h1;intro x hx;exact ((qbB _ _ (qad.1 h1).1).2 x hx).2
       ·exact ih _ h2 f hf
     exact qn0 (key _ _ _ _ _ h3 f hf name g)
   ·split at hs <;> cases hs
  have h2:=qpL (vars:=vars) (locs:=(fs.map fun (f:FnD)=>(f.params++f.locals).map fun x=>f.name++[46]++x).flatten) (own:=f.name) (name:=name) sc (show (qat vars fs).Nodup from hV.keys)
   (fun g=>by
    have:=qn0 (hfr.2 _ (List.mem_append_left _ (List.mem_append_left _ g))).2
    exact this (by simp))
   (fun g=>by
    rw[List.mem_flatten] at g;obtain ⟨l,hl,g⟩:=g;obtain ⟨q,_,rfl⟩:=List.mem_map.1 hl;obtain ⟨x,_,rfl⟩:=List.mem_map.1 g
    exact hnd (by simp))
  have h3:(ccF vars arrays fs ⟨oc,(sc:Int),oa⟩ f.name).sc name=decDigits (scR vars.length f.name name sc 0 (qat vars fs) 0):=by
   show itoa (qec (qat vars fs) (sc:Int) (keyC (qat vars fs) f.name name))=_;have h4:qec (qat vars fs) (sc:Int) (keyC (qat vars fs) f.name name)=((scR vars.length f.name name sc 0 (qat vars fs) 0:Nat):Int):=h2.symm;rw[h4,qcc (Int.natCast_nonneg _),Int.toNat_natCast]
  rw[h3];exact h1
 ·have hin:=qoN arrays oa hpos;have h1:=qln (B0:=B0) (w0:=w0) vars arrays fs sc (symA oa arrays) f.name name (by rw[qga];have:=h.a6;omega) (fun p hp'=>by have:=hin p hp';omega)
  have h3:(ccF vars arrays fs ⟨oc,(sc:Int),oa⟩ f.name).ar name=decDigits (arrR name (symA oa arrays) 0).toNat:=by
   show itoa (arrA oa arrays name)=_;rw[qnc name arrays oa hnodup,qcc (qgE arrays oa a0 hpos name)]
  rw[h3];exact h1
 ·show itoa (sc:Int)=_;rw[qcc (Int.natCast_nonneg _),Int.toNat_natCast]
 ·show itoa ((sc:Int)+1)=_;rw[qcc zo];congr 1
 ·show itoa ((sc:Int)+2)=_;rw[qcc zo];congr 1
theorem qjv {vars:List Nm} {arrays:List (Nm×Int)} {fs:List FnD} {oc:Int} {sc:Nat} {oa:Int} (h:PrgOk vars arrays fs oc sc oa) :
  LCalls (KC B0 w0) 38 [Chk.encPrG vars arrays fs,qcM ⟨oc,(sc:Int),oa⟩] [] (Ret (str (join (prW vars arrays fs ⟨oc,(sc:Int),oa⟩) [32]))):=by
 obtain ⟨ht,hp,hPa,hPc,hV⟩:=qeS h.chk;have hfitP:qdI (prOf vars arrays fs).vars (qbK (prOf vars arrays fs)) (prOf vars arrays fs).funcs ⟨oc,(sc:Int),oa⟩=true:=by rw[hPa];exact h.fit
 have hF:=qjS hfitP;have hs1:((sc:Nat):Int).toNat+3+(qat vars fs).length<=262144:=hF.s1;rw[Int.toNat_natCast] at hs1;have hW:=qpM hPc hfitP;have hWt:=(qh3 hPc h.num hfitP h.nd).1
 have hpw:qel (prOf vars arrays fs) ⟨oc,(sc:Int),oa⟩=[[38,102,95,109,97,105,110],[58],decDigits sc,[33],[36]]++(fnWs (ccF vars arrays fs ⟨oc,(sc:Int),oa⟩) 0 fs).1:=by
  show prW vars (qbK (prOf vars arrays fs)) fs ⟨oc,(sc:Int),oa⟩=_;rw[hPa];unfold prW;rw[qcc (Int.natCast_nonneg _),Int.toNat_natCast]
 have hpw2:prW vars arrays fs ⟨oc,(sc:Int),oa⟩=qel (prOf vars arrays fs) ⟨oc,(sc:Int),oa⟩:=by
  show _=prW vars (qbK (prOf vars arrays fs)) fs ⟨oc,(sc:Int),oa⟩;rw[hPa]
 have hWne:∀ w∈qel (prOf vars arrays fs) ⟨oc,(sc:Int),oa⟩,w≠[]:=fun w hw=>(hW w hw).1;have hndP:ndFs (prOf vars arrays fs).funcs=ndFs fs:=rfl;have hnd6:=h.nd;rw[hndP] at hWt;rw[hpw2];generalize qel (prOf vars arrays fs) ⟨oc,(sc:Int),oa⟩=W at hpw hWt hWne ⊢;clear hW hpw2 hfitP;have hfr:=qbB _ _ hV.names;have hfn:∀ f∈fs,f.name.length<=24:=fun f hf=>qgh (hfr.2 _ (List.mem_append_right _ (List.mem_map_of_mem hf))).2;have hf6:=qdF fs
 have hsmF:∀ f∈fs,f.params.length<=2000000:=fun f hf=>by
  have:=(qi5 (f:=f) (by have:=qc8 hf;omega)).params;exact zNt this zDd
 have hbody:∀ f∈fs,∃ (kn:List FSum),qa7 (envF vars (arrays.map (·.1)) (fs.map (·.name)) kn f) f.body=0/\qkk fs kn:=fun f hf=>by
  obtain ⟨kn,k1,k2⟩:=hV.bodies f hf
  have hnames:(prOf vars arrays fs).arrays.map (·.name)=arrays.map (·.1):=by
   unfold prOf;rw[List.map_map];rfl
  rw[hnames] at k1;exact ⟨kn,k1,k2⟩
 have hpar:∀ f∈fs,∀ p∈f.params,∀ kn,qbj (envF vars (arrays.map (·.1)) (fs.map (·.name)) kn f) p=0:=fun f hf p hp kn=>by
  unfold qbj;rw[if_pos];exact .inr (List.mem_append_left _ hp)
 have hsum:(arrays.map (·.2)).sum=((totA (prOf vars arrays fs).arrays:Nat):Int):=by
  have:=qfs (prOf vars arrays fs).arrays;rw[<-this];congr 2;exact hPa.symm
 have a0:=hF.a0;have a1:=hF.a1;simp only at a0 a1;have hAs:=qk9 (B0:=B0) (w0:=w0) vars arrays fs ⟨oc,(sc:Int),oa⟩ h.a6 hp a0 (by show oa+_<=_;rw[hsum];omega);have hN:=qcS (B0:=B0) (w0:=w0) sc zo;have hfl:(fs.map qav).length=fs.length:=zLm _;have eC:∀ own,cLV vars arrays fs sc (symA oa arrays) own=.agg [.list (vars.map str),.list (arrays.map Chk.encArG),.list (fs.map qav),int .i64 (sc:Nat),.list ((symA oa arrays).map qdd),str own]:=fun _=>rfl;have eT:∀ ws n,tLV ws n=.agg [str (join ws [32]),int .i64 (n:Nat)]:=fun _ _=>rfl;have ePr:Chk.encPrG vars arrays fs=.agg [.list (vars.map str),.list (arrays.map Chk.encArG),.list (fs.map qav)]:=rfl;have eOr:qcM ⟨oc,(sc:Int),oa⟩=.agg [int .i64 oc,int .i64 (sc:Nat),int .i64 oa]:=rfl;have eA:(symA (Org.arrays ⟨oc,(sc:Int),oa⟩) arrays)=symA oa arrays:=rfl;rw[eA] at hAs
 have hput0:=qak (B0:=B0) (w0:=w0) [] [[38,102,95,109,97,105,110],[58],decDigits sc,[33],[36]] 0 (by simp) (fun w hw=>hWne w (by rw[hpw];exact List.mem_append_left _ hw)) (by
  rw[hpw,qaj] at hWt;rw[List.nil_append]
  omega)
 simp only[eT,zMc,List.map_nil,List.nil_append] at hput0;rw[ePr,eOr] at hAs ⊢;refine cI Tryz.func38 rfl (n:=78) rfl rfl rfl ?_;refine gag ?_;refine oS (sB rfl fun b2=>?_) rfl;refine oS (sB rfl fun b3=>?_) rfl;refine gab ?_;refine oS (sF [_,_] rfl hAs ?_) rfl;refine gab ?_;refine oS (sA fun b7=>?_) rfl;refine gab ?_;refine oS (sF [_] rfl hN ?_) rfl;refine oS (sL [_,_,_,_,_] rfl (qaC [_,_,_,_,_]) rfl rfl rfl ?_) rfl;refine oS (sF [_,_] rfl hput0 ?_) rfl;refine oS (sA fun b8=>?_) rfl;refine gaa ?_;generalize hP5:[[38,102,95,109,97,105,110],[58],decDigits sc,[33],[36]]=P5 at hpw
 refine oL (fun kk ls H'=>∃ (i:Nat) (us:List Wd) (m:Nat) (own:Nm),i<=fs.length/\kk=fs.length-i/\ls=[(2,ptr b2 0),(3,ptr b3 0),(7,ptr b7 0),(8,ptr b8 0),(9,int .i64 (i:Nat))]/\H'=[tR b8 us m,cR b7 vars arrays fs sc (symA oa arrays) own,(b2,.cells 34 [.list (vars.map str),.list (arrays.map Chk.encArG),.list (fs.map qav)])]/\us++(fnWs (ccF vars arrays fs ⟨oc,(sc:Int),oa⟩) m (fs.drop i)).1=W/\m+2 * ndFs (fs.drop i)<=4000000000)
  ⟨_,_,_,⟨0,P5,0,[],Nat.zero_le _,rfl,rfl,rfl,hpw.symm,by rw[List.drop_zero];omega⟩,⟨rfl,rfl,rfl,rfl,rfl,trivial⟩,by
   rw[<-hP5]
   first
    |exact zhP pH (zhP pH (zhP zp1 zhn))
    |exact zhP pH (zhP pH zhp)
    |exact zhP zp1 (zhP pH (zhP zp1 zhn))⟩ ?_
 rintro kk ls H' ⟨i,us,m,own,hi,rfl,rfl,rfl,hU,hM⟩ j hj;refine gab ?_;refine oC rfl (fun hc=>?_) (fun hc=>?_);rotate_left
 ·have hi':i=fs.length:=by have:=zf hc;omega
  subst hi';rw[List.drop_length,qkz,zLz] at hU;subst hU;refine gaa ?_;exact qac hj (zra rfl) rfl
 have hlt:i<fs.length:=by have:=zt hc;omega
 have hmi:=qa0 qav fs i hlt;have hfm:=List.getElem_mem hlt;rw[List.drop_eq_getElem_cons hlt] at hU hM;generalize fs[i]=f at hmi hfm hU hM;obtain ⟨kn,k1,k2⟩:=hbody f hfm;obtain ⟨hRC,hcl,hE,hplain⟩:=qr7 (B0:=B0) (w0:=w0) h hfm k2;have hpl:=hsmF f hfm;have hfnl:=hfn f hfm;have hnf:=qc8 hfm;have hst:∀ s∈f.body,StmO B0 w0 vars arrays fs sc (symA oa arrays) f.name (ccF vars arrays fs ⟨oc,(sc:Int),oa⟩ f.name) s:=fun s hs=>qh8 hRC hE hcl hplain 2000000 (zNr _) s (by have:=qc1 hs;unfold ndF at hnf;omega) (qgb (h.num f hfm) s hs) (qgi k1 s hs);have hparf:=hpar f hfm;rw[qh2] at hU;simp only at hU;rw[qoU] at hU;simp only at hU;rw[ndFs] at hM;have hbl:=qdl (ccF vars arrays fs ⟨oc,(sc:Int),oa⟩ f.name) f.body m;have hblen:=qcn f.body;unfold ndF at hnf hM;generalize hcc:ccF vars arrays fs ⟨oc,(sc:Int),oa⟩ f.name=c at *
 have hsub:∀ w,(w∈us∨w=[102,95]++f.name++[58]∨w∈parW c f.params.reverse∨w∈(stWs c m f.body).1∨w∈([[48],[59]]:List Wd))->w≠[]:=fun w hw=>hWne w (by
  rw[<-hU];simp only[List.mem_append,List.mem_singleton];rcases hw with g|g|g|g|g
  ·exact .inl g
  ·exact .inr (.inl (.inl g))
  ·exact .inr (.inl (.inr (.inl g)))
  ·exact .inr (.inl (.inr (.inr (.inl g))))
  ·exact .inr (.inl (.inr (.inr (.inr g)))))
 have hWt2:tot us+tot [[102,95]++f.name++[58]]+tot (parW c f.params.reverse)+tot (stWs c m f.body).1+tot [[48],[59]]<=1000000000000:=by
  rw[<-hU] at hWt;simp only[qaj] at hWt;omega
 have hq1:=qak (B0:=B0) (w0:=w0) us [[102,95]++f.name++[58]] m (fun w hw=>hsub w (.inl hw)) (fun w hw=>hsub w (.inr (.inl (List.mem_singleton.1 hw)))) (by simp only[qaj];omega);simp only[eT,zMc,List.map_nil] at hq1;refine gab ?_;refine oP (xR (el':=qav f) (cs:=[_,_,_,_]) rfl rfl zo hmi rfl rfl) rfl ?_;refine gav ?_;refine oS (sA fun b10=>?_) rfl;refine gab ?_;refine zQ33 ?_;refine oS (sF [_,_] rfl hq1 ?_) rfl;have hparl:(f.params.map str).length=f.params.length:=zLm _;refine gab ?_
 refine oL (fun kk ls H'=>∃ (i2:Nat) (vs:List Wd),i2<=f.params.length/\kk=i2/\ls=[(2,ptr b2 0),(3,ptr b3 0),(7,ptr b7 0),(8,ptr b8 0),(9,int .i64 (i:Nat)),(10,ptr b10 0),(11,int .i64 ((i2:Int)-1))]/\H'=[cR b7 vars arrays fs sc (symA oa arrays) f.name,(b10,.cells 84 [str f.name,.list (f.params.map str),.list (f.locals.map str),.list (f.body.map encS)]),tR b8 vs m,(b2,.cells 34 [.list (vars.map str),.list (arrays.map Chk.encArG),.list (fs.map qav)])]/\vs++parW c (f.params.take i2).reverse=(us++[[102,95]++f.name++[58]])++parW c f.params.reverse)
  ⟨_,_,_,⟨f.params.length,_,zNr _,rfl,rfl,rfl,by rw[List.take_length]⟩,⟨rfl,rfl,rfl,rfl,rfl,rfl,by rw[<-hparl];rfl,trivial⟩,by
   first
    |exact zhP zp1 (zhP zp1 (zhP pH zhr))
    |exact zhP zp2 (zhP zp1 (zhP pH zhr))
    |exact zhP zp1 (zhP pH (zhP pH zhr))
    |exact zhP pH (zhP pH (zhP pH zhr))⟩ ?_
 rintro kk ls H' ⟨i2,vs,hi2,rfl,rfl,rfl,hV2⟩ j2 hj2
 have hvs:∀ w∈vs,w≠[]:=fun w hw=>by
  have:w∈(us++[[102,95]++f.name++[58]])++parW c f.params.reverse:=by rw[<-hV2];exact List.mem_append_left _ hw
  simp only[List.mem_append,List.mem_singleton] at this;rcases this with (g|g)|g
  ·exact hsub w (.inl g)
  ·exact hsub w (.inr (.inl g))
  ·exact hsub w (.inr (.inr (.inl g)))
 have hvt:tot vs+tot (parW c (f.params.take kk).reverse)=tot us+tot [[102,95]++f.name++[58]]+tot (parW c f.params.reverse):=by
  have:=congrArg tot hV2;simp only[qaj] at this;omega
 refine gab ?_;refine oC rfl (fun hd=>?_) (fun hd=>?_)
 ·have hge:=zt hd;obtain ⟨i2,rfl⟩:∃ i',kk=i'+1:=⟨kk-1,by omega⟩;have hlt2:i2<f.params.length:=by omega
  have hmp:=qa0 str f.params i2 hlt2;have hpm:f.params[i2]∈f.params:=List.getElem_mem hlt2;have hsc:=hRC.sc1 f.params[i2] (hparf _ hpm kn);rw[qkQ hlt2,qiH] at hV2 hvt;simp only[qaj] at hvt
  have hpne:∀ w∈[c.sc f.params[i2],[33]],w≠[]:=fun w hw=>by
   have:w∈(us++[[102,95]++f.name++[58]])++parW c f.params.reverse:=by rw[<-hV2];exact List.mem_append_right _ (List.mem_append_left _ hw)
   simp only[List.mem_append,List.mem_singleton] at this;rcases this with (g|g)|g
   ·exact hsub w (.inl g)
   ·exact hsub w (.inr (.inl g))
   ·exact hsub w (.inr (.inr (.inl g)))
  generalize f.params[i2]=p at hmp hsc hV2 hvt hpne;have hq2:=qak (B0:=B0) (w0:=w0) vs [c.sc p,[33]] m hvs hpne (by simp only[qaj];omega);simp only[eT,zMc,List.map_nil] at hq2;simp only[eC] at hsc;refine gad ?_;have hsb:HSub [cR b7 vars arrays fs sc (symA oa arrays) f.name,(b10,.cells 84 [str f.name,.list (f.params.map str),.list (f.locals.map str),.list (f.body.map encS)])] [cR b7 vars arrays fs sc (symA oa arrays) f.name,(b10,.cells 84 [str f.name,.list (f.params.map str),.list (f.locals.map str),.list (f.body.map encS)]),tR b8 vs m,(b2,.cells 34 [.list (vars.map str),.list (arrays.map Chk.encArG),.list (fs.map qav)])]:=⟨_,List.Perm.refl _⟩;refine cD (m:=11) rfl [cR b7 vars arrays fs sc (symA oa arrays) f.name,(b10,.cells 84 [str f.name,.list (f.params.map str),.list (f.locals.map str),.list (f.body.map encS)])] ?_;refine aT 1 rfl rfl (pG (cs':=[_,_,_,_,_,_]) rfl zm0 rfl rfl) ?_;refine aT 2 rfl rfl (pF rfl) ?_;refine aT 3 rfl rfl (pL (c:=.list _) rfl zm1 rfl) ?_;refine aT 4 rfl rfl (pM (lv:=.atom _) rfl) ?_;refine aT 5 rfl rfl (xR (el':=str p) (cs:=[str p]) rfl rfl zo (by rw[show (((i2+1:Nat):Int)-1).toNat=i2 by omega];exact hmp) rfl rfl) ?_;refine aT 6 rfl rfl (pO (c:=.atom _) rfl rfl) ?_;refine aL ?_ hsb;refine zl2 (i:=0) (j:=7) zk ?_ ?_
  ·refine zQ82 ?_;refine zl1 (i:=7) zk ?_;refine lS (H1:=[]) rfl (.inl rfl) rfl zpr hsb (sF [_,_] rfl hsc ?_);exact zT23
  ·refine lS (H1:=[]) rfl (.inl rfl) rfl zpr hsb (sF [_,_] rfl hsc ?_);refine zl2 (i:=0) (j:=8) zk ?_ ?_
   ·refine zQ82 ?_;exact zT23
   ·refine lS (H1:=[]) rfl (.inl rfl) rfl zpr hsb (sL [_,_] rfl (qaC [_,_]) rfl rfl rfl ?_);refine zl1 (i:=0) zk ?_;refine zQ82 ?_;refine zQ24 ?_;exact ⟨i2,_,_,Nat.lt_succ_self _,⟨i2,_,by omega,rfl,rfl,rfl,by rw[zAs];exact hV2⟩,⟨rfl,rfl,rfl,rfl,rfl,rfl,qaf zo,trivial⟩,zhP zp1 (zhP zp1 zhr),hj2⟩
 have hge:=zf hd;obtain rfl:kk=0:=by omega
 rw[List.take_zero,List.reverse_nil,show parW c []=[] from rfl] at hV2 hvt;rw[zLz] at hV2;have htn:tot ([]:List Wd)=0:=rfl;rw[htn] at hvt
 have hq3:=qd0 f.body hst vs m zo (fun w hw=>by
  rcases List.mem_append.1 hw with g|g
  ·exact hvs w g
  ·exact hsub w (.inr (.inr (.inr (.inl g))))) (by simp only[qaj];omega) zo
 have hq4:=qak (B0:=B0) (w0:=w0) (vs++(stWs c m f.body).1) [[48],[59]] (stWs c m f.body).2 (fun w hw=>by
  rcases List.mem_append.1 hw with g|g
  ·exact hvs w g
  ·exact hsub w (.inr (.inr (.inr (.inl g))))) (fun w hw=>hsub w (.inr (.inr (.inr (.inr hw))))) (by simp only[qaj];omega)
 simp only[eC,eT,zMc,List.map_nil] at hq3 hq4;refine gab ?_;refine oS (sF [_,_,_] rfl hq3 ?_) rfl;refine zQ22 ?_;refine oS (sF [_,_] rfl hq4 ?_) rfl;refine oS (sS (cs':=[_,_]) rfl zp2 rfl rfl rfl rfl rfl ?_) rfl;refine gaa ?_
 exact ⟨_,_,_,by omega,⟨i+1,vs++(stWs c m f.body).1++[[48],[59]],(stWs c m f.body).2,f.name,by omega,rfl,rfl,rfl,by
  rw[<-hU,hV2]
  simp only[zAs],by omega⟩,⟨rfl,rfl,rfl,rfl,qaf zo,trivial⟩,by
   first
    |exact zhP pH (zhP pH (zhP zp1 zhn))
    |exact zhP pH (zhP zp1 (zhP zp1 zhn)),hj2.trans hj⟩
end
end Go.Proofs.YthmhncflhnbedaaGreatDoor.R23
namespace Go.Proofs.YthmhncflhnbedaaGreatDoor.Cmp
open Go.GL Go.RowKit Go.Stele
theorem qkc:∀ (l prev:List (Int×Int)),goR prev l=true ↔ (∀ r∈l,qcj r=true)/\(∀ i (h:i<l.length),(∀ s∈prev,qeb l[i] s=false)/\∀ k (h2:k<i),qeb l[i] (l[k]'zo)=false)
 |[],prev=>by simp[goR]
 |r::rest,prev=>by
  rw[goR,zBa,zBa,qkc rest (prev++[r]),List.all_eq_true];constructor
  ·rintro ⟨⟨h1,h2⟩,h3,h4⟩;refine ⟨fun s hs=>?_,fun i hi=>?_⟩
   ·rcases zMi.1 hs with rfl|hs
    ·exact h1
    ·exact h3 s hs
   ·cases i with
    |zero=>exact ⟨fun s hs=>by simpa using h2 s hs,fun k hk=>by omega⟩
    |succ i=>
     obtain ⟨h5,h6⟩:=h4 i (by simpa using hi);refine ⟨fun s hs=>h5 s (List.mem_append_left _ hs),fun k hk=>?_⟩
     cases k with
     |zero=>exact h5 r (List.mem_append_right _ (List.mem_singleton.2 rfl))
     |succ k=>exact h6 k zo
  ·rintro ⟨h1,h2⟩;refine ⟨⟨h1 r zMs,fun s hs=>?_⟩,fun s hs=>h1 s (zMo _ hs),fun i hi=>⟨fun s hs=>?_,fun k hk=>?_⟩⟩
   ·have:=(h2 0 (by simp)).1 s hs;simpa using this
   ·rcases List.mem_append.1 hs with hs|hs
    ·exact (h2 (i+1) (by simpa using hi)).1 s hs
    ·rw[List.mem_singleton.1 hs];exact (h2 (i+1) (by simpa using hi)).2 0 zo
   ·exact (h2 (i+1) (by simpa using hi)).2 (k+1) zo
theorem qsI {l:List (Int×Int)} {i:Nat} (h:i<l.length) (hi:qcj l[i]=false):goR [] l=false:=by
 cases hg:goR [] l with
 |false=>rfl
 |true=>
  have:=((qkc l []).1 hg).1 _ (List.getElem_mem h);rw[hi] at this;cases this
theorem qrl {l:List (Int×Int)} {i k:Nat} (h:i<l.length) (hk:k<i) (hi:qeb l[i] (l[k]'zo)=true):goR [] l=false:=by
 cases hg:goR [] l with
 |false=>rfl
 |true=>
  have:=(((qkc l []).1 hg).2 i h).2 k hk;rw[hi] at this;cases this
attribute [local irreducible] LOps qae qag LCalls Go.GL.Pure qaA qaq qah LQ LAny qaF qap LS
section
variable {B0:Nat} {w0:World}
theorem rfits_spec (vars:List Nm) (arrays:List (Nm×Int)) (fs:List FnD) (o:Org) (hv6:vars.length<=2000000) (hf6:fs.length<=2000000) (hl:arrays.length<=2000000) (hsm:∀ f∈fs,SmF f) (hn:∀ f∈fs,f.name.length<=1000/\∀ x∈f.params++f.locals,x.length<=1000)
  (hp:∀ a∈arrays,0<a.2) (ht:(arrays.map (·.2)).sum<=150000) (hsc:(qat vars fs).length<=8000) (o1:I64 o.code) (o2:I64 o.scalars) (o3:I64 o.arrays) :
  LCalls (KC B0 w0) 37 [Chk.encPrG vars arrays fs,qcM o] [] (Ret (bool (qdI vars arrays fs o))):=by
 have hal:(arrays.map Chk.encArG).length=arrays.length:=zLm _;have hml:(arrays.map (·.2)).length=arrays.length:=zLm _
 have hps:∀ n∈arrays.map (·.2),0<n:=fun n hn=>by
  obtain ⟨a,ha,rfl⟩:=List.mem_map.1 hn;exact hp a ha
 have hscl:((qat vars fs).map str).length=(qat vars fs).length:=zLm _;have hS:=RC.rscalars_spec (B0:=B0) (w0:=w0) (vars:=vars) (fs:=fs) (.list (arrays.map Chk.encArG)) hv6 hf6 hsm hn;rw[qpx];unfold Chk.encPrG qcM;refine cI Tryz.func37 rfl (n:=126) rfl rfl rfl ?_;refine gag ?_;refine oS (sB rfl fun b2=>?_) rfl;refine oS (sB rfl fun b3=>?_) rfl;refine gaa ?_
 refine oL (fun kk ls H'=>∃ (i:Nat),i<=arrays.length/\kk=arrays.length-i/\ls=[(2,ptr b2 0),(3,ptr b3 0),(5,int .i64 (((arrays.map (·.2)).take i).sum)),(6,int .i64 (i:Nat))]/\H'=[(b3,.cells 23 [int .i64 o.code,int .i64 o.scalars,int .i64 o.arrays]),(b2,.cells 34 [.list (vars.map str),.list (arrays.map Chk.encArG),.list (fs.map qav)])])
  ⟨_,_,_,⟨0,Nat.zero_le _,rfl,rfl,rfl⟩,⟨rfl,rfl,rfl,rfl,trivial⟩,zhR _⟩ ?_
 rintro kk ls H' ⟨i,hi,rfl,rfl,rfl⟩ j hj;have hsum:=qbH (arrays.map (·.2)) i hps;refine gab ?_;refine oC rfl (fun hc=>?_) (fun hc=>?_)
 ·have hlt:i<arrays.length:=by have:=zt hc;omega
  have hpi:=hp _ (List.getElem_mem hlt);have hst:=qgo (l:=arrays.map (·.2)) (i:=i) zo;rw[List.getElem_map] at hst;have hsum2:=qbH (arrays.map (·.2)) (i+1) hps;generalize hsi:((arrays.map (·.2)).take i).sum=si at hsum hst;refine gab ?_;refine zQ89 ?_;refine gab ?_;exact ⟨_,_,_,by omega,⟨i+1,by omega,rfl,rfl,rfl⟩,⟨rfl,rfl,qaf (by rw[hst]),qaf zo,trivial⟩,zhR _,hj⟩
 have hi':i=arrays.length:=by have:=zf hc;omega
 subst hi';rw[<-hml,List.take_length] at hsum ⊢;generalize (arrays.map (·.2)).sum=total at hsum ht ⊢;generalize (qat vars fs).length=ns at hsc hscl ⊢;refine gad ?_;refine zQ50 ?_;refine aT 11 rfl rfl (pL (c:=.atom _) rfl zm0 rfl) ?_;refine aT 12 rfl rfl (pM (lv:=.atom _) rfl) ?_;refine zQ39 ?_;refine lD zk ?_;have e3:(3:Int)+(((qat vars fs).map str).length:Int)=3+(ns:Nat):=by rw[hscl]
 rw[e3];generalize hrs:[(o.scalars,(3:Int)+(ns:Nat)),(o.code,(40000:Int)),(o.arrays,total)]=rs;have hrl:([LV.agg [int .i64 o.scalars,int .i64 (3+(ns:Int))],.agg [int .i64 o.code,int .i64 40000],.agg [int .i64 o.arrays,int .i64 total]]:List LV)=rs.map qcl:=by rw[<-hrs];rfl
 rw[hrl];have hlr:rs.length=3:=by rw[<-hrs];rfl
 have hsz:∀ r∈rs,SmI r.2/\0<=r.2:=by
  rw[<-hrs];intro r hr;simp only[zMi,List.not_mem_nil,or_false] at hr;unfold SmI;rcases hr with rfl|rfl|rfl <;> simp only <;> omega
 have hrm:(rs.map qcl).length=rs.length:=zLm _;clear hrl hrs;refine qN ?_;refine cW zhn ?_;refine gaa ?_
 refine oL (fun kk ls H'=>∃ (i:Nat),i<=3/\kk=3-i/\ls=[(7,.list (rs.map qcl)),(8,int .i64 (i:Nat))]/\H'=[]/\∀ x (h:x<rs.length),x<i->qcj rs[x]=true)
  ⟨_,_,_,⟨0,Nat.zero_le _,rfl,rfl,rfl,fun x h hx=>by omega⟩,⟨rfl,rfl,trivial⟩,zhR _⟩ ?_
 rintro kk ls H' ⟨i,hi,rfl,rfl,rfl,hins⟩ j1 hj1;refine gaa ?_;refine oC rfl (fun hc=>?_) (fun hc=>?_)
 ·have hlt:i<rs.length:=by have:=zt hc;omega
  have hsi:=hsz _ (List.getElem_mem hlt);obtain ⟨⟨a,n⟩,hgr⟩:∃ r,r=rs[i]:=⟨_,rfl⟩;have hgi:=@qsI rs i hlt;rw[<-hgr] at hsi hgi;unfold SmI at hsi;simp only at hsi;have hI:qcj (a,n)=decide (0<=a/\a<=262144-n):=rfl;have hix:(rs.map qcl)[i]? = some (qcl (a,n)):=by rw[hgr];exact qa0 _ _ _ hlt
  refine gad ?_;refine cC [(7,.list (rs.map qcl)),(8,int .i64 i),(64,bool (!qcj (a,n)))] ?_ (fun j2 hj2=>?_)
  ·refine zQ85 ?_;refine zQ58 ?_;refine gao ?_;refine LQ.bcase 51 rfl (fun h1=>?_) (fun h1=>?_)
   ·have h1':=zt h1;refine gao ?_;exact ⟨⟨rfl,rfl,qai (by rw[hI,decide_eq_false zo];rfl),trivial⟩,rfl,rfl⟩
   ·have h1':=zf h1;refine zQ58 ?_;refine zQ58 ?_;refine gac ?_
    exact ⟨⟨rfl,rfl,qai (by
     rw[hI,<-decide_not,decide_eq_decide]
     omega),trivial⟩,rfl,rfl⟩
  refine oC rfl (fun h=>?_) (fun h=>?_)
  ·have h':qcj (a,n)=false:=by simpa using h
   refine gaz ?_;exact qac (hj2.trans (hj1.trans hj)) (zra rfl) (qai (hgi h').symm)
  ·have h':qcj (a,n)=true:=by simpa using h
   refine gaa ?_
   exact ⟨_,_,_,by omega,⟨i+1,by omega,rfl,rfl,rfl,fun x hx hx1=>by
    by_cases he:x=i
    ·subst he;rw[<-hgr];exact h'
    ·exact hins x hx zo⟩,⟨rfl,qaf zo,trivial⟩,zhR _,hj2.trans hj1⟩
 have hi3:i=3:=by have:=zf hc;omega
 subst hi3;have hin:∀ x (h:x<rs.length),qcj rs[x]=true:=fun x h=>hins x h zo;clear hins hc
 have inb:∀ r:Int×Int,SmI r.2/\0<=r.2->qcj r=true->0<=r.1/\r.1<=262144/\r.2<=262144:=fun r h1 h2=>by
  have:0<=r.1/\r.1<=262144-r.2:=zt h2;omega
 refine gaa ?_
 refine oL (fun kk ls H'=>∃ (i:Nat),i<=3/\kk=3-i/\ls=[(7,.list (rs.map qcl)),(9,int .i64 (i:Nat))]/\H'=[]/\∀ x (h:x<rs.length),x<i->∀ k (hk:k<x),qeb rs[x] (rs[k]'zo)=false)
  ⟨_,_,_,⟨0,Nat.zero_le _,rfl,rfl,rfl,fun x h hx=>by omega⟩,⟨rfl,rfl,trivial⟩,zhR _⟩ ?_
 rintro kk ls H' ⟨i,hi,rfl,rfl,rfl,hmt⟩ j2 hj2;refine gaa ?_;refine oC rfl (fun hc=>?_) (fun hc=>?_);rotate_left
 ·have hi3:i=3:=by have:=zf hc;omega
  subst hi3;refine gaa ?_
  exact qac (hj2.trans (hj1.trans hj)) (zra rfl) (qai ((qkc rs []).2 ⟨fun r hr=>by
   obtain ⟨x,hx,rfl⟩:=List.getElem_of_mem hr
   exact hin x hx,fun x hx=>⟨fun s hs=>(List.not_mem_nil hs).elim,fun k hk=>hmt x hx zo k hk⟩⟩).symm)
 have hlt:i<rs.length:=by have:=zt hc;omega
 have hsi:=inb _ (hsz _ (List.getElem_mem hlt)) (hin i hlt);have hsj:=(hsz _ (List.getElem_mem hlt)).2;obtain ⟨⟨a,n⟩,hgr⟩:∃ r,r=rs[i]:=⟨_,rfl⟩;have hix:(rs.map qcl)[i]? = some (qcl (a,n)):=by rw[hgr];exact qa0 _ _ _ hlt
 have hgm:=fun k hk=>@qrl rs i k hlt hk;rw[<-hgr] at hsi hsj hgm;simp only at hsi hsj;refine gaa ?_
 refine oL (fun kk ls H'=>∃ (y:Nat),y<=i/\kk=i-y/\ls=[(7,.list (rs.map qcl)),(9,int .i64 (i:Nat)),(10,int .i64 (y:Nat))]/\H'=[]/\∀ k (hk:k<rs.length),k<y->qeb (a,n) rs[k]=false)
  ⟨_,_,_,⟨0,Nat.zero_le _,rfl,rfl,rfl,fun x h hx=>by omega⟩,⟨rfl,rfl,rfl,trivial⟩,zhR _⟩ ?_
 rintro kk ls H' ⟨y,hy,rfl,rfl,rfl,hmy⟩ j3 hj3;refine gaa ?_;refine oC rfl (fun hc=>?_) (fun hc=>?_)
 ·have hly:y<i:=by have:=zt hc;omega
  have hlt2:y<rs.length:=by omega
  have hti:=inb _ (hsz _ (List.getElem_mem hlt2)) (hin y hlt2);have htj:=(hsz _ (List.getElem_mem hlt2)).2;have hgy:=hgm y hly;obtain ⟨⟨b,m⟩,hgs⟩:∃ r,r=rs[y]:=⟨_,rfl⟩;have hiy:(rs.map qcl)[y]? = some (qcl (b,m)):=by rw[hgs];exact qa0 _ _ _ hlt2
  rw[<-hgs] at hti htj hgy;simp only at hti htj;have hM:qeb (a,n) (b,m)=decide (0<n/\0<m/\a<b+m/\b<a+n):=rfl;refine gad ?_;refine cC [(7,.list (rs.map qcl)),(9,int .i64 i),(10,int .i64 y),(125,bool (qeb (a,n) (b,m)))] ?_ (fun j4 hj4=>?_)
  ·refine zQ85 ?_;refine zQ58 ?_;refine gac ?_;refine LQ.bcase 80 rfl (fun h1=>?_) (fun h1=>?_);rotate_left
   ·have h1':=zf h1;refine gao ?_;exact ⟨⟨rfl,rfl,rfl,qai (by rw[hM];symm;exact decide_eq_false zo),trivial⟩,rfl,rfl⟩
   have h1':=zt h1;refine zQ94 ?_;refine gac ?_;refine LQ.bcase 88 rfl (fun h2=>?_) (fun h2=>?_);rotate_left
   ·have h2':=zf h2;refine gao ?_;exact ⟨⟨rfl,rfl,rfl,qai (by rw[hM];symm;exact decide_eq_false zo),trivial⟩,rfl,rfl⟩
   have h2':=zt h2;refine zQ58 ?_;refine zQ94 ?_;refine zQ94 ?_;refine gao ?_;refine LQ.bcase 107 rfl (fun h3=>?_) (fun h3=>?_);rotate_left
   ·have h3':=zf h3;refine gao ?_;exact ⟨⟨rfl,rfl,rfl,qai (by rw[hM];symm;exact decide_eq_false zo),trivial⟩,rfl,rfl⟩
   have h3':=zt h3;refine zQ94 ?_;refine zQ58 ?_;refine zQ58 ?_;refine gao ?_;exact ⟨⟨rfl,rfl,rfl,qai (by rw[hM,decide_eq_decide];omega),trivial⟩,rfl,rfl⟩
  refine oC rfl (fun h=>?_) (fun h=>?_)
  ·refine gaz ?_;exact qac (hj4.trans (hj3.trans (hj2.trans (hj1.trans hj)))) (zra rfl) (qai (hgy h).symm)
  ·refine gaa ?_
   exact ⟨_,_,_,by omega,⟨y+1,by omega,rfl,rfl,rfl,fun k hk hk1=>by
    by_cases he:k=y
    ·subst he;rw[<-hgs];exact h
    ·exact hmy k hk zo⟩,⟨rfl,rfl,qaf zo,trivial⟩,zhR _,hj4.trans hj3⟩
 ·have hy':y=i:=by have:=zf hc;omega
  subst hy';refine gaa ?_
  exact ⟨_,_,_,by omega,⟨y+1,by omega,rfl,rfl,rfl,fun x hx hx1 k hk=>by
   by_cases he:x=y
   ·subst he;rw[<-hgr];exact hmy k zo hk
   ·exact hmt x hx zo k hk⟩,⟨rfl,qaf zo,trivial⟩,zhR _,hj3.trans hj2⟩
end
end Go.Proofs.YthmhncflhnbedaaGreatDoor.Cmp
