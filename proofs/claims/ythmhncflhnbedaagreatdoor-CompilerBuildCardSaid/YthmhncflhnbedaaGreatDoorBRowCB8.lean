/- Texts joined: ParS4, GlDefer, ParS5, ChkW11, Fmt3, Fmt4, GlBytes, PeepSpec, PeepWords, PeepOpt, PeepRef, PeepAsm, AsmSpec, PeepLib, AsmA. -/
import Derived.Recover
import Derived.Lib.Split
import Derived.Lib.Join
import Derived.Lib.Strings
import Derived.Lib.SlTrimSet
import Derived.Lib.SplitLaws
import Derived.Shelf.Strings.SlTrimAscii
import Derived.Test.YthmhncflhnbedaaGreatDoorBRowCB2
import Derived.Test.YthmhncflhnbedaaGreatDoorBRowCB3
import Derived.Test.YthmhncflhnbedaaGreatDoorBRowCB4
import Derived.Test.YthmhncflhnbedaaGreatDoorBRowCB5
import Derived.Test.YthmhncflhnbedaaGreatDoorBRowCB6
import Derived.Test.YthmhncflhnbedaaGreatDoorBRowCB7
set_option linter.unusedVariables false
set_option linter.unusedSimpArgs false
set_option maxRecDepth 100000
set_option maxHeartbeats 4000000
namespace Go.Proofs.YthmhncflhnbedaaGreatDoor
open Go.GL Go.RowKit Go.Stele
theorem qqB {a b c:Nat×LObj} {X Y Z:Heap}:(a::b::c::(X++(Y++Z))).Perm (X++(a::b::c::(Y++Z))):=List.perm_append_comm_assoc [a,b,c] X (Y++Z)
theorem qqF {a b c:Nat×LObj} {X Y Z:Heap}:(a::b::c::(X++(Y++Z))).Perm (Y++(a::b::c::(X++Z))):=
 (((List.perm_append_comm_assoc X Y Z).cons c).cons b |>.cons a).trans (List.perm_append_comm_assoc [a,b,c] Y (X++Z))
theorem qn7 {a b c:Nat×LObj} {X Y Z:Heap}:(a::b::c::(X++(Y++Z))).Perm (Z++(a::b::c::(X++Y))):=
 ((((show (X++(Y++Z)).Perm (Z++(X++Y)) from by rw[<-zAs];exact zPc).cons c).cons b).cons a).trans (List.perm_append_comm_assoc [a,b,c] Z (X++Y))
theorem qsW {a b c:Nat×LObj} {X Y Z:Heap}:HSub (a::b::c::(X++(Y++Z))) (b::a::c::((Y++Z)++X)):=
 ⟨[],by rw[zLz];exact (List.Perm.swap _ _ _).trans ((((zPc).cons c).cons b).cons a)⟩
theorem qqz {a b c:Nat×LObj} {X Y Z:Heap}:HSub (a::b::c::(X++(Y++Z))) (b::a::c::((X++Z)++Y)):=
 ⟨[],by rw[zLz];exact (List.Perm.swap _ _ _).trans ((((show ((X++Z)++Y).Perm (X++(Y++Z)) from by rw[zAs];exact zPc.append_left X).cons c).cons b).cons a)⟩
theorem qnV {a b c:Nat×LObj} {X Y Z:Heap}:HSub (a::b::c::(X++(Y++Z))) (b::a::c::((X++Y)++Z)):=
 ⟨[],by rw[zLz,zAs];exact List.Perm.swap _ _ _⟩
theorem Acc.cell {s:Nat} {v:LV} {es:List LV} {H F:Heap} (h:Acc s v es H F):v.cells? = some [v]/\[v].all qd6=true:=by
 cases h <;> exact ⟨rfl,rfl⟩
attribute [local irreducible] LOps qae qag LCalls Go.GL.Pure qaA qaq qah LQ LAny qaF qap
section
variable {B0:Nat} {w0:World}
theorem qdw (hG:GW B0 w0) (sb:Nat) (T:List Tok) (hT:TOK T) (f:Nat) (r:Res Pr) (hr:qc2 T f ⟨[],[],[]⟩ 0 0=some r) :
  LCalls (KC B0 w0) 16 [ptr sb 0] [srcH sb T 0 0] (qdy sb T qgL r):=by
 have hl:=hT.len;have hml:(T.map qbJ).length=T.length:=zLm _;refine cI Tryz.func16 rfl (n:=47) rfl rfl rfl ?_;refine gag ?_;refine oS (sA fun b2=>?_) rfl;refine gai ?_;refine oS (sA fun b3=>?_) rfl;refine gad ?_
 refine oL (fun k ls H=>∃ (p:Pr) (v1 v2 v3:LV) (i2:Nat) (H1 H2 H3:Heap),k<=f/\ls=[(0,ptr sb 0),(2,ptr b2 0),(3,ptr b3 0)]/\H=srcH sb T i2 0::(b3,.cells 34 [v1,v2,v3])::(b2,.cells 34 [qaa,qaa,qaa])::(H1++(H2++H3)) /\
   Acc 1 v1 (p.vars.map str) H1 []/\Acc 2 v2 (p.arrays.map qkM) H2 []/\Acc 4 v3 (p.funcs.map qav) H3 []/\i2<=T.length/\p.vars.length<=i2/\p.arrays.length<=i2/\p.funcs.length<=i2/\qc2 T k p i2 0=some r)
  ⟨f,_,_,⟨⟨[],[],[]⟩,qaa,qaa,qaa,0,[],[],[],zNr _,rfl,rfl,Acc.nil,Acc.nil,Acc.nil,Nat.zero_le _,Nat.zero_le _,Nat.zero_le _,Nat.zero_le _,hr⟩,⟨rfl,rfl,rfl,trivial⟩,zhP zp2 zhr⟩ ?_
 rintro k ls H ⟨p,v1,v2,v3,i2,H1,H2,H3,hkf,rfl,rfl,ha1,ha2,ha3,hi2,hl1,hl2,hl3,hI⟩ j hj
 obtain ⟨k,rfl⟩:∃ k',k=k'+1:=by
  cases k with
  |zero=>rw[qc2] at hI;cases hI
  |succ k=>exact ⟨k,rfl⟩
 rw[qc2] at hI;refine ga1 ?_;refine cC [(0,ptr sb 0),(2,ptr b2 0),(3,ptr b3 0),(13,bool (decide (i2<T.length)))] ?_ (fun j2 hj2=>?_)
 ·refine zQ85 ?_;refine gao ?_;exact ⟨⟨rfl,rfl,rfl,qai (by rw[decide_eq_decide];simp),trivial⟩,rfl,rfl⟩
 ·skip
  refine oC rfl (fun hc=>?_) (fun hc=>?_)
  ·have hlt:i2<T.length:=zt hc;rw[if_neg zo] at hI;refine gaa ?_;refine zQ15 ?_;refine oS (sH [_,_] rfl pH (qc7 sb T i2 0 [qhH] hl zo (by simp)) ?_) rfl;refine ga2 ?_;refine oC rfl (fun hv=>?_) (fun hv=>?_)
   ·rw[if_pos hv] at hI;obtain ⟨r2,hr2⟩:=qaU hI;refine cD (m:=7) rfl [] ?_;refine zQ47 ?_;refine zl2 (i:=1) (j:=3) zk ?_ ?_
    ·refine lH rfl rfl (pL (c:=v1) rfl zm1 rfl) ?_;refine lO 3 (lW rfl (.inl rfl) rfl (sP [_] rfl pH (qjj sb T hT k i2 0 r2 hi2 hr2) (fun l i3 op3 h3=>?_) (fun l er i3 op3 h3 e' he'=>?_)))
     ·obtain ⟨g1,g2,g3,rfl⟩:=qco T k _ _ _ _ (hr2.trans (congrArg some h3));have g4:=g3 hi2;have g5:=g2 hv;have g6:=qkm T _ _ _ _ _ _ _ (hr2.trans (congrArg some h3));rw[hr2,h3,qau] at hI;rw[zLn] at g6;refine lO 4 (lW rfl (.inl rfl) rfl (sG qqB rfl ha1 rfl (qa6 l) (qbt l) (by simp;omega) fun v' H' ha'=>?_));refine zQ55 ?_;refine gad ?_;exact ⟨k,_,_,by omega,⟨{ p with vars:=p.vars++l },v',v2,v3,i3,H',H2,H3,by omega,rfl,rfl,by rw[zMa];exact ha',ha2,ha3,g4,by rw[zLa];omega,zNt hl2 zo,zNt hl3 zo,hI⟩,⟨rfl,rfl,rfl,trivial⟩,qsW,hj2.trans hj⟩
     ·exact zT11
    ·refine lW rfl (.inl rfl) rfl (sP [_] rfl pH (qjj sb T hT k i2 0 r2 hi2 hr2) (fun l i3 op3 h3=>?_) (fun l er i3 op3 h3 e' he'=>?_))
     ·refine lO 1 (lH rfl rfl (pL (c:=v1) rfl zm1 rfl) ?_);obtain ⟨g1,g2,g3,rfl⟩:=qco T k _ _ _ _ (hr2.trans (congrArg some h3));have g4:=g3 hi2;have g5:=g2 hv;have g6:=qkm T _ _ _ _ _ _ _ (hr2.trans (congrArg some h3));rw[hr2,h3,qau] at hI;rw[zLn] at g6;refine lO 4 (lW rfl (.inl rfl) rfl (sG qqB rfl ha1 rfl (qa6 l) (qbt l) (by simp;omega) fun v' H' ha'=>?_));refine zQ55 ?_;refine gad ?_;exact ⟨k,_,_,by omega,⟨{ p with vars:=p.vars++l },v',v2,v3,i3,H',H2,H3,by omega,rfl,rfl,by rw[zMa];exact ha',ha2,ha3,g4,by rw[zLa];omega,zNt hl2 zo,zNt hl3 zo,hI⟩,⟨rfl,rfl,rfl,trivial⟩,qsW,hj2.trans hj⟩
     ·exact zT11
   ·rw[if_neg (by rw[hv];decide)] at hI;refine gaf ?_;refine oS (sH [_,_] rfl pH (qcE sb T i2 0 qkR hl zo) ?_) rfl;refine ga2 ?_;refine oC rfl (fun hw=>?_) (fun hw=>?_)
    ·have hlt2:=qaG hw;rw[if_pos hw] at hI;simp only[hw,if_true];obtain ⟨r2,hr2⟩:=qaU hI;refine cD (m:=8) rfl [] ?_;refine zQ47 ?_;refine zl2 (i:=1) (j:=3) zk ?_ ?_
     ·refine lH rfl rfl (pL (c:=v2) rfl zm1 rfl) ?_;refine lO 3 (lW rfl (.inl rfl) rfl (sP [_] rfl pH (qem hG sb T hT (i2+1) 0 r2 zo zo hr2) (fun l i3 op3 h3=>?_) (fun l er i3 op3 h3 e' he'=>?_)))
      ·obtain ⟨g1,g2,g3,rfl⟩:=qdW T _ _ _ (hr2.trans (congrArg some h3));have g4:=g3 zo;rw[hr2,h3,qau] at hI;refine zQ70 ?_;refine lO 5 (lW rfl (.inl rfl) rfl (sG qqF rfl ha2 rfl (by simp;rfl) rfl (by simp;omega) fun v' H' ha'=>?_));refine zQ69 ?_;exact ⟨k,_,_,by omega,⟨{ p with arrays:=p.arrays++[l] },v1,v',v3,i3,H1,H',H3,by omega,rfl,rfl,ha1,by rw[zMa];exact ha',ha3,g4,zNt hl1 zo,by rw[zLa,List.length_singleton];omega,zNt hl3 zo,hI⟩,⟨rfl,rfl,rfl,trivial⟩,qqz,hj2.trans hj⟩
      ·exact zT11
     ·refine lW rfl (.inl rfl) rfl (sP [_] rfl pH (qem hG sb T hT (i2+1) 0 r2 zo zo hr2) (fun l i3 op3 h3=>?_) (fun l er i3 op3 h3 e' he'=>?_))
      ·refine zl2 (i:=1) (j:=4) zk ?_ ?_
       ·refine lH rfl rfl (pL (c:=v2) rfl zm1 rfl) ?_;obtain ⟨g1,g2,g3,rfl⟩:=qdW T _ _ _ (hr2.trans (congrArg some h3));have g4:=g3 zo;rw[hr2,h3,qau] at hI;refine zQ70 ?_;refine lO 5 (lW rfl (.inl rfl) rfl (sG qqF rfl ha2 rfl (by simp;rfl) rfl (by simp;omega) fun v' H' ha'=>?_));refine zQ69 ?_;exact ⟨k,_,_,by omega,⟨{ p with arrays:=p.arrays++[l] },v1,v',v3,i3,H1,H',H3,by omega,rfl,rfl,ha1,by rw[zMa];exact ha',ha3,g4,zNt hl1 zo,by rw[zLa,List.length_singleton];omega,zNt hl3 zo,hI⟩,⟨rfl,rfl,rfl,trivial⟩,qqz,hj2.trans hj⟩
       ·obtain ⟨g1,g2,g3,rfl⟩:=qdW T _ _ _ (hr2.trans (congrArg some h3));have g4:=g3 zo;rw[hr2,h3,qau] at hI;refine lW rfl (.inl rfl) rfl (sL [_] rfl (zeC rfl rfl eN) rfl rfl rfl ?_);refine lO 1 (lH rfl rfl (pL (c:=v2) rfl zm1 rfl) ?_);refine lO 5 (lW rfl (.inl rfl) rfl (sG qqF rfl ha2 rfl (by simp;rfl) rfl (by simp;omega) fun v' H' ha'=>?_));refine zQ69 ?_;exact ⟨k,_,_,by omega,⟨{ p with arrays:=p.arrays++[l] },v1,v',v3,i3,H1,H',H3,by omega,rfl,rfl,ha1,by rw[zMa];exact ha',ha3,g4,zNt hl1 zo,by rw[zLa,List.length_singleton];omega,zNt hl3 zo,hI⟩,⟨rfl,rfl,rfl,trivial⟩,qqz,hj2.trans hj⟩
      ·exact zT11
    ·rw[if_neg (by rw[hw];decide)] at hI;simp only[hw,Bool.false_eq_true,if_false];refine gaf ?_;refine oS (sH [_,_] rfl pH (qcE sb T i2 0 qng hl zo) ?_) rfl;refine ga2 ?_;refine oC rfl (fun hu=>?_) (fun hu=>?_)
     ·have hlt2:=qaG hu;rw[if_pos hu] at hI;simp only[hu,if_true];obtain ⟨r2,hr2⟩:=qaU hI;refine cD (m:=8) rfl [] ?_;refine zQ47 ?_;refine zl2 (i:=1) (j:=3) zk ?_ ?_
      ·refine lH rfl rfl (pL (c:=v3) rfl zm1 rfl) ?_;refine lO 3 (lW rfl (.inl rfl) rfl (sP [_] rfl pH (qkW hG sb T hT k (i2+1) 0 r2 zo zo hr2) (fun l i3 op3 h3=>?_) (fun l er i3 op3 h3 e' he'=>?_)))
       ·obtain ⟨g1,g2,g3,rfl⟩:=qcT T k _ _ _ (hr2.trans (congrArg some h3));have g4:=g3 zo;rw[hr2,h3,qau] at hI;refine zQ70 ?_;refine lO 5 (lW rfl (.inl rfl) rfl (sG qn7 rfl ha3 rfl (by simp;rfl) rfl (by simp;omega) fun v' H' ha'=>?_));refine zQ29 ?_;exact ⟨k,_,_,by omega,⟨{ p with funcs:=p.funcs++[l] },v1,v2,v',i3,H1,H2,H',by omega,rfl,rfl,ha1,ha2,by rw[zMa];exact ha',g4,zNt hl1 zo,zNt hl2 zo,by rw[zLa,List.length_singleton];omega,hI⟩,⟨rfl,rfl,rfl,trivial⟩,qnV,hj2.trans hj⟩
       ·exact zT11
      ·refine lW rfl (.inl rfl) rfl (sP [_] rfl pH (qkW hG sb T hT k (i2+1) 0 r2 zo zo hr2) (fun l i3 op3 h3=>?_) (fun l er i3 op3 h3 e' he'=>?_))
       ·refine zl2 (i:=1) (j:=4) zk ?_ ?_
        ·refine lH rfl rfl (pL (c:=v3) rfl zm1 rfl) ?_;obtain ⟨g1,g2,g3,rfl⟩:=qcT T k _ _ _ (hr2.trans (congrArg some h3));have g4:=g3 zo;rw[hr2,h3,qau] at hI;refine zQ70 ?_;refine lO 5 (lW rfl (.inl rfl) rfl (sG qn7 rfl ha3 rfl (by simp;rfl) rfl (by simp;omega) fun v' H' ha'=>?_));refine zQ29 ?_;exact ⟨k,_,_,by omega,⟨{ p with funcs:=p.funcs++[l] },v1,v2,v',i3,H1,H2,H',by omega,rfl,rfl,ha1,ha2,by rw[zMa];exact ha',g4,zNt hl1 zo,zNt hl2 zo,by rw[zLa,List.length_singleton];omega,hI⟩,⟨rfl,rfl,rfl,trivial⟩,qnV,hj2.trans hj⟩
        ·obtain ⟨g1,g2,g3,rfl⟩:=qcT T k _ _ _ (hr2.trans (congrArg some h3));have g4:=g3 zo;rw[hr2,h3,qau] at hI;refine lW rfl (.inl rfl) rfl (sL [_] rfl (zeC rfl rfl eN) rfl rfl rfl ?_);refine lO 1 (lH rfl rfl (pL (c:=v3) rfl zm1 rfl) ?_);refine lO 5 (lW rfl (.inl rfl) rfl (sG qn7 rfl ha3 rfl (by simp;rfl) rfl (by simp;omega) fun v' H' ha'=>?_));refine zQ29 ?_;exact ⟨k,_,_,by omega,⟨{ p with funcs:=p.funcs++[l] },v1,v2,v',i3,H1,H2,H',by omega,rfl,rfl,ha1,ha2,by rw[zMa];exact ha',g4,zNt hl1 zo,zNt hl2 zo,by rw[zLa,List.length_singleton];omega,hI⟩,⟨rfl,rfl,rfl,trivial⟩,qnV,hj2.trans hj⟩
       ·exact zT11
     ·rw[if_neg (by rw[hu];decide)] at hI;simp only[hu,Bool.false_eq_true,if_false];refine gaf ?_;refine oS (sP [_,_] rfl pH (qfe qgL sb T i2 0 3 hl zo) (fun _ _ _ h=>by cases h) (fun l er i' op' h e' he'=>?_)) rfl;cases h;refine gah ?_;exact panP (he'.trans (hj2.trans hj)) (by cases hI;rfl) zhp
  ·have hge:T.length<=i2:=by have:=zf hc;omega
   rw[if_pos hge] at hI;refine qae.cellSub zp1 (cs':=[.list (p.vars.map str),.list (p.arrays.map qkM),.list (p.funcs.map qav)]) ⟨ha1.sub,ha2.sub,ha3.sub,trivial⟩ ?_;refine gab ?_;exact retP (v:=p) (hj2.trans hj) (rC (rA (k:=3) rfl zm0 rfl zsr) rN) (by cases hI;rfl) rfl (zhP zp2 zhn)
end
end Go.Proofs.YthmhncflhnbedaaGreatDoor
namespace Go.GL
open Go.RowKit
def qbX (C:Ctx) (f:FuncId) (args:List LV) (u:FrameMode) (H:Heap) (R:FrameMode->Heap->Prop):Prop:=
 ∀ (vs:List Value) w L,RepL w L args vs->RelH C w L H->CallsD C.P f vs.toArray u w fun e u' w'=>(∃ v,e=.returned v)/\qeP C w L H w' (R u')
def qie (C:Ctx) (n:Nat) (rs:List ResultVar) (R:LRes->Heap->Prop):List Deferred->FrameMode->Env->Heap->Prop
 |[],.returning,e,H=>∃ vs H',qbF C n e H rs vs/\HSub H' H/\R (.ret (qbv vs)) H'
 |[],.panicking ch,_,H=>∃ H',HSub H' H/\R (.panic ch) H'
 |[],.run,_,_=>False
 |d::ds,u,e,H=>u≠.run/\∃ f cap H1 F,d={ target:=.fn (.func f) cap,args:=#[] }/\TEnter C.P f/\H.Perm (H1++F) /\
   qbX C f (cap.toList.map .atom) u H1 fun u' H'=>qie C n rs R ds (settle u') e (H'++F)
def qnW (C:Ctx) (n:Nat) (w:World) (L:Live) (K:List Nat) (Q:Post):Exit->Act->World->Prop:=
 fun x a' w'=>∃ e' H' L',Fr K w L w' L' H'/\RelH C w' L' H'/\RelE n a' e' w' L'/\Q x e' H'
theorem qik {C:Ctx} {n:Nat} {w w1:World} {L L1:Live} {K:List Nat} {H1:Heap} {Q:Post} (f:Fr K w L w1 L1 H1) {x:Exit} {a:Act} {w':World}
  (k:qnW C n w1 L1 (keys H1) Q x a w'):qnW C n w L K Q x a w':=
 let ⟨e',H',L',h1,h2,h3,h4⟩:=k
 ⟨e',H',L',f.trans h1,h2,h3,h4⟩
def qcy (C:Ctx) (n:Nat) (ops:Array Oper) (Q:Post) (rest:List Oper) (e:Env) (H:Heap):Prop:=
 ∀ a w L,RelE n a e w L->RelH C w L H->wpList C.P ops (qnW C n w L (keys H) Q) rest a w
def qbf (C:Ctx) (n:Nat) (c:Code) (Q:Post) (e:Env) (H:Heap):Prop:=
 ∀ a w L,RelE n a e w L->RelH C w L H->c.wp C.P (qnW C n w L (keys H) Q) a w
section P
variable {C:Ctx} {n:Nat} {ops:Array Oper} {Q:Post} {e:Env} {H:Heap}
theorem qcy.nil (h:Q .normal e H):qcy C n ops Q [] e H:=fun _ _ L hE hH=>⟨e,H,L,Fr.refl _ _ _,hH,hE,h⟩
theorem qcy.step {dst:Option Nat} {op:Op} {ty:TypeId} {pos:String} {aft:Array Edge} {rest:List Oper}
  (h:qag C ⟨dst,op,ty,pos,aft,none⟩ e H (fun lv H'=>qcy C n ops Q rest (e.put dst lv) H') (fun ch H'=>Q (.panic ch) e H'))
  (hd:qdg n dst):qcy C n ops Q (⟨dst,op,ty,pos,aft,none⟩::rest) e H:=fun a w L hE hH=>by
 unfold wpList;rw[if_pos (by simp[Region.wanted])];have hs:=h a.eval w L hE.ev hH;refine .inl ?_;unfold Oper.wp
 have left:∀ {w' v},Left C w L H w' v (fun lv H'=>qcy C n ops Q rest (e.put dst lv) H')->wpList C.P ops (qnW C n w L (keys H) Q) rest (a.put dst v) w':=fun h=>by
  obtain ⟨lv,H',L',h1,h2,h3,h4⟩:=h;exact qbx (fun _ _ _=>qik h1) _ _ _ (h4 _ _ L' ((hE.mono h1.ext).put hd h3) h2)
 have leftX:∀ {w' ch},qeP C w L H w' (fun H'=>Q (.panic ch) e H')->qnW C n w L (keys H) Q (.panic ch) a w':=fun h=>by
  obtain ⟨H',L',h1,h2,h3⟩:=h;exact ⟨e,H',L',h1,h2,hE.mono h1.ext,h3⟩
 generalize (execOp a.eval ⟨dst,op,ty,pos,aft,none⟩).run C.P w=r at hs ⊢;unfold qeC at hs;split at hs
 ·exact left hs
 ·exact left hs
 ·obtain ⟨rfl,hs⟩:=hs;refine Calls.mono hs fun e w' he=>?_
  cases e with
  |returned v=>exact left he
  |panicked ch=>exact leftX he
  |outgrown=>exact he.elim
 ·exact leftX hs
 ·exact hs.elim
theorem qcy.pure {dst:Option Nat} {op:Op} {ty:TypeId} {pos:String} {aft:Array Edge} {rest:List Oper} {lv:LV}
  (h:Pure C ⟨dst,op,ty,pos,aft,none⟩ e H lv) (hd:qdg n dst) (k:qcy C n ops Q rest (e.put dst lv) H):qcy C n ops Q (⟨dst,op,ty,pos,aft,none⟩::rest) e H:=
 qcy.step (h.step k) hd
theorem qbf.region {id:Nat} {l:List Oper} (h:qcy C n l.toArray Q l e H):qbf C n (.region id l.toArray false) Q e H:=fun a w L hE hH=>wp_region_lit (h a w L hE hH)
theorem qbf.ret (h:Q .ret e H):qbf C n .ret Q e H:=fun _ _ L hE hH=>wp_ret ⟨e,H,L,Fr.refl _ _ _,hH,hE,h⟩
theorem qbf.seq {x y:Code} (h:qbf C n x (qaA (fun e H=>qbf C n y Q e H) Q) e H):qbf C n (.seq x y) Q e H:=fun a w L hE hH=>by
 refine wp_seq (Go.wp_mono (h a w L hE hH) fun ex a' w' hq=>?_);obtain ⟨e',H',L',h1,h2,h3,h4⟩:=hq
 cases ex with
 |normal=>exact Go.wp_mono (h4 a' w' L' h3 h2) fun _ _ _=>qik h1
 |exit id=>exact ⟨e',H',L',h1,h2,h3,h4⟩
 |goto id=>exact ⟨e',H',L',h1,h2,h3,h4⟩
 |ret=>exact ⟨e',H',L',h1,h2,h3,h4⟩
 |panic ch=>exact ⟨e',H',L',h1,h2,h3,h4⟩
 |outgrown=>exact ⟨e',H',L',h1,h2,h3,h4⟩
def QNo (Q:Post):Post
 |.panic _,_,_=>False
 |x,e,H=>Q x e H
theorem qbf.of {c:Code} (h:qae C n c (QNo Q) e H):qbf C n c Q e H:=fun a w L hE hH=>by
 refine Go.wp_mono (h a w L hE hH) fun ex a' w' hq=>?_;obtain ⟨e',H',L',h1,h2,h3,h4⟩:=hq
 cases ex with
 |panic ch=>exact h4.elim
 |normal=>exact ⟨e',H',L',h1,h2,h3,h4⟩
 |exit id=>exact ⟨e',H',L',h1,h2,h3,h4⟩
 |goto id=>exact ⟨e',H',L',h1,h2,h3,h4⟩
 |ret=>exact ⟨e',H',L',h1,h2,h3,h4⟩
 |outgrown=>exact ⟨e',H',L',h1,h2,h3,h4⟩
end P
def qda (C:Ctx) (n:Nat) (rs:List ResultVar) (R:LRes->Heap->Prop):Post
 |.normal,e,H|.ret,e,H=>qie C n rs R e.ds .returning e H
 |.panic ch,e,H=>qie C n rs R e.ds (.panicking ch) e H
 |_,_,_=>False
theorem qqa {C:Ctx} {n:Nat} {fn:Func} {R:LRes->Heap->Prop} {w0:World} {L0:Live} {H0:Heap} (h3:fn.results.size<=3) (tmps:Array Value):∀ (ds:List Deferred) (u:FrameMode) (e:Env) (H:Heap) (w:World) (L:Live),tmps.size=n->(∀ i,Rep w L (e.s i) (tmps.getD i undef))->RelH C w L H->Fr (keys H0) w0 L0 w L H ->
  qie C n fn.results.toList R ds u e H->Leaves C.P fn tmps (qcH C w0 L0 H0 (fun v=>R (.ret v)) (fun ch=>R (.panic ch))) ds u w
 |[],.returning,e,H,w,L,hn,hv,hH,hF,h=>by
  obtain ⟨vs,H',h1,h2,h5⟩:=h;obtain ⟨v,r1,r2⟩:=qhf (a:={ tmps,defers:=e.ds }) ⟨hn,rfl,hv⟩ hH h1 h3
  exact ⟨v,r1,qbv vs,H',L,hF.weak h2,hH.weak h2,r2,h5⟩
 |[],.panicking ch,e,H,w,L,hn,hv,hH,hF,h=>by
  obtain ⟨H',h2,h5⟩:=h
  exact ⟨H',L,hF.weak h2,hH.weak h2,h5⟩
 |[],.run,e,H,w,L,hn,hv,hH,hF,h=>h.elim
 |d::ds,u,e,H,w,L,hn,hv,hH,hF,h=>by
  obtain ⟨hu,f,cap,H1,F,rfl,hen,hp,hc⟩:=h;refine ⟨hu,.func f,cap,f,cap,rfl,by simp[invoke,qfn],?_⟩;have hH':=hH.perm hp;have:=hc cap.toList w L (qbh _) hH'.left;simp only[Array.toArray_toList] at this;refine CallsD.mono this ?_;rintro ex u' w' ⟨⟨v,rfl⟩,hx⟩;obtain ⟨H',L',g1,g2,g3⟩:=qeP.frame hH' hx;exact qqa h3 tmps ds (settle u') e H' w' L' hn (fun i=>(hv i).mono g1.ext _ _) g2 (hF.trans (g1.perm hp.symm)) g3
theorem qbX.mono {C:Ctx} {f:FuncId} {args:List LV} {u:FrameMode} {H:Heap} {R R':FrameMode->Heap->Prop} (h:qbX C f args u H R) (hr:∀ u H,R u H->R' u H):qbX C f args u H R':=fun vs w L h1 h2=>
 CallsD.mono (h vs w L h1 h2) fun _ _ _ ⟨h3,h4⟩=>⟨h3,h4.mono (hr _)⟩
theorem LCalls.introD {C:Ctx} {f:FuncId} {fn:Func} {c:Code} {n:Nat} {args:List LV} {H:Heap} {R:LRes->Heap->Prop} (hf:C.P.funcs[f]? = some fn) (hb:fn.body=some c) (hn:fn.ntmps=n) (h3:Nat.ble fn.results.size 3=true)
  (hl:Nat.ble args.length n=true) (h:qbf C n c (qda C n fn.results.toList R) (qfl args) H):LCalls C f args H R:=fun vs w L hv hH=>by
 subst hn;have hl':args.length<=fn.ntmps:=by simpa using hl
 have h3':fn.results.size<=3:=by simpa using h3
 have hlen:=hv.length;refine calls_of_wp_defers hf hb (Go.wp_mono (h _ w L ⟨?_,rfl,fun i=>?_⟩ hH) fun ex a' w' hq=>?_)
 ·simp;omega
 ·exact zT0
 ·obtain ⟨e',H',L',g1,g2,g3,g4⟩:=hq
  have ret:∀ u,qie C fn.ntmps fn.results.toList R e'.ds u e' H'->Leaves C.P fn a'.tmps (qcH C w L H (fun v=>R (.ret v)) (fun ch=>R (.panic ch))) a'.defers u w':=fun u hu=>by
   rw[g3.ds];exact qqa h3' a'.tmps _ u e' H' w' L' g3.size g3.vals g2 g1 hu
  cases ex with
  |normal=>exact ret _ g4
  |ret=>exact ret _ g4
  |panic ch=>exact ret _ g4
  |exit id=>exact g4.elim
  |goto id=>exact g4.elim
  |outgrown=>exact g4.elim
abbrev qlz:=Exit->FrameMode->Env->Heap->Prop
def qcd (C:Ctx) (n:Nat) (c:Code) (Q:qlz) (u:FrameMode) (e:Env) (H:Heap):Prop:=
 ∀ a w L (c0:Frame) cs,c0.mode=u->RelE n a e w L->RelH C w L H ->
  c.wpS C.P (fun x a' cs' w'=>∃ u' e' H' L',cs'={ c0 with mode:=u' }::cs/\Fr (keys H) w L w' L' H'/\RelH C w' L' H'/\RelX n x a' e' w' L'/\Q x u' e' H') a (c0::cs) w
theorem qkt {P:Program} {c:Code} {Q Q':Exit->Act->List Frame->World->Prop} {a:Act} {cs:List Frame} {w:World} (h:c.wpS P Q a cs w) (hq:∀ x a cs w,Q x a cs w->Q' x a cs w):c.wpS P Q' a cs w:=fun b k h1 h2=>
 let ⟨e,a',cs',w',q,r⟩:=h b k h1 h2
 ⟨e,a',cs',w',hq _ _ _ _ q,r⟩
section S
variable {C:Ctx} {n:Nat} {Q:qlz} {u:FrameMode} {e:Env} {H:Heap}
theorem qcd.of {c:Code} (h:qae C n c (fun x e H=>Q x u e H) e H):qcd C n c Q u e H:=fun a w L c0 cs hu hE hH=>by
 refine wpS_of_wp (Go.wp_mono (h a w L hE hH) fun x a' w' hq=>?_);obtain ⟨e',H',L',h1,h2,h3,h4⟩:=hq;exact ⟨u,e',H',L',by subst hu;rfl,h1,h2,h3,h4⟩
theorem qcd.seq {x y:Code} (h:qcd C n x (fun ex u' e' H'=>match ex with|.normal=>qcd C n y Q u' e' H'|ex=>Q ex u' e' H') u e H):qcd C n (.seq x y) Q u e H:=fun a w L c0 cs hu hE hH=>by
 refine wpS_seq (qkt (h a w L c0 cs hu hE hH) fun ex a' cs' w' hq=>?_);obtain ⟨u',e',H',L',rfl,h1,h2,h3,h4⟩:=hq
 cases ex with
 |normal=>
  refine qkt (h4 a' w' L' { c0 with mode:=u' } cs rfl h3 h2) ?_;rintro ex a2 cs2 w2 ⟨u2,e2,H2,L2,rfl,g1,g2,g3,g4⟩
  exact ⟨u2,e2,H2,L2,rfl,h1.trans g1,g2,g3,g4⟩
 |exit id=>exact ⟨u',e',H',L',rfl,h1,h2,h3,h4⟩
 |goto id=>exact ⟨u',e',H',L',rfl,h1,h2,h3,h4⟩
 |ret=>exact ⟨u',e',H',L',rfl,h1,h2,h3,h4⟩
 |panic ch=>exact ⟨u',e',H',L',rfl,h1,h2,h3,h4⟩
 |outgrown=>exact ⟨u',e',H',L',rfl,h1,h2,h3,h4⟩
def qha:FrameMode->Value×FrameMode
 |.panicking ({ v,recovered:=false,goexit:=false }::older)=>(v,.panicking ({ v,recovered:=true }::older))
 |u=>(.nilIface,u)
theorem qmB {P:Program} {ρ:Operand->Value} {dst:Option Nat} {ty:TypeId} {pos:String} {aft:Array Edge} {g:Option (Nat×Bool)} (w:World) :
  (execOp ρ ⟨dst,.call { callee:=.builtin .recover,args:=#[],argTypes:=#[] },ty,pos,aft,g⟩).run P w=.ok .recover w:=by
 rfl
theorem qmz (c0:Frame) (cs:List Frame):recoverD (c0::cs)=none/\qha c0.mode=(.nilIface,c0.mode)∨recoverD (c0::cs)=some ((qha c0.mode).1,{ c0 with mode:=(qha c0.mode).2 }::cs):=by
 obtain ⟨fn,tmps,todo,defers,mode,kind,ro⟩:=c0
 cases mode with
 |run=>exact .inl ⟨rfl,rfl⟩
 |returning=>exact .inl ⟨rfl,rfl⟩
 |panicking ch=>
  cases ch with
  |nil=>exact .inl ⟨rfl,rfl⟩
  |cons p older=>
   obtain ⟨v,r,g⟩:=p;cases r <;> cases g <;> first|exact .inl ⟨rfl,rfl⟩|exact .inr rfl
theorem qcd.recover {id t s:Nat} {ty ty':TypeId} {pos pos':String} {aft aft':Array Edge} (ht:Nat.blt t n=true) (hs:Nat.blt s n=true) (h:Q .normal (qha u).2 ((e.upd t (.atom (qha u).1)).upd s (.atom (qha u).1)) H) :
  qcd C n (.region id #[⟨some t,.call { callee:=.builtin .recover,args:=#[],argTypes:=#[] },ty,pos,aft,none⟩,⟨some s,.assign (.tmp t),ty',pos',aft',none⟩] false) Q u e H:=fun a w L c0 cs hu hE hH=>by
 refine wpS_region ?_;have hE1:∀ v,RelE n (a.put (some t) v) (e.upd t (.atom v)) w L:=fun v=>hE.put (dst:=some t) (by simp only[qdg,dstB];exact ht) qar
 have hev:∀ v,(a.put (some t) v).eval (.tmp t)=v:=fun v=>by
  have:=(hE1 v).ev (.tmp t);simpa [Env.ev,Env.upd,Rep] using this
 have hE2:∀ v,RelE n ((a.put (some t) v).put (some s) v) ((e.upd t (.atom v)).upd s (.atom v)) w L:=fun v=>(hE1 v).put (dst:=some s) (by simp only[qdg,dstB];exact hs) qar
 have h1:∀ v cs1,wpOpsS C.P #[⟨some t,.call { callee:=.builtin .recover,args:=#[],argTypes:=#[] },ty,pos,aft,none⟩,⟨some s,.assign (.tmp t),ty',pos',aft',none⟩] (fun x a' cs' w'=>∃ u' e' H' L',cs'={ c0 with mode:=u' }::cs/\Fr (keys H) w L w' L' H'/\RelH C w' L' H'/\RelX n x a' e' w' L'/\Q x u' e' H') [1] (a.put (some t) v) cs1 w
   ↔ (fun x a' cs' w'=>∃ u' e' H' L',cs'={ c0 with mode:=u' }::cs/\Fr (keys H) w L w' L' H'/\RelH C w' L' H'/\RelX n x a' e' w' L'/\Q x u' e' H') Exit.normal ((a.put (some t) v).put (some s) v) cs1 w:=by
  intro v cs1;have hr:(execOp (a.put (some t) v).eval ⟨some s,.assign (.tmp t),ty',pos',aft',none⟩).run C.P w=.ok (.value ((a.put (some t) v).eval (.tmp t))) w:=rfl;simp only[wpOpsS,List.getElem?_toArray,List.getElem?_cons_succ,List.getElem?_cons_zero,Region.wanted,if_true,hr,Oper.upon,hev]
 have h0:(execOp a.eval ⟨some t,.call { callee:=.builtin .recover,args:=#[],argTypes:=#[] },ty,pos,aft,none⟩).run C.P w=.ok .recover w:=qmB w;have hl:List.range (#[(⟨some t,.call { callee:=.builtin .recover,args:=#[],argTypes:=#[] },ty,pos,aft,none⟩:Oper),⟨some s,.assign (.tmp t),ty',pos',aft',none⟩]:Array Oper).size=[0,1]:=rfl;rw[hl,wpOpsS];simp only[List.getElem?_toArray,List.getElem?_cons_zero,Region.wanted,if_true,h0];rcases qmz c0 cs with ⟨h2,h3⟩|h2
 ·simp only[h2];rw[h1];subst hu;rw[h3] at h;exact ⟨c0.mode,_,H,L,rfl,Fr.refl _ _ _,hH,hE2 _,h⟩
 ·simp only[h2];rw[h1];subst hu;exact ⟨_,_,H,L,rfl,Fr.refl _ _ _,hH,hE2 _,h⟩
def qqE (R:FrameMode->Heap->Prop):qlz
 |.normal,u,e,H|.ret,u,e,H=>e.ds=[]/\∃ H',HSub H' H/\R u H'
 |_,_,_,_=>False
theorem qbX.intro {f:FuncId} {fn:Func} {c:Code} {args:List LV} {R:FrameMode->Heap->Prop} (hf:C.P.funcs[f]? = some fn) (hb:fn.body=some c) (hn:fn.ntmps=n) (h3:fn.results=#[])
  (hl:Nat.ble args.length n=true) (h:qcd C n c (qqE R) u (qfl args) H):qbX C f args u H R:=fun vs w L hv hH=>by
 subst hn;have hl':args.length<=fn.ntmps:=by simpa using hl
 have hlen:=hv.length
 have hE0:RelE fn.ntmps { tmps:=vs.toArray++Array.replicate (fn.ntmps-vs.toArray.size) undef,defers:=[] } (qfl args) w L:=by
  refine ⟨?_,rfl,fun i=>?_⟩
  ·simp;omega
  ·exact zT0
 refine callsD_of_wpS hf hb fun c0 cs hu=>qkt (h _ w L c0 cs hu hE0 hH) fun ex a' cs' w' hq=>?_;obtain ⟨u',e',H',L',rfl,g1,g2,g3,g4⟩:=hq
 have fin:RelE fn.ntmps a' e' w' L'->(e'.ds=[]/\∃ H'',HSub H'' H'/\R u' H'')->a'.defers=[]/\∃ u'',({ c0 with mode:=u' }::cs:List Frame)={ c0 with mode:=u'' }::cs/\∃ v,(results fn a'.tmps).run C.P w'=.ok v w'/\(∃ v',Ending.returned v=.returned v')/\qeP C w L H w' (R u''):=fun hE ⟨h1,H'',h2,h4⟩=>
  ⟨hE.ds.trans h1,u',rfl,_,qnl h3 _ _,⟨_,rfl⟩,H'',L',g1.weak h2,g2.weak h2,h4⟩
 cases ex with
 |normal=>exact fin g3 g4
 |ret=>exact fin g3 g4
 |panic ch=>exact g4.elim
 |exit id=>exact g4.elim
 |goto id=>exact g4.elim
 |outgrown=>exact g4.elim
end S
section defer
variable {C:Ctx} {n:Nat} {ops:Array Oper} {Q:Post} {e:Env} {H:Heap}
theorem qcy.defer {dst:Option Nat} {fo:Operand} {f:FuncId} {caps:Array Value} {ty:TypeId} {pos:String} {aft:Array Edge} {rest:List Oper} (hf:e.ev fo=.atom (.func (.func f) #[] caps)) (hd:dst=none)
  (k:qcy C n ops Q rest ⟨e.s,{ target:=.fn (.func f) caps,args:=#[] }::e.ds⟩ H):qcy C n ops Q (⟨dst,.defer { callee:=.value fo,args:=#[],argTypes:=#[] },ty,pos,aft,none⟩::rest) e H:=fun a w L hE hH=>by
 subst hd;have hv:=hE.ev fo;rw[hf] at hv;simp only[Rep] at hv
 have hr:(execOp a.eval ⟨none,.defer { callee:=.value fo,args:=#[],argTypes:=#[] },ty,pos,aft,none⟩).run C.P w=.ok (.defer { target:=.fn (.func f) caps,args:=#[] }) w:=by
  have h3:execOp a.eval ⟨none,.defer { callee:=.value fo,args:=#[],argTypes:=#[] },ty,pos,aft,none⟩=(do let d <-Deferred.ofValue (a.eval fo) ((#[]:Array Operand).map a.eval);Pure.pure (.defer d)):=rfl;rw[h3,hv];simp only[Deferred.ofValue,List.map_toArray,List.map_nil];rfl
 unfold wpList;rw[if_pos (by simp[Region.wanted])];refine .inl ?_;unfold Oper.wp;rw[hr];simp only[Oper.upon,Act.put];exact k _ w L ⟨hE.size,by show _::a.defers=_;rw[hE.ds],hE.vals⟩ hH
end defer
end Go.GL
namespace Go.Proofs.YthmhncflhnbedaaGreatDoor
open Go.GL Go.RowKit Go.Stele
theorem qst {s:List UInt8} {T:List Tok} (h:qbU s=.ok T):TOK T:=by
 unfold qbU at h;split at h
 ·cases h
 ·obtain ⟨h1,h2⟩:=qgG _ _ _ _ h
  exact ⟨by omega,fun t ht=>by have:=(h2 t ht).1;omega,fun t ht hk=>by
   obtain ⟨u,h3,h4,_⟩:=(h2 t ht).2 hk
   exact ⟨u,h3,h4⟩⟩
instance:TIface Tryz.prog 20:=.of zk
def noPr:Pr:=⟨[],[],[]⟩
def qbZ (s:List UInt8):Pr×Int×Int:=match qbU s with
 |.error (l,e)=>(noPr,l,e)
 |.ok T=>match qc2 T (10 * T.length+20) noPr 0 0 with
  |some (.ok p _ _)=>(p,0,0)
  |some (.err l e)=>(noPr,l,e)
  |none=>(noPr,0,0)
def qhW (r:Pr×Int×Int):LV:=.tuple [qgL r.1,int .i64 r.2.1,int .i64 r.2.2]
theorem qda.ret1 {C:Ctx} {n:Nat} {e:Env} {H H' H1 H2 F:Heap} {R:LRes->Heap->Prop} {rs:List ResultVar} {vs:List LV} {f:FuncId} {caps:Array Value} [hen:TEnter C.P f] (hd:e.ds=[{ target:=.fn (.func f) caps,args:=#[] }]) (hp:H.Perm (H1++F))
  (hc:qbX C f (caps.toList.map .atom) .returning H1 (fun u H'=>u=.returning/\H'=H2)) (h:qbF C n e (H2++F) rs vs) (hH:HSub H' (H2++F)) (hR:R (.ret (qbv vs)) H'):qda C n rs R .ret e H:=by
 unfold qda;simp only[hd];refine ⟨by simp,f,caps,H1,F,rfl,hen,hp,qbX.mono hc ?_⟩;rintro u H'' ⟨rfl,rfl⟩;exact ⟨vs,H',h,hH,hR⟩
theorem qda.panic1 {C:Ctx} {n:Nat} {e:Env} {H H' H1 H2 F:Heap} {R:LRes->Heap->Prop} {rs:List ResultVar} {vs:List LV} {f:FuncId} {caps:Array Value} {ch:List PanicEntry} [hen:TEnter C.P f] (hd:e.ds=[{ target:=.fn (.func f) caps,args:=#[] }]) (hp:H.Perm (H1++F))
  (hc:qbX C f (caps.toList.map .atom) (.panicking ch) H1 (fun u H'=>settle u=.returning/\H'=H2)) (h:qbF C n e (H2++F) rs vs) (hH:HSub H' (H2++F)) (hR:R (.ret (qbv vs)) H'):qda C n rs R (.panic ch) e H:=by
 unfold qda;simp only[hd];refine ⟨by simp,f,caps,H1,F,rfl,hen,hp,qbX.mono hc ?_⟩;rintro u H'' ⟨hu,rfl⟩;rw[hu];exact ⟨vs,H',h,hH,hR⟩
def resP:Res Pr->Pr×Int×Int
 |.ok p _ _=>(p,0,0)
 |.err l e=>(noPr,l,e)
theorem qkI:∀ (f:Nat) (s:List UInt8) (line l e:Int),lexP f s line=.error (l,e)->¬ e=0
 |0,s,line,l,e,h=>by
  rw[lexP] at h
  cases h
 |f+1,s,line,l,e,h=>by
  rw[lexP] at h;split at h
  ·cases h
  ·split at h
   ·split at h
    ·rename_i he
     cases h;exact he
    ·cases hx:lexP f (s.drop (qan s).2.1) (line+((s.take (qan s).2.1).count 10:Nat)) with
     |ok T=>rw[hx] at h;cases h
     |error p=>
      rw[hx] at h;cases h;exact qkI f _ _ _ _ hx
   ·exact qkI f _ _ _ _ h
theorem qhZ {s:List UInt8} {l e:Int} (h:qbU s=.error (l,e)):¬ e=0:=by
 unfold qbU at h;split at h
 ·cases h;decide
 ·exact qkI _ _ _ _ _ h
theorem memA {A:Type} {p:A} {H:List A} (h:p∈H:=by first|exact List.Mem.head _|exact List.Mem.tail _ zm0|exact List.Mem.tail _ zm1|exact List.Mem.tail _ zm2|exact List.Mem.tail _ zm3|exact List.Mem.tail _ zm4|exact List.Mem.tail _ zm5):p∈H:=h
attribute [local irreducible] LOps qae qag LCalls Go.GL.Pure qaA qaq qah LQ LAny qaF qap qcy qbf qcd qbX
section
variable {B0:Nat} {w0:World}
theorem qso (b2 b3 b4:Nat) (cs:List LV) (c d:LV):qbX (KC B0 w0) 15 [ptr b2 0,ptr b3 0,ptr b4 0] .returning [(b2,.cells 34 cs),(b3,.cells 3 [c]),(b4,.cells 25 [d])]
  (fun u H=>u=.returning/\H=[(b2,.cells 34 cs),(b3,.cells 3 [c]),(b4,.cells 25 [d])]):=by
 refine qbX.intro Tryz.func15 rfl (n:=22) rfl rfl rfl ?_;refine qcd.seq (qcd.recover rfl rfl ?_);refine qcd.of ?_;refine gab ?_;refine oC rfl (fun hc=>?_) (fun hc=>?_)
 ·cases hc
 ·refine gar ?_;exact ⟨rfl,_,zhR _,rfl,rfl⟩
theorem qrW (b2 b3 b4:Nat) (c1 c2 c3 c d:LV) (l er:Int):qbX (KC B0 w0) 15 [ptr b2 0,ptr b3 0,ptr b4 0] (.panicking (pan l er)) [(b2,.cells 34 [c1,c2,c3]),(b3,.cells 3 [c]),(b4,.cells 25 [d])]
  (fun u H=>settle u=.returning/\H=[(b2,.cells 34 [qaa,qaa,qaa]),(b3,.cells 3 [int .i64 l]),(b4,.cells 25 [int .i64 er])]):=by
 refine qbX.intro Tryz.func15 rfl (n:=22) rfl rfl rfl ?_;refine qcd.seq (qcd.recover rfl rfl ?_);refine qcd.of ?_;refine gab ?_;refine oC rfl (fun hc=>?_) (fun hc=>?_)
 ·refine gaf ?_;refine oP (Pure.assertOk (vs:=[.int .i64 l,.int .i64 er]) rfl) rfl ?_;refine gac ?_;refine oS (sA fun b5=>?_) rfl;refine gaa ?_;refine oC rfl (fun hd=>?_) (fun hd=>?_)
  ·cases hd
  ·refine gar ?_;refine cD (m:=8) rfl [(b5,.cells 46 [int .i64 l,int .i64 er])] ?_;refine aT 0 rfl rfl (pB _ (cs:=[_,_,_]) rfl) ?_;refine aT 1 rfl rfl (pF rfl) ?_;refine aT 2 rfl rfl (pL (c:=.atom _) rfl zm0 rfl) ?_;refine aT 3 rfl rfl (pF rfl) ?_;refine aT 4 rfl rfl (pL (c:=.atom _) rfl zm0 rfl) ?_;refine aL ?_ zhp;refine lO 5 (lS (H1:=[(b2,.cells 34 [c1,c2,c3])]) (F:=[(b5,.cells 46 [int .i64 l,int .i64 er]),(b3,.cells 3 [c]),(b4,.cells 25 [d])]) rfl (.inl rfl) rfl zp1 zhp (sS (cs':=[_,_,_]) rfl pH rfl rfl rfl rfl rfl ?_));refine lO 6 (lS (H1:=[(b3,.cells 3 [c])]) (F:=[(b2,.cells 34 [qaa,qaa,qaa]),(b5,.cells 46 [int .i64 l,int .i64 er]),(b4,.cells 25 [d])]) rfl (.inl rfl) rfl zp2 (zhP zp1 zhn) (sS (cs':=[_]) rfl pH rfl rfl rfl rfl rfl ?_));refine lO 7 (lS (H1:=[(b4,.cells 25 [d])]) (F:=[(b3,.cells 3 [int .i64 l]),(b2,.cells 34 [qaa,qaa,qaa]),(b5,.cells 46 [int .i64 l,int .i64 er])]) rfl (.inl rfl) rfl zp3 (zhP zp2 zhn) (sS (cs':=[_]) rfl pH rfl rfl rfl rfl rfl ?_));refine lD zk ?_;exact ⟨rfl,_,zhP zp2 (zhP zp1 zhp),rfl,rfl⟩
 ·cases hc
theorem qpN (hG:GW B0 w0) (s:List UInt8):LCalls (KC B0 w0) 8 [str s] [] (Ret (qhW (qbZ s))):=by
 refine LCalls.introD Tryz.func8 rfl (n:=24) rfl rfl rfl ?_;refine qbf.seq (qbf.of ?_);refine gag ?_;refine oS (sA fun b2=>?_) rfl;refine oS (sA fun b3=>?_) rfl;refine oS (sA fun b4=>?_) rfl;refine gam ?_;refine qbf.seq (qbf.of ?_);refine gaf ?_;refine oS (sF [_] rfl (qou hG s) ?_) rfl
 cases hL:qbU s with
 |error le=>
  obtain ⟨l,er⟩:=le;have he0:¬ er=0:=qhZ hL;simp only[qjU];refine gao ?_;refine qbf.seq (qbf.of ?_);refine gab ?_;refine oC rfl (fun hc=>?_) (fun hc=>?_)
  ·refine ga1 ?_;refine cD (m:=6) rfl [] ?_;refine aT 0 rfl rfl (pB _ (cs:=[_,_,_]) rfl) ?_;refine aL ?_ zhn;refine qaF.three (i:=1) (j:=2) (k:=3) zk ?_ ?_ ?_
   ·refine lH rfl rfl (pL (c:=.atom _) rfl zm1 rfl) ?_;refine zl2 (i:=2) (j:=3) zk ?_ ?_
    ·refine lH rfl rfl (pL (c:=.atom _) rfl zm0 rfl) ?_;exact zT14
    ·refine zQ86 ?_;refine zl2 (i:=2) (j:=4) zk ?_ ?_
     ·exact zT13
     ·exact zT17
   ·refine lH rfl rfl (pL (c:=.atom _) rfl zm0 rfl) ?_;refine zl2 (i:=1) (j:=3) zk ?_ ?_
    ·refine lH rfl rfl (pL (c:=.atom _) rfl zm1 rfl) ?_;exact zT14
    ·refine zQ86 ?_;exact zT12
   ·refine zQ86 ?_;refine zl2 (i:=1) (j:=2) zk ?_ ?_
    ·refine lH rfl rfl (pL (c:=.atom _) rfl zm2 rfl) ?_;refine zl2 (i:=2) (j:=4) zk ?_ ?_
     ·exact zT13
     ·exact zT17
    ·refine lH rfl rfl (pL (c:=.atom _) rfl zm1 rfl) ?_;exact zT12
  ·have:er=0:=by simpa using hc
   exact absurd this he0
 |ok T=>
  have hT:=qst hL;simp only[qjU];refine gao ?_;refine qbf.seq (qbf.of ?_);refine gab ?_;refine oC rfl (fun hc=>?_) (fun hc=>?_)
  ·cases hc
  ·refine gar ?_;refine qbf.seq (qbf.region ?_);refine gac ?_;refine qcy.defer rfl rfl ?_;refine qcy.nil ?_;refine qN ?_;refine qbf.seq (qbf.of ?_);refine gab ?_;refine oS (sB rfl fun sb=>?_) rfl;refine ga2 ?_;refine qbf.seq (qbf.region ?_);refine gac ?_;obtain ⟨r,hr⟩:=qdM T (10 * T.length+20) noPr 0 0 (Nat.zero_le _) zo
   have hp:qbZ s=resP r:=by
    rw[qbZ,hL];simp only[hr];cases r <;> rfl
   rw[hp];refine qcy.step (sP (T:=T) (i:=0) (op:=0) [_] rfl pH (qdw hG sb T hT _ r hr) (fun v i1 op1 h1=>?_) (fun l er i1 op1 h1=>?_)) rfl
   ·subst h1;refine qcy.step (sS (cs':=[_,_,_]) rfl zp3 rfl rfl rfl rfl rfl ?_) rfl;refine qcy.step (sS (cs':=[_]) rfl zp3 rfl rfl rfl rfl rfl ?_) rfl;refine qcy.step (sS (cs':=[_]) rfl zp3 rfl rfl rfl rfl rfl ?_) rfl;refine qcy.nil ?_;refine qN ?_;refine qbf.ret ?_
    exact qda.ret1 (vs:=[qgL v,int .i64 0,int .i64 0]) (H2:=[(b2,.cells 34 [.list (v.vars.map str),.list (v.arrays.map qkM),.list (v.funcs.map qav)]),(b3,.cells 3 [int .i64 0]),(b4,.cells 25 [int .i64 0])]) rfl (zp2.trans (List.Perm.cons _ (zp1.trans (List.Perm.cons _ zpr)))) (qso b2 b3 b4 _ _ _)
     (rC (rA (k:=3) rfl zm0 rfl zsr) (rC (qdT.cellOne rfl zm1 rfl zsr) (rC (qdT.cellOne rfl zm2 rfl zsr) rN))) zhn ⟨rfl,rfl⟩
   ·subst h1;refine qaA.panic ?_
    exact qda.panic1 (vs:=[qgL noPr,int .i64 l,int .i64 er]) (H2:=[(b2,.cells 34 [qaa,qaa,qaa]),(b3,.cells 3 [int .i64 l]),(b4,.cells 25 [int .i64 er])]) rfl (zp3.trans (List.Perm.cons _ (zp2.trans (List.Perm.cons _ (zp1.trans zpr))))) (qrW b2 b3 b4 _ _ _ _ _ l er)
     (rC (rA (k:=3) rfl zm0 rfl (vA (bs:=[.list [],.list [],.list []]) ⟨vN,vN,vN,trivial⟩)) (rC (qdT.cellOne rfl zm1 rfl zsr) (rC (qdT.cellOne rfl zm2 rfl zsr) rN))) zhn ⟨rfl,rfl⟩
end
end Go.Proofs.YthmhncflhnbedaaGreatDoor
namespace Go.Proofs.YthmhncflhnbedaaGreatDoor.Chk
open Go.GL Go.RowKit Go.Stele
section
variable {C:Ctx} {e:Env} {H:Heap} {dst:Option Nat} {ty:TypeId} {pos:String} {aft:Array Edge} {g:Option (Nat×Bool)} {x:Operand}
theorem Pure.assertNil {t xT:TypeId} [ht:TConcrete C.P t] {zs:List Value} (hz:∀ w,(zeroValue t).run C.P w=.ok (.agg zs.toArray) w) (hx:e.ev x=.atom .nilIface):Go.GL.Pure C ⟨dst,.typeAssert x xT t true,ty,pos,aft,g⟩ e H (.tuple [.agg (zs.map .atom),bool false]):=
 .of_any fun ρ w L h=>⟨.tuple #[.agg zs.toArray,.bool false],by
  simp only[Rep];exact ⟨[.agg zs.toArray,.bool false],rfl,by simp only[RepL,Rep];exact ⟨_,_,rfl,⟨zs,rfl,qbh zs⟩,_,_,rfl,rfl,rfl⟩⟩,fun w'=>by
  obtain ⟨d,hd,hm⟩:=ht.out;have h3:execOp ρ ⟨dst,.typeAssert x xT t true,ty,pos,aft,g⟩=(do Pure.pure (.value (<-Instr.typeAssert (ρ x) xT t true))):=rfl;rw[h3,qam h hx];simp only[Instr.typeAssert,Sem.run_bind,qab hd,Result.andThen_ok]
  cases d <;> simp_all [Sem.run_bind]⟩
end
theorem qqN (w:World):(zeroValue 103).run Tryz.prog w=.ok (.agg [.string ⟨#[]⟩,.int .i64 0].toArray) w:=
 (Go.zero_of_info (P:=Tryz.prog) (n:=2) zk).1 w
attribute [local irreducible] LOps qae qag LCalls Go.GL.Pure qaA qaq qah LQ LAny qaF qap LS qcy qbf qcd qbX
section
variable {B0:Nat} {w0:World}
theorem qqH (b2 b3:Nat) (c d:LV):qbX (KC B0 w0) 51 [ptr b2 0,ptr b3 0] .returning [(b2,.cells 9 [c]),(b3,.cells 25 [d])]
  (fun u H=>u=.returning/\H=[(b2,.cells 9 [c]),(b3,.cells 25 [d])]):=by
 refine qbX.intro Tryz.func51 rfl (n:=19) rfl rfl rfl ?_;refine qcd.seq (qcd.recover rfl rfl ?_);refine qcd.of ?_;refine gaf ?_;refine oP (Pure.assertNil qqN rfl) rfl ?_;refine gac ?_;refine oS (sA fun b5=>?_) rfl;refine gaa ?_;refine oC rfl (fun hc=>?_) (fun hc=>?_)
 ·cases hc
 refine gab ?_;refine oC rfl (fun hc=>?_) (fun hc=>?_)
 ·cases hc
 ·refine gar ?_;exact ⟨rfl,_,zhD zhr,rfl,rfl⟩
theorem qqC (b2 b3:Nat) (c d:LV) (nm:List UInt8) (er:Int):qbX (KC B0 w0) 51 [ptr b2 0,ptr b3 0] (.panicking (vio nm er)) [(b2,.cells 9 [c]),(b3,.cells 25 [d])]
  (fun u H=>settle u=.returning/\H=[(b2,.cells 9 [str nm]),(b3,.cells 25 [int .i64 er])]):=by
 refine qbX.intro Tryz.func51 rfl (n:=19) rfl rfl rfl ?_;refine qcd.seq (qcd.recover rfl rfl ?_);refine qcd.of ?_;refine gaf ?_;refine oP (Pure.assertOk (vs:=[.string ⟨nm.toArray⟩,.int .i64 er]) rfl) rfl ?_;refine gac ?_;refine oS (sA fun b5=>?_) rfl;refine gaa ?_;refine oC rfl (fun hc=>?_) (fun hc=>?_)
 ·skip
  refine cD (m:=6) rfl [(b5,.cells 103 [str nm,int .i64 er])] ?_;refine aT 0 rfl rfl (pF rfl) ?_;refine aT 1 rfl rfl (pL (c:=.atom _) rfl zm0 rfl) ?_;refine aT 2 rfl rfl (pF rfl) ?_;refine aT 3 rfl rfl (pL (c:=.atom _) rfl zm0 rfl) ?_;refine aL ?_ zhp;refine lO 4 (lS (H1:=[(b2,.cells 9 [c])]) (F:=[(b5,.cells 103 [str nm,int .i64 er]),(b3,.cells 25 [d])]) rfl (.inl rfl) rfl zp1 zhp (sS (cs':=[_]) rfl pH rfl rfl rfl rfl rfl ?_));refine lO 5 (lS (H1:=[(b3,.cells 25 [d])]) (F:=[(b2,.cells 9 [str nm]),(b5,.cells 103 [str nm,int .i64 er])]) rfl (.inl rfl) rfl zp2 (zhP zp1 zhn) (sS (cs':=[_]) rfl pH rfl rfl rfl rfl rfl ?_));refine lD zk ?_;exact ⟨rfl,_,zhP zp1 zhp,rfl,rfl⟩
 ·cases hc
theorem check_spec (vars:List Nm) (arrays:List (Nm×Int)) (fs:List FnD) (hv6:vars.length<=2000000) (ha6:arrays.length<=2000000) (har:∀ a∈arrays,-9223372036854775808<=a.2/\a.2<9223372036854775808) (hnd:ndFs fs<=2000000) :
  LCalls (KC B0 w0) 17 [encPrG vars arrays fs] [] (fun r H=>H=[]/\∃ nm,r=.ret (.tuple [str nm,int .i64 (qb1 vars arrays fs)])):=by
 generalize hE:qb1 vars arrays fs=E;refine LCalls.introD Tryz.func17 rfl (n:=15) rfl rfl rfl ?_;refine qbf.seq (qbf.of ?_);refine gag ?_;refine oS (sB rfl fun b1=>?_) rfl;refine oS (sA fun b2=>?_) rfl;refine oS (sA fun b3=>?_) rfl;refine gam ?_;refine qbf.seq (qbf.region ?_);refine gac ?_;refine qcy.defer rfl rfl ?_;refine qcy.nil ?_;refine qN ?_;refine qbf.seq (qbf.of ?_);refine gag ?_;refine oS (S.kvNew fun gm=>?_) rfl;refine oS (S.kvNew fun vm=>?_) rfl;refine oS (S.kvNew fun am=>?_) rfl;refine oS (S.kvNew fun fm=>?_) rfl;refine gac ?_;refine oS (sB rfl fun cb=>?_) rfl;refine LOps.weak (H':=pgH ⟨cb,gm,vm,am,fm,0,[],[],[],[],[],0,0,0,0,0,[]⟩ (.map none) 0++[(b3,.cells 25 [int .i64 0]),(b2,.cells 9 [str []]),(b1,.cells 34 [.list (vars.map str),.list (arrays.map encArG),.list (fs.map qav)])]) ?_ ?_
 ·repeat first
   |exact HSub.nil _
   |refine zhP zb1 ?_
 refine ga2 ?_;refine qbf.seq (qbf.region ?_);refine gac ?_;refine qcy.step (S.callE (F:=[_,_,_]) [_,_] rfl zpr (qdw (k:=⟨cb,gm,vm,am,fm,0,[],[],[],[],[],0,0,0,0,0,[]⟩) (o:=.map none) (d:=0) vars arrays fs rfl rfl rfl rfl hv6 ha6 har hnd) (fun H2 h0 hP=>?_) (fun nm h0=>?_)) rfl
 ·subst hP;rw[hE] at h0;subst h0;refine qcy.nil ?_;refine qN ?_;refine qbf.seq (qbf.region ?_);refine qcy.step (sS (cs':=[_]) rfl zp1 rfl rfl rfl rfl rfl ?_) rfl;refine qcy.step (sS (cs':=[_]) rfl zp1 rfl rfl rfl rfl rfl ?_) rfl;refine qcy.nil ?_;refine qN ?_;refine qbf.ret ?_
  exact qda.ret1 (vs:=[str [],int .i64 0]) (H1:=[(b2,.cells 9 [str []]),(b3,.cells 25 [int .i64 0])]) (F:=[_]) (H2:=[(b2,.cells 9 [str []]),(b3,.cells 25 [int .i64 0])]) rfl (List.Perm.swap _ _ _) (qqH b2 b3 _ _)
   (rC (qdT.cellOne rfl zm0 rfl zsr) (rC (qdT.cellOne rfl zm1 rfl zsr) rN)) zhn ⟨rfl,[],rfl⟩
 ·rw[hE] at h0 ⊢;refine qaA.panic ?_
  exact qda.panic1 (vs:=[str nm,int .i64 E]) (H1:=[(b2,.cells 9 [str []]),(b3,.cells 25 [int .i64 0])]) (F:=[_]) (H2:=[(b2,.cells 9 [str nm]),(b3,.cells 25 [int .i64 E])]) rfl (List.Perm.swap _ _ _) (qqC b2 b3 _ _ nm E)
   (rC (qdT.cellOne rfl zm0 rfl zsr) (rC (qdT.cellOne rfl zm1 rfl zsr) rN)) zhn ⟨rfl,nm,rfl⟩
end
end Go.Proofs.YthmhncflhnbedaaGreatDoor.Chk
namespace Go.Proofs.YthmhncflhnbedaaGreatDoor
open Go.GL Go.RowKit Go.Stele
def BH (b:Nat) (l:List UInt8) (H:Heap):Prop:=∃ p v Hv,(p=LV.atom (.pointer none)∨p=ptr b 0)/\BRow 5 v l Hv/\H=(b,.cells 123 [p,.atom v])::Hv
theorem qp0:Lays.n240 Tryz.prog Tryz.lays156_ren:={ Tryz.lays156 with }
section
variable {B0:Nat} {w0:World}
theorem qfS (b:Nat) (p v:LV) (hp:p=LV.atom (.pointer none)∨p=ptr b 0):LCalls (KC B0 w0) 120 [ptr b 0] [(b,.cells 123 [p,v])]
  (fun r H'=>(∃ x,r=.ret (.atom x))/\H'=[(b,.cells 123 [ptr b 0,v])]):=fun xs w L hv hH=>by
 simp only[RepL] at hv;obtain ⟨y,ys,rfl,hy,rfl⟩:=hv;simp only[Rep] at hy;subst hy;obtain ⟨hb0,hbs,hl,zs,hx1,hx2⟩:=hH.objs _ (List.mem_singleton.2 rfl);simp only at hb0 hbs hl hx1 hx2;have hz:=hx2;simp only[RepL] at hz;obtain ⟨a,as1,rfl,ha,c,as2,rfl,hc,rfl⟩:=hz;rcases hp with rfl|rfl
 ·simp only[Rep] at ha;subst ha;have h0:w.cell? ⟨b,0,none⟩=some (.pointer none):=by simp[World.cell?,hx1]
  have hsh:w.shape? b=some (123,2):=by simp[World.shape?,hx1]
  have hfz:w.frozen? ⟨b,0,none⟩=false:=Go.Lib.frozen_of_heap hx1 0;refine (Any.Builder_copyCheck_fresh (P:=Tryz.prog) qp0 Tryz.Builder_Extra_156.toX72 b w h0 hsh hfz).mono fun e w' he=>?_;obtain ⟨rfl,rfl⟩:=he;refine qfF (w:=w) (w':=w.setCell ⟨b,0,none⟩ (.pointer (some ⟨b,0,none⟩))) (xs':=[.pointer (some ⟨b,0,none⟩),c]) (cs':=[ptr b 0,v]) (lv:=.atom (.tuple #[])) hH rfl rfl rfl (by simp[World.setCell]) (fun d hd=>by simp[World.setCell,Array.getElem?_modify,Ne.symm hd]) (by rw[qhj (xs:=[.pointer none,c]) hx1];rfl) rfl ?_ qar ⟨⟨_,rfl⟩,rfl⟩;simp only[RepL] at hx2 ⊢;exact ⟨_,_,rfl,qar,c,[],rfl,hc,rfl⟩
 ·simp only[Rep] at ha;subst ha;have h0:w.cell? ⟨b,0,none⟩=some (.pointer (some ⟨b,0,none⟩)):=by simp[World.cell?,hx1]
  refine (Any.Builder_copyCheck_used (P:=Tryz.prog) qp0 Tryz.Builder_Extra_156.toX72 b w h0).mono fun e w' he=>?_;obtain ⟨rfl,rfl⟩:=he;exact ⟨.atom (.tuple #[]),_,L,Fr.refl _ _ _,hH,qar,⟨_,rfl⟩,rfl⟩
attribute [local irreducible] LOps qae qag LCalls Go.GL.Pure qaA qaq qah LQ LAny qaF qap
theorem qhF (b:Nat) (l m:List UInt8) (H:Heap) (hB:BH b l H) (hlen:l.length+m.length<=10000000000):LCalls (KC B0 w0) 62 [ptr b 0,str m] H (fun r H'=>(∃ x,r=.ret x)/\BH b (l++m) H'):=by
 obtain ⟨p,v,Hv,hp,hacc,rfl⟩:=hB;refine cI Tryz.func62 rfl (n:=19) rfl rfl rfl ?_;refine gaw ?_;refine oS (S.callH (H1:=[(b,_)]) (F:=Hv) [_] rfl zpr (qfS b p (.atom v) hp) (fun x H' h=>?_) (fun ch H' h=>?_)) rfl
 ·obtain ⟨⟨x',hx'⟩,rfl⟩:=h;cases hx';refine gaa ?_;refine oS (S.appB1 (q:=(b,.cells 123 [ptr b 0,.atom v])) (l:=l) (m:=m) rfl hacc rfl zo fun v' H' hacc'=>?_) rfl;refine gad ?_;have hacc2:=hacc';generalize l++m=lm at hacc' hacc2 ⊢
  cases hacc' with
  |nil=>
   refine gab ?_
   exact rR rfl (rC (zrt rfl) (zra rfl)) zhr ⟨⟨_,rfl⟩,ptr b 0,_,_,.inr rfl,hacc2,rfl⟩
  |row h0 h1 h2=>
   refine gab ?_;exact rR rfl (rC (zrt rfl) (zra rfl)) zhr ⟨⟨_,rfl⟩,ptr b 0,_,_,.inr rfl,hacc2,rfl⟩
 ·obtain ⟨⟨x',hx'⟩,_⟩:=h;cases hx'
end
end Go.Proofs.YthmhncflhnbedaaGreatDoor
namespace Go.Proofs.YthmhncflhnbedaaGreatDoor
open Go Go.Shelf Go.RowKit
section
variable {P:Program} {ρ:Ren}
set_option maxHeartbeats 4000000 in
set_option maxRecDepth 100000 in
theorem qgD (L:Lays.n169 P ρ) (X:Builder.Extra P ρ) (b g:Nat) (p:Value) (l:List UInt8) (cur:Array Value) (w:World) (hbk:w.heap[b]? = some (.cells #[p,.slice (some ⟨g,0,none⟩) l.length cur.size] (ρ.t 72) (0,0)))
  (hg:w.heap[g]? = some (.cells cur (ρ.t 5) (0,0))) (h0:l≠[]) (hn:l.length<=cur.size) (hbig:l.length<=9223372036854775807) (hcell:∀ (j:Nat) (x:UInt8),l[j]? = some x->cur[j]? = some (.int .u8 x.toNat)) :
  Calls P (ρ.f 169) #[.pointer (some ⟨b,0,none⟩)] w fun e w'=>e=.returned (.string ⟨l.toArray⟩)/\w'=w.drew.freeze ⟨g,0,none⟩ l.length:=by
 have hl0:l.length≠0:=by simpa using h0
 have c1:w.drew.cell? ⟨b,1,none⟩=some (.slice (some ⟨g,0,none⟩) l.length cur.size):=by
  have:w.drew.heap[b]? = some (.cells #[p,.slice (some ⟨g,0,none⟩) l.length cur.size] (ρ.t 72) (0,0)):=hbk;rw[Lib.cell_of_heap this];rfl
 have hSD:(Builtin.unsafeSliceData_ #[(ρ.t 37)] (ρ.t 127) #[.slice (some ⟨g,0,none⟩) l.length cur.size]).run P w.drew=.ok (.pointer (some ⟨g,0,none⟩)) w.drew:=
  Lib.run_unsafeSliceData_row _ _ _ _ _ _ (by omega)
 have hUS:(Builtin.unsafeString_ #[(ρ.t 127),(ρ.t 3)] (ρ.t 9) #[.pointer (some ⟨g,0,none⟩),.int .i64 l.length]).run P w.drew=.ok (.string ⟨l.toArray⟩) (w.drew.freeze ⟨g,0,none⟩ l.length):=by
  refine Lib.run_unsafeString_row w.drew (ρ.t 127) (ρ.t 3) (ρ.t 9) (ρ.t 5) L.t127 X.cellsByte g cur.size (by have hg':w.drew.heap[g]? = some (.cells cur (ρ.t 5) (0,0)):=hg;simp[World.shape?,hg']) l h0 hn hbig ?_;intro j x hx;have hg':w.drew.heap[g]? = some (.cells cur (ρ.t 5) (0,0)):=hg;have:=hcell j x hx;rw[Go.GL.add_mk];simp[World.cell?,hg',this]
 have mixed:=L.mixed;have t72:=L.t72;have a72:=L.a72;have z72:=L.z72;have v72:=L.v72;have u72:=run_underlying L.t72;have t70:=L.t70;have a70:=L.a70;have z70:=L.z70;have v70:=L.v70;have u70:=run_underlying L.t70;have t37:=L.t37;have a37:=L.a37;have z37:=L.z37;have v37:=L.v37;have u37:=run_underlying L.t37;have t127:=L.t127;have a127:=L.a127;have z127:=L.z127;have v127:=L.v127;have u127:=run_underlying L.t127;have t3:=L.t3;have a3:=L.a3;have z3:=L.z3;have v3:=L.v3;have u3:=run_underlying L.t3;have t9:=L.t9;have a9:=L.a9;have z9:=L.z9;have v9:=L.v9;have u9:=run_underlying L.t9;have t5:=X.t5;have a5:=X.a5;have z5:=X.z5;have v5:=X.v5;have u5:=run_underlying X.t5
 go_enter L.f169,Body.n169_ntmps ρ
 go_wp2
 go_region_o
 all_goals (go_wp2;go_ret;exact ⟨rfl,rfl⟩)
end
open Go.GL Go.Stele
theorem qpX:Lays.n169 Tryz.prog Tryz.lays156_ren:={ Tryz.lays156 with }
section
variable {B0:Nat} {w0:World}
theorem qpk {C:Ctx} {w:World} {L:Live} {H:Heap} (hH:RelH C w L H) {g n:Nat} (hm:g∈keys H) (hb:C.B0<=g):Fr (keys H) w L (w.drew.freeze ⟨g,0,none⟩ n) L []/\RelH C (w.drew.freeze ⟨g,0,none⟩ n) L []:=by
 have hbl:∀ c,c≠g->(w.drew.freeze ⟨g,0,none⟩ n).heap[c]? = w.heap[c]? := fun c hc=>by
  unfold World.freeze;split
  ·rfl
  ·simp only[Array.getElem?_modify];rw[if_neg (Ne.symm hc)];rfl
 have hsz:(w.drew.freeze ⟨g,0,none⟩ n).heap.size=w.heap.size:=by
  unfold World.freeze;split
  ·rfl
  ·simp
 have hsh:∀ c,(w.drew.freeze ⟨g,0,none⟩ n).shape? c=w.shape? c:=fun c=>by
  by_cases hc:c=g
  ·subst hc;unfold World.freeze;split
   ·rfl
   ·simp only[World.shape?,Array.getElem?_modify,if_true];show (match Option.map _ w.heap[c]? with|some (Obj.cells c e _)=>some (e,c.size)|_=>none)=_
    cases w.heap[c]? with
    |none=>rfl
    |some o=>cases o <;> rfl
  ·exact qbO (hbl c hc)
 have hce:∀ c i,(w.drew.freeze ⟨g,0,none⟩ n).cell? ⟨c,i,none⟩=w.cell? ⟨c,i,none⟩:=fun c i=>by
  by_cases hc:c=g
  ·subst hc;unfold World.freeze;split
   ·rfl
   ·simp only[World.cell?,Array.getElem?_modify,if_true];show (match Option.map _ w.heap[c]? with|some (Obj.cells c e _)=>_|_=>none)=_
    cases w.heap[c]? with
    |none=>rfl
    |some o=>cases o <;> rfl
  ·exact cell_of_heap (hbl c hc) i
 have hos:(w.drew.freeze ⟨g,0,none⟩ n).os=w.os/\(w.drew.freeze ⟨g,0,none⟩ n).tape=w.tape/\(w.drew.freeze ⟨g,0,none⟩ n).output=w.output:=by
  unfold World.freeze;split <;> exact ⟨rfl,rfl,rfl⟩
 exact ⟨⟨hos.1,hos.2.1,hos.2.2,⟨Nat.le_of_eq hsz.symm,fun c _=>hsh c,fun c i _=>hce c i,fun _=>zNr _⟩,fun c _ hc=>hbl c (fun h=>hc (h▸hm)),fun _ _ _=>rfl,by simp⟩,
  ⟨hH.base.trans ⟨hos.1,hos.2.1,hos.2.2,Nat.le_of_eq hsz.symm,fun c hc=>hbl c zo⟩,hH.lbase,by rw[hsz];exact hH.b0,fun c hc=>hH.wf c (by rw[hsz] at hc;exact hc),List.nodup_nil,by simp⟩⟩
theorem qmn (b:Nat) (l:List UInt8) (H:Heap) (hB:BH b l H) (hlen:l.length<=10000000000):LCalls (KC B0 w0) 63 [ptr b 0] H (Ret (str l)):=fun xs w L hv hH=>by
 obtain ⟨p,v,Hv,hp,hacc,rfl⟩:=hB;simp only[RepL] at hv;obtain ⟨y,ys,rfl,hy,rfl⟩:=hv;simp only[Rep] at hy;subst hy;obtain ⟨hb0,hbs,hl,zs,hx1,hx2⟩:=hH.objs _ zMs;simp only at hb0 hbs hl hx1 hx2;simp only[RepL] at hx2;obtain ⟨a,as1,rfl,ha,c,as2,rfl,hc,rfl⟩:=hx2;simp only[Rep] at hc;subst hc
 cases hacc with
 |nil=>
  refine (Any.Builder_String_nil (P:=Tryz.prog) qpX Tryz.Builder_Extra_156 w.heap.size b a w hx1).mono fun e w' he=>?_;obtain ⟨rfl,hb⟩:=he;obtain ⟨h1,h2⟩:=qhM (hH.sub (List.nil_sublist _)) hb
  exact ⟨str [],[],L,h1.wide (by simp),h2,qar,rfl,rfl⟩
 |row h0 h1 h2=>
  rename_i g xs
  obtain ⟨hg0,hgs,hgl,ws,hw1,hw2⟩:=hH.objs _ (zMo _ (List.mem_singleton.2 rfl));simp only at hg0 hgs hgl hw1;have:=qcq hw2;subst this
  have hcell:∀ (j:Nat) (x:UInt8),l[j]? = some x->ws.toArray[j]? = some (Value.int .u8 x.toNat):=fun j x hx=>by
   have hj:(bytV l)[j]? = some (Value.int .u8 x.toNat):=by simp[bytV,hx]
   rw[<-h2,List.getElem?_take] at hj;split at hj
   ·simpa using hj
   ·cases hj
  refine (qgD (P:=Tryz.prog) qpX Tryz.Builder_Extra_156 b g a l ws.toArray w hx1 hw1 h0 (by simpa using h1) zo hcell).mono fun e w' he=>?_;obtain ⟨rfl,rfl⟩:=he;obtain ⟨f1,f2⟩:=qpk (n:=l.length) hH (g:=g) (by simp) hg0;exact ⟨str l,[],L,f1,f2,qar,rfl,rfl⟩
end
end Go.Proofs.YthmhncflhnbedaaGreatDoor
namespace Go.GL
open Go.RowKit
section
variable {C:Ctx} {e:Env} {H:Heap} {x y:Operand} {dst:Option Nat} {ty:TypeId} {pos:String} {aft:Array Edge} {g:Option (Nat×Bool)} {K:LV->Heap->Prop} {X:List PanicEntry->Heap->Prop}
theorem qag.appBL {sT xT el bytes:Nat} [ht:TSlice C.P sT el 1] [hr:TRow C.P el 1 bytes] {e2:Nat} [hx2:TSlice C.P xT e2 1] {v:Value} {l m:List UInt8}
  (hx:e.ev x=.atom v) (ha:BRow el v l H) (hy:GL.elems (e.ev y)=some (byts m)) (hm0:m≠[]) (hroom:(l.length+m.length) * bytes<=140737488355328)
  (hk:∀ v' H',BRow el v' (l++m) H'->K (.atom v') H'):qag C ⟨dst,.call { callee:=.builtin .append,args:=#[x,y],argTypes:=#[sT,xT] },ty,pos,aft,g⟩ e H K X:=by
 have h0:∀ (cs:Array Bool) (args:Array Value),builtin .append #[sT,xT] ty cs args=(do Pure.pure (.value (<-Builtin.append_ #[sT,xT] ty args))):=fun _ _=>rfl
 cases ha with
 |nil=>
  by_cases hne:m=[]
  ·subst hne;exact absurd rfl hm0
  ·intro ρ w L h hH;have hpos:0<m.length:=List.length_pos_iff.2 hne;obtain ⟨ay,cy,xs0,hyv,hyc,hyr,hyl,hyf⟩:=qdV (s:=1) (h y) hy (qlQ m);rw[qlg] at hyr;have hyx:xs0=bytV m:=qcq (zs:=bytV m) (by rw[show (bytV m).map LV.atom=byts m from by simp[bytV,byts,List.map_map,Function.comp_def]];exact hyr);subst hyx;rw[qnp] at hyv hyc hyf;rw[hyv] at hyf;have hlen:∀ w':World,(Builtin.lenOf (.slice ay m.length cy)).run C.P w'=.ok m.length w':=fun w'=>by simp[Builtin.lenOf]
   obtain ⟨cap',rest,r1,r2,r3⟩:=qb9 (ty:=ty) (P:=C.P) (w:=w) (sT:=sT) (xT:=xT) (a:=none) (len:=0) (cap:=0) (n:=m.length) (xv:=.slice ay m.length cy) (old:=[]) (new:=bytV m) (.inr ⟨_,hx2.und⟩) hlen (fun w' hw=>hyf C.P w' hw)
    (fun w' _=>by simp[Builtin.firstCells]) (by simpa using hroom) zo
   rw[qaI,h0];simp only[List.map_toArray,zMc,List.map_nil,Sem.run_bind,qam h hx,hyv,r3,Result.andThen_ok,Sem.run_pure,List.nil_append,Nat.zero_add];have hcl:(bytV m++rest).length=cap':=by rw[zLa,r2,qbI];omega
   obtain ⟨lv,H',L',g1,g2,g3,g4⟩:=qge (K:=K) (el:=el) (l:=m) (xs:=bytV m++rest) hH.drew hne (by rw[hcl];omega) (by rw[List.take_left' (qbI m)]) (fun v' H' h'=>hk v' H' h');rw[hcl] at g3
   exact ⟨lv,H',L',g1.of_drew,g2,g3,g4⟩
 |row hne h1 h2=>
  rename_i b xs
  intro ρ w L h hH;obtain ⟨hb0,hbs,hl,zs,hz1,hz2⟩:=hH.objs _ (List.mem_singleton.2 rfl);have hz:=qcq hz2;subst hz;simp only at hb0 hbs hl hz1;obtain ⟨ay,cy,xs0,hyv,hyc,hyr,hyl,hyf⟩:=qdV (s:=1) (h y) hy (qlQ m);rw[qlg] at hyr;have hyx:xs0=bytV m:=qcq (zs:=bytV m) (by rw[show (bytV m).map LV.atom=byts m from by simp[bytV,byts,List.map_map,Function.comp_def]];exact hyr);subst hyx;rw[qnp] at hyv hyc hyf;rw[hyv] at hyf;have hlen:∀ w':World,(Builtin.lenOf (.slice ay m.length cy)).run C.P w'=.ok m.length w':=fun w'=>by simp[Builtin.lenOf]
  rw[qaI,h0];simp only[List.map_toArray,zMc,List.map_nil,Sem.run_bind,qam h hx,hyv]
  by_cases hc:l.length+m.length<=zs.length
  ·have hrun:=qeF (ty:=ty) (P:=C.P) (w:=w) (sT:=sT) (xT:=xT) (s:=1) (a:=some ⟨b,0,none⟩) (len:=l.length) (cap:=zs.length) (n:=m.length) (xv:=.slice ay m.length cy) (new:=bytV m) (.inr ⟨_,hx2.und⟩) hlen (fun w' hw=>hyf C.P w' hw) hc;obtain ⟨w',r1,r2,r3,r4,r5,r6,r7⟩:=qcB (P:=C.P) (b:=b) (off:=0+l.length * 1) (t:=el) (fr:=(0,0)) (bytV m) 0 w zs hz1 (by rw[qbI];omega) (fun j _ _=>by simp) (qkV m);rw[hrun];simp only[add_mk,r1,Result.andThen_ok,Sem.run_pure]
   have hx':(zs.take (0+l.length * 1+0)++bytV m++zs.drop (0+l.length * 1+0+(bytV m).length)).length=zs.length:=by
    simp only[zLa,List.length_take,List.length_drop,qbI];omega
   have hfin:=qfF (v:=.slice (some ⟨b,0,none⟩) (l.length+m.length) zs.length) (lv:=.atom (.slice (some ⟨b,0,none⟩) (l.length+m.length) zs.length)) (K:=K) (cs':=(zs.take (0+l.length * 1+0)++bytV m++zs.drop (0+l.length * 1+0+(bytV m).length)).map .atom) hH r2 r3 r4 r5 r6 r7 (by rw[hx',zLm]) (qbh _) qar (by
    have hb:BRow el (.slice (some ⟨b,0,none⟩) (l++m).length (zs.take (0+l.length * 1+0)++bytV m++zs.drop (0+l.length * 1+0+(bytV m).length)).length) (l++m) _:=BRow.row (b:=b) (el:=el) (by simp[hne]) (by rw[hx',zLa];exact hc) (by
     have he:0+l.length * 1+0=l.length:=by omega
     rw[he,h2,<-qhL,List.take_left' (qbI _)])
    rw[hx',zLa] at hb
    exact hk _ _ hb)
   exact hfin
  ·have hold:∀ w':World,w'.heap=w.heap->(Builtin.firstCells 1 l.length (.slice (some ⟨b,0,none⟩) l.length zs.length)).run C.P w'=.ok (bytV l).toArray w':=fun w' hw=>by
    have:=qb0 (P:=C.P) (w:=w') (b:=b) (off:=0) l.length 0 #[] (bytV l) (qbI l) (fun j x' hj=>by
     have hj':zs[j]? = some x':=by
      rw[<-h2,List.getElem?_take] at hj;split at hj
      ·exact hj
      ·cases hj
     simp[World.cell?,hw,hz1,hj'])
    simp only[Builtin.firstCells,loadCells,Nat.mul_one,this]
    simp
   obtain ⟨cap',rest,r1,r2,r3⟩:=qb9 (ty:=ty) (P:=C.P) (w:=w) (sT:=sT) (xT:=xT) (a:=some ⟨b,0,none⟩) (len:=l.length) (cap:=zs.length) (n:=m.length) (xv:=.slice ay m.length cy) (old:=bytV l) (new:=bytV m) (.inr ⟨_,hx2.und⟩) hlen (fun w' hw=>hyf C.P w' hw) hold hroom zo;rw[r3];simp only[Result.andThen_ok,Sem.run_pure];have hcl:(bytV l++bytV m++rest).length=cap':=by rw[zLa,zLa,r2,qbI,qbI];omega
   have hH0:RelH C w L []:=hH.sub (List.nil_sublist _);obtain ⟨lv,H',L',g1,g2,g3,g4⟩:=qge (K:=K) (el:=el) (l:=l++m) (xs:=bytV l++bytV m++rest) hH0.drew (by simp[hne]) (by rw[hcl,zLa];omega) (by rw[<-qhL,List.take_left' (qbI _)]) (fun v' H' h'=>hk v' H' h');rw[hcl,zLa] at g3;exact ⟨lv,H',L',g1.of_drew.wide (by simp),g2,g3,g4⟩
theorem S.appBL1 {sT xT el bytes:Nat} [ht:TSlice C.P sT el 1] [hr:TRow C.P el 1 bytes] {e2:Nat} [hx2:TSlice C.P xT e2 1] {v:Value} {l m:List UInt8} {H1:Heap} {q:Nat×LObj}
  (hx:e.ev x=.atom v) (ha:BRow el v l H1) (hy:GL.elems (e.ev y)=some (byts m)) (hm0:m≠[]) (hroom:(l.length+m.length) * bytes<=140737488355328)
  (hk:∀ v' H',BRow el v' (l++m) H'->K (.atom v') (q::H')):qag C ⟨dst,.call { callee:=.builtin .append,args:=#[x,y],argTypes:=#[sT,xT] },ty,pos,aft,g⟩ e (q::H1) K X:=by
 refine qag.conseq (K:=fun lv H'=>∃ v' H2,lv=.atom v'/\H'=H2++[q]/\BRow el v' (l++m) H2) (qag.frame (List.perm_append_singleton _ _).symm (qag.appBL hx ha hy hm0 hroom fun v' H' h=>⟨v',H',rfl,rfl,h⟩)) ?_;rintro lv H' ⟨v',H2,rfl,rfl,h⟩;exact ⟨_,[q]++H2,vR _,⟨[],by simp⟩,hk _ _ h⟩
theorem Pure.blen {t el el2 s:Nat} [TSlice C.P t el2 s] {v:Value} {l:List UInt8} {Hv:Heap} (hx:e.ev x=.atom v) (ha:BRow el v l Hv):Pure C ⟨dst,.call { callee:=.builtin .len,args:=#[x],argTypes:=#[t] },ty,pos,aft,g⟩ e H (int .i64 l.length):=
 .of_any fun ρ _ _ h=>⟨_,qar,fun w'=>by
  have hu:=qab (P:=C.P) (TSlice.und (t:=t)) w';rw[qaI,qee]
  cases ha <;> simp[Builtin.len_,hu,goInt,qam h hx]⟩
end
end Go.GL
namespace Go.Stele
abbrev Wd:=List UInt8
def qfj (s:Wd):Bool:=match s with
 |[]=>false
 |c::r=>decide (s.length<=40) && qaz c && s.all qaH
def defW (w:Wd):Option Wd:=if w.getLast? = some 58/\qfj w.dropLast=true then some w.dropLast else none
def refW (w:Wd):Option Wd:=match w with
 |[]=>none
 |c::r=>if c=38/\qfj r=true then some r else none
/-! ### A rule matches words that are there, and puts fewer in their place -/
end Go.Stele
namespace Go.Stele
open Go.Lib
def qaV (c:UInt8):List UInt8->List (List UInt8)
 |[]=>[[]]
 |d::r=>if d=c then []::qaV c r else match qaV c r with
  |p::ps=>(d::p)::ps
  |[]=>[[d]]
theorem qgd (c:UInt8):∀ s,∃ p ps,qaV c s=p::ps
 |[]=>⟨_,_,rfl⟩
 |d::r=>by
  obtain ⟨p,ps,h⟩:=qgd c r;rw[qaV,h];split
  ·exact ⟨_,_,rfl⟩
  ·exact ⟨_,_,rfl⟩
theorem qeo (c:UInt8) (r:List UInt8):qaV c (c::r)=[]::qaV c r:=by rw[qaV,if_pos rfl]
theorem qeN {c d:UInt8} (h:d≠c) (r:List UInt8):∃ p ps,qaV c r=p::ps/\qaV c (d::r)=(d::p)::ps:=by
 obtain ⟨p,ps,hp⟩:=qgd c r;exact ⟨p,ps,hp,by rw[qaV,if_neg h,hp]⟩
theorem qez {c:UInt8}:∀ {s:List UInt8},c ∉ s->qaV c s=[s]
 |[],_=>rfl
 |d::r,h=>by
  have hd:d≠c:=fun e=>h (by rw[e];exact List.mem_cons_self ..);have hr:c ∉ r:=fun e=>h (zMo _ e);rw[qaV,if_neg hd,qez hr]
theorem qhb {c:UInt8}:∀ {a b:List UInt8},c ∉ a->qaV c (a++c::b)=a::qaV c b
 |[],b,_=>qeo c b
 |d::a,b,h=>by
  have hd:d≠c:=fun e=>h (by rw[e];exact List.mem_cons_self ..);have ha:c ∉ a:=fun e=>h (zMo _ e);rw[List.cons_append,qaV,if_neg hd,qhb ha]
/-! ### The library's words for it -/
theorem qfH {c:UInt8}:∀ {s:List UInt8},c ∉ s->index s [c] = -1
 |[],_=>rfl
 |d::r,h=>by
  have hd:¬ c=d:=fun e=>h (by rw[e];exact List.mem_cons_self ..);have hr:c ∉ r:=fun e=>h (zMo _ e);have hp:([c]:List UInt8).isPrefixOf (d::r)=false:=by simp[List.isPrefixOf,hd]
  rw[index,hp,qfH hr]
  try rfl
theorem qgy {c:UInt8}:∀ {a b:List UInt8},c ∉ a->index (a++c::b) [c]=(a.length:Int)
 |[],b,_=>by
  have hp:([c]:List UInt8).isPrefixOf (c::b)=true:=by simp[List.isPrefixOf]
  rw[List.nil_append,index,hp]
  try rfl
 |d::a,b,h=>by
  have hd:¬ c=d:=fun e=>h (by rw[e];exact List.mem_cons_self ..);have ha:c ∉ a:=fun e=>h (zMo _ e);have hp:([c]:List UInt8).isPrefixOf (d::(a++c::b))=false:=by simp[List.isPrefixOf,hd]
  rw[List.cons_append,index,hp,qgy ha,if_neg zDd,if_neg (by
   intro h;have:=eq_of_beq h
   omega)]
  simp
theorem qiW {c:UInt8} {s:List UInt8} (h:c∈s):∃ a b,s=a++c::b/\c ∉ a:=List.eq_append_cons_of_mem h
theorem qrX (c:UInt8) (s:List UInt8):(cut s [c]).1=s.takeWhile (fun d=>decide (d≠c)):=by
 by_cases h:c∈s
 ·obtain ⟨a,b,rfl,ha⟩:=qiW h
  have h1:∀ x∈a,decide (x≠c)=true:=fun x hx=>by
   simp only[zDe];rintro rfl;exact ha hx
  rw[cut,qgy ha,if_pos (by omega),List.takeWhile_append_of_pos h1,List.takeWhile_cons_of_neg (by simp)]
  simp
 ·have h1:∀ x∈s,decide (x≠c)=true:=fun x hx=>by
   simp only[zDe];rintro rfl;exact h hx
  rw[cut,qfH h,if_neg zDd];have:=List.takeWhile_append_of_pos (l₂:=[]) h1;simpa using this.symm
theorem qgg (c:UInt8):∀ (f:Nat) (s:List UInt8),s.length<f->countFrom [c] f s=s.count c
 |0,s,h=>by omega
 |f+1,s,h=>by
  rw[countFrom]
  by_cases hc:c∈s
  ·obtain ⟨a,b,rfl,ha⟩:=qiW hc
   rw[qgy ha,if_neg (by
    intro h;have:=eq_of_beq h
    omega)]
   have hd:(a++c::b).drop ((a.length:Int).toNat+[c].length)=b:=by
    rw[show (a.length:Int).toNat+[c].length=a.length+1 by simp];rw[<-List.drop_drop,List.drop_left]
    try rfl
   rw[hd,qgg c f b (by simp only[zLa,zLc] at h;omega)];rw[List.count_append,List.count_cons_self,List.count_eq_zero.2 ha];omega
  ·rw[qfH hc,if_pos zDd,List.count_eq_zero.2 hc]
theorem qjN (c:UInt8):∀ (k:Nat) (s:List UInt8),s.count c<=k->splitK [c] 0 k s=qaV c s
 |0,s,h=>by
  have hc:c ∉ s:=List.count_eq_zero.1 (by omega)
  rw[splitK,qez hc]
 |k+1,s,h=>by
  rw[splitK]
  by_cases hc:c∈s
  ·obtain ⟨a,b,rfl,ha⟩:=qiW hc
   rw[qgy ha,if_neg (by
    intro h;have:=eq_of_beq h
    omega),qhb ha]
   have hd:(a++c::b).drop ((a.length:Int).toNat+[c].length)=b:=by
    rw[show (a.length:Int).toNat+[c].length=a.length+1 by simp];rw[<-List.drop_drop,List.drop_left]
    try rfl
   rw[hd,show (a.length:Int).toNat+0=a.length by simp,List.take_left,qjN c k b (by
    rw[List.count_append,List.count_cons_self] at h
    omega)]
  ·rw[qfH hc,if_pos zDd,qez hc]
theorem qpq (c:UInt8) (s:List UInt8):split s [c]=qaV c s:=by
 rw[split,count,qjN c _ s (by rw[qgg c _ s (by omega)];exact zNr _)]
/-! ### Words -/
def full (l:List (List UInt8)):List Wd:=l.filter fun w=>decide (w≠[])
def qfN (s:List UInt8):List Wd:=full (qaV 32 (s.takeWhile fun d=>decide (d≠35)))
def qbo (s:List UInt8):List Wd:=(qaV 10 s).flatMap qfN
def qd9 (cur:List UInt8):List Wd:=if cur=[] then [] else [cur]
def qch:List UInt8->Bool->List UInt8->List Wd
 |cur,_,[]=>qd9 cur
 |cur,com,c::r=>
  if c=10 then qd9 cur++qch [] false r
  else if com=true then qch cur true r
  else if c=35 then qd9 cur++qch [] true r
  else if c=32 then qd9 cur++qch [] false r
  else qch (cur++[c]) false r
def qgF (cur:List UInt8) (com:Bool) (l:List UInt8):List Wd:=if com=true then qd9 cur else qfN (cur++l)
theorem qrn (a b:List (List UInt8)):full (a++b)=full a++full b:=List.filter_append ..
theorem qkp (a:List UInt8):full [a]=qd9 a:=by
 unfold full qd9
 by_cases h:a=[] <;> simp[h]
def qd3 (cur:List UInt8):Prop:=∀ c∈cur,c≠10/\c≠32/\c≠35
theorem qpm {cur:List UInt8} (h:qd3 cur) (l:List UInt8):qfN (cur++35::l)=qd9 cur:=by
 have h1:∀ x∈cur,decide (x≠35)=true:=fun x hx=>by simp only[zDe];exact (h x hx).2.2
 have h2:(32:UInt8) ∉ cur:=fun hx=>(h 32 hx).2.1 rfl;unfold qfN;rw[List.takeWhile_append_of_pos h1,List.takeWhile_cons_of_neg (by simp),zLz,qez h2,qkp]
theorem qnM {cur:List UInt8} (h:qd3 cur):qfN cur=qd9 cur:=by
 have h1:∀ x∈cur,decide (x≠35)=true:=fun x hx=>by simp only[zDe];exact (h x hx).2.2
 have h2:(32:UInt8) ∉ cur:=fun hx=>(h 32 hx).2.1 rfl;have h3:=List.takeWhile_append_of_pos (l₂:=[]) h1;rw[zLz,List.takeWhile_nil,zLz] at h3;unfold qfN;rw[h3,qez h2,qkp]
theorem qok {cur:List UInt8} (h:qd3 cur) (l:List UInt8):qfN (cur++32::l)=qd9 cur++qfN l:=by
 have h1:∀ x∈cur,decide (x≠35)=true:=fun x hx=>by simp only[zDe];exact (h x hx).2.2
 have h2:(32:UInt8) ∉ cur:=fun hx=>(h 32 hx).2.1 rfl;unfold qfN;rw[List.takeWhile_append_of_pos h1,List.takeWhile_cons_of_pos zDd,qhb h2,<-List.singleton_append,qrn,qkp]
theorem qgV:∀ (s cur:List UInt8) (com:Bool) (p:List UInt8) (ps:List (List UInt8)),qd3 cur->(com=true->cur=[])->qaV 10 s=p::ps->qch cur com s=qgF cur com p++ps.flatMap qfN
 |[],cur,com,p,ps,hc,hcom,hp=>by
  cases hp;rw[qch,qgF]
  cases com with
  |true=>simp
  |false=>simp[qnM hc]
 |c::r,cur,com,p,ps,hc,hcom,hp=>by
  obtain ⟨q,qs,hq⟩:=qgd 10 r;rw[qch]
  by_cases h10:c=10
  ·subst h10;rw[qeo,hq] at hp;cases hp;rw[if_pos rfl,qgV r [] false q qs (fun x hx=>by cases hx) (by simp) hq]
   have:qgF cur com []=qd9 cur:=by
    unfold qgF
    cases com with
    |true=>rfl
    |false=>rw[if_neg zDd,zLz,qnM hc]
   rw[this];simp[qgF]
  ·clear hq;obtain ⟨q,qs,hq,hp'⟩:=qeN h10 r;rw[hp'] at hp;cases hp;rw[if_neg h10]
   cases com with
   |true=>
    obtain rfl:=hcom rfl;rw[if_pos rfl,qgV r [] true q ps (fun x hx=>by cases hx) (fun _=>rfl) hq]
    simp[qgF]
   |false=>
    rw[if_neg zDd]
    by_cases h35:c=35
    ·subst h35;rw[if_pos rfl,qgV r [] true q ps (fun x hx=>by cases hx) (fun _=>rfl) hq];have:qgF cur false (35::q)=qd9 cur:=by unfold qgF;rw[if_neg zDd,qpm hc]
     rw[this];simp[qgF,qd9]
    ·rw[if_neg h35]
     by_cases h32:c=32
     ·subst h32;rw[if_pos rfl,qgV r [] false q ps (fun x hx=>by cases hx) (by simp) hq];have:qgF cur false (32::q)=qd9 cur++qfN q:=by unfold qgF;rw[if_neg zDd,qok hc]
      rw[this,zAs];simp[qgF]
     ·rw[if_neg h32,qgV r (cur++[c]) false q ps (fun x hx=>by
       rcases List.mem_append.1 hx with h|h
       ·exact hc x h
       ·obtain rfl:=List.mem_singleton.1 h
        exact ⟨h10,h32,h35⟩) (by simp) hq]
      simp[qgF]
theorem qjH (s:List UInt8):qch [] false s=qbo s:=by
 obtain ⟨p,ps,hp⟩:=qgd 10 s;rw[qgV s [] false p ps (fun x hx=>by cases hx) (by simp) hp];unfold qbo;rw[hp];simp[qgF]
end Go.Stele
namespace Go.Stele
open Go.Lib
/-! ### What holds of all words goes on holding -/
/-! ### Words joined and cut again -/
def qcR (w:Wd):Prop:=w≠[]/\qd3 w
theorem qir (n:Nat):qcR (decDigits n):=⟨qcV n,fun c hc=>by
 have:=qfL n c hc
 refine ⟨?_,?_,?_⟩ <;> (rintro rfl;exact absurd this zDd)⟩
theorem qhl {c:UInt8} {l:List UInt8}:∀ p∈qaV c l,c ∉ p/\∀ x∈p,x∈l:=by
 induction l with
 |nil=>
  intro p hp;obtain rfl:=List.mem_singleton.1 hp
  exact ⟨by simp,by simp⟩
 |cons d r ih=>
  intro p hp
  by_cases h:d=c
  ·subst h;rw[qeo] at hp;rcases zMi.1 hp with rfl|hp
   ·exact ⟨by simp,by simp⟩
   ·exact ⟨(ih p hp).1,fun x hx=>zMo _ ((ih p hp).2 x hx)⟩
  ·obtain ⟨q,qs,h1,h2⟩:=qeN h r;rw[h2] at hp;rw[h1] at ih;rcases zMi.1 hp with rfl|hp
   ·have:=ih q zMs;refine ⟨fun hm=>?_,fun x hx=>?_⟩
    ·rcases zMi.1 hm with e|hm
     ·exact h e.symm
     ·exact this.1 hm
    ·rcases zMi.1 hx with rfl|hx
     ·exact List.mem_cons_self ..
     ·exact zMo _ (this.2 x hx)
   ·have:=ih p (zMo _ hp);exact ⟨this.1,fun x hx=>zMo _ (this.2 x hx)⟩
theorem qmV {l:List UInt8} (h:(10:UInt8) ∉ l):∀ w∈qfN l,qcR w:=by
 intro w hw;obtain ⟨h1,h2⟩:=List.mem_filter.1 hw;obtain ⟨h3,h4⟩:=qhl w h1;refine ⟨of_decide_eq_true h2,fun c hc=>⟨?_,?_,?_⟩⟩
 ·rintro rfl;exact h ((List.takeWhile_prefix _).subset (h4 _ hc))
 ·rintro rfl;exact h3 hc
 ·rintro rfl
  have:∀ (l:List UInt8),(35:UInt8) ∉ l.takeWhile fun d=>decide (d≠35):=by
   intro l
   induction l with
   |nil=>simp
   |cons d r ih=>
    rw[List.takeWhile_cons];split
    ·rename_i hd
     intro hm;rcases zMi.1 hm with e|hm
     ·rw[<-e] at hd;simp at hd
     ·exact ih hm
    ·simp
  exact this _ (h4 _ hc)
theorem qhg (s:List UInt8):∀ w∈qbo s,qcR w:=by
 intro w hw;obtain ⟨p,hp,hw⟩:=List.mem_flatMap.1 hw;exact qmV (qhl p hp).1 w hw
theorem qiP (x y:Wd) (r:List Wd):join (x::y::r) [32]=x++32::join (y::r) [32]:=by simp[join]
/-! ### The text does not grow -/
def tot (l:List Wd):Nat:=(l.map fun w=>w.length+1).sum
theorem qaY (w:Wd) (l:List Wd):tot (w::l)=w.length+1+tot l:=by simp[tot]
theorem qbr:tot []=0:=rfl
theorem qaj (a b:List Wd):tot (a++b)=tot a+tot b:=by simp[tot]
theorem qeQ:∀ l:List Wd,(join l [32]).length<=tot l
 |[]=>Nat.zero_le _
 |[a]=>by
  rw[join_one,qaY]
  omega
 |a::b::r=>by
  have:=qeQ (b::r);rw[qiP,qaY];simp only[zLa,zLc];omega
theorem qfA:∀ (s cur:List UInt8) (com:Bool),tot (qch cur com s)<=cur.length+s.length+1
 |[],cur,com=>by
  rw[qch];unfold qd9;split
  ·exact Nat.zero_le _
  ·simp[tot]
 |c::r,cur,com=>by
  have hf:tot (qd9 cur)<=cur.length+1:=by
   unfold qd9;split
   ·exact Nat.zero_le _
   ·simp[tot]
  rw[qch];simp only[zLc];split
  ·have:=qfA r [] false;rw[qaj];simp only[zLn] at this;omega
  split
  ·have:=qfA r cur true;omega
  split
  ·have:=qfA r [] true;rw[qaj];simp only[zLn] at this;omega
  split
  ·have:=qfA r [] false;rw[qaj];simp only[zLn] at this;omega
  ·have:=qfA r (cur++[c]) false;rw[zLa,List.length_singleton] at this;omega
theorem qip (s:List UInt8):tot (qbo s)<=s.length+1:=by
 rw[<-qjH];have:=qfA s [] false;simpa using this
end Go.Stele
namespace Go.Stele
open Go.Lib
/-! ### Numbers, digit by digit -/
/-! ### Labels -/
theorem qkJ (c:UInt8) (r:List UInt8):qfj (c::r)=(decide ((c::r).length<=40) && qaz c && (c::r).all qaH):=rfl
theorem qre {s:Wd} (h:qfj s=true):s≠[]:=by
 rintro rfl;cases h
/-! ### The words of assembly, with their lines -/
def qjs:Nat->List (List UInt8)->List (Wd×Nat)
 |_,[]=>[]
 |n,l::r=>(qfN l).map (fun w=>(w,n+1))++qjs (n+1) r
def qje (s:List UInt8):List (Wd×Nat):=qjs 0 (qaV 10 s)
theorem qlJ:∀ (l:List (List UInt8)) (n:Nat),(qjs n l).map (·.1)=l.flatMap qfN
 |[],_=>rfl
 |a::r,n=>by
  rw[qjs,zMa,List.map_map,qlJ r];simp[Function.comp_def]
theorem qfk (s:List UInt8):(qje s).map (·.1)=qbo s:=qlJ _ 0
theorem qod {l:List (List UInt8)} {i:Nat} (h:i<l.length) (n:Nat):qjs n (l.drop i)=(qfN l[i]).map (fun w=>(w,n+1))++qjs (n+1) (l.drop (i+1)):=by
 rw[List.drop_eq_getElem_cons h,qjs]
theorem qpQ {l:List (List UInt8)} {i:Nat} (h:i<l.length):full (l.drop i)=if l[i]=[] then full (l.drop (i+1)) else l[i]::full (l.drop (i+1)):=by
 rw[List.drop_eq_getElem_cons h];unfold full;rw[List.filter_cons]
 by_cases hc:l[i]=[]
 ·simp[hc]
 ·simp[hc]
theorem qhe (c:UInt8):∀ s,(qaV c s).length<=s.length+1
 |[]=>by simp[qaV]
 |d::r=>by
  have:=qhe c r
  by_cases h:d=c
  ·subst h;rw[qeo];simp only[zLc];omega
  ·obtain ⟨p,ps,h1,h2⟩:=qeN h r;rw[h2];rw[h1] at this;simp only[zLc] at this ⊢;omega
theorem qdp {c:UInt8}:∀ {s p:List UInt8},p∈qaV c s->p.length<=s.length
 |[],p,h=>by
  obtain rfl:=List.mem_singleton.1 h
  exact zNr _
 |d::r,p,h=>by
  by_cases hd:d=c
  ·subst hd;rw[qeo] at h;rcases zMi.1 h with rfl|h
   ·exact Nat.zero_le _
   ·have:=qdp h;simp only[zLc];omega
  ·obtain ⟨q,qs,h1,h2⟩:=qeN hd r;rw[h2] at h;rcases zMi.1 h with rfl|h
   ·have:=qdp (c:=c) (s:=r) (p:=q) (by rw[h1];exact List.mem_cons_self ..);simp only[zLc];omega
   ·have:=qdp (c:=c) (s:=r) (p:=p) (by rw[h1];exact zMo _ h);simp only[zLc];omega
theorem qg8 (s:List UInt8):(qbo s).length<=s.length+1:=by
 have h1:=qip s
 have h2:(qbo s).length<=tot (qbo s):=by
  unfold tot;generalize qbo s=l
  induction l with
  |nil=>exact zNr _
  |cons a l ih=>
   simp only[zLc,zMc,List.sum_cons];omega
 omega
theorem qml {l:List Wd} {w:Wd} (h:w∈l):w.length+1<=tot l:=by
 induction l with
 |nil=>cases h
 |cons a l ih=>
  rw[qaY];rcases zMi.1 h with rfl|h
  ·omega
  ·have:=ih h;omega
theorem qsA (l:List Wd):l.length<=tot l:=by
 induction l with
 |nil=>exact Nat.zero_le _
 |cons a l ih=>
  rw[qaY,zLc];omega
end Go.Stele
namespace Go.Stele
open Go.Lib
def qg5:List UInt8:=[43,45,42,47,37,94,60,64,33,63,58,59,44,46,36,48,49,50,51,52,53,54,55,56,57]
def qeI (w:Wd):Bool:=w.all fun c=>qg5.contains c
def defs (l:List Wd):List Wd:=l.filterMap defW
def OkW (ds:List Wd) (w:Wd):Prop:=match defW w with
 |some _=>True
 |none=>match refW w with
  |some d=>d∈ds
  |none=>qeI w=true
def AsmOk (l:List Wd):Prop:=(defs l).Nodup/\∀ w∈l,OkW (defs l) w
def qcz (w:Wd):Bool:=match w with
 |[]=>false
 |c::_=>qao c
def qcY (w:Wd):Bool:=match w.getLast? with
 |some c=>qao c
 |none=>false
def one (d:Bool):Nat:=if d=true then 1 else 0
def lenW:Bool->List Wd->Nat
 |_,[]=>0
 |d,w::r=>match defW w with
  |some _=>lenW d r
  |none=>match refW w with
   |some _=>one d+6+lenW true r
   |none=>one (d && qcz w)+w.length+lenW (qcY w) r
/-! ### Kinds of words -/
/-! ### Lengths -/
theorem qpA (d:Bool):one d<=1:=by cases d <;> simp[one]
theorem qi2 (w:Wd) (l:List Wd):defs (w::l)=(match defW w with|some d=>[d]|none=>[])++defs l:=by
 unfold defs;rw[List.filterMap_cons]
 try cases defW w <;> rfl
theorem qpY {w:Wd} (h:defW w=none) (l:List Wd):defs (w::l)=defs l:=by rw[qi2,h];try rfl
theorem qkb (a b:List Wd):defs (a++b)=defs a++defs b:=List.filterMap_append
/-! ### A pass -/
end Go.Stele
namespace Go.Stele
open Go.Lib
def qev (n:Nat):Wd:=([48,48,48,48,48]++decDigits n).drop (([48,48,48,48,48]++decDigits n).length-6)
def qbN (known:Wd->Nat) (w:Wd):Wd:=match refW w with
 |some x=>qev (known x)
 |none=>w
def addT (known:Wd->Nat) (t w:Wd):Wd:=match defW w with
 |some _=>t
 |none=>t++(if qcY t && qcz (qbN known w) then [32] else [])++qbN known w
def qiL (known:Wd->Nat) (l:List Wd):Wd:=l.foldl (addT known) []
def qbp (known:Wd->Nat) (og:Nat) (s:Wd×List (Wd×Nat)) (w:Wd):Wd×List (Wd×Nat):=match defW w with
 |some x=>(s.1,s.2++[(x,og+s.1.length)])
 |none=>(addT known s.1 w,s.2)
def qhD (known:Wd->Nat) (og:Nat) (l:List Wd):List (Wd×Nat):=(l.foldl (qbp known og) ([],[])).2
def qb8 (labs:List (Wd×Nat)) (x:Wd):Nat:=match labs.find? fun p=>decide (p.1=x) with
 |some p=>p.2
 |none=>0
def errT (all:List Wd):List Wd->List (Wd×Nat)->Nat×Nat
 |_,[]=>(0,0)
 |met,(w,ln)::r=>match defW w with
  |some x=>if x∈met then (ln,8) else errT all (met++[x]) r
  |none=>match refW w with
   |some x=>if x∈all then errT all met r else (ln,7)
   |none=>if qeI w=true then errT all met r else (ln,3)
def asmP (src:Wd) (og:Int):Except (Nat×Nat) (Wd×List (Wd×Nat)):=
 if og<0∨262144<=og then .error (0,2)
 else if (errT (defs (qbo src)) [] (qje src)).2≠0 then .error (errT (defs (qbo src)) [] (qje src))
 else if 40000<(qiL (qb8 (qhD (fun _=>0) og.toNat (qbo src))) (qbo src)).length then .error (0,6)
 else .ok (qiL (qb8 (qhD (fun _=>0) og.toNat (qbo src))) (qbo src),qhD (fun _=>0) og.toNat (qbo src))
theorem qiM (n:Nat):(qev n).length=6/\∀ c∈qev n,qao c=true:=by
 have h1:1<=(decDigits n).length:=List.length_pos_iff.2 (qcV n);constructor
 ·unfold qev;rw[List.length_drop,zLa];simp only[zLc,zLn];omega
 ·intro c hc;have h2:=List.mem_of_mem_drop hc;rcases List.mem_append.1 h2 with h|h
  ·simp only[zMi,List.not_mem_nil,or_false,or_self] at h;rw[h];decide
  ·exact qfL n c h
theorem qmD {known:Wd->Nat} {w:Wd} (known':Wd->Nat):qcz (qbN known w)=qcz (qbN known' w)/\qcY (qbN known w)=qcY (qbN known' w)/\(qbN known w).length=(qbN known' w).length:=by
 unfold qbN
 cases refW w with
 |none=>exact ⟨rfl,rfl,rfl⟩
 |some x=>
  have key:∀ n,qcz (qev n)=true/\qcY (qev n)=true/\(qev n).length=6:=fun n=>by
   obtain ⟨h1,h2⟩:=qiM n;have hne:qev n≠[]:=fun h=>by rw[h] at h1;cases h1
   refine ⟨?_,?_,h1⟩
   ·cases h:qev n with
    |nil=>exact absurd h hne
    |cons c r=>exact h2 c (by rw[h];simp)
   ·unfold qcY;rw[List.getLast?_eq_some_getLast hne];exact h2 _ (List.getLast_mem hne)
  obtain ⟨a1,a2,a3⟩:=key (known x);obtain ⟨b1,b2,b3⟩:=key (known' x);exact ⟨a1.trans b1.symm,a2.trans b2.symm,a3.trans b3.symm⟩
theorem qpg {a b:Wd} (h:b≠[]):qcY (a++b)=qcY b:=by
 unfold qcY;rw[List.getLast?_append,List.getLast?_eq_some_getLast h];try rfl
theorem qhX (known:Wd->Nat) (t w:Wd) (hd:defW w=none) (hw:w≠[]):qbN known w≠[]/\qcY (addT known t w)=qcY (qbN known w)/\(addT known t w).length=t.length+one (qcY t && qcz (qbN known w))+(qbN known w).length:=by
 have hp:qbN known w≠[]:=by
  unfold qbN
  cases refW w with
  |none=>exact hw
  |some x=>intro h;have:=(qiM (known x)).1;rw[show qev (known x)=[] from h] at this;cases this
 refine ⟨hp,?_,?_⟩
 ·unfold addT;rw[hd];exact qpg hp
 ·unfold addT;rw[hd];simp only[zLa,one];split <;> rfl
theorem qiV (known:Wd->Nat):∀ (l:List Wd) (t:Wd),(∀ w∈l,w≠[])->(l.foldl (addT known) t).length=t.length+lenW (qcY t) l
 |[],t,_=>rfl
 |w::r,t,h=>by
  have hr:=fun x hx=>h x (zMo w hx);rw[List.foldl_cons,qiV known r _ hr,lenW]
  cases hd:defW w with
  |some x=>
   have:addT known t w=t:=by unfold addT;rw[hd]
   rw[this]
  |none=>
   obtain ⟨h1,h2,h3⟩:=qhX known t w hd (h w (by simp));rw[h2,h3]
   cases hr:refW w with
   |some x=>
    have hp:qbN known w=qev (known x):=by unfold qbN;rw[hr]
    obtain ⟨a1,a2⟩:=qiM (known x)
    have hf:qcz (qev (known x))=true:=by
     cases h:qev (known x) with
     |nil=>rw[h] at a1;cases a1
     |cons c q=>exact a2 c (by rw[h];simp)
    have hl:qcY (qev (known x))=true:=by
     have hne:qev (known x)≠[]:=fun h=>by rw[h] at a1;cases a1
     unfold qcY;rw[List.getLast?_eq_some_getLast hne];exact a2 _ (List.getLast_mem hne)
    rw[hp,hf,hl,a1,Bool.and_true];simp only
    omega
   |none=>
    have hp:qbN known w=w:=by unfold qbN;rw[hr]
    rw[hp];simp only;omega
theorem qiI (known:Wd->Nat) (l:List Wd) (h:∀ w∈l,w≠[]):(qiL known l).length=lenW false l:=by
 have:=qiV known l [] h;rw[qiL,this];simp[qcY]
theorem qdZ (known:Wd->Nat) (og:Nat):∀ (l:List Wd) (s:Wd×List (Wd×Nat)),(l.foldl (qbp known og) s).1=l.foldl (addT known) s.1
 |[],s=>rfl
 |w::r,s=>by
  rw[List.foldl_cons,List.foldl_cons,qdZ known og r];congr 1;unfold qbp
  cases hd:defW w with
  |some x=>simp only;unfold addT;rw[hd]
  |none=>rfl
theorem qke (known known':Wd->Nat) (og:Nat):∀ (l:List Wd) (s s':Wd×List (Wd×Nat)),(∀ w∈l,w≠[])->s.1.length=s'.1.length->qcY s.1=qcY s'.1->s.2=s'.2->(l.foldl (qbp known og) s).2=(l.foldl (qbp known' og) s').2
 |[],s,s',_,_,_,h=>h
 |w::r,s,s',hw,h1,h2,h3=>by
  rw[List.foldl_cons,List.foldl_cons];have hr:=fun x hx=>hw x (zMo w hx)
  cases hd:defW w with
  |some x=>
   have e1:qbp known og s w=(s.1,s.2++[(x,og+s.1.length)]):=by unfold qbp;rw[hd]
   have e2:qbp known' og s' w=(s'.1,s'.2++[(x,og+s'.1.length)]):=by unfold qbp;rw[hd]
   rw[e1,e2]
   exact qke known known' og r _ _ hr h1 h2 (by simp only[h3,h1])
  |none=>
   have e1:qbp known og s w=(addT known s.1 w,s.2):=by unfold qbp;rw[hd]
   have e2:qbp known' og s' w=(addT known' s'.1 w,s'.2):=by unfold qbp;rw[hd]
   rw[e1,e2];obtain ⟨a1,a2,a3⟩:=qhX known s.1 w hd (hw w (by simp));obtain ⟨b1,b2,b3⟩:=qhX known' s'.1 w hd (hw w (by simp));obtain ⟨c1,c2,c3⟩:=qmD (known:=known) (w:=w) known';exact qke known known' og r _ _ hr (by rw[a3,b3,c1,c3,h1,h2]) (by rw[a2,b2,c2]) h3
theorem qpC (known known':Wd->Nat) (og:Nat) (l:List Wd) (h:∀ w∈l,w≠[]):qhD known og l=qhD known' og l:=qke known known' og l _ _ h rfl rfl rfl
theorem qiB (known:Wd->Nat) (og:Nat):∀ (l:List Wd) (s:Wd×List (Wd×Nat)),((l.foldl (qbp known og) s).2).map (·.1)=s.2.map (·.1)++defs l
 |[],s=>by simp[defs]
 |w::r,s=>by
  rw[List.foldl_cons,qiB known og r];unfold qbp defs
  cases hd:defW w with
  |some x=>simp[hd]
  |none=>simp[hd]
end Go.Stele
namespace Go.Stele
open Go.Lib
theorem qdE {p:UInt8->Bool}:∀ {l:List UInt8},l.dropWhile p=[] ↔ l.all p=true
 |[]=>by simp
 |c::l=>by
  rw[List.dropWhile_cons,List.all_cons]
  cases h:p c with
  |true=>simpa using qdE
  |false=>simp
theorem qdY (c:UInt8) (n:Nat) (h:n<256):(c=UInt8.ofNat n) ↔ (c.toNat:Int)=n:=by
 constructor
 ·rintro rfl;rw[UInt8.toNat_ofNat'];omega
 ·intro h1;apply UInt8.toNat_inj.1;rw[UInt8.toNat_ofNat'];omega
theorem qo6 (r:List UInt8):hasPrefix (38::r) [38]=true/\trimPrefix (38::r) [38]=r:=by
 simp[trimPrefix,hasPrefix,List.isPrefixOf]
theorem qqW {c:UInt8} (h:c≠38) (r:List UInt8):hasPrefix (c::r) [38]=false:=by
 have:¬ (38:UInt8)=c:=fun e=>h e.symm;simp[hasPrefix,List.isPrefixOf,this]
theorem qs7 (w:Wd):refW w=if hasPrefix w [38]=true/\qfj (trimPrefix w [38])=true then some (trimPrefix w [38]) else none:=by
 cases w with
 |nil=>rfl
 |cons c r=>
  by_cases h:c=38
  ·subst h;rw[(qo6 r).1,(qo6 r).2];simp[refW]
  ·rw[qqW h];simp[refW,h]
theorem qjI (w:Wd):hasSuffix w [58]=decide (w.getLast? = some 58):=by
 unfold hasSuffix;rw[Bool.eq_iff_iff,List.isSuffixOf_iff_suffix,decide_eq_true_iff];constructor
 ·rintro ⟨t,rfl⟩
  simp
 ·intro h;rw[List.getLast?_eq_some_iff] at h;obtain ⟨t,rfl⟩:=h;exact ⟨t,rfl⟩
theorem qsQ (w:Wd):defW w=if hasSuffix w [58]=true/\qfj (trimSuffix w [58])=true then some (trimSuffix w [58]) else none:=by
 rw[qjI];unfold defW
 by_cases h:w.getLast? = some 58
 ·have h2:trimSuffix w [58]=w.dropLast:=by
   unfold trimSuffix;rw[qjI,decide_eq_true h,if_pos rfl,List.dropLast_eq_take]
   try rfl
  rw[h2];simp[h]
 ·simp[h]
end Go.Stele
namespace Go.GL
open Go.RowKit
theorem qaC:∀ l:List (List UInt8),qdc 1 (l.map str)
 |[]=>eN
 |a::l=>zeC rfl rfl (qaC l)
theorem LCalls.ret_strs {C:Ctx} {f:FuncId} {vs:List Value} {l:List (List UInt8)} {t:TypeId}
  (h:∀ w,Below C.B0 C.w0 w->Calls C.P f vs.toArray w (fun e w'=>e=.returned (.slice (some ⟨w.heap.size,0,none⟩) l.length l.length)/\w'=w.alloc (.cells (l.map fun s=>Value.string ⟨s.toArray⟩).toArray t))):LCalls C f (vs.map .atom) [] (Ret (.list (l.map str))):=fun xs w L hv hH=>by
 have hx:xs=vs:=by
  clear h hH
  induction vs generalizing xs with
  |nil=>simpa [RepL] using hv
  |cons v vs ih=>
   simp only[zMc,RepL,Rep] at hv;obtain ⟨y,ys,rfl,rfl,hv⟩:=hv;rw[ih _ hv]
 subst hx;refine (h w hH.base).mono fun e w' he=>?_;obtain ⟨rfl,rfl⟩:=he
 have hr:RepL w L (l.map str) (l.map fun s=>Value.string ⟨s.toArray⟩):=by
  have:=qbh (w:=w) (L:=L) (l.map fun s=>Value.string ⟨s.toArray⟩);rw[List.map_map] at this;exact this
 have hok:qdc 1 (l.map str):=qaC l;have hl:(l.map str).length=l.length:=zLm _;have:=qiv (K:=fun lv H=>∃ b,lv=.app b l.length 1 (l.map str)) (t:=t) (cap:=l.length) (rest:=[]) hH hr hok zo (by simp) fun b=>⟨b,rfl⟩
 have e1:((l.map fun s=>Value.string ⟨s.toArray⟩).flatMap fun v=>v.cells.toList)++[]=l.map fun s=>Value.string ⟨s.toArray⟩:=by
  rw[zLz];clear this hok hr h hv hl
  induction l with
  |nil=>rfl
  |cons a l ih=>rw[zMc,List.flatMap_cons,ih];try rfl
 rw[e1,hl] at this;obtain ⟨lv,H',L',r1,r2,r3,b,rfl⟩:=this;exact ⟨.list (l.map str),[],L',r1.weak zhn,r2.weak zhn,LV.Sub.app _ _ _ _ _ _ _ r3,rfl,rfl⟩
end Go.GL
namespace Go.Proofs.YthmhncflhnbedaaGreatDoor
open Go.GL Go.RowKit Go.Stele
namespace Asm
def GM (w0:World):Prop:=∃ m,w0.cell? ⟨0,0,none⟩=some (.int .i64 m)
theorem qjK {w:World} {L:Live} {b:Nat}:∀ (k off:Nat) (ws:List (List UInt8)),qas w L b k off (ws.map str)->∀ (j:Nat) x,(ws.map fun l=>(⟨l.toArray⟩:ByteArray))[j]? = some x->k=1/\w.cell? ⟨b,off+j,none⟩=some (.string x)
 |k,off,[],_,j,x,h=>by simp at h
 |k,off,s::ws,h,0,x,hx=>by
  simp only[zMc,qas] at h;obtain ⟨⟨hk,_,y,hy,hr⟩,_⟩:=h;simp only[Rep] at hr;simp at hx;rw[<-hx,Nat.add_zero,hy,hr]
  exact ⟨hk.symm,rfl⟩
 |k,off,s::ws,h,j+1,x,hx=>by
  simp only[zMc,qas] at h;obtain ⟨⟨hk,_⟩,h2⟩:=h;have:=qjK k (off+k) ws h2 j x (by simpa using hx);refine ⟨hk.symm,?_⟩;rw[<-this.2,<-hk,Nat.add_assoc,Nat.add_comm 1 j]
section
variable {B0:Nat} {w0:World}
theorem qjn (s p:List UInt8):LCalls (KC B0 w0) 126 [str s,str p] [] (Ret (.tuple [str (Go.Lib.trimPrefix s p),bool (Go.Lib.hasPrefix s p)])):=by
 refine LCalls.mono (LCalls.of_belowT (vs:=[.string ⟨s.toArray⟩,.string ⟨p.toArray⟩]) (p:=fun us=>us=[.string ⟨(Go.Lib.trimPrefix s p).toArray⟩,.bool (Go.Lib.hasPrefix s p)]) fun w hw=>?_) ?_
 ·refine (Tryz.strings_CutPrefix ⟨s.toArray⟩ ⟨p.toArray⟩ w).mono fun e w' he=>⟨_,he.1,rfl,by rw[he.2];exact Below.refl _ _⟩
 ·rintro r H ⟨v,rfl,⟨us,rfl,rfl⟩,rfl⟩;exact ⟨rfl,rfl⟩
theorem qju (s p:List UInt8) (hs:s.length<=1000000000):LCalls (KC B0 w0) 124 [str s,str p] [] (Ret (.tuple [str (Go.Lib.trimSuffix s p),bool (Go.Lib.hasSuffix s p)])):=by
 refine LCalls.mono (LCalls.of_belowT (vs:=[.string ⟨s.toArray⟩,.string ⟨p.toArray⟩]) (p:=fun us=>us=[.string ⟨(Go.Lib.trimSuffix s p).toArray⟩,.bool (Go.Lib.hasSuffix s p)]) fun w hw=>?_) ?_
 ·refine (Tryz.strings_CutSuffix ⟨s.toArray⟩ ⟨p.toArray⟩ w (by show s.toArray.size<=_;simp;omega)).mono fun e w' he=>⟨_,he.1,rfl,by rw[he.2];exact Below.refl _ _⟩
 ·rintro r H ⟨v,rfl,⟨us,rfl,rfl⟩,rfl⟩;exact ⟨rfl,rfl⟩
theorem joinS_spec (sep:List UInt8) (ws:List (List UInt8)) (hn:ws.length<=1000000000) (hl:(Go.Lib.join ws sep).length<=1000000000):LCalls (KC B0 w0) 22 [.list (ws.map str),str sep] [] (Ret (str (Go.Lib.join ws sep))):=fun xs w L hv hH=>by
 simp only[RepL] at hv;obtain ⟨y,ys,rfl,hy,z,zs,rfl,hz,rfl⟩:=hv;simp only[Rep] at hy hz;obtain ⟨a,cap,rfl,hcap,hrows⟩:=hy;subst hz;rw[zLm] at hcap
 have hmap:(ws.map fun l=>(⟨l.toArray⟩:ByteArray)).map (·.data.toList)=ws:=by
  rw[List.map_map]
  conv=>rhs;rw[<-List.map_id ws]
  rfl
 have hc:Calls Tryz.prog 22 #[.slice a ws.length cap,.string ⟨sep.toArray⟩] w fun e w'=>e=.returned (.string ⟨(Go.Lib.join ws sep).toArray⟩)/\Below w.heap.size w w':=by
  by_cases hne:ws=[]
  ·subst hne;exact (Tryz.strings_Join_none a cap ⟨sep.toArray⟩ w).mono fun e w' he=>⟨by rw[he.1];try rfl,by rw[he.2];exact Below.refl _ _⟩
  ·obtain ⟨b,off,k,rfl,hr⟩:=hrows (by simpa using hne);have hcells:=fun j x hx=>(qjK k off ws hr j x hx).2
   have hb:b<w.heap.size:=by
    obtain ⟨s,r,rfl⟩:=List.exists_cons_of_ne_nil hne;have:=hcells 0 _ rfl;exact World.block_lt_of_cell? _ _ this
   have:=Tryz.strings_Join b off cap (ws.map fun l=>(⟨l.toArray⟩:ByteArray)) ⟨sep.toArray⟩ w hcells hb (by rw[zLm];omega) (by rw[zLm];exact hcap) (by rw[hmap];show (Go.Lib.join ws sep).length<=_;omega);rw[zLm,hmap] at this;exact this
 rw[zLm];refine hc.mono fun e w' he=>?_;obtain ⟨rfl,hb⟩:=he;obtain ⟨h1,h2⟩:=qhM hH hb;exact ⟨str (Go.Lib.join ws sep),[],L,h1,h2,qar,rfl,rfl⟩
theorem GM.at (hG:GW B0 w0) (h:GM w0) {w:World} (hb:Below B0 w0 w):∃ m,w.cell? ⟨0,0,none⟩=some (.int .i64 m):=by
 obtain ⟨m,hm⟩:=h;exact ⟨m,(cell_of_heap (hb.block 0 (Nat.lt_of_lt_of_le zDd hG.big)) 0).trans hm⟩
theorem qjW (hG:GW B0 w0) (hM:GM w0) (s:List UInt8) (c:UInt8) (hs:s.length<=1000000000):LCalls (KC B0 w0) 64 [str s,str [c]] [] (Ret (.list ((qaV c s).map str))):=by
 rw[<-qpq];refine LCalls.ret_strs (vs:=[.string ⟨s.toArray⟩,.string ⟨#[c]⟩]) (t:=9) fun w hw=>?_;obtain ⟨m,hm⟩:=GM.at hG hM hw;have h1:=Tryz.strings_Split ⟨s.toArray⟩ ⟨#[c]⟩ m w (by show s.toArray.size<_;simp;omega) hm (zNr 1)
 have e1:(Go.Lib.splitB ⟨#[c]⟩ 0 (Go.Lib.countB ⟨s.toArray⟩ ⟨#[c]⟩) ⟨s.toArray⟩).map Value.string=(Go.Lib.split s [c]).map fun s=>Value.string ⟨s.toArray⟩:=by
  have:=Go.Lib.splitB_data ⟨#[c]⟩ 0 (Go.Lib.countB ⟨s.toArray⟩ ⟨#[c]⟩) ⟨s.toArray⟩;have e2:Go.Lib.split s [c]=Go.Lib.splitK (⟨#[c]⟩:ByteArray).data.toList 0 (Go.Lib.countB ⟨s.toArray⟩ ⟨#[c]⟩) (⟨s.toArray⟩:ByteArray).data.toList:=rfl;rw[e2,<-this,List.map_map]
  try rfl
 have e3:(Go.Lib.split s [c]).length=Go.Lib.countB ⟨s.toArray⟩ ⟨#[c]⟩+1:=by
  have:=congrArg List.length e1;rw[zLm,zLm,Go.Lib.splitB_all ⟨#[c]⟩ (zNr 1) 0 _ _ rfl] at this;exact this.symm
 rw[e1] at h1;rw[e3];exact h1
theorem qrd (hG:GW B0 w0) (hM:GM w0) (s:List UInt8) (c:UInt8) (hs:s.length<=1000000000):LCalls (KC B0 w0) 65 [str s,str [c]] [] (qh0 fun lv=>∃ a b,lv=.tuple [str (s.takeWhile fun d=>decide (d≠c)),str a,bool b]):=by
 rw[<-qrX];refine LCalls.mono (LCalls.of_belowT (vs:=[.string ⟨s.toArray⟩,.string ⟨#[c]⟩]) (p:=fun us=>us=[.string ⟨(Go.Lib.cut s [c]).1.toArray⟩,.string ⟨(Go.Lib.cut s [c]).2.1.toArray⟩,.bool (Go.Lib.cut s [c]).2.2]) fun w hw=>?_) ?_
 ·obtain ⟨m,hm⟩:=GM.at hG hM hw;refine (Tryz.strings_Cut ⟨s.toArray⟩ ⟨#[c]⟩ m w (by show s.toArray.size<_;simp;omega) hm).mono fun e w' he=>?_;obtain ⟨rfl,n,rfl⟩:=he;exact ⟨_,rfl,rfl,below_drewN (Below.refl _ _) n⟩
 ·rintro r H ⟨v,rfl,⟨us,rfl,rfl⟩,rfl⟩;exact ⟨_,rfl,⟨_,_,rfl⟩,rfl⟩
def qa1 (p:Wd×Nat):LV:=.agg [str p.1,int .i64 p.2]
end
def qkd:List UInt8:=[97,98,99,100,101,102,103,104,105,106,107,108,109,110,111,112,113,114,115,116,117,118,119,120,121,122,95,48,49,50,51,52,53,54,55,56,57]
theorem qnU (c:UInt8):qkd.contains c=qaH c:=by
 have:∀ n:Nat,n<256->qkd.contains (UInt8.ofNat n)=qaH (UInt8.ofNat n):=by decide +kernel
 have h:=this c.toNat c.toNat_lt
 rwa [UInt8.ofNat_toNat] at h
theorem qm3 {st:List UInt8} {p:UInt8->Bool} (he:∀ c,st.contains c=p c) (s:List UInt8):(Go.Lib.trimS s st=[]) ↔ s.all p=true:=by
 have he:(fun c=>st.contains c)=p:=funext he;unfold Go.Lib.trimS Go.Lib.trimLeftS Go.Lib.trimRightS;rw[he,qdE];constructor
 ·intro h
  by_cases h2:s.reverse.dropWhile p=[]
  ·rw[qdE] at h2;rw[List.all_reverse] at h2;exact h2
  ·exfalso;obtain ⟨c,r,hcr⟩:=List.exists_cons_of_ne_nil h2
   have h3:p c=false:=by
    have:=List.head?_dropWhile_not p s.reverse;rw[hcr] at this;simpa using this
   rw[hcr,List.all_reverse,List.all_cons,h3] at h;cases h
 ·intro h;have h2:s.reverse.dropWhile p=[]:=by rw[qdE,List.all_reverse];exact h
  rw[h2]
  try rfl
def qmK (o:Option Wd) (lv:LV):Prop:=∃ s,lv=.tuple [str s,bool o.isSome]/\∀ l,o=some l->s=l
theorem qmK.mk {o:Option Wd} {s:Wd} {b:Bool} (hb:o.isSome=b) (hs:∀ l,o=some l->s=l):qmK o (.tuple [str s,bool b]):=⟨s,by rw[hb],hs⟩
theorem qne {p q:Bool} {s:Wd} {o:Option Wd} (h:o=if p=true/\q=true then some s else none):o.isSome=(p && q)/\∀ l,o=some l->s=l:=by
 subst h;cases p <;> cases q <;> simp
attribute [local irreducible] LOps qae qag LCalls Go.GL.Pure qaA qaq qah LQ LAny qaF qap
section
variable {B0:Nat} {w0:World}
theorem qnI (s st:List UInt8) (hs:s.length<=1000000000) (h1:st.length<=100) (h3:st.all (fun b=>decide (b.toNat<128))=true):LCalls (KC B0 w0) 127 [str s,str st] [] (Ret (str (Go.Lib.trimS s st))):=
 LCalls.ret_of (vs:=[.string ⟨s.toArray⟩,.string ⟨st.toArray⟩]) fun w hw=>(Go.Proofs.Any.strings_Trim_laid Tryz.lays160 (by kernel_rfl) ⟨s.toArray⟩ ⟨st.toArray⟩ w (by show s.toArray.size<=_;simp;omega) (by show st.toArray.size<_;simp;omega) (Go.Proofs.ascii_of_all h3))
theorem qlf (s:List UInt8) (hs:s.length<=1000000000):LCalls (KC B0 w0) 125 [str s] [] (Ret (bool (qfj s))):=by
 have hT:=qnI (B0:=B0) (w0:=w0) s qkd hs zDd zDd;have hnil:=qm3 qnU s;refine cI Tryz.func125 rfl (n:=23) rfl rfl rfl ?_;refine gaa ?_;refine oB 5 rfl (fun h1=>?_) (fun h1=>?_)
 ·have e:s=[]:=of_decide_eq_true h1;subst e;refine gad ?_;refine oC rfl (fun h=>?_) (fun h=>by cases h);refine gap ?_;exact qac rfl (rC (rT (v:=.atom _) rfl (vR _)) rN) rfl
 have h1':¬ s=[]:=of_decide_eq_false h1
 obtain ⟨c,r,rfl⟩:∃ c r,s=c::r:=by
  cases s with
  |nil=>exact absurd rfl h1'
  |cons c r=>exact ⟨c,r,rfl⟩
 have hN:=qkJ c r;refine gac ?_;refine oB 10 rfl (fun h2=>?_) (fun h2=>?_)
 ·have h2':¬ (c::r).length<=40:=by have:=of_decide_eq_true h2;omega
  rw[decide_eq_false h2',Bool.false_and,Bool.false_and] at hN;refine gad ?_;refine oC rfl (fun h=>?_) (fun h=>by cases h);refine gap ?_;exact qac rfl (rC (rT (v:=.atom _) rfl (vR _)) rN) (qai hN.symm)
 have h2':(c::r).length<=40:=by have:=of_decide_eq_false h2;omega
 rw[decide_eq_true h2',Bool.true_and] at hN;refine gal ?_;refine oP (pI (c:=c) rfl rfl (by omega) rfl) rfl ?_;refine gad ?_;refine oB 15 rfl (fun h3=>?_) (fun h3=>?_)
 ·have h3':qaz c=false:=by
   unfold qaz;rw[decide_eq_false (by have:cv c<97:=of_decide_eq_true h3;omega),Bool.false_and]
  rw[h3',Bool.false_and] at hN;refine gad ?_;refine oC rfl (fun h=>?_) (fun h=>by cases h);refine gap ?_;exact qac rfl (rC (rT (v:=.atom _) rfl (vR _)) rN) (qai hN.symm)
 refine gal ?_;refine oP (pI (c:=c) rfl rfl (by omega) rfl) rfl ?_;refine gac ?_;refine oC rfl (fun h=>?_) (fun h=>?_)
 ·have h3':qaz c=false:=by
   unfold qaz;rw[decide_eq_false (p:=cv c<=122) (by have:cv c > 122:=of_decide_eq_true h;omega),Bool.and_false]
  rw[h3',Bool.false_and] at hN;refine gap ?_;exact qac rfl (rC (rT (v:=.atom _) rfl (vR _)) rN) (qai hN.symm)
 have h3':qaz c=true:=by
  unfold qaz;rw[decide_eq_true (by have:¬ cv c<97:=of_decide_eq_false h3;omega),decide_eq_true (by have:¬ cv c > 122:=of_decide_eq_false h;omega)]
  try rfl
 rw[h3',Bool.true_and] at hN;refine gau ?_;refine oS (sF [_,_] rfl hT ?_) rfl;refine gad ?_
 exact qac rfl (rC (rT (v:=.atom _) rfl (vR _)) rN) (qai (by
  rw[hN,Bool.eq_iff_iff,decide_eq_true_iff]
  exact hnil))
theorem qfX (p:Wd×Nat) (hs:p.1.length<=1000000000):LCalls (KC B0 w0) 66 [qa1 p] [] (qh0 (qmK (defW p.1))):=by
 obtain ⟨w,ln⟩:=p;simp only at hs ⊢;obtain ⟨r1,r2⟩:=qne (qsQ w)
 have hlen:(Go.Lib.trimSuffix w [58]).length<=1000000000:=by
  unfold Go.Lib.trimSuffix;split
  ·rw[List.length_take];omega
  ·exact hs
 unfold qa1;refine cI Tryz.func66 rfl (n:=18) rfl rfl rfl ?_;refine gag ?_;refine oS (sB (cs:=[str w,int .i64 ln]) rfl fun b1=>?_) rfl;refine gaa ?_;refine oS (sF [_,_] rfl (qju w [58] hs) ?_) rfl;refine gaa ?_;refine oB 14 rfl (fun h=>?_) (fun h=>?_)
 ·exact zT34
 ·rw[h,Bool.false_and] at r1;refine gae ?_;exact qb4 rfl (rC (rT (v:=.atom _) rfl (vR _)) (rC (rT (v:=.atom _) rfl (vR _)) rN)) (qmK.mk r1 r2)
theorem qij (p:Wd×Nat) (hs:p.1.length<=1000000000):LCalls (KC B0 w0) 67 [qa1 p] [] (qh0 (qmK (refW p.1))):=by
 obtain ⟨w,ln⟩:=p;simp only at hs ⊢;obtain ⟨r1,r2⟩:=qne (qs7 w)
 have hlen:(Go.Lib.trimPrefix w [38]).length<=1000000000:=by
  unfold Go.Lib.trimPrefix;split
  ·rw[List.length_drop];omega
  ·exact hs
 unfold qa1;refine cI Tryz.func67 rfl (n:=18) rfl rfl rfl ?_;refine gag ?_;refine oS (sB (cs:=[str w,int .i64 ln]) rfl fun b1=>?_) rfl;refine gaa ?_;refine oS (sF [_,_] rfl (qjn w [38]) ?_) rfl;refine gaa ?_;refine oB 14 rfl (fun h=>?_) (fun h=>?_)
 ·exact zT34
 ·rw[h,Bool.false_and] at r1;refine gae ?_;exact qb4 rfl (rC (rT (v:=.atom _) rfl (vR _)) (rC (rT (v:=.atom _) rfl (vR _)) rN)) (qmK.mk r1 r2)
theorem qls (p:Wd×Nat) (hs:p.1.length<=1000000000):LCalls (KC B0 w0) 68 [qa1 p] [] (Ret (bool (qeI p.1))):=by
 obtain ⟨w,ln⟩:=p;simp only at hs ⊢;have hT:=qnI (B0:=B0) (w0:=w0) w qg5 hs zDd zDd;have hnil:(Go.Lib.trimS w qg5=[]) ↔ qeI w=true:=qm3 (p:=fun c=>qg5.contains c) (fun c=>rfl) w;unfold qa1;refine cI Tryz.func68 rfl (n:=7) rfl rfl rfl ?_;refine gag ?_;refine oS (sB (cs:=[str w,int .i64 ln]) rfl fun b1=>?_) rfl;refine gaa ?_;refine oS (sF [_,_] rfl hT ?_) rfl;refine gad ?_
 exact qac rfl (rC (rT (v:=.atom _) rfl (vR _)) rN) (qai (by
  rw[Bool.eq_iff_iff,decide_eq_true_iff]
  exact hnil))
theorem qgq (c:UInt8):LCalls (KC B0 w0) 71 [int .u8 c.toNat] [] (Ret (bool (qao c))):=by
 have hD:qao c=(decide (48<=cv c) && decide (cv c<=57)):=rfl;refine cI Tryz.func71 rfl (n:=9) rfl rfl rfl ?_;refine gab ?_;refine oB 5 rfl (fun h=>?_) (fun h=>?_)
 ·have h':cv c ≥ 48:=of_decide_eq_true h;rw[decide_eq_true (show 48<=cv c from h'),Bool.true_and] at hD;refine gac ?_;exact qac rfl (rC (rT (v:=.atom _) rfl (vR _)) rN) (qai hD.symm)
 ·have h':¬ cv c ≥ 48:=of_decide_eq_false h;rw[decide_eq_false (show ¬ 48<=cv c from h'),Bool.false_and] at hD;refine gae ?_;exact qac rfl (rC (rT (v:=.atom _) rfl (vR _)) rN) (qai hD.symm)
theorem qlh (hG:GW B0 w0) (n:Nat) (hn:n<=1000000000000):LCalls (KC B0 w0) 70 [int .i64 n] [] (Ret (str (qev n))):=by
 have hi:=qdu hG n (by omega);have hne:=qcV n
 have hl:(Go.Lib.decDigits n).length<=20:=by
  rw[Go.Lib.decDigits_length];exact zNt (qfK 12 n (by omega)) zDd
 have hA:qev n=([48,48,48,48,48]++Go.Lib.decDigits n).drop (([48,48,48,48,48]++Go.Lib.decDigits n).length-6):=rfl;generalize Go.Lib.decDigits n=d at hi hne hl hA;have hpos:=List.length_pos_iff.2 hne;have hsl:([48,48,48,48,48]++d:List UInt8).length=d.length+5:=by simp
 refine cI Tryz.func70 rfl (n:=12) rfl rfl rfl ?_;refine gaw ?_;refine oS (sF [_] rfl hi ?_) rfl;refine gab ?_;refine oP (Pure.sslice (l:=[48,48,48,48,48]++d) (i:=(([48,48,48,48,48]++d:List UInt8).length:Int)-6) (j:=(([48,48,48,48,48]++d:List UInt8).length:Int)) rfl ⟨_,rfl⟩ rfl (by omega) (by omega) (by omega)) rfl ?_;refine gae ?_
 exact qac rfl (rC (rT (v:=.atom _) rfl (vR _)) rN) (by
  rw[hA];have e1:(((([48,48,48,48,48]++d:List UInt8).length:Nat):Int)-6).toNat=([48,48,48,48,48]++d:List UInt8).length-6:=by omega
  show str (List.drop (((([48,48,48,48,48]++d:List UInt8).length:Nat):Int)-6).toNat (List.take ((([48,48,48,48,48]++d:List UInt8).length:Nat):Int).toNat ([48,48,48,48,48]++d)))=_
  rw[e1,Int.toNat_natCast,List.take_length])
theorem qid (b:Nat) (l:List UInt8) (H:Heap) (hB:BH b l H):LCalls (KC B0 w0) 69 [ptr b 0] H (fun r H'=>r=.ret (int .i64 l.length)/\H'=H):=by
 obtain ⟨p,v,Hv,hp,hacc,rfl⟩:=hB;refine cI Tryz.func69 rfl (n:=8) rfl rfl rfl ?_;refine gaa ?_;refine oP (Pure.blen rfl hacc) rfl ?_;refine gae ?_;exact rR rfl (rC (rT (v:=.atom _) rfl (vR _)) rN) (zhR _) ⟨rfl,rfl⟩
theorem qjo (b:Nat) (l:List UInt8) (c:UInt8) (H:Heap) (hB:BH b l H) (hlen:l.length<=10000000000):LCalls (KC B0 w0) 72 [ptr b 0,int .u8 c.toNat] H (fun r H'=>(∃ x,r=.ret x)/\BH b (l++[c]) H'):=by
 obtain ⟨p,v,Hv,hp,hacc,rfl⟩:=hB;refine cI Tryz.func72 rfl (n:=17) rfl rfl rfl ?_;refine gaw ?_;refine oS (S.callH (H1:=[(b,_)]) (F:=Hv) [_] rfl (List.Perm.refl _) (qfS b p (.atom v) hp) (fun x H' h=>?_) (fun ch H' h=>?_)) rfl
 ·obtain ⟨⟨x',hx'⟩,rfl⟩:=h;cases hx';refine gaa ?_;refine zQ15 ?_;refine oS (S.appBL1 (q:=(b,.cells 123 [ptr b 0,.atom v])) (l:=l) (m:=[c]) rfl hacc rfl (by simp) (by simp;omega) fun v' H' hacc'=>?_) rfl;refine gad ?_;have hacc2:=hacc';generalize l++[c]=lm at hacc' hacc2 ⊢
  cases hacc' with
  |nil=>
   refine gaa ?_
   exact rR rfl (rC (rT (v:=.atom _) rfl (vR _)) rN) (zhR _) ⟨⟨_,rfl⟩,ptr b 0,_,_,.inr rfl,hacc2,rfl⟩
  |row h0 h1 h2=>
   refine gaa ?_;exact rR rfl (rC (rT (v:=.atom _) rfl (vR _)) rN) (zhR _) ⟨⟨_,rfl⟩,ptr b 0,_,_,.inr rfl,hacc2,rfl⟩
 ·obtain ⟨⟨x',hx'⟩,_⟩:=h;cases hx'
end
end Asm
end Go.Proofs.YthmhncflhnbedaaGreatDoor
