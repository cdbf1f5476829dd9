/- Texts joined: GlLogic, GlOps. -/
import Derived.Laws.Strings
import Derived.KernelRfl
import Derived.Test.YtegmklafpoldgaaGreatDoorBRowPU0
set_option linter.unusedVariables false
set_option linter.unusedSimpArgs false
set_option maxRecDepth 100000
set_option maxHeartbeats 4000000
namespace Go.GL
open Go.RowKit
structure Env where
 s:Nat→LV
 ds:List Deferred
def Env.upd (e:Env) (d:Nat) (v:LV):Env:=⟨fun i=>bif Nat.beq i d then v else e.s i,e.ds⟩
def Env.put (e:Env):Option Nat→LV→Env
 |some d,v=>e.upd d v
 |none,_=>e
def Env.ev (e:Env):Operand→LV
 |.tmp t=>e.s t
 |.const v=>.atom v
 |.global g=>.atom (.pointer (some ⟨g,0,none⟩))
 |.func f=>.atom (.func (.func f) #[] #[])
structure RelE (n:Nat) (a:Act) (e:Env) (w:World) (L:Live):Prop where
 size:a.tmps.size=n
 ds:a.defers=e.ds
 vals:∀ i,Rep w L (e.s i) (a.tmps.getD i undef)
theorem RelE.ev {n:Nat} {a:Act} {e:Env} {w:World} {L:Live} (h:RelE n a e w L):∀ x,Rep w L (e.ev x) (a.eval x):=fun x=>by
 cases x with
 |tmp t=>exact h.vals t
 |const v=>simp only[Env.ev,Rep,Act.eval]
 |global g=>simp only[Env.ev,Rep,Act.eval]
 |func f=>simp only[Env.ev,Rep,Act.eval]
theorem RelE.mono {n:Nat} {a:Act} {e:Env} {w w':World} {L L':Live} (h:RelE n a e w L) (x:Ext w L w' L'):RelE n a e w' L':=
 ⟨h.size,h.ds,fun i=>(h.vals i).mono x _ _⟩
def dstB (n:Nat):Option Nat→Bool
 |some d=>Nat.blt d n
 |none=>true
@[reducible] def dstOk (n:Nat) (d:Option Nat):Prop:=dstB n d=true
theorem RelE.put {n:Nat} {a:Act} {e:Env} {w:World} {L:Live} (h:RelE n a e w L) {dst:Option Nat} {lv:LV} {v:Value} (hd:dstOk n dst) (hv:Rep w L lv v) :
  RelE n (a.put dst v) (e.put dst lv) w L:=by
 cases dst with
 |none=>exact h
 |some d=>
  refine ⟨by simp[Act.put,h.size],h.ds,fun i=>?_⟩
  simp only[Env.put,Env.upd,Act.put]
  have hs:=h.size
  have hd:d<n:=by simpa [dstOk,dstB] using hd
  by_cases hi:i=d
  ·subst hi
   simp[Array.getD,hs,hd]
   exact hv
  ·have hb:Nat.beq i d=false:=by
    cases hb:Nat.beq i d with
    |true=>exact absurd (Nat.eq_of_beq_eq_true hb) hi
    |false=>rfl
   rw[hb]
   have hv':=h.vals i
   rw[Array.getD_eq_getD_getElem?] at hv' ⊢
   rw[Array.getElem?_setIfInBounds,if_neg (Ne.symm hi)]
   exact hv'
abbrev Post:=Exit→Env→Heap→Prop
def RelX (n:Nat):Exit→Act→Env→World→Live→Prop
 |.panic _,a,e,_,_=>a.defers=e.ds
 |_,a,e,w,L=>RelE n a e w L
def lift (C:Ctx) (n:Nat) (w:World) (L:Live) (K:List Nat) (Q:Post):Exit→Act→World→Prop:=
 fun x a' w'=>∃ e' H' L',Fr K w L w' L' H'∧RelH C w' L' H'∧RelX n x a' e' w' L'∧Q x e' H'
theorem lift_mono {C:Ctx} {n:Nat} {w:World} {L:Live} {K:List Nat} {Q Q':Post} (h:∀ x e H,Q x e H→Q' x e H) {x:Exit} {a:Act} {w':World}
  (k:lift C n w L K Q x a w'):lift C n w L K Q' x a w':=
 let ⟨e',H',L',h1,h2,h3,h4⟩:=k
 ⟨e',H',L',h1,h2,h3,h _ _ _ h4⟩
theorem lift_trans {C:Ctx} {n:Nat} {w w1:World} {L L1:Live} {K:List Nat} {H1:Heap} {Q:Post} (f:Fr K w L w1 L1 H1) {x:Exit} {a:Act} {w':World}
  (k:lift C n w1 L1 (keys H1) Q x a w'):lift C n w L K Q x a w':=
 let ⟨e',H',L',h1,h2,h3,h4⟩:=k
 ⟨e',H',L',f.trans h1,h2,h3,h4⟩
/-! ### Judgements -/
def Agree (w:World) (L:Live) (H:Heap) (w':World):Prop:=
 (∀ p∈H,w'.heap[p.1]? = w.heap[p.1]?)∧(∀ b i,i<L b→w'.cell? ⟨b,i,none⟩=w.cell? ⟨b,i,none⟩)
def Pure (C:Ctx) (o:Oper) (e:Env) (H:Heap) (lv:LV):Prop:=
 ∀ (ρ:Operand→Value) w L,(∀ x,Rep w L (e.ev x) (ρ x))→RelH C w L H →
  ∃ v,Rep w L lv v∧∀ w',Agree w L H w'→(execOp ρ o).run C.P w'=.ok (.value v) w'
def Left (C:Ctx) (w:World) (L:Live) (H:Heap) (w':World) (v:Value) (K:LV→Heap→Prop):Prop:=
 ∃ lv H' L',Fr (keys H) w L w' L' H'∧RelH C w' L' H'∧Rep w' L' lv v∧K lv H'
def LeftX (C:Ctx) (w:World) (L:Live) (H:Heap) (w':World) (X:Heap→Prop):Prop:=
 ∃ H' L',Fr (keys H) w L w' L' H'∧RelH C w' L' H'∧X H'
def CallPost (C:Ctx) (w:World) (L:Live) (H:Heap) (K:LV→Heap→Prop) (X:List PanicEntry→Heap→Prop):Ending→World→Prop
 |.returned v,w'=>Left C w L H w' v K
 |.panicked ch,w'=>LeftX C w L H w' (X ch)
 |.outgrown,_=>False
def StepOut (C:Ctx) (w:World) (L:Live) (H:Heap) (K:LV→Heap→Prop) (X:List PanicEntry→Heap→Prop):Result Next→Prop
 |.ok (.value v) w'=>Left C w L H w' v K
 |.ok .skip w'=>Left C w L H w' undef K
 |.ok (.enter f args) w'=>w'=w∧Calls C.P f args w (CallPost C w L H K X)
 |.halt (.panic v) w'=>LeftX C w L H w' (X [{ v,recovered:=false }])
 |_=>False
def LStep (C:Ctx) (o:Oper) (e:Env) (H:Heap) (K:LV→Heap→Prop) (X:List PanicEntry→Heap→Prop):Prop:=
 ∀ (ρ:Operand→Value) w L,(∀ x,Rep w L (e.ev x) (ρ x))→RelH C w L H→StepOut C w L H K X ((execOp ρ o).run C.P w)
def LOps (C:Ctx) (n:Nat) (ops:Array Oper) (Q:Post) (rest:List Oper) (e:Env) (H:Heap):Prop:=
 ∀ a w L,RelE n a e w L→RelH C w L H→wpList C.P ops (lift C n w L (keys H) Q) rest a w
def LCode (C:Ctx) (n:Nat) (c:Code) (Q:Post) (e:Env) (H:Heap):Prop:=
 ∀ a w L,RelE n a e w L→RelH C w L H→c.wp C.P (lift C n w L (keys H) Q) a w
inductive LRes where
 |ret (v:LV)
 |panic (ch:List PanicEntry)
def LCalls (C:Ctx) (f:FuncId) (args:List LV) (H:Heap) (R:LRes→Heap→Prop):Prop:=
 ∀ (vs:List Value) w L,RepL w L args vs→RelH C w L H →
  Calls C.P f vs.toArray w (CallPost C w L H (fun v=>R (.ret v)) (fun ch=>R (.panic ch)))
/-! ### Monotonicity -/
theorem Left.mono {C:Ctx} {w:World} {L:Live} {H:Heap} {w':World} {v:Value} {K K':LV→Heap→Prop} (h:Left C w L H w' v K) (hk:∀ lv H,K lv H→K' lv H):Left C w L H w' v K':=
 let ⟨lv,H',L',h1,h2,h3,h4⟩:=h
 ⟨lv,H',L',h1,h2,h3,hk _ _ h4⟩
theorem LeftX.mono {C:Ctx} {w:World} {L:Live} {H:Heap} {w':World} {X X':Heap→Prop} (h:LeftX C w L H w' X) (hk:∀ H,X H→X' H):LeftX C w L H w' X':=
 let ⟨H',L',h1,h2,h3⟩:=h
 ⟨H',L',h1,h2,hk _ h3⟩
theorem CallPost.mono {C:Ctx} {w:World} {L:Live} {H:Heap} {K K':LV→Heap→Prop} {X X':List PanicEntry→Heap→Prop} (hk:∀ lv H,K lv H→K' lv H) (hx:∀ ch H,X ch H→X' ch H)
  (e:Ending) (w':World) (h:CallPost C w L H K X e w'):CallPost C w L H K' X' e w':=by
 cases e with
 |returned v=>exact Left.mono h hk
 |panicked ch=>exact LeftX.mono h (hx ch)
 |outgrown=>exact h
theorem LCalls.mono {C:Ctx} {f:FuncId} {args:List LV} {H:Heap} {R R':LRes→Heap→Prop} (h:LCalls C f args H R) (hr:∀ r H,R r H→R' r H):LCalls C f args H R':=
 fun vs w L h1 h2=>(h vs w L h1 h2).mono (CallPost.mono (fun _ _=>hr _ _) (fun _ _=>hr _ _))
theorem Left.frame {C:Ctx} {w:World} {L:Live} {H F:Heap} {w':World} {v:Value} {K:LV→Heap→Prop} (hH:RelH C w L (H++F)) (h:Left C w L H w' v (fun lv H'=>K lv (H'++F))) :
  Left C w L (H++F) w' v K:=
 let ⟨lv,H',L',h1,h2,h3,h4⟩:=h
 let f:=hH.frame h1 h2
 ⟨lv,H'++F,L',f.2,f.1,h3,h4⟩
theorem LeftX.frame {C:Ctx} {w:World} {L:Live} {H F:Heap} {w':World} {X:Heap→Prop} (hH:RelH C w L (H++F)) (h:LeftX C w L H w' (fun H'=>X (H'++F))) :
  LeftX C w L (H++F) w' X:=
 let ⟨H',L',h1,h2,h3⟩:=h
 let f:=hH.frame h1 h2
 ⟨H'++F,L',f.2,f.1,h3⟩
theorem Fr.perm {H1 H2:Heap} (p:H1.Perm H2) {w w':World} {L L':Live} {H':Heap} (h:Fr (keys H1) w L w' L' H'):Fr (keys H2) w L w' L' H':=by
 have hm:∀ b,b∈keys H1 ↔ b∈keys H2:=fun b=>(p.map _).mem_iff
 exact ⟨h.os,h.tape,h.output,h.ext,fun b hb hn=>h.block b hb (fun k=>hn ((hm b).1 k)),fun b hb hn=>h.lsame b hb (fun k=>hn ((hm b).1 k)),fun q hq=>(h.kin q hq).imp (hm _).1 id⟩
theorem StepOut.frame {C:Ctx} {w:World} {L:Live} {H F G:Heap} {K:LV→Heap→Prop} {X:List PanicEntry→Heap→Prop} (p:G.Perm (H++F)) (hH:RelH C w L G) {r:Result Next}
  (h:StepOut C w L H (fun lv H'=>K lv (H'++F)) (fun ch H'=>X ch (H'++F)) r):StepOut C w L G K X r:=by
 have hH':=hH.perm p
 have lf:∀ {w' v},Left C w L H w' v (fun lv H'=>K lv (H'++F))→Left C w L G w' v K:=fun h=>by
  obtain ⟨lv,H',L',h1,h2,h3,h4⟩:=Left.frame hH' h
  exact ⟨lv,H',L',h1.perm p.symm,h2,h3,h4⟩
 have lx:∀ {w' ch},LeftX C w L H w' (fun H'=>X ch (H'++F))→LeftX C w L G w' (X ch):=fun h=>by
  obtain ⟨H',L',h1,h2,h3⟩:=LeftX.frame hH' h
  exact ⟨H',L',h1.perm p.symm,h2,h3⟩
 unfold StepOut at h ⊢
 split at h
 ·exact lf h
 ·exact lf h
 ·refine ⟨h.1,h.2.mono fun e w' he=>?_⟩
  cases e with
  |returned v=>exact lf he
  |panicked ch=>exact lx he
  |outgrown=>exact he
 ·exact lx h
 ·exact h.elim
theorem LStep.frame {C:Ctx} {o:Oper} {e:Env} {G H F:Heap} {K:LV→Heap→Prop} {X:List PanicEntry→Heap→Prop} (p:G.Perm (H++F))
  (h:LStep C o e H (fun lv H'=>K lv (H'++F)) (fun ch H'=>X ch (H'++F))):LStep C o e G K X:=
 fun ρ w L h1 h2=>StepOut.frame p h2 (h ρ w L h1 (h2.perm p).left)
theorem Pure.step {C:Ctx} {o:Oper} {e:Env} {H:Heap} {lv:LV} {K:LV→Heap→Prop} {X:List PanicEntry→Heap→Prop} (h:Pure C o e H lv) (k:K lv H):LStep C o e H K X:=fun ρ w L h1 h2=>by
 obtain ⟨v,hv,hr⟩:=h ρ w L h1 h2
 rw[hr w ⟨fun _ _=>rfl,fun _ _ _=>rfl⟩]
 exact ⟨lv,H,L,Fr.refl _ _ _,h2,hv,k⟩
/-! ### From a step to the walk's own words -/
theorem wpList_mono {P:Program} {ops:Array Oper} {Q Q':Exit→Act→World→Prop} (h:∀ e a w,Q e a w→Q' e a w):∀ (l:List Oper) (a:Act) (w:World),wpList P ops Q l a w→wpList P ops Q' l a w
 |[],_,_,k=>h _ _ _ k
 |o::l,a,w,k=>by
  unfold wpList at k ⊢
  split at k
  ·rename_i hw
   rw[if_pos hw]
   rcases k with k|⟨k1,a0,w0,k2⟩
   ·refine .inl ?_
    unfold Oper.wp at k ⊢
    generalize (execOp a.eval o).run P w=r at k ⊢
    cases r with
    |ok x w'=>
     cases x <;> simp only[Oper.upon] at k ⊢ <;> first
      |exact wpList_mono h l _ _ k
      |(refine Calls.mono k fun e w'' he=>?_;cases e with
        |returned v=>exact wpList_mono h l _ _ he
        |panicked ch=>exact h _ _ _ he
        |outgrown=>obtain ⟨a0,w0,he⟩:=he;exact ⟨a0,w0,h _ _ _ he⟩)
      |exact Rows.mono k fun _ _ he=>wpList_mono h l _ _ he
    |halt x w'=>cases x <;> simp only[Oper.upon] at k ⊢ <;> exact h _ _ _ k
   ·exact .inr ⟨k1,a0,w0,h _ _ _ k2⟩
  ·rename_i hw
   rw[if_neg hw]
   exact wpList_mono h l _ _ k
theorem step_wp {C:Ctx} {n:Nat} {o:Oper} {e:Env} {H:Heap} {K:LV→Heap→Prop} {X:List PanicEntry→Heap→Prop} (h:LStep C o e H K X) (hd:dstOk n o.dst)
  {a:Act} {w:World} {L:Live} (hE:RelE n a e w L) (hH:RelH C w L H) {K':Act→World→Prop} {Q':Exit→Act→World→Prop}
  (hK:∀ lv H' L' w' a',Fr (keys H) w L w' L' H'→RelH C w' L' H'→RelE n a' (e.put o.dst lv) w' L'→K lv H'→K' a' w')
  (hX:∀ ch H' L' w',Fr (keys H) w L w' L' H'→RelH C w' L' H'→X ch H'→Q' (.panic ch) a w'):o.wp C.P a w K' Q':=by
 have hs:=h a.eval w L hE.ev hH
 unfold Oper.wp
 have left:∀ {w' v},Left C w L H w' v K→K' (a.put o.dst v) w':=fun h=>by
  obtain ⟨lv,H',L',h1,h2,h3,h4⟩:=h
  exact hK lv H' L' _ _ h1 h2 ((hE.mono h1.ext).put hd h3) h4
 have leftX:∀ {w' ch},LeftX C w L H w' (X ch)→Q' (.panic ch) a w':=fun h=>by
  obtain ⟨H',L',h1,h2,h3⟩:=h
  exact hX _ H' L' _ h1 h2 h3
 generalize (execOp a.eval o).run C.P w=r at hs ⊢
 unfold StepOut at hs
 split at hs
 ·exact left hs
 ·exact left hs
 ·obtain ⟨rfl,hs⟩:=hs
  refine Calls.mono hs fun e w' he=>?_
  cases e with
  |returned v=>exact left he
  |panicked ch=>exact leftX he
  |outgrown=>exact he.elim
 ·exact leftX hs
 ·exact hs.elim
section ops
variable {C:Ctx} {n:Nat} {ops:Array Oper} {Q:Post} {e:Env} {H:Heap}
theorem LOps.nil (h:Q .normal e H):LOps C n ops Q [] e H:=fun _ _ L hE hH=>⟨e,H,L,Fr.refl _ _ _,hH,hE,h⟩
theorem oS {dst:Option Nat} {op:Op} {ty:TypeId} {pos:String} {aft:Array Edge} {rest:List Oper}
  (h:LStep C ⟨dst,op,ty,pos,aft,none⟩ e H (fun lv H'=>LOps C n ops Q rest (e.put dst lv) H') (fun ch H'=>∀ e',e'.ds=e.ds→Q (.panic ch) e' H'))
  (hd:dstOk n dst):LOps C n ops Q (⟨dst,op,ty,pos,aft,none⟩::rest) e H:=fun a w L hE hH=>by
 unfold wpList
 rw[if_pos (by simp[Region.wanted])]
 refine .inl (step_wp h hd hE hH (fun lv H' L' w' a' h1 h2 h3 h4=>?_) (fun ch H' L' w' h1 h2 h3=>?_))
 ·exact wpList_mono (fun _ _ _=>lift_trans h1) _ _ _ (h4 a' w' L' h3 h2)
 ·exact ⟨e,H',L',h1,h2,hE.ds,h3 e rfl⟩
theorem oP {dst:Option Nat} {op:Op} {ty:TypeId} {pos:String} {aft:Array Edge} {rest:List Oper} {lv:LV}
  (h:Pure C ⟨dst,op,ty,pos,aft,none⟩ e H lv) (hd:dstOk n dst) (k:LOps C n ops Q rest (e.put dst lv) H):LOps C n ops Q (⟨dst,op,ty,pos,aft,none⟩::rest) e H:=
 oS (h.step k) hd
theorem yielded_env {a:Act} {w:World} {L:Live} (hE:RelE n a e w L) {j d:Nat} {b:Bool} (hj:(ops[j]?).bind (·.dst)=some d) (hb:e.s d=.atom (.bool b)):yielded ops a.tmps j=some b:=by
 have h:=hE.vals d
 rw[hb] at h
 simp only[Rep] at h
 unfold yielded
 rw[hj]
 simp only[Option.bind_some]
 rw[Array.getD_eq_getD_getElem?] at h
 cases hx:a.tmps[d]? with
 |none=>rw[hx] at h;simp[undef] at h
 |some x=>rw[hx] at h;simp only[Option.getD_some] at h;subst h;rfl
theorem LOps.want {dst:Option Nat} {op:Op} {ty:TypeId} {pos:String} {aft:Array Edge} {rest:List Oper} {j d:Nat} {b:Bool}
  (hj:(ops[j]?).bind (·.dst)=some d) (hb:e.s d=.atom (.bool b))
  (k:LOps C n ops Q (⟨dst,op,ty,pos,aft,none⟩::rest) e H):LOps C n ops Q (⟨dst,op,ty,pos,aft,some (j,b)⟩::rest) e H:=fun a w L hE hH=>by
 have:=k a w L hE hH
 unfold wpList at this ⊢
 rw[if_pos (by simp[Region.wanted])] at this
 rw[if_pos (by simp[Region.wanted,yielded_env hE hj hb])]
 exact this
theorem LOps.skip {dst:Option Nat} {op:Op} {ty:TypeId} {pos:String} {aft:Array Edge} {rest:List Oper} {j d:Nat} {b c:Bool}
  (hj:(ops[j]?).bind (·.dst)=some d) (hb:e.s d=.atom (.bool b)) (hne:b=!c) (hd:dstOk n dst)
  (k:LOps C n ops Q rest (e.put dst (.atom undef)) H):LOps C n ops Q (⟨dst,op,ty,pos,aft,some (j,c)⟩::rest) e H:=fun a w L hE hH=>by
 unfold wpList
 rw[if_neg (by subst hne;cases c <;> simp[Region.wanted,yielded_env hE hj hb])]
 exact k _ w L (hE.put hd (by simp only[Rep])) hH
theorem LOps.conseq {Q':Post} {rest:List Oper} (h:LOps C n ops Q rest e H) (hq:∀ x e H,Q x e H→Q' x e H):LOps C n ops Q' rest e H:=
 fun a w L hE hH=>wpList_mono (fun _ _ _=>lift_mono hq) _ _ _ (h a w L hE hH)
end ops
section code
variable {C:Ctx} {n:Nat} {Q:Post} {e:Env} {H:Heap}
def QThen (k:Env→Heap→Prop) (Q:Post):Post
 |.normal,e,H=>k e H
 |x,e,H=>Q x e H
def QBlock (id:Nat) (Q:Post):Post
 |.exit id',e,H=>if id'=id then Q .normal e H else Q (.exit id') e H
 |x,e,H=>Q x e H
theorem LCode.conseq {c:Code} {Q':Post} (h:LCode C n c Q e H) (hq:∀ x e H,Q x e H→Q' x e H):LCode C n c Q' e H:=
 fun a w L hE hH=>Go.wp_mono (h a w L hE hH) (fun _ _ _=>lift_mono hq)
theorem LCode.seq {x y:Code} (h:LCode C n x (QThen (fun e H=>LCode C n y Q e H) Q) e H):LCode C n (.seq x y) Q e H:=fun a w L hE hH=>by
 refine wp_seq (Go.wp_mono (h a w L hE hH) fun ex a' w' hq=>?_)
 obtain ⟨e',H',L',h1,h2,h3,h4⟩:=hq
 cases ex with
 |normal=>exact Go.wp_mono (h4 a' w' L' h3 h2) fun _ _ _=>lift_trans h1
 |exit id=>exact ⟨e',H',L',h1,h2,h3,h4⟩
 |goto id=>exact ⟨e',H',L',h1,h2,h3,h4⟩
 |ret=>exact ⟨e',H',L',h1,h2,h3,h4⟩
 |panic ch=>exact ⟨e',H',L',h1,h2,h3,h4⟩
 |outgrown=>exact ⟨e',H',L',h1,h2,h3,h4⟩
theorem LCode.block {id:Nat} {c:Code} (h:LCode C n c (QBlock id Q) e H):LCode C n (.block id c) Q e H:=fun a w L hE hH=>by
 refine wp_block (Go.wp_mono (h a w L hE hH) fun ex a' w' hq=>?_)
 obtain ⟨e',H',L',h1,h2,h3,h4⟩:=hq
 cases ex with
 |exit id'=>
  simp only[Exit.inBlock,QBlock] at h4 ⊢
  split
  ·rename_i hid;rw[if_pos hid] at h4;exact ⟨e',H',L',h1,h2,h3,h4⟩
  ·rename_i hid;rw[if_neg hid] at h4;exact ⟨e',H',L',h1,h2,h3,h4⟩
 |normal=>exact ⟨e',H',L',h1,h2,h3,h4⟩
 |goto id=>exact ⟨e',H',L',h1,h2,h3,h4⟩
 |ret=>exact ⟨e',H',L',h1,h2,h3,h4⟩
 |panic ch=>exact ⟨e',H',L',h1,h2,h3,h4⟩
 |outgrown=>exact ⟨e',H',L',h1,h2,h3,h4⟩
theorem LCode.skip (h:Q .normal e H):LCode C n .skip Q e H:=fun _ _ L hE hH=>wp_skip ⟨e,H,L,Fr.refl _ _ _,hH,hE,h⟩
theorem LCode.exit {id:Nat} (h:Q (.exit id) e H):LCode C n (.exit id) Q e H:=fun _ _ L hE hH=>wp_exit ⟨e,H,L,Fr.refl _ _ _,hH,hE,h⟩
theorem LCode.ret (h:Q .ret e H):LCode C n .ret Q e H:=fun _ _ L hE hH=>wp_ret ⟨e,H,L,Fr.refl _ _ _,hH,hE,h⟩
theorem oC {c:Operand} {x y:Code} {t:Bool} (hc:e.ev c=.atom (.bool t)) (ht:t=true→LCode C n x Q e H) (hf:t=false→LCode C n y Q e H):LCode C n (.cond c x y) Q e H:=
 fun a w L hE hH=>by
  have hv:=hE.ev c
  rw[hc] at hv
  simp only[Rep] at hv
  exact wp_cond_split hv (fun h=>ht h a w L hE hH) (fun h=>hf h a w L hE hH)
theorem LCode.region {id:Nat} {l:List Oper} (h:LOps C n l.toArray Q l e H):LCode C n (.region id l.toArray false) Q e H:=fun a w L hE hH=>wp_region_lit (h a w L hE hH)
theorem wp_loop_idx {P:Program} {c:Code} {Q:Exit→Act→World→Prop} (I:Nat→Act→World→Prop)
  (round:∀ n a w,I n a w→c.wp P (Exit.then (fun a' w'=>∃ m,m<n∧I m a' w') Q) a w) {n:Nat} {a:Act} {w:World} (h₀:I n a w):(Code.loop c).wp P Q a w:=by
 intro b k cs
 have key:∀ n a w,I n a w →
   ∃ e a' w',Q e a' w'∧Arrives P (lone (b.at a (.code c::.inLoop c::k)) cs w) b k cs e a' w':=by
  intro n
  induction n using Nat.strongRecOn with
  |_ n ih=>
   intro a w hI
   obtain ⟨e,a₁,w₁,hq,harr⟩:=round n a w hI b (.inLoop c::k) cs
   cases e with
   |normal=>
    obtain ⟨m,hlt,hI₁⟩:=hq
    obtain ⟨e₂,a₂,w₂,hq₂,harr₂⟩:=ih m hlt a₁ w₁ hI₁
    exact ⟨e₂,a₂,w₂,hq₂,.of_steps (Steps.trans harr (.one step_inLoop)) harr₂⟩
   |exit id=>exact ⟨_,a₁,w₁,hq,.pass (x:=.inLoop c) rfl (fun _ _=>.inl (by simp)) harr⟩
   |goto l=>exact ⟨_,a₁,w₁,hq,.pass (x:=.inLoop c) rfl (fun _ _=>.inl (by simp)) harr⟩
   |ret=>exact ⟨_,a₁,w₁,hq,.pass (x:=.inLoop c) rfl (fun _ _=>.inl (by simp)) harr⟩
   |panic ch=>exact ⟨_,a₁,w₁,hq,.pass (x:=.inLoop c) rfl (fun _ _=>.inl (by simp)) harr⟩
   |outgrown=>exact ⟨_,a₁,w₁,hq,.pass (x:=.inLoop c) rfl (fun _ _=>.inl (by simp)) harr⟩
 obtain ⟨e,a',w',hq,harr⟩:=key n a w h₀
 exact ⟨e,a',w',hq,.of_steps (.one step_loop) harr⟩
theorem LCode.loop {c:Code} (I:Nat→Env→Heap→Prop) (k:Nat) (h0:I k e H)
  (round:∀ k e H,I k e H→LCode C n c (QThen (fun e' H'=>∃ m,m<k∧I m e' H') Q) e H):LCode C n (.loop c) Q e H:=fun a w L hE hH=>by
 refine wp_loop_idx (I:=fun k a' w'=>∃ e' H' L',Fr (keys H) w L w' L' H'∧RelH C w' L' H'∧RelE n a' e' w' L'∧I k e' H') (n:=k) ?_ ⟨e,H,L,Fr.refl _ _ _,hH,hE,h0⟩
 rintro k a1 w1 ⟨e1,H1,L1,h1,h2,h3,h4⟩
 refine Go.wp_mono (round k e1 H1 h4 a1 w1 L1 h3 h2) fun ex a' w' hq=>?_
 obtain ⟨e',H',L',g1,g2,g3,g4⟩:=hq
 cases ex with
 |normal=>
  obtain ⟨m,hm,g4⟩:=g4
  exact ⟨m,hm,e',H',L',h1.trans g1,g2,g3,g4⟩
 |exit id=>exact ⟨e',H',L',h1.trans g1,g2,g3,g4⟩
 |goto id=>exact ⟨e',H',L',h1.trans g1,g2,g3,g4⟩
 |ret=>exact ⟨e',H',L',h1.trans g1,g2,g3,g4⟩
 |panic ch=>exact ⟨e',H',L',h1.trans g1,g2,g3,g4⟩
 |outgrown=>exact ⟨e',H',L',h1.trans g1,g2,g3,g4⟩
def Env.slots (j:Env):List (Nat×LV)→Env
 |[]=>j
 |(d,v)::r=>(Env.slots j r).upd d v
theorem Env.upd_self {e:Env} {d:Nat} {v:LV} (h:e.s d=v):e.upd d v=e:=by
 obtain ⟨s,ds⟩:=e
 simp only[Env.upd,Env.mk.injEq,and_true]
 funext i
 cases hb:Nat.beq i d with
 |false=>rfl
 |true=>
  have:=Nat.eq_of_beq_eq_true hb
  subst this
  exact h.symm
theorem Env.slots_self {e:Env}:∀ {l:List (Nat×LV)},(∀ p∈l,e.s p.1=p.2)→Env.slots e l=e
 |[],_=>rfl
 |(d,v)::r,h=>by
  simp only[Env.slots]
  rw[Env.slots_self (l:=r) (fun p hp=>h p (zMo _ hp))]
  exact Env.upd_self (h (d,v) List.mem_cons_self)
end code
section exits
variable {C:Ctx} {n:Nat} {Q:Post} {e:Env} {H:Heap} {k:Env→Heap→Prop} {id id':Nat}
theorem qN (h:k e H):QThen k Q .normal e H:=h
theorem QThen.exit (h:Q (.exit id) e H):QThen k Q (.exit id) e H:=h
theorem QThen.ret (h:Q .ret e H):QThen k Q .ret e H:=h
theorem QThen.panic {ch:List PanicEntry} (h:Q (.panic ch) e H):QThen k Q (.panic ch) e H:=h
theorem QBlock.hit (h:Q .normal e H):QBlock id Q (.exit id) e H:=by simp only[QBlock,if_true];exact h
theorem QBlock.miss (hn:id'≠id) (h:Q (.exit id') e H):QBlock id Q (.exit id') e H:=by simp only[QBlock,if_neg hn];exact h
theorem QBlock.normal (h:Q .normal e H):QBlock id Q .normal e H:=h
theorem QBlock.ret (h:Q .ret e H):QBlock id Q .ret e H:=h
theorem QBlock.panic {ch:List PanicEntry} (h:Q (.panic ch) e H):QBlock id Q (.panic ch) e H:=h
theorem oB {ops:Array Oper} {rest:List Oper} (d:Nat) {b:Bool} (hb:e.s d=bool b) (ht:b=true→LOps C n ops Q rest (e.upd d (bool true)) H) (hf:b=false→LOps C n ops Q rest (e.upd d (bool false)) H):LOps C n ops Q rest e H:=by
 cases b
 ·have:=hf rfl;rwa [Env.upd_self hb] at this
 ·have:=ht rfl;rwa [Env.upd_self hb] at this
theorem LCode.sub {c:Code} {d:Nat} {v v':LV} (hv:e.s d=v) (hs:v.Sub v') (h:LCode C n c Q (e.upd d v') H):LCode C n c Q e H:=fun a w L hE hH=>by
 refine h a w L ⟨hE.size,hE.ds,fun i=>?_⟩ hH
 simp only[Env.upd]
 cases hb:Nat.beq i d with
 |false=>exact hE.vals i
 |true=>
  have hi:=Nat.eq_of_beq_eq_true hb
  subst hi
  have:=hE.vals i
  rw[hv] at this
  exact hs _ _ _ this
theorem LOps.sub {ops:Array Oper} {rest:List Oper} (d:Nat) {v v':LV} (hv:e.s d=v) (hs:v.Sub v') (h:LOps C n ops Q rest (e.upd d v') H):LOps C n ops Q rest e H:=fun a w L hE hH=>by
 refine h a w L ⟨hE.size,hE.ds,fun i=>?_⟩ hH
 simp only[Env.upd]
 cases hb:Nat.beq i d with
 |false=>exact hE.vals i
 |true=>
  have hi:=Nat.eq_of_beq_eq_true hb
  subst hi
  have:=hE.vals i
  rw[hv] at this
  exact hs _ _ _ this
theorem lift_weak {w w':World} {L:Live} {K:List Nat} {H1:Heap} (hK:∀ b∈K,b∈keys H1) {x:Exit} {a:Act} (h:lift C n w L K Q x a w'):lift C n w L (keys H1) Q x a w':=
 let ⟨e',H',L',h1,h2,h3,h4⟩:=h
 ⟨e',H',L',⟨h1.os,h1.tape,h1.output,h1.ext,fun b hb hn=>h1.block b hb (fun k=>hn (hK b k)),fun b hb hn=>h1.lsame b hb (fun k=>hn (hK b k)),fun p hp=>(h1.kin p hp).imp (hK _) id⟩,h2,h3,h4⟩
theorem HSub.keys {H' H:Heap} (s:HSub H' H):∀ b∈keys H',b∈GL.keys H:=fun b hb=>by
 obtain ⟨p,hp,rfl⟩:=List.mem_map.1 hb
 obtain ⟨G,hG⟩:=s
 exact List.mem_map_of_mem (hG.mem_iff.2 (List.mem_append_left _ hp))
theorem cW {c:Code} {H':Heap} (s:HSub H' H) (h:LCode C n c Q e H'):LCode C n c Q e H:=fun a w L hE hH=>Go.wp_mono (h a w L hE (hH.weak s)) fun _ _ _=>lift_weak s.keys
theorem LOps.weak {ops:Array Oper} {rest:List Oper} {H':Heap} (s:HSub H' H) (h:LOps C n ops Q rest e H'):LOps C n ops Q rest e H:=fun a w L hE hH=>wpList_mono (fun _ _ _=>lift_weak s.keys) _ _ _ (h a w L hE (hH.weak s))
theorem LCode.perm {c:Code} {H':Heap} (s:H.Perm H') (h:LCode C n c Q e H'):LCode C n c Q e H:=cW ⟨[],by simpa using s⟩ h
end exits
/-! ### Calls -/
def readRes (tmps:Array Value):ResultVar→Sem Value
 |.tmp t=>Pure.pure (tmps.getD t undef)
 |.cell a t=>do loadVar t (←asAddr (tmps.getD a undef))
def ResIs (C:Ctx) (n:Nat) (e:Env) (H:Heap) (r:ResultVar) (lv:LV):Prop:=
 ∀ a w L,RelE n a e w L→RelH C w L H→∃ v,(readRes a.tmps r).run C.P w=.ok v w∧Rep w L lv v
def AllRes (C:Ctx) (n:Nat) (e:Env) (H:Heap):List ResultVar→List LV→Prop
 |[],[]=>True
 |r::rs,v::vs=>ResIs C n e H r v∧AllRes C n e H rs vs
 |_,_=>False
def resLV:List LV→LV
 |[v]=>v
 |vs=>.tuple vs
def RetPost (C:Ctx) (n:Nat) (rs:List ResultVar) (R:LRes→Heap→Prop):Post
 |.normal,e,H|.ret,e,H=>e.ds=[]∧∃ vs H',AllRes C n e H rs vs∧HSub H' H∧R (.ret (resLV vs)) H'
 |.panic ch,e,H=>e.ds=[]∧∃ H',HSub H' H∧R (.panic ch) H'
 |_,_,_=>False
def argsEnv (args:List LV):Env:=⟨fun i=>(args[i]?).getD (.atom undef),[]⟩
theorem RepL.length {w:World} {L:Live}:∀ {cs:List LV} {xs:List Value},RepL w L cs xs→xs.length=cs.length
 |[],xs,h=>by simp only[RepL] at h;subst h;rfl
 |c::cs,xs,h=>by
  simp only[RepL] at h
  obtain ⟨y,ys,rfl,_,h⟩:=h
  simp[RepL.length h]
theorem RepL.get {w:World} {L:Live}:∀ {cs:List LV} {xs:List Value},RepL w L cs xs→∀ {i:Nat} {c:LV},cs[i]? = some c→∃ x,xs[i]? = some x∧Rep w L c x
 |[],_,_,i,c,hc=>by simp at hc
 |c::cs,xs,h,i,c',hc=>by
  simp only[RepL] at h
  obtain ⟨y,ys,rfl,h1,h⟩:=h
  cases i with
  |zero=>simp at hc;subst hc;exact ⟨y,rfl,h1⟩
  |succ i=>simpa using RepL.get h (i:=i) (by simpa using hc)
theorem bind_run {P:Program} {α β:Type} {s:Sem α} {f:α→Sem β} {w w':World} {v:α} (h:s.run P w=.ok v w'):(s >>= f).run P w=(f v).run P w':=by
 rw[Sem.run_bind,h];try rfl
theorem results0 {P:Program} {fn:Func} (h:fn.results=#[]) (tmps:Array Value) (w:World):(results fn tmps).run P w=.ok (.tuple #[]) w:=by simp[results,h]
theorem results1 {P:Program} {fn:Func} {r:ResultVar} (h:fn.results=#[r]) {tmps:Array Value} {w:World} {v:Value} (h1:(readRes tmps r).run P w=.ok v w):(results fn tmps).run P w=.ok v w:=by
 have:results fn tmps=readRes tmps r:=by
  cases r <;> simp[results,h,readRes]
 rw[this,h1]
theorem results2 {P:Program} {fn:Func} {r s:ResultVar} (h:fn.results=#[r,s]) {tmps:Array Value} {w:World} {v u:Value} (h1:(readRes tmps r).run P w=.ok v w) (h2:(readRes tmps s).run P w=.ok u w) :
  (results fn tmps).run P w=.ok (.tuple #[v,u]) w:=by
 have:results fn tmps=(do let v ←readRes tmps r;let u ←readRes tmps s;Pure.pure (.tuple #[v,u])):=by
  cases r <;> cases s <;> simp[results,h,readRes]
 rw[this,bind_run h1,bind_run h2]
 try rfl
theorem results3 {P:Program} {fn:Func} {r s t:ResultVar} (h:fn.results=#[r,s,t]) {tmps:Array Value} {w:World} {v u x:Value} (h1:(readRes tmps r).run P w=.ok v w) (h2:(readRes tmps s).run P w=.ok u w) (h3:(readRes tmps t).run P w=.ok x w) :
  (results fn tmps).run P w=.ok (.tuple #[v,u,x]) w:=by
 have:results fn tmps=(do let v ←readRes tmps r;let u ←readRes tmps s;let x ←readRes tmps t;Pure.pure (.tuple #[v,u,x])):=by
  cases r <;> cases s <;> cases t <;> simp[results,h,readRes]
 rw[this,bind_run h1,bind_run h2,bind_run h3]
 try rfl
theorem results_of {C:Ctx} {n:Nat} {fn:Func} {e:Env} {H:Heap} {a:Act} {w:World} {L:Live} (hE:RelE n a e w L) (hH:RelH C w L H) {vs:List LV}
  (h:AllRes C n e H fn.results.toList vs) (h3:fn.results.size≤3):∃ v,(results fn a.tmps).run C.P w=.ok v w∧Rep w L (resLV vs) v:=by
 obtain ⟨rs,hrs⟩:∃ rs,fn.results=List.toArray rs:=⟨fn.results.toList,by simp⟩
 rw[hrs] at h h3
 simp only[List.size_toArray] at h h3
 match rs,vs,h,h3,hrs with
 |[],[],_,_,hrs=>exact ⟨_,results0 hrs _ _,by simp only[resLV,Rep];exact ⟨[],rfl,by simp only[RepL]⟩⟩
 |[r],[x],h,_,hrs=>
  obtain ⟨v,hv,hr⟩:=h.1 a w L hE hH
  exact ⟨v,results1 hrs hv,hr⟩
 |[r,s],[x,y],h,_,hrs=>
  obtain ⟨v,hv,hr⟩:=h.1 a w L hE hH
  obtain ⟨u,hu,hs⟩:=h.2.1 a w L hE hH
  exact ⟨_,results2 hrs hv hu,by simp only[resLV,Rep];exact ⟨[v,u],rfl,by simp only[RepL];exact ⟨v,_,rfl,hr,u,_,rfl,hs,rfl⟩⟩⟩
 |[r,s,t],[x,y,z],h,_,hrs=>
  obtain ⟨v,hv,hr⟩:=h.1 a w L hE hH
  obtain ⟨u,hu,hs⟩:=h.2.1 a w L hE hH
  obtain ⟨q,hq,ht⟩:=h.2.2.1 a w L hE hH
  exact ⟨_,results3 hrs hv hu hq,by simp only[resLV,Rep];exact ⟨[v,u,q],rfl,by simp only[RepL];exact ⟨v,_,rfl,hr,u,_,rfl,hs,q,_,rfl,ht,rfl⟩⟩⟩
 |_::_::_::_::_,_,_,h3,_=>simp at h3
 |[],_::_,h,_,_=>exact h.elim
 |[_],[],h,_,_=>exact h.elim
 |[_],_::_::_,h,_,_=>exact h.2.elim
 |[_,_],[],h,_,_=>exact h.elim
 |[_,_],[_],h,_,_=>exact h.2.elim
 |[_,_],_::_::_::_,h,_,_=>exact h.2.2.elim
 |[_,_,_],[],h,_,_=>exact h.elim
 |[_,_,_],[_],h,_,_=>exact h.2.elim
 |[_,_,_],[_,_],h,_,_=>exact h.2.2.elim
 |[_,_,_],_::_::_::_::_,h,_,_=>exact h.2.2.2.elim
theorem cI {C:Ctx} {f:FuncId} {fn:Func} {c:Code} {n:Nat} {args:List LV} {H:Heap} {R:LRes→Heap→Prop} (hf:C.P.funcs[f]? = some fn) (hb:fn.body=some c) (hn:fn.ntmps=n) (h3:Nat.ble fn.results.size 3=true)
  (hl:Nat.ble args.length n=true) (h:LCode C n c (RetPost C n fn.results.toList R) (argsEnv args) H):LCalls C f args H R:=fun vs w L hv hH=>by
 subst hn
 have hl':args.length≤fn.ntmps:=by simpa using hl
 have h3':fn.results.size≤3:=by simpa using h3
 have hlen:=hv.length
 refine calls_of_wp hf hb (Go.wp_mono (h _ w L ⟨?_,rfl,fun i=>?_⟩ hH) fun ex a' w' hq=>?_)
 ·simp;omega
 ·exact zT1
 ·obtain ⟨e',H',L',g1,g2,g3,g4⟩:=hq
  have ret:RelE fn.ntmps a' e' w' L'→(e'.ds=[]∧∃ vs H'',AllRes C fn.ntmps e' H' fn.results.toList vs∧HSub H'' H'∧R (.ret (resLV vs)) H'') →
    a'.defers=[]∧∃ v,(results fn a'.tmps).run C.P w'=.ok v w'∧CallPost C w L H (fun v=>R (.ret v)) (fun ch=>R (.panic ch)) (.returned v) w':=fun hE hr=>by
   obtain ⟨h1,vs',H'',h2,h4,h5⟩:=hr
   obtain ⟨v,r1,r2⟩:=results_of hE g2 h2 h3'
   exact ⟨hE.ds.trans h1,v,r1,resLV vs',H'',L',g1.weak h4,g2.weak h4,r2,h5⟩
  cases ex with
  |normal=>exact ret g3 g4
  |ret=>exact ret g3 g4
  |panic ch=>
   obtain ⟨h1,H'',h4,h5⟩:=g4
   exact ⟨g3.trans h1,H'',L',g1.weak h4,g2.weak h4,h5⟩
  |exit id=>exact g4.elim
  |goto id=>exact g4.elim
  |outgrown=>exact g4.elim
theorem rT {C:Ctx} {n:Nat} {e:Env} {H:Heap} {t:Nat} {v lv:LV} (hv:e.s t=v) (h:v.Sub lv):ResIs C n e H (.tmp t) lv:=fun a w L hE _=>by
 have:=hE.vals t
 rw[hv] at this
 exact ⟨_,rfl,h _ _ _ this⟩
end Go.GL
namespace Go.GL
open Go.RowKit
/-! ### What is asked of the types: each a closed fact -/
class TOne (P:Program) (t:TypeId):Prop where
 und:∃ d,P.underlying t=some d∧(match d with|.struct _|.array _ _=>False|_=>True)
 size:∃ i,P.info? t=some i∧i.size=1
def chkOne (P:Program) (t:TypeId):Bool:=
 (match P.underlying t with|some (.struct _)|some (.array _ _)|none=>false|_=>true) && (match P.info? t with|some i=>i.size == 1|none=>false)
theorem TOne.of {P:Program} {t:TypeId} (h:chkOne P t=true):TOne P t:=by
 unfold chkOne at h
 simp only[zBa] at h
 obtain ⟨h1,h2⟩:=h
 refine ⟨?_,?_⟩
 ·cases hu:P.underlying t with
  |none=>rw[hu] at h1;simp at h1
  |some d=>rw[hu] at h1;refine ⟨d,rfl,?_⟩;cases d <;> simp_all
 ·cases hi:P.info? t with
  |none=>rw[hi] at h2;simp at h2
  |some i=>rw[hi] at h2;exact ⟨i,rfl,by simpa using h2⟩
class TAgg (P:Program) (t:TypeId) (k:outParam Nat):Prop where
 und:∃ d,P.underlying t=some d∧(match d with|.struct _|.array _ _=>True|_=>False)
 size:∃ i,P.info? t=some i∧i.size=k
def chkAgg (P:Program) (t k:Nat):Bool:=
 (match P.underlying t with|some (.struct _)|some (.array _ _)=>true|_=>false) && (match P.info? t with|some i=>i.size == k|none=>false)
theorem TAgg.of {P:Program} {t:TypeId} {k:Nat} (h:chkAgg P t k=true):TAgg P t k:=by
 unfold chkAgg at h
 simp only[zBa] at h
 obtain ⟨h1,h2⟩:=h
 refine ⟨?_,?_⟩
 ·cases hu:P.underlying t with
  |none=>rw[hu] at h1;simp at h1
  |some d=>rw[hu] at h1;refine ⟨d,rfl,?_⟩;cases d <;> simp_all
 ·cases hi:P.info? t with
  |none=>rw[hi] at h2;simp at h2
  |some i=>rw[hi] at h2;exact ⟨i,rfl,by simpa using h2⟩
class TSlice (P:Program) (t:TypeId) (e s:outParam Nat):Prop where
 und:P.underlying t=some (.slice e)
 size:∃ i,P.info? e=some i∧i.size=s
def chkSlice (P:Program) (t e s:Nat):Bool:=
 (match P.underlying t with|some (.slice e')=>e' == e|_=>false) && (match P.info? e with|some i=>i.size == s|none=>false)
theorem TSlice.of {P:Program} {t e s:Nat} (h:chkSlice P t e s=true):TSlice P t e s:=by
 unfold chkSlice at h
 simp only[zBa] at h
 obtain ⟨h1,h2⟩:=h
 refine ⟨?_,?_⟩
 ·cases hu:P.underlying t with
  |none=>rw[hu] at h1;simp at h1
  |some d=>rw[hu] at h1;cases d <;> simp_all
 ·cases hi:P.info? e with
  |none=>rw[hi] at h2;simp at h2
  |some i=>rw[hi] at h2;exact ⟨i,rfl,by simpa using h2⟩
class TField (P:Program) (s f:Nat) (k:outParam Nat):Prop where
 out:∃ fs fld,P.underlying s=some (.struct fs)∧fs[f]? = some fld∧fld.offset=k∧∃ i,P.info? fld.type=some i∧i.size≠0
def chkField (P:Program) (s f k:Nat):Bool:=
 match P.underlying s with
 |some (.struct fs)=>(match fs[f]? with|some fld=>fld.offset == k && (match P.info? fld.type with|some i=>i.size != 0|none=>false)|none=>false)
 |_=>false
theorem TField.of {P:Program} {s f k:Nat} (h:chkField P s f k=true):TField P s f k:=by
 unfold chkField at h
 cases hu:P.underlying s with
 |none=>rw[hu] at h;simp at h
 |some d=>
  rw[hu] at h
  cases d <;> simp only[Bool.false_eq_true] at h
  rename_i fs
  cases hf:fs[f]? with
  |none=>rw[hf] at h;simp at h
  |some fld=>
   rw[hf] at h
   simp only[zBa,beq_iff_eq] at h
   cases hi:P.info? fld.type with
   |none=>rw[hi] at h;simp at h
   |some i=>rw[hi] at h;exact ⟨fs,fld,hu,hf,h.1,i,hi,by simpa using h.2⟩
class TStr (P:Program) (t:TypeId):Prop where
 und:P.underlying t=some .string
def chkStr (P:Program) (t:Nat):Bool:=match P.underlying t with|some .string=>true|_=>false
theorem TStr.of {P:Program} {t:Nat} (h:chkStr P t=true):TStr P t:=by
 unfold chkStr at h
 refine ⟨?_⟩
 cases hu:P.underlying t with
 |none=>rw[hu] at h;simp at h
 |some d=>rw[hu] at h;cases d <;> simp_all
class TKind (P:Program) (t:TypeId) (k:outParam IntKind):Prop where
 und:P.underlying t=some (.int k)
def chkKind (P:Program) (t:Nat) (k:IntKind):Bool:=match P.underlying t with|some (.int k')=>k' == k|_=>false
theorem TKind.of {P:Program} {t:Nat} {k:IntKind} (h:chkKind P t k=true):TKind P t k:=by
 unfold chkKind at h
 refine ⟨?_⟩
 cases hu:P.underlying t with
 |none=>rw[hu] at h;simp at h
 |some d=>rw[hu] at h;cases d <;> simp_all
class TZero (P:Program) (t:TypeId) (zs:outParam (List Value)):Prop where
 out:∃ i v,P.info? t=some i∧i.zero=some v∧v.cells=zs.toArray∧i.size=zs.length
theorem TZero.of {P:Program} {t:TypeId} {zs:List Value} {v:Value} {n:Nat} (h:(P.info? t).map (fun i=>(i.zero,i.size))=some (some v,n)) (hc:v.cells=zs.toArray) (hn:n=zs.length):TZero P t zs:=by
 cases hi:P.info? t with
 |none=>rw[hi] at h;cases h
 |some i=>
  rw[hi] at h
  simp only[Option.map_some,Option.some.injEq,Prod.mk.injEq] at h
  exact ⟨i,v,hi,h.1,hc,h.2.trans hn⟩
class TStruct (P:Program) (t:TypeId) (pl:outParam (List (Nat×Nat))):Prop where
 out:∃ fs,P.underlying t=some (.struct fs)∧(fs.toList.map fun f=>(f.offset,P.cellsOf f.type))=pl∧∀ f∈fs,(P.info? f.type).isSome
def chkStruct (P:Program) (t:Nat) (pl:List (Nat×Nat)):Bool:=
 match P.underlying t with
 |some (.struct fs)=>(fs.toList.map fun f=>(f.offset,P.cellsOf f.type)) == pl && fs.toList.all fun f=>(P.info? f.type).isSome
 |_=>false
theorem TStruct.of {P:Program} {t:Nat} {pl:List (Nat×Nat)} (h:chkStruct P t pl=true):TStruct P t pl:=by
 unfold chkStruct at h
 cases hu:P.underlying t with
 |none=>rw[hu] at h;simp at h
 |some d=>
  rw[hu] at h
  cases d <;> simp only[Bool.false_eq_true] at h
  rename_i fs
  simp only[zBa,beq_iff_eq,List.all_eq_true] at h
  exact ⟨fs,hu,h.1,fun f hf=>h.2 f (by simpa using hf)⟩
class TConcrete (P:Program) (t:TypeId):Prop where
 out:∃ d,P.underlying t=some d∧(match d with|.interface _=>False|_=>True)
def chkConcrete (P:Program) (t:Nat):Bool:=match P.underlying t with|some (.interface _)|none=>false|_=>true
theorem TConcrete.of {P:Program} {t:Nat} (h:chkConcrete P t=true):TConcrete P t:=by
 unfold chkConcrete at h
 cases hu:P.underlying t with
 |none=>rw[hu] at h;simp at h
 |some d=>rw[hu] at h;exact ⟨d,hu,by cases d <;> simp_all⟩
theorem run_underlying' {P:Program} {t:TypeId} {d:TypeDesc} (h:P.underlying t=some d) (w:World):(underlying t).run P w=.ok d w:=by simp[underlying,program,Sem.run,h,bind,Sem.bind,Pure.pure]
theorem run_typeInfo' {P:Program} {t:TypeId} {i:TypeInfo} (h:P.info? t=some i) (w:World):(typeInfo t).run P w=.ok i w:=by simp[typeInfo,program,Sem.run,h,bind,Sem.bind,Pure.pure]
theorem run_sizeOf' {P:Program} {t:TypeId} {i:TypeInfo} (h:P.info? t=some i) (w:World):(sizeOf t).run P w=.ok i.size w:=by simp[sizeOf,run_typeInfo' h]
theorem TOne.isAgg {P:Program} {t:TypeId} [h:TOne P t] (w:World):(isAgg t).run P w=.ok false w:=by
 obtain ⟨d,hd,hm⟩:=h.und
 simp only[Go.isAgg,Sem.run_bind,run_underlying' hd,Result.andThen_ok]
 cases d <;> simp_all
theorem TAgg.isAgg {P:Program} {t k:Nat} [h:TAgg P t k] (w:World):(isAgg t).run P w=.ok true w:=by
 obtain ⟨d,hd,hm⟩:=h.und
 simp only[Go.isAgg,Sem.run_bind,run_underlying' hd,Result.andThen_ok]
 cases d <;> simp_all
theorem rep_atom {w:World} {L:Live} {v:Value}:Rep w L (.atom v) v:=by simp only[Rep]
theorem size_mk (l:List UInt8):(ByteArray.mk l.toArray).size=l.length:=by simp[ByteArray.size]
section pure
variable {C:Ctx} {e:Env} {H:Heap} {dst:Option Nat} {ty:TypeId} {pos:String} {aft:Array Edge} {g:Option (Nat×Bool)}
theorem Pure.of_any {o:Oper} {lv:LV} (h:∀ (ρ:Operand→Value) w L,(∀ x,Rep w L (e.ev x) (ρ x))→∃ v,Rep w L lv v∧∀ w',(execOp ρ o).run C.P w'=.ok (.value v) w'):Pure C o e H lv:=
 fun ρ w L h1 _=>
  let ⟨v,h2,h3⟩:=h ρ w L h1
  ⟨v,h2,fun w' _=>h3 w'⟩
theorem atom_of {ρ:Operand→Value} {w:World} {L:Live} (h:∀ x,Rep w L (e.ev x) (ρ x)) {x:Operand} {v:Value} (hx:e.ev x=.atom v):ρ x=v:=by
 have:=h x
 rw[hx] at this
 simpa only[Rep] using this
theorem Pure.move {x:Operand}:Pure C ⟨dst,.move x,ty,pos,aft,g⟩ e H (e.ev x):=.of_any fun ρ _ _ h=>⟨ρ x,h x,fun _=>rfl⟩
theorem Pure.assign {x:Operand}:Pure C ⟨dst,.assign x,ty,pos,aft,g⟩ e H (e.ev x):=.of_any fun ρ _ _ h=>⟨ρ x,h x,fun _=>rfl⟩
theorem Pure.pick {c a b:Operand} {t:Bool} (hc:e.ev c=bool t):Pure C ⟨dst,.pick c a b,ty,pos,aft,g⟩ e H (if t then e.ev a else e.ev b):=.of_any fun ρ w L h=>by
 have h1:=atom_of h hc
 refine ⟨if t then ρ a else ρ b,by cases t <;> simp[h],fun w'=>?_⟩
 cases t <;> simp[execOp,h1,asBool]
theorem run_int {P:Program} {op:BinOp} {xT yT:TypeId} {x y:Operand} {k:IntKind} {a b:Int} {ρ:Operand→Value} (hx:ρ x=.int k a) (hy:ρ y=.int k b) (hs:op≠.shl) (hr:op≠.shr) {s:Sem Value}
  (h:(binOp op xT (.int k a) (.int k b))=s) {v:Value} (hv:∀ w,s.run P w=.ok v w) (w:World):(execOp ρ ⟨dst,.binOp op xT x y yT,ty,pos,aft,g⟩).run P w=.ok (.value v) w:=by
 subst h
 have he:eqGuard op xT x y (.int k a) (.int k b)=Pure.pure ():=by
  unfold eqGuard
  cases op <;> rfl
 simp only[execOp,hx,hy,he,Sem.run_bind,Sem.run_pure,Result.andThen_ok,hv]
variable {xT yT:TypeId} {x y:Operand} {k:IntKind} {a b:Int}
theorem Pure.addW (hx:e.ev x=int k a) (hy:e.ev y=int k b):Pure C ⟨dst,.binOp .add xT x y yT,ty,pos,aft,g⟩ e H (int k (k.wrap (a+b))):=
 .of_any fun _ _ _ h=>⟨_,rep_atom,run_int (atom_of h hx) (atom_of h hy) (by simp) (by simp) (s:=Op.intArith .add k a b) (by simp only[binOp,ne_eq,not_true_eq_false,if_false]) (fun _=>rfl)⟩
theorem Pure.subW (hx:e.ev x=int k a) (hy:e.ev y=int k b):Pure C ⟨dst,.binOp .sub xT x y yT,ty,pos,aft,g⟩ e H (int k (k.wrap (a-b))):=
 .of_any fun _ _ _ h=>⟨_,rep_atom,run_int (atom_of h hx) (atom_of h hy) (by simp) (by simp) (s:=Op.intArith .sub k a b) (by simp only[binOp,ne_eq,not_true_eq_false,if_false]) (fun _=>rfl)⟩
theorem Pure.mulW (hx:e.ev x=int k a) (hy:e.ev y=int k b):Pure C ⟨dst,.binOp .mul xT x y yT,ty,pos,aft,g⟩ e H (int k (k.wrap (a * b))):=
 .of_any fun _ _ _ h=>⟨_,rep_atom,run_int (atom_of h hx) (atom_of h hy) (by simp) (by simp) (s:=Op.intArith .mul k a b) (by simp only[binOp,ne_eq,not_true_eq_false,if_false]) (fun _=>rfl)⟩
theorem wrap_i64 {n:Int} (h : -9223372036854775808≤n∧n≤9223372036854775807):IntKind.i64.wrap n=n:=by
 simp only[IntKind.wrap,IntKind.bits,IntKind.signed,Bool.true_and]
 split <;> rename_i h <;> simp at h <;> omega
theorem Pure.add (hx:e.ev x=int .i64 a) (hy:e.ev y=int .i64 b) (h : -9223372036854775808≤a+b∧a+b≤9223372036854775807):Pure C ⟨dst,.binOp .add xT x y yT,ty,pos,aft,g⟩ e H (int .i64 (a+b)):=by
 have:=Pure.addW (C:=C) (H:=H) (dst:=dst) (ty:=ty) (pos:=pos) (aft:=aft) (g:=g) (xT:=xT) (yT:=yT) hx hy
 rwa [wrap_i64 h] at this
theorem Pure.sub (hx:e.ev x=int .i64 a) (hy:e.ev y=int .i64 b) (h : -9223372036854775808≤a-b∧a-b≤9223372036854775807):Pure C ⟨dst,.binOp .sub xT x y yT,ty,pos,aft,g⟩ e H (int .i64 (a-b)):=by
 have:=Pure.subW (C:=C) (H:=H) (dst:=dst) (ty:=ty) (pos:=pos) (aft:=aft) (g:=g) (xT:=xT) (yT:=yT) hx hy
 rwa [wrap_i64 h] at this
theorem Pure.eql (hx:e.ev x=int k a) (hy:e.ev y=int k b):Pure C ⟨dst,.binOp .eql xT x y yT,ty,pos,aft,g⟩ e H (bool (decide (a=b))):=
 .of_any fun _ _ _ h=>⟨_,rep_atom,run_int (atom_of h hx) (atom_of h hy) (by simp) (by simp) (s:=Op.intCmp .eql a b) (by simp only[binOp,ne_eq,not_true_eq_false,if_false]) (fun _=>rfl)⟩
theorem Pure.neq (hx:e.ev x=int k a) (hy:e.ev y=int k b):Pure C ⟨dst,.binOp .neq xT x y yT,ty,pos,aft,g⟩ e H (bool (!decide (a=b))):=
 .of_any fun _ _ _ h=>⟨_,rep_atom,run_int (atom_of h hx) (atom_of h hy) (by simp) (by simp) (s:=Op.intCmp .neq a b) (by simp only[binOp,ne_eq,not_true_eq_false,if_false]) (fun _=>rfl)⟩
theorem Pure.lss (hx:e.ev x=int k a) (hy:e.ev y=int k b):Pure C ⟨dst,.binOp .lss xT x y yT,ty,pos,aft,g⟩ e H (bool (decide (a<b))):=
 .of_any fun _ _ _ h=>⟨_,rep_atom,run_int (atom_of h hx) (atom_of h hy) (by simp) (by simp) (s:=Op.intCmp .lss a b) (by simp only[binOp,ne_eq,not_true_eq_false,if_false]) (fun _=>rfl)⟩
theorem Pure.leq (hx:e.ev x=int k a) (hy:e.ev y=int k b):Pure C ⟨dst,.binOp .leq xT x y yT,ty,pos,aft,g⟩ e H (bool (decide (a≤b))):=
 .of_any fun _ _ _ h=>⟨_,rep_atom,run_int (atom_of h hx) (atom_of h hy) (by simp) (by simp) (s:=Op.intCmp .leq a b) (by simp only[binOp,ne_eq,not_true_eq_false,if_false]) (fun _=>rfl)⟩
theorem Pure.gtr (hx:e.ev x=int k a) (hy:e.ev y=int k b):Pure C ⟨dst,.binOp .gtr xT x y yT,ty,pos,aft,g⟩ e H (bool (decide (b<a))):=
 .of_any fun _ _ _ h=>⟨_,rep_atom,run_int (atom_of h hx) (atom_of h hy) (by simp) (by simp) (s:=Op.intCmp .gtr a b) (by simp only[binOp,ne_eq,not_true_eq_false,if_false]) (fun _=>rfl)⟩
theorem Pure.geq (hx:e.ev x=int k a) (hy:e.ev y=int k b):Pure C ⟨dst,.binOp .geq xT x y yT,ty,pos,aft,g⟩ e H (bool (decide (b≤a))):=
 .of_any fun _ _ _ h=>⟨_,rep_atom,run_int (atom_of h hx) (atom_of h hy) (by simp) (by simp) (s:=Op.intCmp .geq a b) (by simp only[binOp,ne_eq,not_true_eq_false,if_false]) (fun _=>rfl)⟩
theorem Pure.not {t:Bool} (hx:e.ev x=bool t):Pure C ⟨dst,.unOp .not xT x,ty,pos,aft,g⟩ e H (bool (!t)):=
 .of_any fun ρ _ _ h=>⟨_,rep_atom,fun w'=>by simp only[execOp,atom_of h hx,Op.unary];rfl⟩
theorem execOp_builtin' (ρ:Operand→Value) (b:Builtin) (xs:Array Operand) (ats:Array TypeId) :
  execOp ρ ⟨dst,.call { callee:=.builtin b,args:=xs,argTypes:=ats },ty,pos,aft,g⟩=builtin b ats ty (xs.map fun|.const _=>true|_=>false) (xs.map ρ):=rfl
theorem builtin_len' (ats:Array TypeId) (cs:Array Bool) (args:Array Value):builtin .len ats ty cs args=(do Pure.pure (.value (←Builtin.len_ ats ty args))):=rfl
/-! strings -/
theorem run_str {P:Program} {op:BinOp} {xT yT:TypeId} {x y:Operand} {a b:ByteArray} {ρ:Operand→Value} (hx:ρ x=.string a) (hy:ρ y=.string b)
  {v:Value} (hv:∀ w,(Op.stringOp op a b).run P w=.ok v w) (w:World):(execOp ρ ⟨dst,.binOp op xT x y yT,ty,pos,aft,g⟩).run P w=.ok (.value v) w:=by
 have he:eqGuard op xT x y (.string a) (.string b)=Pure.pure ():=by
  unfold eqGuard
  cases op <;> rfl
 have hb:binOp op xT (.string a) (.string b)=Op.stringOp op a b:=by cases op <;> rfl
 simp only[execOp,hx,hy,he,hb,Sem.run_bind,Sem.run_pure,Result.andThen_ok,hv]
variable {l m:List UInt8}
theorem Pure.seq (hx:e.ev x=str l) (hy:e.ev y=str m):Pure C ⟨dst,.binOp .eql xT x y yT,ty,pos,aft,g⟩ e H (bool (decide (l=m))):=
 .of_any fun _ _ _ h=>⟨_,rep_atom,run_str (atom_of h hx) (atom_of h hy) fun w=>by
  simp only[Op.stringOp,ByteArray.toList_mk,Sem.run_pure]
  congr 2
  rw[Bool.eq_iff_iff];simp⟩
theorem Pure.sneq (hx:e.ev x=str l) (hy:e.ev y=str m):Pure C ⟨dst,.binOp .neq xT x y yT,ty,pos,aft,g⟩ e H (bool (!decide (l=m))):=
 .of_any fun _ _ _ h=>⟨_,rep_atom,run_str (atom_of h hx) (atom_of h hy) fun w=>by
  simp only[Op.stringOp,ByteArray.toList_mk,Sem.run_pure]
  congr 3
  rw[Bool.eq_iff_iff];simp⟩
theorem append_mk (l m:List UInt8):(ByteArray.mk l.toArray++ByteArray.mk m.toArray)=ByteArray.mk (l++m).toArray:=by
 apply ByteArray.ext
 simp
theorem Pure.sadd (hx:e.ev x=str l) (hy:e.ev y=str m) (hl:l.length+m.length≤9223372036854775807):Pure C ⟨dst,.binOp .add xT x y yT,ty,pos,aft,g⟩ e H (str (l++m)):=
 .of_any fun _ _ _ h=>⟨_,rep_atom,run_str (atom_of h hx) (atom_of h hy) fun w=>by
  have h1:¬ ((((ByteArray.mk l.toArray).size+(ByteArray.mk m.toArray).size:Nat):Int) > IntKind.i64.max):=by
   rw[size_mk,size_mk]
   simp only[IntKind.max,IntKind.signed,IntKind.bits]
   omega
  simp only[Op.stringOp,if_neg h1,Sem.run_pure,append_mk]⟩
theorem pI {n:Int} {c:UInt8} [TStr C.P xT] (hx:e.ev x=str l) (hy:e.ev y=int k n) (h0:0≤n) (hc:l[n.toNat]? = some c):Pure C ⟨dst,.index xT x y,ty,pos,aft,g⟩ e H (int .u8 c.toNat):=
 .of_any fun ρ _ _ h=>⟨_,rep_atom,fun w'=>by
  have hu:=run_underlying' (P:=C.P) (TStr.und (t:=xT)) w'
  have hg:(ByteArray.mk l.toArray)[n.toNat]? = some c:=by
   have hlt:n.toNat<l.length:=(List.getElem?_eq_some_iff.1 hc).1
   have hsz:n.toNat<(ByteArray.mk l.toArray).size:=by simp[ByteArray.size];exact hlt
   have:=(List.getElem?_eq_some_iff.1 hc).2
   rw[getElem?_pos (ByteArray.mk l.toArray) n.toNat hsz]
   exact congrArg some this
  simp only[execOp,atom_of h hx,atom_of h hy,Instr.index,asIntOf,Sem.run_bind,Sem.run_pure,Result.andThen_ok,hu,if_pos h0,hg]⟩
theorem Pure.slen (hx:e.ev x=str l) [TStr C.P xT]:Pure C ⟨dst,.call { callee:=.builtin .len,args:=#[x],argTypes:=#[xT] },ty,pos,aft,g⟩ e H (int .i64 l.length):=
 .of_any fun ρ _ _ h=>⟨_,rep_atom,fun w'=>by
  have hu:=run_underlying' (P:=C.P) (TStr.und (t:=xT)) w'
  rw[execOp_builtin',builtin_len']
  simp[Builtin.len_,hu,goInt,atom_of h hx]
  rw[size_mk]⟩
end pure
/-! ### Reading memory -/
theorem add_mk (b off i:Nat):(Addr.mk b off none).add i=⟨b,off+i,none⟩:=by
 unfold Addr.add
 split
 ·rename_i h;subst h;rfl
 ·rfl
theorem RepC.get {w:World} {L:Live} {b:Nat}:∀ {off:Nat} {cs:List LV},RepC w L b off cs→∀ {i:Nat} {c:LV},cs[i]? = some c→off+i<L b∧∃ x,w.cell? ⟨b,off+i,none⟩=some x∧Rep w L c x
 |_,[],_,i,c,hc=>by simp at hc
 |off,c::cs,h,i,c',hc=>by
  simp only[RepC] at h
  obtain ⟨h1,⟨x,h2,h3⟩,h4⟩:=h
  cases i with
  |zero=>simp at hc;subst hc;exact ⟨h1,x,h2,h3⟩
  |succ i=>
   have:=RepC.get h4 (i:=i) (by simpa using hc)
   rwa [show off+1+i=off+(i+1) by omega] at this
theorem RepC.drop {w:World} {L:Live} {b:Nat}:∀ {off:Nat} {cs:List LV} (n:Nat),RepC w L b off cs→RepC w L b (off+n) (cs.drop n)
 |_,cs,0,h=>by simpa using h
 |_,[],n+1,_=>by simp[RepC]
 |off,c::cs,n+1,h=>by
  simp only[RepC] at h
  have:=RepC.drop n h.2.2
  rwa [show off+1+n=off+(n+1) by omega] at this
theorem RepRows.cell {w:World} {L:Live} {b k off:Nat} {e:LV} {es:List LV} (h:RepRows w L b k off (e::es)):e.cells.length=k∧RepC w L b off e.cells:=by
 cases e <;> simp only[RepRows] at h <;> first
  |exact h.1
  |(obtain ⟨⟨r1,r2,r3⟩,_⟩:=h;exact ⟨r1,by simp only[LV.cells,RepC];exact ⟨r2,r3,trivial⟩⟩)
theorem RepRows.tail {w:World} {L:Live} {b k off:Nat} {e:LV} {es:List LV} (h:RepRows w L b k off (e::es)):RepRows w L b k (off+k) es:=by
 cases e <;> simp only[RepRows] at h <;> exact h.2
theorem RepRows.cons {w:World} {L:Live} {b k off:Nat} {e:LV} {es:List LV} (h1:e.cells.length=k) (h2:RepC w L b off e.cells) (h3:RepRows w L b k (off+k) es):RepRows w L b k off (e::es):=by
 cases e <;> simp only[RepRows] <;> refine ⟨?_,h3⟩ <;> first
  |exact ⟨h1,h2⟩
  |(simp only[LV.cells,RepC] at h1 h2;exact ⟨h1,h2.1,h2.2.1⟩)
theorem RepRows.get {w:World} {L:Live} {b k:Nat}:∀ {off:Nat} {es:List LV},RepRows w L b k off es→∀ {i:Nat} {e:LV},es[i]? = some e→e.cells.length=k∧RepC w L b (off+i * k) e.cells
 |_,[],_,i,c,hc=>by simp at hc
 |off,e::es,h,i,e',hc=>by
  cases i with
  |zero=>simp at hc;subst hc;simpa using h.cell
  |succ i=>
   have:=RepRows.get h.tail (i:=i) (by simpa using hc)
   rwa [show off+k+i * k=off+(i+1) * k by rw[Nat.add_mul];omega] at this
theorem RepRows.drop {w:World} {L:Live} {b k:Nat}:∀ {off:Nat} {es:List LV} (n:Nat),RepRows w L b k off es→RepRows w L b k (off+n * k) (es.drop n)
 |_,es,0,h=>by simpa using h
 |_,[],n+1,_=>by simp[RepRows]
 |off,c::cs,n+1,h=>by
  have:=RepRows.drop n h.tail
  rwa [show off+k+n * k=off+(n+1) * k by rw[Nat.add_mul];omega] at this
theorem RepRows.take {w:World} {L:Live} {b k:Nat}:∀ {off:Nat} {es:List LV} (n:Nat),RepRows w L b k off es→RepRows w L b k off (es.take n)
 |_,es,0,_=>by simp[RepRows]
 |_,[],n+1,_=>by simp[RepRows]
 |off,c::cs,n+1,h=>.cons h.cell.1 h.cell.2 (RepRows.take n h.tail)
theorem loadCellsFrom_run {P:Program} {w:World} {b off:Nat}:∀ (n i:Nat) (acc:Array Value) (xs:List Value),xs.length=n→(∀ j x,xs[j]? = some x→w.cell? ⟨b,off+i+j,none⟩=some x) →
  (loadCellsFrom ⟨b,off,none⟩ i n acc).run P w=.ok (acc++xs.toArray) w
 |0,i,acc,xs,hl,_=>by
  have:xs=[]:=List.eq_nil_of_length_eq_zero hl
  subst this
  simp[loadCellsFrom]
 |n+1,i,acc,[],hl,_=>by simp at hl
 |n+1,i,acc,x::xs,hl,h=>by
  have h0:=h 0 x rfl
  have ih:=loadCellsFrom_run (P:=P) (w:=w) (b:=b) (off:=off) n (i+1) (acc.push x) xs (by simpa using hl) (fun j y hy=>by
   have:=h (j+1) y (by simpa using hy)
   rwa [show off+i+(j+1)=off+(i+1)+j by omega] at this)
  simp only[loadCellsFrom,Sem.run_bind,run_load,add_mk]
  rw[show off+i=off+i+0 by omega,h0]
  simp only[Result.andThen_ok]
  rw[ih]
  simp
theorem RepC.values {w:World} {L:Live} {b:Nat}:∀ {off:Nat} {cs:List LV},RepC w L b off cs→∃ xs:List Value,RepL w L cs xs∧∀ j x,xs[j]? = some x→off+j<L b∧w.cell? ⟨b,off+j,none⟩=some x
 |_,[],_=>⟨[],by simp only[RepL],by simp⟩
 |off,c::cs,h=>by
  simp only[RepC] at h
  obtain ⟨h1,⟨x,h2,h3⟩,h4⟩:=h
  obtain ⟨xs,h5,h6⟩:=RepC.values h4
  refine ⟨x::xs,by simp only[RepL];exact ⟨x,xs,rfl,h3,h5⟩,fun j y hy=>?_⟩
  cases j with
  |zero=>simp at hy;subst hy;exact ⟨h1,h2⟩
  |succ j=>
   have:=h6 j y (by simpa using hy)
   rwa [show off+1+j=off+(j+1) by omega] at this
theorem RepC.take {w:World} {L:Live} {b:Nat}:∀ {off:Nat} {cs:List LV} (n:Nat),RepC w L b off cs→RepC w L b off (cs.take n)
 |_,cs,0,_=>by simp[RepC]
 |_,[],n+1,_=>by simp[RepC]
 |off,c::cs,n+1,h=>by
  simp only[RepC,List.take_succ_cons] at h ⊢
  exact ⟨h.1,h.2.1,RepC.take n h.2.2⟩
theorem loadVar_one {P:Program} {t:TypeId} [TOne P t] {w:World} {a:Addr} {x:Value} (h:w.cell? a=some x):(loadVar t a).run P w=.ok x w:=by
 simp[loadVar,TOne.isAgg,h]
theorem loadVar_agg {P:Program} {t k:Nat} [ht:TAgg P t k] {w:World} {b off:Nat} {xs:List Value} (hl:xs.length=k) (h:∀ j x,xs[j]? = some x→w.cell? ⟨b,off+j,none⟩=some x) :
  (loadVar t ⟨b,off,none⟩).run P w=.ok (.agg xs.toArray) w:=by
 obtain ⟨i,hi,hk⟩:=ht.size
 have:=loadCellsFrom_run (P:=P) (w:=w) (b:=b) (off:=off) k 0 #[] xs hl (by simpa using h)
 simp only[loadVar,Sem.run_bind,TAgg.isAgg,Result.andThen_ok,if_true,run_sizeOf' hi,hk,loadCells,this]
 simp
section reading
variable {C:Ctx} {e:Env} {H:Heap} {dst:Option Nat} {ty:TypeId} {pos:String} {aft:Array Edge} {g:Option (Nat×Bool)} {x y:Operand} {xT:TypeId} {k:IntKind}
theorem pO {t:TypeId} [TOne C.P t] {c:LV} {cs:List LV} (hx:e.ev x=.ref cs) (hc:cs[0]? = some c):Pure C ⟨dst,.load t x,ty,pos,aft,g⟩ e H c:=fun ρ w L h _=>by
 have hv:=h x
 rw[hx] at hv
 simp only[Rep] at hv
 obtain ⟨b,off,hv,hr⟩:=hv
 obtain ⟨h1,v,h2,h3⟩:=hr.get hc
 refine ⟨v,h3,fun w' ha=>?_⟩
 have h2':w'.cell? ⟨b,off,none⟩=some v:=by rw[ha.2 b off h1];exact h2
 have h0:execOp ρ ⟨dst,.load t x,ty,pos,aft,g⟩=(do Pure.pure (.value (←Instr.loadAt t (ρ x)))):=rfl
 rw[h0,hv]
 simp[Instr.loadAt,Instr.sureAddr,loadVar_one h2']
theorem Pure.loadRefAgg {t n:Nat} [TAgg C.P t n] {cs:List LV} (hx:e.ev x=.ref cs) (hn:n≤cs.length):Pure C ⟨dst,.load t x,ty,pos,aft,g⟩ e H (.agg (cs.take n)):=fun ρ w L h _=>by
 have hv:=h x
 rw[hx] at hv
 simp only[Rep] at hv
 obtain ⟨b,off,hv,hr⟩:=hv
 obtain ⟨xs,h1,h2⟩:=(hr.take n).values
 refine ⟨.agg xs.toArray,by simp only[Rep];exact ⟨xs,rfl,h1⟩,fun w' ha=>?_⟩
 have h0:execOp ρ ⟨dst,.load t x,ty,pos,aft,g⟩=(do Pure.pure (.value (←Instr.loadAt t (ρ x)))):=rfl
 rw[h0,hv]
 have hlen:xs.length=n:=by rw[h1.length];simp;omega
 simp[Instr.loadAt,Instr.sureAddr,loadVar_agg (t:=t) hlen (fun j y hy=>by rw[ha.2 b _ (h2 j y hy).1];exact (h2 j y hy).2)]
theorem RelH.cells {w:World} {L:Live} {b ty':Nat} {cs:List LV} (h:RelH C w L H) (hm:(b,LObj.cells ty' cs)∈H):∃ xs:List Value,w.heap[b]? = some (.cells xs.toArray ty' (0,0))∧RepL w L cs xs:=
 (h.objs _ hm).2.2.2
theorem pL {t:TypeId} [TOne C.P t] {b off ty':Nat} {c:LV} {cs:List LV} (hx:e.ev x=ptr b off) (hm:(b,LObj.cells ty' cs)∈H) (hc:cs[off]? = some c) :
  Pure C ⟨dst,.load t x,ty,pos,aft,g⟩ e H c:=fun ρ w L h hH=>by
 obtain ⟨xs,h1,h2⟩:=hH.cells hm
 obtain ⟨v,h3,h4⟩:=h2.get hc
 refine ⟨v,h4,fun w' ha=>?_⟩
 have hb:w'.heap[b]? = some (.cells xs.toArray ty' (0,0)):=(ha.1 _ hm).trans h1
 have hc':w'.cell? ⟨b,off,none⟩=some v:=by simp[World.cell?,hb,h3]
 have h0:execOp ρ ⟨dst,.load t x,ty,pos,aft,g⟩=(do Pure.pure (.value (←Instr.loadAt t (ρ x)))):=rfl
 rw[h0,atom_of h hx]
 simp[Instr.loadAt,Instr.sureAddr,loadVar_one hc']
theorem RepL.drop {w:World} {L:Live}:∀ (n:Nat) {cs:List LV} {xs:List Value},RepL w L cs xs→RepL w L (cs.drop n) (xs.drop n)
 |0,_,_,h=>by simpa using h
 |n+1,[],xs,h=>by simp only[RepL] at h;subst h;simp[RepL]
 |n+1,c::cs,xs,h=>by
  simp only[RepL] at h
  obtain ⟨y,ys,rfl,_,h⟩:=h
  simpa using RepL.drop n h
theorem RepL.take {w:World} {L:Live}:∀ (n:Nat) {cs:List LV} {xs:List Value},RepL w L cs xs→RepL w L (cs.take n) (xs.take n)
 |0,_,_,_=>by simp[RepL]
 |n+1,[],xs,h=>by simp only[RepL] at h;subst h;simp[RepL]
 |n+1,c::cs,xs,h=>by
  simp only[RepL] at h
  obtain ⟨y,ys,rfl,h1,h⟩:=h
  simp only[List.take_succ_cons,RepL]
  exact ⟨y,_,rfl,h1,RepL.take n h⟩
theorem Pure.loadHAgg {t n:Nat} [TAgg C.P t n] {b off ty':Nat} {cs:List LV} (hx:e.ev x=ptr b off) (hm:(b,LObj.cells ty' cs)∈H) (hn:off+n≤cs.length) :
  Pure C ⟨dst,.load t x,ty,pos,aft,g⟩ e H (.agg ((cs.drop off).take n)):=fun ρ w L h hH=>by
 obtain ⟨xs,h1,h2⟩:=hH.cells hm
 have hl:=h2.length
 refine ⟨.agg ((xs.drop off).take n).toArray,by simp only[Rep];exact ⟨_,rfl,(h2.drop off).take n⟩,fun w' ha=>?_⟩
 have hb:w'.heap[b]? = some (.cells xs.toArray ty' (0,0)):=(ha.1 _ hm).trans h1
 have h0:execOp ρ ⟨dst,.load t x,ty,pos,aft,g⟩=(do Pure.pure (.value (←Instr.loadAt t (ρ x)))):=rfl
 rw[h0,atom_of h hx]
 have hlen:((xs.drop off).take n).length=n:=by simp;omega
 simp[Instr.loadAt,Instr.sureAddr,loadVar_agg (t:=t) (w:=w') (b:=b) (off:=off) hlen (fun j y hy=>by
  rw[List.getElem?_take] at hy
  split at hy
  ·simpa [World.cell?,hb,List.getElem?_drop] using hy
  ·cases hy)]
theorem run_fieldPlace {P:Program} {fld:Field} {i:TypeInfo} (hi:P.info? fld.type=some i) (h0:i.size≠0) (b off:Nat) (w:World):(fieldPlace ⟨b,off,none⟩ fld).run P w=.ok ⟨b,off+fld.offset,none⟩ w:=by
 simp[fieldPlace,run_sizeOf' hi,h0,add_mk]
theorem run_fieldAt {P:Program} {s f n:Nat} [hf:TField P s f n] (b off:Nat) (w:World):(Instr.fieldAt s (.pointer (some ⟨b,off,none⟩)) f).run P w=.ok (.pointer (some ⟨b,off+n,none⟩)) w:=by
 obtain ⟨fs,fld,hu,hg,rfl,i,hi,h0⟩:=hf.out
 simp[Instr.fieldAt,run_underlying' hu,hg,Instr.sureAddr,run_fieldPlace hi h0]
theorem pF {s f n:Nat} [TField C.P s f n] {b off:Nat} (hx:e.ev x=ptr b off):Pure C ⟨dst,.fieldAddr s x f,ty,pos,aft,g⟩ e H (ptr b (off+n)):=
 .of_any fun ρ _ _ h=>⟨_,rep_atom,fun w'=>by
  have h0:execOp ρ ⟨dst,.fieldAddr s x f,ty,pos,aft,g⟩=(do Pure.pure (.value (←Instr.fieldAt s (ρ x) f))):=rfl
  rw[h0,atom_of h hx]
  simp[run_fieldAt]⟩
theorem Pure.fieldRef {s f n:Nat} [TField C.P s f n] {cs:List LV} (hx:e.ev x=.ref cs):Pure C ⟨dst,.fieldAddr s x f,ty,pos,aft,g⟩ e H (.ref (cs.drop n)):=
 .of_any fun ρ w L h=>by
  have hv:=h x
  rw[hx] at hv
  simp only[Rep] at hv
  obtain ⟨b,off,hv,hr⟩:=hv
  refine ⟨.pointer (some ⟨b,off+n,none⟩),by simp only[Rep];exact ⟨b,off+n,rfl,hr.drop n⟩,fun w'=>?_⟩
  have h0:execOp ρ ⟨dst,.fieldAddr s x f,ty,pos,aft,g⟩=(do Pure.pure (.value (←Instr.fieldAt s (ρ x) f))):=rfl
  rw[h0,hv]
  simp[run_fieldAt]
def elems:LV→Option (List LV)
 |.list es=>some es
 |.app _ _ _ es=>some es
 |.atom (.slice none 0 0)=>some []
 |_=>none
theorem Rep.elems {w:World} {L:Live}:∀ {lv:LV} {v:Value} {es:List LV},Rep w L lv v→GL.elems lv=some es →
  ∃ a cap,v=.slice a es.length cap∧es.length≤cap∧(es≠[]→∃ b off k,a=some ⟨b,off,none⟩∧RepRows w L b k off es)
 |.list es,v,es',h,he=>by simp only[GL.elems,Option.some.injEq] at he;subst he;simpa only[Rep] using h
 |.app b cap k es,v,es',h,he=>by
  simp only[GL.elems,Option.some.injEq] at he;subst he
  simp only[Rep] at h
  obtain ⟨rfl,hl,h,_⟩:=h
  exact ⟨_,_,rfl,hl,fun _=>⟨b,0,k,rfl,h⟩⟩
 |.atom u,v,es,h,he=>by
  simp only[Rep] at h;subst h
  unfold GL.elems at he
  split at he <;> simp_all
 |.agg _,_,_,_,he=>by simp[GL.elems] at he
 |.tuple _,_,_,_,he=>by simp[GL.elems] at he
 |.ref _,_,_,_,he=>by simp[GL.elems] at he
theorem Pure.llen {t el s:Nat} [TSlice C.P t el s] {es:List LV} (hx:elems (e.ev x)=some es):Pure C ⟨dst,.call { callee:=.builtin .len,args:=#[x],argTypes:=#[t] },ty,pos,aft,g⟩ e H (int .i64 es.length):=
 .of_any fun ρ _ _ h=>⟨_,rep_atom,fun w'=>by
  obtain ⟨a,cap,hv,_⟩:=(h x).elems hx
  have hu:=run_underlying' (P:=C.P) (TSlice.und (t:=t)) w'
  rw[execOp_builtin',builtin_len']
  simp[Builtin.len_,hu,goInt,hv]⟩
theorem Pure.indexAddr {t el s:Nat} [ht:TSlice C.P t el s] {es:List LV} {n:Int} {el':LV} (hx:elems (e.ev x)=some es) (hy:e.ev y=int k n) (h0:0≤n) (hn:es[n.toNat]? = some el') (hs:el'.cells.length=s) :
  Pure C ⟨dst,.indexAddr t x y,ty,pos,aft,g⟩ e H (.ref el'.cells):=.of_any fun ρ w L h=>by
 obtain ⟨a,cap,hv,hcap,hr⟩:=(h x).elems hx
 have hlt:n.toNat<es.length:=(List.getElem?_eq_some_iff.1 hn).1
 obtain ⟨b,off,k',rfl,hrr⟩:=hr (by intro h;subst h;simp at hlt)
 obtain ⟨h1,h2⟩:=hrr.get hn
 obtain ⟨i,hi,hsz⟩:=ht.size
 refine ⟨.pointer (some ⟨b,off+n.toNat * k',none⟩),by simp only[Rep];exact ⟨b,_,rfl,h2⟩,fun w'=>?_⟩
 have h3:execOp ρ ⟨dst,.indexAddr t x y,ty,pos,aft,g⟩=(do Pure.pure (.value (←Instr.indexAt t (ρ x) (ρ y)))):=rfl
 rw[h3,hv,atom_of h hy]
 have hk:k'=i.size:=by omega
 have hc:0≤n∧n<(es.length:Int):=⟨h0,by omega⟩
 simp[Instr.indexAt,asIntOf,run_underlying' ht.und,hc,run_sizeOf' hi,add_mk,hk]
def BoundIs (e:Env) (o:Option Operand) (dflt n:Int):Prop:=
 match o with
 |some x=>∃ k,e.ev x=int k n
 |none=>n=dflt
theorem run_sliceBounds {P:Program} {ρ:Operand→Value} {w w':World} {L:Live} (h:∀ x,Rep w L (e.ev x) (ρ x)) {lo hi:Option Operand} {i j:Int} {len cap:Nat} (sl:Bool)
  (hlo:BoundIs e lo 0 i) (hhi:BoundIs e hi len j) (h0:0≤i) (h1:i≤j) (h2:j≤cap) :
  (Instr.sliceBounds sl len cap (lo.map ρ) (hi.map ρ) none).run P w'=.ok (i.toNat,j.toNat,cap) w':=by
 have hj:0≤j:=by omega
 have hm:i≤max j 0:=by omega
 cases lo <;> cases hi <;> simp only[BoundIs] at hlo hhi
 ·subst hlo hhi
  simp[Instr.sliceBounds]
 ·obtain ⟨k2,hk2⟩:=hhi
  subst hlo
  simp[Instr.sliceBounds,Instr.sliceBound,atom_of h hk2,asIntOf,hj,h2]
 ·obtain ⟨k1,hk1⟩:=hlo
  subst hhi
  simp[Instr.sliceBounds,Instr.sliceBound,atom_of h hk1,asIntOf,h0,h1]
 ·obtain ⟨k1,hk1⟩:=hlo
  obtain ⟨k2,hk2⟩:=hhi
  simp[Instr.sliceBounds,Instr.sliceBound,atom_of h hk1,atom_of h hk2,asIntOf,h0,hj,h2,hm]
theorem extract_mk (l:List UInt8) (i j:Nat):(ByteArray.mk l.toArray).extract i j=ByteArray.mk ((l.take j).drop i).toArray:=by
 apply ByteArray.ext
 simp[List.extract_eq_take_drop,List.drop_take]
theorem Pure.sslice {lo hi:Option Operand} {l:List UInt8} {i j:Int} [hT:TStr C.P xT] (hx:e.ev x=str l)
  (hlo:BoundIs e lo 0 i) (hhi:BoundIs e hi l.length j) (h0:0≤i) (h1:i≤j) (h2:j≤l.length) :
  Pure C ⟨dst,.slice xT x lo hi none,ty,pos,aft,g⟩ e H (str ((l.take j.toNat).drop i.toNat)):=.of_any fun ρ w L h=>by
 refine ⟨_,rep_atom,fun w'=>?_⟩
 have h3:execOp ρ ⟨dst,.slice xT x lo hi none,ty,pos,aft,g⟩=(do Pure.pure (.value (←Instr.sliceAt xT (ρ x) (lo.map ρ) (hi.map ρ) none))):=rfl
 rw[h3,atom_of h hx]
 simp only[Instr.sliceAt,Instr.slice,Sem.run_bind,run_underlying' (P:=C.P) hT.und w',Result.andThen_ok,Option.isSome_none,Bool.false_eq_true,if_false,Sem.run_pure,size_mk,
  run_sliceBounds h false hlo hhi h0 h1 h2,extract_mk]
theorem Pure.lslice {t el s:Nat} {lo hi:Option Operand} {es:List LV} {i j:Int} [ht:TSlice C.P t el s] (hx:elems (e.ev x)=some es)
  (hlo:BoundIs e lo 0 i) (hhi:BoundIs e hi es.length j) (h0:0≤i) (h1:i≤j) (h2:j≤es.length) (hs:∀ v∈es,v.cells.length=s) :
  Pure C ⟨dst,.slice t x lo hi none,ty,pos,aft,g⟩ e H (.list ((es.take j.toNat).drop i.toNat)):=.of_any fun ρ w L h=>by
 obtain ⟨a,cap,hv,hcap,hr⟩:=(h x).elems hx
 obtain ⟨ti,hti,hsz⟩:=ht.size
 have hb:=fun w'=>run_sliceBounds (P:=C.P) (w':=w') (cap:=cap) h true hlo hhi h0 h1 (by omega)
 have h3:execOp ρ ⟨dst,.slice t x lo hi none,ty,pos,aft,g⟩=(do Pure.pure (.value (←Instr.sliceAt t (ρ x) (lo.map ρ) (hi.map ρ) none))):=rfl
 have hlen:((es.take j.toNat).drop i.toNat).length=j.toNat-i.toNat:=by simp;omega
 refine ⟨.slice (if cap=i.toNat then a else a.map (·.add (i.toNat * s))) (j.toNat-i.toNat) (cap-i.toNat),?_,fun w'=>?_⟩
 ·simp only[Rep]
  refine ⟨_,cap-i.toNat,by rw[hlen],by omega,fun hne=>?_⟩
  have hne':es≠[]:=by intro h;subst h;simp at hne
  obtain ⟨b,off,k,rfl,hrr⟩:=hr hne'
  have hlt:i.toNat<j.toNat:=by
   rcases Nat.lt_or_ge i.toNat j.toNat with hh|hh
   ·exact hh
   ·exact absurd (List.eq_nil_of_length_eq_zero (by omega)) hne
  have hk:k=s:=by
   obtain ⟨e0,rest,he⟩:=List.exists_cons_of_ne_nil hne'
   subst he
   exact hrr.cell.1.symm.trans (hs e0 (by simp))
  subst hk
  refine ⟨b,off+i.toNat * k,k,?_,(hrr.take j.toNat).drop i.toNat⟩
  rw[if_neg (by omega)]
  simp[add_mk]
 ·rw[h3,hv]
  simp only[Instr.sliceAt,Instr.slice,Sem.run_bind,run_underlying' (P:=C.P) ht.und w',Result.andThen_ok,Sem.run_pure,hb,run_sizeOf' hti,hsz]
theorem Pure.extract {vs:List LV} {i:Nat} {c:LV} (hx:e.ev x=.tuple vs) (hc:vs[i]? = some c):Pure C ⟨dst,.extract x i,ty,pos,aft,g⟩ e H c:=.of_any fun ρ w L h=>by
 have hv:=h x
 rw[hx] at hv
 simp only[Rep] at hv
 obtain ⟨xs,hv,hr⟩:=hv
 obtain ⟨v,h1,h2⟩:=hr.get hc
 refine ⟨v,h2,fun w'=>?_⟩
 have h3:execOp ρ ⟨dst,.extract x i,ty,pos,aft,g⟩=(do Pure.pure (.value (←Instr.extract (ρ x) i))):=rfl
 rw[h3,hv]
 simp[Instr.extract,h1]
theorem pN {b off:Nat} (hx:e.ev x=ptr b off):Pure C ⟨dst,.nilCheck x,ty,pos,aft,g⟩ e H (ptr b off):=.of_any fun ρ _ _ h=>⟨_,rep_atom,fun w'=>by
 simp[execOp,atom_of h hx]⟩
theorem Pure.minI {a b:Int} (hx:e.ev x=int k a) (hy:e.ev y=int k b) {t u:TypeId}:Pure C ⟨dst,.call { callee:=.builtin .min,args:=#[x,y],argTypes:=#[t,u] },ty,pos,aft,g⟩ e H (int k (if b<a then b else a)):=
 .of_any fun ρ _ _ h=>⟨_,rep_atom,fun w'=>by
  have h0:∀ (cs:Array Bool) (args:Array Value),builtin .min #[t,u] ty cs args=(do Pure.pure (.value (←Builtin.min_ #[t,u] ty args))):=fun _ _=>rfl
  rw[execOp_builtin',h0]
  simp[Builtin.min_,Builtin.min2,atom_of h hx,atom_of h hy]⟩
theorem Pure.convInt {k':IntKind} {s d:TypeId} {n:Int} (hs:∃ ds,C.P.underlying s=some ds) [hd:TKind C.P d k'] (hx:e.ev x=int k n):Pure C ⟨dst,.convert s d x,ty,pos,aft,g⟩ e H (int k' (k'.wrap n)):=
 .of_any fun ρ _ _ h=>⟨_,rep_atom,fun w'=>by
  obtain ⟨ds,hs⟩:=hs
  have h3:execOp ρ ⟨dst,.convert s d x,ty,pos,aft,g⟩=(do Pure.pure (.value (←convert s d (ρ x)))):=rfl
  rw[h3,atom_of h hx]
  simp[convert,run_underlying' hs,run_underlying' hd.und,Conv.intToInt]⟩
theorem RepL.atoms {w:World} {L:Live}:∀ {vs xs:List Value},RepL w L (vs.map .atom) xs→xs=vs
 |[],xs,h=>by simpa [RepL] using h
 |v::vs,xs,h=>by
  simp only[zMc,RepL,Rep] at h
  obtain ⟨y,ys,rfl,rfl,h⟩:=h
  rw[RepL.atoms h]
theorem Pure.makeInterfaceAgg {t:TypeId} [ht:TConcrete C.P t] {vs:List Value} (hx:e.ev x=.agg (vs.map .atom)):Pure C ⟨dst,.makeInterface t x,ty,pos,aft,g⟩ e H (.atom (.iface t (.agg vs.toArray))):=
 .of_any fun ρ w L h=>⟨_,rep_atom,fun w'=>by
  obtain ⟨d,hd,hm⟩:=ht.out
  have hv:=h x
  rw[hx] at hv
  simp only[Rep] at hv
  obtain ⟨xs,hv,hr⟩:=hv
  rw[hr.atoms] at hv
  have h3:execOp ρ ⟨dst,.makeInterface t x,ty,pos,aft,g⟩=(do Pure.pure (.value (←Instr.makeInterface t (ρ x)))):=rfl
  rw[h3,hv]
  simp only[Instr.makeInterface,Sem.run_bind,run_underlying' hd,Result.andThen_ok]
  cases d <;> simp_all⟩
def atomsOf (e:Env):List Operand→Option (List Value)
 |[]=>some []
 |x::xs=>match e.ev x,atomsOf e xs with
  |.atom v,some vs=>some (v::vs)
  |_,_=>none
theorem atomsOf_map {ρ:Operand→Value} {w:World} {L:Live} (h:∀ x,Rep w L (e.ev x) (ρ x)):∀ {xs:List Operand} {vs:List Value},atomsOf e xs=some vs→xs.map ρ=vs
 |[],vs,hv=>by simpa [atomsOf] using hv
 |x::xs,vs,hv=>by
  simp only[atomsOf] at hv
  split at hv
  ·rename_i v vs' h1 h2
   simp only[Option.some.injEq] at hv
   subst hv
   rw[zMc,atom_of h h1,atomsOf_map h h2]
  ·cases hv
theorem Pure.makeFunc {fn:Fn} {first captured:List Operand} {fs cs:List Value} (h1:atomsOf e first=some fs) (h2:atomsOf e captured=some cs) :
  Pure C ⟨dst,.makeFunc fn first.toArray captured.toArray,ty,pos,aft,g⟩ e H (.atom (.func fn fs.toArray cs.toArray)):=.of_any fun ρ _ _ h=>⟨_,rep_atom,fun w'=>by
 have h3:execOp ρ ⟨dst,.makeFunc fn first.toArray captured.toArray,ty,pos,aft,g⟩=(do Pure.pure (.value (←Instr.makeFunc fn (first.toArray.map ρ) (captured.toArray.map ρ)))):=rfl
 rw[h3]
 simp[Instr.makeFunc,atomsOf_map h h1,atomsOf_map h h2]⟩
/-! ### Structs -/
def LV.cells? : LV→Option (List LV)
 |.agg cs=>some cs
 |.atom (.agg _)=>none
 |v=>some [v]
theorem Rep.cells {w:World} {L:Live}:∀ {lv:LV} {v:Value} {cs:List LV},Rep w L lv v→lv.cells? = some cs→RepL w L cs v.cells.toList
 |.agg cs,v,cs',h,hc=>by
  simp only[LV.cells?,Option.some.injEq] at hc;subst hc
  simp only[Rep] at h
  obtain ⟨xs,rfl,h⟩:=h
  simpa [Value.cells] using h
 |.atom u,v,cs,h,hc=>by
  simp only[Rep] at h;subst h
  cases v <;> simp only[LV.cells?,Option.some.injEq,reduceCtorEq] at hc <;> subst hc <;> simp[Value.cells,RepL,Rep]
 |.list es,v,cs,h,hc=>by
  simp only[LV.cells?,Option.some.injEq] at hc;subst hc
  have h':=h
  simp only[Rep] at h
  obtain ⟨a,cap,rfl,_⟩:=h
  simpa [Value.cells,RepL] using h'
 |.app b cap k es,v,cs,h,hc=>by
  simp only[LV.cells?,Option.some.injEq] at hc;subst hc
  have h':=h
  simp only[Rep] at h
  obtain ⟨rfl,_⟩:=h
  simpa [Value.cells,RepL] using h'
 |.tuple vs,v,cs,h,hc=>by
  simp only[LV.cells?,Option.some.injEq] at hc;subst hc
  have h':=h
  simp only[Rep] at h
  obtain ⟨xs,rfl,_⟩:=h
  simpa [Value.cells,RepL] using h'
 |.ref vs,v,cs,h,hc=>by
  simp only[LV.cells?,Option.some.injEq] at hc;subst hc
  have h':=h
  simp only[Rep] at h
  obtain ⟨b,off,rfl,_⟩:=h
  simpa [Value.cells,RepL] using h'
def setL:List LV→Nat→List LV→List LV
 |xs,0,[]=>xs
 |[],_,_=>[]
 |_::xs,0,v::vs=>v::setL xs 0 vs
 |x::xs,n+1,vs=>x::setL xs n vs
def fillL (pl:List (Nat×Nat)) (cells:List LV):List (Nat×LV)→Option (List LV)
 |[]=>some cells
 |(i,v)::rest=>
  match pl[i]?,v.cells? with
  |some (off,size),some cs=>if cs.length=size∧off+cs.length≤cells.length then fillL pl (setL cells off cs) rest else none
  |_,_=>none
theorem RepL.append {w:World} {L:Live}:∀ {avs bs:List LV} {xs ys:List Value},RepL w L avs xs→RepL w L bs ys→RepL w L (avs++bs) (xs++ys)
 |[],_,xs,_,h,k=>by simp only[RepL] at h;subst h;simpa using k
 |a::avs,_,xs,_,h,k=>by
  simp only[RepL] at h
  obtain ⟨y,ys',rfl,h1,h2⟩:=h
  simp only[List.cons_append,RepL]
  exact ⟨y,_,rfl,h1,RepL.append h2 k⟩
theorem setL_eq:∀ (cells:List LV) (off:Nat) (vs:List LV),off+vs.length≤cells.length→setL cells off vs=cells.take off++vs++cells.drop (off+vs.length)
 |xs,0,[],_=>by cases xs <;> simp[setL]
 |[],n+1,vs,h=>by simp at h
 |[],0,v::vs,h=>by simp at h
 |x::xs,0,v::vs,h=>by
  have:=setL_eq xs 0 vs (by simpa using h)
  simp[setL,this]
 |x::xs,n+1,vs,h=>by
  have:=setL_eq xs n vs (by simp at h;omega)
  simp[setL,this,show n+1+vs.length=(n+vs.length)+1 by omega]
theorem foldl_set (off:Nat):∀ (ys:List Value) (j:Nat) (xs:List Value),off+j+ys.length≤xs.length →
  ((ys.zipIdx j).foldl (fun cs p=>cs.setIfInBounds (off+p.2) p.1) xs.toArray)=(xs.take (off+j)++ys++xs.drop (off+j+ys.length)).toArray
 |[],j,xs,_=>by simp
 |y::ys,j,xs,h=>by
  simp only[zLc] at h
  simp only[List.zipIdx_cons,List.foldl_cons,List.setIfInBounds_toArray]
  rw[foldl_set off ys (j+1) (xs.set (off+j) y) (by simp;omega)]
  congr 1
  have h1:(xs.set (off+j) y).take (off+(j+1))=xs.take (off+j)++[y]:=by
   rw[show off+(j+1)=off+j+1 by omega,List.take_succ_eq_append_getElem (by simp;omega)]
   simp[List.take_set_of_le]
  have h2:(xs.set (off+j) y).drop (off+(j+1)+ys.length)=xs.drop (off+j+(ys.length+1)):=by
   rw[List.drop_set_of_lt (by omega),show off+(j+1)+ys.length=off+j+(ys.length+1) by omega]
  rw[h1,h2]
  simp
theorem fill_rep {w:World} {L:Live} {pl:List (Nat×Nat)} {place:Nat→Option (Nat×Nat)} (hp:∀ i,place i=pl[i]?):∀ {parts:List (Nat×LV)} {vs:List (Nat×Value)} {cells:List LV} {xs:List Value} {cs:List LV},
  RepL w L cells xs→parts.map (·.1)=vs.map (·.1)→RepL w L (parts.map (·.2)) (vs.map (·.2))→fillL pl cells parts=some cs→∃ ys:List Value,Instr.fill place xs.toArray vs=some ys.toArray∧RepL w L cs ys
 |[],[],cells,xs,cs,h,_,_,hf=>by
  simp only[fillL,Option.some.injEq] at hf;subst hf
  exact ⟨xs,rfl,h⟩
 |[],_::_,_,_,_,_,h,_,_=>by simp at h
 |_::_,[],_,_,_,_,h,_,_=>by simp at h
 |(i,lv)::parts,(i',v)::vs,cells,xs,cs,h,h1,h2,hf=>by
  simp only[zMc,List.cons.injEq] at h1
  obtain ⟨rfl,h1⟩:=h1
  simp only[zMc,RepL] at h2
  obtain ⟨y,ys,he,h2,h3⟩:=h2
  simp only[List.cons.injEq] at he
  obtain ⟨rfl,rfl⟩:=he
  simp only[fillL] at hf
  split at hf
  ·rename_i off size vcs hpl hvc
   split at hf
   ·rename_i hc
    have hr:=h2.cells hvc
    have hl:=hr.length
    have hlx:=h.length
    simp only[Instr.fill,hp,hpl]
    have hsz:v.cells.size=vcs.length:=by simpa using hl
    rw[if_neg (by simp[hsz,hlx];omega)]
    have he:(v.cells.zipIdx.foldl (fun cs (c,j)=>cs.setIfInBounds (off+j) c) xs.toArray)=(xs.take off++v.cells.toList++xs.drop (off+vcs.length)).toArray:=by
     rw[←Array.foldl_toList,Array.toList_zipIdx]
     have:=foldl_set off v.cells.toList 0 xs (by simp[hsz,hlx];omega)
     rw[Nat.add_zero] at this
     rw[this]
     simp[hsz]
    rw[he]
    refine fill_rep hp ?_ h1 h3 hf
    rw[setL_eq _ _ _ hc.2]
    exact ((h.take off).append hr).append (h.drop _)
   ·cases hf
  ·cases hf
theorem run_mapM_places {P:Program} {w:World}:∀ {fs:List Field},(∀ f∈fs,(P.info? f.type).isSome) →
  (fs.mapM (fun f=>(do Pure.pure (f.offset,←sizeOf f.type):Sem (Nat×Nat)))).run P w=.ok (fs.map fun f=>(f.offset,P.cellsOf f.type)) w
 |[],_=>by simp
 |f::fs,h=>by
  obtain ⟨i,hi⟩:=Option.isSome_iff_exists.1 (h f (by simp))
  have ih:=run_mapM_places (P:=P) (w:=w) (fs:=fs) (fun g hg=>h g (zMo _ hg))
  simp only[List.mapM_cons,Sem.run_bind,run_sizeOf' hi,Result.andThen_ok,Sem.run_pure,ih,zMc,Program.cellsOf,hi,Option.map_some,Option.getD_some]
theorem run_zero {P:Program} {t:TypeId} {zs:List Value} [h:TZero P t zs] (w:World):∃ v,(zeroValue t).run P w=.ok v w∧v.cells=zs.toArray:=by
 obtain ⟨i,v,hi,hz,hc,_⟩:=h.out
 exact ⟨v,by simp[zeroValue,run_typeInfo' hi,hz],hc⟩
theorem repL_atoms {w:World} {L:Live}:∀ (zs:List Value),RepL w L (zs.map .atom) zs
 |[]=>by simp[RepL]
 |z::zs=>by simp only[zMc,RepL,Rep];exact ⟨z,zs,rfl,rfl,repL_atoms zs⟩
theorem repL_ev {ρ:Operand→Value} {w:World} {L:Live} (h:∀ x,Rep w L (e.ev x) (ρ x)):∀ (xs:List Operand),RepL w L (xs.map e.ev) (xs.map ρ)
 |[]=>by simp[RepL]
 |x::xs=>by simp only[zMc,RepL];exact ⟨_,_,rfl,h x,repL_ev h xs⟩
theorem Pure.build {t:TypeId} {pl:List (Nat×Nat)} {zs:List Value} [hs:TStruct C.P t pl] [hz:TZero C.P t zs] {parts:List (Nat×Operand)} {cs:List LV}
  (h:fillL pl (zs.map .atom) (parts.map fun p=>(p.1,e.ev p.2))=some cs):Pure C ⟨dst,.build t parts.toArray,ty,pos,aft,g⟩ e H (.agg cs):=.of_any fun ρ w L hρ=>by
 obtain ⟨fs,hu,hpl,hall⟩:=hs.out
 have hp:∀ i:Nat,((fs.toList.map fun f=>(f.offset,C.P.cellsOf f.type)).toArray)[i]? = pl[i]? := fun i=>by rw[hpl];simp
 have hre:=repL_ev hρ (parts.map (·.2))
 have:=fill_rep hp (w:=w) (L:=L) (parts:=parts.map fun p=>(p.1,e.ev p.2)) (vs:=parts.map fun p=>(p.1,ρ p.2)) (repL_atoms zs) (by simp[Function.comp_def]) (by simpa [Function.comp_def] using hre) h
 obtain ⟨ys,h1,h2⟩:=this
 refine ⟨.agg ys.toArray,by simp only[Rep];exact ⟨ys,rfl,h2⟩,fun w'=>?_⟩
 obtain ⟨v,hv,hc⟩:=run_zero (P:=C.P) (t:=t) w'
 have h3:execOp ρ ⟨dst,.build t parts.toArray,ty,pos,aft,g⟩=(do Pure.pure (.value (←Instr.build t (parts.toArray.map fun (i,x)=>(i,ρ x))))):=rfl
 have hm:(fs.mapM (fun f=>(do Pure.pure (f.offset,←sizeOf f.type):Sem (Nat×Nat)))).run C.P w'=.ok (fs.toList.map fun f=>(f.offset,C.P.cellsOf f.type)).toArray w':=by
  rw[Array.mapM_eq_mapM_toList]
  rw[Sem.run_map,run_mapM_places (P:=C.P) (w:=w') (fs:=fs.toList) (fun f hf=>hall f (by simpa using hf))]
  try rfl
 rw[h3]
 simp only[Instr.build,Sem.run_bind,hv,Result.andThen_ok,run_underlying' hu w',hm,hc,List.map_toArray]
 rw[h1]
 try rfl
end reading
end Go.GL
