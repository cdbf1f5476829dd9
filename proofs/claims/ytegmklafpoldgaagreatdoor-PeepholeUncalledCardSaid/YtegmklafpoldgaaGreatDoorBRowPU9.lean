/- Texts joined: GlDefer, ParS5, ChkW11, Fmt3, Fmt4, GlBytes, PeepSpec, PeepNum, PeepWords, PeepOpt, PeepRef, PeepAsm. -/
import Derived.Recover
import Derived.Lib.Split
import Derived.Lib.Join
import Derived.Test.YtegmklafpoldgaaGreatDoorBRowPU2
import Derived.Test.YtegmklafpoldgaaGreatDoorBRowPU3
import Derived.Test.YtegmklafpoldgaaGreatDoorBRowPU4
import Derived.Test.YtegmklafpoldgaaGreatDoorBRowPU5
import Derived.Test.YtegmklafpoldgaaGreatDoorBRowPU6
import Derived.Test.YtegmklafpoldgaaGreatDoorBRowPU7
import Derived.Test.YtegmklafpoldgaaGreatDoorBRowPU8
set_option linter.unusedVariables false
set_option linter.unusedSimpArgs false
set_option maxRecDepth 100000
set_option maxHeartbeats 4000000
namespace Go.GL
open Go.RowKit
def LCallsD (C:Ctx) (f:FuncId) (args:List LV) (u:FrameMode) (H:Heap) (R:FrameMode→Heap→Prop):Prop:=
 ∀ (vs:List Value) w L,RepL w L args vs→RelH C w L H→CallsD C.P f vs.toArray u w fun e u' w'=>(∃ v,e=.returned v)∧LeftX C w L H w' (R u')
def LeavesL (C:Ctx) (n:Nat) (rs:List ResultVar) (R:LRes→Heap→Prop):List Deferred→FrameMode→Env→Heap→Prop
 |[],.returning,e,H=>∃ vs H',AllRes C n e H rs vs∧HSub H' H∧R (.ret (resLV vs)) H'
 |[],.panicking ch,_,H=>∃ H',HSub H' H∧R (.panic ch) H'
 |[],.run,_,_=>False
 |d::ds,u,e,H=>u≠.run∧∃ f cap H1 F,d={ target:=.fn (.func f) cap,args:=#[] }∧TEnter C.P f∧H.Perm (H1++F) ∧
   LCallsD C f (cap.toList.map .atom) u H1 fun u' H'=>LeavesL C n rs R ds (settle u') e (H'++F)
def liftP (C:Ctx) (n:Nat) (w:World) (L:Live) (K:List Nat) (Q:Post):Exit→Act→World→Prop:=
 fun x a' w'=>∃ e' H' L',Fr K w L w' L' H'∧RelH C w' L' H'∧RelE n a' e' w' L'∧Q x e' H'
theorem liftP_trans {C:Ctx} {n:Nat} {w w1:World} {L L1:Live} {K:List Nat} {H1:Heap} {Q:Post} (f:Fr K w L w1 L1 H1) {x:Exit} {a:Act} {w':World}
  (k:liftP C n w1 L1 (keys H1) Q x a w'):liftP C n w L K Q x a w':=
 let ⟨e',H',L',h1,h2,h3,h4⟩:=k
 ⟨e',H',L',f.trans h1,h2,h3,h4⟩
def LOpsP (C:Ctx) (n:Nat) (ops:Array Oper) (Q:Post) (rest:List Oper) (e:Env) (H:Heap):Prop:=
 ∀ a w L,RelE n a e w L→RelH C w L H→wpList C.P ops (liftP C n w L (keys H) Q) rest a w
def LCodeP (C:Ctx) (n:Nat) (c:Code) (Q:Post) (e:Env) (H:Heap):Prop:=
 ∀ a w L,RelE n a e w L→RelH C w L H→c.wp C.P (liftP C n w L (keys H) Q) a w
section P
variable {C:Ctx} {n:Nat} {ops:Array Oper} {Q:Post} {e:Env} {H:Heap}
theorem LOpsP.nil (h:Q .normal e H):LOpsP C n ops Q [] e H:=fun _ _ L hE hH=>⟨e,H,L,Fr.refl _ _ _,hH,hE,h⟩
theorem LOpsP.step {dst:Option Nat} {op:Op} {ty:TypeId} {pos:String} {aft:Array Edge} {rest:List Oper}
  (h:LStep C ⟨dst,op,ty,pos,aft,none⟩ e H (fun lv H'=>LOpsP C n ops Q rest (e.put dst lv) H') (fun ch H'=>Q (.panic ch) e H'))
  (hd:dstOk n dst):LOpsP C n ops Q (⟨dst,op,ty,pos,aft,none⟩::rest) e H:=fun a w L hE hH=>by
 unfold wpList
 rw[if_pos (by simp[Region.wanted])]
 have hs:=h a.eval w L hE.ev hH
 refine .inl ?_
 unfold Oper.wp
 have left:∀ {w' v},Left C w L H w' v (fun lv H'=>LOpsP C n ops Q rest (e.put dst lv) H')→wpList C.P ops (liftP C n w L (keys H) Q) rest (a.put dst v) w':=fun h=>by
  obtain ⟨lv,H',L',h1,h2,h3,h4⟩:=h
  exact wpList_mono (fun _ _ _=>liftP_trans h1) _ _ _ (h4 _ _ L' ((hE.mono h1.ext).put hd h3) h2)
 have leftX:∀ {w' ch},LeftX C w L H w' (fun H'=>Q (.panic ch) e H')→liftP C n w L (keys H) Q (.panic ch) a w':=fun h=>by
  obtain ⟨H',L',h1,h2,h3⟩:=h
  exact ⟨e,H',L',h1,h2,hE.mono h1.ext,h3⟩
 generalize (execOp a.eval ⟨dst,op,ty,pos,aft,none⟩).run C.P w=r at hs ⊢
 unfold StepOut at hs
 split at hs
 ·exact left hs
 ·exact left hs
 ·obtain ⟨rfl,hs⟩:=hs
  refine Calls.mono hs fun e w' he=>?_
  cases e with
  |returned v=>exact left he
  |panicked ch=>exact leftX he
  |outgrown=>exact he.elim
 ·exact leftX hs
 ·exact hs.elim
theorem LOpsP.pure {dst:Option Nat} {op:Op} {ty:TypeId} {pos:String} {aft:Array Edge} {rest:List Oper} {lv:LV}
  (h:Pure C ⟨dst,op,ty,pos,aft,none⟩ e H lv) (hd:dstOk n dst) (k:LOpsP C n ops Q rest (e.put dst lv) H):LOpsP C n ops Q (⟨dst,op,ty,pos,aft,none⟩::rest) e H:=
 LOpsP.step (h.step k) hd
theorem LCodeP.region {id:Nat} {l:List Oper} (h:LOpsP C n l.toArray Q l e H):LCodeP C n (.region id l.toArray false) Q e H:=fun a w L hE hH=>wp_region_lit (h a w L hE hH)
theorem LCodeP.ret (h:Q .ret e H):LCodeP C n .ret Q e H:=fun _ _ L hE hH=>wp_ret ⟨e,H,L,Fr.refl _ _ _,hH,hE,h⟩
theorem LCodeP.seq {x y:Code} (h:LCodeP C n x (QThen (fun e H=>LCodeP C n y Q e H) Q) e H):LCodeP C n (.seq x y) Q e H:=fun a w L hE hH=>by
 refine wp_seq (Go.wp_mono (h a w L hE hH) fun ex a' w' hq=>?_)
 obtain ⟨e',H',L',h1,h2,h3,h4⟩:=hq
 cases ex with
 |normal=>exact Go.wp_mono (h4 a' w' L' h3 h2) fun _ _ _=>liftP_trans h1
 |exit id=>exact ⟨e',H',L',h1,h2,h3,h4⟩
 |goto id=>exact ⟨e',H',L',h1,h2,h3,h4⟩
 |ret=>exact ⟨e',H',L',h1,h2,h3,h4⟩
 |panic ch=>exact ⟨e',H',L',h1,h2,h3,h4⟩
 |outgrown=>exact ⟨e',H',L',h1,h2,h3,h4⟩
def QNo (Q:Post):Post
 |.panic _,_,_=>False
 |x,e,H=>Q x e H
theorem LCodeP.of {c:Code} (h:LCode C n c (QNo Q) e H):LCodeP C n c Q e H:=fun a w L hE hH=>by
 refine Go.wp_mono (h a w L hE hH) fun ex a' w' hq=>?_
 obtain ⟨e',H',L',h1,h2,h3,h4⟩:=hq
 cases ex with
 |panic ch=>exact h4.elim
 |normal=>exact ⟨e',H',L',h1,h2,h3,h4⟩
 |exit id=>exact ⟨e',H',L',h1,h2,h3,h4⟩
 |goto id=>exact ⟨e',H',L',h1,h2,h3,h4⟩
 |ret=>exact ⟨e',H',L',h1,h2,h3,h4⟩
 |outgrown=>exact ⟨e',H',L',h1,h2,h3,h4⟩
end P
def RetPostD (C:Ctx) (n:Nat) (rs:List ResultVar) (R:LRes→Heap→Prop):Post
 |.normal,e,H|.ret,e,H=>LeavesL C n rs R e.ds .returning e H
 |.panic ch,e,H=>LeavesL C n rs R e.ds (.panicking ch) e H
 |_,_,_=>False
theorem leavesL {C:Ctx} {n:Nat} {fn:Func} {R:LRes→Heap→Prop} {w0:World} {L0:Live} {H0:Heap} (h3:fn.results.size≤3) (tmps:Array Value):∀ (ds:List Deferred) (u:FrameMode) (e:Env) (H:Heap) (w:World) (L:Live),tmps.size=n→(∀ i,Rep w L (e.s i) (tmps.getD i undef))→RelH C w L H→Fr (keys H0) w0 L0 w L H →
  LeavesL C n fn.results.toList R ds u e H→Leaves C.P fn tmps (CallPost C w0 L0 H0 (fun v=>R (.ret v)) (fun ch=>R (.panic ch))) ds u w
 |[],.returning,e,H,w,L,hn,hv,hH,hF,h=>by
  obtain ⟨vs,H',h1,h2,h5⟩:=h
  obtain ⟨v,r1,r2⟩:=results_of (a:={ tmps,defers:=e.ds }) ⟨hn,rfl,hv⟩ hH h1 h3
  exact ⟨v,r1,resLV vs,H',L,hF.weak h2,hH.weak h2,r2,h5⟩
 |[],.panicking ch,e,H,w,L,hn,hv,hH,hF,h=>by
  obtain ⟨H',h2,h5⟩:=h
  exact ⟨H',L,hF.weak h2,hH.weak h2,h5⟩
 |[],.run,e,H,w,L,hn,hv,hH,hF,h=>h.elim
 |d::ds,u,e,H,w,L,hn,hv,hH,hF,h=>by
  obtain ⟨hu,f,cap,H1,F,rfl,hen,hp,hc⟩:=h
  refine ⟨hu,.func f,cap,f,cap,rfl,by simp[invoke,run_callFunc],?_⟩
  have hH':=hH.perm hp
  have:=hc cap.toList w L (repL_atoms _) hH'.left
  simp only[Array.toArray_toList] at this
  refine CallsD.mono this ?_
  rintro ex u' w' ⟨⟨v,rfl⟩,hx⟩
  obtain ⟨H',L',g1,g2,g3⟩:=LeftX.frame hH' hx
  exact leavesL h3 tmps ds (settle u') e H' w' L' hn (fun i=>(hv i).mono g1.ext _ _) g2 (hF.trans (g1.perm hp.symm)) g3
theorem LCallsD.mono {C:Ctx} {f:FuncId} {args:List LV} {u:FrameMode} {H:Heap} {R R':FrameMode→Heap→Prop} (h:LCallsD C f args u H R) (hr:∀ u H,R u H→R' u H):LCallsD C f args u H R':=fun vs w L h1 h2=>
 CallsD.mono (h vs w L h1 h2) fun _ _ _ ⟨h3,h4⟩=>⟨h3,h4.mono (hr _)⟩
theorem LCalls.introD {C:Ctx} {f:FuncId} {fn:Func} {c:Code} {n:Nat} {args:List LV} {H:Heap} {R:LRes→Heap→Prop} (hf:C.P.funcs[f]? = some fn) (hb:fn.body=some c) (hn:fn.ntmps=n) (h3:Nat.ble fn.results.size 3=true)
  (hl:Nat.ble args.length n=true) (h:LCodeP C n c (RetPostD C n fn.results.toList R) (argsEnv args) H):LCalls C f args H R:=fun vs w L hv hH=>by
 subst hn
 have hl':args.length≤fn.ntmps:=by simpa using hl
 have h3':fn.results.size≤3:=by simpa using h3
 have hlen:=hv.length
 refine calls_of_wp_defers hf hb (Go.wp_mono (h _ w L ⟨?_,rfl,fun i=>?_⟩ hH) fun ex a' w' hq=>?_)
 ·simp;omega
 ·exact zT1
 ·obtain ⟨e',H',L',g1,g2,g3,g4⟩:=hq
  have ret:∀ u,LeavesL C fn.ntmps fn.results.toList R e'.ds u e' H'→Leaves C.P fn a'.tmps (CallPost C w L H (fun v=>R (.ret v)) (fun ch=>R (.panic ch))) a'.defers u w':=fun u hu=>by
   rw[g3.ds]
   exact leavesL h3' a'.tmps _ u e' H' w' L' g3.size g3.vals g2 g1 hu
  cases ex with
  |normal=>exact ret _ g4
  |ret=>exact ret _ g4
  |panic ch=>exact ret _ g4
  |exit id=>exact g4.elim
  |goto id=>exact g4.elim
  |outgrown=>exact g4.elim
abbrev PostS:=Exit→FrameMode→Env→Heap→Prop
def LCodeS (C:Ctx) (n:Nat) (c:Code) (Q:PostS) (u:FrameMode) (e:Env) (H:Heap):Prop:=
 ∀ a w L (c0:Frame) cs,c0.mode=u→RelE n a e w L→RelH C w L H →
  c.wpS C.P (fun x a' cs' w'=>∃ u' e' H' L',cs'={ c0 with mode:=u' }::cs∧Fr (keys H) w L w' L' H'∧RelH C w' L' H'∧RelX n x a' e' w' L'∧Q x u' e' H') a (c0::cs) w
theorem wpS_mono {P:Program} {c:Code} {Q Q':Exit→Act→List Frame→World→Prop} {a:Act} {cs:List Frame} {w:World} (h:c.wpS P Q a cs w) (hq:∀ x a cs w,Q x a cs w→Q' x a cs w):c.wpS P Q' a cs w:=fun b k h1 h2=>
 let ⟨e,a',cs',w',q,r⟩:=h b k h1 h2
 ⟨e,a',cs',w',hq _ _ _ _ q,r⟩
section S
variable {C:Ctx} {n:Nat} {Q:PostS} {u:FrameMode} {e:Env} {H:Heap}
theorem LCodeS.of {c:Code} (h:LCode C n c (fun x e H=>Q x u e H) e H):LCodeS C n c Q u e H:=fun a w L c0 cs hu hE hH=>by
 refine wpS_of_wp (Go.wp_mono (h a w L hE hH) fun x a' w' hq=>?_)
 obtain ⟨e',H',L',h1,h2,h3,h4⟩:=hq
 exact ⟨u,e',H',L',by subst hu;rfl,h1,h2,h3,h4⟩
theorem LCodeS.seq {x y:Code} (h:LCodeS C n x (fun ex u' e' H'=>match ex with|.normal=>LCodeS C n y Q u' e' H'|ex=>Q ex u' e' H') u e H):LCodeS C n (.seq x y) Q u e H:=fun a w L c0 cs hu hE hH=>by
 refine wpS_seq (wpS_mono (h a w L c0 cs hu hE hH) fun ex a' cs' w' hq=>?_)
 obtain ⟨u',e',H',L',rfl,h1,h2,h3,h4⟩:=hq
 cases ex with
 |normal=>
  refine wpS_mono (h4 a' w' L' { c0 with mode:=u' } cs rfl h3 h2) ?_
  rintro ex a2 cs2 w2 ⟨u2,e2,H2,L2,rfl,g1,g2,g3,g4⟩
  exact ⟨u2,e2,H2,L2,rfl,h1.trans g1,g2,g3,g4⟩
 |exit id=>exact ⟨u',e',H',L',rfl,h1,h2,h3,h4⟩
 |goto id=>exact ⟨u',e',H',L',rfl,h1,h2,h3,h4⟩
 |ret=>exact ⟨u',e',H',L',rfl,h1,h2,h3,h4⟩
 |panic ch=>exact ⟨u',e',H',L',rfl,h1,h2,h3,h4⟩
 |outgrown=>exact ⟨u',e',H',L',rfl,h1,h2,h3,h4⟩
def recMode:FrameMode→Value×FrameMode
 |.panicking ({ v,recovered:=false,goexit:=false }::older)=>(v,.panicking ({ v,recovered:=true }::older))
 |u=>(.nilIface,u)
theorem recover_run {P:Program} {ρ:Operand→Value} {dst:Option Nat} {ty:TypeId} {pos:String} {aft:Array Edge} {g:Option (Nat×Bool)} (w:World) :
  (execOp ρ ⟨dst,.call { callee:=.builtin .recover,args:=#[],argTypes:=#[] },ty,pos,aft,g⟩).run P w=.ok .recover w:=by
 rfl
theorem recoverD_eq (c0:Frame) (cs:List Frame):recoverD (c0::cs)=none∧recMode c0.mode=(.nilIface,c0.mode)∨recoverD (c0::cs)=some ((recMode c0.mode).1,{ c0 with mode:=(recMode c0.mode).2 }::cs):=by
 obtain ⟨fn,tmps,todo,defers,mode,kind,ro⟩:=c0
 cases mode with
 |run=>exact .inl ⟨rfl,rfl⟩
 |returning=>exact .inl ⟨rfl,rfl⟩
 |panicking ch=>
  cases ch with
  |nil=>exact .inl ⟨rfl,rfl⟩
  |cons p older=>
   obtain ⟨v,r,g⟩:=p
   cases r <;> cases g <;> first|exact .inl ⟨rfl,rfl⟩|exact .inr rfl
theorem LCodeS.recover {id t s:Nat} {ty ty':TypeId} {pos pos':String} {aft aft':Array Edge} (ht:Nat.blt t n=true) (hs:Nat.blt s n=true) (h:Q .normal (recMode u).2 ((e.upd t (.atom (recMode u).1)).upd s (.atom (recMode u).1)) H) :
  LCodeS C n (.region id #[⟨some t,.call { callee:=.builtin .recover,args:=#[],argTypes:=#[] },ty,pos,aft,none⟩,⟨some s,.assign (.tmp t),ty',pos',aft',none⟩] false) Q u e H:=fun a w L c0 cs hu hE hH=>by
 refine wpS_region ?_
 have hE1:∀ v,RelE n (a.put (some t) v) (e.upd t (.atom v)) w L:=fun v=>hE.put (dst:=some t) (by simp only[dstOk,dstB];exact ht) rep_atom
 have hev:∀ v,(a.put (some t) v).eval (.tmp t)=v:=fun v=>by
  have:=(hE1 v).ev (.tmp t)
  simpa [Env.ev,Env.upd,Rep] using this
 have hE2:∀ v,RelE n ((a.put (some t) v).put (some s) v) ((e.upd t (.atom v)).upd s (.atom v)) w L:=fun v=>(hE1 v).put (dst:=some s) (by simp only[dstOk,dstB];exact hs) rep_atom
 have h1:∀ v cs1,wpOpsS C.P #[⟨some t,.call { callee:=.builtin .recover,args:=#[],argTypes:=#[] },ty,pos,aft,none⟩,⟨some s,.assign (.tmp t),ty',pos',aft',none⟩] (fun x a' cs' w'=>∃ u' e' H' L',cs'={ c0 with mode:=u' }::cs∧Fr (keys H) w L w' L' H'∧RelH C w' L' H'∧RelX n x a' e' w' L'∧Q x u' e' H') [1] (a.put (some t) v) cs1 w
   ↔ (fun x a' cs' w'=>∃ u' e' H' L',cs'={ c0 with mode:=u' }::cs∧Fr (keys H) w L w' L' H'∧RelH C w' L' H'∧RelX n x a' e' w' L'∧Q x u' e' H') Exit.normal ((a.put (some t) v).put (some s) v) cs1 w:=by
  intro v cs1
  have hr:(execOp (a.put (some t) v).eval ⟨some s,.assign (.tmp t),ty',pos',aft',none⟩).run C.P w=.ok (.value ((a.put (some t) v).eval (.tmp t))) w:=rfl
  simp only[wpOpsS,List.getElem?_toArray,List.getElem?_cons_succ,List.getElem?_cons_zero,Region.wanted,if_true,hr,Oper.upon,hev]
 have h0:(execOp a.eval ⟨some t,.call { callee:=.builtin .recover,args:=#[],argTypes:=#[] },ty,pos,aft,none⟩).run C.P w=.ok .recover w:=recover_run w
 have hl:List.range (#[(⟨some t,.call { callee:=.builtin .recover,args:=#[],argTypes:=#[] },ty,pos,aft,none⟩:Oper),⟨some s,.assign (.tmp t),ty',pos',aft',none⟩]:Array Oper).size=[0,1]:=rfl
 rw[hl,wpOpsS]
 simp only[List.getElem?_toArray,List.getElem?_cons_zero,Region.wanted,if_true,h0]
 rcases recoverD_eq c0 cs with ⟨h2,h3⟩|h2
 ·simp only[h2]
  rw[h1]
  subst hu
  rw[h3] at h
  exact ⟨c0.mode,_,H,L,rfl,Fr.refl _ _ _,hH,hE2 _,h⟩
 ·simp only[h2]
  rw[h1]
  subst hu
  exact ⟨_,_,H,L,rfl,Fr.refl _ _ _,hH,hE2 _,h⟩
def RetPostS (R:FrameMode→Heap→Prop):PostS
 |.normal,u,e,H|.ret,u,e,H=>e.ds=[]∧∃ H',HSub H' H∧R u H'
 |_,_,_,_=>False
theorem LCallsD.intro {f:FuncId} {fn:Func} {c:Code} {args:List LV} {R:FrameMode→Heap→Prop} (hf:C.P.funcs[f]? = some fn) (hb:fn.body=some c) (hn:fn.ntmps=n) (h3:fn.results=#[])
  (hl:Nat.ble args.length n=true) (h:LCodeS C n c (RetPostS R) u (argsEnv args) H):LCallsD C f args u H R:=fun vs w L hv hH=>by
 subst hn
 have hl':args.length≤fn.ntmps:=by simpa using hl
 have hlen:=hv.length
 have hE0:RelE fn.ntmps { tmps:=vs.toArray++Array.replicate (fn.ntmps-vs.toArray.size) undef,defers:=[] } (argsEnv args) w L:=by
  refine ⟨?_,rfl,fun i=>?_⟩
  ·simp;omega
  ·exact zT1
 refine callsD_of_wpS hf hb fun c0 cs hu=>wpS_mono (h _ w L c0 cs hu hE0 hH) fun ex a' cs' w' hq=>?_
 obtain ⟨u',e',H',L',rfl,g1,g2,g3,g4⟩:=hq
 have fin:RelE fn.ntmps a' e' w' L'→(e'.ds=[]∧∃ H'',HSub H'' H'∧R u' H'')→a'.defers=[]∧∃ u'',({ c0 with mode:=u' }::cs:List Frame)={ c0 with mode:=u'' }::cs∧∃ v,(results fn a'.tmps).run C.P w'=.ok v w'∧(∃ v',Ending.returned v=.returned v')∧LeftX C w L H w' (R u''):=fun hE ⟨h1,H'',h2,h4⟩=>
  ⟨hE.ds.trans h1,u',rfl,_,results0 h3 _ _,⟨_,rfl⟩,H'',L',g1.weak h2,g2.weak h2,h4⟩
 cases ex with
 |normal=>exact fin g3 g4
 |ret=>exact fin g3 g4
 |panic ch=>exact g4.elim
 |exit id=>exact g4.elim
 |goto id=>exact g4.elim
 |outgrown=>exact g4.elim
end S
section defer
variable {C:Ctx} {n:Nat} {ops:Array Oper} {Q:Post} {e:Env} {H:Heap}
theorem LOpsP.defer {dst:Option Nat} {fo:Operand} {f:FuncId} {caps:Array Value} {ty:TypeId} {pos:String} {aft:Array Edge} {rest:List Oper} (hf:e.ev fo=.atom (.func (.func f) #[] caps)) (hd:dst=none)
  (k:LOpsP C n ops Q rest ⟨e.s,{ target:=.fn (.func f) caps,args:=#[] }::e.ds⟩ H):LOpsP C n ops Q (⟨dst,.defer { callee:=.value fo,args:=#[],argTypes:=#[] },ty,pos,aft,none⟩::rest) e H:=fun a w L hE hH=>by
 subst hd
 have hv:=hE.ev fo
 rw[hf] at hv
 simp only[Rep] at hv
 have hr:(execOp a.eval ⟨none,.defer { callee:=.value fo,args:=#[],argTypes:=#[] },ty,pos,aft,none⟩).run C.P w=.ok (.defer { target:=.fn (.func f) caps,args:=#[] }) w:=by
  have h3:execOp a.eval ⟨none,.defer { callee:=.value fo,args:=#[],argTypes:=#[] },ty,pos,aft,none⟩=(do let d ←Deferred.ofValue (a.eval fo) ((#[]:Array Operand).map a.eval);Pure.pure (.defer d)):=rfl
  rw[h3,hv]
  simp only[Deferred.ofValue,List.map_toArray,List.map_nil]
  rfl
 unfold wpList
 rw[if_pos (by simp[Region.wanted])]
 refine .inl ?_
 unfold Oper.wp
 rw[hr]
 simp only[Oper.upon,Act.put]
 exact k _ w L ⟨hE.size,by show _::a.defers=_;rw[hE.ds],hE.vals⟩ hH
end defer
end Go.GL
namespace Go.Proofs.YtegmklafpoldgaaGreatDoor
open Go.GL Go.RowKit Go.Stele
theorem tok_lex {s:List UInt8} {T:List Tok} (h:lexAllP s=.ok T):TOK T:=by
 unfold lexAllP at h
 split at h
 ·cases h
 ·obtain ⟨h1,h2⟩:=lexP_ok _ _ _ _ h
  exact ⟨by omega,fun t ht=>by have:=(h2 t ht).1;omega,fun t ht hk=>by
   obtain ⟨u,h3,h4,_⟩:=(h2 t ht).2 hk
   exact ⟨u,h3,h4⟩⟩
instance:TIface Tryz.prog 20:=.of zk
def noPr:Pr:=⟨[],[],[]⟩
def parseP (s:List UInt8):Pr×Int×Int:=match lexAllP s with
 |.error (l,e)=>(noPr,l,e)
 |.ok T=>match sProg T (10 * T.length+20) noPr 0 0 with
  |some (.ok p _ _)=>(p,0,0)
  |some (.err l e)=>(noPr,l,e)
  |none=>(noPr,0,0)
def encParse (r:Pr×Int×Int):LV:=.tuple [encPr r.1,int .i64 r.2.1,int .i64 r.2.2]
theorem RetPostD.ret1 {C:Ctx} {n:Nat} {e:Env} {H H' H1 H2 F:Heap} {R:LRes→Heap→Prop} {rs:List ResultVar} {vs:List LV} {f:FuncId} {caps:Array Value} [hen:TEnter C.P f] (hd:e.ds=[{ target:=.fn (.func f) caps,args:=#[] }]) (hp:H.Perm (H1++F))
  (hc:LCallsD C f (caps.toList.map .atom) .returning H1 (fun u H'=>u=.returning∧H'=H2)) (h:AllRes C n e (H2++F) rs vs) (hH:HSub H' (H2++F)) (hR:R (.ret (resLV vs)) H'):RetPostD C n rs R .ret e H:=by
 unfold RetPostD
 simp only[hd]
 refine ⟨by simp,f,caps,H1,F,rfl,hen,hp,LCallsD.mono hc ?_⟩
 rintro u H'' ⟨rfl,rfl⟩
 exact ⟨vs,H',h,hH,hR⟩
theorem RetPostD.panic1 {C:Ctx} {n:Nat} {e:Env} {H H' H1 H2 F:Heap} {R:LRes→Heap→Prop} {rs:List ResultVar} {vs:List LV} {f:FuncId} {caps:Array Value} {ch:List PanicEntry} [hen:TEnter C.P f] (hd:e.ds=[{ target:=.fn (.func f) caps,args:=#[] }]) (hp:H.Perm (H1++F))
  (hc:LCallsD C f (caps.toList.map .atom) (.panicking ch) H1 (fun u H'=>settle u=.returning∧H'=H2)) (h:AllRes C n e (H2++F) rs vs) (hH:HSub H' (H2++F)) (hR:R (.ret (resLV vs)) H'):RetPostD C n rs R (.panic ch) e H:=by
 unfold RetPostD
 simp only[hd]
 refine ⟨by simp,f,caps,H1,F,rfl,hen,hp,LCallsD.mono hc ?_⟩
 rintro u H'' ⟨hu,rfl⟩
 rw[hu]
 exact ⟨vs,H',h,hH,hR⟩
def resP:Res Pr→Pr×Int×Int
 |.ok p _ _=>(p,0,0)
 |.err l e=>(noPr,l,e)
theorem lexP_err:∀ (f:Nat) (s:List UInt8) (line l e:Int),lexP f s line=.error (l,e)→¬ e=0
 |0,s,line,l,e,h=>by
  rw[lexP] at h
  cases h
 |f+1,s,line,l,e,h=>by
  rw[lexP] at h
  split at h
  ·cases h
  ·split at h
   ·split at h
    ·rename_i he
     cases h
     exact he
    ·cases hx:lexP f (s.drop (lexToken s).2.1) (line+((s.take (lexToken s).2.1).count 10:Nat)) with
     |ok T=>rw[hx] at h;cases h
     |error p=>
      rw[hx] at h
      cases h
      exact lexP_err f _ _ _ _ hx
   ·exact lexP_err f _ _ _ _ h
theorem lexAllP_err {s:List UInt8} {l e:Int} (h:lexAllP s=.error (l,e)):¬ e=0:=by
 unfold lexAllP at h
 split at h
 ·cases h
  decide
 ·exact lexP_err _ _ _ _ _ h
theorem memA {A:Type} {p:A} {H:List A} (h:p∈H:=by first|exact List.Mem.head _|exact List.Mem.tail _ zm0|exact List.Mem.tail _ zm1|exact List.Mem.tail _ zm2|exact List.Mem.tail _ zm3|exact List.Mem.tail _ zm4|exact List.Mem.tail _ zm5):p∈H:=h
attribute [local irreducible] LOps LCode LStep LCalls Go.GL.Pure QThen QBlock RetPost LQ LAny LLate LLateOp LOpsP LCodeP LCodeS LCallsD
section
variable {B0:Nat} {w0:World}
theorem rec_ret (b2 b3 b4:Nat) (cs:List LV) (c d:LV):LCallsD (KC B0 w0) 20 [ptr b2 0,ptr b3 0,ptr b4 0] .returning [(b2,.cells 28 cs),(b3,.cells 3 [c]),(b4,.cells 29 [d])]
  (fun u H=>u=.returning∧H=[(b2,.cells 28 cs),(b3,.cells 3 [c]),(b4,.cells 29 [d])]):=by
 refine LCallsD.intro Tryz.func20 rfl (n:=22) rfl rfl rfl ?_
 refine LCodeS.seq (LCodeS.recover rfl rfl ?_)
 refine LCodeS.of ?_
 refine ge7 ?_
 refine oC rfl (fun hc=>?_) (fun hc=>?_)
 ·cases hc
 ·refine gcb ?_
  exact ⟨rfl,_,zhR _,rfl,rfl⟩
theorem rec_pan (b2 b3 b4:Nat) (c1 c2 c3 c d:LV) (l er:Int):LCallsD (KC B0 w0) 20 [ptr b2 0,ptr b3 0,ptr b4 0] (.panicking (pan l er)) [(b2,.cells 28 [c1,c2,c3]),(b3,.cells 3 [c]),(b4,.cells 29 [d])]
  (fun u H=>settle u=.returning∧H=[(b2,.cells 28 [nilSlice,nilSlice,nilSlice]),(b3,.cells 3 [int .i64 l]),(b4,.cells 29 [int .i64 er])]):=by
 refine LCallsD.intro Tryz.func20 rfl (n:=22) rfl rfl rfl ?_
 refine LCodeS.seq (LCodeS.recover rfl rfl ?_)
 refine LCodeS.of ?_
 refine gkq ?_
 refine oC rfl (fun hc=>?_) (fun hc=>?_)
 ·refine gab ?_
  refine oP (Pure.assertOk (vs:=[.int .i64 l,.int .i64 er]) rfl) rfl ?_
  refine gbh ?_
  refine oS (sA fun b5=>?_) rfl
  refine gkr ?_
  refine oC rfl (fun hd=>?_) (fun hd=>?_)
  ·cases hd
  ·refine ga6 ?_
   refine cD (m:=8) rfl [(b5,.cells 56 [int .i64 l,int .i64 er])] ?_
   refine aT 0 rfl rfl (pB _ (cs:=[_,_,_]) rfl) ?_
   refine aT 1 rfl rfl (pF rfl) ?_
   refine aT 2 rfl rfl (pL (c:=.atom _) rfl zm0 rfl) ?_
   refine aT 3 rfl rfl (pF rfl) ?_
   refine aT 4 rfl rfl (pL (c:=.atom _) rfl zm0 rfl) ?_
   refine aL ?_ zhp
   refine lO 5 (lS (H1:=[(b2,.cells 28 [c1,c2,c3])]) (F:=[(b5,.cells 56 [int .i64 l,int .i64 er]),(b3,.cells 3 [c]),(b4,.cells 29 [d])]) rfl (.inl rfl) rfl zp1 zhp (sS (cs':=[_,_,_]) rfl pH rfl rfl rfl rfl rfl ?_))
   refine lO 6 (lS (H1:=[(b3,.cells 3 [c])]) (F:=[(b2,.cells 28 [nilSlice,nilSlice,nilSlice]),(b5,.cells 56 [int .i64 l,int .i64 er]),(b4,.cells 29 [d])]) rfl (.inl rfl) rfl zp2 (zhP zp1 zhn) (sS (cs':=[_]) rfl pH rfl rfl rfl rfl rfl ?_))
   refine lO 7 (lS (H1:=[(b4,.cells 29 [d])]) (F:=[(b3,.cells 3 [int .i64 l]),(b2,.cells 28 [nilSlice,nilSlice,nilSlice]),(b5,.cells 56 [int .i64 l,int .i64 er])]) rfl (.inl rfl) rfl zp3 (zhP zp2 zhn) (sS (cs':=[_]) rfl pH rfl rfl rfl rfl rfl ?_))
   refine lD zk ?_
   exact ⟨rfl,_,zhP zp2 (zhP zp1 zhp),rfl,rfl⟩
 ·cases hc
theorem parse_any (hG:GW B0 w0) (s:List UInt8):LCalls (KC B0 w0) 7 [str s] [] (Ret (encParse (parseP s))):=by
 refine LCalls.introD Tryz.func7 rfl (n:=24) rfl rfl rfl ?_
 refine LCodeP.seq (LCodeP.of ?_)
 refine gb5 ?_
 refine oS (sA fun b2=>?_) rfl
 refine oS (sA fun b3=>?_) rfl
 refine oS (sA fun b4=>?_) rfl
 refine gaq ?_
 refine LCodeP.seq (LCodeP.of ?_)
 refine gas ?_
 refine oS (sF [_] rfl (Tokens_any hG s) ?_) rfl
 cases hL:lexAllP s with
 |error le=>
  obtain ⟨l,er⟩:=le
  have he0:¬ er=0:=lexAllP_err hL
  simp only[encLex]
  refine ge8 ?_
  refine LCodeP.seq (LCodeP.of ?_)
  refine ge9 ?_
  refine oC rfl (fun hc=>?_) (fun hc=>?_)
  ·refine gb4 ?_
   refine cD (m:=6) rfl [] ?_
   refine aT 0 rfl rfl (pB _ (cs:=[_,_,_]) rfl) ?_
   refine aL ?_ zhn
   refine LLate.three (i:=1) (j:=2) (k:=3) zk ?_ ?_ ?_
   ·refine lH rfl rfl (pL (c:=.atom _) rfl zm1 rfl) ?_
    refine zl2 (i:=2) (j:=3) zk ?_ ?_
    ·refine lH rfl rfl (pL (c:=.atom _) rfl zm0 rfl) ?_
     refine zl1 (i:=3) zk ?_
     refine lW rfl (.inl rfl) rfl (sS (cs':=[_,_,_]) rfl zp2 rfl rfl rfl rfl rfl ?_)
     exact zT5
    ·refine lW rfl (.inl rfl) rfl (sS (cs':=[_,_,_]) rfl zp2 rfl rfl rfl rfl rfl ?_)
     refine zl2 (i:=2) (j:=4) zk ?_ ?_
     ·refine lH rfl rfl (pL (c:=.atom _) rfl zm1 rfl) ?_
      exact zT5
     ·refine lW rfl (.inl rfl) rfl (sS (cs':=[_]) rfl zp2 rfl rfl rfl rfl rfl ?_)
      refine zl1 (i:=2) zk ?_
      refine lH rfl rfl (pL (c:=.atom _) rfl zm2 rfl) ?_
      exact zT0
   ·refine lH rfl rfl (pL (c:=.atom _) rfl zm0 rfl) ?_
    refine zl2 (i:=1) (j:=3) zk ?_ ?_
    ·refine lH rfl rfl (pL (c:=.atom _) rfl zm1 rfl) ?_
     refine zl1 (i:=3) zk ?_
     refine lW rfl (.inl rfl) rfl (sS (cs':=[_,_,_]) rfl zp2 rfl rfl rfl rfl rfl ?_)
     exact zT5
    ·refine lW rfl (.inl rfl) rfl (sS (cs':=[_,_,_]) rfl zp2 rfl rfl rfl rfl rfl ?_)
     refine zl1 (i:=1) zk ?_
     refine lH rfl rfl (pL (c:=.atom _) rfl zm2 rfl) ?_
     exact zT5
   ·refine lW rfl (.inl rfl) rfl (sS (cs':=[_,_,_]) rfl zp2 rfl rfl rfl rfl rfl ?_)
    refine zl2 (i:=1) (j:=2) zk ?_ ?_
    ·refine lH rfl rfl (pL (c:=.atom _) rfl zm2 rfl) ?_
     refine zl2 (i:=2) (j:=4) zk ?_ ?_
     ·refine lH rfl rfl (pL (c:=.atom _) rfl zm1 rfl) ?_
      exact zT5
     ·refine lW rfl (.inl rfl) rfl (sS (cs':=[_]) rfl zp2 rfl rfl rfl rfl rfl ?_)
      refine zl1 (i:=2) zk ?_
      refine lH rfl rfl (pL (c:=.atom _) rfl zm2 rfl) ?_
      exact zT0
    ·refine lH rfl rfl (pL (c:=.atom _) rfl zm1 rfl) ?_
     refine zl1 (i:=1) zk ?_
     refine lH rfl rfl (pL (c:=.atom _) rfl zm2 rfl) ?_
     exact zT5
  ·have:er=0:=by simpa using hc
   exact absurd this he0
 |ok T=>
  have hT:=tok_lex hL
  simp only[encLex]
  refine ge8 ?_
  refine LCodeP.seq (LCodeP.of ?_)
  refine ge9 ?_
  refine oC rfl (fun hc=>?_) (fun hc=>?_)
  ·cases hc
  ·refine ga6 ?_
   refine LCodeP.seq (LCodeP.region ?_)
   refine gfa ?_
   refine LOpsP.defer rfl rfl ?_
   refine LOpsP.nil ?_
   refine qN ?_
   refine LCodeP.seq (LCodeP.of ?_)
   refine gks ?_
   refine oS (sB rfl fun sb=>?_) rfl
   refine gar ?_
   refine LCodeP.seq (LCodeP.region ?_)
   refine gkt ?_
   obtain ⟨r,hr⟩:=sProg_ends T (10 * T.length+20) noPr 0 0 (Nat.zero_le _) zo
   have hp:parseP s=resP r:=by
    rw[parseP,hL]
    simp only[hr]
    cases r <;> rfl
   rw[hp]
   refine LOpsP.step (sP (T:=T) (i:=0) (op:=0) [_] rfl pH (program_spec hG sb T hT _ r hr) (fun v i1 op1 h1=>?_) (fun l er i1 op1 h1=>?_)) rfl
   ·subst h1
    refine LOpsP.step (sS (cs':=[_,_,_]) rfl zp3 rfl rfl rfl rfl rfl ?_) rfl
    refine LOpsP.step (sS (cs':=[_]) rfl zp3 rfl rfl rfl rfl rfl ?_) rfl
    refine LOpsP.step (sS (cs':=[_]) rfl zp3 rfl rfl rfl rfl rfl ?_) rfl
    refine LOpsP.nil ?_
    refine qN ?_
    refine LCodeP.ret ?_
    exact RetPostD.ret1 (vs:=[encPr v,int .i64 0,int .i64 0]) (H2:=[(b2,.cells 28 [.list (v.vars.map str),.list (v.arrays.map encAr),.list (v.funcs.map encFn)]),(b3,.cells 3 [int .i64 0]),(b4,.cells 29 [int .i64 0])]) rfl (zp2.trans (List.Perm.cons _ (zp1.trans (List.Perm.cons _ zpr)))) (rec_ret b2 b3 b4 _ _ _)
     (rC (rA (k:=3) rfl zm0 rfl zsr) (rC (ResIs.cellOne rfl zm1 rfl zsr) (rC (ResIs.cellOne rfl zm2 rfl zsr) rN))) zhn ⟨rfl,rfl⟩
   ·subst h1
    refine QThen.panic ?_
    exact RetPostD.panic1 (vs:=[encPr noPr,int .i64 l,int .i64 er]) (H2:=[(b2,.cells 28 [nilSlice,nilSlice,nilSlice]),(b3,.cells 3 [int .i64 l]),(b4,.cells 29 [int .i64 er])]) rfl (zp3.trans (List.Perm.cons _ (zp2.trans (List.Perm.cons _ (zp1.trans zpr))))) (rec_pan b2 b3 b4 _ _ _ _ _ l er)
     (rC (rA (k:=3) rfl zm0 rfl (vA (bs:=[.list [],.list [],.list []]) ⟨vN,vN,vN,trivial⟩)) (rC (ResIs.cellOne rfl zm1 rfl zsr) (rC (ResIs.cellOne rfl zm2 rfl zsr) rN))) zhn ⟨rfl,rfl⟩
end
end Go.Proofs.YtegmklafpoldgaaGreatDoor
namespace Go.Proofs.YtegmklafpoldgaaGreatDoor.Chk
open Go.GL Go.RowKit Go.Stele
section
variable {C:Ctx} {e:Env} {H:Heap} {dst:Option Nat} {ty:TypeId} {pos:String} {aft:Array Edge} {g:Option (Nat×Bool)} {x:Operand}
theorem Pure.assertNil {t xT:TypeId} [ht:TConcrete C.P t] {zs:List Value} (hz:∀ w,(zeroValue t).run C.P w=.ok (.agg zs.toArray) w) (hx:e.ev x=.atom .nilIface):Go.GL.Pure C ⟨dst,.typeAssert x xT t true,ty,pos,aft,g⟩ e H (.tuple [.agg (zs.map .atom),bool false]):=
 .of_any fun ρ w L h=>⟨.tuple #[.agg zs.toArray,.bool false],by
  simp only[Rep]
  exact ⟨[.agg zs.toArray,.bool false],rfl,by simp only[RepL,Rep];exact ⟨_,_,rfl,⟨zs,rfl,repL_atoms zs⟩,_,_,rfl,rfl,rfl⟩⟩,fun w'=>by
  obtain ⟨d,hd,hm⟩:=ht.out
  have h3:execOp ρ ⟨dst,.typeAssert x xT t true,ty,pos,aft,g⟩=(do Pure.pure (.value (←Instr.typeAssert (ρ x) xT t true))):=rfl
  rw[h3,atom_of h hx]
  simp only[Instr.typeAssert,Sem.run_bind,run_underlying' hd,Result.andThen_ok]
  cases d <;> simp_all [Sem.run_bind]⟩
end
theorem vio_zero (w:World):(zeroValue 99).run Tryz.prog w=.ok (.agg [.string ⟨#[]⟩,.int .i64 0].toArray) w:=
 (Go.zero_of_info (P:=Tryz.prog) (n:=2) zk).1 w
attribute [local irreducible] LOps LCode LStep LCalls Go.GL.Pure QThen QBlock RetPost LQ LAny LLate LLateOp LS LOpsP LCodeP LCodeS LCallsD
section
variable {B0:Nat} {w0:World}
theorem crec_ret (b2 b3:Nat) (c d:LV):LCallsD (KC B0 w0) 34 [ptr b2 0,ptr b3 0] .returning [(b2,.cells 9 [c]),(b3,.cells 29 [d])]
  (fun u H=>u=.returning∧H=[(b2,.cells 9 [c]),(b3,.cells 29 [d])]):=by
 refine LCallsD.intro Tryz.func34 rfl (n:=19) rfl rfl rfl ?_
 refine LCodeS.seq (LCodeS.recover rfl rfl ?_)
 refine LCodeS.of ?_
 refine gab ?_
 refine oP (Pure.assertNil vio_zero rfl) rfl ?_
 refine gbh ?_
 refine oS (sA fun b5=>?_) rfl
 refine gfb ?_
 refine oC rfl (fun hc=>?_) (fun hc=>?_)
 ·cases hc
 refine ge7 ?_
 refine oC rfl (fun hc=>?_) (fun hc=>?_)
 ·cases hc
 ·refine gcb ?_
  exact ⟨rfl,_,zhD zhr,rfl,rfl⟩
theorem crec_pan (b2 b3:Nat) (c d:LV) (nm:List UInt8) (er:Int):LCallsD (KC B0 w0) 34 [ptr b2 0,ptr b3 0] (.panicking (vio nm er)) [(b2,.cells 9 [c]),(b3,.cells 29 [d])]
  (fun u H=>settle u=.returning∧H=[(b2,.cells 9 [str nm]),(b3,.cells 29 [int .i64 er])]):=by
 refine LCallsD.intro Tryz.func34 rfl (n:=19) rfl rfl rfl ?_
 refine LCodeS.seq (LCodeS.recover rfl rfl ?_)
 refine LCodeS.of ?_
 refine gab ?_
 refine oP (Pure.assertOk (vs:=[.string ⟨nm.toArray⟩,.int .i64 er]) rfl) rfl ?_
 refine gbh ?_
 refine oS (sA fun b5=>?_) rfl
 refine gfb ?_
 refine oC rfl (fun hc=>?_) (fun hc=>?_)
 ·skip
  refine cD (m:=6) rfl [(b5,.cells 99 [str nm,int .i64 er])] ?_
  refine aT 0 rfl rfl (pF rfl) ?_
  refine aT 1 rfl rfl (pL (c:=.atom _) rfl zm0 rfl) ?_
  refine aT 2 rfl rfl (pF rfl) ?_
  refine aT 3 rfl rfl (pL (c:=.atom _) rfl zm0 rfl) ?_
  refine aL ?_ zhp
  refine lO 4 (lS (H1:=[(b2,.cells 9 [c])]) (F:=[(b5,.cells 99 [str nm,int .i64 er]),(b3,.cells 29 [d])]) rfl (.inl rfl) rfl zp1 zhp (sS (cs':=[_]) rfl pH rfl rfl rfl rfl rfl ?_))
  refine lO 5 (lS (H1:=[(b3,.cells 29 [d])]) (F:=[(b2,.cells 9 [str nm]),(b5,.cells 99 [str nm,int .i64 er])]) rfl (.inl rfl) rfl zp2 (zhP zp1 zhn) (sS (cs':=[_]) rfl pH rfl rfl rfl rfl rfl ?_))
  refine lD zk ?_
  exact ⟨rfl,_,zhP zp1 zhp,rfl,rfl⟩
 ·cases hc
theorem check_spec (vars:List Nm) (arrays:List (Nm×Int)) (fs:List FnD) (hv6:vars.length≤2000000) (ha6:arrays.length≤2000000) (har:∀ a∈arrays,-9223372036854775808≤a.2∧a.2<9223372036854775808) (hnd:ndFs fs≤2000000) :
  LCalls (KC B0 w0) 16 [encPrG vars arrays fs] [] (fun r H=>H=[]∧∃ nm,r=.ret (.tuple [str nm,int .i64 (checkP vars arrays fs)])):=by
 generalize hE:checkP vars arrays fs=E
 refine LCalls.introD Tryz.func16 rfl (n:=15) rfl rfl rfl ?_
 refine LCodeP.seq (LCodeP.of ?_)
 refine gb5 ?_
 refine oS (sB rfl fun b1=>?_) rfl
 refine oS (sA fun b2=>?_) rfl
 refine oS (sA fun b3=>?_) rfl
 refine gaq ?_
 refine LCodeP.seq (LCodeP.region ?_)
 refine gfa ?_
 refine LOpsP.defer rfl rfl ?_
 refine LOpsP.nil ?_
 refine qN ?_
 refine LCodeP.seq (LCodeP.of ?_)
 refine gb5 ?_
 refine oS (S.kvNew fun gm=>?_) rfl
 refine oS (S.kvNew fun vm=>?_) rfl
 refine oS (S.kvNew fun am=>?_) rfl
 refine oS (S.kvNew fun fm=>?_) rfl
 refine gku ?_
 refine oS (sB rfl fun cb=>?_) rfl
 refine LOps.weak (H':=pgH ⟨cb,gm,vm,am,fm,0,[],[],[],[],[],0,0,0,0,0,[]⟩ (.map none) 0++[(b3,.cells 29 [int .i64 0]),(b2,.cells 9 [str []]),(b1,.cells 28 [.list (vars.map str),.list (arrays.map encArG),.list (fs.map encFn)])]) ?_ ?_
 ·repeat first
   |exact HSub.nil _
   |refine zhP zb1 ?_
 refine gar ?_
 refine LCodeP.seq (LCodeP.region ?_)
 refine gkv ?_
 refine LOpsP.step (S.callE (F:=[_,_,_]) [_,_] rfl zpr (program_spec (k:=⟨cb,gm,vm,am,fm,0,[],[],[],[],[],0,0,0,0,0,[]⟩) (o:=.map none) (d:=0) vars arrays fs rfl rfl rfl rfl hv6 ha6 har hnd) (fun H2 h0 hP=>?_) (fun nm h0=>?_)) rfl
 ·subst hP
  rw[hE] at h0
  subst h0
  refine LOpsP.nil ?_
  refine qN ?_
  refine LCodeP.seq (LCodeP.region ?_)
  refine LOpsP.step (sS (cs':=[_]) rfl zp1 rfl rfl rfl rfl rfl ?_) rfl
  refine LOpsP.step (sS (cs':=[_]) rfl zp1 rfl rfl rfl rfl rfl ?_) rfl
  refine LOpsP.nil ?_
  refine qN ?_
  refine LCodeP.ret ?_
  exact RetPostD.ret1 (vs:=[str [],int .i64 0]) (H1:=[(b2,.cells 9 [str []]),(b3,.cells 29 [int .i64 0])]) (F:=[_]) (H2:=[(b2,.cells 9 [str []]),(b3,.cells 29 [int .i64 0])]) rfl (List.Perm.swap _ _ _) (crec_ret b2 b3 _ _)
   (rC (ResIs.cellOne rfl zm0 rfl zsr) (rC (ResIs.cellOne rfl zm1 rfl zsr) rN)) zhn ⟨rfl,[],rfl⟩
 ·rw[hE] at h0 ⊢
  refine QThen.panic ?_
  exact RetPostD.panic1 (vs:=[str nm,int .i64 E]) (H1:=[(b2,.cells 9 [str []]),(b3,.cells 29 [int .i64 0])]) (F:=[_]) (H2:=[(b2,.cells 9 [str nm]),(b3,.cells 29 [int .i64 E])]) rfl (List.Perm.swap _ _ _) (crec_pan b2 b3 _ _ nm E)
   (rC (ResIs.cellOne rfl zm0 rfl zsr) (rC (ResIs.cellOne rfl zm1 rfl zsr) rN)) zhn ⟨rfl,nm,rfl⟩
end
end Go.Proofs.YtegmklafpoldgaaGreatDoor.Chk
namespace Go.Proofs.YtegmklafpoldgaaGreatDoor
open Go.GL Go.RowKit Go.Stele
def BH (b:Nat) (l:List UInt8) (H:Heap):Prop:=∃ p v Hv,(p=LV.atom (.pointer none)∨p=ptr b 0)∧BRow 5 v l Hv∧H=(b,.cells 134 [p,.atom v])::Hv
theorem lays240:Lays.n240 Tryz.prog Tryz.lays156_ren:={ Tryz.lays156 with }
section
variable {B0:Nat} {w0:World}
theorem copyCheck_spec (b:Nat) (p v:LV) (hp:p=LV.atom (.pointer none)∨p=ptr b 0):LCalls (KC B0 w0) 128 [ptr b 0] [(b,.cells 134 [p,v])]
  (fun r H'=>(∃ x,r=.ret (.atom x))∧H'=[(b,.cells 134 [ptr b 0,v])]):=fun xs w L hv hH=>by
 simp only[RepL] at hv
 obtain ⟨y,ys,rfl,hy,rfl⟩:=hv
 simp only[Rep] at hy
 subst hy
 obtain ⟨hb0,hbs,hl,zs,hx1,hx2⟩:=hH.objs _ (List.mem_singleton.2 rfl)
 simp only at hb0 hbs hl hx1 hx2
 have hz:=hx2
 simp only[RepL] at hz
 obtain ⟨a,as1,rfl,ha,c,as2,rfl,hc,rfl⟩:=hz
 rcases hp with rfl|rfl
 ·simp only[Rep] at ha
  subst ha
  have h0:w.cell? ⟨b,0,none⟩=some (.pointer none):=by simp[World.cell?,hx1]
  have hsh:w.shape? b=some (134,2):=by simp[World.shape?,hx1]
  have hfz:w.frozen? ⟨b,0,none⟩=false:=Go.Lib.frozen_of_heap hx1 0
  refine (Any.Builder_copyCheck_fresh (P:=Tryz.prog) lays240 Tryz.Builder_Extra_156.toX72 b w h0 hsh hfz).mono fun e w' he=>?_
  obtain ⟨rfl,rfl⟩:=he
  refine left_write (w:=w) (w':=w.setCell ⟨b,0,none⟩ (.pointer (some ⟨b,0,none⟩))) (xs':=[.pointer (some ⟨b,0,none⟩),c]) (cs':=[ptr b 0,v]) (lv:=.atom (.tuple #[])) hH rfl rfl rfl (by simp[World.setCell]) (fun d hd=>by simp[World.setCell,Array.getElem?_modify,Ne.symm hd]) (by rw[setCell_heap (xs:=[.pointer none,c]) hx1];rfl) rfl ?_ rep_atom ⟨⟨_,rfl⟩,rfl⟩
  simp only[RepL] at hx2 ⊢
  exact ⟨_,_,rfl,rep_atom,c,[],rfl,hc,rfl⟩
 ·simp only[Rep] at ha
  subst ha
  have h0:w.cell? ⟨b,0,none⟩=some (.pointer (some ⟨b,0,none⟩)):=by simp[World.cell?,hx1]
  refine (Any.Builder_copyCheck_used (P:=Tryz.prog) lays240 Tryz.Builder_Extra_156.toX72 b w h0).mono fun e w' he=>?_
  obtain ⟨rfl,rfl⟩:=he
  exact ⟨.atom (.tuple #[]),_,L,Fr.refl _ _ _,hH,rep_atom,⟨_,rfl⟩,rfl⟩
attribute [local irreducible] LOps LCode LStep LCalls Go.GL.Pure QThen QBlock RetPost LQ LAny LLate LLateOp
theorem writeString_spec (b:Nat) (l m:List UInt8) (H:Heap) (hB:BH b l H) (hlen:l.length+m.length≤10000000000):LCalls (KC B0 w0) 57 [ptr b 0,str m] H (fun r H'=>(∃ x,r=.ret x)∧BH b (l++m) H'):=by
 obtain ⟨p,v,Hv,hp,hacc,rfl⟩:=hB
 refine cI Tryz.func57 rfl (n:=19) rfl rfl rfl ?_
 refine gal ?_
 refine oS (S.callH (H1:=[(b,_)]) (F:=Hv) [_] rfl zpr (copyCheck_spec b p (.atom v) hp) (fun x H' h=>?_) (fun ch H' h=>?_)) rfl
 ·obtain ⟨⟨x',hx'⟩,rfl⟩:=h
  cases hx'
  refine gcx ?_
  refine oS (S.appB1 (q:=(b,.cells 134 [ptr b 0,.atom v])) (l:=l) (m:=m) rfl hacc rfl zo fun v' H' hacc'=>?_) rfl
  refine gc7 ?_
  have hacc2:=hacc'
  generalize l++m=lm at hacc' hacc2 ⊢
  cases hacc' with
  |nil=>
   refine gfc ?_
   exact rR rfl (rC (zrt rfl) (zra rfl)) zhr ⟨⟨_,rfl⟩,ptr b 0,_,_,.inr rfl,hacc2,rfl⟩
  |row h0 h1 h2=>
   refine gfc ?_
   exact rR rfl (rC (zrt rfl) (zra rfl)) zhr ⟨⟨_,rfl⟩,ptr b 0,_,_,.inr rfl,hacc2,rfl⟩
 ·obtain ⟨⟨x',hx'⟩,_⟩:=h
  cases hx'
end
end Go.Proofs.YtegmklafpoldgaaGreatDoor
namespace Go.Proofs.YtegmklafpoldgaaGreatDoor
open Go Go.Shelf Go.RowKit
section
variable {P:Program} {ρ:Ren}
set_option maxHeartbeats 4000000 in
set_option maxRecDepth 100000 in
theorem builder_string_row (L:Lays.n169 P ρ) (X:Builder.Extra P ρ) (b g:Nat) (p:Value) (l:List UInt8) (cur:Array Value) (w:World) (hbk:w.heap[b]? = some (.cells #[p,.slice (some ⟨g,0,none⟩) l.length cur.size] (ρ.t 72) (0,0)))
  (hg:w.heap[g]? = some (.cells cur (ρ.t 5) (0,0))) (h0:l≠[]) (hn:l.length≤cur.size) (hbig:l.length≤9223372036854775807) (hcell:∀ (j:Nat) (x:UInt8),l[j]? = some x→cur[j]? = some (.int .u8 x.toNat)) :
  Calls P (ρ.f 169) #[.pointer (some ⟨b,0,none⟩)] w fun e w'=>e=.returned (.string ⟨l.toArray⟩)∧w'=w.drew.freeze ⟨g,0,none⟩ l.length:=by
 have hl0:l.length≠0:=by simpa using h0
 have c1:w.drew.cell? ⟨b,1,none⟩=some (.slice (some ⟨g,0,none⟩) l.length cur.size):=by
  have:w.drew.heap[b]? = some (.cells #[p,.slice (some ⟨g,0,none⟩) l.length cur.size] (ρ.t 72) (0,0)):=hbk
  rw[Lib.cell_of_heap this];rfl
 have hSD:(Builtin.unsafeSliceData_ #[(ρ.t 37)] (ρ.t 127) #[.slice (some ⟨g,0,none⟩) l.length cur.size]).run P w.drew=.ok (.pointer (some ⟨g,0,none⟩)) w.drew:=
  Lib.run_unsafeSliceData_row _ _ _ _ _ _ (by omega)
 have hUS:(Builtin.unsafeString_ #[(ρ.t 127),(ρ.t 3)] (ρ.t 9) #[.pointer (some ⟨g,0,none⟩),.int .i64 l.length]).run P w.drew=.ok (.string ⟨l.toArray⟩) (w.drew.freeze ⟨g,0,none⟩ l.length):=by
  refine Lib.run_unsafeString_row w.drew (ρ.t 127) (ρ.t 3) (ρ.t 9) (ρ.t 5) L.t127 X.cellsByte g cur.size (by have hg':w.drew.heap[g]? = some (.cells cur (ρ.t 5) (0,0)):=hg;simp[World.shape?,hg']) l h0 hn hbig ?_
  intro j x hx
  have hg':w.drew.heap[g]? = some (.cells cur (ρ.t 5) (0,0)):=hg
  have:=hcell j x hx
  rw[Go.GL.add_mk]
  simp[World.cell?,hg',this]
 have mixed:=L.mixed
 have t72:=L.t72;have a72:=L.a72;have z72:=L.z72;have v72:=L.v72;have u72:=run_underlying L.t72
 have t70:=L.t70;have a70:=L.a70;have z70:=L.z70;have v70:=L.v70;have u70:=run_underlying L.t70
 have t37:=L.t37;have a37:=L.a37;have z37:=L.z37;have v37:=L.v37;have u37:=run_underlying L.t37
 have t127:=L.t127;have a127:=L.a127;have z127:=L.z127;have v127:=L.v127;have u127:=run_underlying L.t127
 have t3:=L.t3;have a3:=L.a3;have z3:=L.z3;have v3:=L.v3;have u3:=run_underlying L.t3
 have t9:=L.t9;have a9:=L.a9;have z9:=L.z9;have v9:=L.v9;have u9:=run_underlying L.t9
 have t5:=X.t5;have a5:=X.a5;have z5:=X.z5;have v5:=X.v5;have u5:=run_underlying X.t5
 go_enter L.f169,Body.n169_ntmps ρ
 go_wp2
 go_region_o
 all_goals (go_wp2;go_ret;exact ⟨rfl,rfl⟩)
end
open Go.GL Go.Stele
theorem lays169:Lays.n169 Tryz.prog Tryz.lays156_ren:={ Tryz.lays156 with }
section
variable {B0:Nat} {w0:World}
theorem fr_freeze {C:Ctx} {w:World} {L:Live} {H:Heap} (hH:RelH C w L H) {g n:Nat} (hm:g∈keys H) (hb:C.B0≤g):Fr (keys H) w L (w.drew.freeze ⟨g,0,none⟩ n) L []∧RelH C (w.drew.freeze ⟨g,0,none⟩ n) L []:=by
 have hbl:∀ c,c≠g→(w.drew.freeze ⟨g,0,none⟩ n).heap[c]? = w.heap[c]? := fun c hc=>by
  unfold World.freeze
  split
  ·rfl
  ·simp only[Array.getElem?_modify]
   rw[if_neg (Ne.symm hc)]
   rfl
 have hsz:(w.drew.freeze ⟨g,0,none⟩ n).heap.size=w.heap.size:=by
  unfold World.freeze
  split
  ·rfl
  ·simp
 have hsh:∀ c,(w.drew.freeze ⟨g,0,none⟩ n).shape? c=w.shape? c:=fun c=>by
  by_cases hc:c=g
  ·subst hc
   unfold World.freeze
   split
   ·rfl
   ·simp only[World.shape?,Array.getElem?_modify,if_true]
    show (match Option.map _ w.heap[c]? with|some (Obj.cells c e _)=>some (e,c.size)|_=>none)=_
    cases w.heap[c]? with
    |none=>rfl
    |some o=>cases o <;> rfl
  ·exact shape_of_heap (hbl c hc)
 have hce:∀ c i,(w.drew.freeze ⟨g,0,none⟩ n).cell? ⟨c,i,none⟩=w.cell? ⟨c,i,none⟩:=fun c i=>by
  by_cases hc:c=g
  ·subst hc
   unfold World.freeze
   split
   ·rfl
   ·simp only[World.cell?,Array.getElem?_modify,if_true]
    show (match Option.map _ w.heap[c]? with|some (Obj.cells c e _)=>_|_=>none)=_
    cases w.heap[c]? with
    |none=>rfl
    |some o=>cases o <;> rfl
  ·exact cell_of_heap (hbl c hc) i
 have hos:(w.drew.freeze ⟨g,0,none⟩ n).os=w.os∧(w.drew.freeze ⟨g,0,none⟩ n).tape=w.tape∧(w.drew.freeze ⟨g,0,none⟩ n).output=w.output:=by
  unfold World.freeze
  split <;> exact ⟨rfl,rfl,rfl⟩
 exact ⟨⟨hos.1,hos.2.1,hos.2.2,⟨Nat.le_of_eq hsz.symm,fun c _=>hsh c,fun c i _=>hce c i,fun _=>zNr _⟩,fun c _ hc=>hbl c (fun h=>hc (h▸hm)),fun _ _ _=>rfl,by simp⟩,
  ⟨hH.base.trans ⟨hos.1,hos.2.1,hos.2.2,Nat.le_of_eq hsz.symm,fun c hc=>hbl c zo⟩,hH.lbase,by rw[hsz];exact hH.b0,fun c hc=>hH.wf c (by rw[hsz] at hc;exact hc),List.nodup_nil,by simp⟩⟩
theorem string_spec (b:Nat) (l:List UInt8) (H:Heap) (hB:BH b l H) (hlen:l.length≤10000000000):LCalls (KC B0 w0) 58 [ptr b 0] H (Ret (str l)):=fun xs w L hv hH=>by
 obtain ⟨p,v,Hv,hp,hacc,rfl⟩:=hB
 simp only[RepL] at hv
 obtain ⟨y,ys,rfl,hy,rfl⟩:=hv
 simp only[Rep] at hy
 subst hy
 obtain ⟨hb0,hbs,hl,zs,hx1,hx2⟩:=hH.objs _ zMs
 simp only at hb0 hbs hl hx1 hx2
 simp only[RepL] at hx2
 obtain ⟨a,as1,rfl,ha,c,as2,rfl,hc,rfl⟩:=hx2
 simp only[Rep] at hc
 subst hc
 cases hacc with
 |nil=>
  refine (Any.Builder_String_nil (P:=Tryz.prog) lays169 Tryz.Builder_Extra_156 w.heap.size b a w hx1).mono fun e w' he=>?_
  obtain ⟨rfl,hb⟩:=he
  obtain ⟨h1,h2⟩:=fr_below (hH.sub (List.nil_sublist _)) hb
  exact ⟨str [],[],L,h1.wide (by simp),h2,rep_atom,rfl,rfl⟩
 |row h0 h1 h2=>
  rename_i g xs
  obtain ⟨hg0,hgs,hgl,ws,hw1,hw2⟩:=hH.objs _ (zMo _ (List.mem_singleton.2 rfl))
  simp only at hg0 hgs hgl hw1
  have:=repL_atoms_eq hw2
  subst this
  have hcell:∀ (j:Nat) (x:UInt8),l[j]? = some x→ws.toArray[j]? = some (Value.int .u8 x.toNat):=fun j x hx=>by
   have hj:(bytV l)[j]? = some (Value.int .u8 x.toNat):=by simp[bytV,hx]
   rw[←h2,List.getElem?_take] at hj
   split at hj
   ·simpa using hj
   ·cases hj
  refine (builder_string_row (P:=Tryz.prog) lays169 Tryz.Builder_Extra_156 b g a l ws.toArray w hx1 hw1 h0 (by simpa using h1) zo hcell).mono fun e w' he=>?_
  obtain ⟨rfl,rfl⟩:=he
  obtain ⟨f1,f2⟩:=fr_freeze (n:=l.length) hH (g:=g) (by simp) hg0
  exact ⟨str l,[],L,f1,f2,rep_atom,rfl,rfl⟩
end
end Go.Proofs.YtegmklafpoldgaaGreatDoor
namespace Go.GL
open Go.RowKit
section
variable {C:Ctx} {e:Env} {H:Heap} {x y:Operand} {dst:Option Nat} {ty:TypeId} {pos:String} {aft:Array Edge} {g:Option (Nat×Bool)} {K:LV→Heap→Prop} {X:List PanicEntry→Heap→Prop}
theorem LStep.appBL {sT xT el bytes:Nat} [ht:TSlice C.P sT el 1] [hr:TRow C.P el 1 bytes] {e2:Nat} [hx2:TSlice C.P xT e2 1] {v:Value} {l m:List UInt8}
  (hx:e.ev x=.atom v) (ha:BRow el v l H) (hy:GL.elems (e.ev y)=some (byts m)) (hm0:m≠[]) (hroom:(l.length+m.length) * bytes≤140737488355328)
  (hk:∀ v' H',BRow el v' (l++m) H'→K (.atom v') H'):LStep C ⟨dst,.call { callee:=.builtin .append,args:=#[x,y],argTypes:=#[sT,xT] },ty,pos,aft,g⟩ e H K X:=by
 have h0:∀ (cs:Array Bool) (args:Array Value),builtin .append #[sT,xT] ty cs args=(do Pure.pure (.value (←Builtin.append_ #[sT,xT] ty args))):=fun _ _=>rfl
 cases ha with
 |nil=>
  by_cases hne:m=[]
  ·subst hne
   exact absurd rfl hm0
  ·intro ρ w L h hH
   have hpos:0<m.length:=List.length_pos_iff.2 hne
   obtain ⟨ay,cy,xs0,hyv,hyc,hyr,hyl,hyf⟩:=slice_cells (s:=1) (h y) hy (byts_size m)
   rw[byts_flat] at hyr
   have hyx:xs0=bytV m:=repL_atoms_eq (zs:=bytV m) (by rw[show (bytV m).map LV.atom=byts m from by simp[bytV,byts,List.map_map,Function.comp_def]];exact hyr)
   subst hyx
   rw[byts_len] at hyv hyc hyf
   rw[hyv] at hyf
   have hlen:∀ w':World,(Builtin.lenOf (.slice ay m.length cy)).run C.P w'=.ok m.length w':=fun w'=>by simp[Builtin.lenOf]
   obtain ⟨cap',rest,r1,r2,r3⟩:=run_append_new (ty:=ty) (P:=C.P) (w:=w) (sT:=sT) (xT:=xT) (a:=none) (len:=0) (cap:=0) (n:=m.length) (xv:=.slice ay m.length cy) (old:=[]) (new:=bytV m) (.inr ⟨_,hx2.und⟩) hlen (fun w' hw=>hyf C.P w' hw)
    (fun w' _=>by simp[Builtin.firstCells]) (by simpa using hroom) zo
   rw[execOp_builtin',h0]
   simp only[List.map_toArray,zMc,List.map_nil,Sem.run_bind,atom_of h hx,hyv,r3,Result.andThen_ok,Sem.run_pure,List.nil_append,Nat.zero_add]
   have hcl:(bytV m++rest).length=cap':=by rw[zLa,r2,bytV_len];omega
   obtain ⟨lv,H',L',g1,g2,g3,g4⟩:=left_newB (K:=K) (el:=el) (l:=m) (xs:=bytV m++rest) hH.drew hne (by rw[hcl];omega) (by rw[List.take_left' (bytV_len m)]) (fun v' H' h'=>hk v' H' h')
   rw[hcl] at g3
   exact ⟨lv,H',L',g1.of_drew,g2,g3,g4⟩
 |row hne h1 h2=>
  rename_i b xs
  intro ρ w L h hH
  obtain ⟨hb0,hbs,hl,zs,hz1,hz2⟩:=hH.objs _ (List.mem_singleton.2 rfl)
  have hz:=repL_atoms_eq hz2
  subst hz
  simp only at hb0 hbs hl hz1
  obtain ⟨ay,cy,xs0,hyv,hyc,hyr,hyl,hyf⟩:=slice_cells (s:=1) (h y) hy (byts_size m)
  rw[byts_flat] at hyr
  have hyx:xs0=bytV m:=repL_atoms_eq (zs:=bytV m) (by rw[show (bytV m).map LV.atom=byts m from by simp[bytV,byts,List.map_map,Function.comp_def]];exact hyr)
  subst hyx
  rw[byts_len] at hyv hyc hyf
  rw[hyv] at hyf
  have hlen:∀ w':World,(Builtin.lenOf (.slice ay m.length cy)).run C.P w'=.ok m.length w':=fun w'=>by simp[Builtin.lenOf]
  rw[execOp_builtin',h0]
  simp only[List.map_toArray,zMc,List.map_nil,Sem.run_bind,atom_of h hx,hyv]
  by_cases hc:l.length+m.length≤zs.length
  ·have hrun:=run_append_in (ty:=ty) (P:=C.P) (w:=w) (sT:=sT) (xT:=xT) (s:=1) (a:=some ⟨b,0,none⟩) (len:=l.length) (cap:=zs.length) (n:=m.length) (xv:=.slice ay m.length cy) (new:=bytV m) (.inr ⟨_,hx2.und⟩) hlen (fun w' hw=>hyf C.P w' hw) hc
   obtain ⟨w',r1,r2,r3,r4,r5,r6,r7⟩:=storeCells_run (P:=C.P) (b:=b) (off:=0+l.length * 1) (t:=el) (fr:=(0,0)) (bytV m) 0 w zs hz1 (by rw[bytV_len];omega) (fun j _ _=>by simp) (bytV_flat m)
   rw[hrun]
   simp only[add_mk,r1,Result.andThen_ok,Sem.run_pure]
   have hx':(zs.take (0+l.length * 1+0)++bytV m++zs.drop (0+l.length * 1+0+(bytV m).length)).length=zs.length:=by
    simp only[zLa,List.length_take,List.length_drop,bytV_len]
    omega
   have hfin:=left_write (v:=.slice (some ⟨b,0,none⟩) (l.length+m.length) zs.length) (lv:=.atom (.slice (some ⟨b,0,none⟩) (l.length+m.length) zs.length)) (K:=K) (cs':=(zs.take (0+l.length * 1+0)++bytV m++zs.drop (0+l.length * 1+0+(bytV m).length)).map .atom) hH r2 r3 r4 r5 r6 r7 (by rw[hx',zLm]) (repL_atoms _) rep_atom (by
    have hb:BRow el (.slice (some ⟨b,0,none⟩) (l++m).length (zs.take (0+l.length * 1+0)++bytV m++zs.drop (0+l.length * 1+0+(bytV m).length)).length) (l++m) _:=BRow.row (b:=b) (el:=el) (by simp[hne]) (by rw[hx',zLa];exact hc) (by
     have he:0+l.length * 1+0=l.length:=by omega
     rw[he,h2,←bytV_app,List.take_left' (bytV_len _)])
    rw[hx',zLa] at hb
    exact hk _ _ hb)
   exact hfin
  ·have hold:∀ w':World,w'.heap=w.heap→(Builtin.firstCells 1 l.length (.slice (some ⟨b,0,none⟩) l.length zs.length)).run C.P w'=.ok (bytV l).toArray w':=fun w' hw=>by
    have:=loadCellsFrom_run (P:=C.P) (w:=w') (b:=b) (off:=0) l.length 0 #[] (bytV l) (bytV_len l) (fun j x' hj=>by
     have hj':zs[j]? = some x':=by
      rw[←h2,List.getElem?_take] at hj
      split at hj
      ·exact hj
      ·cases hj
     simp[World.cell?,hw,hz1,hj'])
    simp only[Builtin.firstCells,loadCells,Nat.mul_one,this]
    simp
   obtain ⟨cap',rest,r1,r2,r3⟩:=run_append_new (ty:=ty) (P:=C.P) (w:=w) (sT:=sT) (xT:=xT) (a:=some ⟨b,0,none⟩) (len:=l.length) (cap:=zs.length) (n:=m.length) (xv:=.slice ay m.length cy) (old:=bytV l) (new:=bytV m) (.inr ⟨_,hx2.und⟩) hlen (fun w' hw=>hyf C.P w' hw) hold hroom zo
   rw[r3]
   simp only[Result.andThen_ok,Sem.run_pure]
   have hcl:(bytV l++bytV m++rest).length=cap':=by rw[zLa,zLa,r2,bytV_len,bytV_len];omega
   have hH0:RelH C w L []:=hH.sub (List.nil_sublist _)
   obtain ⟨lv,H',L',g1,g2,g3,g4⟩:=left_newB (K:=K) (el:=el) (l:=l++m) (xs:=bytV l++bytV m++rest) hH0.drew (by simp[hne]) (by rw[hcl,zLa];omega) (by rw[←bytV_app,List.take_left' (bytV_len _)]) (fun v' H' h'=>hk v' H' h')
   rw[hcl,zLa] at g3
   exact ⟨lv,H',L',g1.of_drew.wide (by simp),g2,g3,g4⟩
theorem S.appBL1 {sT xT el bytes:Nat} [ht:TSlice C.P sT el 1] [hr:TRow C.P el 1 bytes] {e2:Nat} [hx2:TSlice C.P xT e2 1] {v:Value} {l m:List UInt8} {H1:Heap} {q:Nat×LObj}
  (hx:e.ev x=.atom v) (ha:BRow el v l H1) (hy:GL.elems (e.ev y)=some (byts m)) (hm0:m≠[]) (hroom:(l.length+m.length) * bytes≤140737488355328)
  (hk:∀ v' H',BRow el v' (l++m) H'→K (.atom v') (q::H')):LStep C ⟨dst,.call { callee:=.builtin .append,args:=#[x,y],argTypes:=#[sT,xT] },ty,pos,aft,g⟩ e (q::H1) K X:=by
 refine LStep.conseq (K:=fun lv H'=>∃ v' H2,lv=.atom v'∧H'=H2++[q]∧BRow el v' (l++m) H2) (LStep.frame (List.perm_append_singleton _ _).symm (LStep.appBL hx ha hy hm0 hroom fun v' H' h=>⟨v',H',rfl,rfl,h⟩)) ?_
 rintro lv H' ⟨v',H2,rfl,rfl,h⟩
 exact ⟨_,[q]++H2,vR _,⟨[],by simp⟩,hk _ _ h⟩
theorem Pure.blen {t el el2 s:Nat} [TSlice C.P t el2 s] {v:Value} {l:List UInt8} {Hv:Heap} (hx:e.ev x=.atom v) (ha:BRow el v l Hv):Pure C ⟨dst,.call { callee:=.builtin .len,args:=#[x],argTypes:=#[t] },ty,pos,aft,g⟩ e H (int .i64 l.length):=
 .of_any fun ρ _ _ h=>⟨_,rep_atom,fun w'=>by
  have hu:=run_underlying' (P:=C.P) (TSlice.und (t:=t)) w'
  rw[execOp_builtin',builtin_len']
  cases ha <;> simp[Builtin.len_,hu,goInt,atom_of h hx]⟩
end
end Go.GL
namespace Go.Stele
abbrev Wd:=List UInt8
def numW (w:Wd):Option Nat:=match Go.Lib.parseUintB 32 w with
 |.ok u=>if Go.Lib.decDigits u=w then some u else none
 |_=>none
def nameW (s:Wd):Bool:=match s with
 |[]=>false
 |c::r=>decide (s.length≤40) && isLetter c && s.all isInner
def defW (w:Wd):Option Wd:=if w.getLast? = some 58∧nameW w.dropLast=true then some w.dropLast else none
def refW (w:Wd):Option Wd:=match w with
 |[]=>none
 |c::r=>if c=38∧nameW r=true then some r else none
def wdAt (l:List Wd) (i:Nat):Wd:=(l[i]?).getD []
def compW (a:Nat) (op:Wd) (b:Nat):Option Nat:=
 if op=[43] then some ((a+b) % 4294967296)
 else if op=[45] then some ((a+4294967296-b) % 4294967296)
 else if op=[42] then some (a * b % 4294967296)
 else if op=[94] then some (a ^^^ b)
 else if op=[60] then some (if a<b then 1 else 0)
 else if op=[47] then (if b=0 then none else some (a / b))
 else if op=[37] then (if b=0 then none else some (a % b))
 else none
def joinedW (x op y:Wd):Option Wd:=match numW x,numW y with
 |some a,some b=>match compW a op b with
  |some c=>if (Go.Lib.decDigits c).length≤x.length+y.length+1 then some (Go.Lib.decDigits c) else none
  |none=>none
 |_,_=>none
def jumpW (v:List Wd) (i:Nat):Option Wd:=match refW (wdAt v i) with
 |some l=>if wdAt v (i+1)=[63] then some l else none
 |none=>none
abbrev RuleW:=Nat×List Wd
def rFold (v:List Wd):RuleW:=match joinedW (wdAt v 0) (wdAt v 2) (wdAt v 1) with
 |some s=>(3,[s])
 |none=>(0,[])
def rNeutral (v:List Wd):RuleW:=
 if wdAt v 0=[48]∧(wdAt v 1=[43]∨wdAt v 1=[45]∨wdAt v 1=[94])∨wdAt v 0=[49]∧(wdAt v 1=[42]∨wdAt v 1=[47]) then (2,[]) else (0,[])
def rRegroup (v:List Wd):RuleW:=
 if (wdAt v 1=[43]∨wdAt v 1=[42]∨wdAt v 1=[94])∧wdAt v 3=wdAt v 1 then
  (match joinedW (wdAt v 0) (wdAt v 1) (wdAt v 2) with
  |some s=>(4,[s,wdAt v 1])
  |none=>(0,[]))
 else (0,[])
def rSame (v:List Wd):RuleW:=if (numW (wdAt v 0)).isSome=true∧wdAt v 1=[64]∧wdAt v 2=wdAt v 0∧wdAt v 3=[33] then (4,[]) else (0,[])
def rDouble (v:List Wd):RuleW:=if (jumpW v 4).isSome=true∧wdAt v 0=[49]∧wdAt v 1=[60]∧wdAt v 2=[49]∧wdAt v 3=[60] then (6,[wdAt v 4,wdAt v 5]) else (0,[])
def rNever (v:List Wd):RuleW:=match numW (wdAt v 0) with
 |some n=>if n≠0∧(jumpW v 1).isSome=true then (3,[]) else (0,[])
 |none=>(0,[])
def nextW (l:Wd):List Wd→Bool
 |[]=>false
 |w::r=>match defW w with
  |some d=>decide (d=l) || nextW l r
  |none=>false
def rNext (v:List Wd):RuleW:=match jumpW v 1 with
 |some l=>if wdAt v 0=[48]∧nextW l (v.drop 3)=true then (3,[]) else (0,[])
 |none=>(0,[])
def stopW (v:List Wd):Nat:=if (jumpW v 1).isSome=true∧wdAt v 0=[48] then 3 else if wdAt v 0=[59]∨wdAt v 0=[36] then 1 else 0
def deadLen (v:List Wd):Nat:=(v.takeWhile fun w=>(defW w).isNone).length
def rDead (v:List Wd):RuleW:=if 0<stopW v∧0<deadLen (v.drop (stopW v)) then (stopW v+deadLen (v.drop (stopW v)),v.take (stopW v)) else (0,[])
def rUnused (used:Wd→Bool) (v:List Wd):RuleW:=match defW (wdAt v 0) with
 |some l=>if used l=true then (0,[]) else (1,[])
 |none=>(0,[])
def ruleW (used:Wd→Bool) (v:List Wd):RuleW:=
 if (rFold v).1≠0 then rFold v else if (rNeutral v).1≠0 then rNeutral v else if (rRegroup v).1≠0 then rRegroup v else if (rSame v).1≠0 then rSame v else if (rDouble v).1≠0 then rDouble v else
 if (rNever v).1≠0 then rNever v else if (rNext v).1≠0 then rNext v else if (rDead v).1≠0 then rDead v else rUnused used v
def onceF (used:Wd→Bool):Nat→List Wd→List Wd
 |0,_=>[]
 |_+1,[]=>[]
 |f+1,w::r=>if (ruleW used (w::r)).1=0 then w::onceF used f r else (ruleW used (w::r)).2++onceF used f ((w::r).drop (ruleW used (w::r)).1)
def usedW (l:List Wd) (s:Wd):Bool:=l.any fun w=>decide (refW w=some s)
def onceP (l:List Wd):List Wd:=onceF (usedW l) l.length l
/-! ### A rule matches words that are there, and puts fewer in their place -/
theorem wdAt_lt {v:List Wd} {i:Nat} (h:wdAt v i≠[]):i<v.length:=by
 rcases Nat.lt_or_ge i v.length with h1|h1
 ·exact h1
 ·exact absurd (by simp[wdAt,List.getElem?_eq_none h1]) h
theorem numW_ne {w:Wd} {n:Nat} (h:numW w=some n):w≠[]:=by
 rintro rfl
 have:numW []=none:=by decide +kernel
 rw[this] at h
 cases h
theorem jumpW_lt {v:List Wd} {i:Nat} {l:Wd} (h:jumpW v i=some l):i+1<v.length:=by
 unfold jumpW at h
 split at h
 ·split at h
  ·rename_i h2
   exact wdAt_lt (by rw[h2];decide)
  ·cases h
 ·cases h
theorem comp_op {a b:Nat} {op:Wd} {c:Nat} (h:compW a op b=some c):op≠[]:=by
 rintro rfl
 have:compW a [] b=none:=rfl
 rw[this] at h
 cases h
theorem joined_ne {x op y s:Wd} (h:joinedW x op y=some s):x≠[]∧op≠[]∧y≠[]:=by
 unfold joinedW at h
 split at h
 ·rename_i a b ha hb
  split at h
  ·rename_i c hc
   exact ⟨numW_ne ha,comp_op hc,numW_ne hb⟩
  ·cases h
 ·cases h
def RuleOk (v:List Wd) (r:RuleW):Prop:=r.1≠0→r.1≤v.length∧r.2.length<r.1
theorem ruleOk_none (v:List Wd):RuleOk v (0,[]):=fun h=>absurd rfl h
theorem fold_ok (v:List Wd):RuleOk v (rFold v):=by
 unfold rFold
 split
 ·rename_i s h
  obtain ⟨_,h2,_⟩:=joined_ne h
  have:=wdAt_lt h2
  exact fun _=>⟨by simp only;omega,by simp⟩
 ·exact ruleOk_none v
theorem neutral_ok (v:List Wd):RuleOk v (rNeutral v):=by
 unfold rNeutral
 split
 ·rename_i h
  have:wdAt v 1≠[]:=by
   intro h0
   rw[h0] at h
   rcases h with ⟨_,h|h|h⟩|⟨_,h|h⟩ <;> cases h
  have:=wdAt_lt this
  exact fun _=>⟨by simp only;omega,by simp⟩
 ·exact ruleOk_none v
theorem regroup_ok (v:List Wd):RuleOk v (rRegroup v):=by
 unfold rRegroup
 split
 ·rename_i h
  split
  ·rename_i s hs
   have h3:wdAt v 3≠[]:=by rw[h.2];exact (joined_ne hs).2.1
   have:=wdAt_lt h3
   exact fun _=>⟨by simp only;omega,by simp⟩
  ·exact ruleOk_none v
 ·exact ruleOk_none v
theorem same_ok (v:List Wd):RuleOk v (rSame v):=by
 unfold rSame
 split
 ·rename_i h
  have:=wdAt_lt (v:=v) (i:=3) (by rw[h.2.2.2];decide)
  exact fun _=>⟨by simp only;omega,by simp⟩
 ·exact ruleOk_none v
theorem double_ok (v:List Wd):RuleOk v (rDouble v):=by
 unfold rDouble
 split
 ·rename_i h
  obtain ⟨l,hl⟩:=Option.isSome_iff_exists.1 h.1
  have:=jumpW_lt hl
  exact fun _=>⟨by simp only;omega,by simp⟩
 ·exact ruleOk_none v
theorem never_ok (v:List Wd):RuleOk v (rNever v):=by
 unfold rNever
 split
 ·split
  ·rename_i h
   obtain ⟨l,hl⟩:=Option.isSome_iff_exists.1 h.2
   have:=jumpW_lt hl
   exact fun _=>⟨by simp only;omega,by simp⟩
  ·exact ruleOk_none v
 ·exact ruleOk_none v
theorem next_ok (v:List Wd):RuleOk v (rNext v):=by
 unfold rNext
 split
 ·rename_i l hl
  split
  ·have:=jumpW_lt hl
   exact fun _=>⟨by simp only;omega,by simp⟩
  ·exact ruleOk_none v
 ·exact ruleOk_none v
theorem stop_le (v:List Wd):stopW v≤v.length:=by
 unfold stopW
 split
 ·rename_i h
  obtain ⟨l,hl⟩:=Option.isSome_iff_exists.1 h.1
  have:=jumpW_lt hl
  omega
 ·split
  ·rename_i h
   have:=wdAt_lt (v:=v) (i:=0) (by rcases h with h|h <;> rw[h] <;> decide)
   omega
  ·omega
theorem dead_ok (v:List Wd):RuleOk v (rDead v):=by
 unfold rDead
 split
 ·rename_i h
  intro _
  have h1:=stop_le v
  have h2:deadLen (v.drop (stopW v))≤(v.drop (stopW v)).length:=(List.takeWhile_prefix _).length_le
  rw[List.length_drop] at h2
  simp only[List.length_take]
  omega
 ·exact ruleOk_none v
theorem unused_ok (used:Wd→Bool) (v:List Wd):RuleOk v (rUnused used v):=by
 unfold rUnused
 split
 ·rename_i l hl
  split
  ·exact ruleOk_none v
  ·have:wdAt v 0≠[]:=by
    intro h0
    rw[h0] at hl
    cases hl
   have:=wdAt_lt this
   exact fun _=>⟨by simp only;omega,by simp⟩
 ·exact ruleOk_none v
theorem rule_ok (used:Wd→Bool) (v:List Wd):RuleOk v (ruleW used v):=by
 unfold ruleW
 split
 ·exact fold_ok v
 split
 ·exact neutral_ok v
 split
 ·exact regroup_ok v
 split
 ·exact same_ok v
 split
 ·exact double_ok v
 split
 ·exact never_ok v
 split
 ·exact next_ok v
 split
 ·exact dead_ok v
 ·exact unused_ok used v
theorem onceF_len (used:Wd→Bool):∀ (f:Nat) (l:List Wd),(onceF used f l).length≤l.length
 |0,l=>Nat.zero_le _
 |f+1,[]=>zNr _
 |f+1,w::r=>by
  rw[onceF]
  split
  ·have:=onceF_len used f r
   simp only[zLc]
   omega
  ·rename_i h
   obtain ⟨h1,h2⟩:=rule_ok used (w::r) h
   have:=onceF_len used f ((w::r).drop (ruleW used (w::r)).1)
   rw[List.length_drop] at this
   rw[zLa]
   omega
end Go.Stele
namespace Go.Stele
open Go.Lib
theorem numW_iff (w:Wd) (n:Nat):numW w=some n ↔ n<4294967296∧decDigits n=w:=by
 unfold numW
 constructor
 ·intro h
  split at h
  ·rename_i u hu
   split at h
   ·rename_i he
    cases h
    exact ⟨pu32_lt hu,he⟩
   ·cases h
  ·cases h
 ·rintro ⟨h1,h2⟩
  subst h2
  rw[pu32_dec n h1]
  simp
theorem numW_lt {w:Wd} {n:Nat} (h:numW w=some n):n<4294967296:=((numW_iff w n).1 h).1
theorem numW_dec {n:Nat} (h:n<4294967296):numW (decDigits n)=some n:=(numW_iff _ n).2 ⟨h,rfl⟩
theorem comp_lt {a b c:Nat} {op:Wd} (ha:a<4294967296) (hb:b<4294967296) (h:compW a op b=some c):c<4294967296:=by
 unfold compW at h
 split at h
 ·cases h;omega
 split at h
 ·cases h;omega
 split at h
 ·cases h;exact Nat.mod_lt _ zDd
 split at h
 ·cases h;exact Nat.xor_lt_two_pow (n:=32) ha hb
 split at h
 ·cases h;split <;> decide
 split at h
 ·split at h
  ·cases h
  ·cases h
   exact Nat.lt_of_le_of_lt (Nat.div_le_self _ _) ha
 split at h
 ·split at h
  ·cases h
  ·cases h
   rename_i hb0
   have:=Nat.mod_lt a (Nat.pos_of_ne_zero hb0)
   omega
 ·cases h
end Go.Stele
namespace Go.Stele
/-! ### The rules, one behind the other -/
def cNeutral (v:List Wd):Prop:=wdAt v 0=[48]∧(wdAt v 1=[43]∨wdAt v 1=[45]∨wdAt v 1=[94])∨wdAt v 0=[49]∧(wdAt v 1=[42]∨wdAt v 1=[47])
instance (v:List Wd):Decidable (cNeutral v):=by unfold cNeutral;infer_instance
def cRegroup (v:List Wd):Prop:=(wdAt v 1=[43]∨wdAt v 1=[42]∨wdAt v 1=[94])∧wdAt v 3=wdAt v 1
instance (v:List Wd):Decidable (cRegroup v):=by unfold cRegroup;infer_instance
def cSame (v:List Wd):Prop:=(numW (wdAt v 0)).isSome=true∧wdAt v 1=[64]∧wdAt v 2=wdAt v 0∧wdAt v 3=[33]
instance (v:List Wd):Decidable (cSame v):=by unfold cSame;infer_instance
def cDouble (v:List Wd):Prop:=(jumpW v 4).isSome=true∧wdAt v 0=[49]∧wdAt v 1=[60]∧wdAt v 2=[49]∧wdAt v 3=[60]
instance (v:List Wd):Decidable (cDouble v):=by unfold cDouble;infer_instance
def cNever (v:List Wd):Bool:=match numW (wdAt v 0) with
 |some n=>decide (n≠0∧(jumpW v 1).isSome=true)
 |none=>false
def cNext (v:List Wd):Bool:=match jumpW v 1 with
 |some l=>decide (wdAt v 0=[48]∧nextW l (v.drop 3)=true)
 |none=>false
def cDead (v:List Wd):Prop:=0<stopW v∧0<deadLen (v.drop (stopW v))
instance (v:List Wd):Decidable (cDead v):=by unfold cDead;infer_instance
def dFold (v:List Wd):Option Wd:=joinedW (wdAt v 0) (wdAt v 2) (wdAt v 1)
def dRegroup (v:List Wd):Option Wd:=joinedW (wdAt v 0) (wdAt v 1) (wdAt v 2)
section
variable {v:List Wd} {used:Wd→Bool}
theorem rFold_s {s:Wd} (h:dFold v=some s):rFold v=(3,[s]):=by unfold rFold;unfold dFold at h;rw[h]
theorem rFold_n (h:dFold v=none):rFold v=(0,[]):=by unfold rFold;unfold dFold at h;rw[h]
theorem rNeutral_t (h:cNeutral v):rNeutral v=(2,[]):=if_pos h
theorem rNeutral_f (h:¬ cNeutral v):rNeutral v=(0,[]):=if_neg h
theorem rRegroup_s {s:Wd} (h:cRegroup v) (h2:dRegroup v=some s):rRegroup v=(4,[s,wdAt v 1]):=by
 unfold rRegroup
 unfold dRegroup at h2
 unfold cRegroup at h
 rw[if_pos h,h2]
theorem rRegroup_n (h:¬ cRegroup v∨dRegroup v=none):rRegroup v=(0,[]):=by
 unfold rRegroup
 unfold dRegroup at h
 by_cases hc:cRegroup v
 ·rcases h with h|h
  ·exact absurd hc h
  ·unfold cRegroup at hc
   rw[if_pos hc,h]
 ·unfold cRegroup at hc
  rw[if_neg hc]
theorem rSame_t (h:cSame v):rSame v=(4,[]):=if_pos h
theorem rSame_f (h:¬ cSame v):rSame v=(0,[]):=if_neg h
theorem rDouble_t (h:cDouble v):rDouble v=(6,[wdAt v 4,wdAt v 5]):=if_pos h
theorem rDouble_f (h:¬ cDouble v):rDouble v=(0,[]):=if_neg h
theorem rNever_t (h:cNever v=true):rNever v=(3,[]):=by
 unfold cNever at h
 unfold rNever
 split at h
 ·rename_i n hn
  try rw[hn]
  exact if_pos (of_decide_eq_true h)
 ·cases h
theorem rNever_f (h:cNever v=false):rNever v=(0,[]):=by
 unfold cNever at h
 unfold rNever
 split at h
 ·rename_i n hn
  try rw[hn]
  exact if_neg (of_decide_eq_false h)
 ·rename_i hn
  first|rw[hn]|rfl
theorem rNext_t (h:cNext v=true):rNext v=(3,[]):=by
 unfold cNext at h
 unfold rNext
 split at h
 ·rename_i n hn
  try rw[hn]
  exact if_pos (of_decide_eq_true h)
 ·cases h
theorem rNext_f (h:cNext v=false):rNext v=(0,[]):=by
 unfold cNext at h
 unfold rNext
 split at h
 ·rename_i n hn
  try rw[hn]
  exact if_neg (of_decide_eq_false h)
 ·rename_i hn
  first|rw[hn]|rfl
theorem rDead_t (h:cDead v):rDead v=(stopW v+deadLen (v.drop (stopW v)),v.take (stopW v)):=if_pos h
theorem rDead_f (h:¬ cDead v):rDead v=(0,[]):=if_neg h
theorem rule1 {s:Wd} (h:dFold v=some s):ruleW used v=(3,[s]):=by
 unfold ruleW
 rw[rFold_s h]
 try rfl
theorem rule2 (h1:dFold v=none) (h:cNeutral v):ruleW used v=(2,[]):=by
 unfold ruleW
 rw[rFold_n h1,rNeutral_t h]
 try rfl
theorem rule3 {s:Wd} (h1:dFold v=none) (h2:¬ cNeutral v) (h:cRegroup v) (h':dRegroup v=some s):ruleW used v=(4,[s,wdAt v 1]):=by
 unfold ruleW
 rw[rFold_n h1,rNeutral_f h2,rRegroup_s h h']
 try rfl
theorem rule4 (h1:dFold v=none) (h2:¬ cNeutral v) (h3:¬ cRegroup v∨dRegroup v=none) (h:cSame v):ruleW used v=(4,[]):=by
 unfold ruleW
 rw[rFold_n h1,rNeutral_f h2,rRegroup_n h3,rSame_t h]
 try rfl
theorem rule5 (h1:dFold v=none) (h2:¬ cNeutral v) (h3:¬ cRegroup v∨dRegroup v=none) (h4:¬ cSame v) (h:cDouble v):ruleW used v=(6,[wdAt v 4,wdAt v 5]):=by
 unfold ruleW
 rw[rFold_n h1,rNeutral_f h2,rRegroup_n h3,rSame_f h4,rDouble_t h]
 try rfl
theorem rule6 (h1:dFold v=none) (h2:¬ cNeutral v) (h3:¬ cRegroup v∨dRegroup v=none) (h4:¬ cSame v) (h5:¬ cDouble v) (h:cNever v=true):ruleW used v=(3,[]):=by
 unfold ruleW
 rw[rFold_n h1,rNeutral_f h2,rRegroup_n h3,rSame_f h4,rDouble_f h5,rNever_t h]
 try rfl
theorem rule7 (h1:dFold v=none) (h2:¬ cNeutral v) (h3:¬ cRegroup v∨dRegroup v=none) (h4:¬ cSame v) (h5:¬ cDouble v) (h6:cNever v=false) (h:cNext v=true):ruleW used v=(3,[]):=by
 unfold ruleW
 rw[rFold_n h1,rNeutral_f h2,rRegroup_n h3,rSame_f h4,rDouble_f h5,rNever_f h6,rNext_t h]
 try rfl
theorem rule8 (h1:dFold v=none) (h2:¬ cNeutral v) (h3:¬ cRegroup v∨dRegroup v=none) (h4:¬ cSame v) (h5:¬ cDouble v) (h6:cNever v=false) (h7:cNext v=false) (h:cDead v):ruleW used v=(stopW v+deadLen (v.drop (stopW v)),v.take (stopW v)):=by
 unfold ruleW
 have h0:stopW v+deadLen (v.drop (stopW v))≠0:=by have:=h.1;omega
 rw[rFold_n h1,rNeutral_f h2,rRegroup_n h3,rSame_f h4,rDouble_f h5,rNever_f h6,rNext_f h7,rDead_t h]
 simp only[ne_eq,not_true_eq_false,if_false,h0,not_false_eq_true,if_true]
theorem rule9 (h1:dFold v=none) (h2:¬ cNeutral v) (h3:¬ cRegroup v∨dRegroup v=none) (h4:¬ cSame v) (h5:¬ cDouble v) (h6:cNever v=false) (h7:cNext v=false) (h8:¬ cDead v):ruleW used v=rUnused used v:=by
 unfold ruleW
 rw[rFold_n h1,rNeutral_f h2,rRegroup_n h3,rSame_f h4,rDouble_f h5,rNever_f h6,rNext_f h7,rDead_f h8]
 try rfl
end
end Go.Stele
namespace Go.Stele
open Go.Lib
def pieces (c:UInt8):List UInt8→List (List UInt8)
 |[]=>[[]]
 |d::r=>if d=c then []::pieces c r else match pieces c r with
  |p::ps=>(d::p)::ps
  |[]=>[[d]]
theorem pieces_ne (c:UInt8):∀ s,∃ p ps,pieces c s=p::ps
 |[]=>⟨_,_,rfl⟩
 |d::r=>by
  obtain ⟨p,ps,h⟩:=pieces_ne c r
  rw[pieces,h]
  split
  ·exact ⟨_,_,rfl⟩
  ·exact ⟨_,_,rfl⟩
theorem pieces_hit (c:UInt8) (r:List UInt8):pieces c (c::r)=[]::pieces c r:=by rw[pieces,if_pos rfl]
theorem pieces_miss {c d:UInt8} (h:d≠c) (r:List UInt8):∃ p ps,pieces c r=p::ps∧pieces c (d::r)=(d::p)::ps:=by
 obtain ⟨p,ps,hp⟩:=pieces_ne c r
 exact ⟨p,ps,hp,by rw[pieces,if_neg h,hp]⟩
theorem pieces_one {c:UInt8}:∀ {s:List UInt8},c ∉ s→pieces c s=[s]
 |[],_=>rfl
 |d::r,h=>by
  have hd:d≠c:=fun e=>h (by rw[e];exact List.mem_cons_self ..)
  have hr:c ∉ r:=fun e=>h (zMo _ e)
  rw[pieces,if_neg hd,pieces_one hr]
theorem pieces_cut {c:UInt8}:∀ {a b:List UInt8},c ∉ a→pieces c (a++c::b)=a::pieces c b
 |[],b,_=>pieces_hit c b
 |d::a,b,h=>by
  have hd:d≠c:=fun e=>h (by rw[e];exact List.mem_cons_self ..)
  have ha:c ∉ a:=fun e=>h (zMo _ e)
  rw[List.cons_append,pieces,if_neg hd,pieces_cut ha]
/-! ### The library's words for it -/
theorem index_miss {c:UInt8}:∀ {s:List UInt8},c ∉ s→index s [c] = -1
 |[],_=>rfl
 |d::r,h=>by
  have hd:¬ c=d:=fun e=>h (by rw[e];exact List.mem_cons_self ..)
  have hr:c ∉ r:=fun e=>h (zMo _ e)
  have hp:([c]:List UInt8).isPrefixOf (d::r)=false:=by simp[List.isPrefixOf,hd]
  rw[index,hp,index_miss hr]
  try rfl
theorem index_hit {c:UInt8}:∀ {a b:List UInt8},c ∉ a→index (a++c::b) [c]=(a.length:Int)
 |[],b,_=>by
  have hp:([c]:List UInt8).isPrefixOf (c::b)=true:=by simp[List.isPrefixOf]
  rw[List.nil_append,index,hp]
  try rfl
 |d::a,b,h=>by
  have hd:¬ c=d:=fun e=>h (by rw[e];exact List.mem_cons_self ..)
  have ha:c ∉ a:=fun e=>h (zMo _ e)
  have hp:([c]:List UInt8).isPrefixOf (d::(a++c::b))=false:=by simp[List.isPrefixOf,hd]
  rw[List.cons_append,index,hp,index_hit ha,if_neg zDd,if_neg (by
   intro h
   have:=eq_of_beq h
   omega)]
  simp
theorem first_cut {c:UInt8} {s:List UInt8} (h:c∈s):∃ a b,s=a++c::b∧c ∉ a:=List.eq_append_cons_of_mem h
theorem cut_one (c:UInt8) (s:List UInt8):(cut s [c]).1=s.takeWhile (fun d=>decide (d≠c)):=by
 by_cases h:c∈s
 ·obtain ⟨a,b,rfl,ha⟩:=first_cut h
  have h1:∀ x∈a,decide (x≠c)=true:=fun x hx=>by
   simp only[zDe]
   rintro rfl
   exact ha hx
  rw[cut,index_hit ha,if_pos (by omega),List.takeWhile_append_of_pos h1,List.takeWhile_cons_of_neg (by simp)]
  simp
 ·have h1:∀ x∈s,decide (x≠c)=true:=fun x hx=>by
   simp only[zDe]
   rintro rfl
   exact h hx
  rw[cut,index_miss h,if_neg zDd]
  have:=List.takeWhile_append_of_pos (l₂:=[]) h1
  simpa using this.symm
theorem countFrom_one (c:UInt8):∀ (f:Nat) (s:List UInt8),s.length<f→countFrom [c] f s=s.count c
 |0,s,h=>by omega
 |f+1,s,h=>by
  rw[countFrom]
  by_cases hc:c∈s
  ·obtain ⟨a,b,rfl,ha⟩:=first_cut hc
   rw[index_hit ha,if_neg (by
    intro h
    have:=eq_of_beq h
    omega)]
   have hd:(a++c::b).drop ((a.length:Int).toNat+[c].length)=b:=by
    rw[show (a.length:Int).toNat+[c].length=a.length+1 by simp]
    rw[←List.drop_drop,List.drop_left]
    try rfl
   rw[hd,countFrom_one c f b (by simp only[zLa,zLc] at h;omega)]
   rw[List.count_append,List.count_cons_self,List.count_eq_zero.2 ha]
   omega
  ·rw[index_miss hc,if_pos zDd,List.count_eq_zero.2 hc]
theorem splitK_one (c:UInt8):∀ (k:Nat) (s:List UInt8),s.count c≤k→splitK [c] 0 k s=pieces c s
 |0,s,h=>by
  have hc:c ∉ s:=List.count_eq_zero.1 (by omega)
  rw[splitK,pieces_one hc]
 |k+1,s,h=>by
  rw[splitK]
  by_cases hc:c∈s
  ·obtain ⟨a,b,rfl,ha⟩:=first_cut hc
   rw[index_hit ha,if_neg (by
    intro h
    have:=eq_of_beq h
    omega),pieces_cut ha]
   have hd:(a++c::b).drop ((a.length:Int).toNat+[c].length)=b:=by
    rw[show (a.length:Int).toNat+[c].length=a.length+1 by simp]
    rw[←List.drop_drop,List.drop_left]
    try rfl
   rw[hd,show (a.length:Int).toNat+0=a.length by simp,List.take_left,splitK_one c k b (by
    rw[List.count_append,List.count_cons_self] at h
    omega)]
  ·rw[index_miss hc,if_pos zDd,pieces_one hc]
theorem split_one (c:UInt8) (s:List UInt8):split s [c]=pieces c s:=by
 rw[split,count,splitK_one c _ s (by rw[countFrom_one c _ s (by omega)];exact zNr _)]
/-! ### Words -/
def full (l:List (List UInt8)):List Wd:=l.filter fun w=>decide (w≠[])
def lineW (s:List UInt8):List Wd:=full (pieces 32 (s.takeWhile fun d=>decide (d≠35)))
def wordsP (s:List UInt8):List Wd:=(pieces 10 s).flatMap lineW
def flush (cur:List UInt8):List Wd:=if cur=[] then [] else [cur]
def scanW:List UInt8→Bool→List UInt8→List Wd
 |cur,_,[]=>flush cur
 |cur,com,c::r=>
  if c=10 then flush cur++scanW [] false r
  else if com=true then scanW cur true r
  else if c=35 then flush cur++scanW [] true r
  else if c=32 then flush cur++scanW [] false r
  else scanW (cur++[c]) false r
def restW (cur:List UInt8) (com:Bool) (l:List UInt8):List Wd:=if com=true then flush cur else lineW (cur++l)
theorem full_app (a b:List (List UInt8)):full (a++b)=full a++full b:=List.filter_append ..
theorem full_one (a:List UInt8):full [a]=flush a:=by
 unfold full flush
 by_cases h:a=[] <;> simp[h]
def Plain (cur:List UInt8):Prop:=∀ c∈cur,c≠10∧c≠32∧c≠35
theorem line_stop {cur:List UInt8} (h:Plain cur) (l:List UInt8):lineW (cur++35::l)=flush cur:=by
 have h1:∀ x∈cur,decide (x≠35)=true:=fun x hx=>by simp only[zDe];exact (h x hx).2.2
 have h2:(32:UInt8) ∉ cur:=fun hx=>(h 32 hx).2.1 rfl
 unfold lineW
 rw[List.takeWhile_append_of_pos h1,List.takeWhile_cons_of_neg (by simp),zLz,pieces_one h2,full_one]
theorem line_end {cur:List UInt8} (h:Plain cur):lineW cur=flush cur:=by
 have h1:∀ x∈cur,decide (x≠35)=true:=fun x hx=>by simp only[zDe];exact (h x hx).2.2
 have h2:(32:UInt8) ∉ cur:=fun hx=>(h 32 hx).2.1 rfl
 have h3:=List.takeWhile_append_of_pos (l₂:=[]) h1
 rw[zLz,List.takeWhile_nil,zLz] at h3
 unfold lineW
 rw[h3,pieces_one h2,full_one]
theorem line_space {cur:List UInt8} (h:Plain cur) (l:List UInt8):lineW (cur++32::l)=flush cur++lineW l:=by
 have h1:∀ x∈cur,decide (x≠35)=true:=fun x hx=>by simp only[zDe];exact (h x hx).2.2
 have h2:(32:UInt8) ∉ cur:=fun hx=>(h 32 hx).2.1 rfl
 unfold lineW
 rw[List.takeWhile_append_of_pos h1,List.takeWhile_cons_of_pos zDd,pieces_cut h2,←List.singleton_append,full_app,full_one]
theorem scan_eq:∀ (s cur:List UInt8) (com:Bool) (p:List UInt8) (ps:List (List UInt8)),Plain cur→(com=true→cur=[])→pieces 10 s=p::ps→scanW cur com s=restW cur com p++ps.flatMap lineW
 |[],cur,com,p,ps,hc,hcom,hp=>by
  cases hp
  rw[scanW,restW]
  cases com with
  |true=>simp
  |false=>simp[line_end hc]
 |c::r,cur,com,p,ps,hc,hcom,hp=>by
  obtain ⟨q,qs,hq⟩:=pieces_ne 10 r
  rw[scanW]
  by_cases h10:c=10
  ·subst h10
   rw[pieces_hit,hq] at hp
   cases hp
   rw[if_pos rfl,scan_eq r [] false q qs (fun x hx=>by cases hx) (by simp) hq]
   have:restW cur com []=flush cur:=by
    unfold restW
    cases com with
    |true=>rfl
    |false=>rw[if_neg zDd,zLz,line_end hc]
   rw[this]
   simp[restW]
  ·clear hq
   obtain ⟨q,qs,hq,hp'⟩:=pieces_miss h10 r
   rw[hp'] at hp
   cases hp
   rw[if_neg h10]
   cases com with
   |true=>
    obtain rfl:=hcom rfl
    rw[if_pos rfl,scan_eq r [] true q ps (fun x hx=>by cases hx) (fun _=>rfl) hq]
    simp[restW]
   |false=>
    rw[if_neg zDd]
    by_cases h35:c=35
    ·subst h35
     rw[if_pos rfl,scan_eq r [] true q ps (fun x hx=>by cases hx) (fun _=>rfl) hq]
     have:restW cur false (35::q)=flush cur:=by unfold restW;rw[if_neg zDd,line_stop hc]
     rw[this]
     simp[restW,flush]
    ·rw[if_neg h35]
     by_cases h32:c=32
     ·subst h32
      rw[if_pos rfl,scan_eq r [] false q ps (fun x hx=>by cases hx) (by simp) hq]
      have:restW cur false (32::q)=flush cur++lineW q:=by unfold restW;rw[if_neg zDd,line_space hc]
      rw[this,zAs]
      simp[restW]
     ·rw[if_neg h32,scan_eq r (cur++[c]) false q ps (fun x hx=>by
       rcases List.mem_append.1 hx with h|h
       ·exact hc x h
       ·obtain rfl:=List.mem_singleton.1 h
        exact ⟨h10,h32,h35⟩) (by simp) hq]
      simp[restW]
theorem scan_words (s:List UInt8):scanW [] false s=wordsP s:=by
 obtain ⟨p,ps,hp⟩:=pieces_ne 10 s
 rw[scan_eq s [] false p ps (fun x hx=>by cases hx) (by simp) hp]
 unfold wordsP
 rw[hp]
 simp[restW]
end Go.Stele
namespace Go.Stele
open Go.Lib
theorem onceF_or (used:Wd→Bool):∀ (f:Nat) (l:List Wd),l.length≤f→onceF used f l=l∨(onceF used f l).length<l.length
 |0,l,h=>by
  have:l=[]:=List.eq_nil_of_length_eq_zero (by omega)
  subst this
  exact .inl rfl
 |f+1,[],_=>.inl rfl
 |f+1,w::r,h=>by
  rw[onceF]
  split
  ·rcases onceF_or used f r (by simp only[zLc] at h;omega) with h1|h1
   ·rw[h1];exact .inl rfl
   ·right
    simp only[zLc]
    omega
  ·rename_i h0
   obtain ⟨h1,h2⟩:=rule_ok used (w::r) h0
   have:=onceF_len used f ((w::r).drop (ruleW used (w::r)).1)
   rw[List.length_drop] at this
   right
   rw[zLa]
   omega
theorem onceP_or (l:List Wd):onceP l=l∨(onceP l).length<l.length:=onceF_or _ _ l (zNr _)
def optF:Nat→List Wd→List Wd
 |0,l=>l
 |f+1,l=>if onceP l=l then l else optF f (onceP l)
def optP (l:List Wd):List Wd:=optF l.length l
theorem optF_fuel:∀ (f g:Nat) (l:List Wd),l.length≤f→l.length≤g→optF f l=optF g l
 |0,0,_,_,_=>rfl
 |0,g+1,l,h,_=>by
  have:l=[]:=List.eq_nil_of_length_eq_zero (by omega)
  subst this
  rw[optF,optF,if_pos (by rfl)]
 |f+1,0,l,_,h=>by
  have:l=[]:=List.eq_nil_of_length_eq_zero (by omega)
  subst this
  rw[optF,optF,if_pos (by rfl)]
 |f+1,g+1,l,h1,h2=>by
  rw[optF,optF]
  split
  ·rfl
  ·rename_i h
   rcases onceP_or l with h3|h3
   ·exact absurd h3 h
   ·exact optF_fuel f g (onceP l) (by omega) (by omega)
theorem optP_eq {l:List Wd} (h:onceP l=l):optP l=l:=by
 unfold optP
 cases l with
 |nil=>rfl
 |cons w r=>rw[zLc,optF,if_pos h]
theorem optP_step {l:List Wd} (h:onceP l≠l):optP l=optP (onceP l):=by
 rcases onceP_or l with h3|h3
 ·exact absurd h3 h
 ·have h4:∃ k,l.length=k+1:=⟨l.length-1,by omega⟩
  obtain ⟨k,hk⟩:=h4
  unfold optP
  rw[hk,optF,if_neg h]
  exact optF_fuel _ _ _ (by omega) (zNr _)
/-! ### What holds of all words goes on holding -/
theorem wdAt_mem {v:List Wd} {i:Nat} (h:i<v.length):wdAt v i∈v:=by
 unfold wdAt
 rw[List.getElem?_eq_getElem h]
 exact List.getElem_mem h
theorem joined_dec {x op y s:Wd} (h:joinedW x op y=some s):∃ c,c<4294967296∧s=decDigits c:=by
 unfold joinedW at h
 split at h
 ·rename_i a b ha hb
  split at h
  ·rename_i c hc
   split at h
   ·cases h
    exact ⟨c,comp_lt (numW_lt ha) (numW_lt hb) hc,rfl⟩
   ·cases h
  ·cases h
 ·cases h
theorem rule_all {P:Wd→Prop} (hd:∀ n,n<4294967296→P (decDigits n)) (used:Wd→Bool) (v:List Wd) (hv:∀ w∈v,P w):∀ w∈(ruleW used v).2,P w:=by
 have none:∀ n:Nat,∀ w∈((n,[]):RuleW).2,P w:=fun _ w hw=>by cases hw
 by_cases h1:∃ s,dFold v=some s
 ·obtain ⟨s,h1⟩:=h1
  rw[rule1 h1]
  obtain ⟨c,hc,rfl⟩:=joined_dec h1
  intro w hw
  rcases List.mem_singleton.1 hw with rfl
  exact hd c hc
 have h1:dFold v=Option.none:=by
  cases h:dFold v with
  |none=>rfl
  |some s=>exact absurd ⟨s,h⟩ h1
 by_cases h2:cNeutral v
 ·rw[rule2 h1 h2];exact none _
 by_cases h3:cRegroup v∧∃ s,dRegroup v=some s
 ·obtain ⟨h3,s,h4⟩:=h3
  rw[rule3 h1 h2 h3 h4]
  obtain ⟨c,hc,rfl⟩:=joined_dec h4
  have h5:=wdAt_lt (joined_ne h4).2.1
  intro w hw
  simp only[zMi,List.not_mem_nil,or_false] at hw
  rcases hw with rfl|rfl
  ·exact hd c hc
  ·exact hv _ (wdAt_mem h5)
 have h3:¬ cRegroup v∨dRegroup v=Option.none:=by
  by_cases hc:cRegroup v
  ·right
   cases h:dRegroup v with
   |none=>rfl
   |some s=>exact absurd ⟨hc,s,h⟩ h3
  ·exact .inl hc
 by_cases h4:cSame v
 ·rw[rule4 h1 h2 h3 h4];exact none _
 by_cases h5:cDouble v
 ·rw[rule5 h1 h2 h3 h4 h5]
  obtain ⟨l,hl⟩:=Option.isSome_iff_exists.1 h5.1
  have h6:=jumpW_lt hl
  intro w hw
  simp only[zMi,List.not_mem_nil,or_false] at hw
  rcases hw with rfl|rfl
  ·exact hv _ (wdAt_mem (by omega))
  ·exact hv _ (wdAt_mem (by omega))
 cases h6:cNever v with
 |true=>rw[rule6 h1 h2 h3 h4 h5 h6];exact none _
 |false=>
  cases h7:cNext v with
  |true=>rw[rule7 h1 h2 h3 h4 h5 h6 h7];exact none _
  |false=>
   by_cases h8:cDead v
   ·rw[rule8 h1 h2 h3 h4 h5 h6 h7 h8]
    exact fun w hw=>hv w (List.mem_of_mem_take hw)
   ·rw[rule9 h1 h2 h3 h4 h5 h6 h7 h8]
    unfold rUnused
    split
    ·split <;> exact none _
    ·exact none _
theorem onceF_all {P:Wd→Prop} (hd:∀ n,n<4294967296→P (decDigits n)) (used:Wd→Bool):∀ (f:Nat) (l:List Wd),(∀ w∈l,P w)→∀ w∈onceF used f l,P w
 |0,_,_=>fun w hw=>by cases hw
 |f+1,[],_=>fun w hw=>by cases hw
 |f+1,a::r,hl=>by
  rw[onceF]
  split
  ·intro w hw
   rcases zMi.1 hw with rfl|hw
   ·exact hl _ zMs
   ·exact onceF_all hd used f r (fun x hx=>hl x (zMo _ hx)) w hw
  ·intro w hw
   rcases List.mem_append.1 hw with hw|hw
   ·exact rule_all hd used (a::r) hl w hw
   ·exact onceF_all hd used f _ (fun x hx=>hl x (List.mem_of_mem_drop hx)) w hw
/-! ### Words joined and cut again -/
def CleanW (w:Wd):Prop:=w≠[]∧Plain w
theorem dec_clean (n:Nat):CleanW (decDigits n):=⟨decDigits_ne n,fun c hc=>by
 have:=dec_digits n c hc
 refine ⟨?_,?_,?_⟩ <;> (rintro rfl;exact absurd this zDd)⟩
theorem pieces_clean {c:UInt8} {l:List UInt8}:∀ p∈pieces c l,c ∉ p∧∀ x∈p,x∈l:=by
 induction l with
 |nil=>
  intro p hp
  obtain rfl:=List.mem_singleton.1 hp
  exact ⟨by simp,by simp⟩
 |cons d r ih=>
  intro p hp
  by_cases h:d=c
  ·subst h
   rw[pieces_hit] at hp
   rcases zMi.1 hp with rfl|hp
   ·exact ⟨by simp,by simp⟩
   ·exact ⟨(ih p hp).1,fun x hx=>zMo _ ((ih p hp).2 x hx)⟩
  ·obtain ⟨q,qs,h1,h2⟩:=pieces_miss h r
   rw[h2] at hp
   rw[h1] at ih
   rcases zMi.1 hp with rfl|hp
   ·have:=ih q zMs
    refine ⟨fun hm=>?_,fun x hx=>?_⟩
    ·rcases zMi.1 hm with e|hm
     ·exact h e.symm
     ·exact this.1 hm
    ·rcases zMi.1 hx with rfl|hx
     ·exact List.mem_cons_self ..
     ·exact zMo _ (this.2 x hx)
   ·have:=ih p (zMo _ hp)
    exact ⟨this.1,fun x hx=>zMo _ (this.2 x hx)⟩
theorem lineW_clean {l:List UInt8} (h:(10:UInt8) ∉ l):∀ w∈lineW l,CleanW w:=by
 intro w hw
 obtain ⟨h1,h2⟩:=List.mem_filter.1 hw
 obtain ⟨h3,h4⟩:=pieces_clean w h1
 refine ⟨of_decide_eq_true h2,fun c hc=>⟨?_,?_,?_⟩⟩
 ·rintro rfl
  exact h ((List.takeWhile_prefix _).subset (h4 _ hc))
 ·rintro rfl
  exact h3 hc
 ·rintro rfl
  have:∀ (l:List UInt8),(35:UInt8) ∉ l.takeWhile fun d=>decide (d≠35):=by
   intro l
   induction l with
   |nil=>simp
   |cons d r ih=>
    rw[List.takeWhile_cons]
    split
    ·rename_i hd
     intro hm
     rcases zMi.1 hm with e|hm
     ·rw[←e] at hd;simp at hd
     ·exact ih hm
    ·simp
  exact this _ (h4 _ hc)
theorem wordsP_clean (s:List UInt8):∀ w∈wordsP s,CleanW w:=by
 intro w hw
 obtain ⟨p,hp,hw⟩:=List.mem_flatMap.1 hw
 exact lineW_clean (pieces_clean p hp).1 w hw
theorem join_two' (x y:Wd) (r:List Wd):join (x::y::r) [32]=x++32::join (y::r) [32]:=by simp[join]
theorem join_noNl:∀ (l:List Wd),(∀ w∈l,CleanW w)→(10:UInt8) ∉ join l [32]
 |[],_=>by simp[join]
 |[a],h=>by
  rw[join_one]
  exact fun hm=>((h a zMs).2 10 hm).1 rfl
 |a::b::r,h=>by
  rw[join_two']
  intro hm
  rcases List.mem_append.1 hm with hm|hm
  ·exact ((h a zMs).2 10 hm).1 rfl
  ·rcases zMi.1 hm with e|hm
   ·exact absurd e zDd
   ·exact join_noNl (b::r) (fun x hx=>h x (zMo _ hx)) hm
theorem line_join:∀ (l:List Wd),(∀ w∈l,CleanW w)→lineW (join l [32])=l
 |[],_=>rfl
 |[a],h=>by
  obtain ⟨h1,h2⟩:=h a zMs
  rw[join_one,line_end h2]
  simp[flush,h1]
 |a::b::r,h=>by
  obtain ⟨h1,h2⟩:=h a zMs
  rw[join_two',line_space h2,line_join (b::r) fun x hx=>h x (zMo _ hx)]
  simp[flush,h1]
theorem words_join {l:List Wd} (h:∀ w∈l,CleanW w):wordsP (join l [32])=l:=by
 unfold wordsP
 rw[pieces_one (join_noNl l h)]
 simp[line_join l h]
theorem join_inj {a b:List Wd} (ha:∀ w∈a,CleanW w) (hb:∀ w∈b,CleanW w) (h:join a [32]=join b [32]):a=b:=by
 rw[←words_join ha,←words_join hb,h]
theorem once_clean {l:List Wd} (h:∀ w∈l,CleanW w):∀ w∈onceP l,CleanW w:=onceF_all (fun n _=>dec_clean n) _ _ l h
def optimizeP (s:List UInt8):List UInt8×Int:=if 400000<s.length then ([],6) else (join (optP (wordsP s)) [32],0)
/-! ### The text does not grow -/
def tot (l:List Wd):Nat:=(l.map fun w=>w.length+1).sum
theorem tot_cons (w:Wd) (l:List Wd):tot (w::l)=w.length+1+tot l:=by simp[tot]
theorem tot_nil:tot []=0:=rfl
theorem tot_app (a b:List Wd):tot (a++b)=tot a+tot b:=by simp[tot]
theorem tot_split (l:List Wd) (n:Nat):tot l=tot (l.take n)+tot (l.drop n):=by rw[←tot_app,List.take_append_drop]
theorem join_tot:∀ l:List Wd,(join l [32]).length≤tot l
 |[]=>Nat.zero_le _
 |[a]=>by
  rw[join_one,tot_cons]
  omega
 |a::b::r=>by
  have:=join_tot (b::r)
  rw[join_two',tot_cons]
  simp only[zLa,zLc]
  omega
theorem joined_len {x op y s:Wd} (h:joinedW x op y=some s):s.length≤x.length+y.length+1:=by
 unfold joinedW at h
 split at h
 ·split at h
  ·split at h
   ·rename_i hle
    cases h
    exact hle
   ·cases h
  ·cases h
 ·cases h
theorem rule_tot (used:Wd→Bool) (v:List Wd):tot (ruleW used v).2≤tot (v.take (ruleW used v).1):=by
 by_cases h1:∃ s,dFold v=some s
 ·obtain ⟨s,h1⟩:=h1
  rw[rule1 h1]
  have hl:=joined_len h1
  have hlt:=wdAt_lt (joined_ne h1).2.1
  match v,hlt,hl with
  |a::b::c::r,_,hl=>
   simp only[wdAt,List.getElem?_cons_zero,List.getElem?_cons_succ,Option.getD_some] at hl
   simp only[List.take_succ_cons,List.take_zero,tot_cons,tot_nil]
   omega
 have h1:dFold v=Option.none:=by
  cases h:dFold v with
  |none=>rfl
  |some s=>exact absurd ⟨s,h⟩ h1
 by_cases h2:cNeutral v
 ·rw[rule2 h1 h2];exact Nat.zero_le _
 by_cases h3:cRegroup v∧∃ s,dRegroup v=some s
 ·obtain ⟨h3,s,h4⟩:=h3
  rw[rule3 h1 h2 h3 h4]
  have hl:=joined_len h4
  have h5:wdAt v 3≠[]:=by rw[h3.2];exact (joined_ne h4).2.1
  have hlt:=wdAt_lt h5
  match v,hlt,hl with
  |a::b::c::d::r,_,hl=>
   simp only[wdAt,List.getElem?_cons_zero,List.getElem?_cons_succ,Option.getD_some] at hl ⊢
   simp only[List.take_succ_cons,List.take_zero,tot_cons,tot_nil]
   omega
 have h3:¬ cRegroup v∨dRegroup v=Option.none:=by
  by_cases hc:cRegroup v
  ·right
   cases h:dRegroup v with
   |none=>rfl
   |some s=>exact absurd ⟨hc,s,h⟩ h3
  ·exact .inl hc
 by_cases h4:cSame v
 ·rw[rule4 h1 h2 h3 h4];exact Nat.zero_le _
 by_cases h5:cDouble v
 ·rw[rule5 h1 h2 h3 h4 h5]
  obtain ⟨l,hl⟩:=Option.isSome_iff_exists.1 h5.1
  have h6:=jumpW_lt hl
  match v,h6 with
  |a::b::c::d::e::f::r,_=>
   simp only[wdAt,List.getElem?_cons_zero,List.getElem?_cons_succ,Option.getD_some]
   simp only[List.take_succ_cons,List.take_zero,tot_cons,tot_nil]
   omega
 cases h6:cNever v with
 |true=>rw[rule6 h1 h2 h3 h4 h5 h6];exact Nat.zero_le _
 |false=>
  cases h7:cNext v with
  |true=>rw[rule7 h1 h2 h3 h4 h5 h6 h7];exact Nat.zero_le _
  |false=>
   by_cases h8:cDead v
   ·rw[rule8 h1 h2 h3 h4 h5 h6 h7 h8]
    simp only
    have:=tot_split (v.take (stopW v+deadLen (v.drop (stopW v)))) (stopW v)
    rw[List.take_take,Nat.min_eq_left (by omega)] at this
    omega
   ·rw[rule9 h1 h2 h3 h4 h5 h6 h7 h8]
    unfold rUnused
    split
    ·split <;> exact Nat.zero_le _
    ·exact Nat.zero_le _
theorem onceF_tot (used:Wd→Bool):∀ (f:Nat) (l:List Wd),tot (onceF used f l)≤tot l
 |0,_=>Nat.zero_le _
 |f+1,[]=>zNr _
 |f+1,a::r=>by
  rw[onceF]
  split
  ·rw[tot_cons,tot_cons]
   have:=onceF_tot used f r
   omega
  ·have h1:=rule_tot used (a::r)
   have h2:=onceF_tot used f ((a::r).drop (ruleW used (a::r)).1)
   have h3:=tot_split (a::r) (ruleW used (a::r)).1
   rw[tot_app]
   omega
theorem optF_tot:∀ (f:Nat) (l:List Wd),tot (optF f l)≤tot l
 |0,l=>zNr _
 |f+1,l=>by
  rw[optF]
  split
  ·exact zNr _
  ·exact zNt (optF_tot f _) (onceF_tot _ _ l)
theorem scan_tot:∀ (s cur:List UInt8) (com:Bool),tot (scanW cur com s)≤cur.length+s.length+1
 |[],cur,com=>by
  rw[scanW]
  unfold flush
  split
  ·exact Nat.zero_le _
  ·simp[tot]
 |c::r,cur,com=>by
  have hf:tot (flush cur)≤cur.length+1:=by
   unfold flush
   split
   ·exact Nat.zero_le _
   ·simp[tot]
  rw[scanW]
  simp only[zLc]
  split
  ·have:=scan_tot r [] false
   rw[tot_app]
   simp only[zLn] at this
   omega
  split
  ·have:=scan_tot r cur true
   omega
  split
  ·have:=scan_tot r [] true
   rw[tot_app]
   simp only[zLn] at this
   omega
  split
  ·have:=scan_tot r [] false
   rw[tot_app]
   simp only[zLn] at this
   omega
  ·have:=scan_tot r (cur++[c]) false
   rw[zLa,List.length_singleton] at this
   omega
theorem words_tot (s:List UInt8):tot (wordsP s)≤s.length+1:=by
 rw[←scan_words]
 have:=scan_tot s [] false
 simpa using this
theorem opt_size (s:List UInt8):(join (optP (wordsP s)) [32]).length≤s.length+1:=
 zNt (join_tot _) (zNt (optF_tot _ _) (words_tot s))
end Go.Stele
namespace Go.Stele
open Go.Lib
/-! ### Numbers, digit by digit -/
/-! ### Labels -/
theorem nameW_eq (c:UInt8) (r:List UInt8):nameW (c::r)=(decide ((c::r).length≤40) && isLetter c && (c::r).all isInner):=rfl
theorem nameW_ne {s:Wd} (h:nameW s=true):s≠[]:=by
 rintro rfl
 cases h
/-! ### The words of assembly, with their lines -/
def toksN:Nat→List (List UInt8)→List (Wd×Nat)
 |_,[]=>[]
 |n,l::r=>(lineW l).map (fun w=>(w,n+1))++toksN (n+1) r
def toksP (s:List UInt8):List (Wd×Nat):=toksN 0 (pieces 10 s)
theorem toksN_fst:∀ (l:List (List UInt8)) (n:Nat),(toksN n l).map (·.1)=l.flatMap lineW
 |[],_=>rfl
 |a::r,n=>by
  rw[toksN,zMa,List.map_map,toksN_fst r]
  simp[Function.comp_def]
theorem toksP_fst (s:List UInt8):(toksP s).map (·.1)=wordsP s:=toksN_fst _ 0
theorem toksN_drop {l:List (List UInt8)} {i:Nat} (h:i<l.length) (n:Nat):toksN n (l.drop i)=(lineW l[i]).map (fun w=>(w,n+1))++toksN (n+1) (l.drop (i+1)):=by
 rw[List.drop_eq_getElem_cons h,toksN]
theorem full_drop {l:List (List UInt8)} {i:Nat} (h:i<l.length):full (l.drop i)=if l[i]=[] then full (l.drop (i+1)) else l[i]::full (l.drop (i+1)):=by
 rw[List.drop_eq_getElem_cons h]
 unfold full
 rw[List.filter_cons]
 by_cases hc:l[i]=[]
 ·simp[hc]
 ·simp[hc]
theorem pieces_len (c:UInt8):∀ s,(pieces c s).length≤s.length+1
 |[]=>by simp[pieces]
 |d::r=>by
  have:=pieces_len c r
  by_cases h:d=c
  ·subst h
   rw[pieces_hit]
   simp only[zLc]
   omega
  ·obtain ⟨p,ps,h1,h2⟩:=pieces_miss h r
   rw[h2]
   rw[h1] at this
   simp only[zLc] at this ⊢
   omega
theorem pieces_mem_len {c:UInt8}:∀ {s p:List UInt8},p∈pieces c s→p.length≤s.length
 |[],p,h=>by
  obtain rfl:=List.mem_singleton.1 h
  exact zNr _
 |d::r,p,h=>by
  by_cases hd:d=c
  ·subst hd
   rw[pieces_hit] at h
   rcases zMi.1 h with rfl|h
   ·exact Nat.zero_le _
   ·have:=pieces_mem_len h
    simp only[zLc]
    omega
  ·obtain ⟨q,qs,h1,h2⟩:=pieces_miss hd r
   rw[h2] at h
   rcases zMi.1 h with rfl|h
   ·have:=pieces_mem_len (c:=c) (s:=r) (p:=q) (by rw[h1];exact List.mem_cons_self ..)
    simp only[zLc]
    omega
   ·have:=pieces_mem_len (c:=c) (s:=r) (p:=p) (by rw[h1];exact zMo _ h)
    simp only[zLc]
    omega
theorem wordsP_len (s:List UInt8):(wordsP s).length≤s.length+1:=by
 have h1:=words_tot s
 have h2:(wordsP s).length≤tot (wordsP s):=by
  unfold tot
  generalize wordsP s=l
  induction l with
  |nil=>exact zNr _
  |cons a l ih=>
   simp only[zLc,zMc,List.sum_cons]
   omega
 omega
theorem tot_mem {l:List Wd} {w:Wd} (h:w∈l):w.length+1≤tot l:=by
 induction l with
 |nil=>cases h
 |cons a l ih=>
  rw[tot_cons]
  rcases zMi.1 h with rfl|h
  ·omega
  ·have:=ih h
   omega
theorem tot_len (l:List Wd):l.length≤tot l:=by
 induction l with
 |nil=>exact Nat.zero_le _
 |cons a l ih=>
  rw[tot_cons,zLc]
  omega
theorem onceP_tot (l:List Wd):tot (onceP l)≤tot l:=onceF_tot _ _ _
end Go.Stele
namespace Go.Stele
open Go.Lib
def codeSet:List UInt8:=[43,45,42,47,37,94,60,64,33,63,58,59,44,46,36,48,49,50,51,52,53,54,55,56,57]
def codeW (w:Wd):Bool:=w.all fun c=>codeSet.contains c
def defs (l:List Wd):List Wd:=l.filterMap defW
def OkW (ds:List Wd) (w:Wd):Prop:=match defW w with
 |some _=>True
 |none=>match refW w with
  |some d=>d∈ds
  |none=>codeW w=true
def AsmOk (l:List Wd):Prop:=(defs l).Nodup∧∀ w∈l,OkW (defs l) w
def firstD (w:Wd):Bool:=match w with
 |[]=>false
 |c::_=>isDigit c
def lastD (w:Wd):Bool:=match w.getLast? with
 |some c=>isDigit c
 |none=>false
def one (d:Bool):Nat:=if d=true then 1 else 0
def lenW:Bool→List Wd→Nat
 |_,[]=>0
 |d,w::r=>match defW w with
  |some _=>lenW d r
  |none=>match refW w with
   |some _=>one d+6+lenW true r
   |none=>one (d && firstD w)+w.length+lenW (lastD w) r
/-! ### Kinds of words -/
structure Num (w:Wd):Prop where
 d:defW w=none
 r:refW w=none
 f:firstD w=true
 l:lastD w=true
 n:1≤w.length
 c:codeW w=true
theorem code_digit {c:UInt8} (h:isDigit c=true):codeSet.contains c=true:=by
 have:∀ n:Nat,n<256→isDigit (UInt8.ofNat n)=true→codeSet.contains (UInt8.ofNat n)=true:=by decide +kernel
 have h1:=this c.toNat c.toNat_lt
 rw[UInt8.ofNat_toNat] at h1
 exact h1 h
theorem dec_num (n:Nat):Num (decDigits n):=by
 have hd:=dec_digits n
 have hne:=decDigits_ne n
 generalize decDigits n=w at hd hne
 cases w with
 |nil=>exact absurd rfl hne
 |cons c r=>
  have hc:=hd c zMs
  have hl:(c::r).getLast? = some ((c::r).getLast (by simp)):=List.getLast?_eq_some_getLast (by simp)
  have hlm:=hd _ (List.getLast_mem (l:=c::r) (by simp))
  refine ⟨?_,?_,hc,?_,by simp,?_⟩
  ·unfold defW
   rw[hl,if_neg]
   intro h
   rw[Option.some.inj h.1] at hlm
   exact absurd hlm zDd
  ·unfold refW
   simp only
   rw[if_neg]
   intro h
   rw[h.1] at hc
   exact absurd hc zDd
  ·unfold lastD
   rw[hl]
   exact hlm
  ·unfold codeW
   rw[List.all_eq_true]
   exact fun x hx=>code_digit (hd x hx)
theorem num_num {w:Wd} {n:Nat} (h:numW w=some n):Num w:=by
 rw[←((numW_iff w n).1 h).2]
 exact dec_num n
theorem ref_notdef {w d:Wd} (h:refW w=some d):defW w=none:=by
 unfold refW at h
 split at h
 ·cases h
 ·rename_i c r
  split at h
  ·rename_i hc
   obtain ⟨rfl,hn⟩:=hc
   unfold defW
   rw[if_neg]
   rintro ⟨_,h2⟩
   cases r with
   |nil=>cases hn
   |cons e r=>
    rw[List.dropLast_cons_of_ne_nil (by simp),nameW_eq] at h2
    have:isLetter 38=false:=by decide
    rw[this] at h2
    simp at h2
  ·cases h
/-! ### Lengths -/
theorem one_le (d:Bool):one d≤1:=by cases d <;> simp[one]
theorem defs_cons (w:Wd) (l:List Wd):defs (w::l)=(match defW w with|some d=>[d]|none=>[])++defs l:=by
 unfold defs
 rw[List.filterMap_cons]
 try cases defW w <;> rfl
theorem defs_none {w:Wd} (h:defW w=none) (l:List Wd):defs (w::l)=defs l:=by rw[defs_cons,h];try rfl
theorem defs_app (a b:List Wd):defs (a++b)=defs a++defs b:=List.filterMap_append
/-! ### A pass -/
end Go.Stele
