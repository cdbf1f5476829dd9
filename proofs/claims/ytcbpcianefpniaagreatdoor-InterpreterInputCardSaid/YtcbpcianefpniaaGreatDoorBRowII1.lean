/- Texts joined: GlDraw, GlRules, Types, GlCall, LexSpec2, Lex1, ParSpec2, ParEq, ParEnc, GlDraw2, GlAcc, GlMap, GlSet, GlKv, GlArith, GlRows, GlStr, InpSpec, InpPad. -/
import Derived.Test.YtcbpcianefpniaaGreatDoorProg
import Derived.Lib.ParseIntB
import Derived.Lib.ItoaNum
import Derived.Laws.IdiomStrings
import Derived.StillTail
import Derived.Lib.Builder
import Derived.Lib.AppendStr
import Derived.Test.YtcbpcianefpniaaGreatDoorBRowII0
set_option linter.unusedVariables false
set_option linter.unusedSimpArgs false
namespace Go.GL
open Go.RowKit
class TMixed (P:Program):Prop where
 out:P.follows .mixedOrders=true
def QC (C:Ctx) (w:World) (L:Live) (w':World):Prop:=∃ L',Fr (keys []) w L w' L' []∧RelH C w' L' []
theorem QC.agree {C:Ctx} {w w':World} {L:Live} {H:Heap} (h:QC C w L w') (hH:RelH C w L H):Agree w L H w':=
 let ⟨_,f,_⟩:=h
 ⟨fun p hp=>f.block p.1 (hH.objs p hp).2.1 (by simp),f.ext.live⟩
theorem RelH.empty {C:Ctx} {w:World} {L:Live} {H:Heap} (h:RelH C w L H):RelH C w L []:=h.sub (List.nil_sublist _)
def LQ (C:Ctx) (n:Nat) (ops:Array Oper) (K:Env→Prop) (rest:List Oper) (e:Env) (H:Heap):Prop:=
 ∀ a w L,RelE n a e w L→RelH C w L H→wpQuiet C.P ops (QC C w L) (fun a'=>∃ e',RelE n a' e' w L∧K e') rest a
section quiet
variable {C:Ctx} {n:Nat} {ops:Array Oper} {K:Env→Prop} {e:Env} {H:Heap} {dst:Option Nat} {op:Op} {ty:TypeId} {pos:String} {aft:Array Edge} {rest:List Oper}
theorem LQ.nil (h:K e):LQ C n ops K [] e H:=fun _ _ _ hE _=>⟨e,hE,h⟩
theorem wpQuiet_one {P:Program} {C:World→Prop} {Q:Act→Prop} {a:Act} {o:Oper} (hg:Region.wanted o (yielded ops a.tmps)=true) {v:Value} (h:∀ w',C w'→o.quietAt P a C w' v) (k:wpQuiet P ops C Q rest (a.put o.dst v)):wpQuiet P ops C Q (o::rest) a:=by
 unfold wpQuiet
 rw[if_pos hg]
 exact ⟨v,h,k⟩
theorem LQ.pure {lv:LV} (h:Pure C ⟨dst,op,ty,pos,aft,none⟩ e H lv) (hd:dstOk n dst) (k:LQ C n ops K rest (e.put dst lv) H):LQ C n ops K (⟨dst,op,ty,pos,aft,none⟩::rest) e H:=fun a w L hE hH=>by
 obtain ⟨v,hv,hr⟩:=h a.eval w L hE.ev hH
 refine wpQuiet_one (by simp[Region.wanted]) (v:=v) (fun w' hw'=>?_) (k _ w L (hE.put hd hv) hH)
 unfold Oper.quietAt
 rw[hr w' (hw'.agree hH)]
 exact ⟨rfl,rfl⟩
theorem LQ.want {j d:Nat} {b:Bool} (hj:(ops[j]?).bind (·.dst)=some d) (hb:e.s d=.atom (.bool b))
  (k:LQ C n ops K (⟨dst,op,ty,pos,aft,none⟩::rest) e H):LQ C n ops K (⟨dst,op,ty,pos,aft,some (j,b)⟩::rest) e H:=fun a w L hE hH=>by
 have:=k a w L hE hH
 unfold wpQuiet at this ⊢
 rw[if_pos (by simp[Region.wanted])] at this
 rw[if_pos (by simp[Region.wanted,yielded_env hE hj hb])]
 exact this
theorem LQ.skip {j d:Nat} {b c:Bool} (hj:(ops[j]?).bind (·.dst)=some d) (hb:e.s d=.atom (.bool b)) (hne:b=!c) (hd:dstOk n dst)
  (k:LQ C n ops K rest (e.put dst (.atom undef)) H):LQ C n ops K (⟨dst,op,ty,pos,aft,some (j,c)⟩::rest) e H:=fun a w L hE hH=>by
 unfold wpQuiet
 rw[if_neg (by subst hne;cases c <;> simp[Region.wanted,yielded_env hE hj hb])]
 exact k _ w L (hE.put hd rep_atom) hH
theorem LCode.quiet [hm:TMixed C.P] {id:Nat} {l:List Oper} {Q:Post} (hB:Region.lexB .any l.toArray=true) (h:LQ C n l.toArray (fun e'=>Q .normal e' H) l e H):LCode C n (.region id l.toArray true) Q e H:=fun a w L hE hH=>by
 refine wp_region_quiet (C:=QC C w L) hm.out hB ⟨L,⟨rfl,rfl,rfl,ext_drew w L,fun _ _ _=>rfl,fun _ _ _=>rfl,by simp⟩,hH.empty.drew⟩ ?_
 have hq:∀ a' w',QC C w L w'→(∃ e',RelE n a' e' w L∧Q .normal e' H)→lift C n w L (keys H) Q .normal a' w':=by
  rintro a' w' ⟨L',f1,f2⟩ ⟨e',h1,h2⟩
  have:=RelH.frame (H:=[]) (F:=H) (by simpa using hH) f1 f2
  exact ⟨e',H,L',by simpa using this.2,by simpa using this.1,h1.mono f1.ext,h2⟩
 have mono:∀ (l2:List Oper) (a:Act),wpQuiet C.P l.toArray (QC C w L) (fun a'=>∃ e',RelE n a' e' w L∧Q .normal e' H) l2 a→wpQuiet C.P l.toArray (QC C w L) (fun a'=>∀ w',QC C w L w'→lift C n w L (keys H) Q .normal a' w') l2 a:=by
  intro l2
  induction l2 with
  |nil=>exact fun a h w' hw'=>hq a w' hw' h
  |cons o l2 ih=>
   intro a h
   unfold wpQuiet at h ⊢
   split at h
   ·rename_i hw;rw[if_pos hw];exact Oper.quiet_mono ih h
   ·rename_i hw;rw[if_neg hw];exact ih _ h
 exact mono _ a (by simpa using h a w L hE hH)
end quiet
/-! ### Any order: what only computes or reads HF may be taken first -/
def LAny (C:Ctx) (n:Nat) (ops:Array Oper) (Q:Post) (HF:Heap) (fuel:Nat) (listed:Array Bool) (e:Env) (H:Heap):Prop:=
 ∀ a w L,RelE n a e w L→RelH C w L H→wpAnyH C.P .any ops (lift C n w L (keys H) Q) (Agree w L HF) fuel listed a w
def LLate (C:Ctx) (n:Nat) (ops:Array Oper) (Q:Post) (HF:Heap) (fuel:Nat) (listed:Array Bool) (e:Env) (H:Heap):Prop:=
 ∀ w0 L0 a w L,(∀ b,L0 b≤L b)→Agree w0 L0 HF w→(∀ p∈HF,p.1<w.heap.size)→RelE n a e w L→RelH C w L H→wpAnyH C.P .any ops (lift C n w L (keys H) Q) (Agree w0 L0 HF) fuel listed a w
theorem Agree.refl (w:World) (L:Live) (H:Heap):Agree w L H w:=⟨fun _ _=>rfl,fun _ _ _=>rfl⟩
theorem HSub.mem {H' H:Heap} (h:HSub H' H):∀ p∈H',p∈H:=fun _ hp=>
 let ⟨_,hG⟩:=h
 hG.mem_iff.2 (List.mem_append_left _ hp)
theorem wpAnyH_mono {P:Program} {md:Region.Mode} {ops:Array Oper} {Q Q':Exit→Act→World→Prop} {S:World→Prop} (h:∀ e a w,Q e a w→Q' e a w):∀ (fuel:Nat) (listed:Array Bool) (a:Act) (w:World),
  wpAnyH P md ops Q S fuel listed a w→wpAnyH P md ops Q' S fuel listed a w
 |0,_,_,_,k=>⟨k.1,h _ _ _ k.2⟩
 |fuel+1,listed,a,w,k=>by
  refine ⟨fun h0=>h _ _ _ (k.1 h0),fun i hi=>?_⟩
  have ki:=k.2 i hi
  unfold wpOp at ki ⊢
  split at ki
  ·exact ⟨ki.1,wpAnyH_mono h fuel _ _ _ ki.2⟩
  ·split at ki
   ·rename_i hw
    rw[if_pos hw]
    rcases ki with ki|⟨k1,a0,w0,k2⟩
    ·refine .inl ?_
     unfold Oper.wp at ki ⊢
     generalize (execOp _ _).run P w=r at ki ⊢
     cases r with
     |ok x w'=>
      cases x <;> simp only[Oper.upon] at ki ⊢ <;> first
       |exact ⟨ki.1,wpAnyH_mono h fuel _ _ _ ki.2⟩
       |(refine Calls.mono ki fun e w'' he=>?_;cases e with
         |returned v=>exact ⟨he.1,wpAnyH_mono h fuel _ _ _ he.2⟩
         |panicked ch=>exact h _ _ _ he
         |outgrown=>obtain ⟨a0,w0,he⟩:=he;exact ⟨a0,w0,h _ _ _ he⟩)
       |exact Rows.mono ki fun _ _ he=>⟨he.1,wpAnyH_mono h fuel _ _ _ he.2⟩
     |halt x w'=>cases x <;> simp only[Oper.upon] at ki ⊢ <;> exact h _ _ _ ki
    ·exact .inr ⟨k1,a0,w0,h _ _ _ k2⟩
   ·rename_i hw
    rw[if_neg hw]
    exact ⟨ki.1,wpAnyH_mono h fuel _ _ _ ki.2⟩
section any
variable {C:Ctx} {n:Nat} {ops:Array Oper} {Q:Post} {HF:Heap} {fuel:Nat} {listed:Array Bool} {e:Env} {H:Heap}
theorem lift_put {w:World} {L:Live} {K:List Nat} (dst:Option Nat) (v:Value):∀ c a w',lift C n w L K Q (.panic c) (a.put dst v) w'→lift C n w L K Q (.panic c) a w':=by
 rintro c a w' ⟨e',H',L',h1,h2,h3,h4⟩
 refine ⟨e',H',L',h1,h2,?_,h4⟩
 cases dst <;> exact h3
theorem wp_take {i:Nat} {dst:Option Nat} {op:Op} {ty:TypeId} {pos:String} {aft:Array Edge} {g:Option (Nat×Bool)} {lv:LV} {a:Act} {w:World} {L:Live} (hE:RelE n a e w L) (hH:RelH C w L H) (hHF:HSub HF H)
  (hi:ops[i]? = some ⟨dst,op,ty,pos,aft,g⟩) (hs:Region.noSelect ops=true) (hf:Region.free .any ops listed i=true) (hr:(Region.ready .any ops listed).contains i=true) (hd:dstOk n dst)
  (hp:Pure C ⟨dst,op,ty,pos,aft,g⟩ e HF lv) (hw:Region.wanted ⟨dst,op,ty,pos,aft,g⟩ (yielded ops a.tmps)=true)
  (k:LAny C n ops Q HF fuel (listed.setIfInBounds i true) (e.put dst lv) H):wpAnyH C.P .any ops (lift C n w L (keys H) Q) (Agree w L HF) (fuel+1) listed a w:=by
 obtain ⟨v,hv,hrun⟩:=hp a.eval w L hE.ev (hH.weak hHF)
 exact wpAnyH_take hi hs hf hr (lift_put _ _) (.inl ⟨hw,hrun⟩) (Agree.refl _ _ _) (k _ w L (hE.put hd hv) hH)
theorem LAny.take {i:Nat} {dst:Option Nat} {op:Op} {ty:TypeId} {pos:String} {aft:Array Edge} {lv:LV} (hHF:HSub HF H)
  (hi:ops[i]? = some ⟨dst,op,ty,pos,aft,none⟩) (hs:Region.noSelect ops=true) (hf:Region.free .any ops listed i=true) (hr:(Region.ready .any ops listed).contains i=true) (hd:dstOk n dst)
  (hp:Pure C ⟨dst,op,ty,pos,aft,none⟩ e HF lv) (k:LAny C n ops Q HF fuel (listed.setIfInBounds i true) (e.put dst lv) H):LAny C n ops Q HF (fuel+1) listed e H:=fun _ _ _ hE hH=>
 wp_take hE hH hHF hi hs hf hr hd hp (by simp[Region.wanted]) k
theorem LAny.takeWant {i j d:Nat} {b:Bool} {dst:Option Nat} {op:Op} {ty:TypeId} {pos:String} {aft:Array Edge} {lv:LV} (hHF:HSub HF H)
  (hi:ops[i]? = some ⟨dst,op,ty,pos,aft,some (j,b)⟩) (hj:(ops[j]?).bind (·.dst)=some d) (hb:e.s d=.atom (.bool b)) (hs:Region.noSelect ops=true) (hf:Region.free .any ops listed i=true) (hr:(Region.ready .any ops listed).contains i=true) (hd:dstOk n dst)
  (hp:Pure C ⟨dst,op,ty,pos,aft,some (j,b)⟩ e HF lv) (k:LAny C n ops Q HF fuel (listed.setIfInBounds i true) (e.put dst lv) H):LAny C n ops Q HF (fuel+1) listed e H:=fun _ _ _ hE hH=>
 wp_take hE hH hHF hi hs hf hr hd hp (by simp[Region.wanted,yielded_env hE hj hb]) k
theorem LAny.takeSkip {i j d:Nat} {b c:Bool} {dst:Option Nat} {op:Op} {ty:TypeId} {pos:String} {aft:Array Edge}
  (hi:ops[i]? = some ⟨dst,op,ty,pos,aft,some (j,c)⟩) (hj:(ops[j]?).bind (·.dst)=some d) (hb:e.s d=.atom (.bool b)) (hne:b=!c) (hs:Region.noSelect ops=true) (hf:Region.free .any ops listed i=true) (hr:(Region.ready .any ops listed).contains i=true) (hd:dstOk n dst)
  (k:LAny C n ops Q HF fuel (listed.setIfInBounds i true) (e.put dst (.atom undef)) H):LAny C n ops Q HF (fuel+1) listed e H:=fun a w L hE hH=>
 wpAnyH_take hi hs hf hr (lift_put _ _) (.inr ⟨by subst hne;cases c <;> simp[Region.wanted,yielded_env hE hj hb],rfl⟩) (Agree.refl _ _ _) (k _ w L (hE.put hd rep_atom) hH)
theorem LAny.late (h:LLate C n ops Q HF fuel listed e H) (hHF:HSub HF H):LAny C n ops Q HF fuel listed e H:=fun a w L hE hH=>
 h w L a w L (fun _=>Nat.le_refl _) (Agree.refl _ _ _) (fun p hp=>(hH.objs p (hHF.mem p hp)).2.1) hE hH
theorem lD (hr:Region.ready .any ops listed=[]) (h:Q .normal e H):LLate C n ops Q HF fuel listed e H:=fun _ _ _ _ L _ _ _ hE hH=>
 wpAnyH_done hr ⟨e,H,L,Fr.refl _ _ _,hH,hE,h⟩ fuel
theorem LCode.draw [hm:TMixed C.P] {id:Nat} {l:List Oper} {m:Nat} (hl:m=l.length) (HF:Heap) (h:LAny C n l.toArray Q HF m (Array.replicate m false) e H):LCode C n (.region id l.toArray true) Q e H:=fun a w L hE hH=>by
 subst hl
 have:=h a w.drew L (hE.mono (ext_drew w L)) hH.drew
 refine wp_region_held (S:=Agree w.drew L HF) hm.out ?_
 refine wpAnyH_mono (fun x a' w' hq=>?_) _ _ _ _ (by simpa using this)
 obtain ⟨e',H',L',h1,h2,h3,h4⟩:=hq
 exact ⟨e',H',L',h1.of_drew,h2,h3,h4⟩
end any
end Go.GL
namespace Go.GL
open Go.RowKit
section pure
variable {C:Ctx} {e:Env} {H:Heap} {dst:Option Nat} {ty:TypeId} {pos:String} {aft:Array Edge} {g:Option (Nat×Bool)} {x y c a b:Operand} {xT:TypeId} {k:IntKind} {lv:LV}
theorem Pure.mv (hx:e.ev x=lv):Pure C ⟨dst,.move x,ty,pos,aft,g⟩ e H lv:=hx▸Pure.move
theorem Pure.as (hx:e.ev x=lv):Pure C ⟨dst,.assign x,ty,pos,aft,g⟩ e H lv:=hx▸Pure.assign
theorem Pure.pickT (hc:e.ev c=bool true) (ha:e.ev a=lv):Pure C ⟨dst,.pick c a b,ty,pos,aft,g⟩ e H lv:=by
 have:=Pure.pick (C:=C) (H:=H) (dst:=dst) (ty:=ty) (pos:=pos) (aft:=aft) (g:=g) (a:=a) (b:=b) hc
 simp only[if_true] at this
 exact ha▸this
theorem Pure.pickF (hc:e.ev c=bool false) (hb:e.ev b=lv):Pure C ⟨dst,.pick c a b,ty,pos,aft,g⟩ e H lv:=by
 have:=Pure.pick (C:=C) (H:=H) (dst:=dst) (ty:=ty) (pos:=pos) (aft:=aft) (g:=g) (a:=a) (b:=b) hc
 simp only[Bool.false_eq_true,if_false] at this
 exact hb▸this
theorem Pure.ldRefAgg {t n:Nat} [TAgg C.P t n] {cs cs':List LV} (hx:e.ev x=.ref cs) (hn:Nat.ble n cs.length=true) (hc:cs.take n=cs'):Pure C ⟨dst,.load t x,ty,pos,aft,g⟩ e H (.agg cs'):=by
 subst hc;exact Pure.loadRefAgg hx (by simpa using hn)
theorem Pure.ldHAgg {t n:Nat} [TAgg C.P t n] {b off ty':Nat} {cs cs':List LV} (hx:e.ev x=ptr b off) (hm:(b,LObj.cells ty' cs)∈H) (hn:Nat.ble (off+n) cs.length=true) (hc:(cs.drop off).take n=cs') :
  Pure C ⟨dst,.load t x,ty,pos,aft,g⟩ e H (.agg cs'):=by
 subst hc;exact Pure.loadHAgg hx hm (by simpa using hn)
theorem xR {t el s:Nat} [ht:TSlice C.P t el s] {es:List LV} {n:Int} {el':LV} {cs:List LV} (hx:elems (e.ev x)=some es) (hy:e.ev y=int k n) (h0:0≤n) (hn:es[n.toNat]? = some el') (hc:el'.cells=cs) (hs:cs.length=s) :
  Pure C ⟨dst,.indexAddr t x y,ty,pos,aft,g⟩ e H (.ref cs):=by
 subst hc;exact Pure.indexAddr hx hy h0 hn hs
theorem Pure.field1 {s f n:Nat} [TField C.P s f n] {cs cs':List LV} (hx:e.ev x=.ref cs) (hc:cs.drop n=cs'):Pure C ⟨dst,.fieldAddr s x f,ty,pos,aft,g⟩ e H (.ref cs'):=by
 subst hc;exact Pure.fieldRef hx
theorem Pure.bld {t:TypeId} {pl:List (Nat×Nat)} {zs:List Value} [hs:TStruct C.P t pl] [hz:TZero C.P t zs] (parts:List (Nat×Operand)) {cs:List LV}
  (h:fillL pl (zs.map .atom) (parts.map fun p=>(p.1,e.ev p.2))=some cs):Pure C ⟨dst,.build t parts.toArray,ty,pos,aft,g⟩ e H (.agg cs):=Pure.build h
end pure
section steps
variable {C:Ctx} {e:Env} {H H':Heap} {dst:Option Nat} {op:Op} {ty:TypeId} {pos:String} {aft:Array Edge} {g:Option (Nat×Bool)} {x y:Operand} {K K':LV→Heap→Prop} {X:List PanicEntry→Heap→Prop}
theorem LStep.conseq {o:Oper} (h:LStep C o e H K X) (hk:∀ lv H',K lv H'→∃ lv' H'',lv.Sub lv'∧HSub H'' H'∧K' lv' H''):LStep C o e H K' X:=fun ρ w L h1 h2=>by
 have:=h ρ w L h1 h2
 have lf:∀ {w' v},Left C w L H w' v K→Left C w L H w' v K':=fun h=>by
  obtain ⟨lv,H',L',r1,r2,r3,r4⟩:=h
  obtain ⟨lv',H'',s1,s2,s3⟩:=hk _ _ r4
  exact ⟨lv',H'',L',r1.weak s2,r2.weak s2,s1 _ _ _ r3,s3⟩
 unfold StepOut at this ⊢
 split at this
 ·exact lf this
 ·exact lf this
 ·refine ⟨this.1,this.2.mono fun e w' he=>?_⟩
  cases e with
  |returned v=>exact lf he
  |panicked ch=>exact he
  |outgrown=>exact he
 ·exact this
 ·exact this.elim
theorem LStep.at1 {o:Oper} {p:Nat×LObj} {F:Heap} (hp:Pick p H F) (h:LStep C o e [p] (fun lv H'=>K lv (H'++F)) (fun ch H'=>X ch (H'++F))):LStep C o e H K X:=LStep.frame (H:=[p]) hp h
theorem LStep.at0 {o:Oper} (h:LStep C o e [] (fun lv H'=>K lv (H'++H)) (fun ch H'=>X ch (H'++H))):LStep C o e H K X:=LStep.frame (H:=[]) (List.Perm.refl _) h
theorem S.alloc {t:TypeId} {zs:List Value} [hz:TZero C.P t zs] (hk:∀ b,K (ptr b 0) ((b,.cells t (zs.map .atom))::H)):LStep C ⟨dst,.alloc t,ty,pos,aft,g⟩ e H K X:=LStep.at0 (LStep.alloc hk)
theorem S.box {t:TypeId} {cs:List LV} (hx:(e.ev x).cells? = some cs) (hk:∀ b,K (ptr b 0) ((b,.cells t cs)::H)):LStep C ⟨dst,.box t x,ty,pos,aft,g⟩ e H K X:=LStep.at0 (LStep.box hx hk)
theorem S.lit {t el s:Nat} {zs:List Value} [ht:TSlice C.P t el s] [hz:TZero C.P el zs] (xs:List Operand) {es:List LV} (hes:xs.map e.ev=es) (hok:elemsOk s es) {len:Nat} {parts:List (Nat×Operand)} (hp:parts=(List.range xs.length).zip xs) (hlen:len=xs.length)
  (hsz:Nat.ble (len * s) 16777216=true) (hk:K (.list es) H):LStep C ⟨dst,.buildSlice t len parts.toArray,ty,pos,aft,g⟩ e H K X:=by
 subst hes
 refine LStep.at0 (LStep.conseq (K:=fun lv H'=>∃ b,lv=.app b len s (xs.map e.ev)) (LStep.buildSlice hok (by subst hlen;simpa using hsz) hp hlen fun b=>⟨b,rfl⟩) ?_)
 rintro lv H' ⟨b,rfl⟩
 exact ⟨_,[],LV.Sub.app _ _ _ _,HSub.nil _,hk⟩
theorem S.litA {t el s:Nat} {zs:List Value} [ht:TSlice C.P t el s] [hz:TZero C.P el zs] (xs:List Operand) {es:List LV} (hes:xs.map e.ev=es) (hok:elemsOk s es) {len:Nat} {parts:List (Nat×Operand)} (hp:parts=(List.range xs.length).zip xs) (hlen:len=xs.length)
  (hsz:Nat.ble (len * s) 16777216=true) (hk:∀ b,K (.app b len s es) ((b,.row (len * s))::H)):LStep C ⟨dst,.buildSlice t len parts.toArray,ty,pos,aft,g⟩ e H K X:=by
 subst hes
 exact LStep.at0 (LStep.buildSlice hok (by subst hlen;simpa using hsz) hp hlen fun b=>hk b)
theorem S.store {t n:Nat} [ht:TSize C.P t n] {b off ty':Nat} {cs vs cs':List LV} {F:Heap} (hx:e.ev x=ptr b off) (hp:Pick (b,.cells ty' cs) H F) (hy:(e.ev y).cells? = some vs) (hn:vs.length=n) (hl:Nat.ble (off+n) cs.length=true) (hok:vs.all cellOk=true)
  (hc:setL cs off vs=cs') (hk:K (.atom undef) ((b,.cells ty' cs')::F)):LStep C ⟨dst,.store t x y,ty,pos,aft,g⟩ e H K X:=by
 subst hc
 exact LStep.at1 hp (LStep.store hx hy hn (by simpa using hl) hok hk)
theorem S.appNil {sT xT el s bytes:Nat} [ht:TSlice C.P sT el s] [hr:TRow C.P el s bytes] {e2 s2:Nat} [hx2:TSlice C.P xT e2 s2] {ms:List LV}
  (hx:e.ev x=nilSlice) (hy:elems (e.ev y)=some ms) (hne:ms≠[]) (hs:∀ v∈ms,v.cells.length=s) (hroom:ms.length * bytes≤140737488355328)
  (hk:∀ b cap,K (.app b cap s ms) ((b,.row (ms.length * s))::H)):LStep C ⟨dst,.call { callee:=.builtin .append,args:=#[x,y],argTypes:=#[sT,xT] },ty,pos,aft,g⟩ e H K X:=
 LStep.at0 (LStep.appendNil rfl ⟨e2,hx2.und⟩ hx hy hne hs hroom fun b cap=>hk b cap)
theorem S.app {sT xT el s bytes:Nat} [ht:TSlice C.P sT el s] [hr:TRow C.P el s bytes] {e2 s2:Nat} [hx2:TSlice C.P xT e2 s2] {b cap n:Nat} {es ms:List LV} {F:Heap}
  (hx:e.ev x=.app b cap s es) (hp:Pick (b,.row n) H F) (hn:n=es.length * s) (hy:elems (e.ev y)=some ms) (hs:∀ v∈ms,v.cells.length=s) (hok:(ms.flatMap LV.cells).all cellOk=true) (hroom:(es.length+ms.length) * bytes≤140737488355328)
  (hk:∀ b' cap',K (.app b' cap' s (es++ms)) ((b',.row ((es++ms).length * s))::F)):LStep C ⟨dst,.call { callee:=.builtin .append,args:=#[x,y],argTypes:=#[sT,xT] },ty,pos,aft,g⟩ e H K X:=
 LStep.at1 hp (LStep.appendApp rfl ⟨e2,hx2.und⟩ hx hn hy hs hok hroom fun b' cap'=>hk b' cap')
theorem S.appNilNil {sT xT el s:Nat} [ht:TSlice C.P sT el s] {e2 s2:Nat} [hx2:TSlice C.P xT e2 s2] (hx:e.ev x=nilSlice) (hy:elems (e.ev y)=some []) (hk:K nilSlice H) :
  LStep C ⟨dst,.call { callee:=.builtin .append,args:=#[x,y],argTypes:=#[sT,xT] },ty,pos,aft,g⟩ e H K X:=LStep.appendNilNil rfl ⟨e2,hx2.und⟩ hx hy hk
inductive Acc (s:Nat):LV→List LV→Heap→Heap→Prop
 |nil {F:Heap}:Acc s nilSlice [] F F
 |row {b cap:Nat} {es:List LV} {F:Heap}:Acc s (.app b cap s es) es ((b,.row (es.length * s))::F) F
theorem Acc.sub {s:Nat} {lv:LV} {es:List LV} {H F:Heap} (h:Acc s lv es H F):lv.Sub (.list es):=by
 cases h with
 |nil=>exact LV.Sub.nil
 |row=>exact LV.Sub.app _ _ _ _
theorem Acc.elems {s:Nat} {lv:LV} {es:List LV} {H F:Heap} (h:Acc s lv es H F):GL.elems lv=some es:=by
 cases h <;> rfl
theorem S.acc {sT xT el s bytes:Nat} [ht:TSlice C.P sT el s] [hr:TRow C.P el s bytes] {e2 s2:Nat} [hx2:TSlice C.P xT e2 s2] {v:LV} {es ms:List LV} {F:Heap}
  (hx:e.ev x=v) (ha:Acc s v es H F) (hy:GL.elems (e.ev y)=some ms) (hs:∀ v∈ms,v.cells.length=s) (hok:(ms.flatMap LV.cells).all cellOk=true) (hroom:(es.length+ms.length) * bytes≤140737488355328)
  (hk:∀ v' H',Acc s v' (es++ms) H' F→K v' H'):LStep C ⟨dst,.call { callee:=.builtin .append,args:=#[x,y],argTypes:=#[sT,xT] },ty,pos,aft,g⟩ e H K X:=by
 cases ha with
 |nil=>
  by_cases hne:ms=[]
  ·subst hne
   exact S.appNilNil hx hy (hk _ _ (by simpa using Acc.nil))
  ·refine S.appNil hx hy hne hs (by simpa using hroom) fun b cap=>hk _ _ ?_
   exact Acc.row
 |row=>exact S.app hx pH rfl hy hs hok hroom fun b' cap'=>hk _ _ Acc.row
theorem S.call0 {f:FuncId} [TEnter C.P f] (args:List Operand) {ats:Array TypeId} {avs:List LV} {R:LRes→Heap→Prop} (has:args.map e.ev=avs)
  (hc:LCalls C f avs [] R) (hk:∀ v H',R (.ret v) H'→K v (H'++H)) (hx:∀ ch H',R (.panic ch) H'→X ch (H'++H)) :
  LStep C ⟨dst,.call { callee:=.value (.func f),args:=args.toArray,argTypes:=ats },ty,pos,aft,g⟩ e H K X:=by
 subst has
 exact LStep.at0 (LStep.call hc hk hx)
theorem S.call1 {f:FuncId} [TEnter C.P f] (args:List Operand) {ats:Array TypeId} {avs:List LV} {R:LRes→Heap→Prop} {p:Nat×LObj} {F:Heap} (has:args.map e.ev=avs) (hp:Pick p H F)
  (hc:LCalls C f avs [p] R) (hk:∀ v H',R (.ret v) H'→K v (H'++F)) (hx:∀ ch H',R (.panic ch) H'→X ch (H'++F)) :
  LStep C ⟨dst,.call { callee:=.value (.func f),args:=args.toArray,argTypes:=ats },ty,pos,aft,g⟩ e H K X:=by
 subst has
 exact LStep.at1 hp (LStep.call hc hk hx)
theorem S.callH {f:FuncId} [TEnter C.P f] (args:List Operand) {ats:Array TypeId} {avs:List LV} {R:LRes→Heap→Prop} {H1 F:Heap} (has:args.map e.ev=avs) (hp:H.Perm (H1++F))
  (hc:LCalls C f avs H1 R) (hk:∀ v H',R (.ret v) H'→K v (H'++F)) (hx:∀ ch H',R (.panic ch) H'→X ch (H'++F)) :
  LStep C ⟨dst,.call { callee:=.value (.func f),args:=args.toArray,argTypes:=ats },ty,pos,aft,g⟩ e H K X:=by
 subst has
 exact LStep.frame hp (LStep.call hc hk hx)
theorem S.callV {fo:Operand} {f:FuncId} [TEnter C.P f] {first caps:Array Value} (args:List Operand) {ats:Array TypeId} {avs:List LV} {R:LRes→Heap→Prop} {H1 F:Heap} (hf:e.ev fo=.atom (.func (.func f) first caps))
  (has:first.toList.map .atom++args.map e.ev++caps.toList.map .atom=avs) (hp:H.Perm (H1++F)) (hc:LCalls C f avs H1 R) (hk:∀ v H',R (.ret v) H'→K v (H'++F)) (hx:∀ ch H',R (.panic ch) H'→X ch (H'++F)) :
  LStep C ⟨dst,.call { callee:=.value fo,args:=args.toArray,argTypes:=ats },ty,pos,aft,g⟩ e H K X:=by
 subst has
 exact LStep.frame hp (LStep.callV hf hc hk hx)
end steps
section ret
variable {C:Ctx} {n:Nat} {e:Env} {H H':Heap} {R:LRes→Heap→Prop}
theorem rN:AllRes C n e H [] []:=trivial
theorem rC {r:ResultVar} {rs:List ResultVar} {v:LV} {vs:List LV} (h:ResIs C n e H r v) (k:AllRes C n e H rs vs):AllRes C n e H (r::rs) (v::vs):=⟨h,k⟩
theorem rR {rs:List ResultVar} {vs:List LV} (hd:e.ds=[]) (h:AllRes C n e H rs vs) (hH:HSub H' H) (hR:R (.ret (resLV vs)) H'):RetPost C n rs R .ret e H:=⟨hd,vs,H',h,hH,hR⟩
theorem RetPost.normal {rs:List ResultVar} {vs:List LV} (hd:e.ds=[]) (h:AllRes C n e H rs vs) (hH:HSub H' H) (hR:R (.ret (resLV vs)) H'):RetPost C n rs R .normal e H:=⟨hd,vs,H',h,hH,hR⟩
theorem RetPost.panic {rs:List ResultVar} {ch:List PanicEntry} (hd:e.ds=[]) (hH:HSub H' H) (hR:R (.panic ch) H'):RetPost C n rs R (.panic ch) e H:=⟨hd,H',hH,hR⟩
theorem rA {a t k:Nat} [TAgg C.P t k] {b off ty':Nat} {cs:List LV} {lv:LV} (hx:e.s a=ptr b off) (hm:(b,LObj.cells ty' cs)∈H) (hn:Nat.ble (off+k) cs.length=true) (hs:(LV.agg ((cs.drop off).take k)).Sub lv):ResIs C n e H (.cell a t) lv:=fun ac w L hE hH=>by
 obtain ⟨xs,h1,h2⟩:=hH.cells hm
 have hl:=h2.length
 have hn':off+k≤cs.length:=by simpa using hn
 have hv:=hE.vals a
 rw[hx] at hv
 simp only[Rep] at hv
 refine ⟨.agg ((xs.drop off).take k).toArray,?_,hs _ _ _ (by simp only[Rep];exact ⟨_,rfl,(h2.drop off).take k⟩)⟩
 have hlen:((xs.drop off).take k).length=k:=by simp;omega
 simp only[readRes,hv,asAddr,Sem.run_bind,Sem.run_pure,Result.andThen_ok]
 exact loadVar_agg (t:=t) (w:=w) (b:=b) (off:=off) hlen (fun j y hy=>by
  rw[List.getElem?_take] at hy
  split at hy
  ·simpa [World.cell?,h1,List.getElem?_drop] using hy
  ·cases hy)
theorem ResIs.cellOne {a t:Nat} [TOne C.P t] {b off ty':Nat} {c lv:LV} {cs:List LV} (hx:e.s a=ptr b off) (hm:(b,LObj.cells ty' cs)∈H) (hc:cs[off]? = some c) (hs:c.Sub lv):ResIs C n e H (.cell a t) lv:=fun ac w L hE hH=>by
 obtain ⟨xs,h1,h2⟩:=hH.cells hm
 obtain ⟨v,h3,h4⟩:=h2.get hc
 have hv:=hE.vals a
 rw[hx] at hv
 simp only[Rep] at hv
 refine ⟨v,?_,hs _ _ _ h4⟩
 have hc':w.cell? ⟨b,off,none⟩=some v:=by simp[World.cell?,h1,h3]
 simp only[readRes,hv,asAddr,Sem.run_bind,Sem.run_pure,Result.andThen_ok]
 exact loadVar_one hc'
end ret
theorem zhr {H:Heap}:HSub H H:=HSub.refl _
theorem zhn {H:Heap}:HSub [] H:=HSub.nil _
theorem zhp {p:Nat×LObj} {H:Heap}:HSub [p] (p::H):=zhP pH (HSub.nil _)
theorem zsr {v:LV}:v.Sub v:=LV.Sub.refl _
theorem zp1 {p a:Nat×LObj} {F:Heap}:Pick p (a::p::F) (a::F):=(pT pH)
theorem zp2 {p a b:Nat×LObj} {F:Heap}:Pick p (a::b::p::F) (a::b::F):=(pT (pT pH))
theorem zp3 {p a b c:Nat×LObj} {F:Heap}:Pick p (a::b::c::p::F) (a::b::c::F):=(pT (pT (pT pH)))
theorem zp4 {p a b c d:Nat×LObj} {F:Heap}:Pick p (a::b::c::d::p::F) (a::b::c::d::F):=(pT (pT (pT (pT pH))))
theorem zp5 {p a b c d e:Nat×LObj} {F:Heap}:Pick p (a::b::c::d::e::p::F) (a::b::c::d::e::F):=(pT (pT (pT (pT (pT pH)))))
theorem zp6 {p a b c d e f:Nat×LObj} {F:Heap}:Pick p (a::b::c::d::e::f::p::F) (a::b::c::d::e::f::F):=(pT (pT (pT (pT (pT (pT pH))))))
theorem zp7 {p a b c d e f g:Nat×LObj} {F:Heap}:Pick p (a::b::c::d::e::f::g::p::F) (a::b::c::d::e::f::g::F):=(pT (pT (pT (pT (pT (pT (pT pH)))))))
theorem zp8 {p a b c d e f g h:Nat×LObj} {F:Heap}:Pick p (a::b::c::d::e::f::g::h::p::F) (a::b::c::d::e::f::g::h::F):=(pT (pT (pT (pT (pT (pT (pT (pT pH))))))))
theorem zrt {C:Ctx} {n:Nat} {e:Env} {H:Heap} {t:Nat} {v:Value} (h:e.s t=.atom v):ResIs C n e H (.tmp t) (.atom v):=rT h (LV.Sub.refl _)
theorem zra {C:Ctx} {n:Nat} {e:Env} {H:Heap} {t:Nat} {v:Value} (h:e.s t=.atom v):AllRes C n e H [.tmp t] [.atom v]:=rC (rT h (LV.Sub.refl _)) rN
end Go.GL
namespace Go.Proofs.YtcbpcianefpniaaGreatDoor
open Go.GL
set_option maxRecDepth 100000
instance:TMixed Tryz.prog:=⟨by kernel_rfl⟩
instance:TSize Tryz.prog 3 1:=.of zk
instance:TOne Tryz.prog 3:=.of zk
instance:TKind Tryz.prog 3 .i64:=.of zk
instance:TZero Tryz.prog 3 [.int .i64 0]:=.of (v:=.int .i64 0) (n:=1) zk rfl rfl
instance:TRow Tryz.prog 3 1 8:=.of zk
instance:TOne Tryz.prog 4:=.of zk
instance:TOne Tryz.prog 5:=.of zk
instance:TKind Tryz.prog 5 .u8:=.of zk
instance:TZero Tryz.prog 5 [.int .u8 0]:=.of (v:=.int .u8 0) (n:=1) zk rfl rfl
instance:TRow Tryz.prog 5 1 1:=.of zk
instance:TSize Tryz.prog 9 1:=.of zk
instance:TOne Tryz.prog 9:=.of zk
instance:TStr Tryz.prog 9:=.of zk
instance:TZero Tryz.prog 9 [.string ⟨#[]⟩]:=.of (v:=.string ⟨#[]⟩) (n:=1) zk rfl rfl
instance:TRow Tryz.prog 9 1 16:=.of zk
instance:TSize Tryz.prog 22 1:=.of zk
instance:TOne Tryz.prog 22:=.of zk
instance:TSlice Tryz.prog 22 43 1:=.of zk
instance:TSize Tryz.prog 25 1:=.of zk
instance:TOne Tryz.prog 25:=.of zk
instance:TZero Tryz.prog 25 [.int .i64 0]:=.of (v:=.int .i64 0) (n:=1) zk rfl rfl
instance:TSize Tryz.prog 27 3:=.of zk
instance:TAgg Tryz.prog 27 3:=.of zk
instance:TStruct Tryz.prog 27 [(0,1),(1,1),(2,1)]:=.of zk
instance:TZero Tryz.prog 27 [.string ⟨#[]⟩,.int .i64 0,.int .i64 0]:=.of (v:=.agg #[.string ⟨#[]⟩,.int .i64 0,.int .i64 0]) (n:=3) zk rfl rfl
instance:TSize Tryz.prog 29 1:=.of zk
instance:TOne Tryz.prog 29:=.of zk
instance:TSlice Tryz.prog 29 9 1:=.of zk
instance:TZero Tryz.prog 29 [.slice none 0 0]:=.of (v:=.slice none 0 0) (n:=1) zk rfl rfl
instance:TSize Tryz.prog 30 1:=.of zk
instance:TOne Tryz.prog 30:=.of zk
instance:TSlice Tryz.prog 30 60 2:=.of zk
instance:TSize Tryz.prog 31 1:=.of zk
instance:TOne Tryz.prog 31:=.of zk
instance:TSlice Tryz.prog 31 63 4:=.of zk
instance:TSize Tryz.prog 33 3:=.of zk
instance:TAgg Tryz.prog 33 3:=.of zk
instance:TField Tryz.prog 33 0 0:=.of zk
instance:TField Tryz.prog 33 1 1:=.of zk
instance:TField Tryz.prog 33 2 2:=.of zk
instance:TStruct Tryz.prog 33 [(0,1),(1,1),(2,1)]:=.of zk
instance:TZero Tryz.prog 33 [.slice none 0 0,.slice none 0 0,.slice none 0 0]:=.of (v:=.agg #[.slice none 0 0,.slice none 0 0,.slice none 0 0]) (n:=3) zk rfl rfl
instance:TOne Tryz.prog 37:=.of zk
instance:TKind Tryz.prog 37 .u16:=.of zk
instance:TSize Tryz.prog 42 1:=.of zk
instance:TOne Tryz.prog 42:=.of zk
instance:TSlice Tryz.prog 42 5 1:=.of zk
instance:TSize Tryz.prog 43 1:=.of zk
instance:TOne Tryz.prog 43:=.of zk
instance:TKind Tryz.prog 43 .u32:=.of zk
instance:TZero Tryz.prog 43 [.int .u32 0]:=.of (v:=.int .u32 0) (n:=1) zk rfl rfl
instance:TRow Tryz.prog 43 1 4:=.of zk
instance:TField Tryz.prog 52 0 0:=.of zk
instance:TField Tryz.prog 52 1 1:=.of zk
instance:TField Tryz.prog 52 2 2:=.of zk
instance:TField Tryz.prog 52 3 3:=.of zk
instance:TSize Tryz.prog 60 2:=.of zk
instance:TAgg Tryz.prog 60 2:=.of zk
instance:TField Tryz.prog 60 0 0:=.of zk
instance:TField Tryz.prog 60 1 1:=.of zk
instance:TStruct Tryz.prog 60 [(0,1),(1,1)]:=.of zk
instance:TZero Tryz.prog 60 [.string ⟨#[]⟩,.int .i64 0]:=.of (v:=.agg #[.string ⟨#[]⟩,.int .i64 0]) (n:=2) zk rfl rfl
instance:TRow Tryz.prog 60 2 24:=.of zk
instance:TSize Tryz.prog 61 1:=.of zk
instance:TOne Tryz.prog 61:=.of zk
instance:TSlice Tryz.prog 61 128 6:=.of zk
instance:TSize Tryz.prog 63 4:=.of zk
instance:TAgg Tryz.prog 63 4:=.of zk
instance:TField Tryz.prog 63 0 0:=.of zk
instance:TField Tryz.prog 63 1 1:=.of zk
instance:TField Tryz.prog 63 2 2:=.of zk
instance:TField Tryz.prog 63 3 3:=.of zk
instance:TStruct Tryz.prog 63 [(0,1),(1,1),(2,1),(3,1)]:=.of zk
instance:TZero Tryz.prog 63 [.string ⟨#[]⟩,.slice none 0 0,.slice none 0 0,.slice none 0 0]:=.of (v:=.agg #[.string ⟨#[]⟩,.slice none 0 0,.slice none 0 0,.slice none 0 0]) (n:=4) zk rfl rfl
instance:TRow Tryz.prog 63 4 88:=.of zk
instance:TOne Tryz.prog 66:=.of zk
instance:TOne Tryz.prog 68:=.of zk
instance:TOne Tryz.prog 69:=.of zk
instance:TOne Tryz.prog 70:=.of zk
instance:TField Tryz.prog 72 0 0:=.of zk
instance:TField Tryz.prog 72 1 3:=.of zk
instance:TField Tryz.prog 72 2 4:=.of zk
instance:TField Tryz.prog 72 3 5:=.of zk
instance:TField Tryz.prog 72 4 6:=.of zk
instance:TField Tryz.prog 72 5 7:=.of zk
instance:TField Tryz.prog 72 6 8:=.of zk
instance:TField Tryz.prog 72 7 9:=.of zk
instance:TField Tryz.prog 72 8 10:=.of zk
instance:TStruct Tryz.prog 72 [(0,3),(3,1),(4,1),(5,1),(6,1),(7,1),(8,1),(9,1),(10,1)]:=.of zk
instance:TZero Tryz.prog 72 [.slice none 0 0,.slice none 0 0,.slice none 0 0,.map none,.slice none 0 0,.slice none 0 0,.int .i64 0,.int .i64 0,.map none,.map none,.map none]:=.of (v:=.agg #[.slice none 0 0,.slice none 0 0,.slice none 0 0,.map none,.slice none 0 0,.slice none 0 0,.int .i64 0,.int .i64 0,.map none,.map none,.map none]) (n:=11) zk rfl rfl
instance:TKind Tryz.prog 84 .u64:=.of zk
instance:TOne Tryz.prog 87:=.of zk
instance:TSlice Tryz.prog 87 153 3:=.of zk
instance:TSize Tryz.prog 91 2:=.of zk
instance:TConcrete Tryz.prog 91:=.of zk
instance:TField Tryz.prog 91 0 0:=.of zk
instance:TField Tryz.prog 91 1 1:=.of zk
instance:TStruct Tryz.prog 91 [(0,1),(1,1)]:=.of zk
instance:TZero Tryz.prog 91 [.int .i64 0,.int .i64 0]:=.of (v:=.agg #[.int .i64 0,.int .i64 0]) (n:=2) zk rfl rfl
instance:TOne Tryz.prog 93:=.of zk
instance:TField Tryz.prog 95 0 0:=.of zk
instance:TField Tryz.prog 95 1 1:=.of zk
instance:TField Tryz.prog 95 2 2:=.of zk
instance:TStruct Tryz.prog 95 [(0,1),(1,1),(2,1)]:=.of zk
instance:TZero Tryz.prog 95 [.slice none 0 0,.int .i64 0,.int .i64 0]:=.of (v:=.agg #[.slice none 0 0,.int .i64 0,.int .i64 0]) (n:=3) zk rfl rfl
instance:TSize Tryz.prog 98 2:=.of zk
instance:TConcrete Tryz.prog 98:=.of zk
instance:TField Tryz.prog 98 0 0:=.of zk
instance:TField Tryz.prog 98 1 1:=.of zk
instance:TStruct Tryz.prog 98 [(0,1),(1,1)]:=.of zk
instance:TZero Tryz.prog 98 [.string ⟨#[]⟩,.int .i64 0]:=.of (v:=.agg #[.string ⟨#[]⟩,.int .i64 0]) (n:=2) zk rfl rfl
instance:TSize Tryz.prog 101 1:=.of zk
instance:TOne Tryz.prog 101:=.of zk
instance:TOne Tryz.prog 102:=.of zk
instance:TField Tryz.prog 104 0 0:=.of zk
instance:TField Tryz.prog 104 1 1:=.of zk
instance:TField Tryz.prog 104 2 2:=.of zk
instance:TField Tryz.prog 104 3 3:=.of zk
instance:TField Tryz.prog 104 4 4:=.of zk
instance:TField Tryz.prog 104 5 5:=.of zk
instance:TField Tryz.prog 104 6 6:=.of zk
instance:TStruct Tryz.prog 104 [(0,1),(1,1),(2,1),(3,1),(4,1),(5,1),(6,1)]:=.of zk
instance:TZero Tryz.prog 104 [.map none,.map none,.map none,.map none,.string ⟨#[]⟩,.map none,.int .i64 0]:=.of (v:=.agg #[.map none,.map none,.map none,.map none,.string ⟨#[]⟩,.map none,.int .i64 0]) (n:=7) zk rfl rfl
instance:TSlice Tryz.prog 123 3 1:=.of zk
instance:TSize Tryz.prog 126 1:=.of zk
instance:TOne Tryz.prog 126:=.of zk
instance:TSlice Tryz.prog 126 170 4:=.of zk
instance:TSize Tryz.prog 128 6:=.of zk
instance:TAgg Tryz.prog 128 6:=.of zk
instance:TField Tryz.prog 128 0 0:=.of zk
instance:TField Tryz.prog 128 1 1:=.of zk
instance:TField Tryz.prog 128 2 2:=.of zk
instance:TField Tryz.prog 128 3 3:=.of zk
instance:TField Tryz.prog 128 4 4:=.of zk
instance:TField Tryz.prog 128 5 5:=.of zk
instance:TStruct Tryz.prog 128 [(0,1),(1,1),(2,1),(3,1),(4,1),(5,1)]:=.of zk
instance:TZero Tryz.prog 128 [.int .i64 0,.string ⟨#[]⟩,.slice none 0 0,.slice none 0 0,.slice none 0 0,.slice none 0 0]:=.of (v:=.agg #[.int .i64 0,.string ⟨#[]⟩,.slice none 0 0,.slice none 0 0,.slice none 0 0,.slice none 0 0]) (n:=6) zk rfl rfl
instance:TRow Tryz.prog 128 6 120:=.of zk
instance:TSize Tryz.prog 131 1:=.of zk
instance:TConcrete Tryz.prog 131:=.of zk
instance:TField Tryz.prog 131 0 0:=.of zk
instance:TStruct Tryz.prog 131 [(0,1)]:=.of zk
instance:TZero Tryz.prog 131 [.int .i64 0]:=.of (v:=.agg #[.int .i64 0]) (n:=1) zk rfl rfl
instance:TSize Tryz.prog 132 1:=.of zk
instance:TOne Tryz.prog 132:=.of zk
instance:TZero Tryz.prog 132 [.nilFunc]:=.of (v:=.nilFunc) (n:=1) zk rfl rfl
instance:TSize Tryz.prog 153 3:=.of zk
instance:TAgg Tryz.prog 153 3:=.of zk
instance:TField Tryz.prog 153 0 0:=.of zk
instance:TField Tryz.prog 153 1 1:=.of zk
instance:TField Tryz.prog 153 2 2:=.of zk
instance:TStruct Tryz.prog 153 [(0,1),(1,1),(2,1)]:=.of zk
instance:TZero Tryz.prog 153 [.int .i64 0,.string ⟨#[]⟩,.int .i64 0]:=.of (v:=.agg #[.int .i64 0,.string ⟨#[]⟩,.int .i64 0]) (n:=3) zk rfl rfl
instance:TRow Tryz.prog 153 3 32:=.of zk
instance:TSize Tryz.prog 161 3:=.of zk
instance:TField Tryz.prog 161 0 0:=.of zk
instance:TField Tryz.prog 161 1 1:=.of zk
instance:TField Tryz.prog 161 2 2:=.of zk
instance:TStruct Tryz.prog 161 [(0,1),(1,1),(2,1)]:=.of zk
instance:TZero Tryz.prog 161 [.int .i64 0,.int .i64 0,.int .i64 0]:=.of (v:=.agg #[.int .i64 0,.int .i64 0,.int .i64 0]) (n:=3) zk rfl rfl
instance:TSize Tryz.prog 170 4:=.of zk
instance:TAgg Tryz.prog 170 4:=.of zk
instance:TField Tryz.prog 170 0 0:=.of zk
instance:TField Tryz.prog 170 1 1:=.of zk
instance:TField Tryz.prog 170 2 2:=.of zk
instance:TField Tryz.prog 170 3 3:=.of zk
instance:TStruct Tryz.prog 170 [(0,1),(1,1),(2,1),(3,1)]:=.of zk
instance:TZero Tryz.prog 170 [.string ⟨#[]⟩,.int .u32 0,.string ⟨#[]⟩,.slice none 0 0]:=.of (v:=.agg #[.string ⟨#[]⟩,.int .u32 0,.string ⟨#[]⟩,.slice none 0 0]) (n:=4) zk rfl rfl
instance:TRow Tryz.prog 170 4 64:=.of zk
instance:TOne Tryz.prog 176:=.of zk
instance:TSlice Tryz.prog 176 29 1:=.of zk
instance:TSize Tryz.prog 229 1:=.of zk
instance:TOne Tryz.prog 229:=.of zk
instance:TZero Tryz.prog 229 [.nilFunc]:=.of (v:=.nilFunc) (n:=1) zk rfl rfl
instance:TEnter Tryz.prog 11:=.of zk
instance:TEnter Tryz.prog 12:=.of zk
instance:TEnter Tryz.prog 13:=.of zk
instance:TEnter Tryz.prog 16:=.of zk
instance:TEnter Tryz.prog 18:=.of zk
instance:TEnter Tryz.prog 22:=.of zk
instance:TEnter Tryz.prog 23:=.of zk
instance:TEnter Tryz.prog 24:=.of zk
instance:TEnter Tryz.prog 25:=.of zk
instance:TEnter Tryz.prog 29:=.of zk
instance:TEnter Tryz.prog 30:=.of zk
instance:TEnter Tryz.prog 31:=.of zk
instance:TEnter Tryz.prog 34:=.of zk
instance:TEnter Tryz.prog 37:=.of zk
instance:TEnter Tryz.prog 38:=.of zk
instance:TEnter Tryz.prog 39:=.of zk
instance:TEnter Tryz.prog 40:=.of zk
instance:TEnter Tryz.prog 41:=.of zk
instance:TEnter Tryz.prog 57:=.of zk
instance:TEnter Tryz.prog 58:=.of zk
instance:TEnter Tryz.prog 59:=.of zk
instance:TEnter Tryz.prog 60:=.of zk
instance:TEnter Tryz.prog 61:=.of zk
instance:TEnter Tryz.prog 62:=.of zk
instance:TEnter Tryz.prog 63:=.of zk
instance:TEnter Tryz.prog 64:=.of zk
instance:TEnter Tryz.prog 65:=.of zk
instance:TEnter Tryz.prog 66:=.of zk
instance:TEnter Tryz.prog 67:=.of zk
instance:TEnter Tryz.prog 68:=.of zk
instance:TEnter Tryz.prog 69:=.of zk
instance:TEnter Tryz.prog 70:=.of zk
instance:TEnter Tryz.prog 71:=.of zk
instance:TEnter Tryz.prog 72:=.of zk
instance:TEnter Tryz.prog 73:=.of zk
instance:TEnter Tryz.prog 74:=.of zk
instance:TEnter Tryz.prog 75:=.of zk
instance:TEnter Tryz.prog 76:=.of zk
instance:TEnter Tryz.prog 78:=.of zk
instance:TEnter Tryz.prog 80:=.of zk
instance:TEnter Tryz.prog 85:=.of zk
instance:TEnter Tryz.prog 86:=.of zk
instance:TEnter Tryz.prog 87:=.of zk
instance:TEnter Tryz.prog 88:=.of zk
instance:TEnter Tryz.prog 89:=.of zk
instance:TEnter Tryz.prog 90:=.of zk
instance:TEnter Tryz.prog 91:=.of zk
instance:TEnter Tryz.prog 92:=.of zk
instance:TEnter Tryz.prog 93:=.of zk
instance:TEnter Tryz.prog 94:=.of zk
instance:TEnter Tryz.prog 95:=.of zk
instance:TEnter Tryz.prog 108:=.of zk
instance:TEnter Tryz.prog 109:=.of zk
instance:TEnter Tryz.prog 127:=.of zk
instance:TEnter Tryz.prog 128:=.of zk
instance:TEnter Tryz.prog 129:=.of zk
instance:TEnter Tryz.prog 130:=.of zk
instance:TEnter Tryz.prog 131:=.of zk
instance:TEnter Tryz.prog 132:=.of zk
instance:TEnter Tryz.prog 133:=.of zk
instance:TEnter Tryz.prog 134:=.of zk
instance:TEnter Tryz.prog 135:=.of zk
instance:TEnter Tryz.prog 136:=.of zk
instance:TEnter Tryz.prog 137:=.of zk
instance:TEnter Tryz.prog 138:=.of zk
instance:TEnter Tryz.prog 139:=.of zk
instance:TEnter Tryz.prog 140:=.of zk
instance:TEnter Tryz.prog 141:=.of zk
instance:TEnter Tryz.prog 142:=.of zk
instance:TEnter Tryz.prog 143:=.of zk
instance:TEnter Tryz.prog 144:=.of zk
instance:TEnter Tryz.prog 145:=.of zk
instance:TEnter Tryz.prog 157:=.of zk
instance:TEnter Tryz.prog 158:=.of zk
instance:TEnter Tryz.prog 159:=.of zk
instance:TEnter Tryz.prog 160:=.of zk
instance:TEnter Tryz.prog 173:=.of zk
instance:TEnter Tryz.prog 174:=.of zk
instance:TEnter Tryz.prog 175:=.of zk
instance:TEnter Tryz.prog 176:=.of zk
instance:TEnter Tryz.prog 177:=.of zk
instance:TEnter Tryz.prog 178:=.of zk
instance:TEnter Tryz.prog 179:=.of zk
instance:TEnter Tryz.prog 187:=.of zk
instance:TEnter Tryz.prog 194:=.of zk
instance:TEnter Tryz.prog 195:=.of zk
instance:TEnter Tryz.prog 196:=.of zk
instance:TEnter Tryz.prog 197:=.of zk
instance:TEnter Tryz.prog 198:=.of zk
instance:TEnter Tryz.prog 199:=.of zk
instance:TEnter Tryz.prog 200:=.of zk
instance:TEnter Tryz.prog 211:=.of zk
instance:TEnter Tryz.prog 212:=.of zk
instance:TEnter Tryz.prog 213:=.of zk
instance:TEnter Tryz.prog 214:=.of zk
instance:TEnter Tryz.prog 215:=.of zk
instance:TEnter Tryz.prog 216:=.of zk
instance:TEnter Tryz.prog 217:=.of zk
instance:TEnter Tryz.prog 218:=.of zk
instance:TEnter Tryz.prog 223:=.of zk
instance:TEnter Tryz.prog 224:=.of zk
instance:TEnter Tryz.prog 225:=.of zk
end Go.Proofs.YtcbpcianefpniaaGreatDoor
namespace Go.GL
open Go.RowKit
@[reducible] def Ret (v:LV):LRes→Heap→Prop:=fun r H=>r=.ret v∧H=[]
@[reducible] def RetIf (p:LV→Prop):LRes→Heap→Prop:=fun r H=>∃ v,r=.ret v∧p v∧H=[]
section
variable {C:Ctx} {e:Env} {H:Heap} {dst:Option Nat} {ty:TypeId} {pos:String} {aft:Array Edge} {g:Option (Nat×Bool)} {K:LV→Heap→Prop} {X:List PanicEntry→Heap→Prop}
theorem S.fn {f:FuncId} [TEnter C.P f] (args:List Operand) {ats:Array TypeId} {avs:List LV} {lv:LV} (has:args.map e.ev=avs) (hc:LCalls C f avs [] (Ret lv)) (hk:K lv H) :
  LStep C ⟨dst,.call { callee:=.value (.func f),args:=args.toArray,argTypes:=ats },ty,pos,aft,g⟩ e H K X:=
 S.call0 args has hc (by rintro v H' ⟨h,rfl⟩;cases h;exact hk) (by rintro ch H' ⟨h,_⟩;cases h)
theorem S.fnIf {f:FuncId} [TEnter C.P f] (args:List Operand) {ats:Array TypeId} {avs:List LV} {p:LV→Prop} (has:args.map e.ev=avs) (hc:LCalls C f avs [] (RetIf p)) (hk:∀ lv,p lv→K lv H) :
  LStep C ⟨dst,.call { callee:=.value (.func f),args:=args.toArray,argTypes:=ats },ty,pos,aft,g⟩ e H K X:=
 S.call0 args has hc (by rintro v H' ⟨u,h,hp,rfl⟩;cases h;exact hk _ hp) (by rintro ch H' ⟨u,h,_⟩;cases h)
theorem S.fnV {fo:Operand} {f:FuncId} [TEnter C.P f] {first caps:Array Value} (args:List Operand) {ats:Array TypeId} {avs:List LV} {lv:LV} (hf:e.ev fo=.atom (.func (.func f) first caps))
  (has:first.toList.map .atom++args.map e.ev++caps.toList.map .atom=avs) (hc:LCalls C f avs [] (Ret lv)) (hk:K lv H) :
  LStep C ⟨dst,.call { callee:=.value fo,args:=args.toArray,argTypes:=ats },ty,pos,aft,g⟩ e H K X:=
 S.callV (H1:=[]) (F:=H) args hf has zpr hc (by rintro v H' ⟨h,rfl⟩;cases h;exact hk) (by rintro ch H' ⟨h,_⟩;cases h)
theorem retRet {n:Nat} {rs:List ResultVar} {vs:List LV} {lv:LV} (hd:e.ds=[]) (h:AllRes C n e H rs vs) (hv:resLV vs=lv):RetPost C n rs (Ret lv) .ret e H:=
 rR hd h zhn ⟨by rw[hv],rfl⟩
theorem retRetIf {n:Nat} {rs:List ResultVar} {vs:List LV} {p:LV→Prop} (hd:e.ds=[]) (h:AllRes C n e H rs vs) (hv:p (resLV vs)):RetPost C n rs (RetIf p) .ret e H:=
 rR hd h zhn ⟨_,rfl,hv,rfl⟩
end
theorem fr_below {C:Ctx} {w w':World} {L:Live} (hH:RelH C w L []) (h:Below w.heap.size w w'):Fr (keys []) w L w' L []∧RelH C w' L []:=by
 refine ⟨⟨h.os,h.tape,h.output,⟨h.size,fun b hb=>shape_of_heap (h.block b hb),fun b i hi=>?_,fun _=>Nat.le_refl _⟩,fun b hb _=>h.block b hb,fun _ _ _=>rfl,by simp⟩,
  ⟨hH.base.trans (h.mono hH.b0),hH.lbase,Nat.le_trans hH.b0 h.size,fun b hb=>hH.wf b (Nat.le_trans h.size hb),List.nodup_nil,by simp⟩⟩
 have hb:b<w.heap.size:=by
  rcases Nat.lt_or_ge b w.heap.size with h1|h1
  ·exact h1
  ·have:=hH.wf b h1;omega
 exact cell_of_heap (h.block b hb) i
theorem LCalls.of_below {C:Ctx} {f:FuncId} {vs:List Value} {p:Value→Prop}
  (h:∀ w,Below C.B0 C.w0 w→Calls C.P f vs.toArray w (fun e w'=>∃ v,e=.returned v∧p v∧Below w.heap.size w w')):LCalls C f (vs.map .atom) [] (fun r H=>∃ v,r=.ret (.atom v)∧p v∧H=[]):=fun xs w L hv hH=>by
 have hx:xs=vs:=by
  clear h hH
  induction vs generalizing xs with
  |nil=>simpa [RepL] using hv
  |cons v vs ih=>
   simp only[List.map_cons,RepL,Rep] at hv
   obtain ⟨y,ys,rfl,rfl,hv⟩:=hv
   rw[ih _ hv]
 subst hx
 refine (h w hH.base).mono fun e w' he=>?_
 obtain ⟨v,rfl,hp,hb⟩:=he
 obtain ⟨h1,h2⟩:=fr_below hH hb
 exact ⟨.atom v,[],L,h1,h2,rep_atom,v,rfl,hp,rfl⟩
theorem LCalls.of_belowT {C:Ctx} {f:FuncId} {vs:List Value} {p:List Value→Prop}
  (h:∀ w,Below C.B0 C.w0 w→Calls C.P f vs.toArray w (fun e w'=>∃ us:List Value,e=.returned (.tuple us.toArray)∧p us∧Below w.heap.size w w')):LCalls C f (vs.map .atom) [] (RetIf fun lv=>∃ us,p us∧lv=.tuple (us.map .atom)):=fun xs w L hv hH=>by
 have hx:xs=vs:=by
  clear h hH
  induction vs generalizing xs with
  |nil=>simpa [RepL] using hv
  |cons v vs ih=>
   simp only[List.map_cons,RepL,Rep] at hv
   obtain ⟨y,ys,rfl,rfl,hv⟩:=hv
   rw[ih _ hv]
 subst hx
 refine (h w hH.base).mono fun e w' he=>?_
 obtain ⟨us,rfl,hp,hb⟩:=he
 obtain ⟨h1,h2⟩:=fr_below hH hb
 exact ⟨.tuple (us.map .atom),[],L,h1,h2,by simp only[Rep];exact ⟨us,rfl,repL_atoms _⟩,_,rfl,⟨us,hp,rfl⟩,rfl⟩
theorem LCalls.ret_of {C:Ctx} {f:FuncId} {vs:List Value} {u:Value}
  (h:∀ w,Below C.B0 C.w0 w→Calls C.P f vs.toArray w (fun e w'=>e=.returned u∧Below w.heap.size w w')):LCalls C f (vs.map .atom) [] (Ret (.atom u)):=
 LCalls.mono (LCalls.of_below (p:=fun v=>v=u) fun w hw=>(h w hw).mono fun e w' he=>⟨u,he.1,rfl,he.2⟩) fun r H' ⟨v,h1,h2,h3⟩=>⟨by rw[h1,h2],h3⟩
def AllSlots (e:Env):List (Nat×LV)→Prop
 |[]=>True
 |(d,v)::r=>e.s d=v∧AllSlots e r
theorem AllSlots.mem {e:Env}:∀ {l:List (Nat×LV)},AllSlots e l→∀ p∈l,e.s p.1=p.2
 |[],_,p,hp=>by cases hp
 |(d,v)::r,h,p,hp=>by
  rcases List.mem_cons.1 hp with rfl|hp
  ·exact h.1
  ·exact AllSlots.mem h.2 p hp
def Again (I:Nat→List (Nat×LV)→Heap→Prop) (k:Nat) (ds:List Deferred) (e':Env) (H':Heap):Prop:=
 ∃ m l' H'',m<k∧I m l' H''∧AllSlots e' l'∧HSub H'' H'∧e'.ds=ds
theorem oL {C:Ctx} {n:Nat} {c:Code} {Q:Post} {e:Env} {H:Heap} (I:Nat→List (Nat×LV)→Heap→Prop) (h0:∃ k l H0,I k l H0∧AllSlots e l∧HSub H0 H)
  (round:∀ k l H,I k l H→∀ j:Env,j.ds=e.ds→LCode C n c (QThen (Again I k e.ds) Q) (Env.slots j l) H):LCode C n (.loop c) Q e H:=by
 obtain ⟨k,l,H0,h0,h1,h2⟩:=h0
 refine LCode.weak h2 (LCode.loop (fun k e' H'=>∃ l H0,I k l H0∧AllSlots e' l∧HSub H0 H'∧e'.ds=e.ds) k ⟨l,H0,h0,h1,HSub.refl _,rfl⟩ ?_)
 rintro k e' H' ⟨l,H0,g0,g1,g2,g3⟩
 have:=round k l H0 g0 e' g3
 rw[Env.slots_self g1.mem] at this
 refine LCode.weak g2 (LCode.conseq this ?_)
 rintro ex e2 H2 hq
 cases ex with
 |normal=>
  obtain ⟨m,l',H3,r1,r2,r3,r4,r5⟩:=hq
  exact ⟨m,r1,l',H3,r2,r3,r4,r5⟩
 |exit id=>exact hq
 |goto id=>exact hq
 |ret=>exact hq
 |panic ch=>exact hq
 |outgrown=>exact hq
theorem bool_eq {a b:Bool} (h:a=b):bool a=bool b:=by rw[h]
def At (l:List (Nat×LV)) (H1:Heap) (ds:List Deferred) (e':Env) (H':Heap):Prop:=AllSlots e' l∧H'=H1∧e'.ds=ds
theorem LOps.cutTo {C:Ctx} {n:Nat} {ops:Array Oper} {rest:List Oper} {Q:Post} {e:Env} {H:Heap} {k:Env→Heap→Prop} (l:List (Nat×LV)) (H1:Heap)
  (hx:LOps C n ops (QThen (At l H1 e.ds) Q) rest e H) (hy:∀ j:Env,j.ds=e.ds→k (Env.slots j l) H1):LOps C n ops (QThen k Q) rest e H:=by
 refine LOps.conseq hx ?_
 rintro ex e' H' hq
 cases ex with
 |normal=>
  obtain ⟨h1,rfl,h3⟩:=hq
  have:=hy e' h3
  rw[Env.slots_self h1.mem] at this
  exact this
 |exit id=>exact hq
 |goto id=>exact hq
 |ret=>exact hq
 |panic ch=>exact hq
 |outgrown=>exact hq
theorem LCode.cutTo {C:Ctx} {n:Nat} {c:Code} {Q:Post} {e:Env} {H:Heap} {k:Env→Heap→Prop} (l:List (Nat×LV)) (H1:Heap)
  (hx:LCode C n c (QThen (At l H1 e.ds) Q) e H) (hy:∀ j:Env,j.ds=e.ds→k (Env.slots j l) H1):LCode C n c (QThen k Q) e H:=by
 refine LCode.conseq hx ?_
 rintro ex e' H' hq
 cases ex with
 |normal=>
  obtain ⟨h1,rfl,h3⟩:=hq
  have:=hy e' h3
  rw[Env.slots_self h1.mem] at this
  exact this
 |exit id=>exact hq
 |goto id=>exact hq
 |ret=>exact hq
 |panic ch=>exact hq
 |outgrown=>exact hq
theorem LOps.cut {C:Ctx} {n:Nat} {ops:Array Oper} {rest:List Oper} {Q:Post} {e:Env} {H:Heap} {k:Env→Heap→Prop} (l:List (Nat×LV))
  (hx:LOps C n ops (QThen (At l H e.ds) Q) rest e H) (hy:∀ j:Env,j.ds=e.ds→k (Env.slots j l) H):LOps C n ops (QThen k Q) rest e H:=LOps.cutTo l H hx hy
theorem LCode.cut {C:Ctx} {n:Nat} {c:Code} {Q:Post} {e:Env} {H:Heap} {k:Env→Heap→Prop} (l:List (Nat×LV))
  (hx:LCode C n c (QThen (At l H e.ds) Q) e H) (hy:∀ j:Env,j.ds=e.ds→k (Env.slots j l) H):LCode C n c (QThen k Q) e H:=LCode.cutTo l H hx hy
theorem yielded_undef {ops:Array Oper} {n:Nat} {a:Act} {e:Env} {w:World} {L:Live} (hE:RelE n a e w L) {j d:Nat} (hj:(ops[j]?).bind (·.dst)=some d) (hb:e.s d=.atom undef):yielded ops a.tmps j=none:=by
 have h:=hE.vals d
 rw[hb] at h
 simp only[Rep] at h
 unfold yielded
 rw[hj]
 simp only[Option.bind_some]
 rw[Array.getD_eq_getD_getElem?] at h
 cases hx:a.tmps[d]? with
 |none=>rfl
 |some x=>rw[hx] at h;simp only[Option.getD_some] at h;subst h;rfl
theorem LOps.skipU {C:Ctx} {n:Nat} {ops:Array Oper} {Q:Post} {e:Env} {H:Heap} {dst:Option Nat} {op:Op} {ty:TypeId} {pos:String} {aft:Array Edge} {rest:List Oper} {j d:Nat} {c:Bool}
  (hj:(ops[j]?).bind (·.dst)=some d) (hb:e.s d=.atom undef) (hd:dstOk n dst)
  (k:LOps C n ops Q rest (e.put dst (.atom undef)) H):LOps C n ops Q (⟨dst,op,ty,pos,aft,some (j,c)⟩::rest) e H:=fun a w L hE hH=>by
 unfold wpList
 rw[if_neg (by simp[Region.wanted,yielded_undef hE hj hb])]
 exact k _ w L (hE.put hd (by simp only[Rep])) hH
theorem int_eq {k:IntKind} {a b:Int} (h:a=b):int k a=int k b:=by rw[h]
end Go.GL
namespace Go.Stele
@[reducible] def cv (c:UInt8):Int:=(c.toNat:Int)
def isDigit (c:UInt8):Bool:=decide (48≤cv c) && decide (cv c≤57)
def isLetter (c:UInt8):Bool:=decide (97≤cv c) && decide (cv c≤122)
def isInner (c:UInt8):Bool:=isLetter c || isDigit c || decide (cv c=95)
def notNl (c:UInt8):Bool:=!decide (cv c=10)
def isWhite (c:UInt8):Bool:=decide (cv c=32) || decide (cv c=9) || decide (cv c=10)
structure Tok where
 kind:Int
 text:List UInt8
 line:Int
 deriving DecidableEq,Inhabited
end Go.Stele
namespace Go.Stele
theorem takeWhile_step {p:UInt8→Bool} {s:List UInt8} {m:Nat} (hm:m<s.length) (h:s.takeWhile p=s.take m++(s.drop m).takeWhile p) :
  (p s[m]=true→s.takeWhile p=s.take (m+1)++(s.drop (m+1)).takeWhile p)∧(p s[m]=false→s.takeWhile p=s.take m):=by
 have h1:s.drop m=s[m]::s.drop (m+1):=List.drop_eq_getElem_cons hm
 constructor
 ·intro hp
  rw[h,h1,List.takeWhile_cons_of_pos hp,List.take_succ_eq_append_getElem hm]
  simp only[List.append_assoc,List.singleton_append]
 ·intro hp
  rw[h,h1,List.takeWhile_cons_of_neg (by simp[hp])]
  simp
theorem takeWhile_end {p:UInt8→Bool} {s:List UInt8} {m:Nat} (hm:s.length≤m) (h:s.takeWhile p=s.take m++(s.drop m).takeWhile p):s.takeWhile p=s.take m:=by
 rw[h,List.drop_eq_nil_of_le hm]
 simp
def skipLen (s:List UInt8):Nat:=if [47,47].isPrefixOf s then (s.takeWhile notNl).length else (s.takeWhile isWhite).length
end Go.Stele
/- What the lexer computes, in plain Lean: tokens. -/
namespace Go.Stele
def zeroTok:Tok:=⟨0,[],0⟩
abbrev TokR:=Tok×Nat×Int
def tokErr (e:Int):TokR:=(zeroTok,0,e)
def wordNext (s:List UInt8) (n:Nat):Bool:=match s[n]? with
 |some c=>isLetter c || decide (cv c=95)
 |none=>false
def lexNumber (s:List UInt8):TokR:=
 if wordNext s (s.takeWhile isDigit).length then tokErr 3 else
  match Go.Lib.parseUintB 32 (s.takeWhile isDigit) with
  |.ok u=>(⟨1,Go.Lib.decDigits u,0⟩,(s.takeWhile isDigit).length,0)
  |_=>tokErr 2
def lexLiteral:List UInt8→TokR
 |_::b::c::_=>if (!decide (cv c=39)) || decide (cv b<32) || decide (126<cv b) || decide (cv b=39) || decide (cv b=92) then tokErr 3 else (⟨1,Go.Lib.decDigits b.toNat,0⟩,3,0)
 |_=>tokErr 3
def keywords:List (List UInt8):=[[97,114,114,97,121],[101,108,115,101],[102,117,110,99],[104,97,108,116],[105,102],[114,101,116,117,114,110],[118,97,114],[119,104,105,108,101]]
def signs:List (List UInt8):=[[38,38],[124,124],[61,61],[33,61],[60,61],[62,61],[60],[62],[94],[43],[45],[42],[47],[37],[33],[61],[40],[41],[123],[125],[91],[93],[44],[59]]
def lexName (s:List UInt8):TokR:=
 if 24<(s.takeWhile isInner).length then tokErr 7 else (⟨if keywords.contains (s.takeWhile isInner) then 3 else 2,s.takeWhile isInner,0⟩,(s.takeWhile isInner).length,0)
def lexSign (s:List UInt8):TokR:=match signs.find? (fun x=>x.isPrefixOf s) with
 |some x=>(⟨4,x,0⟩,x.length,0)
 |none=>tokErr 3
def lexToken (s:List UInt8):TokR:=match s with
 |[]=>tokErr 3
 |c::_=>if isDigit c then lexNumber s else if isLetter c then lexName s else if decide (cv c=39) then lexLiteral s else lexSign s
def lexP:Nat→List UInt8→Int→Except (Int×Int) (List Tok)
 |0,_,_=>.ok []
 |fuel+1,s,line=>
  if s=[] then .ok [] else
  if skipLen s=0 then
   if (lexToken s).2.2≠0 then .error (line,(lexToken s).2.2)
   else (lexP fuel (s.drop (lexToken s).2.1) (line+((s.take (lexToken s).2.1).count 10:Nat))).map ({ (lexToken s).1 with line:=line }::·)
  else lexP fuel (s.drop (skipLen s)) (line+((s.take (skipLen s)).count 10:Nat))
end Go.Stele
namespace Go.Stele
theorem takeWhile_le (p:UInt8→Bool) (s:List UInt8):(s.takeWhile p).length≤s.length:=(List.takeWhile_prefix p).length_le
theorem lexToken_size (s:List UInt8) (h:(lexToken s).2.2=0):0<(lexToken s).2.1∧(lexToken s).2.1≤s.length:=by
 match s with
 |[]=>simp[lexToken,tokErr] at h
 |c::r=>
  simp only[lexToken] at h ⊢
  split at h <;> rename_i hc
  ·rw[if_pos hc]
   unfold lexNumber at h ⊢
   split at h
   ·simp[tokErr] at h
   ·rename_i hw
    rw[if_neg hw]
    split at h
    ·rename_i u hu
     refine ⟨?_,takeWhile_le _ _⟩
     rw[List.takeWhile_cons_of_pos hc]
     simp
    ·simp[tokErr] at h
  ·rw[if_neg hc]
   split at h <;> rename_i hl
   ·rw[if_pos hl]
    unfold lexName at h ⊢
    split at h
    ·simp[tokErr] at h
    ·rename_i hw
     rw[if_neg hw]
     refine ⟨?_,takeWhile_le _ _⟩
     rw[List.takeWhile_cons_of_pos (by simp[isInner,hl])]
     simp
   ·rw[if_neg hl]
    split at h <;> rename_i hq
    ·rw[if_pos hq]
     unfold lexLiteral at h ⊢
     split at h
     ·split at h
      ·simp[tokErr] at h
      ·rename_i hx
       rename_i heq
       rw[if_neg hx,heq]
       simp
     ·simp[tokErr] at h
    ·rw[if_neg hq]
     unfold lexSign at h ⊢
     split at h
     ·rename_i x hx
      have h1:=List.find?_some hx
      have h2:=List.mem_of_find?_eq_some hx
      refine ⟨?_,(List.isPrefixOf_iff_prefix.1 h1).length_le⟩
      have:∀ x∈signs,0<x.length:=by decide
      exact this x h2
     ·simp[tokErr] at h
theorem skipLen_le (s:List UInt8):skipLen s≤s.length:=by
 unfold skipLen
 split <;> exact takeWhile_le _ _
end Go.Stele
namespace Go.Proofs.YtcbpcianefpniaaGreatDoor
open Go.GL Go.RowKit Go.Stele
set_option maxRecDepth 100000
set_option maxHeartbeats 4000000
noncomputable abbrev KC (B0:Nat) (w0:World):Ctx:=⟨Tryz.prog,B0,w0⟩
attribute [local irreducible] LOps LCode LStep LCalls Go.GL.Pure QThen QBlock RetPost
section
variable {B0:Nat} {w0:World}
theorem digit_spec (c:UInt8):LCalls (KC B0 w0) 130 [int .u8 c.toNat] [] (Ret (bool (isDigit c))):=by
 refine cI Tryz.func130 rfl (n:=9) rfl rfl rfl ?_
 refine gaa ?_
 refine oB 5 rfl (fun ht=>?_) (fun ht=>?_)
 ·refine gab ?_
  exact retRet rfl (zra rfl) (by simp[resLV,isDigit,ht])
 ·refine gac ?_
  exact retRet rfl (zra rfl) (by simp[resLV,isDigit,ht])
theorem letter_spec (c:UInt8):LCalls (KC B0 w0) 132 [int .u8 c.toNat] [] (Ret (bool (isLetter c))):=by
 refine cI Tryz.func132 rfl (n:=9) rfl rfl rfl ?_
 refine gaa ?_
 refine oB 5 rfl (fun ht=>?_) (fun ht=>?_)
 ·refine gab ?_
  exact retRet rfl (zra rfl) (by simp[resLV,isLetter,ht])
 ·refine gac ?_
  exact retRet rfl (zra rfl) (by simp[resLV,isLetter,ht])
theorem notNl_spec (c:UInt8):LCalls (KC B0 w0) 128 [int .u8 c.toNat] [] (Ret (bool (notNl c))):=by
 refine cI Tryz.func128 rfl (n:=5) rfl rfl rfl ?_
 refine gaa ?_
 exact retRet rfl (zra rfl) rfl
theorem inner_spec (c:UInt8):LCalls (KC B0 w0) 174 [int .u8 c.toNat] [] (Ret (bool (isInner c))):=by
 refine cI Tryz.func174 rfl (n:=13) rfl rfl rfl ?_
 refine gan ?_
 refine oS (S.fn [_] rfl (letter_spec c) ?_) rfl
 refine gag ?_
 refine oB 5 rfl (fun ht=>?_) (fun ht=>?_)
 ·refine gac ?_
  exact retRet rfl (zra rfl) (by simp[resLV,isInner,ht])
 ·refine gag ?_
  refine oS (S.fn [_] rfl (digit_spec c) ?_) rfl
  refine gac ?_
  refine oB 9 rfl (fun hd=>?_) (fun hd=>?_)
  ·refine gac ?_
   exact retRet rfl (zra rfl) (by simp[resLV,isInner,ht,hd])
  ·refine gac ?_
   exact retRet rfl (zra rfl) (by simp[resLV,isInner,ht,hd])
theorem white_spec (c:UInt8):LCalls (KC B0 w0) 129 [int .u8 c.toNat] [] (Ret (bool (isWhite c))):=by
 refine cI Tryz.func129 rfl (n:=13) rfl rfl rfl ?_
 refine gad ?_
 refine oB 5 rfl (fun ht=>?_) (fun ht=>?_)
 ·refine gac ?_
  exact retRet rfl (zra rfl) (by simp[resLV,isWhite,ht])
 ·refine gac ?_
  refine oB 9 rfl (fun hd=>?_) (fun hd=>?_)
  ·refine gac ?_
   exact retRet rfl (zra rfl) (by simp[resLV,isWhite,ht,hd])
  ·refine gac ?_
   exact retRet rfl (zra rfl) (by simp[resLV,isWhite,ht,hd])
end
end Go.Proofs.YtcbpcianefpniaaGreatDoor
namespace Go.Stele
inductive Res (A:Type) where
 |ok (v:A) (at' op:Nat)
 |err (line e:Int)
def failLine (T:List Tok) (i:Nat):Int:=match T[min i (T.length-1)]? with
 |some t=>t.line
 |none=>1
def synErr {A:Type} (T:List Tok) (i:Nat):Res A:=.err (failLine T i) 3
def isTok (T:List Tok) (i:Nat) (xs:List (List UInt8)):Bool:=match T[i]? with
 |some t=>(decide (t.kind=3) || decide (t.kind=4)) && xs.contains t.text
 |none=>false
def sWord (T:List Tok) (k:Int) (i op:Nat):Res (List UInt8):=match T[i]? with
 |some t=>if t.kind=k then .ok t.text (i+1) op else synErr T i
 |none=>synErr T i
def sNeed (T:List Tok) (x:List UInt8) (i op:Nat):Res Unit:=if isTok T i [x] then .ok () (i+1) op else synErr T i
def sBegin (T:List Tok) (x:List UInt8) (i op:Nat):Res Unit:=
 if isTok T i [x] then (if 100≤op then .err (failLine T i) 6 else .ok () (i+1) (op+1)) else synErr T i
def Res.bind {A B:Type} (r:Res A) (f:A→Nat→Nat→Res B):Res B:=match r with
 |.ok v i op=>f v i op
 |.err l e=>.err l e
def numOf (s:List UInt8):Nat:=match Go.Lib.parseUintB 32 s with
 |.ok u=>u
 |_=>0
end Go.Stele
/- What the parser computes, in plain Lean: expressions and statements, by fuel. -/
namespace Go.Stele
inductive Ex where
 |mk (op:List UInt8) (num:Nat) (name:List UInt8) (args:List Ex)
 deriving Inhabited
inductive Sm where
 |mk (kind:Int) (name:List UInt8) (index value:List Ex) (thn els:List Sm)
 deriving Inhabited
structure FnD where
 name:List UInt8
 params:List (List UInt8)
 locals:List (List UInt8)
 body:List Sm
 deriving Inhabited
structure Ar where
 name:List UInt8
 size:Nat
 deriving Inhabited
structure Pr where
 vars:List (List UInt8)
 arrays:List Ar
 funcs:List FnD
 deriving Inhabited
def lvOps:Nat→List (List UInt8)
 |0=>[[124,124]]
 |1=>[[38,38]]
 |2=>[[61,61],[33,61],[60],[62],[60,61],[62,61]]
 |3=>[[94]]
 |4=>[[43],[45]]
 |5=>[[42],[47],[37]]
 |_=>[]
abbrev OR (A:Type):=Option (Res A)
def obind {A B:Type} (r:OR A) (f:A→Nat→Nat→OR B):OR B:=match r with
 |none=>none
 |some (.ok v i op)=>f v i op
 |some (.err l e)=>some (.err l e)
def textAt (T:List Tok) (i:Nat):List UInt8:=match T[i]? with
 |some t=>t.text
 |none=>[]
def kindAt (T:List Tok) (i:Nat):Int:=match T[i]? with
 |some t=>t.kind
 |none=>0
def sEnd (T:List Tok) (x:List UInt8) (i op:Nat):Res Unit:=(sNeed T x i op).bind fun _ i' op'=>.ok () i' (op'-1)
def sNumber (T:List Tok) (i op:Nat):Res Nat:=(sWord T 1 i op).bind fun s i' op'=>.ok (numOf s) i' op'
def sNamesLoop (T:List Tok):Nat→List (List UInt8)→Nat→Nat→OR (List (List UInt8))
 |0,_,_,_=>none
 |f+1,acc,i,op=>if isTok T i [[44]] then obind (some (sWord T 2 (i+1) op)) fun s i' op'=>sNamesLoop T f (acc++[s]) i' op' else some (.ok acc i op)
def sNames (T:List Tok) (f:Nat) (i op:Nat):OR (List (List UInt8)):=obind (some (sWord T 2 i op)) fun s i' op'=>sNamesLoop T f [s] i' op'
def nNeg:List UInt8:=[110,101,103]
def nNot:List UInt8:=[110,111,116]
def nNum:List UInt8:=[110,117,109]
def nElem:List UInt8:=[101,108,101,109]
def nCall:List UInt8:=[99,97,108,108]
def nVar:List UInt8:=[118,97,114]
mutual
def eLev (T:List Tok):Nat→Nat→Nat→Nat→OR Ex
 |0,_,_,_=>none
 |f+1,k,i,op=>if k=6 then eUnary T f i op else obind (eLev T f (k+1) i op) fun e i' op'=>eLoop T f k e i' op'
def eLoop (T:List Tok):Nat→Nat→Ex→Nat→Nat→OR Ex
 |0,_,_,_,_=>none
 |f+1,k,e,i,op=>
  if isTok T i (lvOps k) then obind (eLev T f (k+1) (i+1) op) fun e2 i' op'=>
   if k=2 then some (.ok (.mk (textAt T i) 0 [] [e,e2]) i' op') else eLoop T f k (.mk (textAt T i) 0 [] [e,e2]) i' op'
  else some (.ok e i op)
def eUnary (T:List Tok):Nat→Nat→Nat→OR Ex
 |0,_,_=>none
 |f+1,i,op=>
  if isTok T i [[45]] then obind (some (sBegin T [45] i op)) fun _ i' op'=>obind (eUnary T f i' op') fun e i' op'=>some (.ok (.mk nNeg 0 [] [e]) i' (op'-1))
  else if isTok T i [[33]] then obind (some (sBegin T [33] i op)) fun _ i' op'=>obind (eUnary T f i' op') fun e i' op'=>some (.ok (.mk nNot 0 [] [e]) i' (op'-1))
  else ePrim T f i op
def ePrim (T:List Tok):Nat→Nat→Nat→OR Ex
 |0,_,_=>none
 |f+1,i,op=>
  if isTok T i [[40]] then obind (some (sBegin T [40] i op)) fun _ i' op'=>obind (eLev T f 0 i' op') fun e i' op'=>obind (some (sEnd T [41] i' op')) fun _ i' op'=>some (.ok e i' op')
  else if kindAt T i=1 then obind (some (sNumber T i op)) fun n i' op'=>some (.ok (.mk nNum n [] []) i' op')
  else obind (some (sWord T 2 i op)) fun s i' op'=>
   if isTok T i' [[91]] then obind (eIndex T f i' op') fun e i' op'=>some (.ok (.mk nElem 0 s [e]) i' op')
   else if isTok T i' [[40]] then obind (eArgs T f i' op') fun l i' op'=>some (.ok (.mk nCall 0 s l) i' op')
   else some (.ok (.mk nVar 0 s []) i' op')
def eIndex (T:List Tok):Nat→Nat→Nat→OR Ex
 |0,_,_=>none
 |f+1,i,op=>obind (some (sBegin T [91] i op)) fun _ i' op'=>obind (eLev T f 0 i' op') fun e i' op'=>obind (some (sEnd T [93] i' op')) fun _ i' op'=>some (.ok e i' op')
def eArgs (T:List Tok):Nat→Nat→Nat→OR (List Ex)
 |0,_,_=>none
 |f+1,i,op=>obind (some (sBegin T [40] i op)) fun _ i' op'=>obind (eArgsLoop T f [] i' op') fun l i' op'=>obind (some (sEnd T [41] i' op')) fun _ i' op'=>some (.ok l i' op')
def eArgsLoop (T:List Tok):Nat→List Ex→Nat→Nat→OR (List Ex)
 |0,_,_,_=>none
 |f+1,acc,i,op=>
  if isTok T i [[41]] then some (.ok acc i op)
  else obind (some (if acc=[] then .ok () i op else sNeed T [44] i op)) fun _ i' op'=>obind (eLev T f 0 i' op') fun e i' op'=>eArgsLoop T f (acc++[e]) i' op'
end
def kwIf:List UInt8:=[105,102]
def kwElse:List UInt8:=[101,108,115,101]
def kwWhile:List UInt8:=[119,104,105,108,101]
def kwReturn:List UInt8:=[114,101,116,117,114,110]
def kwHalt:List UInt8:=[104,97,108,116]
def kwVar:List UInt8:=[118,97,114]
def kwArray:List UInt8:=[97,114,114,97,121]
def kwFunc:List UInt8:=[102,117,110,99]
end Go.Stele
namespace Go.Stele
mutual
def sBlock (T:List Tok):Nat→Nat→Nat→OR (List Sm)
 |0,_,_=>none
 |f+1,i,op=>obind (some (sBegin T [123] i op)) fun _ i' op'=>obind (sStmts T f [] i' op') fun l i' op'=>obind (some (sEnd T [125] i' op')) fun _ i' op'=>some (.ok l i' op')
def sStmts (T:List Tok):Nat→List Sm→Nat→Nat→OR (List Sm)
 |0,_,_,_=>none
 |f+1,acc,i,op=>if isTok T i [[125]] then some (.ok acc i op) else obind (sStmt T f i op) fun s i' op'=>sStmts T f (acc++[s]) i' op'
def sStmt (T:List Tok):Nat→Nat→Nat→OR Sm
 |0,_,_=>none
 |f+1,i,op=>
  if isTok T i [kwIf] then obind (eLev T f 0 (i+1) op) fun e i' op'=>obind (sBlock T f i' op') fun th i' op'=>
   if isTok T i' [kwElse] then obind (sBlock T f (i'+1) op') fun el i' op'=>some (.ok (.mk 3 [] [] [e] th el) i' op') else some (.ok (.mk 3 [] [] [e] th []) i' op')
  else if isTok T i [kwWhile] then obind (eLev T f 0 (i+1) op) fun e i' op'=>obind (sBlock T f i' op') fun th i' op'=>some (.ok (.mk 4 [] [] [e] th []) i' op')
  else obind (sSimple T f i op) fun s i' op'=>obind (some (sNeed T [59] i' op')) fun _ i' op'=>some (.ok s i' op')
def sSimple (T:List Tok):Nat→Nat→Nat→OR Sm
 |0,_,_=>none
 |f+1,i,op=>
  if isTok T i [kwReturn] then obind (eLev T f 0 (i+1) op) fun e i' op'=>some (.ok (.mk 5 [] [] [e] [] []) i' op')
  else if isTok T i [kwHalt] then some (.ok (.mk 7 [] [] [] [] []) (i+1) op)
  else obind (some (sWord T 2 i op)) fun s i' op'=>
   if isTok T i' [[40]] then obind (eArgs T f i' op') fun l i' op'=>some (.ok (.mk 6 [] [] [.mk nCall 0 s l] [] []) i' op')
   else if isTok T i' [[91]] then obind (eIndex T f i' op') fun x i' op'=>obind (some (sNeed T [61] i' op')) fun _ i' op'=>obind (eLev T f 0 i' op') fun e i' op'=>some (.ok (.mk 2 s [x] [e] [] []) i' op')
   else obind (some (sNeed T [61] i' op')) fun _ i' op'=>obind (eLev T f 0 i' op') fun e i' op'=>some (.ok (.mk 1 s [] [e] [] []) i' op')
end
def sVars (T:List Tok):Nat→List (List UInt8)→Nat→Nat→OR (List (List UInt8))
 |0,_,_,_=>none
 |f+1,acc,i,op=>if isTok T i [kwVar] then obind (sNames T f (i+1) op) fun l i' op'=>obind (some (sNeed T [59] i' op')) fun _ i' op'=>sVars T f (acc++l) i' op' else some (.ok acc i op)
def sFunc (T:List Tok) (f:Nat) (i op:Nat):OR FnD:=
 obind (some (sWord T 2 i op)) fun nm i' op'=>obind (some (sBegin T [40] i' op')) fun _ i' op'=>
 obind (if isTok T i' [[41]] then some (.ok [] i' op') else sNames T f i' op') fun ps i' op'=>obind (some (sEnd T [41] i' op')) fun _ i' op'=>
 obind (some (sBegin T [123] i' op')) fun _ i' op'=>obind (sVars T f [] i' op') fun ls i' op'=>obind (sStmts T f [] i' op') fun b i' op'=>
 obind (some (sEnd T [125] i' op')) fun _ i' op'=>some (.ok ⟨nm,ps,ls,b⟩ i' op')
def sArray (T:List Tok) (i op:Nat):OR Ar:=
 obind (some (sWord T 2 i op)) fun nm i' op'=>obind (some (sBegin T [91] i' op')) fun _ i' op'=>obind (some (sNumber T i' op')) fun n i' op'=>
 obind (some (sEnd T [93] i' op')) fun _ i' op'=>obind (some (sNeed T [59] i' op')) fun _ i' op'=>some (.ok ⟨nm,n⟩ i' op')
def sProg (T:List Tok):Nat→Pr→Nat→Nat→OR Pr
 |0,_,_,_=>none
 |f+1,p,i,op=>
  if T.length≤i then some (.ok p i op)
  else if isTok T i [kwVar] then obind (sVars T f [] i op) fun l i' op'=>sProg T f { p with vars:=p.vars++l } i' op'
  else if isTok T i [kwArray] then obind (sArray T (i+1) op) fun a i' op'=>sProg T f { p with arrays:=p.arrays++[a] } i' op'
  else if isTok T i [kwFunc] then obind (sFunc T f (i+1) op) fun a i' op'=>sProg T f { p with funcs:=p.funcs++[a] } i' op'
  else some (synErr T i)
end Go.Stele
namespace Go.Stele
def exOp:Ex→List UInt8|.mk o _ _ _=>o
def exNum:Ex→Nat|.mk _ n _ _=>n
def exName:Ex→List UInt8|.mk _ _ n _=>n
def smKind:Sm→Int|.mk k _ _ _ _ _=>k
def smName:Sm→List UInt8|.mk _ n _ _ _ _=>n
def smIndex:Sm→List Ex|.mk _ _ i _ _ _=>i
def smValue:Sm→List Ex|.mk _ _ _ v _ _=>v
end Go.Stele
namespace Go.Proofs.YtcbpcianefpniaaGreatDoor
open Go.GL Go.RowKit Go.Stele
mutual
def encArgs:Ex→List LV
 |.mk _ _ _ a=>encEs a
def encEs:List Ex→List LV
 |[]=>[]
 |e::r=>.agg [str (exOp e),int .u32 (exNum e),str (exName e),.list (encArgs e)]::encEs r
end
def encE (e:Ex):LV:=.agg [str (exOp e),int .u32 (exNum e),str (exName e),.list (encArgs e)]
theorem encEs_map:∀ l:List Ex,encEs l=l.map encE
 |[]=>by simp[encEs]
 |e::r=>by rw[encEs,encEs_map r];rfl
theorem encArgs_map (o:List UInt8) (n:Nat) (nm:List UInt8) (a:List Ex):encArgs (.mk o n nm a)=a.map encE:=by rw[encArgs,encEs_map]
theorem encE_mk (o:List UInt8) (n:Nat) (nm:List UInt8) (a:List Ex):encE (.mk o n nm a)=.agg [str o,int .u32 n,str nm,.list (a.map encE)]:=by rw[encE,encArgs_map];rfl
mutual
def encThen:Sm→List LV
 |.mk _ _ _ _ t _=>encSs t
def encElse:Sm→List LV
 |.mk _ _ _ _ _ e=>encSs e
def encSs:List Sm→List LV
 |[]=>[]
 |s::r=>.agg [int .i64 (smKind s),str (smName s),.list ((smIndex s).map encE),.list ((smValue s).map encE),.list (encThen s),.list (encElse s)]::encSs r
end
def encS (s:Sm):LV:=.agg [int .i64 (smKind s),str (smName s),.list ((smIndex s).map encE),.list ((smValue s).map encE),.list (encThen s),.list (encElse s)]
theorem encSs_map:∀ l:List Sm,encSs l=l.map encS
 |[]=>by simp[encSs]
 |e::r=>by rw[encSs,encSs_map r];rfl
theorem encS_mk (k:Int) (n:List UInt8) (i v:List Ex) (t e:List Sm):encS (.mk k n i v t e)=.agg [int .i64 k,str n,.list (i.map encE),.list (v.map encE),.list (t.map encS),.list (e.map encS)]:=by
 rw[encS,encThen,encElse,encSs_map,encSs_map];rfl
def encAr (a:Ar):LV:=.agg [str a.name,int .i64 a.size]
def encFn (f:FnD):LV:=.agg [str f.name,.list (f.params.map str),.list (f.locals.map str),.list (f.body.map encS)]
def encPr (p:Pr):LV:=.agg [.list (p.vars.map str),.list (p.arrays.map encAr),.list (p.funcs.map encFn)]
end Go.Proofs.YtcbpcianefpniaaGreatDoor
namespace Go.GL
open Go.RowKit
class TIface (P:Program) (t:TypeId):Prop where
 und:∃ ms,P.underlying t=some (.interface ms)
def chkIface (P:Program) (t:Nat):Bool:=match P.underlying t with|some (.interface _)=>true|_=>false
theorem TIface.of {P:Program} {t:Nat} (h:chkIface P t=true):TIface P t:=by
 unfold chkIface at h
 refine ⟨?_⟩
 cases hu:P.underlying t with
 |none=>rw[hu] at h;simp at h
 |some d=>rw[hu] at h;cases d <;> simp_all
section
variable {C:Ctx} {e:Env} {H:Heap} {dst:Option Nat} {ty:TypeId} {pos:String} {aft:Array Edge} {g:Option (Nat×Bool)} {xT yT:TypeId} {x:Operand}
theorem equal_step (t:TypeId) (x y:Value):Op.equal t x y=Op.equalIn (9999+1) t x y:=rfl
theorem run_equal_nil {P:Program} {t:TypeId} [h:TIface P t] (w:World):(Op.equal t .nilIface .nilIface).run P w=.ok true w:=by
 obtain ⟨ms,hu⟩:=h.und
 rw[equal_step,Op.equalIn]
 simp only[Sem.run_bind,run_underlying' hu,Result.andThen_ok,Sem.run_pure]
theorem run_equal_iface {P:Program} {t:TypeId} [h:TIface P t] (u:TypeId) (p:Value) (w:World):(Op.equal t (.iface u p) .nilIface).run P w=.ok false w:=by
 obtain ⟨ms,hu⟩:=h.und
 rw[equal_step,Op.equalIn]
 simp only[Sem.run_bind,run_underlying' hu,Result.andThen_ok,Sem.run_pure]
theorem Pure.nilNeqNil [TIface C.P xT] (hx:e.ev x=.atom .nilIface):Pure C ⟨dst,.binOp .neq xT x (.const .nilIface) yT,ty,pos,aft,g⟩ e H (bool false):=
 .of_any fun ρ _ _ h=>⟨_,rep_atom,fun w'=>by
  have h1:=atom_of h hx
  have h2:=atom_of h (x:=.const .nilIface) rfl
  have he:eqGuard .neq xT x (.const .nilIface) .nilIface .nilIface=Pure.pure ():=by simp[eqGuard]
  have hb:binOp .neq xT .nilIface .nilIface=(do Pure.pure (.bool (!(←Op.equal xT .nilIface .nilIface)))):=rfl
  simp only[execOp,h1,h2,he,hb,Sem.run_bind,Sem.run_pure,Result.andThen_ok,run_equal_nil,Bool.not_true]⟩
theorem Pure.ifaceNeqNil [TIface C.P xT] {u:TypeId} {p:Value} (hx:e.ev x=.atom (.iface u p)):Pure C ⟨dst,.binOp .neq xT x (.const .nilIface) yT,ty,pos,aft,g⟩ e H (bool true):=
 .of_any fun ρ _ _ h=>⟨_,rep_atom,fun w'=>by
  have h1:=atom_of h hx
  have h2:=atom_of h (x:=.const .nilIface) rfl
  have he:eqGuard .neq xT x (.const .nilIface) (.iface u p) .nilIface=Pure.pure ():=by simp[eqGuard]
  have hb:binOp .neq xT (.iface u p) .nilIface=(do Pure.pure (.bool (!(←Op.equal xT (.iface u p) .nilIface)))):=rfl
  simp only[execOp,h1,h2,he,hb,Sem.run_bind,Sem.run_pure,Result.andThen_ok,run_equal_iface,Bool.not_false]⟩
theorem str_eq {a b:List UInt8} (h:a=b):str a=str b:=by rw[h]
theorem Pure.cvt {k k0 k':IntKind} {s d:TypeId} {n:Int} [hs:TKind C.P s k0] [hd:TKind C.P d k'] (hx:e.ev x=int k n):Pure C ⟨dst,.convert s d x,ty,pos,aft,g⟩ e H (int k' (k'.wrap n)):=Pure.convInt ⟨_,hs.und⟩ hx
end
end Go.GL
/- A small logic over the walk's 'Code.wp': drawn regions in which more than one operation may come up; division; bytes to a string. -/
namespace Go.GL
open Go.RowKit
section any
variable {C:Ctx} {n:Nat} {ops:Array Oper} {Q:Post} {HF:Heap} {fuel:Nat} {listed:Array Bool} {e:Env} {H:Heap}
def LLateOp (C:Ctx) (n:Nat) (ops:Array Oper) (Q:Post) (HF:Heap) (fuel:Nat) (listed:Array Bool) (e:Env) (H:Heap) (i:Nat):Prop:=
 ∀ w0 L0 a w L,(∀ b,L0 b≤L b)→Agree w0 L0 HF w→(∀ p∈HF,p.1<w.heap.size)→RelE n a e w L→RelH C w L H →
  wpOp C.P ops (lift C n w L (keys H) Q) i (fun a' w'=>Agree w0 L0 HF w'∧wpAnyH C.P .any ops (lift C n w L (keys H) Q) (Agree w0 L0 HF) fuel (listed.setIfInBounds i true) a' w') a w
theorem LLate.all {is:List Nat} (hr:Region.ready .any ops listed=is) (hne:is≠[]) (h:∀ i∈is,LLateOp C n ops Q HF fuel listed e H i):LLate C n ops Q HF (fuel+1) listed e H:=fun w0 L0 a w L hL hA hsz hE hH=>
 wpAnyH_all hr hne fun j hj=>h j hj w0 L0 a w L hL hA hsz hE hH
theorem lS {i:Nat} {dst:Option Nat} {op:Op} {ty:TypeId} {pos:String} {aft:Array Edge} {g:Option (Nat×Bool)} {H1 F:Heap} (hi:ops[i]? = some ⟨dst,op,ty,pos,aft,g⟩) (hg:g=none∨∃ j b d,g=some (j,b)∧(ops[j]?).bind (·.dst)=some d∧e.s d=.atom (.bool b)) (hd:dstOk n dst)
  (p:H.Perm (H1++F)) (hHF:HSub HF F)
  (h:LStep C ⟨dst,op,ty,pos,aft,g⟩ e H1 (fun lv H'=>LLate C n ops Q HF fuel (listed.setIfInBounds i true) (e.put dst lv) (H'++F)) (fun ch H'=>∀ e',e'.ds=e.ds→Q (.panic ch) e' (H'++F))) :
  LLateOp C n ops Q HF fuel listed e H i:=fun w0 L0 a w L hL hA hsz hE hH=>by
 have hH':=hH.perm p
 have hn:(keys H1++keys F).Nodup:=by simpa [keys] using hH'.nodup
 have hdis:∀ q∈HF,q.1 ∉ keys H1:=fun q hq hm=>(List.nodup_append.1 hn).2.2 _ hm _ (List.mem_map_of_mem (hHF.mem q hq)) rfl
 have hw:Region.wanted ⟨dst,op,ty,pos,aft,g⟩ (yielded ops a.tmps)=true:=by
  rcases hg with rfl|⟨j,b,d,rfl,hj,hb⟩
  ·simp[Region.wanted]
  ·simp[Region.wanted,yielded_env hE hj hb]
 unfold wpOp
 rw[hi]
 simp only
 rw[if_pos hw]
 refine .inl (step_wp (H:=H1) h hd hE hH'.left (fun lv H' L' w' a' h1 h2 h3 h4=>?_) (fun ch H' L' w' h1 h2 h3=>?_))
 ·have hfr:=hH'.frame h1 h2
  have hag:Agree w0 L0 HF w':=⟨fun q hq=>(h1.block q.1 (hsz q hq) (hdis q hq)).trans (hA.1 q hq),fun b i hi=>(h1.ext.live b i (Nat.lt_of_lt_of_le hi (hL b))).trans (hA.2 b i hi)⟩
  exact ⟨hag,wpAnyH_mono (fun _ _ _=>lift_trans (hfr.2.perm p.symm)) _ _ _ _ (h4 w0 L0 a' w' L' (fun b=>Nat.le_trans (hL b) (h1.ext.mono b)) hag (fun q hq=>Nat.lt_of_lt_of_le (hsz q hq) h1.ext.size) h3 hfr.1)⟩
 ·have hfr:=hH'.frame h1 h2
  exact ⟨e,H'++F,L',hfr.2.perm p.symm,hfr.1,hE.ds,h3 e rfl⟩
theorem zl1 {i:Nat} (hr:Region.ready .any ops listed=[i]) (h:LLateOp C n ops Q HF fuel listed e H i):LLate C n ops Q HF (fuel+1) listed e H:=
 LLate.all hr (by simp) fun j hj=>by
  obtain rfl:=List.mem_singleton.1 hj
  exact h
theorem LLate.two {i j:Nat} (hr:Region.ready .any ops listed=[i,j]) (h:LLateOp C n ops Q HF fuel listed e H i) (h':LLateOp C n ops Q HF fuel listed e H j):LLate C n ops Q HF (fuel+1) listed e H:=
 LLate.all hr (by simp) fun k hk=>by
  rcases List.mem_cons.1 hk with rfl|hk
  ·exact h
  ·obtain rfl:=List.mem_singleton.1 hk
   exact h'
theorem lW {i:Nat} {dst:Option Nat} {op:Op} {ty:TypeId} {pos:String} {aft:Array Edge} {g:Option (Nat×Bool)} (hi:ops[i]? = some ⟨dst,op,ty,pos,aft,g⟩) (hg:g=none∨∃ j b d,g=some (j,b)∧(ops[j]?).bind (·.dst)=some d∧e.s d=.atom (.bool b)) (hd:dstOk n dst)
  (h:LStep C ⟨dst,op,ty,pos,aft,g⟩ e H (fun lv H'=>LLate C n ops Q [] fuel (listed.setIfInBounds i true) (e.put dst lv) H') (fun ch H'=>∀ e',e'.ds=e.ds→Q (.panic ch) e' H')) :
  LLateOp C n ops Q [] fuel listed e H i:=lS (H1:=H) (F:=[]) hi hg hd (by simp) zhn (by simpa using h)
end any
theorem LQ.bcase {C:Ctx} {n:Nat} {ops:Array Oper} {K:Env→Prop} {e:Env} {H:Heap} {rest:List Oper} (d:Nat) {b:Bool} (hb:e.s d=bool b) (ht:b=true→LQ C n ops K rest (e.upd d (bool true)) H) (hf:b=false→LQ C n ops K rest (e.upd d (bool false)) H):LQ C n ops K rest e H:=by
 cases b
 ·have:=hf rfl;rwa [Env.upd_self hb] at this
 ·have:=ht rfl;rwa [Env.upd_self hb] at this
section pure
variable {C:Ctx} {e:Env} {H:Heap} {dst:Option Nat} {ty:TypeId} {pos:String} {aft:Array Edge} {g:Option (Nat×Bool)} {xT yT:TypeId} {x y:Operand} {k:IntKind} {a b:Int}
theorem Pure.bytesStr {s d el:TypeId} [hs:TSlice C.P s el 1] [he:TKind C.P el .u8] [hd:TStr C.P d] {l:List UInt8} (hx:elems (e.ev x)=some (l.map fun b=>int .u8 b.toNat)) (hne:l≠[]) :
  Pure C ⟨dst,.convert s d x,ty,pos,aft,g⟩ e H (str l):=fun ρ w L h _=>by
 obtain ⟨a,cap,hv,hcap,hr⟩:=(h x).elems hx
 obtain ⟨b,off,k',rfl,hrr⟩:=hr (by simpa using hne)
 refine ⟨_,rep_atom,fun w' ha=>?_⟩
 have h0:execOp ρ ⟨dst,.convert s d x,ty,pos,aft,g⟩=(do Pure.pure (.value (←convert s d (ρ x)))):=rfl
 have hlen:(l.map fun b=>int .u8 b.toNat).length=l.length:=by simp
 have:=run_convert_bytes_back (P:=C.P) w' s d el ⟨b,off,none⟩ cap l hs.und he.und hd.und (fun j hj=>by
  obtain ⟨h1,h2⟩:=hrr.get (i:=j) (e:=int .u8 l[j].toNat) (by simp[hj])
  simp only[LV.cells,RepC,List.length_singleton] at h1 h2
  obtain ⟨h3,⟨v,h4,h5⟩,_⟩:=h2
  simp only[Rep] at h5
  subst h5
  subst h1
  rw[Nat.mul_one] at h3 h4
  rw[add_mk]
  rw[ha.2 b _ h3]
  exact h4)
 rw[h0,hv,hlen]
 simp only[Sem.run_bind,this,Result.andThen_ok,Sem.run_pure]
end pure
end Go.GL
namespace Go.GL
open Go.RowKit
theorem aT (i:Nat) {C:Ctx} {n:Nat} {ops:Array Oper} {Q:Post} {HF:Heap} {fuel:Nat} {listed:Array Bool} {e:Env} {H:Heap} {dst:Option Nat} {op:Op} {ty:TypeId} {pos:String} {aft:Array Edge} {lv:LV}
  (hi:ops[i]? = some ⟨dst,op,ty,pos,aft,none⟩) (hd:dstOk n dst) (hp:Pure C ⟨dst,op,ty,pos,aft,none⟩ e HF lv) (k:LAny C n ops Q HF fuel (listed.setIfInBounds i true) (e.put dst lv) H) (hs:Region.noSelect ops=true:=by kernel_rfl) (hf:Region.free .any ops listed i=true:=by kernel_rfl) (hr:(Region.ready .any ops listed).contains i=true:=by kernel_rfl)
  (hHF:HSub HF H:=by first|exact HSub.nil _|exact HSub.refl _|exact zhD zhr|exact zhP pH zhn|exact zhP zp1 zhn|exact zhP zp2 zhn|exact zhP pH zhp|exact ⟨_,List.Perm.refl _⟩):LAny C n ops Q HF (fuel+1) listed e H:=LAny.take hHF hi hs hf hr hd hp k
theorem LAny.tkW (i:Nat) {C:Ctx} {n:Nat} {ops:Array Oper} {Q:Post} {HF:Heap} {fuel:Nat} {listed:Array Bool} {e:Env} {H:Heap} {j d:Nat} {b:Bool} {dst:Option Nat} {op:Op} {ty:TypeId} {pos:String} {aft:Array Edge} {lv:LV}
  (hi:ops[i]? = some ⟨dst,op,ty,pos,aft,some (j,b)⟩) (hj:(ops[j]?).bind (·.dst)=some d) (hb:e.s d=.atom (.bool b)) (hd:dstOk n dst) (hp:Pure C ⟨dst,op,ty,pos,aft,some (j,b)⟩ e HF lv) (k:LAny C n ops Q HF fuel (listed.setIfInBounds i true) (e.put dst lv) H) (hs:Region.noSelect ops=true:=by kernel_rfl) (hf:Region.free .any ops listed i=true:=by kernel_rfl) (hr:(Region.ready .any ops listed).contains i=true:=by kernel_rfl)
  (hHF:HSub HF H:=by first|exact HSub.nil _|exact HSub.refl _|exact zhD zhr|exact zhP pH zhn|exact zhP zp1 zhn|exact zhP zp2 zhn|exact zhP pH zhp|exact ⟨_,List.Perm.refl _⟩):LAny C n ops Q HF (fuel+1) listed e H:=LAny.takeWant hHF hi hj hb hs hf hr hd hp k
theorem lO {C:Ctx} {n:Nat} {ops:Array Oper} {Q:Post} {HF:Heap} {fuel:Nat} {listed:Array Bool} {e:Env} {H:Heap} (i:Nat) (h:LLateOp C n ops Q HF fuel listed e H i) (hr:Region.ready .any ops listed=[i]:=by kernel_rfl):LLate C n ops Q HF (fuel+1) listed e H:=zl1 hr h
end Go.GL
namespace Go.GL
open Go.RowKit
section
variable {C:Ctx} {e:Env} {H:Heap} {dst:Option Nat} {ty:TypeId} {pos:String} {aft:Array Edge} {g:Option (Nat×Bool)} {K:LV→Heap→Prop} {X:List PanicEntry→Heap→Prop} {x y:Operand}
theorem S.accF {sT xT el s bytes:Nat} [ht:TSlice C.P sT el s] [hr:TRow C.P el s bytes] {e2 s2:Nat} [hx2:TSlice C.P xT e2 s2] {v:LV} {es ms:List LV} {H1 F A:Heap}
  (hp:H.Perm (H1++A)) (hx:e.ev x=v) (ha:Acc s v es H1 F) (hy:GL.elems (e.ev y)=some ms) (hs:∀ v∈ms,v.cells.length=s) (hok:(ms.flatMap LV.cells).all cellOk=true) (hroom:(es.length+ms.length) * bytes≤140737488355328)
  (hk:∀ v' H',Acc s v' (es++ms) H' F→K v' (A++H')):LStep C ⟨dst,.call { callee:=.builtin .append,args:=#[x,y],argTypes:=#[sT,xT] },ty,pos,aft,g⟩ e H K X:=by
 refine LStep.conseq (K:=fun lv H'=>∃ H2,H'=H2++A∧Acc s lv (es++ms) H2 F) (LStep.frame hp (S.acc hx ha hy hs hok hroom fun v' H' h=>⟨H',rfl,h⟩)) ?_
 rintro lv H' ⟨H2,rfl,h⟩
 exact ⟨lv,A++H2,LV.Sub.refl _,⟨[],by simpa using List.perm_append_comm⟩,hk _ _ h⟩
theorem S.acc1 {sT xT el s bytes:Nat} [ht:TSlice C.P sT el s] [hr:TRow C.P el s bytes] {e2 s2:Nat} [hx2:TSlice C.P xT e2 s2] {v:LV} {es ms:List LV} {H1 F:Heap} {q:Nat×LObj}
  (hx:e.ev x=v) (ha:Acc s v es H1 F) (hy:GL.elems (e.ev y)=some ms) (hs:∀ v∈ms,v.cells.length=s) (hok:(ms.flatMap LV.cells).all cellOk=true) (hroom:(es.length+ms.length) * bytes≤140737488355328)
  (hk:∀ v' H',Acc s v' (es++ms) H' F→K v' (q::H')):LStep C ⟨dst,.call { callee:=.builtin .append,args:=#[x,y],argTypes:=#[sT,xT] },ty,pos,aft,g⟩ e (q::H1) K X:=
 S.accF (A:=[q]) ((List.perm_append_singleton _ _).symm) hx ha hy hs hok hroom hk
end
end Go.GL
namespace Go.GL
open Go.RowKit
def noCells:Obj→Bool
 |.cells _ _ _=>false
 |_=>true
theorem shape_none {w:World} {b:Nat} {o:Obj} (h:w.heap[b]? = some o) (ho:noCells o=true):w.shape? b=none:=by
 simp only[World.shape?,h]
 cases o <;> simp_all [noCells]
section
variable {C:Ctx} {e:Env} {H:Heap} {dst:Option Nat} {ty:TypeId} {pos:String} {aft:Array Edge} {g:Option (Nat×Bool)} {K:LV→Heap→Prop} {X:List PanicEntry→Heap→Prop} {x y:Operand}
theorem left_newObj {w:World} {L:Live} (hH:RelH C w L []) {o:Obj} (ho:noCells o=true) {v:Value} (hk:K (.atom v) [(w.heap.size,.obj o)]):Left C w L [] (World.push w o) v K:=by
 have:=fr_push hH o 0 [(w.heap.size,.obj o)] (fun p hp=>by
  simp only[List.mem_singleton] at hp
  subst hp
  exact ⟨rfl,by simp[Live.upd],heap_push_self,shape_none heap_push_self ho⟩) (by simp)
 exact ⟨_,_,_,this.1,this.2,rep_atom,hk⟩
theorem left_obj {w w':World} {L:Live} {b:Nat} {o o':Obj} (hH:RelH C w L [(b,.obj o)]) (ho':noCells o'=true) (h1:w'.os=w.os) (h2:w'.tape=w.tape) (h3:w'.output=w.output)
  (h4:w'.heap.size=w.heap.size) (h5:∀ c,c≠b→w'.heap[c]? = w.heap[c]?) (h6:w'.heap[b]? = some o') {v:Value} {lv:LV} (hv:∀ L,Rep w' L lv v) (hk:K lv [(b,.obj o')]):Left C w L [(b,.obj o)] w' v K:=by
 obtain ⟨hb0,hbs,hl,hx1,hx2⟩:=hH.objs _ (List.mem_singleton.2 rfl)
 simp only at hb0 hbs hl hx1 hx2
 have hx:Ext w L w' L:=by
  refine ⟨by rw[h4];exact Nat.le_refl _,fun c hc=>?_,fun c i hi=>?_,fun _=>Nat.le_refl _⟩
  ·by_cases he:c=b
   ·subst he
    rw[hx2]
    exact shape_none h6 ho'
   ·exact shape_of_heap (h5 c he)
  ·by_cases he:c=b
   ·subst he;rw[hl] at hi;omega
   ·exact cell_of_heap (h5 c he) i
 refine ⟨lv,[(b,.obj o')],L,⟨h1,h2,h3,hx,fun c hc hn=>h5 c (by simpa using hn),fun _ _ _=>rfl,fun p hp=>.inl (by simp only[List.mem_singleton] at hp;subst hp;simp)⟩,
  ⟨?_,hH.lbase,by rw[h4];exact hH.b0,by rw[h4];exact hH.wf,by simp,fun p hp=>?_⟩,hv L,hk⟩
 ·exact hH.base.trans ⟨h1,h2,h3,by rw[h4];exact Nat.le_refl _,fun c hc=>h5 c zo⟩
 ·simp only[List.mem_singleton] at hp
  subst hp
  exact ⟨hb0,by rw[h4];exact hbs,hl,h6,shape_none h6 ho'⟩
theorem S.makeMap {t:TypeId} (hk:∀ b,K (.atom (.map (some b))) ((b,.obj (.map #[] 0))::H)):LStep C ⟨dst,.makeMap t none,ty,pos,aft,g⟩ e H K X:=by
 refine LStep.at0 fun ρ w L _ hH=>?_
 have h3:execOp ρ ⟨dst,.makeMap t none,ty,pos,aft,g⟩=(do Pure.pure (.value (←Instr.makeMap t none))):=rfl
 have h4:(Instr.makeMap t none).run C.P w=.ok (.map (some w.heap.size)) (World.push w (.map #[] 0)):=rfl
 rw[h3,Sem.run_bind,h4]
 exact left_newObj hH rfl (hk _)
def setW (w:World) (b:Nat) (o:Obj):World:={ w with heap:=w.heap.setIfInBounds b o }
theorem setW_other {w:World} {b c:Nat} {o:Obj} (h:c≠b):(setW w b o).heap[c]? = w.heap[c]? := by
 simp only[setW,Array.getElem?_setIfInBounds]
 rw[if_neg (Ne.symm h)]
theorem setW_self {w:World} {b:Nat} {o:Obj} (h:b<w.heap.size):(setW w b o).heap[b]? = some o:=by
 simp only[setW,Array.getElem?_setIfInBounds]
 simp[h]
theorem run_setObj {P:Program} {w:World} {b:Nat} {o o':Obj} (h:w.heap[b]? = some o) (ho:noCells o=true):(setObj b o').run P w=.ok () (setW w b o'):=by
 simp only[setObj,Sem.run,h]
 cases o <;> first|rfl|(simp[noCells] at ho)
theorem findNow_str (k:ByteArray):∀ (es:List MapEntry) (i:Nat),(∀ e∈es,∃ s,e.key=.string s∧¬ (k == s)=true)→Instr.findNow .string (.string k) es i=some none
 |[],_,_=>rfl
 |e::es,i,h=>by
  obtain ⟨s,hs,hne⟩:=h e List.mem_cons_self
  have hne':(k == s)=false:=by simpa using hne
  simp only[Instr.findNow,hs,Instr.sameNow,hne']
  exact findNow_str k es (i+1) (fun e he=>h e (List.mem_cons_of_mem _ he))
theorem S.insert {t kt el:TypeId} (ht:C.P.underlying t=some (.map kt el)) (hkt:C.P.underlying kt=some .string) {b clock:Nat} {es:Array MapEntry} {F:Heap} {m z:Operand} {k:ByteArray} {v:Value} (hm:e.ev m=.atom (.map (some b))) (hx:e.ev x=.atom (.string k)) (hz:e.ev z=.atom v)
  (hp:Pick (b,.obj (.map es clock)) H F) (hnew:∀ e∈es.toList,∃ s,e.key=.string s∧¬ (k == s)=true) (hk:K (.atom undef) ((b,.obj (.map (es.push { key:=.string k,val:=v,born:=clock }) (clock+1)))::F)):LStep C ⟨dst,.insert t m x z,ty,pos,aft,g⟩ e H K X:=by
 refine LStep.at1 hp fun ρ w L h hH=>?_
 obtain ⟨hb0,hbs,hl,hx1,hx2⟩:=hH.objs _ (List.mem_singleton.2 rfl)
 simp only at hb0 hbs hl hx1 hx2
 have h3:execOp ρ ⟨dst,.insert t m x z,ty,pos,aft,g⟩=(do Instr.mapUpdate t (ρ m) (ρ x) (ρ z);Pure.pure .skip):=rfl
 have hf:(Instr.findKey kt (.string k) es.toList).run C.P w=.ok none w:=by
  simp only[Instr.findKey,Sem.run_bind,run_underlying' hkt,Result.andThen_ok,findNow_str k es.toList 0 hnew,Sem.run_pure]
 have hc:(Instr.checkKey false 10000 kt (.string k)).run C.P w=.ok () w:=by
  have hck:Instr.checkKey false 10000 kt (.string k)=Instr.checkKey false (9999+1) kt (.string k):=rfl
  rw[hck,Instr.checkKey]
  simp only[Sem.run_bind,run_underlying' hkt,Result.andThen_ok,Sem.run_pure]
 have hg:(getObj b).run C.P w=.ok (.map es clock) w:=by simp only[getObj,Sem.run,hx1]
 rw[h3,atom_of h hm,atom_of h hx,atom_of h hz]
 simp only[Instr.mapUpdate,Sem.run_bind,run_underlying' ht,Result.andThen_ok,hg,hc,hf]
 have hs:(setObj b (.map (es.push { key:=.string k,val:=v,born:=clock }) (clock+1))).run C.P w=.ok () (setW w b (.map (es.push { key:=.string k,val:=v,born:=clock }) (clock+1))):=run_setObj hx1 rfl
 rw[hs]
 exact left_obj (w':=setW w b (.map (es.push { key:=.string k,val:=v,born:=clock }) (clock+1))) hH rfl rfl rfl rfl (by simp[setW]) (fun c hc=>setW_other hc) (setW_self hbs) (fun _=>rep_atom) hk
theorem S.range {t kt el:TypeId} (ht:C.P.underlying t=some (.map kt el)) {b clock:Nat} {es:Array MapEntry} (hx:e.ev x=.atom (.map (some b))) (hm:(b,.obj (.map es clock))∈H)
  (hk:∀ r,K (ptr r 0) ((r,.obj (.mapIter (some b) clock #[] clock))::H)):LStep C ⟨dst,.range t x,ty,pos,aft,g⟩ e H K X:=by
 obtain ⟨F,hF⟩:∃ F,H.Perm ((b,.obj (.map es clock))::F):=by
  obtain ⟨l1,l2,rfl⟩:=List.append_of_mem hm
  exact ⟨l1++l2,List.perm_middle⟩
 have main:∀ X,LStep C ⟨dst,.range t x,ty,pos,aft,g⟩ e [(b,.obj (.map es clock))] (fun lv H'=>∃ r,lv=ptr r 0∧H'=[(r,.obj (.mapIter (some b) clock #[] clock)),(b,.obj (.map es clock))]) X:=fun X ρ w L h hH=>by
  obtain ⟨hb0,hbs,hl,hx1,hx2⟩:=hH.objs _ (List.mem_singleton.2 rfl)
  simp only at hb0 hbs hl hx1 hx2
  have h3:execOp ρ ⟨dst,.range t x,ty,pos,aft,g⟩=(do Pure.pure (.value (←Instr.range t (ρ x)))):=rfl
  have hg:(getObj b).run C.P w=.ok (.map es clock) w:=by simp only[getObj,Sem.run,hx1]
  have hn:∀ o,(newObj o).run C.P w=.ok w.heap.size (World.push w o):=fun _=>rfl
  rw[h3,atom_of h hx]
  simp only[Instr.range,Sem.run_bind,run_underlying' ht,Result.andThen_ok,hg,Sem.run_pure,hn]
  have:=Left.frame (F:=[(b,.obj (.map es clock))]) (K:=fun lv H'=>∃ r,lv=ptr r 0∧H'=[(r,.obj (.mapIter (some b) clock #[] clock)),(b,.obj (.map es clock))]) (v:=.pointer (some ⟨w.heap.size,0,none⟩)) (by simpa using hH) (left_newObj (w:=w) (L:=L) (hH.sub (List.nil_sublist _)) (o:=.mapIter (some b) clock #[] clock) rfl ⟨w.heap.size,rfl,rfl⟩)
  show Left C w L _ _ _ _
  simpa using this
 refine LStep.conseq (LStep.frame (H:=[(b,.obj (.map es clock))]) (F:=F) hF (K:=fun lv H'=>∃ r,lv=ptr r 0∧H'=[(r,.obj (.mapIter (some b) clock #[] clock)),(b,.obj (.map es clock))]++F) ?_) ?_
 ·exact LStep.conseq (main _) (fun lv H' ⟨r,h1,h2⟩=>⟨lv,H',LV.Sub.refl _,HSub.refl _,r,h1,by rw[h2]⟩)
 ·rintro lv H' ⟨r,rfl,rfl⟩
  exact ⟨ptr r 0,_,LV.Sub.refl _,⟨[],by simpa using hF.symm⟩,hk r⟩
theorem S.next {r b since last clock:Nat} {seen:Array Nat} {es:Array MapEntry} {F:Heap} (hx:e.ev x=ptr r 0) (hp:H.Perm ((r,.obj (.mapIter (some b) since seen last))::(b,.obj (.map es clock))::F))
  (hold:∀ e∈es.toList,e.born<since∧e.born<last)
  (hover:es.filter (fun e=>!seen.contains e.born)=#[]→K (.tuple [bool false]) ((r,.obj (.mapIter (some b) since seen last))::(b,.obj (.map es clock))::F))
  (hstep:∀ e∈(es.filter (fun e=>!seen.contains e.born)).toList,K (.tuple [bool true,.atom e.key,.atom e.val]) ((r,.obj (.mapIter (some b) since (seen.push e.born) clock))::(b,.obj (.map es clock))::F)) :
  LStep C ⟨dst,.next x false,ty,pos,aft,g⟩ e H K X:=by
 refine LStep.frame (H:=[(r,.obj (.mapIter (some b) since seen last)),(b,.obj (.map es clock))]) (F:=F) hp fun ρ w L h hH=>?_
 have hr:=hH.objs (r,.obj (.mapIter (some b) since seen last)) zm0
 have hb:=hH.objs (b,.obj (.map es clock)) zm1
 obtain ⟨_,hrs,_,hr1,_⟩:=hr
 obtain ⟨_,hbs,_,hb1,_⟩:=hb
 simp only at hrs hr1 hbs hb1
 have h3:execOp ρ ⟨dst,.next x false,ty,pos,aft,g⟩=(do Pure.pure (.value (←Instr.next (ρ x) false ty))):=rfl
 have hg1:(getObj r).run C.P w=.ok (.mapIter (some b) since seen last) w:=by simp only[getObj,Sem.run,hr1]
 have hg2:(getObj b).run C.P w=.ok (.map es clock) w:=by simp only[getObj,Sem.run,hb1]
 have htest:(!seen.isEmpty && !es.isEmpty && es.all (fun e=>decide (e.born ≥ last)))=false:=by
  rw[Bool.eq_false_iff]
  intro hall
  simp only[Bool.and_eq_true] at hall
  obtain ⟨⟨_,h1⟩,h2⟩:=hall
  have hne:0<es.size:=by
   rcases Nat.eq_zero_or_pos es.size with h0|h0
   ·have:es=#[]:=Array.eq_empty_of_size_eq_zero h0
    subst this
    simp at h1
   ·exact h0
  have h3:=(Array.all_eq_true.1 h2) 0 hne
  have h4:=(hold es[0] (by simp)).2
  simp at h3
  omega
 rw[h3,atom_of h hx]
 simp only[Instr.next,Sem.run_bind,Result.andThen_ok,hg1,hg2,htest,Bool.false_eq_true,if_false]
 generalize hL:es.filter (fun e=>!seen.contains e.born)=left at hover hstep ⊢
 have hmem:∀ x∈left.toList,x.born<since:=fun x hx=>by
  subst hL
  simp at hx
  exact (hold x (by simpa using hx.1)).1
 have e1:left.filter (fun x=>decide (x.born<since))=left:=Array.filter_eq_self.2 (fun x hx=>by simpa using hmem x (by simpa using hx))
 have e2:left.filter (fun x=>decide (x.born ≥ since))=#[]:=by
  rw[Array.filter_eq_empty_iff]
  intro x hx
  have:=hmem x (by simpa using hx)
  simp
  omega
 simp only[e1,e2,Array.append_empty]
 by_cases h0:left.size=0
 ·have:left=#[]:=Array.eq_empty_of_size_eq_zero h0
  subst this
  have hch:(choose (.mapNext 1)).run C.P w=.ok 0 w:=by simp[choose,Sem.run,Question.forced]
  simp only[Array.isEmpty_empty,if_true,Array.map_empty,Array.append_empty,List.size_toArray,List.length_singleton,hch,Sem.run_bind,Result.andThen_ok,Sem.run_pure]
  exact ⟨.tuple [bool false],_,L,Fr.refl _ _ _,hH,by simp only[Rep];exact ⟨[.bool false],rfl,by simp only[RepL,Rep];exact ⟨_,_,rfl,rfl,rfl⟩⟩,hover rfl⟩
 ·have hne:left.isEmpty=false:=by simp[Array.isEmpty,h0]
  simp only[hne,Bool.false_eq_true,if_false,Array.empty_append,Array.size_map]
  obtain ⟨j,w1,hj,hw1,hrun⟩:∃ (j:Nat) (w1:World),j<left.size∧(w1=w∨w1=w.drew)∧(choose (Question.mapNext left.size)).run C.P w=.ok j w1:=by
   by_cases hf:left.size≤1
   ·exact ⟨0,w,by omega,.inl rfl,by simp[choose,Sem.run,Question.forced,hf]⟩
   ·exact ⟨_,w.drew,Nat.mod_lt _ zo,.inr rfl,by
     simp only[choose,Sem.run,Question.forced,decide_eq_true_eq,hf,if_false,Question.cut]
     rfl⟩
  have hr1':w1.heap[r]? = some (.mapIter (some b) since seen last):=by rcases hw1 with rfl|rfl <;> exact hr1
  have hsz:w1.heap.size=w.heap.size:=by rcases hw1 with rfl|rfl <;> rfl
  have hheap:w1.heap=w.heap:=by rcases hw1 with rfl|rfl <;> rfl
  simp only[hrun,Array.getElem?_map,Array.getElem?_eq_getElem hj,Option.map_some,Sem.run_bind,Result.andThen_ok,run_setObj hr1' rfl,Sem.run_pure]
  have hl:Left C w L [(r,.obj (.mapIter (some b) since seen last))] (setW w1 r (.mapIter (some b) since (seen.push left[j].born) clock)) (.tuple #[.bool true,left[j].key,left[j].val]) (fun lv H'=>K lv (H'++[(b,.obj (.map es clock))]++F)):=
   left_obj (lv:=.tuple [bool true,.atom left[j].key,.atom left[j].val]) (RelH.left (F:=[(b,.obj (.map es clock))]) hH) rfl (by rcases hw1 with rfl|rfl <;> rfl) (by rcases hw1 with rfl|rfl <;> rfl) (by rcases hw1 with rfl|rfl <;> rfl) (by simp[setW,hsz]) (fun c hc=>by rw[setW_other hc,hheap]) (setW_self zo)
    (fun _=>by simp only[Rep];exact ⟨[.bool true,left[j].key,left[j].val],rfl,by simp only[RepL,Rep];exact ⟨_,_,rfl,rfl,_,_,rfl,rfl,_,_,rfl,rfl,rfl⟩⟩) (hstep left[j] (by simp))
  exact Left.frame (F:=[(b,.obj (.map es clock))]) (K:=fun lv H'=>K lv (H'++F)) hH hl
theorem Pure.entry {r b since last clock stamp:Nat} {seen:Array Nat} {es:Array MapEntry} {en:MapEntry} (hx:e.ev x=ptr r 0) (hi:(r,LObj.obj (.mapIter (some b) since seen last))∈H) (hm:(b,LObj.obj (.map es clock))∈H)
  (hl:clock=last) (hb:seen.back? = some stamp) (hf:es.find? (·.born == stamp)=some en):Pure C ⟨dst,.entry x,ty,pos,aft,g⟩ e H (.tuple [.atom en.key,.atom en.val]):=fun ρ w L h hH=>by
 refine ⟨.tuple #[en.key,en.val],by simp only[Rep];exact ⟨[en.key,en.val],rfl,by simp only[RepL,Rep];exact ⟨_,_,rfl,rfl,_,_,rfl,rfl,rfl⟩⟩,fun w' ha=>?_⟩
 have h1:w'.heap[r]? = some (.mapIter (some b) since seen last):=(ha.1 _ hi).trans (hH.objs _ hi).2.2.2.1
 have h2:w'.heap[b]? = some (.map es clock):=(ha.1 _ hm).trans (hH.objs _ hm).2.2.2.1
 have h3:execOp ρ ⟨dst,.entry x,ty,pos,aft,g⟩=(do Pure.pure (.value (←Instr.entry (ρ x)))):=rfl
 have hg1:(getObj r).run C.P w'=.ok (.mapIter (some b) since seen last) w':=by simp only[getObj,Sem.run,h1]
 have hg2:(getObj b).run C.P w'=.ok (.map es clock) w':=by simp only[getObj,Sem.run,h2]
 have hne:(clock != last)=false:=by rw[hl];simp
 rw[h3,atom_of h hx]
 simp only[Instr.entry,Sem.run_bind,Result.andThen_ok,hg1,hb,hg2,hne,Bool.false_eq_true,if_false,Sem.run_pure,hf]
theorem lH {n:Nat} {ops:Array Oper} {Q:Post} {HF:Heap} {fuel:Nat} {listed:Array Bool} {i:Nat} {op:Op} {lv:LV} (hi:ops[i]? = some ⟨dst,op,ty,pos,aft,none⟩) (hd:dstOk n dst)
  (hp:Pure C ⟨dst,op,ty,pos,aft,none⟩ e H lv) (k:LLate C n ops Q HF fuel (listed.setIfInBounds i true) (e.put dst lv) H):LLateOp C n ops Q HF fuel listed e H i:=fun w0 L0 a w L hL hA hsz hE hH=>by
 obtain ⟨v,hv,hrun⟩:=hp a.eval w L hE.ev hH
 unfold wpOp
 rw[hi]
 simp only
 rw[if_pos (by simp[Region.wanted])]
 refine .inl ?_
 unfold Oper.wp
 rw[hrun w (Agree.refl _ _ _)]
 exact ⟨hA,k w0 L0 _ w L hL hA hsz (hE.put hd hv) hH⟩
end
end Go.GL
namespace Go.GL
open Go.RowKit
theorem bytes_beq (a b:List UInt8):((⟨a.toArray⟩:ByteArray) == ⟨b.toArray⟩)=decide (a=b):=by
 show (a.toArray == b.toArray)=_
 rw[Bool.eq_iff_iff]
 simp
section
variable {C:Ctx} {e:Env} {H:Heap} {dst:Option Nat} {ty:TypeId} {pos:String} {aft:Array Edge} {g:Option (Nat×Bool)} {K:LV→Heap→Prop} {X:List PanicEntry→Heap→Prop} {x y:Operand}
theorem run_checkStr {w:World} {kt:TypeId} (hkt:C.P.underlying kt=some .string) (b:Bool) (k:ByteArray):(Instr.checkKey b 10000 kt (.string k)).run C.P w=.ok () w:=by
 have hck:Instr.checkKey b 10000 kt (.string k)=Instr.checkKey b (9999+1) kt (.string k):=rfl
 rw[hck,Instr.checkKey]
 simp only[Sem.run_bind,run_underlying' hkt,Result.andThen_ok,Sem.run_pure]
end
end Go.GL
namespace Go.GL
open Go.RowKit
abbrev KV:=List (List UInt8×LV)
@[reducible] def strV (k:List UInt8):Value:=.string ⟨k.toArray⟩
def kvs (m:KV):List (Value×LV):=m.map fun p=>(strV p.1,p.2)
def kvGet:KV→List UInt8→Option LV
 |[],_=>none
 |p::r,k=>if p.1=k then some p.2 else kvGet r k
def kvPut:KV→List UInt8→LV→KV
 |[],k,v=>[(k,v)]
 |p::r,k,v=>if p.1=k then (k,v)::r else p::kvPut r k v
theorem kvGet_put (k k':List UInt8) (v:LV):∀ m:KV,kvGet (kvPut m k v) k'=if k=k' then some v else kvGet m k'
 |[]=>by simp only[kvPut,kvGet]
 |p::r=>by
  unfold kvPut
  by_cases h:p.1=k
  ·rw[if_pos h]
   by_cases h':k=k'
   ·simp only[kvGet,if_pos h']
   ·simp only[kvGet,if_neg h']
    rw[if_neg (by rw[h];exact h')]
  ·rw[if_neg h]
   simp only[kvGet]
   rw[kvGet_put k k' v r]
   by_cases h2:p.1=k'
   ·rw[if_pos h2,if_neg (by rw[←h2];exact fun h3=>h h3.symm)]
    simp only[if_pos h2]
   ·simp only[if_neg h2]
theorem kv_find (k:List UInt8):∀ (m:KV) (es:List MapEntry) (i:Nat),es.map (·.key)=(kvs m).map (·.1) →
  (kvGet m k=none∧(∀ v,kvPut m k v=m++[(k,v)])∧Instr.findNow .string (strV k) es i=some none) ∨
  ∃ (j:Nat) (e:MapEntry) (v:LV),Instr.findNow .string (strV k) es i=some (some (i+j,e.val))∧es[j]? = some e∧m[j]? = some (k,v)∧kvGet m k=some v∧∀ v',kvPut m k v'=m.set j (k,v')
 |[],[],i,_=>.inl ⟨rfl,fun _=>rfl,rfl⟩
 |[],_::_,_,h=>by cases h
 |_::_,[],_,h=>by cases h
 |p::m,e::es,i,h=>by
  have h1:e.key=strV p.1:=by
   have:=(List.cons.inj h).1
   exact this
  have h2:es.map (·.key)=(kvs m).map (·.1):=(List.cons.inj h).2
  by_cases hs:p.1=k
  ·right
   have hb:((⟨k.toArray⟩:ByteArray) == ⟨p.1.toArray⟩)=true:=by rw[bytes_beq,decide_eq_true hs.symm]
   refine ⟨0,e,p.2,?_,rfl,by rw[←hs];rfl,by simp only[kvGet,if_pos hs],fun v'=>by simp only[kvPut,if_pos hs];rfl⟩
   simp only[Instr.findNow,h1,Instr.sameNow,hb,Nat.add_zero]
  ·have hb:((⟨k.toArray⟩:ByteArray) == ⟨p.1.toArray⟩)=false:=by rw[bytes_beq,decide_eq_false (fun h3=>hs h3.symm)]
   rcases kv_find k m es (i+1) h2 with ⟨g1,g2,g3⟩|⟨j,e2,v,g1,g2,g3,g4,g5⟩
   ·left
    refine ⟨by simp only[kvGet,if_neg hs];exact g1,fun v=>by simp only[kvPut,if_neg hs,g2];rfl,?_⟩
    simp only[Instr.findNow,h1,Instr.sameNow,hb]
    exact g3
   ·right
    refine ⟨j+1,e2,v,?_,g2,g3,by simp only[kvGet,if_neg hs];exact g4,fun v'=>by simp only[kvPut,if_neg hs,g5];rfl⟩
    simp only[Instr.findNow,h1,Instr.sameNow,hb]
    rw[g1]
    congr 3
    omega
theorem RepL.setAt {w:World} {L:Live}:∀ {cs:List LV} {xs:List Value},RepL w L cs xs→∀ (j:Nat) {c:LV} {x:Value},Rep w L c x→RepL w L (cs.set j c) (xs.set j x)
 |[],xs,h,j,c,x,hr=>by
  simp only[RepL] at h
  subst h
  simp only[List.set_nil,RepL]
 |d::cs,xs,h,j,c,x,hr=>by
  simp only[RepL] at h
  obtain ⟨y,ys,rfl,h1,h2⟩:=h
  cases j with
  |zero=>
   simp only[List.set_cons_zero,RepL]
   exact ⟨x,ys,rfl,hr,h2⟩
  |succ j=>
   simp only[List.set_cons_succ,RepL]
   exact ⟨y,_,rfl,h1,h2.setAt j hr⟩
section
variable {C:Ctx} {e:Env} {H:Heap} {dst:Option Nat} {ty:TypeId} {pos:String} {aft:Array Edge} {g:Option (Nat×Bool)} {K:LV→Heap→Prop} {X:List PanicEntry→Heap→Prop} {x y:Operand}
theorem left_map {w w':World} {L:Live} {b clock clock':Nat} {es es':List (Value×LV)} (hH:RelH C w L [(b,.map es clock)]) (h1:w'.os=w.os) (h2:w'.tape=w.tape) (h3:w'.output=w.output)
  (h4:w'.heap.size=w.heap.size) (h5:∀ c,c≠b→w'.heap[c]? = w.heap[c]?) (avs:List MapEntry) (h6:w'.heap[b]? = some (.map avs.toArray clock')) (h7:avs.map (·.key)=es'.map (·.1)) (h8:RepL w L (es'.map (·.2)) (avs.map (·.val)))
  (h9:∀ e∈avs,e.born<clock') (h10:(avs.map (·.born)).Nodup) {v:Value} {lv:LV} (hv:∀ L,Rep w' L lv v) (hk:K lv [(b,.map es' clock')]):Left C w L [(b,.map es clock)] w' v K:=by
 obtain ⟨hb0,hbs,hl,xs,hx1,_⟩:=hH.objs _ (List.mem_singleton.2 rfl)
 simp only at hb0 hbs hl hx1
 have hx:Ext w L w' L:=by
  refine ⟨by rw[h4];exact Nat.le_refl _,fun c hc=>?_,fun c i hi=>?_,fun _=>Nat.le_refl _⟩
  ·by_cases he:c=b
   ·subst he
    rw[shape_none hx1 rfl]
    exact shape_none h6 rfl
   ·exact shape_of_heap (h5 c he)
  ·by_cases he:c=b
   ·subst he;rw[hl] at hi;omega
   ·exact cell_of_heap (h5 c he) i
 refine ⟨lv,[(b,.map es' clock')],L,⟨h1,h2,h3,hx,fun c hc hn=>h5 c (by simpa using hn),fun _ _ _=>rfl,fun p hp=>.inl (by simp only[List.mem_singleton] at hp;subst hp;simp)⟩,
  ⟨?_,hH.lbase,by rw[h4];exact hH.b0,by rw[h4];exact hH.wf,by simp,fun p hp=>?_⟩,hv L,hk⟩
 ·exact hH.base.trans ⟨h1,h2,h3,by rw[h4];exact Nat.le_refl _,fun c hc=>h5 c zo⟩
 ·simp only[List.mem_singleton] at hp
  subst hp
  exact ⟨hb0,by rw[h4];exact hbs,hl,avs,h6,h7,RepL.mono hx _ _ h8,h9,h10⟩
theorem S.kvNew {t:TypeId} (hk:∀ b,K (.atom (.map (some b))) ((b,.map (kvs []) 0)::H)):LStep C ⟨dst,.makeMap t none,ty,pos,aft,g⟩ e H K X:=by
 refine LStep.at0 fun ρ w L _ hH=>?_
 have h3:execOp ρ ⟨dst,.makeMap t none,ty,pos,aft,g⟩=(do Pure.pure (.value (←Instr.makeMap t none))):=rfl
 have h4:(Instr.makeMap t none).run C.P w=.ok (.map (some w.heap.size)) (World.push w (.map #[] 0)):=rfl
 rw[h3,Sem.run_bind,h4]
 have:=fr_push hH (.map #[] 0) 0 [(w.heap.size,.map (kvs []) 0)] (fun p hp=>by
  simp only[List.mem_singleton] at hp
  subst hp
  refine ⟨rfl,by simp[Live.upd],[],heap_push_self,rfl,?_,(fun e he=>by cases he),List.nodup_nil⟩
  show RepL _ _ [] []
  simp only[RepL]) (by simp)
 exact ⟨_,_,_,this.1,this.2,rep_atom,hk _⟩
theorem S.kvPut {t kt el:TypeId} (ht:C.P.underlying t=some (.map kt el)) (hkt:C.P.underlying kt=some .string) {b clock:Nat} {m:KV} {F:Heap} {mo z:Operand} {k:List UInt8} {lv:LV} (hm:e.ev mo=.atom (.map (some b))) (hx:e.ev x=str k) (hz:e.ev z=lv)
  (hp:Pick (b,.map (kvs m) clock) H F) (hk:∀ clock',K (.atom undef) ((b,.map (kvs (GL.kvPut m k lv)) clock')::F)):LStep C ⟨dst,.mapUpdate t mo x z,ty,pos,aft,g⟩ e H K X:=by
 refine LStep.at1 hp fun ρ w L h hH=>?_
 obtain ⟨hb0,hbs,hl,avs,hx1,hx2,hx3,hx4,hx5⟩:=hH.objs _ (List.mem_singleton.2 rfl)
 simp only at hb0 hbs hl hx1 hx2 hx3
 have hrz:Rep w L lv (ρ z):=hz▸h z
 have h3:execOp ρ ⟨dst,.mapUpdate t mo x z,ty,pos,aft,g⟩=(do Instr.mapUpdate t (ρ mo) (ρ x) (ρ z);Pure.pure .skip):=rfl
 have hg:(getObj b).run C.P w=.ok (.map avs.toArray clock) w:=by simp only[getObj,Sem.run,hx1]
 have hset:∀ o',(setObj b o').run C.P w=.ok () (setW w b o'):=fun o'=>run_setObj hx1 rfl
 rw[h3,atom_of h hm,atom_of h hx]
 rcases kv_find k m avs 0 hx2 with ⟨g1,g2,g3⟩|⟨j,e2,v,g1,g2,g3,g4,g5⟩
 ·have hf:(Instr.findKey kt (strV k) avs.toArray.toList).run C.P w=.ok none w:=by
   simp only[Instr.findKey,Sem.run_bind,run_underlying' hkt,Result.andThen_ok,g3,Sem.run_pure]
  simp only[Instr.mapUpdate,Sem.run_bind,run_underlying' ht,Result.andThen_ok,hg,run_checkStr hkt,hf]
  rw[hset]
  refine left_map (w':=setW w b _) hH rfl rfl rfl (by simp[setW]) (fun c hc=>setW_other hc) (avs++[⟨strV k,ρ z,clock⟩]) (clock':=clock+1) ((setW_self hbs).trans (by simp)) (es':=kvs (GL.kvPut m k lv)) ?_ ?_ ?_ ?_ (fun _=>rep_atom) (hk _)
  ·rw[g2,kvs,List.map_append,List.map_append,List.map_append,←kvs,hx2]
   rfl
  ·rw[g2,kvs,List.map_append,List.map_append,List.map_append,←kvs]
   refine RepL.append hx3 ?_
   simp only[List.map_cons,List.map_nil,RepL]
   exact ⟨_,_,rfl,hrz,rfl⟩
  ·intro e' he'
   rcases List.mem_append.1 he' with h1|h1
   ·exact Nat.lt_succ_of_lt (hx4 e' h1)
   ·obtain rfl:=List.mem_singleton.1 h1
    exact Nat.lt_succ_self _
  ·rw[List.map_append,List.nodup_append]
   refine ⟨hx5,by simp,fun a ha b' hb' he=>?_⟩
   obtain ⟨e',h1,rfl⟩:=List.mem_map.1 ha
   simp only[List.map_cons,List.map_nil,List.mem_singleton] at hb'
   have:=hx4 e' h1
   omega
 ·have hf:(Instr.findKey kt (strV k) avs.toArray.toList).run C.P w=.ok (some (0+j,e2.val)) w:=by
   simp only[Instr.findKey,Sem.run_bind,run_underlying' hkt,Result.andThen_ok,g1,Sem.run_pure]
  have hkey:e2.key=strV k:=by
   have h1:(avs.map (·.key))[j]? = some e2.key:=by rw[List.getElem?_map,g2];rfl
   rw[hx2,kvs,List.map_map,List.getElem?_map,g3] at h1
   exact (Option.some.inj h1).symm
  have hst:(Instr.keyThatStays (((avs.toArray[0+j]?).map (·.key)).getD (strV k)) (strV k)).run C.P w=.ok (strV k) w:=by
   rw[Nat.zero_add,List.getElem?_toArray,g2]
   simp only[Option.map_some,Option.getD_some,hkey]
   unfold Instr.keyThatStays
   rw[if_pos (by simp only[Instr.sameBits];rw[bytes_beq];simp)]
   rfl
  simp only[Instr.mapUpdate,Sem.run_bind,run_underlying' ht,Result.andThen_ok,hg,run_checkStr hkt,hf,hst]
  rw[hset]
  have hmod:avs.toArray.modify (0+j) (fun e=>{ e with key:=strV k,val:=ρ z })=(avs.set j { e2 with key:=strV k,val:=ρ z }).toArray:=by
   rw[Nat.zero_add]
   apply Array.ext'
   simp only[Array.toList_modify]
   refine List.ext_getElem? fun i=>?_
   rw[List.getElem?_modify,List.getElem?_set]
   by_cases hi:j=i
   ·subst hi
    have hlt:j<avs.length:=(List.getElem?_eq_some_iff.1 g2).1
    rw[if_pos rfl,g2,if_pos hlt]
    show some _=_
    simp
   ·rw[if_neg hi]
    cases avs[i]? with
    |none=>rfl
    |some a=>
     show some _=_
     simp[hi]
  refine left_map (w':=setW w b _) hH rfl rfl rfl (by simp[setW]) (fun c hc=>setW_other hc) (avs.set j { e2 with key:=strV k,val:=ρ z }) ((setW_self hbs).trans (by rw[hmod])) (es':=kvs (GL.kvPut m k lv)) ?_ ?_ ?_ ?_ (fun _=>rep_atom) (hk _)
  ·rw[g5,kvs,List.map_set,List.map_set,List.map_set,hx2]
   rfl
  ·rw[g5,kvs,List.map_set,List.map_set,List.map_set]
   exact RepL.setAt hx3 j hrz
  ·intro e' he'
   rcases List.mem_or_eq_of_mem_set he' with h1|h1
   ·exact hx4 e' h1
   ·rw[h1]
    exact hx4 e2 (List.mem_of_getElem? g2)
  ·rw[List.map_set]
   have:(avs.map (·.born)).set j e2.born=avs.map (·.born):=by
    refine List.ext_getElem? fun i=>?_
    rw[List.getElem?_set]
    split
    ·rename_i h1
     subst h1
     split
     ·rw[List.getElem?_map,g2];rfl
     ·rename_i h2
      rw[List.getElem?_eq_none zo]
    ·rfl
   rw[this]
   exact hx5
theorem kv_look {t kt el:TypeId} (ht:C.P.underlying t=some (.map kt el)) (hkt:C.P.underlying kt=some .string) {zv:Value} {zl:LV} (hz:∀ w,(zeroValue el).run C.P w=.ok zv w) (hzl:∀ w L,Rep w L zl zv) {b clock:Nat} {m:KV} {k:List UInt8} {w:World} {L:Live}
  (hH:RelH C w L H) (hb:(b,.map (kvs m) clock)∈H):∃ v,Rep w L ((kvGet m k).getD zl) v∧∀ w',Agree w L H w'→∀ c,(Instr.lookup t (.map (some b)) (strV k) c).run C.P w'=.ok (if c=true then .tuple #[v,.bool (kvGet m k).isSome] else v) w':=by
 obtain ⟨_,_,_,avs,hx1,hx2,hx3,_⟩:=hH.objs _ hb
 simp only at hx1
 rcases kv_find k m avs 0 hx2 with ⟨g1,g2,g3⟩|⟨j,e2,v,g1,g2,g3,g4,g5⟩
 ·refine ⟨zv,by rw[g1];exact hzl w L,fun w' ha c=>?_⟩
  have hw:w'.heap[b]? = some (.map avs.toArray clock):=(ha.1 _ hb).trans hx1
  have hg:(getObj b).run C.P w'=.ok (.map avs.toArray clock) w':=by simp only[getObj,Sem.run,hw]
  have hf:(Instr.findKey kt (strV k) avs.toArray.toList).run C.P w'=.ok none w':=by
   simp only[Instr.findKey,Sem.run_bind,run_underlying' hkt,Result.andThen_ok,g3,Sem.run_pure]
  simp only[Instr.lookup,Sem.run_bind,run_underlying' ht,Result.andThen_ok,hg,Sem.run_pure,run_checkStr hkt,hf,hz,g1]
  rfl
 ·refine ⟨e2.val,?_,fun w' ha c=>?_⟩
  ·rw[g4]
   obtain ⟨x,h1,h2⟩:=hx3.get (i:=j) (c:=v) (by rw[kvs,List.map_map,List.getElem?_map,g3];rfl)
   rw[List.getElem?_map,g2] at h1
   obtain rfl:=Option.some.inj h1
   exact h2
  ·have hw:w'.heap[b]? = some (.map avs.toArray clock):=(ha.1 _ hb).trans hx1
   have hg:(getObj b).run C.P w'=.ok (.map avs.toArray clock) w':=by simp only[getObj,Sem.run,hw]
   have hf:(Instr.findKey kt (strV k) avs.toArray.toList).run C.P w'=.ok (some (0+j,e2.val)) w':=by
    simp only[Instr.findKey,Sem.run_bind,run_underlying' hkt,Result.andThen_ok,g1,Sem.run_pure]
   simp only[Instr.lookup,Sem.run_bind,run_underlying' ht,Result.andThen_ok,hg,Sem.run_pure,run_checkStr hkt,hf,g4]
   rfl
theorem Pure.kvGet {t kt el:TypeId} (ht:C.P.underlying t=some (.map kt el)) (hkt:C.P.underlying kt=some .string) {zv:Value} {zl:LV} (hz:∀ w,(zeroValue el).run C.P w=.ok zv w) (hzl:∀ w L,Rep w L zl zv) {b clock:Nat} {m:KV} {k:List UInt8} (hm:e.ev x=.atom (.map (some b))) (hx:e.ev y=str k)
  (hb:(b,.map (kvs m) clock)∈H):Pure C ⟨dst,.lookup t x y false,ty,pos,aft,g⟩ e H ((GL.kvGet m k).getD zl):=fun ρ w L h hH=>by
 obtain ⟨v,h1,h2⟩:=kv_look ht hkt hz hzl (k:=k) hH hb
 refine ⟨v,h1,fun w' ha=>?_⟩
 have h3:execOp ρ ⟨dst,.lookup t x y false,ty,pos,aft,g⟩=(do Pure.pure (.value (←Instr.lookup t (ρ x) (ρ y) false))):=rfl
 rw[h3,atom_of h hm,atom_of h hx,Sem.run_bind,h2 w' ha false]
 rfl
theorem Pure.kvGet2 {t kt el:TypeId} (ht:C.P.underlying t=some (.map kt el)) (hkt:C.P.underlying kt=some .string) {zv:Value} {zl:LV} (hz:∀ w,(zeroValue el).run C.P w=.ok zv w) (hzl:∀ w L,Rep w L zl zv) {b clock:Nat} {m:KV} {k:List UInt8} (hm:e.ev x=.atom (.map (some b))) (hx:e.ev y=str k)
  (hb:(b,.map (kvs m) clock)∈H):Pure C ⟨dst,.lookup t x y true,ty,pos,aft,g⟩ e H (.tuple [(GL.kvGet m k).getD zl,bool (GL.kvGet m k).isSome]):=fun ρ w L h hH=>by
 obtain ⟨v,h1,h2⟩:=kv_look ht hkt hz hzl (k:=k) hH hb
 refine ⟨.tuple #[v,.bool (GL.kvGet m k).isSome],?_,fun w' ha=>?_⟩
 ·simp only[Rep]
  refine ⟨[v,.bool (GL.kvGet m k).isSome],rfl,?_⟩
  simp only[RepL]
  exact ⟨_,_,rfl,h1,_,_,rfl,rfl,rfl⟩
 ·have h3:execOp ρ ⟨dst,.lookup t x y true,ty,pos,aft,g⟩=(do Pure.pure (.value (←Instr.lookup t (ρ x) (ρ y) true))):=rfl
  rw[h3,atom_of h hm,atom_of h hx,Sem.run_bind,h2 w' ha true]
  rfl
end
/-! ### The same, by instances -/
class TMap (P:Program) (t:TypeId) (el:outParam TypeId) (zv:outParam Value) (zl:outParam LV):Prop where
 und:∃ kt,P.underlying t=some (.map kt el)∧P.underlying kt=some .string
 zero:∀ w,(zeroValue el).run P w=.ok zv w
 rep:∀ w L,Rep w L zl zv
theorem rep_aggs (w:World) (L:Live) (zs:List Value):Rep w L (.agg (zs.map .atom)) (.agg zs.toArray):=by
 simp only[Rep]
 exact ⟨zs,rfl,repL_atoms zs⟩
section
variable {C:Ctx} {e:Env} {H:Heap} {dst:Option Nat} {ty:TypeId} {pos:String} {aft:Array Edge} {g:Option (Nat×Bool)} {K:LV→Heap→Prop} {X:List PanicEntry→Heap→Prop} {x y:Operand}
theorem Pure.kvHit {t el:TypeId} {zv:Value} {zl lv:LV} [h:TMap C.P t el zv zl] {b clock:Nat} {m:KV} {k:List UInt8} (hm:e.ev x=.atom (.map (some b))) (hx:e.ev y=str k) (hb:(b,.map (kvs m) clock)∈H) (hg:GL.kvGet m k=some lv) :
  Pure C ⟨dst,.lookup t x y false,ty,pos,aft,g⟩ e H lv:=by
 obtain ⟨kt,h1,h2⟩:=h.und
 have:=Pure.kvGet (dst:=dst) (ty:=ty) (pos:=pos) (aft:=aft) (g:=g) h1 h2 h.zero h.rep hm hx hb
 rwa [hg] at this
theorem Pure.kvMiss {t el:TypeId} {zv:Value} {zl:LV} [h:TMap C.P t el zv zl] {b clock:Nat} {m:KV} {k:List UInt8} (hm:e.ev x=.atom (.map (some b))) (hx:e.ev y=str k) (hb:(b,.map (kvs m) clock)∈H) (hg:GL.kvGet m k=none) :
  Pure C ⟨dst,.lookup t x y false,ty,pos,aft,g⟩ e H zl:=by
 obtain ⟨kt,h1,h2⟩:=h.und
 have:=Pure.kvGet (dst:=dst) (ty:=ty) (pos:=pos) (aft:=aft) (g:=g) h1 h2 h.zero h.rep hm hx hb
 rwa [hg] at this
theorem Pure.kvHit2 {t el:TypeId} {zv:Value} {zl lv:LV} [h:TMap C.P t el zv zl] {b clock:Nat} {m:KV} {k:List UInt8} (hm:e.ev x=.atom (.map (some b))) (hx:e.ev y=str k) (hb:(b,.map (kvs m) clock)∈H) (hg:GL.kvGet m k=some lv) :
  Pure C ⟨dst,.lookup t x y true,ty,pos,aft,g⟩ e H (.tuple [lv,bool true]):=by
 obtain ⟨kt,h1,h2⟩:=h.und
 have:=Pure.kvGet2 (dst:=dst) (ty:=ty) (pos:=pos) (aft:=aft) (g:=g) h1 h2 h.zero h.rep hm hx hb
 rwa [hg] at this
theorem Pure.kvMiss2 {t el:TypeId} {zv:Value} {zl:LV} [h:TMap C.P t el zv zl] {b clock:Nat} {m:KV} {k:List UInt8} (hm:e.ev x=.atom (.map (some b))) (hx:e.ev y=str k) (hb:(b,.map (kvs m) clock)∈H) (hg:GL.kvGet m k=none) :
  Pure C ⟨dst,.lookup t x y true,ty,pos,aft,g⟩ e H (.tuple [zl,bool false]):=by
 obtain ⟨kt,h1,h2⟩:=h.und
 have:=Pure.kvGet2 (dst:=dst) (ty:=ty) (pos:=pos) (aft:=aft) (g:=g) h1 h2 h.zero h.rep hm hx hb
 rwa [hg] at this
theorem S.kvSet {t el:TypeId} {zv:Value} {zl:LV} [h:TMap C.P t el zv zl] {b clock:Nat} {m:KV} {F:Heap} {mo z:Operand} {k:List UInt8} {lv:LV} (hm:e.ev mo=.atom (.map (some b))) (hx:e.ev x=str k) (hz:e.ev z=lv)
  (hp:Pick (b,.map (kvs m) clock) H F) (hk:∀ clock',K (.atom undef) ((b,.map (kvs (GL.kvPut m k lv)) clock')::F)):LStep C ⟨dst,.mapUpdate t mo x z,ty,pos,aft,g⟩ e H K X:=by
 obtain ⟨kt,h1,h2⟩:=h.und
 exact S.kvPut h1 h2 hm hx hz hp hk
theorem S.kvIns {t el:TypeId} {zv:Value} {zl:LV} [h:TMap C.P t el zv zl] {b clock:Nat} {m:KV} {F:Heap} {mo z:Operand} {k:List UInt8} {lv:LV} (hm:e.ev mo=.atom (.map (some b))) (hx:e.ev x=str k) (hz:e.ev z=lv)
  (hp:Pick (b,.map (kvs m) clock) H F) (hk:∀ clock',K (.atom undef) ((b,.map (kvs (GL.kvPut m k lv)) clock')::F)):LStep C ⟨dst,.insert t mo x z,ty,pos,aft,g⟩ e H K X:=
 fun ρ w L h1 h2=>(S.kvSet (dst:=dst) (ty:=ty) (pos:=pos) (aft:=aft) (g:=g) (X:=X) hm hx hz hp hk) ρ w L h1 h2
theorem S.kvInsE {t el:TypeId} {zv:Value} {zl:LV} [h:TMap C.P t el zv zl] {b clock:Nat} {m:KV} {F:Heap} {mo z:Operand} {k:List UInt8} {lv:LV} (m':KV) (hm:e.ev mo=.atom (.map (some b))) (hx:e.ev x=str k) (hz:e.ev z=lv)
  (hp:Pick (b,.map (kvs m) clock) H F) (he:GL.kvPut m k lv=m') (hk:∀ clock',K (.atom undef) ((b,.map (kvs m') clock')::F)):LStep C ⟨dst,.insert t mo x z,ty,pos,aft,g⟩ e H K X:=
 S.kvIns hm hx hz hp (he▸hk)
theorem kv_hit {A:Type} (key:A→List UInt8) (f:A→LV):∀ {l:List A} {q:A},(l.map key).Nodup→q∈l→GL.kvGet (l.map fun q=>(key q,f q)) (key q)=some (f q)
 |[],q,_,h=>by cases h
 |a::l,q,hn,h=>by
  rw[List.map_cons,List.nodup_cons] at hn
  rw[List.map_cons,GL.kvGet]
  rcases List.mem_cons.1 h with rfl|h
  ·rw[if_pos rfl]
  ·rw[if_neg (fun he=>hn.1 (by rw[show key a=key q from he];exact List.mem_map_of_mem h))]
   exact kv_hit key f hn.2 h
theorem kv_miss {A:Type} (key:A→List UInt8) (f:A→LV) {k:List UInt8}:∀ {l:List A},k ∉ l.map key→GL.kvGet (l.map fun q=>(key q,f q)) k=none
 |[],_=>rfl
 |a::l,h=>by
  rw[List.map_cons,GL.kvGet,if_neg (fun he=>h (by rw[List.map_cons];exact List.mem_cons.2 (.inl he.symm)))]
  exact kv_miss key f (fun hm=>h (by rw[List.map_cons];exact List.mem_cons_of_mem _ hm))
theorem kv_new {k:List UInt8} {v:LV}:∀ {m:KV},k ∉ m.map (·.1)→GL.kvPut m k v=m++[(k,v)]
 |[],_=>rfl
 |p::r,h=>by
  rw[GL.kvPut,if_neg (fun he=>h (by rw[List.map_cons];exact List.mem_cons.2 (.inl he.symm))),kv_new (fun hm=>h (by rw[List.map_cons];exact List.mem_cons_of_mem _ hm))]
  rfl
end
end Go.GL
namespace Go.GL
open Go.RowKit
section
variable {C:Ctx} {e:Env} {H:Heap} {dst:Option Nat} {ty:TypeId} {pos:String} {aft:Array Edge} {g:Option (Nat×Bool)} {xT yT:TypeId} {x y:Operand} {k k2:IntKind} {a b:Int}
theorem run_int2 {P:Program} {op:BinOp} {xT yT:TypeId} {x y:Operand} {k k2:IntKind} {a b:Int} {ρ:Operand→Value} (hx:ρ x=.int k a) (hy:ρ y=.int k2 b) {s:Sem Value}
  (h:(binOp op xT (.int k a) (.int k2 b))=s) {v:Value} (hv:∀ w,s.run P w=.ok v w) (w:World):(execOp ρ ⟨dst,.binOp op xT x y yT,ty,pos,aft,g⟩).run P w=.ok (.value v) w:=by
 subst h
 have he:eqGuard op xT x y (.int k a) (.int k2 b)=Pure.pure ():=by
  unfold eqGuard
  cases op <;> rfl
 simp only[execOp,hx,hy,he,Sem.run_bind,Sem.run_pure,Result.andThen_ok,hv]
theorem Pure.quoW (hx:e.ev x=int k a) (hy:e.ev y=int k b) (hb:b≠0):Pure C ⟨dst,.binOp .quo xT x y yT,ty,pos,aft,g⟩ e H (int k (k.wrap (a.tdiv b))):=
 .of_any fun _ _ _ h=>⟨_,rep_atom,run_int2 (atom_of h hx) (atom_of h hy) (s:=Op.intDiv .quo k a b) (by simp only[binOp,ne_eq,not_true_eq_false,if_false]) (fun _=>by simp only[Op.intDiv,if_neg hb,Sem.run_pure])⟩
theorem Pure.remW (hx:e.ev x=int k a) (hy:e.ev y=int k b) (hb:b≠0):Pure C ⟨dst,.binOp .rem xT x y yT,ty,pos,aft,g⟩ e H (int k (a.tmod b)):=
 .of_any fun _ _ _ h=>⟨_,rep_atom,run_int2 (atom_of h hx) (atom_of h hy) (s:=Op.intDiv .rem k a b) (by simp only[binOp,ne_eq,not_true_eq_false,if_false]) (fun _=>by simp only[Op.intDiv,if_neg hb,Sem.run_pure])⟩
theorem Pure.xorW (hx:e.ev x=int k a) (hy:e.ev y=int k b):Pure C ⟨dst,.binOp .xor xT x y yT,ty,pos,aft,g⟩ e H (int k (k.wrap ((BitVec.ofInt k.bits a ^^^ BitVec.ofInt k.bits b).toNat:Nat))):=
 .of_any fun _ _ _ h=>⟨_,rep_atom,run_int2 (atom_of h hx) (atom_of h hy) (s:=Op.intBits .xor k a b) (by simp only[binOp,ne_eq,not_true_eq_false,if_false]) (fun _=>rfl)⟩
end
/-! ### A drawn region whose last operations stand in a row: what is ahead of them only computes or reads. -/
def LS (C:Ctx) (n:Nat) (ops:Array Oper) (K:Env→Prop) (rest:List Oper) (e:Env) (H:Heap):Prop:=
 ∀ a w L,RelE n a e w L→RelH C w L H→wpStill C.P ops w (fun a'=>∃ e',RelE n a' e' w L∧K e') rest a
section still
variable {C:Ctx} {n:Nat} {ops:Array Oper} {K:Env→Prop} {e:Env} {H:Heap} {dst:Option Nat} {op:Op} {ty:TypeId} {pos:String} {aft:Array Edge} {rest:List Oper}
theorem LS.nil (h:K e):LS C n ops K [] e H:=fun _ _ _ hE _=>⟨e,hE,h⟩
theorem still_one {P:Program} {Q:Act→Prop} {a:Act} {w:World} {o:Oper} (hg:Region.wanted o (yielded ops a.tmps)=true) {v:Value} (h:(execOp a.eval o).run P w=.ok (.value v) w) (k:wpStill P ops w Q rest (a.put o.dst v)):wpStill P ops w Q (o::rest) a:=by
 unfold wpStill
 rw[if_pos hg]
 unfold Oper.still
 rw[h]
 exact ⟨rfl,k⟩
theorem LS.pure {lv:LV} (h:Pure C ⟨dst,op,ty,pos,aft,none⟩ e H lv) (hd:dstOk n dst) (k:LS C n ops K rest (e.put dst lv) H):LS C n ops K (⟨dst,op,ty,pos,aft,none⟩::rest) e H:=fun a w L hE hH=>by
 obtain ⟨v,hv,hr⟩:=h a.eval w L hE.ev hH
 exact still_one (by simp[Region.wanted]) (hr w (Agree.refl _ _ _)) (k _ w L (hE.put hd hv) hH)
theorem wpStill_mono {P:Program} {w:World} {Q Q':Act→Prop} (h:∀ a,Q a→Q' a):∀ (l:List Oper) (a:Act),wpStill P ops w Q l a→wpStill P ops w Q' l a
 |[],a,k=>h a k
 |o::l,a,k=>by
  unfold wpStill at k ⊢
  split at k
  ·rename_i hw
   rw[if_pos hw]
   exact Oper.still_mono (fun a=>wpStill_mono h l a) k
  ·rename_i hw
   rw[if_neg hw]
   exact wpStill_mono h l _ k
theorem LCode.tail [hm:TMixed C.P] {id:Nat} {l:List Oper} {Q:Post} (m:Nat) (hB:Region.lexTailB .any l.toArray m=true) (h:LS C n l.toArray (fun e'=>LOps C n l.toArray Q (l.drop m) e' H) (l.take m) e H):LCode C n (.region id l.toArray true) Q e H:=fun a w L hE hH=>by
 refine wp_region_still_tail m hm.out hB ?_
 refine wpStill_mono (fun a' h'=>?_) _ _ (h a w.drew L (hE.mono (ext_drew w L)) hH.drew)
 obtain ⟨e',hE',hk⟩:=h'
 refine wpList_mono (fun x a2 w' hq=>?_) _ _ _ (hk a' w.drew L hE' hH.drew)
 obtain ⟨e2,H',L',h1,h2,h3,h4⟩:=hq
 exact ⟨e2,H',L',h1.of_drew,h2,h3,h4⟩
end still
end Go.GL
namespace Go.GL
open Go.RowKit
@[reducible] def rowV (b n:Nat):LV:=.atom (.slice (some ⟨b,0,none⟩) n n)
section
variable {C:Ctx} {e:Env} {H:Heap} {dst:Option Nat} {ty:TypeId} {pos:String} {aft:Array Edge} {g:Option (Nat×Bool)} {K:LV→Heap→Prop} {X:List PanicEntry→Heap→Prop} {x y:Operand}
theorem range_zero (n:Nat) (z:Value):(Array.range n).map (fun i=>(if n * 1=0 then #[] else #[z])[i % (if n * 1=0 then (#[]:Array Value) else #[z]).size]!)=(List.replicate n z).toArray:=by
 rcases Nat.eq_zero_or_pos n with rfl|hn
 ·simp
 ·rw[if_neg zo]
  apply Array.ext
  ·simp
  ·intro i h1 h2
   simp[Nat.mod_one]
theorem S.makeRow {t el bytes:Nat} {zv:Value} [ht:TSlice C.P t el 1] [hr:TRow C.P el 1 bytes] [hz:TZero C.P el [zv]] {n:Nat} {k k2:IntKind} (hx:e.ev x=int k n) (hy:e.ev y=int k2 n) (hb:bytes * n≤100000000000) (hn:n≤100000000000)
  (hk:∀ b,K (rowV b n) ((b,.cells el (List.replicate n (.atom zv)))::H)):LStep C ⟨dst,.makeSlice t x y,ty,pos,aft,g⟩ e H K X:=by
 refine LStep.at0 fun ρ w L h hH=>?_
 have h3:execOp ρ ⟨dst,.makeSlice t x y,ty,pos,aft,g⟩=(do Pure.pure (.value (←Instr.makeSlice t (ρ x) (ρ y)))):=rfl
 obtain ⟨i,z,hi,hs,hby,hb0,hzz,hzs⟩:=hr.out
 obtain ⟨i',z',hi',hz',hc',hs'⟩:=hz.out
 rw[hi] at hi'
 obtain rfl:=Option.some.inj hi'
 rw[hzz] at hz'
 obtain rfl:=Option.some.inj hz'
 have wn:IntKind.i64.wrap (n:Int)=n:=wrap_i64 zo
 have n1:¬ ((n:Int)<0):=by omega
 have n2:¬ ((281474976710656:Int)<(i.bytes:Int) * n):=by
  rw[hby]
  have:((bytes * n:Nat):Int)≤100000000000:=by omega
  rw[Int.natCast_mul] at this
  omega
 have n3:¬ (n * i.bytes > roomBytes):=by
  rw[hby,Nat.mul_comm]
  unfold roomBytes
  omega
 have hrun:(Instr.makeSlice t (.int k n) (.int k2 n)).run C.P w=.ok (.slice (some ⟨w.heap.size,0,none⟩) n n) (World.push w (.cells (List.replicate n zv).toArray el)):=by
  have hrz:=range_zero n zv
  by_cases h0:n=0
  ·subst h0
   have wz:IntKind.i64.wrap 0=0:=wrap_i64 zo
   simp[Instr.makeSlice,run_underlying' ht.und,asInt,asIntOf,run_typeInfo' hi,run_sizeOf' hi,hs,wz,newRow,askRoom,roomBytes,newObj,World.push,Sem.run_bind,Sem.run_pure]
   have e0:(Array.range 0).map (fun _=>(default:Value))=#[]:=by simp
   rw[e0]
   rfl
  ·simp only[Nat.mul_one,h0,if_false] at hrz
   simp[Instr.makeSlice,run_underlying' ht.und,asInt,asIntOf,run_typeInfo' hi,run_sizeOf' hi,hs,wn,n1,n2,n3,h0,zeroValue,hzz,hc',newRow,askRoom,newObj,World.push,Sem.run_bind,Sem.run_pure,hrz]
   simp at hrz
   rw[hrz]
   rfl
 rw[h3,atom_of h hx,atom_of h hy,Sem.run_bind,hrun]
 have hrep:RepL w L (List.replicate n (.atom zv)) (List.replicate n zv):=by
  have:=repL_atoms (w:=w) (L:=L) (List.replicate n zv)
  rwa [List.map_replicate] at this
 have hx':=ext_push hH.wf (.cells (List.replicate n zv).toArray el) 0
 have:=fr_push hH (.cells (List.replicate n zv).toArray el) 0 [(w.heap.size,.cells el (List.replicate n (.atom zv)))] (fun p hp=>by
  simp only[List.mem_singleton] at hp
  subst hp
  exact ⟨rfl,by simp[Live.upd],List.replicate n zv,heap_push_self,hrep.mono hx' _ _⟩) (by simp)
 exact ⟨_,_,_,this.1,this.2,rep_atom,hk _⟩
theorem Pure.indexRow {t el s:Nat} [ht:TSlice C.P t el s] {b off m cap:Nat} {n:Int} {k:IntKind} (hx:e.ev x=.atom (.slice (some ⟨b,off,none⟩) m cap)) (hy:e.ev y=int k n) (h0:0≤n) (hn:n<m) :
  Pure C ⟨dst,.indexAddr t x y,ty,pos,aft,g⟩ e H (ptr b (off+n.toNat * s)):=.of_any fun ρ w L h=>by
 obtain ⟨i,hi,hsz⟩:=ht.size
 refine ⟨_,rep_atom,fun w'=>?_⟩
 have h3:execOp ρ ⟨dst,.indexAddr t x y,ty,pos,aft,g⟩=(do Pure.pure (.value (←Instr.indexAt t (ρ x) (ρ y)))):=rfl
 rw[h3,atom_of h hx,atom_of h hy]
 have hc:0≤n∧n<(m:Int):=⟨h0,hn⟩
 simp[Instr.indexAt,asIntOf,run_underlying' ht.und,hc,run_sizeOf' hi,add_mk,hsz]
theorem Pure.rowLen {t el s:Nat} [TSlice C.P t el s] {a:Option Addr} {m cap:Nat} (hx:e.ev x=.atom (.slice a m cap)):Pure C ⟨dst,.call { callee:=.builtin .len,args:=#[x],argTypes:=#[t] },ty,pos,aft,g⟩ e H (int .i64 m):=
 .of_any fun ρ _ _ h=>⟨_,rep_atom,fun w'=>by
  have hu:=run_underlying' (P:=C.P) (TSlice.und (t:=t)) w'
  rw[execOp_builtin',builtin_len']
  simp[Builtin.len_,hu,goInt,atom_of h hx]⟩
theorem Pure.negW {xT:TypeId} {k:IntKind} {a:Int} (hx:e.ev x=int k a):Pure C ⟨dst,.unOp .neg xT x,ty,pos,aft,g⟩ e H (int k (k.wrap (0-a))):=
 .of_any fun ρ _ _ h=>⟨_,rep_atom,fun w'=>by simp only[execOp,atom_of h hx,Op.unary];rfl⟩
end
section shut
variable {C:Ctx} {n:Nat} {Q:Post} {e:Env} {H F:Heap}
theorem row_shut {w:World} {L:Live} {b el:Nat} {vs:List Value} (hp:Pick (b,.cells el (vs.map .atom)) H F) (hH:RelH C w L H) :
  RelH C w (L.upd b vs.length) F∧Ext w L w (L.upd b vs.length)∧Rep w (L.upd b vs.length) (.list (vs.map .atom)) (.slice (some ⟨b,0,none⟩) vs.length vs.length):=by
 have hH1:=hH.perm hp
 obtain ⟨hb0,hbs,hl,xs,hx1,hx2⟩:=hH1.objs _ List.mem_cons_self
 simp only at hb0 hbs hl hx1 hx2
 have hxs:xs=vs:=RepL.atoms hx2
 subst hxs
 have hx:Ext w L w (L.upd b xs.length):=⟨Nat.le_refl _,fun _ _=>rfl,fun _ _ _=>rfl,fun c=>by
  unfold Live.upd
  split
  ·rename_i h;subst h;rw[hl];exact Nat.zero_le _
  ·exact Nat.le_refl _⟩
 have hne:∀ p∈F,p.1≠b:=fun p hp' he=>by
  have:=hH1.nodup
  rw[List.map_cons,List.nodup_cons] at this
  exact this.1 (List.mem_map.2 ⟨p,hp',he⟩)
 refine ⟨⟨hH1.base,trivial,hH1.b0,fun c hc=>?_,?_,fun p hp'=>?_⟩,hx,?_⟩
 ·unfold Live.upd
  rw[if_neg zo]
  exact hH1.wf c hc
 ·have:=hH1.nodup
  rw[List.map_cons,List.nodup_cons] at this
  exact this.2
 ·obtain ⟨g1,g2,g3⟩:=hH1.objs p (List.mem_cons_of_mem _ hp')
  exact ⟨g1,g2,g3.keep hx rfl (by unfold Live.upd;rw[if_neg (hne p hp')])⟩
 ·have hL:(L.upd b xs.length) b=xs.length:=by unfold Live.upd;rw[if_pos rfl]
  have hlen:(xs.map LV.atom).length=xs.length:=List.length_map _
  simp only[Rep]
  refine ⟨some ⟨b,0,none⟩,xs.length,by rw[hlen],by rw[hlen];exact Nat.le_refl _,fun _=>⟨b,0,1,rfl,?_⟩⟩
  have hflat:∀ l:List Value,(l.map LV.atom).flatMap LV.cells=l.map LV.atom:=fun l=>by
   induction l with
   |nil=>rfl
   |cons a l ih=>simp only[List.map_cons,List.flatMap_cons,ih];rfl
  refine RepRows.ofC (fun v hv=>?_) ?_
  ·obtain ⟨a,_,rfl⟩:=List.mem_map.1 hv
   rfl
  ·rw[hflat]
   refine RepC.of_cells (repL_atoms xs) (by rw[hL];omega) fun j x hx=>?_
   simp only[World.cell?,hx1,Nat.zero_add]
   simpa using hx
theorem lift_shut {w:World} {L:Live} {b el:Nat} {vs:List Value} (hp:Pick (b,.cells el (vs.map .atom)) H F) (hH:RelH C w L H) {x:Exit} {a:Act} {w':World} (h:lift C n w (L.upd b vs.length) (keys F) Q x a w'):lift C n w L (keys H) Q x a w':=by
 obtain ⟨e',H',L',h1,h2,h3,h4⟩:=h
 have hx:=(row_shut hp hH).2.1
 have hin:∀ c,c∈keys F→c∈keys H:=fun c hc=>by
  obtain ⟨p,hp',rfl⟩:=List.mem_map.1 hc
  exact List.mem_map_of_mem (hp.mem_iff.2 (List.mem_cons_of_mem _ hp'))
 have hb:b∈keys H:=List.mem_map.2 ⟨_,hp.mem_iff.2 List.mem_cons_self,rfl⟩
 refine ⟨e',H',L',⟨h1.os,h1.tape,h1.output,hx.trans h1.ext,fun c hc hn=>h1.block c hc (fun k=>hn (hin c k)),fun c hc hn=>?_,fun p hp'=>(h1.kin p hp').imp (hin _) id⟩,h2,h3,h4⟩
 rw[h1.lsame c hc (fun k=>hn (hin c k))]
 unfold Live.upd
 rw[if_neg (fun he=>hn (by rw[he];exact hb))]
theorem relE_shut {a:Act} {w:World} {L:Live} {b el d:Nat} {vs:List Value} (hp:Pick (b,.cells el (vs.map .atom)) H F) (hd:e.s d=rowV b vs.length) (hE:RelE n a e w L) (hH:RelH C w L H):RelE n a (e.upd d (.list (vs.map .atom))) w (L.upd b vs.length):=by
 obtain ⟨_,hx,hr⟩:=row_shut hp hH
 refine ⟨hE.size,hE.ds,fun i=>?_⟩
 have hv:=hE.vals i
 simp only[Env.upd]
 cases hb:Nat.beq i d with
 |false=>exact hv.mono hx _ _
 |true=>
  have hi:=Nat.eq_of_beq_eq_true hb
  subst hi
  rw[hd] at hv
  simp only[Rep] at hv
  rw[hv]
  exact hr
theorem LCode.rowShut {c:Code} (d:Nat) {b el:Nat} {vs:List Value} (hp:Pick (b,.cells el (vs.map .atom)) H F) (hd:e.s d=rowV b vs.length) (h:LCode C n c Q (e.upd d (.list (vs.map .atom))) F):LCode C n c Q e H:=fun a w L hE hH=>
 Go.wp_mono (h a w _ (relE_shut hp hd hE hH) (row_shut hp hH).1) fun _ _ _=>lift_shut hp hH
end shut
end Go.GL
namespace Go.GL
open Go.RowKit
section
variable {C:Ctx} {e:Env} {H:Heap} {x y:Operand} {dst:Option Nat} {ty:TypeId} {pos:String} {aft:Array Edge} {g:Option (Nat×Bool)} {K:LV→Heap→Prop} {X:List PanicEntry→Heap→Prop}
def byts (l:List UInt8):List LV:=l.map fun b=>int .u8 b.toNat
theorem byts_len (l:List UInt8):(byts l).length=l.length:=List.length_map _
theorem byts_app (l m:List UInt8):byts (l++m)=byts l++byts m:=List.map_append
/-! ### A buffer whose cells are all known: it can be frozen -/
end
end Go.GL
namespace Go.Stele
structure IS where
 sc:List UInt8→Nat
 ar:List UInt8→List Nat
 inp:List Nat
 out:List UInt8
 left:Nat
inductive IR (A:Type) where
 |ok (v:A) (s:IS)
 |stop (e:Int) (s:IS)
def IR.bind {A B:Type} (r:IR A) (f:A→IS→IR B):IR B:=match r with
 |.ok v s=>f v s
 |.stop e s=>.stop e s
def IR.st {A:Type}:IR A→IS
 |.ok _ s=>s
 |.stop _ s=>s
def tick (s:IS):IR Unit:=if s.left=0 then .stop 13 s else .ok () { s with left:=s.left-1 }
def b2n (b:Bool):Nat:=if b=true then 1 else 0
def binI (op:List UInt8) (a b:Nat):Option Nat:=
 if op=[43] then some ((a+b) % 4294967296)
 else if op=[45] then some ((a+4294967296-b) % 4294967296)
 else if op=[42] then some (a * b % 4294967296)
 else if op=[94] then some (a ^^^ b)
 else if op=[61,61] then some (b2n (decide (a=b)))
 else if op=[33,61] then some (b2n (decide (a≠b)))
 else if op=[60] then some (b2n (decide (a<b)))
 else if op=[62] then some (b2n (decide (b<a)))
 else if op=[60,61] then some (b2n (decide (a≤b)))
 else if op=[62,61] then some (b2n (decide (b≤a)))
 else if op=[38,38] then some (b2n (decide (a≠0∧b≠0)))
 else if op=[124,124] then some (b2n (decide (a≠0∨b≠0)))
 else if b=0 then none
 else if op=[47] then some (a / b) else some (a % b)
def keyI (f:FnD) (name:List UInt8):List UInt8:=if name∈f.params∨name∈f.locals then f.name++[46]++name else name
def fnI (P:Pr) (name:List UInt8):FnD:=(P.funcs.find? fun f=>decide (f.name=name)).getD ⟨[],[],[],[]⟩
def setSc (s:IS) (k:List UInt8) (v:Nat):IS:={ s with sc:=fun x=>if x=k then v else s.sc x }
def setPs (f:FnD):List (List UInt8)→List Nat→IS→IS
 |p::ps,v::vs,s=>setPs f ps vs (setSc s (keyI f p) v)
 |_,_,s=>s
def mapR {A:Type} (g:A→IS→IR Nat):List A→IS→IR (List Nat)
 |[],s=>.ok [] s
 |a::l,s=>(g a s).bind fun v s=>(mapR g l s).bind fun vs s=>.ok (v::vs) s
def blkR (g:Sm→IS→IR (Option Nat)):List Sm→IS→IR (Option Nat)
 |[],s=>.ok none s
 |a::l,s=>(g a s).bind fun r s=>match r with
  |some v=>.ok (some v) s
  |none=>blkR g l s
def whlR (c:IS→IR Nat) (b:IS→IR (Option Nat)):Nat→Nat→IS→IR (Option Nat)
 |0,v,s=>if v=0 then .ok none s else .stop 13 s
 |m+1,v,s=>if v=0 then .ok none s else (b s).bind fun r s=>match r with
  |some x=>.ok (some x) s
  |none=>(c s).bind fun v s=>whlR c b m v s
def callI (P:Pr) (g:FnD→Sm→IS→IR (Option Nat)) (name:List UInt8) (vs:List Nat) (s:IS):IR Nat:=
 if name=[105,110] then (match s.inp with
  |[]=>.ok 4294967295 s
  |v::r=>.ok v { s with inp:=r })
 else if name=[111,117,116] then .ok 0 { s with out:=s.out++[UInt8.ofNat (vs.headD 0)] }
 else (blkR (g (fnI P name)) (fnI P name).body (setPs (fnI P name) (fnI P name).params vs s)).bind fun r s=>.ok (r.getD 0) s
def opI (P:Pr) (g:FnD→Sm→IS→IR (Option Nat)) (f:FnD) (op:List UInt8) (num:Nat) (name:List UInt8) (vs:List Nat) (s:IS):IR Nat:=
 if op=[110,117,109] then .ok num s
 else if op=[118,97,114] then .ok (s.sc (keyI f name)) s
 else if op=[101,108,101,109] then (match (s.ar name)[vs.headD 0]? with
  |some v=>.ok v s
  |none=>.stop 2 s)
 else if op=[110,101,103] then .ok ((4294967296-vs.headD 0) % 4294967296) s
 else if op=[110,111,116] then .ok (b2n (decide (vs.headD 0=0))) s
 else if op=[99,97,108,108] then callI P g name vs s
 else match binI op (vs.headD 0) (vs.tail.headD 0) with
  |some v=>.ok v s
  |none=>.stop 12 s
mutual
def evI (P:Pr):Nat→FnD→Ex→IS→IR Nat
 |0,_,_,s=>.stop 13 s
 |n+1,f,.mk op num name args,s=>(tick s).bind fun _ s=>(mapR (evI P n f) args s).bind fun vs s=>opI P (stI P n) f op num name vs s
def stI (P:Pr):Nat→FnD→Sm→IS→IR (Option Nat)
 |0,_,_,s=>.stop 13 s
 |n+1,f,.mk kind name index value thn els,s=>(tick s).bind fun _ s=>
  if kind=7 then .stop 0 s else (evI P n f (value.headD default) s).bind fun v s=>
   if kind=1 then .ok none (setSc s (keyI f name) v)
   else if kind=2 then (evI P n f (index.headD default) s).bind fun i s=>match (s.ar name)[i]? with
    |some _=>.ok none { s with ar:=fun x=>if x=name then (s.ar name).set i v else s.ar x }
    |none=>.stop 2 s
   else if kind=5 then .ok (some v) s
   else if kind=3 then (if v≠0 then blkR (stI P n f) thn s else blkR (stI P n f) els s)
   else if kind=4 then whlR (evI P n f (value.headD default)) (blkR (stI P n f) thn) n v s
   else .ok none s
end
/-! ### A greater limit -/
def up (k:Nat) (s:IS):IS:={ s with left:=s.left+k }
def Grow {A:Type} (s:IS) (r:IR A):Prop:=s.out <+: r.st.out∧r.st.left≤s.left
theorem Grow.bind {A B:Type} {s:IS} {r:IR A} {f:A→IS→IR B} (h:Grow s r) (hf:∀ v s',Grow s' (f v s')):Grow s (r.bind f):=by
 cases r with
 |ok v s'=>exact ⟨List.IsPrefix.trans h.1 (hf v s').1,Nat.le_trans (hf v s').2 h.2⟩
 |stop e s'=>exact h
theorem tick_grow (s:IS):Grow s (tick s):=by
 unfold tick
 split
 ·exact ⟨List.prefix_refl _,Nat.le_refl _⟩
 ·exact ⟨List.prefix_refl _,Nat.sub_le _ _⟩
theorem mapR_grow {A:Type} {g:A→IS→IR Nat} (h:∀ a s,Grow s (g a s)):∀ (l:List A) (s:IS),Grow s (mapR g l s)
 |[],s=>⟨List.prefix_refl _,Nat.le_refl _⟩
 |a::l,s=>(h a s).bind fun v s=>(mapR_grow h l s).bind fun vs s=>⟨List.prefix_refl _,Nat.le_refl _⟩
theorem blkR_grow {g:Sm→IS→IR (Option Nat)} (h:∀ a s,Grow s (g a s)):∀ (l:List Sm) (s:IS),Grow s (blkR g l s)
 |[],s=>⟨List.prefix_refl _,Nat.le_refl _⟩
 |a::l,s=>(h a s).bind fun r s=>by
  cases r with
  |none=>exact blkR_grow h l s
  |some v=>exact ⟨List.prefix_refl _,Nat.le_refl _⟩
theorem whlR_grow {c:IS→IR Nat} {b:IS→IR (Option Nat)} (hc:∀ s,Grow s (c s)) (hb:∀ s,Grow s (b s)):∀ (m v:Nat) (s:IS),Grow s (whlR c b m v s)
 |0,v,s=>by
  unfold whlR
  split <;> exact ⟨List.prefix_refl _,Nat.le_refl _⟩
 |m+1,v,s=>by
  unfold whlR
  split
  ·exact ⟨List.prefix_refl _,Nat.le_refl _⟩
  ·refine (hb s).bind fun r s=>?_
   cases r with
   |some x=>exact ⟨List.prefix_refl _,Nat.le_refl _⟩
   |none=>exact (hc s).bind fun v s=>whlR_grow hc hb m v s
theorem setPs_same (f:FnD):∀ (ps:List (List UInt8)) (vs:List Nat) (s:IS),(setPs f ps vs s).out=s.out∧(setPs f ps vs s).left=s.left∧∀ k,setPs f ps vs (up k s)=up k (setPs f ps vs s)
 |p::ps,v::vs,s=>by
  obtain ⟨h1,h2,h3⟩:=setPs_same f ps vs (setSc s (keyI f p) v)
  exact ⟨h1,h2,fun k=>h3 k⟩
 |[],_,s=>by unfold setPs;exact ⟨rfl,rfl,fun _=>rfl⟩
 |_::_,[],s=>by unfold setPs;exact ⟨rfl,rfl,fun _=>rfl⟩
theorem opI_grow {P:Pr} {g:FnD→Sm→IS→IR (Option Nat)} (h:∀ f a s,Grow s (g f a s)) (f:FnD) (op:List UInt8) (num:Nat) (name:List UInt8) (vs:List Nat) (s:IS):Grow s (opI P g f op num name vs s):=by
 unfold opI
 split
 ·exact ⟨List.prefix_refl _,Nat.le_refl _⟩
 split
 ·exact ⟨List.prefix_refl _,Nat.le_refl _⟩
 split
 ·split <;> exact ⟨List.prefix_refl _,Nat.le_refl _⟩
 split
 ·exact ⟨List.prefix_refl _,Nat.le_refl _⟩
 split
 ·exact ⟨List.prefix_refl _,Nat.le_refl _⟩
 split
 ·unfold callI
  split
  ·split <;> exact ⟨List.prefix_refl _,Nat.le_refl _⟩
  split
  ·exact ⟨List.prefix_append _ _,Nat.le_refl _⟩
  ·refine Grow.bind ?_ fun r s=>⟨List.prefix_refl _,Nat.le_refl _⟩
   have:=blkR_grow (h (fnI P name)) (fnI P name).body (setPs (fnI P name) (fnI P name).params vs s)
   unfold Grow at this ⊢
   rwa [(setPs_same _ _ _ _).1,(setPs_same _ _ _ _).2.1] at this
 ·split <;> exact ⟨List.prefix_refl _,Nat.le_refl _⟩
theorem grow_all (P:Pr):∀ n:Nat,(∀ f x s,Grow s (evI P n f x s))∧∀ f x s,Grow s (stI P n f x s)
 |0=>⟨fun f x s=>by unfold evI;exact ⟨List.prefix_refl _,Nat.le_refl _⟩,fun f x s=>by unfold stI;exact ⟨List.prefix_refl _,Nat.le_refl _⟩⟩
 |n+1=>by
  obtain ⟨h1,h2⟩:=grow_all P n
  refine ⟨fun f x s=>?_,fun f x s=>?_⟩
  ·obtain ⟨op,num,name,args⟩:=x
   unfold evI
   exact (tick_grow s).bind fun _ s=>(mapR_grow (h1 f) args s).bind fun vs s=>opI_grow h2 f op num name vs s
  ·obtain ⟨kind,name,index,value,thn,els⟩:=x
   unfold stI
   refine (tick_grow s).bind fun _ s=>?_
   split
   ·exact ⟨List.prefix_refl _,Nat.le_refl _⟩
   ·refine (h1 f _ s).bind fun v s=>?_
    split
    ·exact ⟨List.prefix_refl _,Nat.le_refl _⟩
    split
    ·refine (h1 f _ s).bind fun i s=>?_
     split <;> exact ⟨List.prefix_refl _,Nat.le_refl _⟩
    split
    ·exact ⟨List.prefix_refl _,Nat.le_refl _⟩
    split
    ·split
     ·exact blkR_grow (h2 f) _ _
     ·exact blkR_grow (h2 f) _ _
    split
    ·exact whlR_grow (h1 f _) (blkR_grow (h2 f) _) _ _ _
    ·exact ⟨List.prefix_refl _,Nat.le_refl _⟩
theorem whlR_zero (c:IS→IR Nat) (b:IS→IR (Option Nat)) (m:Nat) (s:IS):whlR c b m 0 s=.ok none s:=by
 cases m <;> rw[whlR,if_pos rfl]
theorem tick_less {s s':IS} {u:Unit} (h:tick s=.ok u s'):s'.left<s.left:=by
 unfold tick at h
 split at h
 ·cases h
 ·cases h
  simp only
  omega
theorem ev_less (P:Pr) (n:Nat) (f:FnD) (x:Ex) (s s':IS) (v:Nat) (h:evI P n f x s=.ok v s'):s'.left<s.left:=by
 cases n with
 |zero=>unfold evI at h;cases h
 |succ n=>
  obtain ⟨op,num,name,args⟩:=x
  unfold evI at h
  cases ht:tick s with
  |stop e s1=>rw[ht] at h;cases h
  |ok u s1=>
   rw[ht] at h
   have h1:=tick_less ht
   have hG:Grow s1 ((mapR (evI P n f) args s1).bind fun vs s=>opI P (stI P n) f op num name vs s):=(mapR_grow ((grow_all P n).1 f) args s1).bind fun vs s=>opI_grow (grow_all P n).2 f op num name vs s
   have h2:=hG.2
   have h3:(mapR (evI P n f) args s1).bind (fun vs s=>opI P (stI P n) f op num name vs s)=.ok v s':=h
   rw[h3] at h2
   exact Nat.lt_of_le_of_lt h2 h1
/-! ### A run -/
structure OutI where
 out:List UInt8
 err:Int
 steps:Nat
def startI (P:Pr) (inp:List Nat) (limit:Nat):IS:=⟨fun _=>0,fun x=>match P.arrays.find? fun a=>decide (a.name=x) with
 |some a=>List.replicate a.size 0
 |none=>[],inp,[],limit⟩
def mainI (P:Pr):FnD:=P.funcs.getLast?.getD ⟨[],[],[],[]⟩
def endI {A:Type} (limit:Nat):IR A→OutI
 |.ok _ s=>⟨s.out,0,limit-s.left⟩
 |.stop e s=>⟨s.out,e,limit-s.left⟩
def runI (P:Pr) (inp:List Nat) (limit:Nat):OutI:=endI limit (blkR (stI P limit (mainI P)) (mainI P).body (startI P inp limit))
end Go.Stele
namespace Go.Stele
def readI:List Nat→Nat×List Nat
 |[]=>(4294967295,[])
 |v::r=>(v,r)
def InpRel (Q:List Nat→List Nat→Prop):Prop:=∀ i j,Q i j→(readI i).1=(readI j).1∧Q (readI i).2 (readI j).2
mutual
def noInE:Ex→Bool
 |.mk op num name args=>!(decide (op=[99,97,108,108]∧name=[105,110])) && noInEs args
def noInEs:List Ex→Bool
 |[]=>true
 |x::l=>noInE x && noInEs l
end
mutual
def noInS:Sm→Bool
 |.mk kind name index value thn els=>noInEs index && noInEs value && noInSs thn && noInSs els
def noInSs:List Sm→Bool
 |[]=>true
 |x::l=>noInS x && noInSs l
end
theorem noInEs_mem:∀ {l:List Ex} {x:Ex},noInEs l=true→x∈l→noInE x=true
 |a::l,x,h,hx=>by
  rw[noInEs,Bool.and_eq_true] at h
  rcases List.mem_cons.1 hx with rfl|hx
  ·exact h.1
  ·exact noInEs_mem h.2 hx
theorem noInSs_mem:∀ {l:List Sm} {x:Sm},noInSs l=true→x∈l→noInS x=true
 |a::l,x,h,hx=>by
  rw[noInSs,Bool.and_eq_true] at h
  rcases List.mem_cons.1 hx with rfl|hx
  ·exact h.1
  ·exact noInSs_mem h.2 hx
section
variable {Q:List Nat→List Nat→Prop}
def RelI (Q:List Nat→List Nat→Prop) (s s':IS):Prop:=∃ j,s'={ s with inp:=j }∧Q s.inp j
def Eqv {A:Type} (Q:List Nat→List Nat→Prop) (r r':IR A):Prop:=match r,r' with
 |.ok v s,.ok v' s'=>v=v'∧RelI Q s s'
 |.stop e s,.stop e' s'=>e=e'∧RelI Q s s'
 |_,_=>False
theorem Eqv.ok {A:Type} {v:A} {s s':IS} (h:RelI Q s s'):Eqv Q (.ok v s) (.ok v s'):=⟨rfl,h⟩
theorem Eqv.stop {A:Type} {e:Int} {s s':IS} (h:RelI Q s s'):Eqv (A:=A) Q (.stop e s) (.stop e s'):=⟨rfl,h⟩
theorem Eqv.bind {A B:Type} {r r':IR A} {f f':A→IS→IR B} (h:Eqv Q r r') (hf:∀ v s s',RelI Q s s'→Eqv Q (f v s) (f' v s')):Eqv Q (r.bind f) (r'.bind f'):=by
 cases r with
 |ok v s=>
  cases r' with
  |ok v' s'=>
   obtain ⟨rfl,h2⟩:=h
   exact hf v s s' h2
  |stop e s'=>exact h.elim
 |stop e s=>
  cases r' with
  |ok v' s'=>exact h.elim
  |stop e' s'=>
   obtain ⟨rfl,h2⟩:=h
   exact ⟨rfl,h2⟩
theorem tick_eqv {s s':IS} (h:RelI Q s s'):Eqv Q (tick s) (tick s'):=by
 obtain ⟨j,rfl,hq⟩:=h
 unfold tick
 by_cases h:s.left=0
 ·rw[if_pos h,if_pos h]
  exact Eqv.stop ⟨j,rfl,hq⟩
 ·rw[if_neg h,if_neg h]
  exact Eqv.ok ⟨j,rfl,hq⟩
theorem mapR_eqv {A:Type} {g g':A→IS→IR Nat}:∀ (l:List A) (s s':IS),(∀ a∈l,∀ s s',RelI Q s s'→Eqv Q (g a s) (g' a s'))→RelI Q s s'→Eqv Q (mapR g l s) (mapR g' l s')
 |[],s,s',_,hs=>Eqv.ok hs
 |a::l,s,s',h,hs=>by
  unfold mapR
  exact (h a (List.mem_cons_self ..) s s' hs).bind fun v s s' hs=>(mapR_eqv l s s' (fun a ha=>h a (List.mem_cons_of_mem _ ha)) hs).bind fun vs s s' hs=>Eqv.ok hs
theorem blkR_eqv {g g':Sm→IS→IR (Option Nat)}:∀ (l:List Sm) (s s':IS),(∀ a∈l,∀ s s',RelI Q s s'→Eqv Q (g a s) (g' a s'))→RelI Q s s'→Eqv Q (blkR g l s) (blkR g' l s')
 |[],s,s',_,hs=>Eqv.ok hs
 |a::l,s,s',h,hs=>by
  unfold blkR
  refine (h a (List.mem_cons_self ..) s s' hs).bind fun r s s' hs=>?_
  cases r with
  |some v=>exact Eqv.ok hs
  |none=>exact blkR_eqv l s s' (fun a ha=>h a (List.mem_cons_of_mem _ ha)) hs
theorem whlR_eqv {c c':IS→IR Nat} {b b':IS→IR (Option Nat)} (hc:∀ s s',RelI Q s s'→Eqv Q (c s) (c' s')) (hb:∀ s s',RelI Q s s'→Eqv Q (b s) (b' s')):∀ (m v:Nat) (s s':IS),RelI Q s s'→Eqv Q (whlR c b m v s) (whlR c' b' m v s')
 |0,v,s,s',hs=>by
  unfold whlR
  split
  ·exact Eqv.ok hs
  ·exact Eqv.stop hs
 |m+1,v,s,s',hs=>by
  unfold whlR
  split
  ·exact Eqv.ok hs
  ·refine (hb s s' hs).bind fun r s s' hs=>?_
   cases r with
   |some x=>exact Eqv.ok hs
   |none=>exact (hc s s' hs).bind fun v s s' hs=>whlR_eqv hc hb m v s s' hs
theorem setPs_rel (f:FnD):∀ (ps:List (List UInt8)) (vs:List Nat) (s s':IS),RelI Q s s'→RelI Q (setPs f ps vs s) (setPs f ps vs s')
 |p::ps,v::vs,s,s',h=>by
  unfold setPs
  refine setPs_rel f ps vs _ _ ?_
  obtain ⟨j,rfl,hq⟩:=h
  exact ⟨j,rfl,hq⟩
 |[],_,s,s',h=>by unfold setPs;exact h
 |_::_,[],s,s',h=>by unfold setPs;exact h
theorem opI_eqv {P:Pr} {g g':FnD→Sm→IS→IR (Option Nat)} (f:FnD) (op:List UInt8) (num:Nat) (name:List UInt8) (vs:List Nat) (s s':IS) (hin:InpRel Q∨¬ (op=[99,97,108,108]∧name=[105,110])) (h:∀ f x s s',(InpRel Q∨noInS x=true)→RelI Q s s'→Eqv Q (g f x s) (g' f x s')) (hP:InpRel Q∨∀ f∈P.funcs,noInSs f.body=true) (hs:RelI Q s s'):Eqv Q (opI P g f op num name vs s) (opI P g' f op num name vs s'):=by
 have h1:s'.sc=s.sc∧s'.ar=s.ar∧s'.out=s.out:=by obtain ⟨j,rfl,_⟩:=hs;exact ⟨rfl,rfl,rfl⟩
 unfold opI
 by_cases c1:op=[110,117,109]
 ·rw[if_pos c1,if_pos c1];exact Eqv.ok hs
 rw[if_neg c1,if_neg c1]
 by_cases c2:op=[118,97,114]
 ·rw[if_pos c2,if_pos c2,h1.1];exact Eqv.ok hs
 rw[if_neg c2,if_neg c2]
 by_cases c3:op=[101,108,101,109]
 ·rw[if_pos c3,if_pos c3,h1.2.1]
  split
  ·exact Eqv.ok hs
  ·exact Eqv.stop hs
 rw[if_neg c3,if_neg c3]
 by_cases c4:op=[110,101,103]
 ·rw[if_pos c4,if_pos c4];exact Eqv.ok hs
 rw[if_neg c4,if_neg c4]
 by_cases c5:op=[110,111,116]
 ·rw[if_pos c5,if_pos c5];exact Eqv.ok hs
 rw[if_neg c5,if_neg c5]
 by_cases c6:op=[99,97,108,108]
 ·rw[if_pos c6,if_pos c6]
  unfold callI
  by_cases c7:name=[105,110]
  ·rw[if_pos c7,if_pos c7]
   rcases hin with hin|hin
   ·obtain ⟨j,rfl,hq⟩:=hs
    obtain ⟨q1,q2⟩:=hin _ _ hq
    obtain ⟨sc,ar,inp,out,left⟩:=s
    cases inp with
    |nil=>
     cases j with
     |nil=>exact ⟨rfl,_,rfl,q2⟩
     |cons v r=>exact ⟨q1,_,rfl,q2⟩
    |cons v r=>
     cases j with
     |nil=>exact ⟨q1,_,rfl,q2⟩
     |cons v' r'=>exact ⟨q1,_,rfl,q2⟩
   ·exact absurd ⟨c6,c7⟩ hin
  rw[if_neg c7,if_neg c7]
  by_cases c8:name=[111,117,116]
  ·rw[if_pos c8,if_pos c8]
   obtain ⟨j,rfl,hq⟩:=hs
   exact Eqv.ok ⟨j,rfl,hq⟩
  rw[if_neg c8,if_neg c8]
  refine (blkR_eqv _ _ _ (fun x hx s s' hs=>h _ x s s' ?_ hs) (setPs_rel _ _ _ _ _ hs)).bind fun r s s' hs=>Eqv.ok hs
  rcases hP with hP|hP
  ·exact .inl hP
  ·right
   unfold fnI at hx
   cases hf:P.funcs.find? fun f=>decide (f.name=name) with
   |none=>rw[hf] at hx;cases hx
   |some f'=>
    rw[hf] at hx
    exact noInSs_mem (hP f' (List.mem_of_find?_eq_some hf)) hx
 rw[if_neg c6,if_neg c6]
 split
 ·exact Eqv.ok hs
 ·exact Eqv.stop hs
theorem eqv_all {P:Pr} (hP:InpRel Q∨∀ f∈P.funcs,noInSs f.body=true):∀ n:Nat,(∀ f x s s',(InpRel Q∨noInE x=true)→RelI Q s s'→Eqv Q (evI P n f x s) (evI P n f x s'))∧∀ f x s s',(InpRel Q∨noInS x=true)→RelI Q s s'→Eqv Q (stI P n f x s) (stI P n f x s')
 |0=>⟨fun f x s s' _ hs=>by unfold evI;exact Eqv.stop hs,fun f x s s' _ hs=>by unfold stI;exact Eqv.stop hs⟩
 |n+1=>by
  obtain ⟨i1,i2⟩:=eqv_all hP n
  refine ⟨fun f x s s' hx hs=>?_,fun f x s s' hx hs=>?_⟩
  ·obtain ⟨op,num,name,args⟩:=x
   unfold evI
   refine (tick_eqv hs).bind fun _ s s' hs=>(mapR_eqv args s s' (fun a ha s s' hs=>i1 f a s s' ?_ hs) hs).bind fun vs s s' hs=>opI_eqv f op num name vs s s' ?_ i2 hP hs
   ·rcases hx with hx|hx
    ·exact .inl hx
    ·rw[noInE,Bool.and_eq_true] at hx
     exact .inr (noInEs_mem hx.2 ha)
   ·rcases hx with hx|hx
    ·exact .inl hx
    ·rw[noInE,Bool.and_eq_true] at hx
     exact .inr fun hc=>by rw[decide_eq_true hc] at hx;exact absurd hx.1 (by decide)
  ·obtain ⟨kind,name,index,value,thn,els⟩:=x
   have hE:∀ l:List Ex,(InpRel Q∨noInEs l=true)→InpRel Q∨noInE (l.headD default)=true:=fun l hl=>by
    rcases hl with hl|hl
    ·exact .inl hl
    ·right
     cases l with
     |nil=>rfl
     |cons a l=>exact noInEs_mem hl (List.mem_cons_self ..)
   have hx':(InpRel Q∨noInEs index=true)∧(InpRel Q∨noInEs value=true)∧(InpRel Q∨noInSs thn=true)∧(InpRel Q∨noInSs els=true):=by
    rcases hx with hx|hx
    ·exact ⟨.inl hx,.inl hx,.inl hx,.inl hx⟩
    ·rw[noInS,Bool.and_eq_true,Bool.and_eq_true,Bool.and_eq_true] at hx
     exact ⟨.inr hx.1.1.1,.inr hx.1.1.2,.inr hx.1.2,.inr hx.2⟩
   obtain ⟨x1,x2,x3,x4⟩:=hx'
   have hB:∀ l:List Sm,(InpRel Q∨noInSs l=true)→∀ s s',RelI Q s s'→Eqv Q (blkR (stI P n f) l s) (blkR (stI P n f) l s'):=fun l hl s s' hs=>blkR_eqv l s s' (fun a ha s s' hs=>i2 f a s s' (by
    rcases hl with hl|hl
    ·exact .inl hl
    ·exact .inr (noInSs_mem hl ha)) hs) hs
   unfold stI
   refine (tick_eqv hs).bind fun _ s s' hs=>?_
   split
   ·exact Eqv.stop hs
   refine (i1 f _ s s' (hE value x2) hs).bind fun v s s' hs=>?_
   split
   ·obtain ⟨j,rfl,hq⟩:=hs
    exact Eqv.ok ⟨j,rfl,hq⟩
   split
   ·refine (i1 f _ s s' (hE index x1) hs).bind fun i s s' hs=>?_
    obtain ⟨j,rfl,hq⟩:=hs
    simp only
    split
    ·exact Eqv.ok ⟨j,rfl,hq⟩
    ·exact Eqv.stop ⟨j,rfl,hq⟩
   split
   ·exact Eqv.ok hs
   split
   ·split
    ·exact hB thn x3 s s' hs
    ·exact hB els x4 s s' hs
   split
   ·exact whlR_eqv (fun s s' hs=>i1 f _ s s' (hE value x2) hs) (hB thn x3) n v s s' hs
   ·exact Eqv.ok hs
theorem end_eqv {A:Type} {r r':IR A} (limit:Nat) (h:Eqv Q r r'):endI limit r=endI limit r':=by
 cases r with
 |ok v s=>
  cases r' with
  |ok v' s'=>
   obtain ⟨rfl,j,rfl,_⟩:=h
   rfl
  |stop e s'=>exact h.elim
 |stop e s=>
  cases r' with
  |ok v' s'=>exact h.elim
  |stop e' s'=>
   obtain ⟨rfl,j,rfl,_⟩:=h
   rfl
end
theorem fnMain_mem (P:Pr):mainI P∈P.funcs∨(mainI P).body=[]:=by
 unfold mainI
 cases h:P.funcs.getLast? with
 |none=>exact .inr rfl
 |some f=>exact .inl (List.mem_of_getLast? h)
theorem run_pad (P:Pr) (inp:List Nat) (n limit:Nat):runI P inp limit=runI P (inp++List.replicate n 4294967295) limit:=by
 refine end_eqv (Q:=fun i j=>∃ k,j=i++List.replicate k 4294967295) limit (blkR_eqv _ _ _ (fun x hx s s' hs=>(eqv_all (.inl ?_) limit).2 _ x s s' (.inl ?_) hs) ⟨_,rfl,n,rfl⟩)
 all_goals
  rintro i j ⟨k,rfl⟩
  cases i with
  |nil=>
   cases k with
   |zero=>exact ⟨rfl,0,rfl⟩
   |succ k=>exact ⟨rfl,k,rfl⟩
  |cons v r=>exact ⟨rfl,k,rfl⟩
theorem run_noin (P:Pr) (hP:∀ f∈P.funcs,noInSs f.body=true) (inp inp':List Nat) (limit:Nat):runI P inp limit=runI P inp' limit:=by
 refine end_eqv (Q:=fun _ _=>True) limit (blkR_eqv _ _ _ (fun x hx s s' hs=>(eqv_all (.inr hP) limit).2 _ x s s' (.inr ?_) hs) ⟨_,rfl,trivial⟩)
 rcases fnMain_mem P with h|h
 ·exact noInSs_mem (hP _ h) hx
 ·rw[h] at hx
  cases hx
end Go.Stele
