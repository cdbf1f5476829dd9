import Derived.Laws.IdiomStrings
import Derived.RangeFuncFrom
import Derived.RangeFuncLeaves
import Derived.TacticsIn
import Derived.DeepKeys
import Derived.Lib.Builder
import Derived.Lib.AppendStr
import Derived.StillTail
import Derived.Test.YtkihibnffkpnkaaGreatDoorBRowLR1
set_option linter.unusedVariables false
set_option linter.unusedSimpArgs false
set_option maxRecDepth 100000
set_option maxHeartbeats 4000000
open List (mem_singleton mem_cons_self nil_sublist map_nil map_toArray take_left' map_map map_set)
open Nat (mul_one zero_add)
open Option (getD_some map_some)
namespace Go.GL
open Go.RowKit
variable{C:Ctx}{H:Heap}{L:Live}{P:Program}{Q:Post}{aft:Array Edge}{c:Code}{dst:Option Nat}{e:Env}{f:FuncId}{lv:LV}{n:Nat}{ops:Array Oper}{pos:String}{rest:List Oper}{t ty:TypeId}{w:World}
@[reducible] def Ret(v:LV):LRes->Heap->Prop:=λr H=>r=.ret v/\H=[]
@[reducible] def qgY(p:LV->Prop):LRes->Heap->Prop:=λr H=>∃ v,r=.ret v/\p v/\H=[]
section
variable{C:Ctx}{e:Env}{H:Heap}{dst:Option Nat}{ty:TypeId}{pos:String}{aft:Array Edge}{g:Option (Nat×Bool)}{K:LV->Heap->Prop}{X:List PanicEntry->Heap->Prop}
theorem sF{f:FuncId} [TEnter C.P f](args:List Operand){ats:Array TypeId}{avs:List LV}(has:args.map e.ev=avs)(hc:LCalls C f avs [] (Ret lv))(hk:K lv H) :
  qae C ⟨dst,.call { callee:=.value (.func f),args:=args.toArray,argTypes:=ats },ty,pos,aft,g⟩ e H K X:=
 S.call0 args has hc (by rintro v H' ⟨h,rfl⟩;cases h;exact hk) (by rintro ch H' ⟨h,_⟩;cases h)
theorem S.fnIf{f:FuncId} [TEnter C.P f](args:List Operand){ats:Array TypeId}{avs:List LV}{p:LV->Prop}(has:args.map e.ev=avs)(hc:LCalls C f avs [] (qgY p))(hk:∀ lv,p lv->K lv H) :
  qae C ⟨dst,.call { callee:=.value (.func f),args:=args.toArray,argTypes:=ats },ty,pos,aft,g⟩ e H K X:=
 S.call0 args has hc (by rintro v H' ⟨u,h,hp,rfl⟩;cases h;exact hk _ hp) (by rintro ch H' ⟨u,h,_⟩;cases h)
theorem S.fnV{fo:Operand} [TEnter C.P f]{first caps:Array Value}(args:List Operand){ats:Array TypeId}{avs:List LV}(hf:e.ev fo=.atom (.func (.func f) first caps))
  (has:first.toList.map .atom++args.map e.ev++caps.toList.map .atom=avs) (hc:LCalls C f avs [] (Ret lv)) (hk:K lv H) :
  qae C ⟨dst,.call { callee:=.value fo,args:=args.toArray,argTypes:=ats },ty,pos,aft,g⟩ e H K X:=
 S.callV (H1:=[]) (F:=H) args hf has zpr hc (by rintro v H' ⟨h,rfl⟩;cases h;exact hk) (by rintro ch H' ⟨h,_⟩;cases h)
theorem qac{rs:List ResultVar}{vs:List LV}(hd:e.ds=[])(h:qbX C n e H rs vs)(hv:qbJ vs=lv):qad C n rs (Ret lv) .ret e H:=
 rR hd h zhn ⟨by rw[hv],rfl⟩
theorem qcl{rs:List ResultVar}{vs:List LV}{p:LV->Prop}(hd:e.ds=[])(h:qbX C n e H rs vs)(hv:p (qbJ vs)):qad C n rs (qgY p) .ret e H:=
 rR hd h zhn ⟨_,rfl,hv,rfl⟩
end
theorem qiL{w':World}(hH:RelH C w L [])(h:Below w.heap.size w w'):Fr (keys []) w L w' L []/\RelH C w' L []:=by
 refine⟨⟨h.os,h.tape,h.output,⟨h.size,λb hb=>qbL (h.block b hb),λb i hi=>?_,λ_=>zNr _⟩,λb hb _=>h.block b hb,λ_ _ _=>rfl,by simp⟩,
  ⟨hH.base.trans (h.mono hH.b0),hH.lbase,zNt hH.b0 h.size,λb hb=>hH.wf b (zNt h.size hb),List.nodup_nil,by simp⟩⟩
 have hb:b<w.heap.size:=by
  rcases Nat.lt_or_ge b w.heap.size with h1|h1;exact h1;have:=hH.wf b h1;omega
 exact cell_of_heap (h.block b hb) i
theorem LCalls.of_below{vs:List Value}{p:Value->Prop}
  (h:∀ w,Below C.B0 C.w0 w->Calls C.P f vs.toArray w (λe w'=>∃ v,e=.returned v/\p v/\Below w.heap.size w w')):LCalls C f (vs.map .atom) [] (λr H=>∃ v,r=.ret (.atom v)/\p v/\H=[]):=λxs w L hv hH=>by
 have hx:xs=vs:=by
  clear h hH
  induction vs generalizing xs with
  |nil=>simpa [RepL] using hv
  |cons v vs ih=>
   simp only[zMc,RepL,Rep] at hv;obtain⟨y,ys,rfl,rfl,hv⟩:=hv;rw[ih _ hv]
 subst hx;refine(h w hH.base).mono λe w' he=>?_;obtain⟨v,rfl,hp,hb⟩:=he;obtain⟨h1,h2⟩:=qiL hH hb;exact⟨.atom v,[],L,h1,h2,qaj,v,rfl,hp,rfl⟩
theorem LCalls.of_belowT{vs:List Value}{p:List Value->Prop}
  (h:∀ w,Below C.B0 C.w0 w->Calls C.P f vs.toArray w (λe w'=>∃ us:List Value,e=.returned (.tuple us.toArray)/\p us/\Below w.heap.size w w')):LCalls C f (vs.map .atom) [] (qgY λlv=>∃ us,p us/\lv=.tuple (us.map .atom)):=λxs w L hv hH=>by
 have hx:xs=vs:=by
  clear h hH
  induction vs generalizing xs with
  |nil=>simpa [RepL] using hv
  |cons v vs ih=>
   simp only[zMc,RepL,Rep] at hv;obtain⟨y,ys,rfl,rfl,hv⟩:=hv;rw[ih _ hv]
 subst hx;refine(h w hH.base).mono λe w' he=>?_;obtain⟨us,rfl,hp,hb⟩:=he;obtain⟨h1,h2⟩:=qiL hH hb;exact⟨.tuple (us.map .atom),[],L,h1,h2,by simp only[Rep];exact⟨us,rfl,qa4 _⟩,_,rfl,⟨us,hp,rfl⟩,rfl⟩
theorem LCalls.ret_of{vs:List Value}{u:Value}
  (h:∀ w,Below C.B0 C.w0 w->Calls C.P f vs.toArray w (λe w'=>e=.returned u/\Below w.heap.size w w')):LCalls C f (vs.map .atom) [] (Ret (.atom u)):=
 LCalls.mono (LCalls.of_below (p:=λv=>v=u) λw hw=>(h w hw).mono λe w' he=>⟨u,he.1,rfl,he.2⟩) λr H' ⟨v,h1,h2,h3⟩=>⟨by rw[h1,h2],h3⟩
def qcH(e:Env):List (Nat×LV)->Prop
 |[]=>True
 |(d,v)::r=>e.s d=v/\qcH e r
theorem qcH.mem{e:Env}:∀ {l:List (Nat×LV)},qcH e l->∀ p∈l,e.s p.1=p.2
 |[],_,p,hp=>by cases hp
 |(d,v)::r,h,p,hp=>by
  rcases zMi.1 hp with rfl|hp;exact h.1;exact qcH.mem h.2 p hp
def qvV(I:Nat->List (Nat×LV)->Heap->Prop)(k:Nat)(ds:List Deferred)(e':Env)(H':Heap):Prop:=
 ∃ m l' H'',m<k/\I m l' H''/\qcH e' l'/\HSub H'' H'/\e'.ds=ds
theorem zoL{H:Heap}(I:Nat->List (Nat×LV)->Heap->Prop)(h0:∃ k l H0,I k l H0/\qcH e l/\HSub H0 H)
  (round:∀ k l H,I k l H->∀ j:Env,j.ds=e.ds->qag C n c (qaz (qvV I k e.ds) Q) (Env.slots j l) H):qag C n (.loop c) Q e H:=by
 obtain⟨k,l,H0,h0,h1,h2⟩:=h0;refine cW h2 (qag.loop (λk e' H'=>∃ l H0,I k l H0/\qcH e' l/\HSub H0 H'/\e'.ds=e.ds) k ⟨l,H0,h0,h1,zhR _,rfl⟩ ?_);rintro k e' H' ⟨l,H0,g0,g1,g2,g3⟩;have:=round k l H0 g0 e' g3;rw[Env.slots_self g1.mem] at this;refine cW g2 (qag.conseq this ?_);rintro ex e2 H2 hq
 cases ex with
 |normal=>
  obtain⟨m,l',H3,r1,r2,r3,r4,r5⟩:=hq
  exact⟨m,r1,l',H3,r2,r3,r4,r5⟩
 |exit id=>exact hq
 |goto id=>exact hq
 |ret=>exact hq
 |panic ch=>exact hq
 |outgrown=>exact hq
theorem qau{a b:Bool}(h:a=b):bool a=bool b:=by rw[h]
def At(l:List (Nat×LV))(H1:Heap)(ds:List Deferred)(e':Env)(H':Heap):Prop:=qcH e' l/\H'=H1/\e'.ds=ds
theorem LOps.cutTo{k:Env->Heap->Prop}(l:List (Nat×LV))(H1:Heap)
  (hx:LOps C n ops (qaz (At l H1 e.ds) Q) rest e H) (hy:∀ j:Env,j.ds=e.ds->k (Env.slots j l) H1):LOps C n ops (qaz k Q) rest e H:=by
 refine LOps.conseq hx ?_;rintro ex e' H' hq
 cases ex with
 |normal=>
  obtain⟨h1,rfl,h3⟩:=hq;have:=hy e' h3;rw[Env.slots_self h1.mem] at this
  exact this
 |exit id=>exact hq
 |goto id=>exact hq
 |ret=>exact hq
 |panic ch=>exact hq
 |outgrown=>exact hq
theorem qag.cutTo{k:Env->Heap->Prop}(l:List (Nat×LV))(H1:Heap)
  (hx:qag C n c (qaz (At l H1 e.ds) Q) e H) (hy:∀ j:Env,j.ds=e.ds->k (Env.slots j l) H1):qag C n c (qaz k Q) e H:=by
 refine qag.conseq hx ?_;rintro ex e' H' hq
 cases ex with
 |normal=>
  obtain⟨h1,rfl,h3⟩:=hq;have:=hy e' h3;rw[Env.slots_self h1.mem] at this
  exact this
 |exit id=>exact hq
 |goto id=>exact hq
 |ret=>exact hq
 |panic ch=>exact hq
 |outgrown=>exact hq
theorem LOps.cut{k:Env->Heap->Prop}(l:List (Nat×LV))
  (hx:LOps C n ops (qaz (At l H e.ds) Q) rest e H) (hy:∀ j:Env,j.ds=e.ds->k (Env.slots j l) H):LOps C n ops (qaz k Q) rest e H:=LOps.cutTo l H hx hy
theorem zcC{k:Env->Heap->Prop}(l:List (Nat×LV))
  (hx:qag C n c (qaz (At l H e.ds) Q) e H) (hy:∀ j:Env,j.ds=e.ds->k (Env.slots j l) H):qag C n c (qaz k Q) e H:=qag.cutTo l H hx hy
theorem qlq{a:Act}(hE:RelE n a e w L){j d:Nat}(hj:(ops[j]?).bind (·.dst)=some d)(hb:e.s d=.atom undef):yielded ops a.tmps j=none:=by
 have h:=hE.vals d;rw[hb] at h;simp only[Rep] at h;unfold yielded;rw[hj];simp only[Option.bind_some];rw[Array.getD_eq_getD_getElem?] at h
 cases hx:a.tmps[d]? with
 |none=>rfl
 |some x=>rw[hx] at h;simp only[getD_some] at h;subst h;rfl
theorem LOps.skipU{op:Op}{j d:Nat}{c:Bool}
  (hj:(ops[j]?).bind (·.dst)=some d) (hb:e.s d=.atom undef) (hd:qdp n dst)
  (k:LOps C n ops Q rest (e.put dst (.atom undef)) H):LOps C n ops Q (⟨dst,op,ty,pos,aft,some (j,c)⟩::rest) e H:=λa w L hE hH=>by
 unfold wpList;rw[zn (by simp[Region.wanted,qlq hE hj hb])];exact k _ w L (hE.put hd (by simp only[Rep])) hH
theorem qap{k:IntKind}{a b:Int}(h:a=b):int k a=int k b:=by rw[h]
class TIface (P:Program) (t:TypeId):Prop where
 und:∃ ms,P.underlying t=some (.interface ms)
def qpw(P:Program)(t:Nat):Bool:=match P.underlying t with|some (.interface _)=>true|_=>false
theorem TIface.of{t:Nat}(h:qpw P t=true):TIface P t:=by
 unfold qpw at h;refine⟨?_⟩
 cases hu:P.underlying t with
 |none=>rw[hu] at h;simp at h
 |some d=>rw[hu] at h;cases d <;> simp_all
section
variable{C:Ctx}{e:Env}{H:Heap}{dst:Option Nat}{ty:TypeId}{pos:String}{aft:Array Edge}{g:Option (Nat×Bool)}{xT yT:TypeId}{x:Operand}
theorem qgk(t:TypeId)(x y:Value):Op.equal t x y=Op.equalIn (9999+1) t x y:=rfl
theorem qlc [h:TIface P t](w:World):(Op.equal t .nilIface .nilIface).run P w=.ok true w:=by
 obtain⟨ms,hu⟩:=h.und;rw[qgk,Op.equalIn];simp only[zRB,qaa hu,zRO,zRP]
theorem qke [h:TIface P t](u:TypeId)(p:Value)(w:World):(Op.equal t (.iface u p) .nilIface).run P w=.ok false w:=by
 obtain⟨ms,hu⟩:=h.und;rw[qgk,Op.equalIn];simp only[zRB,qaa hu,zRO,zRP]
theorem Pure.nilNeqNil [TIface C.P xT] (hx:e.ev x=.atom .nilIface):Pure C ⟨dst,.binOp .neq xT x (.const .nilIface) yT,ty,pos,aft,g⟩ e H (bool false):=
 .of_any λρ _ _ h=>⟨_,qaj,λw'=>by
  have h1:=qaf h hx;have h2:=qaf h (x:=.const .nilIface) rfl;have he:eqGuard .neq xT x (.const .nilIface) .nilIface .nilIface=Pure.pure ():=by simp[eqGuard]
  have hb:binOp .neq xT .nilIface .nilIface=(do Pure.pure (.bool (!(<-Op.equal xT .nilIface .nilIface)))):=rfl
  simp only[execOp,h1,h2,he,hb,zRB,zRP,zRO,qlc,Bool.not_true]⟩
theorem Pure.ifaceNeqNil [TIface C.P xT] {u:TypeId} {p:Value} (hx:e.ev x=.atom (.iface u p)):Pure C ⟨dst,.binOp .neq xT x (.const .nilIface) yT,ty,pos,aft,g⟩ e H (bool true):=
 .of_any λρ _ _ h=>⟨_,qaj,λw'=>by
  have h1:=qaf h hx;have h2:=qaf h (x:=.const .nilIface) rfl;have he:eqGuard .neq xT x (.const .nilIface) (.iface u p) .nilIface=Pure.pure ():=by simp[eqGuard]
  have hb:binOp .neq xT (.iface u p) .nilIface=(do Pure.pure (.bool (!(<-Op.equal xT (.iface u p) .nilIface)))):=rfl
  simp only[execOp,h1,h2,he,hb,zRB,zRP,zRO,qke,Bool.not_false]⟩
theorem qmT{a b:List UInt8}(h:a=b):str a=str b:=by rw[h]
theorem Pure.cvt{k k0 k':IntKind}{s d:TypeId}{n:Int} [hs:TKind C.P s k0] [hd:TKind C.P d k'](hx:e.ev x=int k n):Pure C ⟨dst,.convert s d x,ty,pos,aft,g⟩ e H (int k' (k'.wrap n)):=Pure.convInt ⟨_,hs.und⟩ hx
end
end Go.GL
namespace Go.GL
open Go.RowKit
variable{C:Ctx}{F H H1 HF:Heap}{L:Live}{P:Program}{Q:Post}{aft:Array Edge}{b bytes fuel i n sT xT:Nat}{dst:Option Nat}{e:Env}{el ty:TypeId}{f:FuncId}{l:List UInt8}{listed:Array Bool}{lv:LV}{ops:Array Oper}{pos:String}{rest:List Oper}{v:Value}{w:World}
section any
variable{C:Ctx}{n:Nat}{ops:Array Oper}{Q:Post}{HF:Heap}{fuel:Nat}{listed:Array Bool}{e:Env}{H:Heap}
def qan(C:Ctx)(n:Nat)(ops:Array Oper)(Q:Post)(HF:Heap)(fuel:Nat)(listed:Array Bool)(e:Env)(H:Heap)(i:Nat):Prop:=
 ∀ w0 L0 a w L,(∀ b,L0 b<=L b)->qe7 w0 L0 HF w->(∀ p∈HF,p.1<w.heap.size)->RelE n a e w L->RelH C w L H ->
  wpOp C.P ops (lift C n w L (keys H) Q) i (λa' w'=>qe7 w0 L0 HF w'/\wpAnyH C.P .any ops (lift C n w L (keys H) Q) (qe7 w0 L0 HF) fuel (listed.setIfInBounds i true) a' w') a w
theorem qaI.all{is:List Nat}(hr:Region.ready .any ops listed=is)(hne:is≠[])(h:∀ i∈is,qan C n ops Q HF fuel listed e H i):qaI C n ops Q HF (fuel+1) listed e H:=λw0 L0 a w L hL hA hsz hE hH=>
 wpAnyH_all hr hne λj hj=>h j hj w0 L0 a w L hL hA hsz hE hH
theorem lS{op:Op}{g:Option (Nat×Bool)}(hi:ops[i]? = some ⟨dst,op,ty,pos,aft,g⟩)(hg:g=none∨∃ j b d,g=some (j,b)/\(ops[j]?).bind (·.dst)=some d/\e.s d=.atom (.bool b))(hd:qdp n dst)
  (p:H.Perm (H1++F)) (hHF:HSub HF F)
  (h:qae C ⟨dst,op,ty,pos,aft,g⟩ e H1 (λlv H'=>qaI C n ops Q HF fuel (listed.setIfInBounds i true) (e.put dst lv) (H'++F)) (λch H'=>∀ e',e'.ds=e.ds->Q (.panic ch) e' (H'++F))) :
  qan C n ops Q HF fuel listed e H i:=λw0 L0 a w L hL hA hsz hE hH=>by
 have hH':=hH.perm p;have hn:(keys H1++keys F).Nodup:=by simpa [keys] using hH'.nodup
 have hdis:∀ q∈HF,q.1 ∉ keys H1:=λq hq hm=>(List.nodup_append.1 hn).2.2 _ hm _ (List.mem_map_of_mem (hHF.mem q hq)) rfl
 have hw:Region.wanted ⟨dst,op,ty,pos,aft,g⟩ (yielded ops a.tmps)=true:=by
  rcases hg with rfl|⟨j,b,d,rfl,hj,hb⟩;simp[Region.wanted];simp[Region.wanted,qcI hE hj hb]
 unfold wpOp;rw[hi];simp only;rw[zp hw];refine .inl (qsP (H:=H1) h hd hE hH'.left (λlv H' L' w' a' h1 h2 h3 h4=>?_) (λch H' L' w' h1 h2 h3=>?_));have hfr:=hH'.frame h1 h2;have hag:qe7 w0 L0 HF w':=⟨λq hq=>(h1.block q.1 (hsz q hq) (hdis q hq)).trans (hA.1 q hq),λb i hi=>(h1.ext.live b i (Nat.lt_of_lt_of_le hi (hL b))).trans (hA.2 b i hi)⟩;exact⟨hag,qcL (λ_ _ _=>qdV (hfr.2.perm p.symm)) _ _ _ _ (h4 w0 L0 a' w' L' (λb=>zNt (hL b) (h1.ext.mono b)) hag (λq hq=>Nat.lt_of_lt_of_le (hsz q hq) h1.ext.size) h3 hfr.1)⟩;have hfr:=hH'.frame h1 h2;exact⟨e,H'++F,L',hfr.2.perm p.symm,hfr.1,hE.ds,h3 e rfl⟩
theorem zl1(hr:Region.ready .any ops listed=[i])(h:qan C n ops Q HF fuel listed e H i):qaI C n ops Q HF (fuel+1) listed e H:=
 qaI.all hr (by simp) λj hj=>by
  obtain rfl:=List.mem_singleton.1 hj;exact h
theorem zl2{j:Nat}(hr:Region.ready .any ops listed=[i,j])(h:qan C n ops Q HF fuel listed e H i)(h':qan C n ops Q HF fuel listed e H j):qaI C n ops Q HF (fuel+1) listed e H:=
 qaI.all hr (by simp) λk hk=>by
  rcases zMi.1 hk with rfl|hk;exact h;obtain rfl:=List.mem_singleton.1 hk;exact h'
theorem lW{op:Op}{g:Option (Nat×Bool)}(hi:ops[i]? = some ⟨dst,op,ty,pos,aft,g⟩)(hg:g=none∨∃ j b d,g=some (j,b)/\(ops[j]?).bind (·.dst)=some d/\e.s d=.atom (.bool b))(hd:qdp n dst)
  (h:qae C ⟨dst,op,ty,pos,aft,g⟩ e H (λlv H'=>qaI C n ops Q [] fuel (listed.setIfInBounds i true) (e.put dst lv) H') (λch H'=>∀ e',e'.ds=e.ds->Q (.panic ch) e' H')) :
  qan C n ops Q [] fuel listed e H i:=lS (H1:=H) (F:=[]) hi hg hd (by simp) zhn (by simpa using h)
end any
theorem LQ.bcase{K:Env->Prop}(d:Nat){b:Bool}(hb:e.s d=bool b)(ht:b=true->LQ C n ops K rest (e.upd d (bool true)) H)(hf:b=false->LQ C n ops K rest (e.upd d (bool false)) H):LQ C n ops K rest e H:=by
 cases b;have:=hf rfl;rwa [Env.upd_self hb] at this;have:=ht rfl;rwa [Env.upd_self hb] at this
section pure
variable{C:Ctx}{e:Env}{H:Heap}{dst:Option Nat}{ty:TypeId}{pos:String}{aft:Array Edge}{g:Option (Nat×Bool)}{xT yT:TypeId}{x y:Operand}{k:IntKind}{a b:Int}
theorem Pure.bytesStr{s d:TypeId} [hs:TSlice C.P s el 1] [he:TKind C.P el .u8] [hd:TStr C.P d](hx:elems (e.ev x)=some (l.map λb=>int .u8 b.toNat))(hne:l≠[]) :
  Pure C ⟨dst,.convert s d x,ty,pos,aft,g⟩ e H (str l):=λρ w L h _=>by
 obtain⟨a,cap,hv,hcap,hr⟩:=(h x).elems hx;obtain⟨b,off,k',rfl,hrr⟩:=hr (by simpa using hne);refine⟨_,qaj,λw' ha=>?_⟩;have h0:execOp ρ ⟨dst,.convert s d x,ty,pos,aft,g⟩=(do Pure.pure (.value (<-convert s d (ρ x)))):=rfl;have hlen:(l.map λb=>int .u8 b.toNat).length=l.length:=by simp
 have:=run_convert_bytes_back (P:=C.P) w' s d el ⟨b,off,none⟩ cap l hs.und he.und hd.und (λj hj=>by
  obtain⟨h1,h2⟩:=hrr.get (i:=j) (e:=int .u8 l[j].toNat) (by simp[hj]);simp only[LV.cells,RepC,List.length_singleton] at h1 h2;obtain⟨h3,⟨v,h4,h5⟩,_⟩:=h2;simp only[Rep] at h5;subst h5;subst h1;rw[mul_one] at h3 h4;rw[add_mk];rw[ha.2 b _ h3]
  exact h4)
 rw[h0,hv,hlen];simp only[zRB,this,zRO,zRP]
end pure
theorem aT(i:Nat){op:Op}
  (hi:ops[i]? = some ⟨dst,op,ty,pos,aft,none⟩) (hd:qdp n dst) (hp:Pure C ⟨dst,op,ty,pos,aft,none⟩ e HF lv) (k:LAny C n ops Q HF fuel (listed.setIfInBounds i true) (e.put dst lv) H) (hs:Region.noSelect ops=true:=by kernel_rfl) (hf:Region.free .any ops listed i=true:=by kernel_rfl) (hr:(Region.ready .any ops listed).contains i=true:=by kernel_rfl)
  (hHF:HSub HF H:=by first|exact HSub.nil _|exact zhR _|exact zhD zhr|exact zhP pH zhn|exact zhP zp1 zhn|exact zhP zp2 zhn|exact zhP pH zhp|exact⟨_,List.Perm.refl _⟩):LAny C n ops Q HF (fuel+1) listed e H:=LAny.take hHF hi hs hf hr hd hp k
theorem LAny.tkW(i:Nat){j d:Nat}{b:Bool}{op:Op}
  (hi:ops[i]? = some ⟨dst,op,ty,pos,aft,some (j,b)⟩) (hj:(ops[j]?).bind (·.dst)=some d) (hb:e.s d=.atom (.bool b)) (hd:qdp n dst) (hp:Pure C ⟨dst,op,ty,pos,aft,some (j,b)⟩ e HF lv) (k:LAny C n ops Q HF fuel (listed.setIfInBounds i true) (e.put dst lv) H) (hs:Region.noSelect ops=true:=by kernel_rfl) (hf:Region.free .any ops listed i=true:=by kernel_rfl) (hr:(Region.ready .any ops listed).contains i=true:=by kernel_rfl)
  (hHF:HSub HF H:=by first|exact HSub.nil _|exact zhR _|exact zhD zhr|exact zhP pH zhn|exact zhP zp1 zhn|exact zhP zp2 zhn|exact zhP pH zhp|exact⟨_,List.Perm.refl _⟩):LAny C n ops Q HF (fuel+1) listed e H:=LAny.takeWant hHF hi hj hb hs hf hr hd hp k
theorem lO(i:Nat)(h:qan C n ops Q HF fuel listed e H i)(hr:Region.ready .any ops listed=[i]:=by kernel_rfl):qaI C n ops Q HF (fuel+1) listed e H:=zl1 hr h
section
variable{C:Ctx}{e:Env}{H:Heap}{dst:Option Nat}{ty:TypeId}{pos:String}{aft:Array Edge}{g:Option (Nat×Bool)}{K:LV->Heap->Prop}{X:List PanicEntry->Heap->Prop}{x y:Operand}
theorem sG{el s:Nat} [ht:TSlice C.P sT el s] [hr:TRow C.P el s bytes]{e2 s2:Nat} [hx2:TSlice C.P xT e2 s2]{v:LV}{es ms:List LV}{A:Heap}
  (hp:H.Perm (H1++A)) (hx:e.ev x=v) (ha:Acc s v es H1 F) (hy:GL.elems (e.ev y)=some ms) (hs:∀ v∈ms,v.cells.length=s) (hok:(ms.flatMap LV.cells).all qc4=true) (hroom:(es.length+ms.length) * bytes<=140737488355328)
  (hk:∀ v' H',Acc s v' (es++ms) H' F->K v' (A++H')):qae C ⟨dst,.call { callee:=.builtin .append,args:=#[x,y],argTypes:=#[sT,xT] },ty,pos,aft,g⟩ e H K X:=by
 refine qae.conseq (K:=λlv H'=>∃ H2,H'=H2++A/\Acc s lv (es++ms) H2 F) (qae.frame hp (S.acc hx ha hy hs hok hroom λv' H' h=>⟨H',rfl,h⟩)) ?_;rintro lv H' ⟨H2,rfl,h⟩;exact⟨lv,A++H2,vR _,⟨[],by simpa using zPc⟩,hk _ _ h⟩
theorem S.acc1{el s:Nat} [ht:TSlice C.P sT el s] [hr:TRow C.P el s bytes]{e2 s2:Nat} [hx2:TSlice C.P xT e2 s2]{v:LV}{es ms:List LV}{q:Nat×LObj}
  (hx:e.ev x=v) (ha:Acc s v es H1 F) (hy:GL.elems (e.ev y)=some ms) (hs:∀ v∈ms,v.cells.length=s) (hok:(ms.flatMap LV.cells).all qc4=true) (hroom:(es.length+ms.length) * bytes<=140737488355328)
  (hk:∀ v' H',Acc s v' (es++ms) H' F->K v' (q::H')):qae C ⟨dst,.call { callee:=.builtin .append,args:=#[x,y],argTypes:=#[sT,xT] },ty,pos,aft,g⟩ e (q::H1) K X:=
 sG (A:=[q]) ((List.perm_append_singleton _ _).symm) hx ha hy hs hok hroom hk
end
def qfD:Obj->Bool
 |.cells _ _ _=>false
 |_=>true
theorem qdY{o:Obj}(h:w.heap[b]? = some o)(ho:qfD o=true):w.shape? b=none:=by
 simp only[World.shape?,h];cases o <;> simp_all [qfD]
section
variable{C:Ctx}{e:Env}{H:Heap}{dst:Option Nat}{ty:TypeId}{pos:String}{aft:Array Edge}{g:Option (Nat×Bool)}{K:LV->Heap->Prop}{X:List PanicEntry->Heap->Prop}{x y:Operand}
theorem qjn(hH:RelH C w L []){o:Obj}(ho:qfD o=true)(hk:K (.atom v) [(w.heap.size,.obj o)]):Left C w L [] (World.push w o) v K:=by
 have:=qeA hH o 0 [(w.heap.size,.obj o)] (λp hp=>by
  simp only[mem_singleton] at hp;subst hp
  exact⟨rfl,by simp[Live.upd],qaE,qdY qaE ho⟩) (by simp)
 exact⟨_,_,_,this.1,this.2,qaj,hk⟩
theorem qhv{w':World}{L:Live}{o o':Obj}(hH:RelH C w L [(b,.obj o)])(ho':qfD o'=true)(h1:w'.os=w.os)(h2:w'.tape=w.tape)(h3:w'.output=w.output)
  (h4:w'.heap.size=w.heap.size) (h5:∀ c,c≠b->w'.heap[c]? = w.heap[c]?) (h6:w'.heap[b]? = some o') {v:Value} {lv:LV} (hv:∀ L,Rep w' L lv v) (hk:K lv [(b,.obj o')]):Left C w L [(b,.obj o)] w' v K:=by
 obtain⟨hb0,hbs,hl,hx1,hx2⟩:=hH.objs _ (List.mem_singleton.2 rfl);simp only at hb0 hbs hl hx1 hx2
 have hx:Ext w L w' L:=by
  refine⟨by rw[h4];exact zNr _,λc hc=>?_,λc i hi=>?_,λ_=>zNr _⟩
  by_cases he:c=b
  subst he;rw[hx2];exact qdY h6 ho';exact qbL (h5 c he)
  by_cases he:c=b
  subst he;rw[hl] at hi;omega;exact cell_of_heap (h5 c he) i
 refine⟨lv,[(b,.obj o')],L,⟨h1,h2,h3,hx,λc hc hn=>h5 c (by simpa using hn),λ_ _ _=>rfl,λp hp=>.inl (by simp only[mem_singleton] at hp;subst hp;simp)⟩,
  ⟨?_,hH.lbase,by rw[h4];exact hH.b0,by rw[h4];exact hH.wf,by simp,λp hp=>?_⟩,hv L,hk⟩
 exact hH.base.trans ⟨h1,h2,h3,by rw[h4];exact zNr _,λc hc=>h5 c zo⟩;simp only[mem_singleton] at hp;subst hp;exact⟨hb0,by rw[h4];exact hbs,hl,h6,qdY h6 ho'⟩
theorem S.makeMap{t:TypeId}(hk:∀ b,K (.atom (.map (some b))) ((b,.obj (.map #[] 0))::H)):qae C ⟨dst,.makeMap t none,ty,pos,aft,g⟩ e H K X:=by
 refine qae.at0 λρ w L _ hH=>?_;have h3:execOp ρ ⟨dst,.makeMap t none,ty,pos,aft,g⟩=(do Pure.pure (.value (<-Instr.makeMap t none))):=rfl;have h4:(Instr.makeMap t none).run C.P w=.ok (.map (some w.heap.size)) (World.push w (.map #[] 0)):=rfl;rw[h3,zRB,h4];exact qjn hH rfl (hk _)
def setW(w:World)(b:Nat)(o:Obj):World:={ w with heap:=w.heap.setIfInBounds b o }
theorem qdX{c:Nat}{o:Obj}(h:c≠b):(setW w b o).heap[c]? = w.heap[c]? := by
 simp only[setW,Array.getElem?_setIfInBounds];rw[zn (Ne.symm h)]
theorem qeJ{o:Obj}(h:b<w.heap.size):(setW w b o).heap[b]? = some o:=by
 simp only[setW,Array.getElem?_setIfInBounds];simp[h]
theorem qeO{o o':Obj}(h:w.heap[b]? = some o)(ho:qfD o=true):(setObj b o').run P w=.ok () (setW w b o'):=by
 simp only[setObj,Sem.run,h];cases o <;> first|rfl|(simp[qfD] at ho)
theorem qgy(k:ByteArray):∀ (es:List MapEntry) (i:Nat),(∀ e∈es,∃ s,e.key=.string s/\¬ (k == s)=true)->Instr.findNow .string (.string k) es i=some none
 |[],_,_=>rfl
 |e::es,i,h=>by
  obtain⟨s,hs,hne⟩:=h e mem_cons_self;have hne':(k == s)=false:=by simpa using hne
  simp only[Instr.findNow,hs,Instr.sameNow,hne'];exact qgy k es (i+1) (λe he=>h e (zMo _ he))
theorem S.insert{t kt el:TypeId}(ht:C.P.underlying t=some (.map kt el))(hkt:C.P.underlying kt=some .string){b clock:Nat}{es:Array MapEntry}{F:Heap}{m z:Operand}{k:ByteArray}{v:Value}(hm:e.ev m=.atom (.map (some b)))(hx:e.ev x=.atom (.string k))(hz:e.ev z=.atom v)
  (hp:Pick (b,.obj (.map es clock)) H F) (hnew:∀ e∈es.toList,∃ s,e.key=.string s/\¬ (k == s)=true) (hk:K (.atom undef) ((b,.obj (.map (es.push { key:=.string k,val:=v,born:=clock }) (clock+1)))::F)):qae C ⟨dst,.insert t m x z,ty,pos,aft,g⟩ e H K X:=by
 refine qae.at1 hp λρ w L h hH=>?_;obtain⟨hb0,hbs,hl,hx1,hx2⟩:=hH.objs _ (List.mem_singleton.2 rfl);simp only at hb0 hbs hl hx1 hx2;have h3:execOp ρ ⟨dst,.insert t m x z,ty,pos,aft,g⟩=(do Instr.mapUpdate t (ρ m) (ρ x) (ρ z);Pure.pure .skip):=rfl
 have hf:(Instr.findKey kt (.string k) es.toList).run C.P w=.ok none w:=by
  simp only[Instr.findKey,zRB,qaa hkt,zRO,qgy k es.toList 0 hnew,zRP]
 have hc:(Instr.checkKey false 10000 kt (.string k)).run C.P w=.ok () w:=by
  have hck:Instr.checkKey false 10000 kt (.string k)=Instr.checkKey false (9999+1) kt (.string k):=rfl;rw[hck,Instr.checkKey];simp only[zRB,qaa hkt,zRO,zRP]
 have hg:(getObj b).run C.P w=.ok (.map es clock) w:=by simp only[getObj,Sem.run,hx1]
 rw[h3,qaf h hm,qaf h hx,qaf h hz];simp only[Instr.mapUpdate,zRB,qaa ht,zRO,hg,hc,hf];have hs:(setObj b (.map (es.push { key:=.string k,val:=v,born:=clock }) (clock+1))).run C.P w=.ok () (setW w b (.map (es.push { key:=.string k,val:=v,born:=clock }) (clock+1))):=qeO hx1 rfl;rw[hs];exact qhv (w':=setW w b (.map (es.push { key:=.string k,val:=v,born:=clock }) (clock+1))) hH rfl rfl rfl rfl (by simp[setW]) (λc hc=>qdX hc) (qeJ hbs) (λ_=>qaj) hk
theorem S.range{t kt el:TypeId}(ht:C.P.underlying t=some (.map kt el)){b clock:Nat}{es:Array MapEntry}(hx:e.ev x=.atom (.map (some b)))(hm:(b,.obj (.map es clock))∈H)
  (hk:∀ r,K (ptr r 0) ((r,.obj (.mapIter (some b) clock #[] clock))::H)):qae C ⟨dst,.range t x,ty,pos,aft,g⟩ e H K X:=by
 obtain⟨F,hF⟩:∃ F,H.Perm ((b,.obj (.map es clock))::F):=by
  obtain⟨l1,l2,rfl⟩:=List.append_of_mem hm;exact⟨l1++l2,List.perm_middle⟩
 have main:∀ X,qae C ⟨dst,.range t x,ty,pos,aft,g⟩ e [(b,.obj (.map es clock))] (λlv H'=>∃ r,lv=ptr r 0/\H'=[(r,.obj (.mapIter (some b) clock #[] clock)),(b,.obj (.map es clock))]) X:=λX ρ w L h hH=>by
  obtain⟨hb0,hbs,hl,hx1,hx2⟩:=hH.objs _ (List.mem_singleton.2 rfl);simp only at hb0 hbs hl hx1 hx2;have h3:execOp ρ ⟨dst,.range t x,ty,pos,aft,g⟩=(do Pure.pure (.value (<-Instr.range t (ρ x)))):=rfl;have hg:(getObj b).run C.P w=.ok (.map es clock) w:=by simp only[getObj,Sem.run,hx1]
  have hn:∀ o,(newObj o).run C.P w=.ok w.heap.size (World.push w o):=λ_=>rfl;rw[h3,qaf h hx];simp only[Instr.range,zRB,qaa ht,zRO,hg,zRP,hn];have:=Left.frame (F:=[(b,.obj (.map es clock))]) (K:=λlv H'=>∃ r,lv=ptr r 0/\H'=[(r,.obj (.mapIter (some b) clock #[] clock)),(b,.obj (.map es clock))]) (v:=.pointer (some ⟨w.heap.size,0,none⟩)) (by simpa using hH) (qjn (w:=w) (L:=L) (hH.sub (nil_sublist _)) (o:=.mapIter (some b) clock #[] clock) rfl ⟨w.heap.size,rfl,rfl⟩);show Left C w L _ _ _ _;simpa using this
 refine qae.conseq (qae.frame (H:=[(b,.obj (.map es clock))]) (F:=F) hF (K:=λlv H'=>∃ r,lv=ptr r 0/\H'=[(r,.obj (.mapIter (some b) clock #[] clock)),(b,.obj (.map es clock))]++F) ?_) ?_;exact qae.conseq (main _) (λlv H' ⟨r,h1,h2⟩=>⟨lv,H',vR _,zhR _,r,h1,by rw[h2]⟩);rintro lv H' ⟨r,rfl,rfl⟩;exact⟨ptr r 0,_,vR _,⟨[],by simpa using hF.symm⟩,hk r⟩
theorem S.next{r b since last clock:Nat}{seen:Array Nat}{es:Array MapEntry}{F:Heap}(hx:e.ev x=ptr r 0)(hp:H.Perm ((r,.obj (.mapIter (some b) since seen last))::(b,.obj (.map es clock))::F))
  (hold:∀ e∈es.toList,e.born<since/\e.born<last)
  (hover:es.filter (λe=>!seen.contains e.born)=#[]->K (.tuple [bool false]) ((r,.obj (.mapIter (some b) since seen last))::(b,.obj (.map es clock))::F))
  (hstep:∀ e∈(es.filter (λe=>!seen.contains e.born)).toList,K (.tuple [bool true,.atom e.key,.atom e.val]) ((r,.obj (.mapIter (some b) since (seen.push e.born) clock))::(b,.obj (.map es clock))::F)) :
  qae C ⟨dst,.next x false,ty,pos,aft,g⟩ e H K X:=by
 refine qae.frame (H:=[(r,.obj (.mapIter (some b) since seen last)),(b,.obj (.map es clock))]) (F:=F) hp λρ w L h hH=>?_;have hr:=hH.objs (r,.obj (.mapIter (some b) since seen last)) zm0;have hb:=hH.objs (b,.obj (.map es clock)) zm1;obtain⟨_,hrs,_,hr1,_⟩:=hr;obtain⟨_,hbs,_,hb1,_⟩:=hb;simp only at hrs hr1 hbs hb1;have h3:execOp ρ ⟨dst,.next x false,ty,pos,aft,g⟩=(do Pure.pure (.value (<-Instr.next (ρ x) false ty))):=rfl;have hg1:(getObj r).run C.P w=.ok (.mapIter (some b) since seen last) w:=by simp only[getObj,Sem.run,hr1]
 have hg2:(getObj b).run C.P w=.ok (.map es clock) w:=by simp only[getObj,Sem.run,hb1]
 have htest:(!seen.isEmpty && !es.isEmpty && es.all (λe=>decide (e.born ≥ last)))=false:=by
  rw[Bool.eq_false_iff];intro hall;simp only[zBa] at hall;obtain⟨⟨_,h1⟩,h2⟩:=hall
  have hne:0<es.size:=by
   rcases Nat.eq_zero_or_pos es.size with h0|h0;have:es=#[]:=Array.eq_empty_of_size_eq_zero h0;subst this;simp at h1;exact h0
  have h3:=(Array.all_eq_true.1 h2) 0 hne;have h4:=(hold es[0] (by simp)).2;simp at h3;omega
 rw[h3,qaf h hx];simp only[Instr.next,zRB,zRO,hg1,hg2,htest,Bool.false_eq_true,if_false];generalize hL:es.filter (λe=>!seen.contains e.born)=left at hover hstep ⊢
 have hmem:∀ x∈left.toList,x.born<since:=λx hx=>by
  subst hL;simp at hx;exact(hold x (by simpa using hx.1)).1
 have e1:left.filter (λx=>decide (x.born<since))=left:=Array.filter_eq_self.2 (λx hx=>by simpa using hmem x (by simpa using hx))
 have e2:left.filter (λx=>decide (x.born ≥ since))=#[]:=by
  rw[Array.filter_eq_empty_iff];intro x hx;have:=hmem x (by simpa using hx)
  simp
  omega
 simp only[e1,e2,Array.append_empty]
 by_cases h0:left.size=0
 have:left=#[]:=Array.eq_empty_of_size_eq_zero h0;subst this;have hch:(choose (.mapNext 1)).run C.P w=.ok 0 w:=by simp[choose,Sem.run,Question.forced]
 simp only[Array.isEmpty_empty,if_true,Array.map_empty,Array.append_empty,List.size_toArray,List.length_singleton,hch,zRB,zRO,zRP];exact⟨.tuple [bool false],_,L,Fr.refl _ _ _,hH,by simp only[Rep];exact⟨[.bool false],rfl,by simp only[RepL,Rep];exact⟨_,_,rfl,rfl,rfl⟩⟩,hover rfl⟩;have hne:left.isEmpty=false:=by simp[Array.isEmpty,h0]
 simp only[hne,Bool.false_eq_true,if_false,Array.empty_append,Array.size_map]
 obtain⟨j,w1,hj,hw1,hrun⟩:∃ (j:Nat) (w1:World),j<left.size/\(w1=w∨w1=w.drew)/\(choose (Question.mapNext left.size)).run C.P w=.ok j w1:=by
  by_cases hf:left.size<=1
  exact⟨0,w,by omega,.inl rfl,by simp[choose,Sem.run,Question.forced,hf]⟩
  exact⟨_,w.drew,Nat.mod_lt _ zo,.inr rfl,by
   simp only[choose,Sem.run,Question.forced,zDe,hf,if_false,Question.cut]
   rfl⟩
 have hr1':w1.heap[r]? = some (.mapIter (some b) since seen last):=by rcases hw1 with rfl|rfl <;> exact hr1
 have hsz:w1.heap.size=w.heap.size:=by rcases hw1 with rfl|rfl <;> rfl
 have hheap:w1.heap=w.heap:=by rcases hw1 with rfl|rfl <;> rfl
 simp only[hrun,Array.getElem?_map,Array.getElem?_eq_getElem hj,map_some,zRB,zRO,qeO hr1' rfl,zRP]
 have hl:Left C w L [(r,.obj (.mapIter (some b) since seen last))] (setW w1 r (.mapIter (some b) since (seen.push left[j].born) clock)) (.tuple #[.bool true,left[j].key,left[j].val]) (λlv H'=>K lv (H'++[(b,.obj (.map es clock))]++F)):=
  qhv (lv:=.tuple [bool true,.atom left[j].key,.atom left[j].val]) (RelH.left (F:=[(b,.obj (.map es clock))]) hH) rfl (by rcases hw1 with rfl|rfl <;> rfl) (by rcases hw1 with rfl|rfl <;> rfl) (by rcases hw1 with rfl|rfl <;> rfl) (by simp[setW,hsz]) (λc hc=>by rw[qdX hc,hheap]) (qeJ zo)
   (λ_=>by simp only[Rep];exact⟨[.bool true,left[j].key,left[j].val],rfl,by simp only[RepL,Rep];exact⟨_,_,rfl,rfl,_,_,rfl,rfl,_,_,rfl,rfl,rfl⟩⟩) (hstep left[j] (by simp))
 exact Left.frame (F:=[(b,.obj (.map es clock))]) (K:=λlv H'=>K lv (H'++F)) hH hl
theorem Pure.entry{r b since last clock stamp:Nat}{seen:Array Nat}{es:Array MapEntry}{en:MapEntry}(hx:e.ev x=ptr r 0)(hi:(r,LObj.obj (.mapIter (some b) since seen last))∈H)(hm:(b,LObj.obj (.map es clock))∈H)
  (hl:clock=last) (hb:seen.back? = some stamp) (hf:es.find? (·.born == stamp)=some en):Pure C ⟨dst,.entry x,ty,pos,aft,g⟩ e H (.tuple [.atom en.key,.atom en.val]):=λρ w L h hH=>by
 refine⟨.tuple #[en.key,en.val],by simp only[Rep];exact⟨[en.key,en.val],rfl,by simp only[RepL,Rep];exact⟨_,_,rfl,rfl,_,_,rfl,rfl,rfl⟩⟩,λw' ha=>?_⟩;have h1:w'.heap[r]? = some (.mapIter (some b) since seen last):=(ha.1 _ hi).trans (hH.objs _ hi).2.2.2.1;have h2:w'.heap[b]? = some (.map es clock):=(ha.1 _ hm).trans (hH.objs _ hm).2.2.2.1;have h3:execOp ρ ⟨dst,.entry x,ty,pos,aft,g⟩=(do Pure.pure (.value (<-Instr.entry (ρ x)))):=rfl;have hg1:(getObj r).run C.P w'=.ok (.mapIter (some b) since seen last) w':=by simp only[getObj,Sem.run,h1]
 have hg2:(getObj b).run C.P w'=.ok (.map es clock) w':=by simp only[getObj,Sem.run,h2]
 have hne:(clock != last)=false:=by rw[hl];simp
 rw[h3,qaf h hx];simp only[Instr.entry,zRB,zRO,hg1,hb,hg2,hne,Bool.false_eq_true,if_false,zRP,hf]
theorem lH{op:Op}(hi:ops[i]? = some ⟨dst,op,ty,pos,aft,none⟩)(hd:qdp n dst)
  (hp:Pure C ⟨dst,op,ty,pos,aft,none⟩ e H lv) (k:qaI C n ops Q HF fuel (listed.setIfInBounds i true) (e.put dst lv) H):qan C n ops Q HF fuel listed e H i:=λw0 L0 a w L hL hA hsz hE hH=>by
 obtain⟨v,hv,hrun⟩:=hp a.eval w L hE.ev hH;unfold wpOp;rw[hi];simp only;rw[zp (by simp[Region.wanted])];refine .inl ?_;unfold Oper.wp;rw[hrun w (qe7.refl _ _ _)];exact⟨hA,k w0 L0 _ w L hL hA hsz (hE.put hd hv) hH⟩
end
def ql3:Op->Bool
 |.defer _=>false
 |_=>true
theorem qlb{l:Nat}{args:Array Value}{R:Ending->World->Prop}(h:Calls P f args w R):CallsIn (Fence.wide.inRound l) n P f args w R:=(callsIn_wide (n:=n)).2 h
theorem qmx{l:Nat}{row:String}{args:Array Value}{R:Value->World->Prop}(h:Rows P row args w R):RowsIn (Fence.wide.inRound l) n P row args w R:=λc cs _=>
 let ⟨v,w',r,s⟩:=h c cs
 ⟨v,w',r,stepsIn_wide.2 s⟩
theorem qma{l:Nat}{o:Oper}{a:Act}{w:World}{next next':Act->World->Prop}{Q:Exit->Act->World->Prop}(ho:ql3 o.op=true)
  (hn:∀ a w,next a w->next' a w) (h:o.wp P a w next Q):o.wpIn (Fence.wide.inRound l) n P a w next' Q:=by
 refine⟨λ_ _=>trivial,?_⟩;have hs:o.semAt (Fence.wide.inRound l).round a.eval=execOp a.eval o:=Oper.semAt_eq _ _ _ λc hc=>by rw[hc] at ho;cases ho
 rw[hs];unfold Oper.wp at h;revert h;generalize (execOp a.eval o).run P w=r;intro h
 cases r with
 |ok x w'=>
  cases x with
  |value v=>exact hn _ _ h
  |skip=>exact hn _ _ h
  |defer d=>exact hn _ _ h
  |enter f args=>
   refine⟨λhd=>(by cases hd),qlb (Calls.mono h ?_)⟩;intro e w'' he
   cases e with
   |returned v=>exact hn _ _ he
   |panicked ch=>exact he
   |outgrown=>exact he
  |row row args=>
   refine⟨λhd=>(by cases hd),qmx (Rows.mono h ?_)⟩;intro v w'' he
   exact hn _ _ he
  |_=>exact h.elim
 |halt x w'=>
  cases x <;> first|exact h|exact h.elim
theorem qfQ{l n:Nat}{P:Program}{ops:Array Oper}{Q:Exit->Act->World->Prop}(hQ:¬ LetsOut Q):∀ (rest:List Oper) (a:Act) (w:World),(∀ o∈rest,ql3 o.op=true)->wpList P ops Q rest a w->wpListIn (Fence.wide.inRound l) n P ops Q rest a w
 |[],_,_,_,h=>h
 |o::rest,a,w,ho,h=>by
  unfold wpList at h;unfold wpListIn;split at h
  rename_i hw
  rw[zp hw];rcases h with h|⟨_,h⟩;exact qma (ho o mem_cons_self) (λa w h=>qfQ hQ rest a w (λo h=>ho o (zMo _ h)) h) h;exact absurd h hQ
  rename_i hw
  rw[zn hw];exact⟨λ_ _=>trivial,qfQ hQ rest _ _ (λo h=>ho o (zMo _ h)) h⟩
theorem qko{l id:Nat}{ops:List Oper}{Q:Exit->Act->World->Prop}{a:Act}(hQ:¬ LetsOut Q)(ho:ops.all (λo=>ql3 o.op)=true)(h:wpList P ops.toArray Q ops a w) :
  (Code.region id ops.toArray false).wpIn (Fence.wide.inRound l) n P Q a w:=wpIn_region_lit (qfQ hQ ops a w (by simpa using ho) h)
end Go.GL
namespace Go.GL
open Go.RowKit
variable{C:Ctx}{F H H1 HF:Heap}{L:Live}{P:Program}{Q:Post}{aft:Array Edge}{b fuel i n:Nat}{c:Code}{dst:Option Nat}{e:Env}{f:FuncId}{listed:Array Bool}{lv:LV}{ops:Array Oper}{pos:String}{rest:List Oper}{t ty:TypeId}{w:World}
theorem qiP{o o':Obj}(hH:RelH C w L ((b,.obj o)::F))(ho':qfD o'=true) :
  Fr (keys ((b,LObj.obj o)::F)) w L (w.putObj b o') L ((b,.obj o')::F)/\RelH C (w.putObj b o') L ((b,.obj o')::F):=by
 have h1:RelH C w L ([(b,.obj o)]++F):=hH;have hlt:b<w.heap.size:=(hH.objs _ mem_cons_self).2.1
 have h2:Left C w L [(b,.obj o)] (w.putObj b o') undef (λ_ H'=>H'=[(b,.obj o')]):=
  qhv (w':=w.putObj b o') h1.left ho' rfl rfl rfl (by simp[World.putObj]) (λc hc=>World.putObj_heap_other hc) (World.putObj_heap_same hlt) (v:=undef) (lv:=.atom undef) (λ_=>qaj) rfl
 obtain⟨lv,H',L',g1,g2,g3,rfl⟩:=h2
 have hL:L'=L:=by
  funext c;obtain⟨_,_,hl,_⟩:=h1.left.objs _ mem_cons_self;obtain⟨_,_,hl',_⟩:=g2.objs _ mem_cons_self
  by_cases he:c=b
  subst he;rw[hl,hl'];rcases Nat.lt_or_ge c w.heap.size with hc|hc;exact g1.lsame c hc (by simpa using he);rw[h1.wf c hc,g2.wf c (by simpa [World.putObj] using hc)]
 subst hL;have:=h1.frame g1 g2;exact⟨this.2,this.1⟩
theorem qm9{o:Obj}(hH:RelH C w L F)(ho:qfD o=true) :
  ∃ L',Fr (keys F) w L (w.alloc o) L' ((w.heap.size,.obj o)::F)/\RelH C (w.alloc o) L' ((w.heap.size,.obj o)::F):=by
 have h1:RelH C w L ([]++F):=hH
 have:=qeA h1.left o 0 [(w.heap.size,.obj o)] (λp hp=>by
  simp only[mem_singleton] at hp;subst hp
  exact⟨rfl,by simp[Live.upd],qaE,qdY qaE ho⟩) (by simp)
 have:=h1.frame this.1 this.2;exact⟨_,this.2,this.1⟩
def qdv(C:Ctx)(l n:Nat)(c:Code)(Q:Post)(e:Env)(H:Heap):Prop:=
 ∀ a w L,RelE n a e w L->RelH C w L H->∀ m,c.wpIn (Fence.wide.inRound l) m C.P (lift C n w L (keys H) Q) a w
def QOn(k:Env->Heap->Prop):Post
 |.normal,e,H=>k e H
 |_,_,_=>False
section round
variable{C:Ctx}{l n:Nat}{e:Env}{H:Heap}{k:Env->Heap->Prop}
theorem qdv.region{id:Nat}{ops:List Oper}(ho:ops.all (λo=>ql3 o.op)=true)(h:LOps C n ops.toArray (qaz k (QOn k)) ops e H):qdv C l n (.region id ops.toArray false) (QOn k) e H:=λa w L hE hH m=>by
 refine qko ?_ ho (qbD ?_ _ _ _ (h a w L hE hH));rintro⟨a',w',e',H',L',_,_,_,hq⟩;exact hq;rintro ex a' w' hq;refine qjz ?_ hq;intro x e H h;cases x <;> exact h
theorem qdv.seq{x y:Code}(h:qdv C l n x (QOn λe H=>qdv C l n y (QOn k) e H) e H):qdv C l n (.seq x y) (QOn k) e H:=λa w L hE hH m=>by
 refine wpIn_seq (wpIn_mono (h a w L hE hH m) λex a' w' hq=>?_);obtain⟨e',H',L',h1,h2,h3,h4⟩:=hq
 cases ex with
 |normal=>exact wpIn_mono (h4 a' w' L' h3 h2 m) λ_ _ _=>qdV h1
 |exit id=>exact h4.elim
 |goto id=>exact h4.elim
 |ret=>exact h4.elim
 |panic ch=>exact h4.elim
 |outgrown=>exact h4.elim
theorem qdv.block{id:Nat}{c:Code}(h:qdv C l n c (QOn k) e H):qdv C l n (.block id c) (QOn k) e H:=λa w L hE hH m=>by
 refine wpIn_block (wpIn_mono (h a w L hE hH m) λex a' w' hq=>?_);obtain⟨e',H',L',h1,h2,h3,h4⟩:=hq
 cases ex with
 |normal=>exact⟨e',H',L',h1,h2,h3,h4⟩
 |exit id=>exact h4.elim
 |goto id=>exact h4.elim
 |ret=>exact h4.elim
 |panic ch=>exact h4.elim
 |outgrown=>exact h4.elim
end round
theorem qir{F:Fence}{m:Nat}{l:Nat}{args:Array Value}{W:World}{R R':Ending->World->Prop}(h:YieldAt F m P l args W R)(hr:∀ e w,R e w->R' e w):YieldAt F m P l args W R':=by
 obtain⟨fn,tmps,assign,body,hy,hR⟩:=h;exact⟨fn,tmps,assign,body,hy,hR.mono hr⟩
def qfB(C:Ctx)(l:Nat)(args:List LV)(H:Heap)(K:Heap->Prop):Prop:=
 ∀ (vs:List Value) w L,RepL w L args vs->RelH C w L H->∀ m,YieldAt Fence.wide m C.P l vs.toArray w λe w'=>e=.returned (.bool true)/\qfk C w L H w' K
theorem qfB.frame{C:Ctx}{l:Nat}{args:List LV}{G H F:Heap}{K:Heap->Prop}(p:G.Perm (H++F))(h:qfB C l args H λH'=>K (H'++F)):qfB C l args G K:=λvs w L h1 h2 m=>by
 have h3:=h2.perm p;refine qir (h vs w L h1 h3.left m) ?_;rintro e w' ⟨he,hx⟩;obtain⟨H',L',g1,g2,g3⟩:=qfk.frame h3 hx;exact⟨he,H',L',g1.perm p.symm,g2,g3⟩
theorem qfB.mono{C:Ctx}{l:Nat}{args:List LV}{H:Heap}{K K':Heap->Prop}(h:qfB C l args H K)(hk:∀ H,K H->K' H):qfB C l args H K':=λvs w L h1 h2 m=>qir (h vs w L h1 h2 m) λ_ _ hx=>⟨hx.1,hx.2.mono hk⟩
def qwS(C:Ctx)(gf:FuncId)(caps:List LV)(Hc:Heap)(N:Nat)(xs:Nat->List LV):Prop:=
 ∀ (l:Nat) (J:Nat->Heap->Prop),(∀ k H,k<N->J k H->qfB C l (xs k) H (J (k+1)))->∀ H0,J 0 H0 ->
  LCalls C gf (.atom (.func (.yield l) #[] #[])::caps) (H0++Hc) (λr H'=>(∃ v,r=.ret v)/\∃ H1,H'=H1++Hc/\J N H1)
def Env.round(j:Env):List (Nat×LV)->Env
 |[]=>j
 |(d,v)::r=>Env.round (j.upd d v) r
theorem RelE.rounds{n:Nat}{w:World}{L:Live}:∀ (ps:List Nat) (lvs:List LV) (vs:List Value) (tmps:Array Value) (j:Env),RelE n { tmps,defers:=[] } j w L->RepL w L lvs vs->ps.length=lvs.length->ps.all (λp=>Nat.blt p n)=true ->
  RelE n { tmps:=(ps.zip vs).foldl (λt p=>t.setIfInBounds p.1 p.2) tmps,defers:=[] } (Env.round j (ps.zip lvs)) w L
 |[],lvs,vs,tmps,j,h,_,_,_=>by simpa [Env.round] using h
 |p::ps,[],vs,tmps,j,h,_,hl,_=>by simp at hl
 |p::ps,lv::lvs,vs,tmps,j,h,hr,hl,hp=>by
  simp only[RepL] at hr;obtain⟨y,ys,rfl,hy,hr⟩:=hr;simp only[List.all_cons,zBa] at hp;have:=RelE.put (dst:=some p) h (by simp only[qdp,dstB];exact hp.1) hy;simp only[List.zip_cons_cons,List.foldl_cons,Env.round];exact RelE.rounds ps lvs ys _ _ this hr (by simpa using hl) hp.2
def Act.flat(a:Act):Env:=⟨λi=>.atom (a.tmps.getD i undef),[]⟩
theorem Act.flat_rel{a:Act}(hn:a.tmps.size=n):RelE n { tmps:=a.tmps,defers:=[] } (Act.flat a) w L:=⟨hn,rfl,λ_=>qaj⟩
section range
variable{C:Ctx}{n:Nat}{e:Env}{H:Heap}{Q:Post}
theorem qag.rangeFunc{g:Operand}{ps:List Nat}{assign body:Code}{gf:FuncId} [TEnter C.P gf]{caps:Array Value}(hg:e.ev g=.atom (.func (.func gf) #[] caps))(N:Nat)(xs:Nat->List LV)(H0 Hc:Heap)(hp:H.Perm (H0++Hc))
  (hiter:qwS C gf (caps.toList.map .atom) Hc N xs) (hps:∀ k,k<N->ps.length=(xs k).length) (hpn:ps.all (λp=>Nat.blt p n)=true)
  (J:Nat->Heap->Prop) (h0:J 0 H0)
  (round:∀ k H,k<N->J k H->∀ j:Env,j.ds=[]->(∀ i v,e.s i=.atom v->j.s i=.atom v)->∀ (l D:Nat) (o oD:LObj),qdv C l n assign (QOn λe1 H1=>e1.ds=[]/\∃ H1',H1=(l,o)::(D,oD)::H1'/\(∀ o':LObj,qdv C l n body (QOn λ_ H2=>∃ H2',HSub ((l,o')::(D,oD)::H2') H2/\J (k+1) H2') e1 ((l,o')::(D,oD)::H1'))) (Env.round j (ps.zip (xs k))) ((l,o)::(D,oD)::H))
  (done:∀ D H',J N H'->Q .normal ⟨e.s,{ target:=.collected D,args:=#[] }::e.ds⟩ ((D,.obj (.deferred (some [])))::(H'++Hc))) :
  qag C n (.rangeFunc g ps.toArray assign body) Q e H:=λa w L hE hH=>by
 refine wpIn_wide (n:=1) |>.1 (wpIn_rangeFunc λfn _=>?_)
 have hgv:a.eval g=.func (.func gf) #[] caps:=by
  have:=hE.ev g;rw[hg] at this;simpa only[Rep] using this
 obtain⟨rec,hrec⟩:∃ rec:LoopState->Option Code->Loop,rec=λst pe=>{ state:=st,pending:=pe,fn,tmps:=a.tmps,params:=ps.toArray,assign,body,defers:=w.heap.size }:=⟨_,rfl⟩;obtain⟨L1,f1,r1⟩:=qm9 (o:=.deferred (some [])) (hH.perm hp) rfl;obtain⟨L2,f2,r2⟩:=qm9 (o:=.loop (rec .ready none)) r1 rfl;have hsz:(w.alloc (.deferred (some []))).heap.size=w.heap.size+1:=World.size_alloc ..;rw[hsz] at f2 r2;have hrec0:rec .ready none={ state:=.ready,pending:=none,fn,tmps:=a.tmps,params:=ps.toArray,assign,body,defers:=w.heap.size }:=by rw[hrec]
 refine⟨w.heap.size+1,[{ target:=.collected w.heap.size,args:=#[] }],(w.alloc (.deferred (some []))).alloc (.loop (rec .ready none)),{ target:=.fn (.func gf) caps,args:=#[.func (.yield (w.heap.size+1)) #[] #[]] },(w.alloc (.deferred (some []))).alloc (.loop (rec .ready none)),gf,
  #[.func (.yield (w.heap.size+1)) #[] #[]]++caps,(w.alloc (.deferred (some []))).alloc (.loop (rec .ready none)),?_,?_,λ_ _=>trivial,?_,λ_=>zNr _,callsIn_wide.2 ?_⟩
 rw[hrec0];exact run_enterLoop_outer _ _ _ _ _;simp only[resolve,hgv];simp[go_sem];simp only[invoke];exact qfw _ _;obtain⟨l,hl⟩:∃ l,l=w.heap.size+1:=⟨_,rfl⟩;obtain⟨D,hD⟩:∃ D,D=w.heap.size:=⟨_,rfl⟩;rw[<-hl,<-hD] at f2 r2 ⊢;rw[<-hD] at r1 f1;have hc:=hiter l (λk H=>∃ H1,H=(l,.obj (.loop (rec .ready none)))::(D,.obj (.deferred (some [])))::H1/\J k H1) ?_ ((l,.obj (.loop (rec .ready none)))::(D,.obj (.deferred (some [])))::H0) ⟨H0,rfl,h0⟩
 ·have h1:=hc (.func (.yield l) #[] #[]::caps.toList) _ L2 (by simp only[RepL,Rep];exact⟨_,_,rfl,rfl,qa4 _⟩) r2
  have e1:(Value.func (.yield l) #[] #[]::caps.toList).toArray=#[.func (.yield l) #[] #[]]++caps:=by
   apply Array.ext'
   simp
  rw[e1] at h1;refine Calls.mono h1 ?_;rintro ex w' hx
  cases ex with
  |returned v=>
   obtain⟨lv,H',L',g1,g2,g3,_,H1,rfl,H1',rfl,hJ⟩:=hx;have g2':RelH C w' L' ((l,.obj (.loop (rec .ready none)))::((D,.obj (.deferred (some [])))::(H1'++Hc))):=g2;obtain⟨_,_,_,hlo,_⟩:=g2'.objs _ mem_cons_self;have hlo':w'.heap[l]? = some (.loop (rec .ready none)):=hlo;have hpe:(rec .ready none).pending=none:=by rw[hrec]
   have hend:=(run_endLoop (P:=C.P) hlo' (by rw[hrec];simp)).trans (congrArg (λp=>Result.ok p _) hpe);have ht:=qiP (o':=.loop { rec .ready none with state:=.exhausted }) g2' rfl;refine⟨none,_,hend,?_⟩;have hs:HSub ((D,LObj.obj (.deferred (some [])))::(H1'++Hc)) ((l,.obj (.loop { rec .ready none with state:=.exhausted }))::((D,.obj (.deferred (some [])))::(H1'++Hc))):=zhD zhr;refine⟨⟨e.s,{ target:=.collected D,args:=#[] }::e.ds⟩,(D,.obj (.deferred (some [])))::(H1'++Hc),L',?_,ht.2.weak hs,⟨?_,?_,?_⟩,done D H1' hJ⟩;exact Fr.perm hp.symm ((f1.trans (f2.trans (g1.trans ht.1))).weak hs);exact hE.size;show _::a.defers=_;rw[hE.ds]
   exact λi=>(hE.vals i).mono (f1.ext.trans (f2.ext.trans (g1.ext.trans ht.1.ext))) _ _
  |panicked ch=>
   obtain⟨H',L',g1,g2,⟨v,hv⟩,_⟩:=hx
   cases hv
  |outgrown=>exact hx.elim
 rintro k H hk ⟨H1,rfl,hJ⟩ vs w1 Lw hvs hr m;obtain⟨_,_,_,hlo,_⟩:=hr.objs _ mem_cons_self;have hlo':w1.heap[l]? = some (.loop (rec .ready none)):=hlo;have hlen:=hvs.length;have hpk:=hps k hk;have hy:=run_yield (P:=C.P) (args:=vs.toArray) hlo' (by rw[hrec];simp;omega);rw[hrec] at hy;refine⟨fn,_,assign,body,hy,roundIn_of_wpIn trivial ?_⟩;have htm:RelE n { tmps:=a.tmps,defers:=[] } (Act.flat a) w1 Lw:=Act.flat_rel hE.size;have htm2:=RelE.rounds ps (xs k) vs a.tmps (Act.flat a) htm hvs hpk hpn
 have e2:(ps.toArray.zip vs.toArray).foldl (λtmps (t,a)=>tmps.setIfInBounds t a) a.tmps=(ps.zip vs).foldl (λt p=>t.setIfInBounds p.1 p.2) a.tmps:=by
  simp
 simp only[e2];refine wpIn_mono (round k H1 hk hJ (Act.flat a) rfl ?_ l D _ _ _ w1 Lw htm2 hr m) ?_;intro i v hv;have:=hE.vals i;rw[hv] at this;simp only[Rep] at this;simp only[Act.flat,this];rintro ex a1 w2 ⟨e1,H2,L2',q1,q2,q3,q4⟩
 cases ex with
 |normal=>
  obtain⟨hds,H2',rfl,hb⟩:=q4;obtain⟨_,_,_,hlo2,_⟩:=q2.objs _ mem_cons_self;have hlo2':w2.heap[l]? = some (.loop (rec .ready none)):=hlo2;have ht:=qiP (o':=.loop { rec .ready none with state:=.busy }) q2 rfl;refine⟨_,run_beginRound hlo2' (by rw[hrec]),?_⟩;refine wpIn_mono (hb (.obj (.loop { rec .ready none with state:=.busy })) a1 _ L2' (q3.mono ht.1.ext) ht.2 m) ?_;rintro ex a3 w3 ⟨e3,H3,L3,p1,p2,p3,p4⟩
  cases ex with
  |normal=>
   obtain⟨H3',hs3,hJ3⟩:=p4;have p2':=p2.weak hs3;obtain⟨_,_,_,hlo3,_⟩:=p2'.objs _ mem_cons_self;have hlo3':w3.heap[l]? = some (.loop { rec .ready none with state:=.busy }):=hlo3;have ht3:=qiP (o':=.loop (rec .ready none)) p2' rfl;have hend:=run_endRound (P:=C.P) none hlo3';have e3:({ { rec .ready none with state:=.busy } with state:=if (none:Option Code).isNone then .ready else .done,pending:=none }:Loop)=rec .ready none:=by rw[hrec];try rfl
   rw[e3] at hend;refine⟨.bool true,_,hend,rfl,?_⟩
   exact⟨_,L3,q1.trans (ht.1.trans ((p1.weak hs3).trans ht3.1)),ht3.2,H3',rfl,hJ3⟩
  |exit id=>exact p4.elim
  |goto id=>exact p4.elim
  |ret=>exact p4.elim
  |panic ch=>exact p4.elim
  |outgrown=>exact p4.elim
 |exit id=>exact q4.elim
 |goto id=>exact q4.elim
 |ret=>exact q4.elim
 |panic ch=>exact q4.elim
 |outgrown=>exact q4.elim
end range
def qfu(C:Ctx)(n:Nat)(ops:Array Oper)(Q:Post)(rest:List Oper)(e:Env)(H:Heap):Prop:=
 ∀ a w L,RelE n a e w L->RelH C w L H->wpListIn Fence.wide 1 C.P ops (lift C n w L (keys H) Q) rest a w
section W
variable{C:Ctx}{n:Nat}{ops:Array Oper}{Q:Post}{e:Env}{H:Heap}
theorem qfu.nil(h:Q .normal e H):qfu C n ops Q [] e H:=λ_ _ L hE hH=>⟨e,H,L,Fr.refl _ _ _,hH,hE,h⟩
theorem qbM{F:Fence}{m:Nat}{P:Program}{Q Q':Exit->Act->World->Prop}(h:∀ e a w,Q e a w->Q' e a w)(ho:LetsOut Q->LetsOut Q'):∀ (l:List Oper) (a:Act) (w:World),wpListIn F m P ops Q l a w->wpListIn F m P ops Q' l a w
 |[],_,_,k=>h _ _ _ k
 |o::l,a,w,k=>by
  unfold wpListIn at k ⊢;split at k
  ·rename_i hw
   rw[zp hw];refine⟨k.1,?_⟩;have k2:=k.2;generalize (o.semAt F.round a.eval).run P w=r at k2 ⊢
   cases r with
   |ok x w'=>
    cases x with
    |value v=>exact qbM h ho l _ _ k2
    |skip=>exact qbM h ho l _ _ k2
    |defer d=>exact qbM h ho l _ _ k2
    |enter f args=>
     refine⟨k2.1,k2.2.mono λe w'' he=>?_⟩
     cases e with
     |returned v=>exact qbM h ho l _ _ he
     |panicked ch=>exact h _ _ _ he
     |outgrown=>exact ho he
    |row row args=>
     refine⟨k2.1,λc cs hr=>?_⟩;obtain⟨v,w2,r2,s2⟩:=k2.2 c cs hr
     exact⟨v,w2,qbM h ho l _ _ r2,s2⟩
    |round l' f tmps avs bd=>
     refine⟨k2.1,k2.2.mono λe w'' he=>?_⟩
     cases e with
     |returned v=>exact qbM h ho l _ _ he
     |panicked ch=>exact h _ _ _ he
     |outgrown=>exact ho he
    |_=>exact k2.elim
   |halt x w'=>cases x <;> first|exact h _ _ _ k2|exact k2.elim
  rename_i hw
  rw[zn hw];exact⟨k.1,qbM h ho l _ _ k.2⟩
theorem quM{w1:World}{L1:Live}{K:List Nat}(f:Fr K w L w1 L1 H1):LetsOut (lift C n w1 L1 (keys H1) Q)->LetsOut (lift C n w L K Q):=λ⟨a,w',h⟩=>⟨a,w',qdV f h⟩
theorem qfu.pure{op:Op}
  (h:Pure C ⟨dst,op,ty,pos,aft,none⟩ e H lv) (hd:qdp n dst) (k:qfu C n ops Q rest (e.put dst lv) H):qfu C n ops Q (⟨dst,op,ty,pos,aft,none⟩::rest) e H:=λa w L hE hH=>by
 obtain⟨v,hv,hr⟩:=h a.eval w L hE.ev hH;unfold wpListIn;rw[zp (by simp[Region.wanted])];refine⟨λ_ _=>trivial,?_⟩;have hs:Oper.semAt (Fence.wide).round a.eval ⟨dst,op,ty,pos,aft,none⟩=execOp a.eval ⟨dst,op,ty,pos,aft,none⟩:=rfl;rw[hs,hr w ⟨λ_ _=>rfl,λ_ _ _=>rfl⟩];exact k _ w L (hE.put hd hv) hH
theorem qfu.yield{dst:Option Nat}{fo:Operand}{l:Nat}{args:List Operand}{ats:Array TypeId}{avs:List LV}{ty:TypeId}{pos:String}{aft:Array Edge}{rest:List Oper}{K:Heap->Prop}(hf:e.ev fo=.atom (.func (.yield l) #[] #[]))
  (has:args.map e.ev=avs) (hy:qfB C l avs H K) (hd:qdp n dst) (k:∀ H',K H'->qfu C n ops Q rest (e.put dst (bool true)) H'):qfu C n ops Q (⟨dst,.call { callee:=.value fo,args:=args.toArray,argTypes:=ats },ty,pos,aft,none⟩::rest) e H:=λa w L hE hH=>by
 subst has;have hv:=hE.ev fo;rw[hf] at hv;simp only[Rep] at hv;obtain⟨fn,tmps,assign,body,h1,h2⟩:=hy (args.map a.eval) w L (qjA hE.ev _) hH 0;unfold wpListIn;rw[zp (by simp[Region.wanted])];refine⟨λ_ _=>trivial,?_⟩;have h3:Oper.semAt (Fence.wide).round a.eval ⟨dst,.call { callee:=.value fo,args:=args.toArray,argTypes:=ats },ty,pos,aft,none⟩=(do let d <-Deferred.ofValue (a.eval fo) (args.toArray.map a.eval);invoke d.target d.args):=rfl
 have h4:(do let d <-Deferred.ofValue (.func (.yield l) #[] #[]) (args.toArray.map a.eval);invoke d.target d.args:Sem Next).run C.P w=.ok (.round l fn tmps assign body) w:=by
  simp only[Deferred.ofValue,zRB,zRP,zRO,invoke];rw[<-h1]
  simp
 rw[h3,hv,h4];refine⟨λ_=>zNr _,h2.mono ?_⟩;rintro ex w' ⟨rfl,H',L',g1,g2,g3⟩;exact qbM (λ_ _ _=>qdV g1) (quM g1) _ _ _ (k H' g3 _ w' L' ((hE.mono g1.ext).put hd qaj) g2)
theorem qag.regionW{id:Nat}{l:List Oper}(h:qfu C n l.toArray Q l e H):qag C n (.region id l.toArray false) Q e H:=λa w L hE hH=>wpIn_wide (n:=1) |>.1 (wpIn_region_lit (h a w L hE hH))
end W
def qdj(C:Ctx)(n:Nat)(rs:List ResultVar)(R:LRes->Heap->Prop):Post
 |.normal,e,H|.ret,e,H=>∃ D F,e.ds=[{ target:=.collected D,args:=#[] }]/\H.Perm ((D,.obj (.deferred (some [])))::F)/\∃ vs H',qbX C n e F rs vs/\HSub H' F/\R (.ret (qbJ vs)) H'
 |.panic ch,e,H=>(e.ds=[]/\∃ H',HSub H' H/\R (.panic ch) H')∨∃ D F,e.ds=[{ target:=.collected D,args:=#[] }]/\H.Perm ((D,.obj (.deferred (some [])))::F)/\∃ H',HSub H' F/\R (.panic ch) H'
 |_,_,_=>False
theorem LCalls.introM{fn:Func}{args:List LV}{R:LRes->Heap->Prop}(hf:C.P.funcs[f]? = some fn)(hb:fn.body=some c)(hn:fn.ntmps=n)(h3:Nat.ble fn.results.size 3=true)
  (hl:Nat.ble args.length n=true) (h:qag C n c (qdj C n fn.results.toList R) (qfE args) H):LCalls C f args H R:=λvs w L hv hH=>by
 subst hn;have hl':args.length<=fn.ntmps:=by simpa using hl
 have h3':fn.results.size<=3:=by simpa using h3
 have hlen:=hv.length;refine callsIn_wide.1 (callsIn_of_wp_marks (F:=Fence.wide) (n:=1) hf hb trivial (wpIn_wide.2 (Go.wp_mono (h _ w L ⟨?_,rfl,λi=>?_⟩ hH) λex a' w' hq=>?_)))
 simp;omega
 exact zT0;obtain⟨e',H',L',g1,g2,g3,g4⟩:=hq
 have turn:∀ {D F},H'.Perm ((D,LObj.obj (.deferred (some [])))::F)->(Instr.takeDeferred D).run C.P w'=.ok [] (w'.putObj D (.deferred none))/\Fr (keys H) w L (w'.putObj D (.deferred none)) L' F/\RelH C (w'.putObj D (.deferred none)) L' F/\Ext w' L' (w'.putObj D (.deferred none)) L':=λ{D F} hp=>by
  have g2':=g2.perm hp;obtain⟨_,_,_,hlo,_⟩:=g2'.objs _ mem_cons_self;have hlo':w'.heap[D]? = some (.deferred (some [])):=hlo;have ht:=qiP (o':=.deferred none) g2' rfl;have hs:HSub F ((D,LObj.obj (.deferred none))::F):=zhD zhr;have hkp:Fr (keys H) w L w' L' ((D,LObj.obj (.deferred (some [])))::F):=g1.weak ⟨[],by simpa using hp⟩;exact⟨run_takeDeferred hlo',(hkp.trans ht.1).weak hs,ht.2.weak hs,ht.1.ext⟩
 have ret:RelE fn.ntmps a' e' w' L'->(∃ D F,e'.ds=[{ target:=.collected D,args:=#[] }]/\H'.Perm ((D,.obj (.deferred (some [])))::F)/\∃ vs H'',qbX C fn.ntmps e' F fn.results.toList vs/\HSub H'' F/\R (.ret (qbJ vs)) H'') ->
   LeavesInM Fence.wide 1 C.P fn a'.tmps (qcG C w L H (λv=>R (.ret v)) (λch=>R (.panic ch))) a'.defers .returning w':=λhE hr=>by
  obtain⟨D,F,h1,hp,vs',H'',h2,h4,h5⟩:=hr;rw[hE.ds,h1];obtain⟨t1,t2,t3,t4⟩:=turn hp;refine⟨by simp,.inl ⟨D,_,rfl,t1,?_⟩⟩;obtain⟨v,r1,r2⟩:=qhO (hE.mono t4) t3 h2 h3';exact⟨v,r1,qbJ vs',H'',L',t2.weak h4,t3.weak h4,r2,h5⟩
 cases ex with
 |normal=>exact ret g3 g4
 |ret=>exact ret g3 g4
 |panic ch=>
  rcases g4 with⟨h1,H'',h4,h5⟩|⟨D,F,h1,hp,H'',h4,h5⟩;show LeavesInM _ _ _ _ _ _ a'.defers _ _;rw[show a'.defers=[] from(show a'.defers=e'.ds from g3).trans h1];exact⟨H'',L',g1.weak h4,g2.weak h4,h5⟩;show LeavesInM _ _ _ _ _ _ a'.defers _ _;rw[show a'.defers=[{ target:=.collected D,args:=#[] }] from(show a'.defers=e'.ds from g3).trans h1];obtain⟨t1,t2,t3,t4⟩:=turn hp
  exact⟨by simp,.inl ⟨D,_,rfl,t1,⟨H'',L',t2.weak h4,t3.weak h4,h5⟩⟩⟩
 |exit id=>exact g4.elim
 |goto id=>exact g4.elim
 |outgrown=>exact g4.elim
section
variable{C:Ctx}{n:Nat}{Q:Post}{e:Env}{H:Heap}{k:Env->Heap->Prop}
theorem qag.mid{A:Type}(l:A->List (Nat×LV))(H1:A->Heap)(F:A->Prop)(hx:qag C n c (qaz (λe' H'=>∃ a,F a/\At (l a) (H1 a) e.ds e' H') Q) e H)(hy:∀ a,F a->∀ j:Env,j.ds=e.ds->k (Env.slots j (l a)) (H1 a)):qag C n c (qaz k Q) e H:=by
 refine qag.conseq hx ?_;rintro ex e' H' hq
 cases ex with
 |normal=>
  obtain⟨a,hF,h1,rfl,h3⟩:=hq;have:=hy a hF e' h3;rw[Env.slots_self h1.mem] at this
  exact this
 |exit id=>exact hq
 |goto id=>exact hq
 |ret=>exact hq
 |panic ch=>exact hq
 |outgrown=>exact hq
theorem cM{A:Type}{c2:Code}{Q2:Post}(l:A->List (Nat×LV))(H1:A->Heap)(F:A->Prop)(hx:qag C n c (qaz (λe' H'=>∃ a,F a/\qcH e' (l a)/\HSub (H1 a) H'/\e'.ds=e.ds) Q) e H)(hy:∀ a,F a->∀ j:Env,j.ds=e.ds->qag C n c2 Q2 (Env.slots j (l a)) (H1 a)):qag C n c (qaz (λe H=>qag C n c2 Q2 e H) Q) e H:=by
 refine qag.conseq hx ?_;rintro ex e' H' hq
 cases ex with
 |normal=>
  obtain⟨a,hF,h1,h2,h3⟩:=hq;have:=hy a hF e' h3;rw[Env.slots_self h1.mem] at this
  exact cW h2 this
 |exit id=>exact hq
 |goto id=>exact hq
 |ret=>exact hq
 |panic ch=>exact hq
 |outgrown=>exact hq
theorem qrE{ty:Nat}{cs cs':List LV}(hp:Pick (b,.cells ty cs) H F)(hs:SubL cs cs')(hH:RelH C w L H):RelH C w L ((b,.cells ty cs')::F):=by
 have h1:=hH.perm hp;refine⟨h1.base,h1.lbase,h1.b0,h1.wf,h1.nodup,λp hp=>?_⟩;rcases zMi.1 hp with rfl|hp;obtain⟨r1,r2,r3,xs,r4,r5⟩:=h1.objs _ mem_cons_self;exact⟨r1,r2,r3,xs,r4,hs.repL r5⟩;exact h1.objs p (zMo _ hp)
theorem qtu{ty:Nat}{cs cs':List LV}(hp:Pick (b,.cells ty cs) H F):∀ x,x∈keys ((b,LObj.cells ty cs')::F)->x∈keys H:=λx hx=>by
 have:keys ((b,LObj.cells ty cs')::F)=keys ((b,LObj.cells ty cs)::F):=rfl;rw[this] at hx;exact((hp.map (·.1)).mem_iff).2 hx
theorem qag.cellSub{ty:Nat}{cs cs':List LV}(hp:Pick (b,.cells ty cs) H F)(hs:SubL cs cs')(h:qag C n c Q e ((b,.cells ty cs')::F)):qag C n c Q e H:=λa w L hE hH=>
 Go.wp_mono (h a w L hE (qrE hp hs hH)) λ_ _ _=>qhx (qtu hp)
theorem LOps.perm{H':Heap}(s:H.Perm H')(h:LOps C n ops Q rest e H'):LOps C n ops Q rest e H:=LOps.weak ⟨[],by simpa using s⟩ h
end
section
variable{C:Ctx}{e:Env}{H:Heap}{dst:Option Nat}{ty:TypeId}{pos:String}{aft:Array Edge}{g:Option (Nat×Bool)}{x:Operand}
theorem Pure.assertOk{xT:TypeId} [ht:TConcrete C.P t]{vs:List Value}(hx:e.ev x=.atom (.iface t (.agg vs.toArray))):Pure C ⟨dst,.typeAssert x xT t true,ty,pos,aft,g⟩ e H (.tuple [.agg (vs.map .atom),bool true]):=
 .of_any λρ w L h=>⟨.tuple #[.agg vs.toArray,.bool true],by
  simp only[Rep];exact⟨[.agg vs.toArray,.bool true],rfl,by simp only[RepL,Rep];exact⟨_,_,rfl,⟨vs,rfl,qa4 vs⟩,_,_,rfl,rfl,rfl⟩⟩,λw'=>by
  obtain⟨d,hd,hm⟩:=ht.out;have h3:execOp ρ ⟨dst,.typeAssert x xT t true,ty,pos,aft,g⟩=(do Pure.pure (.value (<-Instr.typeAssert (ρ x) xT t true))):=rfl;rw[h3,qaf h hx];simp only[Instr.typeAssert,zRB,qaa hd,zRO]
  cases d <;> simp_all⟩
end
theorem qaI.three{j k:Nat}(hr:Region.ready .any ops listed=[i,j,k])(h1:qan C n ops Q HF fuel listed e H i)(h2:qan C n ops Q HF fuel listed e H j)(h3:qan C n ops Q HF fuel listed e H k):qaI C n ops Q HF (fuel+1) listed e H:=
 qaI.all hr (by simp) λq hq=>by
  simp only[zMi,List.not_mem_nil,or_false] at hq;rcases hq with rfl|rfl|rfl;exact h1;exact h2;exact h3
theorem qey(l:List (List UInt8)):∀ v∈l.map str,v.cells.length=1:=λv hv=>by
 obtain⟨x,_,rfl⟩:=List.mem_map.1 hv;rfl
theorem qgB:∀ l:List (List UInt8),((l.map str).flatMap LV.cells).all qc4=true
 |[]=>rfl
 |x::l=>by
  rw[zMc,List.flatMap_cons,List.all_append,qgB l]
  try rfl
end Go.GL
namespace Go.GL
open Go.RowKit
variable{C:Ctx}{F H H1:Heap}{L:Live}{P:Program}{Q:Post}{b bytes clock fuel n sT xT:Nat}{c:Code}{e:Env}{el kt t:TypeId}{f:FuncId}{k l:List UInt8}{listed:Array Bool}{lv zl:LV}{ops:Array Oper}{v zv:Value}{w:World}
section
variable{C:Ctx}{e:Env}{H:Heap}{dst:Option Nat}{ty:TypeId}{pos:String}{aft:Array Edge}{g:Option (Nat×Bool)}{xT yT:TypeId}{x y:Operand}
end
section
variable{C:Ctx}{e:Env}{H:Heap}{x y:Operand}{dst:Option Nat}{ty:TypeId}{pos:String}{aft:Array Edge}{g:Option (Nat×Bool)}{K:LV->Heap->Prop}{X:List PanicEntry->Heap->Prop}
def byts(l:List UInt8):List LV:=l.map λb=>int .u8 b.toNat
theorem qiR(l:List UInt8):(byts l).length=l.length:=zLm _
theorem qpx(l m:List UInt8):byts (l++m)=byts l++byts m:=zMa
theorem qmc(l:List UInt8):∀ v∈byts l,v.cells.length=1:=by
 intro v hv;obtain⟨b,_,rfl⟩:=List.mem_map.1 hv;rfl
theorem qne(l:List UInt8):(byts l).flatMap LV.cells=byts l:=by
 induction l with
 |nil=>rfl
 |cons b l ih=>
  have h:byts (b::l)=int .u8 b.toNat::byts l:=rfl;rw[h,List.flatMap_cons,ih]
  try rfl
def bytV(l:List UInt8):List Value:=l.map λb=>.int .u8 b.toNat
theorem qmu(l:List UInt8):∀ v∈bytV l,(∀ cs,v≠Value.agg cs)/\(∀ cs,v≠Value.tuple cs):=by
 intro v hv;obtain⟨b,_,rfl⟩:=List.mem_map.1 hv;exact And.intro (λ_ h=>by cases h) (λ_ h=>by cases h)
theorem qjT(l:List UInt8)(w':World):(Builtin.firstCells 1 l.length (.string ⟨l.toArray⟩)).run P w'=.ok (bytV l).toArray w':=by
 have:=Go.Lib.run_firstCells_string (P:=P) w' 1 ⟨l.toArray⟩;rw[qhM] at this;rw[this]
 try rfl
theorem qct{w:World}{L:Live}:∀ {zs xs:List Value},RepL w L (zs.map .atom) xs->xs=zs
 |[],_,h=>by simpa only[map_nil,RepL] using h
 |z::zs,xs,h=>by
  simp only[zMc,RepL] at h;obtain⟨y,ys,rfl,h1,h2⟩:=h;simp only[Rep] at h1;rw[h1,qct h2]
inductive BRow (el:TypeId):Value->List UInt8->Heap->Prop
 |nil:BRow el (.slice none 0 0) [] []
 |row {b:Nat} {l:List UInt8} {xs:List Value} (h0:l≠[]) (h1:l.length<=xs.length) (h2:xs.take l.length=bytV l):BRow el (.slice (some ⟨b,0,none⟩) l.length xs.length) l [(b,.cells el (xs.map .atom))]
theorem qbG(l:List UInt8):(bytV l).length=l.length:=zLm _
theorem qiZ(l m:List UInt8):bytV (l++m)=bytV l++bytV m:=zMa
theorem qgX(hH:RelH C w L []){xs:List Value}(h0:l≠[])(h1:l.length<=xs.length)(h2:xs.take l.length=bytV l)(hk:∀ v' H',BRow el v' l H'->K (.atom v') H') :
  Left C w L [] (World.push w (.cells xs.toArray el)) (.slice (some ⟨w.heap.size,0,none⟩) l.length xs.length) K:=by
 have hx:=qev hH.wf (.cells xs.toArray el) 0
 have:=qeA hH (.cells xs.toArray el) 0 [(w.heap.size,.cells el (xs.map .atom))] (λp hp=>by
  simp only[mem_singleton] at hp;subst hp
  exact⟨rfl,by simp[Live.upd],xs,qaE,qa4 xs⟩) (by simp)
 exact⟨.atom _,_,_,this.1,this.2,qaj,hk _ _ (BRow.row h0 h1 h2)⟩
theorem qae.appB{el:Nat} [ht:TSlice C.P sT el 1] [hr:TRow C.P el 1 bytes] [hx2:TStr C.P xT]{m:List UInt8}
  (hx:e.ev x=.atom v) (ha:BRow el v l H) (hy:e.ev y=str m) (hroom:(l.length+m.length) * bytes<=140737488355328)
  (hk:∀ v' H',BRow el v' (l++m) H'->K (.atom v') H'):qae C ⟨dst,.call { callee:=.builtin .append,args:=#[x,y],argTypes:=#[sT,xT] },ty,pos,aft,g⟩ e H K X:=by
 have h0:∀ (cs:Array Bool) (args:Array Value),builtin .append #[sT,xT] ty cs args=(do Pure.pure (.value (<-Builtin.append_ #[sT,xT] ty args))):=λ_ _=>rfl;have hlen:∀ w':World,(Builtin.lenOf (.string ⟨m.toArray⟩)).run C.P w'=.ok m.length w':=λw'=>by simp[Builtin.lenOf,qhM]
 cases ha with
 |nil=>
  by_cases hne:m=[]
  subst hne;intro ρ w L h hH
  have hr:(Builtin.append_ #[sT,xT] ty #[.slice none 0 0,.string ⟨#[]⟩]).run C.P w=.ok (.slice none 0 0) w:=by
   obtain⟨i,hi,his⟩:=ht.size;simp[Builtin.append_,qaa ht.und,qaa hx2.und,sizeOf,typeInfo,hi,Builtin.lenOf,Builtin.firstCells,show(ByteArray.mk #[]).size=0 from rfl,show((ByteArray.mk #[]).extract 0 0).data=#[] from rfl]
  rw[qax,h0];simp only[map_toArray,zMc,map_nil,zRB,qaf h hx,qaf h hy,hr,zRO,zRP];exact⟨_,[],L,Fr.refl _ _ _,hH,qaj,hk _ _ BRow.nil⟩;intro ρ w L h hH;have hpos:0<m.length:=List.length_pos_iff.2 hne
  obtain⟨cap',rest,r1,r2,r3⟩:=qbx (ty:=ty) (P:=C.P) (w:=w) (sT:=sT) (xT:=xT) (a:=none) (len:=0) (cap:=0) (n:=m.length) (xv:=.string ⟨m.toArray⟩) (old:=[]) (new:=bytV m) (.inl hx2.und) hlen (λw' _=>qjT m w')
   (λw' _=>by simp[Builtin.firstCells]) (by simpa using hroom) zo
  rw[qax,h0];simp only[map_toArray,zMc,map_nil,zRB,qaf h hx,qaf h hy,r3,zRO,zRP,List.nil_append,zero_add];have hcl:(bytV m++rest).length=cap':=by rw[zLa,r2,qbG];omega
  obtain⟨lv,H',L',g1,g2,g3,g4⟩:=qgX (K:=K) (el:=el) (l:=m) (xs:=bytV m++rest) hH.drew hne (by rw[hcl];omega) (by rw[take_left' (qbG m)]) (λv' H' h'=>hk v' H' h');rw[hcl] at g3
  exact⟨lv,H',L',g1.of_drew,g2,g3,g4⟩
 |row hne h1 h2=>
  rename_i b xs
  intro ρ w L h hH;obtain⟨hb0,hbs,hl,zs,hz1,hz2⟩:=hH.objs _ (List.mem_singleton.2 rfl);have hz:=qct hz2;subst hz;simp only at hb0 hbs hl hz1;rw[qax,h0];simp only[map_toArray,zMc,map_nil,zRB,qaf h hx,qaf h hy]
  by_cases hc:l.length+m.length<=zs.length
  have hrun:=qdH (ty:=ty) (P:=C.P) (w:=w) (sT:=sT) (xT:=xT) (s:=1) (a:=some ⟨b,0,none⟩) (len:=l.length) (cap:=zs.length) (n:=m.length) (xv:=.string ⟨m.toArray⟩) (new:=bytV m) (.inl hx2.und) hlen (λw' _=>qjT m w') hc;obtain⟨w',r1,r2,r3,r4,r5,r6,r7⟩:=qce (P:=C.P) (b:=b) (off:=0+l.length * 1) (t:=el) (fr:=(0,0)) (bytV m) 0 w zs hz1 (by rw[qbG];omega) (λj _ _=>by simp) (qmu m);rw[hrun];simp only[add_mk,r1,zRO,zRP]
  have hx':(zs.take (0+l.length * 1+0)++bytV m++zs.drop (0+l.length * 1+0+(bytV m).length)).length=zs.length:=by
   simp only[zLa,List.length_take,List.length_drop,qbG];omega
  have hfin:=qeT (v:=.slice (some ⟨b,0,none⟩) (l.length+m.length) zs.length) (lv:=.atom (.slice (some ⟨b,0,none⟩) (l.length+m.length) zs.length)) (K:=K) (cs':=(zs.take (0+l.length * 1+0)++bytV m++zs.drop (0+l.length * 1+0+(bytV m).length)).map .atom) hH r2 r3 r4 r5 r6 r7 (by rw[hx',zLm]) (qa4 _) qaj (by
   have hb:BRow el (.slice (some ⟨b,0,none⟩) (l++m).length (zs.take (0+l.length * 1+0)++bytV m++zs.drop (0+l.length * 1+0+(bytV m).length)).length) (l++m) _:=BRow.row (b:=b) (el:=el) (by simp[hne]) (by rw[hx',zLa];exact hc) (by
    have he:0+l.length * 1+0=l.length:=by omega
    rw[he,h2,<-qiZ,take_left' (qbG _)])
   rw[hx',zLa] at hb
   exact hk _ _ hb)
  exact hfin
  have hold:∀ w':World,w'.heap=w.heap->(Builtin.firstCells 1 l.length (.slice (some ⟨b,0,none⟩) l.length zs.length)).run C.P w'=.ok (bytV l).toArray w':=λw' hw=>by
   have:=qbz (P:=C.P) (w:=w') (b:=b) (off:=0) l.length 0 #[] (bytV l) (qbG l) (λj x' hj=>by
    have hj':zs[j]? = some x':=by
     rw[<-h2,List.getElem?_take] at hj;split at hj;exact hj;cases hj
    simp[World.cell?,hw,hz1,hj'])
   simp only[Builtin.firstCells,loadCells,mul_one,this]
   simp
  obtain⟨cap',rest,r1,r2,r3⟩:=qbx (ty:=ty) (P:=C.P) (w:=w) (sT:=sT) (xT:=xT) (a:=some ⟨b,0,none⟩) (len:=l.length) (cap:=zs.length) (n:=m.length) (xv:=.string ⟨m.toArray⟩) (old:=bytV l) (new:=bytV m) (.inl hx2.und) hlen (λw' _=>qjT m w') hold hroom zo;rw[r3];simp only[zRO,zRP];have hcl:(bytV l++bytV m++rest).length=cap':=by rw[zLa,zLa,r2,qbG,qbG];omega
  have hH0:RelH C w L []:=hH.sub (nil_sublist _);obtain⟨lv,H',L',g1,g2,g3,g4⟩:=qgX (K:=K) (el:=el) (l:=l++m) (xs:=bytV l++bytV m++rest) hH0.drew (by simp[hne]) (by rw[hcl,zLa];omega) (by rw[<-qiZ,take_left' (qbG _)]) (λv' H' h'=>hk v' H' h');rw[hcl,zLa] at g3;exact⟨lv,H',L',g1.of_drew.wide (by simp),g2,g3,g4⟩
theorem S.appB1{el:Nat} [ht:TSlice C.P sT el 1] [hr:TRow C.P el 1 bytes] [hx2:TStr C.P xT]{m:List UInt8}{q:Nat×LObj}
  (hx:e.ev x=.atom v) (ha:BRow el v l H1) (hy:e.ev y=str m) (hroom:(l.length+m.length) * bytes<=140737488355328)
  (hk:∀ v' H',BRow el v' (l++m) H'->K (.atom v') (q::H')):qae C ⟨dst,.call { callee:=.builtin .append,args:=#[x,y],argTypes:=#[sT,xT] },ty,pos,aft,g⟩ e (q::H1) K X:=by
 refine qae.conseq (K:=λlv H'=>∃ v' H2,lv=.atom v'/\H'=H2++[q]/\BRow el v' (l++m) H2) (qae.frame (List.perm_append_singleton _ _).symm (qae.appB hx ha hy hroom λv' H' h=>⟨v',H',rfl,rfl,h⟩)) ?_;rintro lv H' ⟨v',H2,rfl,rfl,h⟩;exact⟨_,[q]++H2,vR _,⟨[],by simp⟩,hk _ _ h⟩
end
structure SetMap(es:Array MapEntry)(p:List UInt8->Bool):Prop where
 keys:∀ e∈es.toList,∃ s:List UInt8,e.key=.string ⟨s.toArray⟩/\e.val=.bool true/\p s=true
 all:∀ s,p s=true->∃ e∈es.toList,e.key=.string ⟨s.toArray⟩
theorem SetMap.nil:SetMap #[] λ_=>false:=⟨λe he=>by simp at he,λs h=>by cases h⟩
theorem qdo(a b:List UInt8):((⟨a.toArray⟩:ByteArray) == ⟨b.toArray⟩)=decide (a=b):=by
 show(a.toArray == b.toArray)=_;rw[Bool.eq_iff_iff]
 simp
theorem qhJ(k:List UInt8):∀ (es:List MapEntry) (i:Nat),(∀ e∈es,∃ s:List UInt8,e.key=.string ⟨s.toArray⟩/\e.val=.bool true)->(∃ e∈es,e.key=.string ⟨k.toArray⟩) ->
  ∃ (j:Nat) (e:MapEntry),Instr.findNow .string (.string ⟨k.toArray⟩) es i=some (some (i+j,.bool true))/\es[j]? = some e/\e.key=.string ⟨k.toArray⟩
 |[],_,_,h=>by obtain⟨e,he,_⟩:=h;cases he
 |e::es,i,h,hk=>by
  obtain⟨s,h1,h2⟩:=h e mem_cons_self
  by_cases hs:k=s
  refine⟨0,e,?_,rfl,by rw[h1,hs]⟩;have hb:((⟨k.toArray⟩:ByteArray) == ⟨s.toArray⟩)=true:=by rw[qdo,decide_eq_true hs]
  simp only[Instr.findNow,h1,Instr.sameNow,hb,h2,Nat.add_zero];have hb:((⟨k.toArray⟩:ByteArray) == ⟨s.toArray⟩)=false:=by rw[qdo,decide_eq_false hs]
  obtain⟨e',he',hk'⟩:=hk
  have hin:e'∈es:=by
   rcases zMi.1 he' with rfl|h3;rw[h1] at hk';have:s=k:=by simpa using hk'
   exact absurd this.symm hs;exact h3
  obtain⟨j,e2,g1,g2,g3⟩:=qhJ k es (i+1) (λx hx=>h x (zMo _ hx)) ⟨e',hin,hk'⟩;refine⟨j+1,e2,?_,g2,g3⟩;simp only[Instr.findNow,h1,Instr.sameNow,hb];rw[g1];congr 3;omega
section
variable{C:Ctx}{e:Env}{H:Heap}{dst:Option Nat}{ty:TypeId}{pos:String}{aft:Array Edge}{g:Option (Nat×Bool)}{K:LV->Heap->Prop}{X:List PanicEntry->Heap->Prop}{x y:Operand}
theorem qb5(hkt:C.P.underlying kt=some .string)(b:Bool)(k:ByteArray):(Instr.checkKey b 10000 kt (.string k)).run C.P w=.ok () w:=by
 have hck:Instr.checkKey b 10000 kt (.string k)=Instr.checkKey b (9999+1) kt (.string k):=rfl;rw[hck,Instr.checkKey];simp only[zRB,qaa hkt,zRO,zRP]
theorem S.setAdd(ht:C.P.underlying t=some (.map kt el))(hkt:C.P.underlying kt=some .string){es:Array MapEntry}{p:List UInt8->Bool}{m z:Operand}(hm:e.ev m=.atom (.map (some b)))(hx:e.ev x=str k)(hz:e.ev z=bool true)
  (hp:Pick (b,.obj (.map es clock)) H F) (hs:SetMap es p) (hk:∀ es' clock',SetMap es' (λs=>p s || decide (s=k))->K (.atom undef) ((b,.obj (.map es' clock'))::F)):qae C ⟨dst,.insert t m x z,ty,pos,aft,g⟩ e H K X:=by
 by_cases hin:p k=true
 ·refine qae.at1 hp λρ w L h hH=>?_;obtain⟨hb0,hbs,hl,hx1,hx2⟩:=hH.objs _ (List.mem_singleton.2 rfl);simp only at hb0 hbs hl hx1 hx2;have h3:execOp ρ ⟨dst,.insert t m x z,ty,pos,aft,g⟩=(do Instr.mapUpdate t (ρ m) (ρ x) (ρ z);Pure.pure .skip):=rfl;obtain⟨j,e2,g1,g2,g3⟩:=qhJ k es.toList 0 (λe he=>by obtain⟨s,h1,h2,_⟩:=hs.keys e he;exact⟨s,h1,h2⟩) (hs.all k hin)
  have hf:(Instr.findKey kt (.string ⟨k.toArray⟩) es.toList).run C.P w=.ok (some (0+j,.bool true)) w:=by
   simp only[Instr.findKey,zRB,qaa hkt,zRO,g1,zRP]
  have hg:(getObj b).run C.P w=.ok (.map es clock) w:=by simp only[getObj,Sem.run,hx1]
  have hg2:es[j]? = some e2:=by simpa using g2
  have hst:(Instr.keyThatStays (((es[0+j]?).map (·.key)).getD (.string ⟨k.toArray⟩)) (.string ⟨k.toArray⟩)).run C.P w=.ok (.string ⟨k.toArray⟩) w:=by
   rw[zero_add,hg2];simp only[map_some,getD_some,g3];unfold Instr.keyThatStays;rw[zp (by simp only[Instr.sameBits];rw[qdo];simp)]
   try rfl
  rw[h3,qaf h hm,qaf h hx,qaf h hz];simp only[Instr.mapUpdate,zRB,qaa ht,zRO,hg,qb5 hkt,hf,hst];have hset:∀ o',(setObj b o').run C.P w=.ok () (setW w b o'):=λo'=>qeO hx1 rfl;rw[hset];refine qhv (w':=setW w b _) hH rfl rfl rfl rfl (by simp[setW]) (λc hc=>qdX hc) (qeJ hbs) (λ_=>qaj) (hk _ clock ⟨λe' he'=>?_,λs hs'=>?_⟩);rw[zero_add] at he';obtain⟨i,hi,rfl⟩:=List.mem_iff_getElem.1 he';simp only[Array.length_toList,Array.size_modify] at hi;rw[Array.getElem_toList,Array.getElem_modify];split;exact⟨k,rfl,rfl,by simp⟩;obtain⟨s,h1,h2,h4⟩:=hs.keys es[i] (by simp);exact⟨s,h1,h2,by simp[h4]⟩
  have hps:p s=true:=by
   rcases Bool.or_eq_true_iff.1 hs' with h4|h4;exact h4;rw[zt h4];exact hin
  obtain⟨e3,h5,h6⟩:=hs.all s hps;obtain⟨i,hi,rfl⟩:=List.mem_iff_getElem.1 h5;simp only[Array.length_toList] at hi;rw[Array.getElem_toList] at h6;rw[zero_add]
  by_cases hij:j=i
  refine⟨{ es[i] with key:=.string ⟨k.toArray⟩,val:=.bool true },?_,?_⟩;rw[List.mem_iff_getElem];refine⟨i,by simpa using hi,?_⟩;rw[Array.getElem_toList,Array.getElem_modify,zp hij];subst hij;rw[Array.getElem?_eq_getElem hi] at hg2;obtain rfl:=Option.some.inj hg2;rw[g3] at h6;exact h6;refine⟨es[i],?_,h6⟩;rw[List.mem_iff_getElem];refine⟨i,by simpa using hi,?_⟩;rw[Array.getElem_toList,Array.getElem_modify,zn hij]
 refine S.insert ht hkt hm hx hz hp (λe he=>?_) (hk _ _ ⟨λe' he'=>?_,λs hs'=>?_⟩);obtain⟨s,h1,_,h2⟩:=hs.keys e he;refine⟨_,h1,?_⟩;rw[qdo];intro h3;rw[zt h3] at hin;exact hin h2;rw[Array.toList_push] at he';rcases List.mem_append.1 he' with h1|h1;obtain⟨s,h2,h3,h4⟩:=hs.keys e' h1;exact⟨s,h2,h3,by simp[h4]⟩;obtain rfl:=List.mem_singleton.1 h1;exact⟨k,rfl,rfl,by simp⟩;rw[Array.toList_push];rcases Bool.or_eq_true_iff.1 hs' with h4|h4;obtain⟨e,h5,h6⟩:=hs.all s h4;exact⟨e,List.mem_append_left _ h5,h6⟩;exact⟨_,List.mem_append_right _ (List.mem_singleton.2 rfl),by rw[zt h4]⟩
theorem Pure.setGet(ht:C.P.underlying t=some (.map kt el))(hkt:C.P.underlying kt=some .string)(hz:∀ w,(zeroValue el).run C.P w=.ok (.bool false) w){es:Array MapEntry}{p:List UInt8->Bool}(hm:e.ev x=.atom (.map (some b)))(hx:e.ev y=str k)
  (hb:(b,.obj (.map es clock))∈H) (hs:SetMap es p):Pure C ⟨dst,.lookup t x y false,ty,pos,aft,g⟩ e H (bool (p k)):=λρ w L h hH=>by
 obtain⟨_,_,_,hx1,_⟩:=hH.objs _ hb;simp only at hx1;refine⟨.bool (p k),qaj,λw' ha=>?_⟩;have hw:w'.heap[b]? = some (.map es clock):=(ha.1 _ hb).trans hx1;have h3:execOp ρ ⟨dst,.lookup t x y false,ty,pos,aft,g⟩=(do Pure.pure (.value (<-Instr.lookup t (ρ x) (ρ y) false))):=rfl;have hg:(getObj b).run C.P w'=.ok (.map es clock) w':=by simp only[getObj,Sem.run,hw]
 rw[h3,qaf h hm,qaf h hx]
 by_cases hin:p k=true
 obtain⟨j,e2,g1,g2,g3⟩:=qhJ k es.toList 0 (λe he=>by obtain⟨s,h1,h2,_⟩:=hs.keys e he;exact⟨s,h1,h2⟩) (hs.all k hin)
 have hf:(Instr.findKey kt (.string ⟨k.toArray⟩) es.toList).run C.P w'=.ok (some (0+j,.bool true)) w':=by
  simp only[Instr.findKey,zRB,qaa hkt,zRO,g1,zRP]
 simp only[Instr.lookup,zRB,qaa ht,zRO,hg,zRP,qb5 hkt,hf,hin];rfl
 have hf:(Instr.findKey kt (.string ⟨k.toArray⟩) es.toList).run C.P w'=.ok none w':=by
  have hmiss:=qgy ⟨k.toArray⟩ es.toList 0 λe he=>by
   obtain⟨s,h1,_,h2⟩:=hs.keys e he;refine⟨_,h1,?_⟩;rw[qdo];intro h3;rw[zt h3] at hin;exact hin h2
  simp only[Instr.findKey,zRB,qaa hkt,zRO,hmiss,zRP]
 have hin':p k=false:=Bool.eq_false_iff.2 hin;simp only[Instr.lookup,zRB,qaa ht,zRO,hg,zRP,qb5 hkt,hf,hz,hin'];rfl
end
section
variable{C:Ctx}{e:Env}{H:Heap}{dst:Option Nat}{ty:TypeId}{pos:String}{aft:Array Edge}{g:Option (Nat×Bool)}{K:LV->Heap->Prop}{X:List PanicEntry->Heap->Prop}{x y:Operand}
theorem Pure.nilGet(ht:C.P.underlying t=some (.map kt el))(hkt:C.P.underlying kt=some .string)(hz:∀ w,(zeroValue el).run C.P w=.ok (.int .i64 0) w)(hm:e.ev x=.atom (.map none))(hx:e.ev y=str k):Pure C ⟨dst,.lookup t x y false,ty,pos,aft,g⟩ e H (int .i64 0):=λρ w L h hH=>by
 refine⟨.int .i64 0,qaj,λw' ha=>?_⟩;have h3:execOp ρ ⟨dst,.lookup t x y false,ty,pos,aft,g⟩=(do Pure.pure (.value (<-Instr.lookup t (ρ x) (ρ y) false))):=rfl;rw[h3,qaf h hm,qaf h hx]
 have hf:(Instr.findKey kt (.string ⟨k.toArray⟩) []).run C.P w'=.ok none w':=by
  simp only[Instr.findKey,zRB,qaa hkt,zRO,Instr.findNow,zRP]
 simp only[Instr.lookup,zRB,qaa ht,zRO,zRP,qb5 hkt,hf,hz];rfl
end
section
variable{C:Ctx}{e:Env}{H:Heap}{x y:Operand}{dst:Option Nat}{ty:TypeId}{pos:String}{aft:Array Edge}{g:Option (Nat×Bool)}{K:LV->Heap->Prop}{X:List PanicEntry->Heap->Prop}
theorem qae.appBL{el:Nat} [ht:TSlice C.P sT el 1] [hr:TRow C.P el 1 bytes]{e2:Nat} [hx2:TSlice C.P xT e2 1]{m:List UInt8}
  (hx:e.ev x=.atom v) (ha:BRow el v l H) (hy:GL.elems (e.ev y)=some (byts m)) (hm0:m≠[]) (hroom:(l.length+m.length) * bytes<=140737488355328)
  (hk:∀ v' H',BRow el v' (l++m) H'->K (.atom v') H'):qae C ⟨dst,.call { callee:=.builtin .append,args:=#[x,y],argTypes:=#[sT,xT] },ty,pos,aft,g⟩ e H K X:=by
 have h0:∀ (cs:Array Bool) (args:Array Value),builtin .append #[sT,xT] ty cs args=(do Pure.pure (.value (<-Builtin.append_ #[sT,xT] ty args))):=λ_ _=>rfl
 cases ha with
 |nil=>
  by_cases hne:m=[]
  subst hne;exact absurd rfl hm0;intro ρ w L h hH;have hpos:0<m.length:=List.length_pos_iff.2 hne;obtain⟨ay,cy,xs0,hyv,hyc,hyr,hyl,hyf⟩:=qcK (s:=1) (h y) hy (qmc m);rw[qne] at hyr;have hyx:xs0=bytV m:=qct (zs:=bytV m) (by rw[show(bytV m).map LV.atom=byts m from by simp[bytV,byts,map_map,Function.comp_def]];exact hyr);subst hyx;rw[qiR] at hyv hyc hyf;rw[hyv] at hyf;have hlen:∀ w':World,(Builtin.lenOf (.slice ay m.length cy)).run C.P w'=.ok m.length w':=λw'=>by simp[Builtin.lenOf]
  obtain⟨cap',rest,r1,r2,r3⟩:=qbx (ty:=ty) (P:=C.P) (w:=w) (sT:=sT) (xT:=xT) (a:=none) (len:=0) (cap:=0) (n:=m.length) (xv:=.slice ay m.length cy) (old:=[]) (new:=bytV m) (.inr ⟨_,hx2.und⟩) hlen (λw' hw=>hyf C.P w' hw)
   (λw' _=>by simp[Builtin.firstCells]) (by simpa using hroom) zo
  rw[qax,h0];simp only[map_toArray,zMc,map_nil,zRB,qaf h hx,hyv,r3,zRO,zRP,List.nil_append,zero_add];have hcl:(bytV m++rest).length=cap':=by rw[zLa,r2,qbG];omega
  obtain⟨lv,H',L',g1,g2,g3,g4⟩:=qgX (K:=K) (el:=el) (l:=m) (xs:=bytV m++rest) hH.drew hne (by rw[hcl];omega) (by rw[take_left' (qbG m)]) (λv' H' h'=>hk v' H' h');rw[hcl] at g3
  exact⟨lv,H',L',g1.of_drew,g2,g3,g4⟩
 |row hne h1 h2=>
  rename_i b xs
  intro ρ w L h hH;obtain⟨hb0,hbs,hl,zs,hz1,hz2⟩:=hH.objs _ (List.mem_singleton.2 rfl);have hz:=qct hz2;subst hz;simp only at hb0 hbs hl hz1;obtain⟨ay,cy,xs0,hyv,hyc,hyr,hyl,hyf⟩:=qcK (s:=1) (h y) hy (qmc m);rw[qne] at hyr;have hyx:xs0=bytV m:=qct (zs:=bytV m) (by rw[show(bytV m).map LV.atom=byts m from by simp[bytV,byts,map_map,Function.comp_def]];exact hyr);subst hyx;rw[qiR] at hyv hyc hyf;rw[hyv] at hyf;have hlen:∀ w':World,(Builtin.lenOf (.slice ay m.length cy)).run C.P w'=.ok m.length w':=λw'=>by simp[Builtin.lenOf]
  rw[qax,h0];simp only[map_toArray,zMc,map_nil,zRB,qaf h hx,hyv]
  by_cases hc:l.length+m.length<=zs.length
  have hrun:=qdH (ty:=ty) (P:=C.P) (w:=w) (sT:=sT) (xT:=xT) (s:=1) (a:=some ⟨b,0,none⟩) (len:=l.length) (cap:=zs.length) (n:=m.length) (xv:=.slice ay m.length cy) (new:=bytV m) (.inr ⟨_,hx2.und⟩) hlen (λw' hw=>hyf C.P w' hw) hc;obtain⟨w',r1,r2,r3,r4,r5,r6,r7⟩:=qce (P:=C.P) (b:=b) (off:=0+l.length * 1) (t:=el) (fr:=(0,0)) (bytV m) 0 w zs hz1 (by rw[qbG];omega) (λj _ _=>by simp) (qmu m);rw[hrun];simp only[add_mk,r1,zRO,zRP]
  have hx':(zs.take (0+l.length * 1+0)++bytV m++zs.drop (0+l.length * 1+0+(bytV m).length)).length=zs.length:=by
   simp only[zLa,List.length_take,List.length_drop,qbG];omega
  have hfin:=qeT (v:=.slice (some ⟨b,0,none⟩) (l.length+m.length) zs.length) (lv:=.atom (.slice (some ⟨b,0,none⟩) (l.length+m.length) zs.length)) (K:=K) (cs':=(zs.take (0+l.length * 1+0)++bytV m++zs.drop (0+l.length * 1+0+(bytV m).length)).map .atom) hH r2 r3 r4 r5 r6 r7 (by rw[hx',zLm]) (qa4 _) qaj (by
   have hb:BRow el (.slice (some ⟨b,0,none⟩) (l++m).length (zs.take (0+l.length * 1+0)++bytV m++zs.drop (0+l.length * 1+0+(bytV m).length)).length) (l++m) _:=BRow.row (b:=b) (el:=el) (by simp[hne]) (by rw[hx',zLa];exact hc) (by
    have he:0+l.length * 1+0=l.length:=by omega
    rw[he,h2,<-qiZ,take_left' (qbG _)])
   rw[hx',zLa] at hb
   exact hk _ _ hb)
  exact hfin
  have hold:∀ w':World,w'.heap=w.heap->(Builtin.firstCells 1 l.length (.slice (some ⟨b,0,none⟩) l.length zs.length)).run C.P w'=.ok (bytV l).toArray w':=λw' hw=>by
   have:=qbz (P:=C.P) (w:=w') (b:=b) (off:=0) l.length 0 #[] (bytV l) (qbG l) (λj x' hj=>by
    have hj':zs[j]? = some x':=by
     rw[<-h2,List.getElem?_take] at hj;split at hj;exact hj;cases hj
    simp[World.cell?,hw,hz1,hj'])
   simp only[Builtin.firstCells,loadCells,mul_one,this]
   simp
  obtain⟨cap',rest,r1,r2,r3⟩:=qbx (ty:=ty) (P:=C.P) (w:=w) (sT:=sT) (xT:=xT) (a:=some ⟨b,0,none⟩) (len:=l.length) (cap:=zs.length) (n:=m.length) (xv:=.slice ay m.length cy) (old:=bytV l) (new:=bytV m) (.inr ⟨_,hx2.und⟩) hlen (λw' hw=>hyf C.P w' hw) hold hroom zo;rw[r3];simp only[zRO,zRP];have hcl:(bytV l++bytV m++rest).length=cap':=by rw[zLa,zLa,r2,qbG,qbG];omega
  have hH0:RelH C w L []:=hH.sub (nil_sublist _);obtain⟨lv,H',L',g1,g2,g3,g4⟩:=qgX (K:=K) (el:=el) (l:=l++m) (xs:=bytV l++bytV m++rest) hH0.drew (by simp[hne]) (by rw[hcl,zLa];omega) (by rw[<-qiZ,take_left' (qbG _)]) (λv' H' h'=>hk v' H' h');rw[hcl,zLa] at g3;exact⟨lv,H',L',g1.of_drew.wide (by simp),g2,g3,g4⟩
theorem S.appBL1{el:Nat} [ht:TSlice C.P sT el 1] [hr:TRow C.P el 1 bytes]{e2:Nat} [hx2:TSlice C.P xT e2 1]{m:List UInt8}{q:Nat×LObj}
  (hx:e.ev x=.atom v) (ha:BRow el v l H1) (hy:GL.elems (e.ev y)=some (byts m)) (hm0:m≠[]) (hroom:(l.length+m.length) * bytes<=140737488355328)
  (hk:∀ v' H',BRow el v' (l++m) H'->K (.atom v') (q::H')):qae C ⟨dst,.call { callee:=.builtin .append,args:=#[x,y],argTypes:=#[sT,xT] },ty,pos,aft,g⟩ e (q::H1) K X:=by
 refine qae.conseq (K:=λlv H'=>∃ v' H2,lv=.atom v'/\H'=H2++[q]/\BRow el v' (l++m) H2) (qae.frame (List.perm_append_singleton _ _).symm (qae.appBL hx ha hy hm0 hroom λv' H' h=>⟨v',H',rfl,rfl,h⟩)) ?_;rintro lv H' ⟨v',H2,rfl,rfl,h⟩;exact⟨_,[q]++H2,vR _,⟨[],by simp⟩,hk _ _ h⟩
theorem Pure.blen{t el el2 s:Nat} [TSlice C.P t el2 s]{Hv:Heap}(hx:e.ev x=.atom v)(ha:BRow el v l Hv):Pure C ⟨dst,.call { callee:=.builtin .len,args:=#[x],argTypes:=#[t] },ty,pos,aft,g⟩ e H (int .i64 l.length):=
 .of_any λρ _ _ h=>⟨_,qaj,λw'=>by
  have hu:=qaa (P:=C.P) (TSlice.und (t:=t)) w';rw[qax,qez]
  cases ha <;> simp[Builtin.len_,hu,goInt,qaf h hx]⟩
end
abbrev KV:=List (List UInt8×LV)
variable{m:KV}
@[reducible] def strV(k:List UInt8):Value:=.string ⟨k.toArray⟩
def kvs(m:KV):List (Value×LV):=m.map λp=>(strV p.1,p.2)
def kvGet:KV->List UInt8->Option LV
 |[],_=>none
 |p::r,k=>if p.1=k then some p.2 else kvGet r k
def kvPut:KV->List UInt8->LV->KV
 |[],k,v=>[(k,v)]
 |p::r,k,v=>if p.1=k then (k,v)::r else p::kvPut r k v
theorem kvGet_put(k k':List UInt8)(v:LV):∀ m:KV,kvGet (kvPut m k v) k'=if k=k' then some v else kvGet m k'
 |[]=>by simp only[kvPut,kvGet]
 |p::r=>by
  unfold kvPut
  by_cases h:p.1=k
  rw[zp h]
  by_cases h':k=k'
  simp only[kvGet,zp h'];simp only[kvGet,zn h'];rw[zn (by rw[h];exact h')];rw[zn h];simp only[kvGet];rw[kvGet_put k k' v r]
  by_cases h2:p.1=k'
  rw[zp h2,zn (by rw[<-h2];exact λh3=>h h3.symm)];simp only[zp h2];simp only[zn h2]
theorem qnK(k:List UInt8):∀ (m:KV) (es:List MapEntry) (i:Nat),es.map (·.key)=(kvs m).map (·.1) ->
  (kvGet m k=none/\(∀ v,kvPut m k v=m++[(k,v)])/\Instr.findNow .string (strV k) es i=some none) ∨
  ∃ (j:Nat) (e:MapEntry) (v:LV),Instr.findNow .string (strV k) es i=some (some (i+j,e.val))/\es[j]? = some e/\m[j]? = some (k,v)/\kvGet m k=some v/\∀ v',kvPut m k v'=m.set j (k,v')
 |[],[],i,_=>.inl ⟨rfl,λ_=>rfl,rfl⟩
 |[],_::_,_,h=>by cases h
 |_::_,[],_,h=>by cases h
 |p::m,e::es,i,h=>by
  have h1:e.key=strV p.1:=by
   have:=(List.cons.inj h).1;exact this
  have h2:es.map (·.key)=(kvs m).map (·.1):=(List.cons.inj h).2
  by_cases hs:p.1=k
  ·right;have hb:((⟨k.toArray⟩:ByteArray) == ⟨p.1.toArray⟩)=true:=by rw[qdo,decide_eq_true hs.symm]
   refine⟨0,e,p.2,?_,rfl,by rw[<-hs];try rfl,by simp only[kvGet,zp hs],λv'=>by simp only[kvPut,zp hs];rfl⟩;simp only[Instr.findNow,h1,Instr.sameNow,hb,Nat.add_zero]
  have hb:((⟨k.toArray⟩:ByteArray) == ⟨p.1.toArray⟩)=false:=by rw[qdo,decide_eq_false (λh3=>hs h3.symm)]
  rcases qnK k m es (i+1) h2 with⟨g1,g2,g3⟩|⟨j,e2,v,g1,g2,g3,g4,g5⟩;left;refine⟨by simp only[kvGet,zn hs];exact g1,λv=>by simp only[kvPut,zn hs,g2];rfl,?_⟩;simp only[Instr.findNow,h1,Instr.sameNow,hb];exact g3;right;refine⟨j+1,e2,v,?_,g2,g3,by simp only[kvGet,zn hs];exact g4,λv'=>by simp only[kvPut,zn hs,g5];rfl⟩;simp only[Instr.findNow,h1,Instr.sameNow,hb];rw[g1];congr 3;omega
theorem RepL.setAt{w:World}{L:Live}:∀ {cs:List LV} {xs:List Value},RepL w L cs xs->∀ (j:Nat) {c:LV} {x:Value},Rep w L c x->RepL w L (cs.set j c) (xs.set j x)
 |[],xs,h,j,c,x,hr=>by
  simp only[RepL] at h;subst h
  simp only[List.set_nil,RepL]
 |d::cs,xs,h,j,c,x,hr=>by
  simp only[RepL] at h;obtain⟨y,ys,rfl,h1,h2⟩:=h
  cases j with
  |zero=>
   simp only[List.set_cons_zero,RepL]
   exact⟨x,ys,rfl,hr,h2⟩
  |succ j=>
   simp only[List.set_cons_succ,RepL];exact⟨y,_,rfl,h1,h2.setAt j hr⟩
section
variable{C:Ctx}{e:Env}{H:Heap}{dst:Option Nat}{ty:TypeId}{pos:String}{aft:Array Edge}{g:Option (Nat×Bool)}{K:LV->Heap->Prop}{X:List PanicEntry->Heap->Prop}{x y:Operand}
theorem qoU{w':World}{L:Live}{clock':Nat}{es es':List (Value×LV)}(hH:RelH C w L [(b,.map es clock)])(h1:w'.os=w.os)(h2:w'.tape=w.tape)(h3:w'.output=w.output)
  (h4:w'.heap.size=w.heap.size) (h5:∀ c,c≠b->w'.heap[c]? = w.heap[c]?) (avs:List MapEntry) (h6:w'.heap[b]? = some (.map avs.toArray clock')) (h7:avs.map (·.key)=es'.map (·.1)) (h8:RepL w L (es'.map (·.2)) (avs.map (·.val)))
  (h9:∀ e∈avs,e.born<clock') (h10:(avs.map (·.born)).Nodup) {v:Value} {lv:LV} (hv:∀ L,Rep w' L lv v) (hk:K lv [(b,.map es' clock')]):Left C w L [(b,.map es clock)] w' v K:=by
 obtain⟨hb0,hbs,hl,xs,hx1,_⟩:=hH.objs _ (List.mem_singleton.2 rfl);simp only at hb0 hbs hl hx1
 have hx:Ext w L w' L:=by
  refine⟨by rw[h4];exact zNr _,λc hc=>?_,λc i hi=>?_,λ_=>zNr _⟩
  by_cases he:c=b
  subst he;rw[qdY hx1 rfl];exact qdY h6 rfl;exact qbL (h5 c he)
  by_cases he:c=b
  subst he;rw[hl] at hi;omega;exact cell_of_heap (h5 c he) i
 refine⟨lv,[(b,.map es' clock')],L,⟨h1,h2,h3,hx,λc hc hn=>h5 c (by simpa using hn),λ_ _ _=>rfl,λp hp=>.inl (by simp only[mem_singleton] at hp;subst hp;simp)⟩,
  ⟨?_,hH.lbase,by rw[h4];exact hH.b0,by rw[h4];exact hH.wf,by simp,λp hp=>?_⟩,hv L,hk⟩
 exact hH.base.trans ⟨h1,h2,h3,by rw[h4];exact zNr _,λc hc=>h5 c zo⟩;simp only[mem_singleton] at hp;subst hp;exact⟨hb0,by rw[h4];exact hbs,hl,avs,h6,h7,RepL.mono hx _ _ h8,h9,h10⟩
theorem S.kvNew(hk:∀ b,K (.atom (.map (some b))) ((b,.map (kvs []) 0)::H)):qae C ⟨dst,.makeMap t none,ty,pos,aft,g⟩ e H K X:=by
 refine qae.at0 λρ w L _ hH=>?_;have h3:execOp ρ ⟨dst,.makeMap t none,ty,pos,aft,g⟩=(do Pure.pure (.value (<-Instr.makeMap t none))):=rfl;have h4:(Instr.makeMap t none).run C.P w=.ok (.map (some w.heap.size)) (World.push w (.map #[] 0)):=rfl;rw[h3,zRB,h4]
 have:=qeA hH (.map #[] 0) 0 [(w.heap.size,.map (kvs []) 0)] (λp hp=>by
  simp only[mem_singleton] at hp;subst hp;refine⟨rfl,by simp[Live.upd],[],qaE,rfl,?_,(λe he=>by cases he),List.nodup_nil⟩;show RepL _ _ [] []
  simp only[RepL]) (by simp)
 exact⟨_,_,_,this.1,this.2,qaj,hk _⟩
theorem S.kvPut{t kt el:TypeId}(ht:C.P.underlying t=some (.map kt el))(hkt:C.P.underlying kt=some .string){b clock:Nat}{m:KV}{F:Heap}{mo z:Operand}{k:List UInt8}{lv:LV}(hm:e.ev mo=.atom (.map (some b)))(hx:e.ev x=str k)(hz:e.ev z=lv)
  (hp:Pick (b,.map (kvs m) clock) H F) (hk:∀ clock',K (.atom undef) ((b,.map (kvs (GL.kvPut m k lv)) clock')::F)):qae C ⟨dst,.mapUpdate t mo x z,ty,pos,aft,g⟩ e H K X:=by
 refine qae.at1 hp λρ w L h hH=>?_;obtain⟨hb0,hbs,hl,avs,hx1,hx2,hx3,hx4,hx5⟩:=hH.objs _ (List.mem_singleton.2 rfl);simp only at hb0 hbs hl hx1 hx2 hx3;have hrz:Rep w L lv (ρ z):=hz▸h z;have h3:execOp ρ ⟨dst,.mapUpdate t mo x z,ty,pos,aft,g⟩=(do Instr.mapUpdate t (ρ mo) (ρ x) (ρ z);Pure.pure .skip):=rfl;have hg:(getObj b).run C.P w=.ok (.map avs.toArray clock) w:=by simp only[getObj,Sem.run,hx1]
 have hset:∀ o',(setObj b o').run C.P w=.ok () (setW w b o'):=λo'=>qeO hx1 rfl;rw[h3,qaf h hm,qaf h hx];rcases qnK k m avs 0 hx2 with⟨g1,g2,g3⟩|⟨j,e2,v,g1,g2,g3,g4,g5⟩
 ·have hf:(Instr.findKey kt (strV k) avs.toArray.toList).run C.P w=.ok none w:=by
   simp only[Instr.findKey,zRB,qaa hkt,zRO,g3,zRP]
  simp only[Instr.mapUpdate,zRB,qaa ht,zRO,hg,qb5 hkt,hf];rw[hset];refine qoU (w':=setW w b _) hH rfl rfl rfl (by simp[setW]) (λc hc=>qdX hc) (avs++[⟨strV k,ρ z,clock⟩]) (clock':=clock+1) ((qeJ hbs).trans (by simp)) (es':=kvs (GL.kvPut m k lv)) ?_ ?_ ?_ ?_ (λ_=>qaj) (hk _)
  ·rw[g2,kvs,zMa,zMa,zMa,<-kvs,hx2]
   try rfl
  rw[g2,kvs,zMa,zMa,zMa,<-kvs];refine RepL.append hx3 ?_;simp only[zMc,map_nil,RepL];exact⟨_,_,rfl,hrz,rfl⟩;intro e' he';rcases List.mem_append.1 he' with h1|h1;exact Nat.lt_succ_of_lt (hx4 e' h1);obtain rfl:=List.mem_singleton.1 h1;exact Nat.lt_succ_self _;rw[zMa,List.nodup_append];refine⟨hx5,by simp,λa ha b' hb' he=>?_⟩;obtain⟨e',h1,rfl⟩:=List.mem_map.1 ha;simp only[zMc,map_nil,mem_singleton] at hb';have:=hx4 e' h1;omega
 have hf:(Instr.findKey kt (strV k) avs.toArray.toList).run C.P w=.ok (some (0+j,e2.val)) w:=by
  simp only[Instr.findKey,zRB,qaa hkt,zRO,g1,zRP]
 have hkey:e2.key=strV k:=by
  have h1:(avs.map (·.key))[j]? = some e2.key:=by rw[List.getElem?_map,g2];try rfl
  rw[hx2,kvs,map_map,List.getElem?_map,g3] at h1;exact(Option.some.inj h1).symm
 have hst:(Instr.keyThatStays (((avs.toArray[0+j]?).map (·.key)).getD (strV k)) (strV k)).run C.P w=.ok (strV k) w:=by
  rw[zero_add,List.getElem?_toArray,g2];simp only[map_some,getD_some,hkey];unfold Instr.keyThatStays;rw[zp (by simp only[Instr.sameBits];rw[qdo];simp)]
  try rfl
 simp only[Instr.mapUpdate,zRB,qaa ht,zRO,hg,qb5 hkt,hf,hst];rw[hset]
 have hmod:avs.toArray.modify (0+j) (λe=>{ e with key:=strV k,val:=ρ z })=(avs.set j { e2 with key:=strV k,val:=ρ z }).toArray:=by
  rw[zero_add];apply Array.ext';simp only[Array.toList_modify];refine List.ext_getElem? λi=>?_;rw[List.getElem?_modify,List.getElem?_set]
  by_cases hi:j=i
  subst hi;have hlt:j<avs.length:=(List.getElem?_eq_some_iff.1 g2).1;rw[zp rfl,g2,zp hlt];show some _=_
  simp
  rw[zn hi]
  cases avs[i]? with
  |none=>rfl
  |some a=>
   show some _=_;simp[hi]
 refine qoU (w':=setW w b _) hH rfl rfl rfl (by simp[setW]) (λc hc=>qdX hc) (avs.set j { e2 with key:=strV k,val:=ρ z }) ((qeJ hbs).trans (by rw[hmod])) (es':=kvs (GL.kvPut m k lv)) ?_ ?_ ?_ ?_ (λ_=>qaj) (hk _)
 ·rw[g5,kvs,map_set,map_set,map_set,hx2]
  try rfl
 rw[g5,kvs,map_set,map_set,map_set];exact RepL.setAt hx3 j hrz;intro e' he';rcases List.mem_or_eq_of_mem_set he' with h1|h1;exact hx4 e' h1;rw[h1];exact hx4 e2 (List.mem_of_getElem? g2);rw[map_set]
 have:(avs.map (·.born)).set j e2.born=avs.map (·.born):=by
  refine List.ext_getElem? λi=>?_;rw[List.getElem?_set];split
  ·rename_i h1
   subst h1;split
   ·rw[List.getElem?_map,g2];try rfl
   rename_i h2
   rw[List.getElem?_eq_none zo]
  rfl
 rw[this];exact hx5
theorem qrX(ht:C.P.underlying t=some (.map kt el))(hkt:C.P.underlying kt=some .string)(hz:∀ w,(zeroValue el).run C.P w=.ok zv w)(hzl:∀ w L,Rep w L zl zv)
  (hH:RelH C w L H) (hb:(b,.map (kvs m) clock)∈H):∃ v,Rep w L ((kvGet m k).getD zl) v/\∀ w',qe7 w L H w'->∀ c,(Instr.lookup t (.map (some b)) (strV k) c).run C.P w'=.ok (if c=true then .tuple #[v,.bool (kvGet m k).isSome] else v) w':=by
 obtain⟨_,_,_,avs,hx1,hx2,hx3,_⟩:=hH.objs _ hb;simp only at hx1;rcases qnK k m avs 0 hx2 with⟨g1,g2,g3⟩|⟨j,e2,v,g1,g2,g3,g4,g5⟩;refine⟨zv,by rw[g1];exact hzl w L,λw' ha c=>?_⟩;have hw:w'.heap[b]? = some (.map avs.toArray clock):=(ha.1 _ hb).trans hx1;have hg:(getObj b).run C.P w'=.ok (.map avs.toArray clock) w':=by simp only[getObj,Sem.run,hw]
 have hf:(Instr.findKey kt (strV k) avs.toArray.toList).run C.P w'=.ok none w':=by
  simp only[Instr.findKey,zRB,qaa hkt,zRO,g3,zRP]
 simp only[Instr.lookup,zRB,qaa ht,zRO,hg,zRP,qb5 hkt,hf,hz,g1];rfl;refine⟨e2.val,?_,λw' ha c=>?_⟩
 ·rw[g4];obtain⟨x,h1,h2⟩:=hx3.get (i:=j) (c:=v) (by rw[kvs,map_map,List.getElem?_map,g3];try rfl);rw[List.getElem?_map,g2] at h1;obtain rfl:=Option.some.inj h1;exact h2
 have hw:w'.heap[b]? = some (.map avs.toArray clock):=(ha.1 _ hb).trans hx1;have hg:(getObj b).run C.P w'=.ok (.map avs.toArray clock) w':=by simp only[getObj,Sem.run,hw]
 have hf:(Instr.findKey kt (strV k) avs.toArray.toList).run C.P w'=.ok (some (0+j,e2.val)) w':=by
  simp only[Instr.findKey,zRB,qaa hkt,zRO,g1,zRP]
 simp only[Instr.lookup,zRB,qaa ht,zRO,hg,zRP,qb5 hkt,hf,g4];rfl
theorem Pure.kvGet{t kt el:TypeId}(ht:C.P.underlying t=some (.map kt el))(hkt:C.P.underlying kt=some .string){zv:Value}{zl:LV}(hz:∀ w,(zeroValue el).run C.P w=.ok zv w)(hzl:∀ w L,Rep w L zl zv){b clock:Nat}{m:KV}{k:List UInt8}(hm:e.ev x=.atom (.map (some b)))(hx:e.ev y=str k)
  (hb:(b,.map (kvs m) clock)∈H):Pure C ⟨dst,.lookup t x y false,ty,pos,aft,g⟩ e H ((GL.kvGet m k).getD zl):=λρ w L h hH=>by
 obtain⟨v,h1,h2⟩:=qrX ht hkt hz hzl (k:=k) hH hb;refine⟨v,h1,λw' ha=>?_⟩;have h3:execOp ρ ⟨dst,.lookup t x y false,ty,pos,aft,g⟩=(do Pure.pure (.value (<-Instr.lookup t (ρ x) (ρ y) false))):=rfl;rw[h3,qaf h hm,qaf h hx,zRB,h2 w' ha false]
 try rfl
theorem Pure.kvGet2(ht:C.P.underlying t=some (.map kt el))(hkt:C.P.underlying kt=some .string)(hz:∀ w,(zeroValue el).run C.P w=.ok zv w)(hzl:∀ w L,Rep w L zl zv)(hm:e.ev x=.atom (.map (some b)))(hx:e.ev y=str k)
  (hb:(b,.map (kvs m) clock)∈H):Pure C ⟨dst,.lookup t x y true,ty,pos,aft,g⟩ e H (.tuple [(GL.kvGet m k).getD zl,bool (GL.kvGet m k).isSome]):=λρ w L h hH=>by
 obtain⟨v,h1,h2⟩:=qrX ht hkt hz hzl (k:=k) hH hb;refine⟨.tuple #[v,.bool (GL.kvGet m k).isSome],?_,λw' ha=>?_⟩;simp only[Rep];refine⟨[v,.bool (GL.kvGet m k).isSome],rfl,?_⟩;simp only[RepL];exact⟨_,_,rfl,h1,_,_,rfl,rfl,rfl⟩;have h3:execOp ρ ⟨dst,.lookup t x y true,ty,pos,aft,g⟩=(do Pure.pure (.value (<-Instr.lookup t (ρ x) (ρ y) true))):=rfl;rw[h3,qaf h hm,qaf h hx,zRB,h2 w' ha true]
 try rfl
end
class TMap (P:Program) (t:TypeId) (el:outParam TypeId) (zv:outParam Value) (zl:outParam LV):Prop where
 und:∃ kt,P.underlying t=some (.map kt el)/\P.underlying kt=some .string
 zero:∀ w,(zeroValue el).run P w=.ok zv w
 rep:∀ w L,Rep w L zl zv
theorem quZ(w:World)(L:Live)(zs:List Value):Rep w L (.agg (zs.map .atom)) (.agg zs.toArray):=by
 simp only[Rep];exact⟨zs,rfl,qa4 zs⟩
section
variable{C:Ctx}{e:Env}{H:Heap}{dst:Option Nat}{ty:TypeId}{pos:String}{aft:Array Edge}{g:Option (Nat×Bool)}{K:LV->Heap->Prop}{X:List PanicEntry->Heap->Prop}{x y:Operand}
theorem Pure.kvHit [h:TMap C.P t el zv zl](hm:e.ev x=.atom (.map (some b)))(hx:e.ev y=str k)(hb:(b,.map (kvs m) clock)∈H)(hg:GL.kvGet m k=some lv) :
  Pure C ⟨dst,.lookup t x y false,ty,pos,aft,g⟩ e H lv:=by
 obtain⟨kt,h1,h2⟩:=h.und;have:=Pure.kvGet (dst:=dst) (ty:=ty) (pos:=pos) (aft:=aft) (g:=g) h1 h2 h.zero h.rep hm hx hb
 rwa [hg] at this
theorem Pure.kvMiss [h:TMap C.P t el zv zl](hm:e.ev x=.atom (.map (some b)))(hx:e.ev y=str k)(hb:(b,.map (kvs m) clock)∈H)(hg:GL.kvGet m k=none) :
  Pure C ⟨dst,.lookup t x y false,ty,pos,aft,g⟩ e H zl:=by
 obtain⟨kt,h1,h2⟩:=h.und;have:=Pure.kvGet (dst:=dst) (ty:=ty) (pos:=pos) (aft:=aft) (g:=g) h1 h2 h.zero h.rep hm hx hb
 rwa [hg] at this
theorem Pure.kvHit2 [h:TMap C.P t el zv zl](hm:e.ev x=.atom (.map (some b)))(hx:e.ev y=str k)(hb:(b,.map (kvs m) clock)∈H)(hg:GL.kvGet m k=some lv) :
  Pure C ⟨dst,.lookup t x y true,ty,pos,aft,g⟩ e H (.tuple [lv,bool true]):=by
 obtain⟨kt,h1,h2⟩:=h.und;have:=Pure.kvGet2 (dst:=dst) (ty:=ty) (pos:=pos) (aft:=aft) (g:=g) h1 h2 h.zero h.rep hm hx hb
 rwa [hg] at this
theorem Pure.kvMiss2 [h:TMap C.P t el zv zl](hm:e.ev x=.atom (.map (some b)))(hx:e.ev y=str k)(hb:(b,.map (kvs m) clock)∈H)(hg:GL.kvGet m k=none) :
  Pure C ⟨dst,.lookup t x y true,ty,pos,aft,g⟩ e H (.tuple [zl,bool false]):=by
 obtain⟨kt,h1,h2⟩:=h.und;have:=Pure.kvGet2 (dst:=dst) (ty:=ty) (pos:=pos) (aft:=aft) (g:=g) h1 h2 h.zero h.rep hm hx hb
 rwa [hg] at this
theorem S.kvSet [h:TMap C.P t el zv zl]{mo z:Operand}(hm:e.ev mo=.atom (.map (some b)))(hx:e.ev x=str k)(hz:e.ev z=lv)
  (hp:Pick (b,.map (kvs m) clock) H F) (hk:∀ clock',K (.atom undef) ((b,.map (kvs (GL.kvPut m k lv)) clock')::F)):qae C ⟨dst,.mapUpdate t mo x z,ty,pos,aft,g⟩ e H K X:=by
 obtain⟨kt,h1,h2⟩:=h.und;exact S.kvPut h1 h2 hm hx hz hp hk
theorem S.kvIns [h:TMap C.P t el zv zl]{mo z:Operand}(hm:e.ev mo=.atom (.map (some b)))(hx:e.ev x=str k)(hz:e.ev z=lv)
  (hp:Pick (b,.map (kvs m) clock) H F) (hk:∀ clock',K (.atom undef) ((b,.map (kvs (GL.kvPut m k lv)) clock')::F)):qae C ⟨dst,.insert t mo x z,ty,pos,aft,g⟩ e H K X:=
 λρ w L h1 h2=>(S.kvSet (dst:=dst) (ty:=ty) (pos:=pos) (aft:=aft) (g:=g) (X:=X) hm hx hz hp hk) ρ w L h1 h2
theorem S.kvInsE [h:TMap C.P t el zv zl]{mo z:Operand}(m':KV)(hm:e.ev mo=.atom (.map (some b)))(hx:e.ev x=str k)(hz:e.ev z=lv)
  (hp:Pick (b,.map (kvs m) clock) H F) (he:GL.kvPut m k lv=m') (hk:∀ clock',K (.atom undef) ((b,.map (kvs m') clock')::F)):qae C ⟨dst,.insert t mo x z,ty,pos,aft,g⟩ e H K X:=
 S.kvIns hm hx hz hp (he▸hk)
theorem qpj{k:List UInt8}{v:LV}:∀ {m:KV},k ∉ m.map (·.1)->GL.kvPut m k v=m++[(k,v)]
 |[],_=>rfl
 |p::r,h=>by
  rw[GL.kvPut,zn (λhe=>h (by rw[zMc];exact zMi.2 (.inl he.symm))),qpj (λhm=>h (by rw[zMc];exact zMo _ hm))]
  try rfl
end
variable{C:Ctx}{dst:Option Nat}{ty:TypeId}{pos:String}{aft:Array Edge}{g:Option (Nat×Bool)}{e:Env}{H:Heap}{K:LV->Heap->Prop}{X:List PanicEntry->Heap->Prop}
theorem S.setPut(ht:C.P.underlying t=some (.map kt el))(hkt:C.P.underlying kt=some .string){es:Array MapEntry}{p:List UInt8->Bool}{m z:Operand}{x:Operand}(hm:e.ev m=.atom (.map (some b)))(hx:e.ev x=str k)(hz:e.ev z=bool true)
  (hp:Pick (b,.obj (.map es clock)) H F) (hs:SetMap es p) (hk:∀ es' clock',SetMap es' (λs=>p s || decide (s=k))->K (.atom undef) ((b,.obj (.map es' clock'))::F)):qae C ⟨dst,.mapUpdate t m x z,ty,pos,aft,g⟩ e H K X:=
 λρ w L h hH=>(S.setAdd (dst:=dst) (ty:=ty) (pos:=pos) (aft:=aft) (g:=g) (X:=X) ht hkt hm hx hz hp hs hk) ρ w L h hH
theorem qt5{fn:Func}{r s t q:ResultVar}(h:fn.results=#[r,s,t,q]){tmps:Array Value}{u x y:Value}(h1:(qbh tmps r).run P w=.ok v w)(h2:(qbh tmps s).run P w=.ok u w)(h3:(qbh tmps t).run P w=.ok x w)(h4:(qbh tmps q).run P w=.ok y w) :
  (results fn tmps).run P w=.ok (.tuple #[v,u,x,y]) w:=by
 have:results fn tmps=(do let v <-qbh tmps r;let u <-qbh tmps s;let x <-qbh tmps t;let y <-qbh tmps q;Pure.pure (.tuple #[v,u,x,y])):=by
  cases r <;> cases s <;> cases t <;> cases q <;> simp[results,h,qbh]
 rw[this,qdM h1,qdM h2,qdM h3,qdM h4]
 try rfl
theorem qnt{fn:Func}{a:Act}(hE:RelE n a e w L)(hH:RelH C w L H){vs:List LV}
  (h:qbX C n e H fn.results.toList vs) (h3:fn.results.size=4):∃ v,(results fn a.tmps).run C.P w=.ok v w/\Rep w L (qbJ vs) v:=by
 obtain⟨rs,hrs⟩:∃ rs,fn.results=List.toArray rs:=⟨fn.results.toList,by simp⟩;rw[hrs] at h h3;simp only[List.size_toArray] at h h3
 match rs,vs,h,h3,hrs with
 |[r,s,t,q],[x,y,z,o],h,_,hrs=>
  obtain⟨v1,g1,r1⟩:=h.1 a w L hE hH;obtain⟨v2,g2,r2⟩:=h.2.1 a w L hE hH;obtain⟨v3,g3,r3⟩:=h.2.2.1 a w L hE hH;obtain⟨v4,g4,r4⟩:=h.2.2.2.1 a w L hE hH
  exact⟨_,qt5 hrs g1 g2 g3 g4,by simp only[qbJ,Rep];exact⟨[v1,v2,v3,v4],rfl,by simp only[RepL];exact⟨v1,_,rfl,r1,v2,_,rfl,r2,v3,_,rfl,r3,v4,_,rfl,r4,rfl⟩⟩⟩
 |[_,_,_,_],[],h,_,_=>exact h.elim
 |[_,_,_,_],[_],h,_,_=>exact h.2.elim
 |[_,_,_,_],[_,_],h,_,_=>exact h.2.2.elim
 |[_,_,_,_],[_,_,_],h,_,_=>exact h.2.2.2.elim
 |[_,_,_,_],_::_::_::_::_::_,h,_,_=>exact h.2.2.2.2.elim
theorem LCalls.intro4{fn:Func}{args:List LV}{R:LRes->Heap->Prop}(hf:C.P.funcs[f]? = some fn)(hb:fn.body=some c)(hn:fn.ntmps=n)(h3:Nat.beq fn.results.size 4=true)
  (hl:Nat.ble args.length n=true) (h:qag C n c (qad C n fn.results.toList R) (qfE args) H):LCalls C f args H R:=λvs w L hv hH=>by
 subst hn;have hl':args.length<=fn.ntmps:=by simpa using hl
 have h3':fn.results.size=4:=Nat.eq_of_beq_eq_true h3;have hlen:=hv.length;refine calls_of_wp hf hb (Go.wp_mono (h _ w L ⟨?_,rfl,λi=>?_⟩ hH) λex a' w' hq=>?_)
 simp;omega
 exact zT0;obtain⟨e',H',L',g1,g2,g3,g4⟩:=hq
 have ret:RelE fn.ntmps a' e' w' L'->(e'.ds=[]/\∃ vs H'',qbX C fn.ntmps e' H' fn.results.toList vs/\HSub H'' H'/\R (.ret (qbJ vs)) H'') ->
   a'.defers=[]/\∃ v,(results fn a'.tmps).run C.P w'=.ok v w'/\qcG C w L H (λv=>R (.ret v)) (λch=>R (.panic ch)) (.returned v) w':=λhE hr=>by
  obtain⟨h1,vs',H'',h2,h4,h5⟩:=hr;obtain⟨v,r1,r2⟩:=qnt hE g2 h2 h3';exact⟨hE.ds.trans h1,v,r1,qbJ vs',H'',L',g1.weak h4,g2.weak h4,r2,h5⟩
 cases ex with
 |normal=>exact ret g3 g4
 |ret=>exact ret g3 g4
 |panic ch=>
  obtain⟨h1,H'',h4,h5⟩:=g4
  exact⟨g3.trans h1,H'',L',g1.weak h4,g2.weak h4,h5⟩
 |exit id=>exact g4.elim
 |goto id=>exact g4.elim
 |outgrown=>exact g4.elim
section
variable{C:Ctx}{e:Env}{H:Heap}{dst:Option Nat}{ty:TypeId}{pos:String}{aft:Array Edge}{g:Option (Nat×Bool)}{xT yT:TypeId}{x y:Operand}{k k2:IntKind}{a b:Int}
theorem qlj{op:BinOp}{xT yT:TypeId}{x y:Operand}{k k2:IntKind}{a b:Int}{ρ:Operand->Value}(hx:ρ x=.int k a)(hy:ρ y=.int k2 b){s:Sem Value}
  (h:(binOp op xT (.int k a) (.int k2 b))=s) {v:Value} (hv:∀ w,s.run P w=.ok v w) (w:World):(execOp ρ ⟨dst,.binOp op xT x y yT,ty,pos,aft,g⟩).run P w=.ok (.value v) w:=by
 subst h
 have he:eqGuard op xT x y (.int k a) (.int k2 b)=Pure.pure ():=by
  unfold eqGuard;cases op <;> rfl
 simp only[execOp,hx,hy,he,zRB,zRP,zRO,hv]
theorem Pure.quoW(hx:e.ev x=int k a)(hy:e.ev y=int k b)(hb:b≠0):Pure C ⟨dst,.binOp .quo xT x y yT,ty,pos,aft,g⟩ e H (int k (k.wrap (a.tdiv b))):=
 .of_any λ_ _ _ h=>⟨_,qaj,qlj (qaf h hx) (qaf h hy) (s:=Op.intDiv .quo k a b) (by simp only[binOp,ne_eq,not_true_eq_false,if_false]) (λ_=>by simp only[Op.intDiv,zn hb,zRP])⟩
theorem Pure.remW(hx:e.ev x=int k a)(hy:e.ev y=int k b)(hb:b≠0):Pure C ⟨dst,.binOp .rem xT x y yT,ty,pos,aft,g⟩ e H (int k (a.tmod b)):=
 .of_any λ_ _ _ h=>⟨_,qaj,qlj (qaf h hx) (qaf h hy) (s:=Op.intDiv .rem k a b) (by simp only[binOp,ne_eq,not_true_eq_false,if_false]) (λ_=>by simp only[Op.intDiv,zn hb,zRP])⟩
theorem Pure.xorW(hx:e.ev x=int k a)(hy:e.ev y=int k b):Pure C ⟨dst,.binOp .xor xT x y yT,ty,pos,aft,g⟩ e H (int k (k.wrap ((BitVec.ofInt k.bits a ^^^ BitVec.ofInt k.bits b).toNat:Nat))):=
 .of_any λ_ _ _ h=>⟨_,qaj,qlj (qaf h hx) (qaf h hy) (s:=Op.intBits .xor k a b) (by simp only[binOp,ne_eq,not_true_eq_false,if_false]) (λ_=>rfl)⟩
end
theorem qih{P:Program}{md:Region.Mode}{ops:Array Oper}{Q:Exit->Act->World->Prop}{S S':World->Prop}(hS:∀ w,S' w->S w):∀ (fuel:Nat) (listed:Array Bool) (a:Act) (w:World),
  wpAnyH P md ops Q S' fuel listed a w->wpAnyH P md ops Q S fuel listed a w
 |0,_,_,_,k=>k
 |fuel+1,_,_,_,k=>⟨k.1,λi hi=>wpOp_mono (λa' w' h=>⟨hS _ h.1,qih hS fuel _ a' w' h.2⟩) (k.2 i hi)⟩
theorem qaI.any{HF:Heap}(HF':Heap)(hs:∀ p∈HF,p∈HF')(h:LAny C n ops Q HF' fuel listed e H):qaI C n ops Q HF fuel listed e H:=λw0 L0 a w L hL hA _ hE hH=>
 qih (λw' hw'=>⟨λp hp=>(hw'.1 p (hs p hp)).trans (hA.1 p hp),λb i hi=>(hw'.2 b i (Nat.lt_of_lt_of_le hi (hL b))).trans (hA.2 b i hi)⟩) _ _ _ _ (h a w L hE hH)
def LS(C:Ctx)(n:Nat)(ops:Array Oper)(K:Env->Prop)(rest:List Oper)(e:Env)(H:Heap):Prop:=
 ∀ a w L,RelE n a e w L->RelH C w L H->wpStill C.P ops w (λa'=>∃ e',RelE n a' e' w L/\K e') rest a
section still
variable{C:Ctx}{n:Nat}{ops:Array Oper}{K:Env->Prop}{e:Env}{H:Heap}{dst:Option Nat}{op:Op}{ty:TypeId}{pos:String}{aft:Array Edge}{rest:List Oper}
theorem LS.nil(h:K e):LS C n ops K [] e H:=λ_ _ _ hE _=>⟨e,hE,h⟩
theorem qsD{Q:Act->Prop}{a:Act}{o:Oper}(hg:Region.wanted o (yielded ops a.tmps)=true)(h:(execOp a.eval o).run P w=.ok (.value v) w)(k:wpStill P ops w Q rest (a.put o.dst v)):wpStill P ops w Q (o::rest) a:=by
 unfold wpStill;rw[zp hg];unfold Oper.still;rw[h];exact⟨rfl,k⟩
theorem lP(h:Pure C ⟨dst,op,ty,pos,aft,none⟩ e H lv)(hd:qdp n dst)(k:LS C n ops K rest (e.put dst lv) H):LS C n ops K (⟨dst,op,ty,pos,aft,none⟩::rest) e H:=λa w L hE hH=>by
 obtain⟨v,hv,hr⟩:=h a.eval w L hE.ev hH;exact qsD (by simp[Region.wanted]) (hr w (qe7.refl _ _ _)) (k _ w L (hE.put hd hv) hH)
theorem qfH{P:Program}{w:World}{Q Q':Act->Prop}(h:∀ a,Q a->Q' a):∀ (l:List Oper) (a:Act),wpStill P ops w Q l a->wpStill P ops w Q' l a
 |[],a,k=>h a k
 |o::l,a,k=>by
  unfold wpStill at k ⊢;split at k
  rename_i hw
  rw[zp hw];exact Oper.still_mono (λa=>qfH h l a) k
  rename_i hw
  rw[zn hw];exact qfH h l _ k
theorem qag.tail [hm:TMixed C.P] {id:Nat} {l:List Oper}  (m:Nat) (hB:Region.lexTailB .any l.toArray m=true) (h:LS C n l.toArray (λe'=>LOps C n l.toArray Q (l.drop m) e' H) (l.take m) e H):qag C n (.region id l.toArray true) Q e H:=λa w L hE hH=>by
 refine wp_region_still_tail m hm.out hB ?_;refine qfH (λa' h'=>?_) _ _ (h a w.drew L (hE.mono (qem w L)) hH.drew);obtain⟨e',hE',hk⟩:=h';refine qbD (λx a2 w' hq=>?_) _ _ _ (hk a' w.drew L hE' hH.drew);obtain⟨e2,H',L',h1,h2,h3,h4⟩:=hq;exact⟨e2,H',L',h1.of_drew,h2,h3,h4⟩
end still
end Go.GL
