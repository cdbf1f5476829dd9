import Derived.Laws.IdiomStrings
import Derived.RangeFuncFrom
import Derived.RangeFuncLeaves
import Derived.TacticsIn
import Derived.DeepKeys
import Derived.Lib.Builder
import Derived.Lib.AppendStr
import Derived.Test.YtmnjklgnhpnckaaGreatDoorBRowLB1
set_option linter.unusedVariables false
set_option linter.unusedSimpArgs false
set_option maxRecDepth 100000
set_option maxHeartbeats 4000000
open List (mem_singleton mem_cons_self nil_sublist map_nil map_toArray take_left' map_map map_set)
open Nat (mul_one zero_add)
open Option (getD_some map_some)
namespace Go.GL
open Go.RowKit
variable{C:Ctx}{H:Heap}{P:Program}{Q:uc}{yg:Array TypeId}{zc:List LV}{c:Code}{e:Env}{f:FuncId}{lv:LV}{n:Nat}{ops:Array Oper}{rest:List Oper}{vs:List Value}
@[reducible] def Hb(v:LV):re->Heap->Prop:=λr H=>r=.ret v/\H=[]
@[reducible] def Dw(p:LV->Prop):re->Heap->Prop:=λr H=>∃ v,r=.ret v/\p v/\H=[]
section
variable{C:Ctx}{e:Env}{H:Heap}{dst:Option Nat}{ty:TypeId}{pos:String}{ka:Array Edge}{g:Option (Nat×Bool)}{K:LV->Heap->Prop}{X:List PanicEntry->Heap->Prop}
theorem sF{f:FuncId} [Gb C.P f](args:List Operand)(has:args.map e.ev=zc)(hc:ca C f zc [] (Hb lv))(hk:K lv H) :
  Ra C ⟨dst,.call { callee:=.value (.func f),args:=args.toArray,argTypes:=yg },ty,pos,ka,g⟩ e H K X:=
 S.uq args has hc (by rintro v H' ⟨h,rfl⟩;cases h;exact hk) (by rintro ch H' ⟨h,_⟩;cases h)
theorem S.Yh{f:FuncId} [Gb C.P f](args:List Operand){p:LV->Prop}(has:args.map e.ev=zc)(hc:ca C f zc [] (Dw p))(hk:∀ lv,p lv->K lv H) :
  Ra C ⟨dst,.call { callee:=.value (.func f),args:=args.toArray,argTypes:=yg },ty,pos,ka,g⟩ e H K X:=
 S.uq args has hc (by rintro v H' ⟨u,h,hp,rfl⟩;cases h;exact hk _ hp) (by rintro ch H' ⟨u,h,_⟩;cases h)
theorem S.kD{fo:Operand} [Gb C.P f]{first Ua:Array Value}(args:List Operand)(hf:e.ev fo=.atom (.func (.func f) first Ua))
  (has:first.toList.map .atom++args.map e.ev++Ua.toList.map .atom=zc) (hc:ca C f zc [] (Hb lv)) (hk:K lv H) :
  Ra C ⟨dst,.call { callee:=.value fo,args:=args.toArray,argTypes:=yg },ty,pos,ka,g⟩ e H K X:=
 S.yl (H1:=[]) (F:=H) args hf has Kb hc (by rintro v H' ⟨h,rfl⟩;cases h;exact hk) (by rintro ch H' ⟨h,_⟩;cases h)
theorem Wa{rs:List ResultVar}{vs:List LV}(hd:e.ds=[])(h:Zl C n e H rs vs)(hv:qh vs=lv):od C n rs (Hb lv) .ret e H:=
 rR hd h Vc ⟨by rw[hv],rfl⟩
theorem Ow{rs:List ResultVar}{vs:List LV}{p:LV->Prop}(hd:e.ds=[])(h:Zl C n e H rs vs)(hv:p (qh vs)):od C n rs (Dw p) .ret e H:=
 rR hd h Vc ⟨_,rfl,hv,rfl⟩
end
theorem iU{w w':World}{L:Live}(hH:Ma C w L [])(h:Below w.heap.size w w'):Fr (keys []) w L w' L []/\Ma C w' L []:=by
 refine⟨⟨h.os,h.tape,h.output,⟨h.size,λb hb=>bH (h.block b hb),λb i hi=>?_,λ_=>Nb _⟩,λb hb _=>h.block b hb,λ_ _ _=>rfl,by simp⟩,
  ⟨hH.base.trans (h.mono hH.b0),hH.Bi,Se hH.b0 h.size,λb hb=>hH.wf b (Se h.size hb),List.nodup_nil,by simp⟩⟩
 have hb:b<w.heap.size:=by rcases Nat.lt_or_ge b w.heap.size with h1|h1;exact h1;have:=hH.wf b h1;omega
 exact cell_of_heap (h.block b hb) i
theorem ca.OA{p:Value->Prop}
  (h:∀ w,Below C.B0 C.w0 w->Calls C.P f vs.toArray w λe w'=>∃ v,e=.returned v/\p v/\Below w.heap.size w w'):ca C f (vs.map .atom) [] (λr H=>∃ v,r=.ret (.atom v)/\p v/\H=[]):=λxs w L hv hH=>by
 have hx:xs=vs:=by
  clear h hH;induction vs generalizing xs with
  |nil=>simpa [la] using hv
  |cons v vs ih=>simp only[jd,la,wb] at hv;obtain⟨y,ys,rfl,rfl,hv⟩:=hv;rw[ih _ hv]
 subst hx;refine(h w hH.base).mono λe w' he=>?_;obtain⟨v,rfl,hp,hb⟩:=he;obtain⟨h1,h2⟩:=iU hH hb;exact⟨.atom v,[],L,h1,h2,Zc,v,rfl,hp,rfl⟩
theorem ca.Tg{p:List Value->Prop}
  (h:∀ w,Below C.B0 C.w0 w->Calls C.P f vs.toArray w λe w'=>∃ us:List Value,e=.returned (.tuple us.toArray)/\p us/\Below w.heap.size w w'):ca C f (vs.map .atom) [] (Dw λlv=>∃ us,p us/\lv=.tuple (us.map .atom)):=λxs w L hv hH=>by
 have hx:xs=vs:=by
  clear h hH;induction vs generalizing xs with
  |nil=>simpa [la] using hv
  |cons v vs ih=>simp only[jd,la,wb] at hv;obtain⟨y,ys,rfl,rfl,hv⟩:=hv;rw[ih _ hv]
 subst hx;refine(h w hH.base).mono λe w' he=>?_;obtain⟨us,rfl,hp,hb⟩:=he;obtain⟨h1,h2⟩:=iU hH hb;exact⟨.tuple (us.map .atom),[],L,h1,h2,by simp only[wb];exact⟨us,rfl,Wq _⟩,_,rfl,⟨us,hp,rfl⟩,rfl⟩
theorem ca.Tl{u:Value}
  (h:∀ w,Below C.B0 C.w0 w->Calls C.P f vs.toArray w λe w'=>e=.returned u/\Below w.heap.size w w'):ca C f (vs.map .atom) [] (Hb (.atom u)):=
 ca.mono (ca.OA (p:=λv=>v=u) λw hw=>(h w hw).mono λe w' he=>⟨u,he.1,rfl,he.2⟩) λr H' ⟨v,h1,h2,h3⟩=>⟨by rw[h1,h2],h3⟩
def Yr(e:Env):List (Nat×LV)->Prop
 |[]=>True
 |(d,v)::r=>e.s d=v/\Yr e r
theorem Yr.mem{e:Env}:∀ {l:List (Nat×LV)},Yr e l->∀ p∈l,e.s p.1=p.2
 |[],_,p,hp=>by cases hp
 |(d,v)::r,h,p,hp=>by rcases lc.1 hp with rfl|hp;exact h.1;exact Yr.mem h.2 p hp
def NW(I:Nat->List (Nat×LV)->Heap->Prop)(k:Nat)(ds:List Deferred)(e':Env)(H':Heap):Prop:=
 ∃ m l' ph,m<k/\I m l' ph/\Yr e' l'/\HSub ph H'/\e'.ds=ds
theorem oL{H:Heap}(I:Nat->List (Nat×LV)->Heap->Prop)(h0:∃ k l H0,I k l H0/\Yr e l/\HSub H0 H)
  (round:∀ k l H,I k l H->∀ j:Env,j.ds=e.ds->Qa C n c (Ud (NW I k e.ds) Q) (Env.Nf j l) H):Qa C n (.loop c) Q e H:=by
 obtain⟨k,l,H0,h0,h1,h2⟩:=h0;refine cW h2 (Qa.loop (λk e' H'=>∃ l H0,I k l H0/\Yr e' l/\HSub H0 H'/\e'.ds=e.ds) k ⟨l,H0,h0,h1,Tb _,rfl⟩ ?_);rintro k e' H' ⟨l,H0,g0,g1,g2,g3⟩;have:=round k l H0 g0 e' g3;rw[Env.sd g1.mem] at this;refine cW g2 (Qa.Oc this ?_);rintro ex e2 H2 hq;cases ex with
 |normal=>obtain⟨m,l',H3,r1,r2,r3,r4,r5⟩:=hq;exact⟨m,r1,l',H3,r2,r3,r4,r5⟩
 |exit id=>exact hq
 |goto id=>exact hq
 |ret=>exact hq
 |panic ch=>exact hq
 |outgrown=>exact hq
theorem Ae{a b:Bool}(h:a=b):bool a=bool b:=by rw[h]
def At(l:List (Nat×LV))(H1:Heap)(ds:List Deferred)(e':Env)(H':Heap):Prop:=Yr e' l/\H'=H1/\e'.ds=ds
theorem wa.tl{k:Env->Heap->Prop}(l:List (Nat×LV))(H1:Heap)
  (hx:wa C n ops (Ud (At l H1 e.ds) Q) rest e H) (hy:∀ j:Env,j.ds=e.ds->k (Env.Nf j l) H1):wa C n ops (Ud k Q) rest e H:=by
 refine wa.Oc hx ?_;rintro ex e' H' hq;cases ex with
 |normal=>obtain⟨h1,rfl,h3⟩:=hq;have:=hy e' h3;rw[Env.sd h1.mem] at this;exact this
 |exit id=>exact hq
 |goto id=>exact hq
 |ret=>exact hq
 |panic ch=>exact hq
 |outgrown=>exact hq
theorem Qa.tl{k:Env->Heap->Prop}(l:List (Nat×LV))(H1:Heap)
  (hx:Qa C n c (Ud (At l H1 e.ds) Q) e H) (hy:∀ j:Env,j.ds=e.ds->k (Env.Nf j l) H1):Qa C n c (Ud k Q) e H:=by
 refine Qa.Oc hx ?_;rintro ex e' H' hq;cases ex with
 |normal=>obtain⟨h1,rfl,h3⟩:=hq;have:=hy e' h3;rw[Env.sd h1.mem] at this;exact this
 |exit id=>exact hq
 |goto id=>exact hq
 |ret=>exact hq
 |panic ch=>exact hq
 |outgrown=>exact hq
theorem wa.cut{k:Env->Heap->Prop}(l:List (Nat×LV))
  (hx:wa C n ops (Ud (At l H e.ds) Q) rest e H) (hy:∀ j:Env,j.ds=e.ds->k (Env.Nf j l) H):wa C n ops (Ud k Q) rest e H:=wa.tl l H hx hy
theorem Wz{k:Env->Heap->Prop}(l:List (Nat×LV))
  (hx:Qa C n c (Ud (At l H e.ds) Q) e H) (hy:∀ j:Env,j.ds=e.ds->k (Env.Nf j l) H):Qa C n c (Ud k Q) e H:=Qa.tl l H hx hy
theorem qmb{a:Act}{w:World}{L:Live}(hE:nc n a e w L){j d:Nat}(hj:(ops[j]?).bind (·.dst)=some d)(hb:e.s d=.atom undef):yielded ops a.tmps j=none:=by
 have h:=hE.dj d;rw[hb] at h;simp only[wb] at h;unfold yielded;rw[hj];simp only[Option.bind_some];rw[Array.getD_eq_getD_getElem?] at h;cases hx:a.tmps[d]? with
 |none=>rfl
 |some x=>rw[hx] at h;simp only[getD_some] at h;subst h;rfl
theorem wa.aG{dst:Option Nat}{op:Op}{ty:TypeId}{pos:String}{ka:Array Edge}{j d:Nat}{c:Bool}
  (hj:(ops[j]?).bind (·.dst)=some d) (hb:e.s d=.atom undef) (hd:Fl n dst)
  (k:wa C n ops Q rest (e.put dst (.atom undef)) H):wa C n ops Q (⟨dst,op,ty,pos,ka,some (j,c)⟩::rest) e H:=λa w L hE hH=>by
 unfold wpList;rw[zn (by simp[Region.wanted,qmb hE hj hb])];exact k _ w L (hE.put hd (by simp only[wb])) hH
theorem lh{k:IntKind}{a b:Int}(h:a=b):int k a=int k b:=by rw[h]
theorem jb{e:Env}{l:List (Nat×LV)}(h:Yr e l:=by repeat first|exact trivial|refine⟨rfl,?_⟩|refine⟨lh (by omega),?_⟩):Yr e l:=h
class jh (P:Program) (t:TypeId):Prop where
 De:∃ ms,P.underlying t=some (.interface ms)
def qqL(P:Program)(t:Nat):Bool:=match P.underlying t with|some (.interface _)=>true|_=>false
theorem jh.of{t:Nat}(h:qqL P t=true):jh P t:=by
 unfold qqL at h;refine⟨?_⟩;cases hu:P.underlying t with
 |none=>rw[hu] at h;simp at h
 |some d=>rw[hu] at h;cases d <;> simp_all
section
variable{C:Ctx}{e:Env}{H:Heap}{dst:Option Nat}{ty:TypeId}{pos:String}{ka:Array Edge}{g:Option (Nat×Bool)}{xT yT:TypeId}{x:Operand}
theorem PU(t:TypeId)(x y:Value):Op.equal t x y=Op.equalIn (9999+1) t x y:=rfl
theorem qlZ{t:TypeId} [h:jh P t](w:World):(Op.equal t .nilIface .nilIface).run P w=.ok true w:=by obtain⟨ms,hu⟩:=h.De;rw[PU,Op.equalIn];simp only[wc,ie hu,Sc,Ed]
theorem qkS{t:TypeId} [h:jh P t](u:TypeId)(p:Value)(w:World):(Op.equal t (.iface u p) .nilIface).run P w=.ok false w:=by obtain⟨ms,hu⟩:=h.De;rw[PU,Op.equalIn];simp only[wc,ie hu,Sc,Ed]
theorem Pure.Gy [jh C.P xT] (hx:e.ev x=.atom .nilIface):Pure C ⟨dst,.binOp .neq xT x (.const .nilIface) yT,ty,pos,ka,g⟩ e H (bool false):=
 .Ja λρ _ _ h=>⟨_,Zc,λw'=>by
  have h1:=Rb h hx;have h2:=Rb h (x:=.const .nilIface) rfl;have he:eqGuard .neq xT x (.const .nilIface) .nilIface .nilIface=Pure.pure ():=by simp[eqGuard]
  have hb:binOp .neq xT .nilIface .nilIface=(do Pure.pure (.bool (!(<-Op.equal xT .nilIface .nilIface)))):=rfl;simp only[execOp,h1,h2,he,hb,wc,Ed,Sc,qlZ,Bool.not_true]⟩
theorem Pure.It [jh C.P xT] {u:TypeId} {p:Value} (hx:e.ev x=.atom (.iface u p)):Pure C ⟨dst,.binOp .neq xT x (.const .nilIface) yT,ty,pos,ka,g⟩ e H (bool true):=
 .Ja λρ _ _ h=>⟨_,Zc,λw'=>by
  have h1:=Rb h hx;have h2:=Rb h (x:=.const .nilIface) rfl;have he:eqGuard .neq xT x (.const .nilIface) (.iface u p) .nilIface=Pure.pure ():=by simp[eqGuard]
  have hb:binOp .neq xT (.iface u p) .nilIface=(do Pure.pure (.bool (!(<-Op.equal xT (.iface u p) .nilIface)))):=rfl;simp only[execOp,h1,h2,he,hb,wc,Ed,Sc,qkS,Bool.not_false]⟩
theorem LO{a b:List UInt8}(h:a=b):str a=str b:=by rw[h]
theorem Pure.xx{k k0 k':IntKind}{s d:TypeId}{n:Int} [hs:ai C.P s k0] [hd:ai C.P d k'](hx:e.ev x=int k n):Pure C ⟨dst,.convert s d x,ty,pos,ka,g⟩ e H (int k' (k'.wrap n)):=Pure.GF ⟨_,hs.De⟩ hx
end
end Go.GL
namespace Go.GL
open Go.RowKit
variable{C:Ctx}{F H H1 HF:Heap}{P:Program}{Q:uc}{ka:Array Edge}{b ua i l n:Nat}{dst:Option Nat}{e:Env}{listed:Array Bool}{lv:LV}{ops:Array Oper}{pos:String}{ty:TypeId}{w:World}
section any
variable{C:Ctx}{n:Nat}{ops:Array Oper}{Q:uc}{HF:Heap}{ua:Nat}{listed:Array Bool}{e:Env}{H:Heap}
def Rh(C:Ctx)(n:Nat)(ops:Array Oper)(Q:uc)(HF:Heap)(ua:Nat)(listed:Array Bool)(e:Env)(H:Heap)(i:Nat):Prop:=
 ∀ w0 L0 a w L,(∀ b,L0 b<=L b)->Zp w0 L0 HF w->(∀ p∈HF,p.1<w.heap.size)->nc n a e w L->Ma C w L H ->
  wpOp C.P ops (lift C n w L (keys H) Q) i (λa' w'=>Zp w0 L0 HF w'/\wpAnyH C.P .any ops (lift C n w L (keys H) Q) (Zp w0 L0 HF) ua (listed.setIfInBounds i true) a' w') a w
theorem Tf.all{is:List Nat}(hr:Region.ready .any ops listed=is)(ub:is≠[])(h:∀ i∈is,Rh C n ops Q HF ua listed e H i):Tf C n ops Q HF (ua+1) listed e H:=λw0 L0 a w L hL hA gd hE hH=>
 wpAnyH_all hr ub λj hj=>h j hj w0 L0 a w L hL hA gd hE hH
theorem lS{op:Op}{g:Option (Nat×Bool)}(hi:ops[i]? = some ⟨dst,op,ty,pos,ka,g⟩)(hg:g=none∨∃ j b d,g=some (j,b)/\(ops[j]?).bind (·.dst)=some d/\e.s d=.atom (.bool b))(hd:Fl n dst)
  (p:H.Perm (H1++F)) (Bh:HSub HF F)
  (h:Ra C ⟨dst,op,ty,pos,ka,g⟩ e H1 (λlv H'=>Tf C n ops Q HF ua (listed.setIfInBounds i true) (e.put dst lv) (H'++F)) λch H'=>∀ e',e'.ds=e.ds->Q (.panic ch) e' (H'++F)) :
  Rh C n ops Q HF ua listed e H i:=λw0 L0 a w L hL hA gd hE hH=>by
 have gD:=hH.perm p;have hn:(keys H1++keys F).Nodup:=by simpa [keys] using gD.nodup
 have EB:∀ q∈HF,q.1 ∉ keys H1:=λq hq hm=>(Dm hn).2.2 _ hm _ (List.mem_map_of_mem (Bh.mem q hq)) rfl
 have hw:Region.wanted ⟨dst,op,ty,pos,ka,g⟩ (yielded ops a.tmps)=true:=by rcases hg with rfl|⟨j,b,d,rfl,hj,hb⟩;simp[Region.wanted];simp[Region.wanted,VG hE hj hb]
 unfold wpOp;rw[hi];simp only;rw[zp hw];refine .inl (N9 (H:=H1) h hd hE gD.left (λlv H' L' w' a' h1 h2 h3 h4=>?_) λch H' L' w' h1 h2 h3=>?_);have Nl:=gD.frame h1 h2;have hag:Zp w0 L0 HF w':=⟨λq hq=>(h1.block q.1 (gd q hq) (EB q hq)).trans (hA.1 q hq),λb i hi=>(h1.ext.live b i (Nat.lt_of_lt_of_le hi (hL b))).trans (hA.2 b i hi)⟩;exact⟨hag,tJ (λ_ _ _=>rM (Nl.2.perm p.symm)) _ _ _ _ (h4 w0 L0 a' w' L' (λb=>Se (hL b) (h1.ext.mono b)) hag (λq hq=>Nat.lt_of_lt_of_le (gd q hq) h1.ext.size) h3 Nl.1)⟩;have Nl:=gD.frame h1 h2;exact⟨e,H'++F,L',Nl.2.perm p.symm,Nl.1,hE.ds,h3 e rfl⟩
theorem Cj(hr:Region.ready .any ops listed=[i])(h:Rh C n ops Q HF ua listed e H i):Tf C n ops Q HF (ua+1) listed e H:=
 Tf.all hr (by simp) λj hj=>by obtain rfl:=cj hj;exact h
theorem Tp{j:Nat}(hr:Region.ready .any ops listed=[i,j])(h:Rh C n ops Q HF ua listed e H i)(h':Rh C n ops Q HF ua listed e H j):Tf C n ops Q HF (ua+1) listed e H:=
 Tf.all hr (by simp) λk hk=>by rcases lc.1 hk with rfl|hk;exact h;obtain rfl:=cj hk;exact h'
theorem lW{op:Op}{g:Option (Nat×Bool)}(hi:ops[i]? = some ⟨dst,op,ty,pos,ka,g⟩)(hg:g=none∨∃ j b d,g=some (j,b)/\(ops[j]?).bind (·.dst)=some d/\e.s d=.atom (.bool b))(hd:Fl n dst)
  (h:Ra C ⟨dst,op,ty,pos,ka,g⟩ e H (λlv H'=>Tf C n ops Q [] ua (listed.setIfInBounds i true) (e.put dst lv) H') λch H'=>∀ e',e'.ds=e.ds->Q (.panic ch) e' H') :
  Rh C n ops Q [] ua listed e H i:=lS (H1:=H) (F:=[]) hi hg hd (by simp) Vc (by simpa using h)
end any
theorem LQ.aI{K:Env->Prop}{rest:List Oper}(d:Nat){b:Bool}(hb:e.s d=bool b)(ht:b=true->LQ C n ops K rest (e.Sd d (bool true)) H)(hf:b=false->LQ C n ops K rest (e.Sd d (bool false)) H):LQ C n ops K rest e H:=by cases b;have:=hf rfl;rwa [Env.ej hb] at this;have:=ht rfl;rwa [Env.ej hb] at this
section pure
variable{C:Ctx}{e:Env}{H:Heap}{dst:Option Nat}{ty:TypeId}{pos:String}{ka:Array Edge}{g:Option (Nat×Bool)}{xT yT:TypeId}{x y:Operand}{k:IntKind}{a b:Int}
theorem Pure.quo(hx:e.ev x=int .i64 a)(hy:e.ev y=int .i64 b)(hb:0<b)(ha:0<=a)(h:a<=9223372036854775807):Pure C ⟨dst,.binOp .quo xT x y yT,ty,pos,ka,g⟩ e H (int .i64 (a / b)):=
 .Ja λ_ _ _ h'=>⟨_,Zc,AA (Rb h' hx) (Rb h' hy) (by simp) (by simp) (s:=Op.intDiv .quo .i64 a b) (by simp only[binOp,ne_eq,not_true_eq_false,if_false]) (λw=>by
  have h1:a.tdiv b=a / b:=Int.tdiv_eq_ediv_of_nonneg ha;have h2:0<=a / b:=Int.ediv_nonneg ha zo;have h3:a / b<=a:=Int.ediv_le_self _ ha;rw[Op.intDiv,zn zo];simp only[h1];rw[xy zo];rfl)⟩
theorem Pure.rem(hx:e.ev x=int .i64 a)(hy:e.ev y=int .i64 b)(hb:0<b)(ha:0<=a):Pure C ⟨dst,.binOp .rem xT x y yT,ty,pos,ka,g⟩ e H (int .i64 (a % b)):=
 .Ja λ_ _ _ h'=>⟨_,Zc,AA (Rb h' hx) (Rb h' hy) (by simp) (by simp) (s:=Op.intDiv .rem .i64 a b) (by simp only[binOp,ne_eq,not_true_eq_false,if_false]) (λw=>by
  have h1:a.tmod b=a % b:=Int.tmod_eq_emod_of_nonneg ha;rw[Op.intDiv,zn zo];simp only[h1];rfl)⟩
theorem Pure.dC{s d el:TypeId} [hs:Ea C.P s el 1] [he:ai C.P el .u8] [hd:Bm C.P d]{l:List UInt8}(hx:elems (e.ev x)=some (l.map λb=>int .u8 b.toNat))(ub:l≠[]) :
  Pure C ⟨dst,.convert s d x,ty,pos,ka,g⟩ e H (str l):=λρ w L h _=>by
 obtain⟨a,cap,hv,Jh,hr⟩:=(h x).elems hx;obtain⟨b,off,k',rfl,dF⟩:=hr (by simpa using ub);refine⟨_,Zc,λw' ha=>?_⟩;have h0:execOp ρ ⟨dst,.convert s d x,ty,pos,ka,g⟩=(do Pure.pure (.value (<-convert s d (ρ x)))):=rfl;have hlen:(l.map λb=>int .u8 b.toNat).length=l.length:=by simp
 have:=run_convert_bytes_back (P:=C.P) w' s d el ⟨b,off,none⟩ cap l hs.De he.De hd.De (λj hj=>by
  obtain⟨h1,h2⟩:=dF.get (i:=j) (e:=int .u8 l[j].toNat) (by simp[hj]);simp only[LV.cells,Jb,List.length_singleton] at h1 h2;obtain⟨h3,⟨v,h4,h5⟩,_⟩:=h2;simp only[wb] at h5;subst h5;subst h1;rw[mul_one] at h3 h4;rw[Gf];rw[ha.2 b _ h3];exact h4)
 rw[h0,hv,hlen];simp only[wc,this,Sc,Ed]
end pure
theorem aT(i:Nat){op:Op}
  (hi:ops[i]? = some ⟨dst,op,ty,pos,ka,none⟩) (hd:Fl n dst) (hp:Pure C ⟨dst,op,ty,pos,ka,none⟩ e HF lv) (k:Eb C n ops Q HF ua (listed.setIfInBounds i true) (e.put dst lv) H) (hs:Region.noSelect ops=true:=by kernel_rfl) (hf:Region.free .any ops listed i=true:=by kernel_rfl) (hr:(Region.ready .any ops listed).contains i=true:=by kernel_rfl)
  (Bh:HSub HF H:=by first|exact HSub.nil _|exact Tb _|exact Gg Ya|exact Pb pH Vc|exact Pb Fc Vc|exact Pb Bj Vc|exact Pb pH Xc|exact⟨_,List.Perm.refl _⟩):Eb C n ops Q HF (ua+1) listed e H:=Eb.take Bh hi hs hf hr hd hp k
theorem Eb.MD(i:Nat){j d:Nat}{b:Bool}{op:Op}
  (hi:ops[i]? = some ⟨dst,op,ty,pos,ka,some (j,b)⟩) (hj:(ops[j]?).bind (·.dst)=some d) (hb:e.s d=.atom (.bool b)) (hd:Fl n dst) (hp:Pure C ⟨dst,op,ty,pos,ka,some (j,b)⟩ e HF lv) (k:Eb C n ops Q HF ua (listed.setIfInBounds i true) (e.put dst lv) H) (hs:Region.noSelect ops=true:=by kernel_rfl) (hf:Region.free .any ops listed i=true:=by kernel_rfl) (hr:(Region.ready .any ops listed).contains i=true:=by kernel_rfl)
  (Bh:HSub HF H:=by first|exact HSub.nil _|exact Tb _|exact Gg Ya|exact Pb pH Vc|exact Pb Fc Vc|exact Pb Bj Vc|exact Pb pH Xc|exact⟨_,List.Perm.refl _⟩):Eb C n ops Q HF (ua+1) listed e H:=Eb.po Bh hi hj hb hs hf hr hd hp k
theorem lO(i:Nat)(h:Rh C n ops Q HF ua listed e H i)(hr:Region.ready .any ops listed=[i]:=by kernel_rfl):Tf C n ops Q HF (ua+1) listed e H:=Cj hr h
section
variable{C:Ctx}{e:Env}{H:Heap}{dst:Option Nat}{ty:TypeId}{pos:String}{ka:Array Edge}{g:Option (Nat×Bool)}{K:LV->Heap->Prop}{X:List PanicEntry->Heap->Prop}{x y:Operand}
theorem sG{sT xT el s bytes:Nat} [ht:Ea C.P sT el s] [hr:Kh C.P el s bytes]{e2 s2:Nat} [je:Ea C.P xT e2 s2]{v:LV}{es ms:List LV}{A:Heap}
  (hp:H.Perm (H1++A)) (hx:e.ev x=v) (ha:Acc s v es H1 F) (hy:GL.elems (e.ev y)=some ms) (hs:∀ v∈ms,v.cells.length=s) (xc:(ms.flatMap LV.cells).all Tq=true) (Na:(es.length+ms.length) * bytes<=140737488355328)
  (hk:∀ v' H',Acc s v' (es++ms) H' F->K v' (A++H')):Ra C ⟨dst,.call { callee:=.builtin .append,args:=#[x,y],argTypes:=#[sT,xT] },ty,pos,ka,g⟩ e H K X:=by
 refine Ra.Oc (K:=λlv H'=>∃ H2,H'=H2++A/\Acc s lv (es++ms) H2 F) (Ra.frame hp (S.acc hx ha hy hs xc Na λv' H' h=>⟨H',rfl,h⟩)) ?_;rintro lv H' ⟨H2,rfl,h⟩;exact⟨lv,A++H2,vR _,⟨[],by simpa using Nh⟩,hk _ _ h⟩
theorem S.nw{sT xT el s bytes:Nat} [ht:Ea C.P sT el s] [hr:Kh C.P el s bytes]{e2 s2:Nat} [je:Ea C.P xT e2 s2]{v:LV}{es ms:List LV}{q:Nat×ga}
  (hx:e.ev x=v) (ha:Acc s v es H1 F) (hy:GL.elems (e.ev y)=some ms) (hs:∀ v∈ms,v.cells.length=s) (xc:(ms.flatMap LV.cells).all Tq=true) (Na:(es.length+ms.length) * bytes<=140737488355328)
  (hk:∀ v' H',Acc s v' (es++ms) H' F->K v' (q::H')):Ra C ⟨dst,.call { callee:=.builtin .append,args:=#[x,y],argTypes:=#[sT,xT] },ty,pos,ka,g⟩ e (q::H1) K X:=
 sG (A:=[q]) ((List.perm_append_singleton _ _).symm) hx ha hy hs xc Na hk
end
def zG:Obj->Bool
 |.cells _ _ _=>false
 |_=>true
theorem nM{o:Obj}(h:w.heap[b]? = some o)(ho:zG o=true):w.shape? b=none:=by simp only[World.shape?,h];cases o <;> simp_all [zG]
section
variable{C:Ctx}{e:Env}{H:Heap}{dst:Option Nat}{ty:TypeId}{pos:String}{ka:Array Edge}{g:Option (Nat×Bool)}{K:LV->Heap->Prop}{X:List PanicEntry->Heap->Prop}{x y:Operand}
theorem qj4{L:Live}(hH:Ma C w L []){o:Obj}(ho:zG o=true){v:Value}(hk:K (.atom v) [(w.heap.size,.obj o)]):Left C w L [] (World.push w o) v K:=by
 have:=DC hH o 0 [(w.heap.size,.obj o)] (λp hp=>by
  simp only[mem_singleton] at hp;subst hp;exact⟨rfl,by simp[Live.Sd],xu,nM xu ho⟩) (by simp)
 exact⟨_,_,_,this.1,this.2,Zc,hk⟩
theorem AP{w':World}{L:Live}{o o':Obj}(hH:Ma C w L [(b,.obj o)])(yV:zG o'=true)(h1:w'.os=w.os)(h2:w'.tape=w.tape)(h3:w'.output=w.output)
  (h4:w'.heap.size=w.heap.size) (h5:∀ c,c≠b->w'.heap[c]? = w.heap[c]?) (h6:w'.heap[b]? = some o') {v:Value} {lv:LV} (hv:∀ L,wb w' L lv v) (hk:K lv [(b,.obj o')]):Left C w L [(b,.obj o)] w' v K:=by
 obtain⟨Ze,nh,hl,ae,je⟩:=hH.qc _ (Cp rfl);simp only at Ze nh hl ae je;have hx:Ext w L w' L:=by
  refine⟨by rw[h4];exact Nb _,λc hc=>?_,λc i hi=>?_,λ_=>Nb _⟩
  by_cases he:c=b;subst he;rw[je];exact nM h6 yV;exact bH (h5 c he);by_cases he:c=b;subst he;rw[hl] at hi;omega;exact cell_of_heap (h5 c he) i
 refine⟨lv,[(b,.obj o')],L,⟨h1,h2,h3,hx,λc hc hn=>h5 c (by simpa using hn),λ_ _ _=>rfl,λp hp=>.inl (by simp only[mem_singleton] at hp;subst hp;simp)⟩,
  ⟨?_,hH.Bi,by rw[h4];exact hH.b0,by rw[h4];exact hH.wf,by simp,λp hp=>?_⟩,hv L,hk⟩
 exact hH.base.trans ⟨h1,h2,h3,by rw[h4];exact Nb _,λc hc=>h5 c zo⟩;simp only[mem_singleton] at hp;subst hp;exact⟨Ze,by rw[h4];exact nh,hl,h6,nM h6 yV⟩
theorem S.makeMap{t:TypeId}(hk:∀ b,K (.atom (.map (some b))) ((b,.obj (.map #[] 0))::H)):Ra C ⟨dst,.makeMap t none,ty,pos,ka,g⟩ e H K X:=by refine Ra.mD λρ w L _ hH=>?_;have h3:execOp ρ ⟨dst,.makeMap t none,ty,pos,ka,g⟩=(do Pure.pure (.value (<-Instr.makeMap t none))):=rfl;have h4:(Instr.makeMap t none).run C.P w=.ok (.map (some w.heap.size)) (World.push w (.map #[] 0)):=rfl;rw[h3,wc,h4];exact qj4 hH rfl (hk _)
def Eh(w:World)(b:Nat)(o:Obj):World:={ w with heap:=w.heap.setIfInBounds b o }
theorem oM{c:Nat}{o:Obj}(h:c≠b):(Eh w b o).heap[c]? = w.heap[c]? := by
 simp only[Eh,Array.getElem?_setIfInBounds];rw[zn (Ne.symm h)]
theorem bM{o:Obj}(h:b<w.heap.size):(Eh w b o).heap[b]? = some o:=by simp only[Eh,Array.getElem?_setIfInBounds];simp[h]
theorem VP{o o':Obj}(h:w.heap[b]? = some o)(ho:zG o=true):(setObj b o').run P w=.ok () (Eh w b o'):=by simp only[setObj,Sem.run,h];cases o <;> first|rfl|(simp[zG] at ho)
theorem CZ(k:ByteArray):∀ (es:List MapEntry) (i:Nat),(∀ e∈es,∃ s,e.key=.string s/\¬ (k == s)=true)->Instr.findNow .string (.string k) es i=some none
 |[],_,_=>rfl
 |e::es,i,h=>by
  obtain⟨s,hs,ub⟩:=h e mem_cons_self;have gF:(k == s)=false:=by simpa using ub
  simp only[Instr.findNow,hs,Instr.sameNow,gF];exact CZ k es (i+1) λe he=>h e (Gc _ he)
theorem S.insert{t kt el:TypeId}(ht:C.P.underlying t=some (.map kt el))(mh:C.P.underlying kt=some .string){b clock:Nat}{es:Array MapEntry}{F:Heap}{m z:Operand}{k:ByteArray}{v:Value}(hm:e.ev m=.atom (.map (some b)))(hx:e.ev x=.atom (.string k))(hz:e.ev z=.atom v)
  (hp:zd (b,.obj (.map es clock)) H F) (jl:∀ e∈es.toList,∃ s,e.key=.string s/\¬ (k == s)=true) (hk:K (.atom undef) ((b,.obj (.map (es.push { key:=.string k,val:=v,born:=clock }) (clock+1)))::F)):Ra C ⟨dst,.insert t m x z,ty,pos,ka,g⟩ e H K X:=by
 refine Ra.KK hp λρ w L h hH=>?_;obtain⟨Ze,nh,hl,ae,je⟩:=hH.qc _ (Cp rfl);simp only at Ze nh hl ae je;have h3:execOp ρ ⟨dst,.insert t m x z,ty,pos,ka,g⟩=(do Instr.mapUpdate t (ρ m) (ρ x) (ρ z);Pure.pure .skip):=rfl
 have hf:(Instr.findKey kt (.string k) es.toList).run C.P w=.ok none w:=by simp only[Instr.findKey,wc,ie mh,Sc,CZ k es.toList 0 jl,Ed]
 have hc:(Instr.checkKey false 10000 kt (.string k)).run C.P w=.ok () w:=by have Fs:Instr.checkKey false 10000 kt (.string k)=Instr.checkKey false (9999+1) kt (.string k):=rfl;rw[Fs,Instr.checkKey];simp only[wc,ie mh,Sc,Ed]
 have hg:(getObj b).run C.P w=.ok (.map es clock) w:=by simp only[getObj,Sem.run,ae]
 rw[h3,Rb h hm,Rb h hx,Rb h hz];simp only[Instr.mapUpdate,wc,ie ht,Sc,hg,hc,hf];have hs:(setObj b (.map (es.push { key:=.string k,val:=v,born:=clock }) (clock+1))).run C.P w=.ok () (Eh w b (.map (es.push { key:=.string k,val:=v,born:=clock }) (clock+1))):=VP ae rfl;rw[hs];exact AP (w':=Eh w b (.map (es.push { key:=.string k,val:=v,born:=clock }) (clock+1))) hH rfl rfl rfl rfl (by simp[Eh]) (λc hc=>oM hc) (bM nh) (λ_=>Zc) hk
theorem S.range{t kt el:TypeId}(ht:C.P.underlying t=some (.map kt el)){b clock:Nat}{es:Array MapEntry}(hx:e.ev x=.atom (.map (some b)))(hm:(b,.obj (.map es clock))∈H)
  (hk:∀ r,K (ptr r 0) ((r,.obj (.mapIter (some b) clock #[] clock))::H)):Ra C ⟨dst,.range t x,ty,pos,ka,g⟩ e H K X:=by
 obtain⟨F,hF⟩:∃ F,H.Perm ((b,.obj (.map es clock))::F):=by obtain⟨l1,l2,rfl⟩:=List.append_of_mem hm;exact⟨l1++l2,List.perm_middle⟩
 have main:∀ X,Ra C ⟨dst,.range t x,ty,pos,ka,g⟩ e [(b,.obj (.map es clock))] (λlv H'=>∃ r,lv=ptr r 0/\H'=[(r,.obj (.mapIter (some b) clock #[] clock)),(b,.obj (.map es clock))]) X:=λX ρ w L h hH=>by
  obtain⟨Ze,nh,hl,ae,je⟩:=hH.qc _ (Cp rfl);simp only at Ze nh hl ae je;have h3:execOp ρ ⟨dst,.range t x,ty,pos,ka,g⟩=(do Pure.pure (.value (<-Instr.range t (ρ x)))):=rfl;have hg:(getObj b).run C.P w=.ok (.map es clock) w:=by simp only[getObj,Sem.run,ae]
  have hn:∀ o,(newObj o).run C.P w=.ok w.heap.size (World.push w o):=λ_=>rfl;rw[h3,Rb h hx];simp only[Instr.range,wc,ie ht,Sc,hg,Ed,hn];have:=Left.frame (F:=[(b,.obj (.map es clock))]) (K:=λlv H'=>∃ r,lv=ptr r 0/\H'=[(r,.obj (.mapIter (some b) clock #[] clock)),(b,.obj (.map es clock))]) (v:=.pointer (some ⟨w.heap.size,0,none⟩)) (by simpa using hH) (qj4 (w:=w) (L:=L) (hH.sub (nil_sublist _)) (o:=.mapIter (some b) clock #[] clock) rfl ⟨w.heap.size,rfl,rfl⟩);show Left C w L _ _ _ _;simpa using this
 refine Ra.Oc (Ra.frame (H:=[(b,.obj (.map es clock))]) (F:=F) hF (K:=λlv H'=>∃ r,lv=ptr r 0/\H'=[(r,.obj (.mapIter (some b) clock #[] clock)),(b,.obj (.map es clock))]++F) ?_) ?_;exact Ra.Oc (main _) (λlv H' ⟨r,h1,h2⟩=>⟨lv,H',vR _,Tb _,r,h1,by rw[h2]⟩);rintro lv H' ⟨r,rfl,rfl⟩;exact⟨ptr r 0,_,vR _,⟨[],by simpa using hF.symm⟩,hk r⟩
theorem S.next{r b since last clock:Nat}{seen:Array Nat}{es:Array MapEntry}{F:Heap}(hx:e.ev x=ptr r 0)(hp:H.Perm ((r,.obj (.mapIter (some b) since seen last))::(b,.obj (.map es clock))::F))
  (hold:∀ e∈es.toList,e.born<since/\e.born<last)
  (zH:es.filter (λe=>!seen.contains e.born)=#[]->K (.tuple [bool false]) ((r,.obj (.mapIter (some b) since seen last))::(b,.obj (.map es clock))::F))
  (Jt:∀ e∈(es.filter λe=>!seen.contains e.born).toList,K (.tuple [bool true,.atom e.key,.atom e.val]) ((r,.obj (.mapIter (some b) since (seen.push e.born) clock))::(b,.obj (.map es clock))::F)) :
  Ra C ⟨dst,.next x false,ty,pos,ka,g⟩ e H K X:=by
 refine Ra.frame (H:=[(r,.obj (.mapIter (some b) since seen last)),(b,.obj (.map es clock))]) (F:=F) hp λρ w L h hH=>?_;have hr:=hH.qc (r,.obj (.mapIter (some b) since seen last)) Bb;have hb:=hH.qc (b,.obj (.map es clock)) xf;obtain⟨_,vk,_,Ld,_⟩:=hr;obtain⟨_,nh,_,tF,_⟩:=hb;simp only at vk Ld nh tF;have h3:execOp ρ ⟨dst,.next x false,ty,pos,ka,g⟩=(do Pure.pure (.value (<-Instr.next (ρ x) false ty))):=rfl;have KM:(getObj r).run C.P w=.ok (.mapIter (some b) since seen last) w:=by simp only[getObj,Sem.run,Ld]
 have bD:(getObj b).run C.P w=.ok (.map es clock) w:=by simp only[getObj,Sem.run,tF]
 have wQ:(!seen.isEmpty && !es.isEmpty && es.all λe=>decide (e.born ≥ last))=false:=by
  rw[Bool.eq_false_iff];intro ug;simp only[Yc] at ug;obtain⟨⟨_,h1⟩,h2⟩:=ug;have ub:0<es.size:=by rcases Nat.eq_zero_or_pos es.size with h0|h0;have:es=#[]:=Array.eq_empty_of_size_eq_zero h0;subst this;simp at h1;exact h0
  have h3:=(Array.all_eq_true.1 h2) 0 ub;have h4:=(hold es[0] (by simp)).2;simp at h3;omega
 rw[h3,Rb h hx];simp only[Instr.next,wc,Sc,KM,bD,wQ,gk,if_false];generalize hL:es.filter (λe=>!seen.contains e.born)=left at zH Jt ⊢;have Hh:∀ x∈left.toList,x.born<since:=λx hx=>by subst hL;simp at hx;exact(hold x (by simpa using hx.1)).1
 have e1:left.filter (λx=>decide (x.born<since))=left:=Array.filter_eq_self.2 (λx hx=>by simpa using Hh x (by simpa using hx))
 have e2:left.filter (λx=>decide (x.born ≥ since))=#[]:=by rw[Array.filter_eq_empty_iff];intro x hx;have:=Hh x (by simpa using hx);simp;omega
 simp only[e1,e2,Array.append_empty];by_cases h0:left.size=0;have:left=#[]:=Array.eq_empty_of_size_eq_zero h0;subst this;have I4:(choose (.mapNext 1)).run C.P w=.ok 0 w:=by simp[choose,Sem.run,Question.forced]
 simp only[Array.isEmpty_empty,if_true,Array.map_empty,Array.append_empty,List.size_toArray,List.length_singleton,I4,wc,Sc,Ed];exact⟨.tuple [bool false],_,L,Fr.refl _ _ _,hH,by simp only[wb];exact⟨[.bool false],rfl,by simp only[la,wb];exact⟨_,_,rfl,rfl,rfl⟩⟩,zH rfl⟩;have ub:left.isEmpty=false:=by simp[Array.isEmpty,h0]
 simp only[ub,gk,if_false,Array.empty_append,Array.size_map];obtain⟨j,w1,hj,ax,Ge⟩:∃ (j:Nat) (w1:World),j<left.size/\(w1=w∨w1=w.drew)/\(choose (Question.mapNext left.size)).run C.P w=.ok j w1:=by
  by_cases hf:left.size<=1;exact⟨0,w,by omega,.inl rfl,by simp[choose,Sem.run,Question.forced,hf]⟩;exact⟨_,w.drew,Nat.mod_lt _ zo,.inr rfl,by
   simp only[choose,Sem.run,Question.forced,Mf,hf,if_false,Question.cut];rfl⟩
 have O2:w1.heap[r]? = some (.mapIter (some b) since seen last):=by rcases ax with rfl|rfl <;> exact Ld
 have gd:w1.heap.size=w.heap.size:=by rcases ax with rfl|rfl <;> rfl
 have bR:w1.heap=w.heap:=by rcases ax with rfl|rfl <;> rfl
 simp only[Ge,Array.getElem?_map,Array.getElem?_eq_getElem hj,map_some,wc,Sc,VP O2 rfl,Ed];have hl:Left C w L [(r,.obj (.mapIter (some b) since seen last))] (Eh w1 r (.mapIter (some b) since (seen.push left[j].born) clock)) (.tuple #[.bool true,left[j].key,left[j].val]) (λlv H'=>K lv (H'++[(b,.obj (.map es clock))]++F)):=
  AP (lv:=.tuple [bool true,.atom left[j].key,.atom left[j].val]) (Ma.left (F:=[(b,.obj (.map es clock))]) hH) rfl (by rcases ax with rfl|rfl <;> rfl) (by rcases ax with rfl|rfl <;> rfl) (by rcases ax with rfl|rfl <;> rfl) (by simp[Eh,gd]) (λc hc=>by rw[oM hc,bR]) (bM zo)
   (λ_=>by simp only[wb];exact⟨[.bool true,left[j].key,left[j].val],rfl,by simp only[la,wb];exact⟨_,_,rfl,rfl,_,_,rfl,rfl,_,_,rfl,rfl,rfl⟩⟩) (Jt left[j] (by simp))
 exact Left.frame (F:=[(b,.obj (.map es clock))]) (K:=λlv H'=>K lv (H'++F)) hH hl
theorem Pure.entry{r b since last clock stamp:Nat}{seen:Array Nat}{es:Array MapEntry}{en:MapEntry}(hx:e.ev x=ptr r 0)(hi:(r,ga.obj (.mapIter (some b) since seen last))∈H)(hm:(b,ga.obj (.map es clock))∈H)
  (hl:clock=last) (hb:seen.back? = some stamp) (hf:es.find? (·.born == stamp)=some en):Pure C ⟨dst,.entry x,ty,pos,ka,g⟩ e H (.tuple [.atom en.key,.atom en.val]):=λρ w L h hH=>by
 refine⟨.tuple #[en.key,en.val],by simp only[wb];exact⟨[en.key,en.val],rfl,by simp only[la,wb];exact⟨_,_,rfl,rfl,_,_,rfl,rfl,rfl⟩⟩,λw' ha=>?_⟩;have h1:w'.heap[r]? = some (.mapIter (some b) since seen last):=(ha.1 _ hi).trans (hH.qc _ hi).2.2.2.1;have h2:w'.heap[b]? = some (.map es clock):=(ha.1 _ hm).trans (hH.qc _ hm).2.2.2.1;have h3:execOp ρ ⟨dst,.entry x,ty,pos,ka,g⟩=(do Pure.pure (.value (<-Instr.entry (ρ x)))):=rfl;have KM:(getObj r).run C.P w'=.ok (.mapIter (some b) since seen last) w':=by simp only[getObj,Sem.run,h1]
 have bD:(getObj b).run C.P w'=.ok (.map es clock) w':=by simp only[getObj,Sem.run,h2]
 have ub:(clock != last)=false:=by rw[hl];simp
 rw[h3,Rb h hx];simp only[Instr.entry,wc,Sc,KM,hb,bD,ub,gk,if_false,Ed,hf]
theorem lH{op:Op}(hi:ops[i]? = some ⟨dst,op,ty,pos,ka,none⟩)(hd:Fl n dst)
  (hp:Pure C ⟨dst,op,ty,pos,ka,none⟩ e H lv) (k:Tf C n ops Q HF ua (listed.setIfInBounds i true) (e.put dst lv) H):Rh C n ops Q HF ua listed e H i:=λw0 L0 a w L hL hA gd hE hH=>by
 obtain⟨v,hv,Ge⟩:=hp a.eval w L hE.ev hH;unfold wpOp;rw[hi];simp only;rw[zp (by simp[Region.wanted])];refine .inl ?_;unfold Oper.wp;rw[Ge w (Zp.refl _ _ _)];exact⟨hA,k w0 L0 _ w L hL hA gd (hE.put hd hv) hH⟩
end
def PT:Op->Bool
 |.defer _=>false
 |_=>true
theorem qlY{f:FuncId}{args:Array Value}{R:Ending->World->Prop}(h:Calls P f args w R):CallsIn (Fence.wide.inRound l) n P f args w R:=(callsIn_wide (n:=n)).2 h
theorem qny{row:String}{args:Array Value}{R:Value->World->Prop}(h:Rows P row args w R):RowsIn (Fence.wide.inRound l) n P row args w R:=λc cs _=>
 let ⟨v,w',r,s⟩:=h c cs
 ⟨v,w',r,stepsIn_wide.2 s⟩
theorem qm5{o:Oper}{a:Act}{w:World}{next next':Act->World->Prop}{Q:Exit->Act->World->Prop}(ho:PT o.op=true)
  (hn:∀ a w,next a w->next' a w) (h:o.wp P a w next Q):o.wpIn (Fence.wide.inRound l) n P a w next' Q:=by
 refine⟨λ_ _=>trivial,?_⟩;have hs:o.semAt (Fence.wide.inRound l).round a.eval=execOp a.eval o:=Oper.semAt_eq _ _ _ λc hc=>by rw[hc] at ho;cases ho
 rw[hs];unfold Oper.wp at h;revert h;generalize (execOp a.eval o).run P w=r;intro h;cases r with
 |ok x w'=>
  cases x with
  |value v=>exact hn _ _ h
  |skip=>exact hn _ _ h
  |defer d=>exact hn _ _ h
  |enter f args=>
   refine⟨λhd=>(by cases hd),qlY (Calls.mono h ?_)⟩;intro e TN he
   cases e with
   |returned v=>exact hn _ _ he
   |panicked ch=>exact he
   |outgrown=>exact he
  |row row args=>
   refine⟨λhd=>(by cases hd),qny (Rows.mono h ?_)⟩;intro v TN he
   exact hn _ _ he
  |_=>exact h.elim
 |halt x w'=>cases x <;> first|exact h|exact h.elim
theorem UZ{l n:Nat}{P:Program}{ops:Array Oper}{Q:Exit->Act->World->Prop}(hQ:¬ LetsOut Q):∀ (rest:List Oper) (a:Act) (w:World),(∀ o∈rest,PT o.op=true)->wpList P ops Q rest a w->wpListIn (Fence.wide.inRound l) n P ops Q rest a w
 |[],_,_,_,h=>h
 |o::rest,a,w,ho,h=>by
  unfold wpList at h;unfold wpListIn;split at h;rename_i hw;rw[zp hw];rcases h with h|⟨_,h⟩;exact qm5 (ho o mem_cons_self) (λa w h=>UZ hQ rest a w (λo h=>ho o (Gc _ h)) h) h;exact absurd h hQ
  rename_i hw;rw[zn hw];exact⟨λ_ _=>trivial,UZ hQ rest _ _ (λo h=>ho o (Gc _ h)) h⟩
theorem qk5{id:Nat}{ops:List Oper}{Q:Exit->Act->World->Prop}{a:Act}(hQ:¬ LetsOut Q)(ho:ops.all (λo=>PT o.op)=true)(h:wpList P ops.toArray Q ops a w) :
  (Code.region id ops.toArray false).wpIn (Fence.wide.inRound l) n P Q a w:=wpIn_region_lit (UZ hQ ops a w (by simpa using ho) h)
end Go.GL
namespace Go.GL
open Go.RowKit
variable{C:Ctx}{F:Heap}{L:Live}{b n ty:Nat}{c:Code}{cs Ab:List LV}{w:World}
theorem bU{o o':Obj}(hH:Ma C w L ((b,.obj o)::F))(yV:zG o'=true) :
  Fr (keys ((b,ga.obj o)::F)) w L (w.putObj b o') L ((b,.obj o')::F)/\Ma C (w.putObj b o') L ((b,.obj o')::F):=by
 have h1:Ma C w L ([(b,.obj o)]++F):=hH;have za:b<w.heap.size:=(hH.qc _ mem_cons_self).2.1;have h2:Left C w L [(b,.obj o)] (w.putObj b o') undef (λ_ H'=>H'=[(b,.obj o')]):=
  AP (w':=w.putObj b o') h1.left yV rfl rfl rfl (by simp[World.putObj]) (λc hc=>World.putObj_heap_other hc) (World.putObj_heap_same za) (v:=undef) (lv:=.atom undef) (λ_=>Zc) rfl
 obtain⟨lv,H',L',g1,g2,g3,rfl⟩:=h2;have hL:L'=L:=by funext c;obtain⟨_,_,hl,_⟩:=h1.left.qc _ mem_cons_self;obtain⟨_,_,kx,_⟩:=g2.qc _ mem_cons_self;by_cases he:c=b;subst he;rw[hl,kx];rcases Nat.lt_or_ge c w.heap.size with hc|hc;exact g1.ck c hc (by simpa using he);rw[h1.wf c hc,g2.wf c (by simpa [World.putObj] using hc)]
 subst hL;have:=h1.frame g1 g2;exact⟨this.2,this.1⟩
theorem qoa{o:Obj}(hH:Ma C w L F)(ho:zG o=true) :
  ∃ L',Fr (keys F) w L (w.alloc o) L' ((w.heap.size,.obj o)::F)/\Ma C (w.alloc o) L' ((w.heap.size,.obj o)::F):=by
 have h1:Ma C w L ([]++F):=hH;have:=DC h1.left o 0 [(w.heap.size,.obj o)] (λp hp=>by
  simp only[mem_singleton] at hp;subst hp;exact⟨rfl,by simp[Live.Sd],xu,nM xu ho⟩) (by simp)
 have:=h1.frame this.1 this.2;exact⟨_,this.2,this.1⟩
def Vs(C:Ctx)(l n:Nat)(c:Code)(Q:uc)(e:Env)(H:Heap):Prop:=
 ∀ a w L,nc n a e w L->Ma C w L H->∀ m,c.wpIn (Fence.wide.inRound l) m C.P (lift C n w L (keys H) Q) a w
def UF(k:Env->Heap->Prop):uc
 |.normal,e,H=>k e H
 |_,_,_=>False
section round
variable{C:Ctx}{l n:Nat}{e:Env}{H:Heap}{k:Env->Heap->Prop}
theorem Vs.region{id:Nat}{ops:List Oper}(ho:ops.all (λo=>PT o.op)=true)(h:wa C n ops.toArray (Ud k (UF k)) ops e H):Vs C l n (.region id ops.toArray false) (UF k) e H:=λa w L hE hH m=>by refine qk5 ?_ ho (GA ?_ _ _ _ (h a w L hE hH));rintro⟨a',w',e',H',L',_,_,_,hq⟩;exact hq;rintro ex a' w' hq;refine FY ?_ hq;intro x e H h;cases x <;> exact h
theorem Vs.seq{x y:Code}(h:Vs C l n x (UF λe H=>Vs C l n y (UF k) e H) e H):Vs C l n (.seq x y) (UF k) e H:=λa w L hE hH m=>by
 refine wpIn_seq (wpIn_mono (h a w L hE hH m) λex a' w' hq=>?_);obtain⟨e',H',L',h1,h2,h3,h4⟩:=hq
 cases ex with
 |normal=>exact wpIn_mono (h4 a' w' L' h3 h2 m) λ_ _ _=>rM h1
 |exit id=>exact h4.elim
 |goto id=>exact h4.elim
 |ret=>exact h4.elim
 |panic ch=>exact h4.elim
 |outgrown=>exact h4.elim
theorem Vs.block{id:Nat}{c:Code}(h:Vs C l n c (UF k) e H):Vs C l n (.block id c) (UF k) e H:=λa w L hE hH m=>by
 refine wpIn_block (wpIn_mono (h a w L hE hH m) λex a' w' hq=>?_);obtain⟨e',H',L',h1,h2,h3,h4⟩:=hq
 cases ex with
 |normal=>exact⟨e',H',L',h1,h2,h3,h4⟩
 |exit id=>exact h4.elim
 |goto id=>exact h4.elim
 |ret=>exact h4.elim
 |panic ch=>exact h4.elim
 |outgrown=>exact h4.elim
end round
theorem qi7{F:Fence}{m:Nat}{P:Program}{l:Nat}{args:Array Value}{W:World}{R R':Ending->World->Prop}(h:YieldAt F m P l args W R)(hr:∀ e w,R e w->R' e w):YieldAt F m P l args W R':=by obtain⟨fn,tmps,assign,body,hy,hR⟩:=h;exact⟨fn,tmps,assign,body,hy,hR.mono hr⟩
def xA(C:Ctx)(l:Nat)(args:List LV)(H:Heap)(K:Heap->Prop):Prop:=
 ∀ (vs:List Value) w L,la w L args vs->Ma C w L H->∀ m,YieldAt Fence.wide m C.P l vs.toArray w λe w'=>e=.returned (.bool true)/\Iq C w L H w' K
theorem xA.frame{C:Ctx}{l:Nat}{args:List LV}{G H F:Heap}{K:Heap->Prop}(p:G.Perm (H++F))(h:xA C l args H λH'=>K (H'++F)):xA C l args G K:=λvs w L h1 h2 m=>by have h3:=h2.perm p;refine qi7 (h vs w L h1 h3.left m) ?_;rintro e w' ⟨he,hx⟩;obtain⟨H',L',g1,g2,g3⟩:=Iq.frame h3 hx;exact⟨he,H',L',g1.perm p.symm,g2,g3⟩
theorem xA.mono{C:Ctx}{l:Nat}{args:List LV}{H:Heap}{K K':Heap->Prop}(h:xA C l args H K)(hk:∀ H,K H->K' H):xA C l args H K':=λvs w L h1 h2 m=>qi7 (h vs w L h1 h2 m) λ_ _ hx=>⟨hx.1,hx.2.mono hk⟩
def EW(C:Ctx)(gf:FuncId)(Ua:List LV)(Hc:Heap)(N:Nat)(xs:Nat->List LV):Prop:=
 ∀ (l:Nat) (J:Nat->Heap->Prop),(∀ k H,k<N->J k H->xA C l (xs k) H (J (k+1)))->∀ H0,J 0 H0 ->
  ca C gf (.atom (.func (.yield l) #[] #[])::Ua) (H0++Hc) λr H'=>(∃ v,r=.ret v)/\∃ H1,H'=H1++Hc/\J N H1
def Env.round(j:Env):List (Nat×LV)->Env
 |[]=>j
 |(d,v)::r=>Env.round (j.Sd d v) r
theorem nc.rounds{n:Nat}{w:World}{L:Live}:∀ (ps:List Nat) (TA:List LV) (vs:List Value) (tmps:Array Value) (j:Env),nc n { tmps,defers:=[] } j w L->la w L TA vs->ps.length=TA.length->ps.all (λp=>Nat.blt p n)=true ->
  nc n { tmps:=(ps.zip vs).foldl (λt p=>t.setIfInBounds p.1 p.2) tmps,defers:=[] } (Env.round j (ps.zip TA)) w L
 |[],TA,vs,tmps,j,h,_,_,_=>by simpa [Env.round] using h
 |p::ps,[],vs,tmps,j,h,_,hl,_=>by simp at hl
 |p::ps,lv::TA,vs,tmps,j,h,hr,hl,hp=>by simp only[la] at hr;obtain⟨y,ys,rfl,hy,hr⟩:=hr;simp only[List.all_cons,Yc] at hp;have:=nc.put (dst:=some p) h (by simp only[Fl,aC];exact hp.1) hy;simp only[List.zip_cons_cons,List.foldl_cons,Env.round];exact nc.rounds ps TA ys _ _ this hr (by simpa using hl) hp.2
def Act.flat(a:Act):Env:=⟨λi=>.atom (a.tmps.getD i undef),[]⟩
theorem Act.UB{a:Act}(hn:a.tmps.size=n):nc n { tmps:=a.tmps,defers:=[] } (Act.flat a) w L:=⟨hn,rfl,λ_=>Zc⟩
section range
variable{C:Ctx}{n:Nat}{e:Env}{H:Heap}{Q:uc}
theorem Qa.rangeFunc{g:Operand}{ps:List Nat}{assign body:Code}{gf:FuncId} [Gb C.P gf]{Ua:Array Value}(hg:e.ev g=.atom (.func (.func gf) #[] Ua))(N:Nat)(xs:Nat->List LV)(H0 Hc:Heap)(hp:H.Perm (H0++Hc))
  (ZQ:EW C gf (Ua.toList.map .atom) Hc N xs) (il:∀ k,k<N->ps.length=(xs k).length) (hpn:ps.all (λp=>Nat.blt p n)=true)
  (J:Nat->Heap->Prop) (h0:J 0 H0)
  (round:∀ k H,k<N->J k H->∀ j:Env,j.ds=[]->(∀ i v,e.s i=.atom v->j.s i=.atom v)->∀ (l D:Nat) (o oD:ga),Vs C l n assign (UF λe1 H1=>e1.ds=[]/\∃ bI,H1=(l,o)::(D,oD)::bI/\(∀ o':ga,Vs C l n body (UF λ_ H2=>∃ u7,HSub ((l,o')::(D,oD)::u7) H2/\J (k+1) u7) e1 ((l,o')::(D,oD)::bI))) (Env.round j (ps.zip (xs k))) ((l,o)::(D,oD)::H))
  (done:∀ D H',J N H'->Q .normal ⟨e.s,{ target:=.collected D,args:=#[] }::e.ds⟩ ((D,.obj (.deferred (some [])))::(H'++Hc))) :
  Qa C n (.rangeFunc g ps.toArray assign body) Q e H:=λa w L hE hH=>by
 refine wpIn_wide (n:=1) |>.1 (wpIn_rangeFunc λfn _=>?_);have hgv:a.eval g=.func (.func gf) #[] Ua:=by have:=hE.ev g;rw[hg] at this;simpa only[wb] using this
 obtain⟨rec,Rv⟩:∃ rec:LoopState->Option Code->Loop,rec=λst pe=>{ state:=st,pending:=pe,fn,tmps:=a.tmps,params:=ps.toArray,assign,body,defers:=w.heap.size }:=⟨_,rfl⟩;obtain⟨L1,f1,r1⟩:=qoa (o:=.deferred (some [])) (hH.perm hp) rfl;obtain⟨L2,f2,r2⟩:=qoa (o:=.loop (rec .ready none)) r1 rfl;have gd:(w.alloc (.deferred (some []))).heap.size=w.heap.size+1:=World.size_alloc ..;rw[gd] at f2 r2;have FQ:rec .ready none={ state:=.ready,pending:=none,fn,tmps:=a.tmps,params:=ps.toArray,assign,body,defers:=w.heap.size }:=by rw[Rv]
 refine⟨w.heap.size+1,[{ target:=.collected w.heap.size,args:=#[] }],(w.alloc (.deferred (some []))).alloc (.loop (rec .ready none)),{ target:=.fn (.func gf) Ua,args:=#[.func (.yield (w.heap.size+1)) #[] #[]] },(w.alloc (.deferred (some []))).alloc (.loop (rec .ready none)),gf,
  #[.func (.yield (w.heap.size+1)) #[] #[]]++Ua,(w.alloc (.deferred (some []))).alloc (.loop (rec .ready none)),?_,?_,λ_ _=>trivial,?_,λ_=>Nb _,callsIn_wide.2 ?_⟩
 rw[FQ];exact run_enterLoop_outer _ _ _ _ _;simp only[resolve,hgv];simp[go_sem];simp only[invoke];exact RZ _ _;obtain⟨l,hl⟩:∃ l,l=w.heap.size+1:=⟨_,rfl⟩;obtain⟨D,hD⟩:∃ D,D=w.heap.size:=⟨_,rfl⟩;rw[<-hl,<-hD] at f2 r2 ⊢;rw[<-hD] at r1 f1;have hc:=ZQ l (λk H=>∃ H1,H=(l,.obj (.loop (rec .ready none)))::(D,.obj (.deferred (some [])))::H1/\J k H1) ?_ ((l,.obj (.loop (rec .ready none)))::(D,.obj (.deferred (some [])))::H0) ⟨H0,rfl,h0⟩
 ·have h1:=hc (.func (.yield l) #[] #[]::Ua.toList) _ L2 (by simp only[la,wb];exact⟨_,_,rfl,rfl,Wq _⟩) r2
  have e1:(Value.func (.yield l) #[] #[]::Ua.toList).toArray=#[.func (.yield l) #[] #[]]++Ua:=by apply Array.ext';simp
  rw[e1] at h1;refine Calls.mono h1 ?_;rintro ex w' hx;cases ex with
  |returned v=>
   obtain⟨lv,H',L',g1,g2,g3,_,H1,rfl,bI,rfl,hJ⟩:=hx;have SB:Ma C w' L' ((l,.obj (.loop (rec .ready none)))::((D,.obj (.deferred (some [])))::(bI++Hc))):=g2;obtain⟨_,_,_,Qp,_⟩:=SB.qc _ mem_cons_self;have zB:w'.heap[l]? = some (.loop (rec .ready none)):=Qp;have hpe:(rec .ready none).pending=none:=by rw[Rv]
   have Oo:=(run_endLoop (P:=C.P) zB (by rw[Rv];simp)).trans (congrArg (λp=>Result.ok p _) hpe);have ht:=bU (o':=.loop { rec .ready none with state:=.exhausted }) SB rfl;refine⟨none,_,Oo,?_⟩;have hs:HSub ((D,ga.obj (.deferred (some [])))::(bI++Hc)) ((l,.obj (.loop { rec .ready none with state:=.exhausted }))::((D,.obj (.deferred (some [])))::(bI++Hc))):=Gg Ya;refine⟨⟨e.s,{ target:=.collected D,args:=#[] }::e.ds⟩,(D,.obj (.deferred (some [])))::(bI++Hc),L',?_,ht.2.Zb hs,⟨?_,?_,?_⟩,done D bI hJ⟩;exact Fr.perm hp.symm ((f1.trans (f2.trans (g1.trans ht.1))).Zb hs);exact hE.size;show _::a.defers=_;rw[hE.ds];exact λi=>(hE.dj i).mono (f1.ext.trans (f2.ext.trans (g1.ext.trans ht.1.ext))) _ _
  |panicked ch=>obtain⟨H',L',g1,g2,⟨v,hv⟩,_⟩:=hx;cases hv
  |outgrown=>exact hx.elim
 rintro k H hk ⟨H1,rfl,hJ⟩ vs w1 Lw VE hr m;obtain⟨_,_,_,Qp,_⟩:=hr.qc _ mem_cons_self;have zB:w1.heap[l]? = some (.loop (rec .ready none)):=Qp;have hlen:=VE.length;have hpk:=il k hk;have hy:=run_yield (P:=C.P) (args:=vs.toArray) zB (by rw[Rv];simp;omega);rw[Rv] at hy;refine⟨fn,_,assign,body,hy,roundIn_of_wpIn trivial ?_⟩;have htm:nc n { tmps:=a.tmps,defers:=[] } (Act.flat a) w1 Lw:=Act.UB hE.size;have P1:=nc.rounds ps (xs k) vs a.tmps (Act.flat a) htm VE hpk hpn;have e2:(ps.toArray.zip vs.toArray).foldl (λtmps (t,a)=>tmps.setIfInBounds t a) a.tmps=(ps.zip vs).foldl (λt p=>t.setIfInBounds p.1 p.2) a.tmps:=by simp
 simp only[e2];refine wpIn_mono (round k H1 hk hJ (Act.flat a) rfl ?_ l D _ _ _ w1 Lw P1 hr m) ?_;intro i v hv;have:=hE.dj i;rw[hv] at this;simp only[wb] at this;simp only[Act.flat,this];rintro ex a1 w2 ⟨e1,H2,L2',q1,q2,q3,q4⟩;cases ex with
 |normal=>
  obtain⟨rr,u7,rfl,hb⟩:=q4;obtain⟨_,_,_,I3,_⟩:=q2.qc _ mem_cons_self;have UQ:w2.heap[l]? = some (.loop (rec .ready none)):=I3;have ht:=bU (o':=.loop { rec .ready none with state:=.busy }) q2 rfl;refine⟨_,run_beginRound UQ (by rw[Rv]),?_⟩;refine wpIn_mono (hb (.obj (.loop { rec .ready none with state:=.busy })) a1 _ L2' (q3.mono ht.1.ext) ht.2 m) ?_;rintro ex a3 w3 ⟨e3,H3,L3,p1,p2,p3,p4⟩;cases ex with
  |normal=>
   obtain⟨H3',CM,hJ3⟩:=p4;have p2':=p2.Zb CM;obtain⟨_,_,_,G3,_⟩:=p2'.qc _ mem_cons_self;have TQ:w3.heap[l]? = some (.loop { rec .ready none with state:=.busy }):=G3;have WJ:=bU (o':=.loop (rec .ready none)) p2' rfl;have Oo:=run_endRound (P:=C.P) none TQ;have e3:({ { rec .ready none with state:=.busy } with state:=if (none:Option Code).isNone then .ready else .done,pending:=none }:Loop)=rec .ready none:=by rw[Rv];try rfl
   rw[e3] at Oo;refine⟨.bool true,_,Oo,rfl,?_⟩;exact⟨_,L3,q1.trans (ht.1.trans ((p1.Zb CM).trans WJ.1)),WJ.2,H3',rfl,hJ3⟩
  |exit id=>exact p4.elim
  |goto id=>exact p4.elim
  |ret=>exact p4.elim
  |panic ch=>exact p4.elim
  |outgrown=>exact p4.elim
 |exit id=>exact q4.elim
 |goto id=>exact q4.elim
 |ret=>exact q4.elim
 |panic ch=>exact q4.elim
 |outgrown=>exact q4.elim
end range
def Ss(C:Ctx)(n:Nat)(ops:Array Oper)(Q:uc)(rest:List Oper)(e:Env)(H:Heap):Prop:=
 ∀ a w L,nc n a e w L->Ma C w L H->wpListIn Fence.wide 1 C.P ops (lift C n w L (keys H) Q) rest a w
section W
variable{C:Ctx}{n:Nat}{ops:Array Oper}{Q:uc}{e:Env}{H:Heap}
theorem Ss.nil(h:Q .normal e H):Ss C n ops Q [] e H:=λ_ _ L hE hH=>⟨e,H,L,Fr.refl _ _ _,hH,hE,h⟩
theorem aH{F:Fence}{m:Nat}{P:Program}{Q Q':Exit->Act->World->Prop}(h:∀ e a w,Q e a w->Q' e a w)(ho:LetsOut Q->LetsOut Q'):∀ (l:List Oper) (a:Act) (w:World),wpListIn F m P ops Q l a w->wpListIn F m P ops Q' l a w
 |[],_,_,k=>h _ _ _ k
 |o::l,a,w,k=>by
  unfold wpListIn at k ⊢;split at k
  ·rename_i hw
   rw[zp hw];refine⟨k.1,?_⟩;have k2:=k.2;generalize (o.semAt F.round a.eval).run P w=r at k2 ⊢;cases r with
   |ok x w'=>
    cases x with
    |value v=>exact aH h ho l _ _ k2
    |skip=>exact aH h ho l _ _ k2
    |defer d=>exact aH h ho l _ _ k2
    |enter f args=>
     refine⟨k2.1,k2.2.mono λe TN he=>?_⟩
     cases e with
     |returned v=>exact aH h ho l _ _ he
     |panicked ch=>exact h _ _ _ he
     |outgrown=>exact ho he
    |row row args=>
     refine⟨k2.1,λc cs hr=>?_⟩;obtain⟨v,w2,r2,s2⟩:=k2.2 c cs hr
     exact⟨v,w2,aH h ho l _ _ r2,s2⟩
    |round l' f tmps zc bd=>
     refine⟨k2.1,k2.2.mono λe TN he=>?_⟩
     cases e with
     |returned v=>exact aH h ho l _ _ he
     |panicked ch=>exact h _ _ _ he
     |outgrown=>exact ho he
    |_=>exact k2.elim
   |halt x w'=>cases x <;> first|exact h _ _ _ k2|exact k2.elim
  rename_i hw;rw[zn hw];exact⟨k.1,aH h ho l _ _ k.2⟩
theorem qwG{w1:World}{L1:Live}{K:List Nat}{H1:Heap}(f:Fr K w L w1 L1 H1):LetsOut (lift C n w1 L1 (keys H1) Q)->LetsOut (lift C n w L K Q):=λ⟨a,w',h⟩=>⟨a,w',rM f h⟩
theorem Ss.pure{dst:Option Nat}{op:Op}{ty:TypeId}{pos:String}{ka:Array Edge}{rest:List Oper}{lv:LV}
  (h:Pure C ⟨dst,op,ty,pos,ka,none⟩ e H lv) (hd:Fl n dst) (k:Ss C n ops Q rest (e.put dst lv) H):Ss C n ops Q (⟨dst,op,ty,pos,ka,none⟩::rest) e H:=λa w L hE hH=>by
 obtain⟨v,hv,hr⟩:=h a.eval w L hE.ev hH;unfold wpListIn;rw[zp (by simp[Region.wanted])];refine⟨λ_ _=>trivial,?_⟩;have hs:Oper.semAt (Fence.wide).round a.eval ⟨dst,op,ty,pos,ka,none⟩=execOp a.eval ⟨dst,op,ty,pos,ka,none⟩:=rfl;rw[hs,hr w ⟨λ_ _=>rfl,λ_ _ _=>rfl⟩];exact k _ w L (hE.put hd hv) hH
theorem Ss.yield{dst:Option Nat}{fo:Operand}{l:Nat}{args:List Operand}{yg:Array TypeId}{zc:List LV}{ty:TypeId}{pos:String}{ka:Array Edge}{rest:List Oper}{K:Heap->Prop}(hf:e.ev fo=.atom (.func (.yield l) #[] #[]))
  (has:args.map e.ev=zc) (hy:xA C l zc H K) (hd:Fl n dst) (k:∀ H',K H'->Ss C n ops Q rest (e.put dst (bool true)) H'):Ss C n ops Q (⟨dst,.call { callee:=.value fo,args:=args.toArray,argTypes:=yg },ty,pos,ka,none⟩::rest) e H:=λa w L hE hH=>by
 subst has;have hv:=hE.ev fo;rw[hf] at hv;simp only[wb] at hv;obtain⟨fn,tmps,assign,body,h1,h2⟩:=hy (args.map a.eval) w L (BL hE.ev _) hH 0;unfold wpListIn;rw[zp (by simp[Region.wanted])];refine⟨λ_ _=>trivial,?_⟩;have h3:Oper.semAt (Fence.wide).round a.eval ⟨dst,.call { callee:=.value fo,args:=args.toArray,argTypes:=yg },ty,pos,ka,none⟩=(do let d <-Deferred.ofValue (a.eval fo) (args.toArray.map a.eval);invoke d.target d.args):=rfl
 have h4:(do let d <-Deferred.ofValue (.func (.yield l) #[] #[]) (args.toArray.map a.eval);invoke d.target d.args:Sem Next).run C.P w=.ok (.round l fn tmps assign body) w:=by simp only[Deferred.ofValue,wc,Ed,Sc,invoke];rw[<-h1];simp
 rw[h3,hv,h4];refine⟨λ_=>Nb _,h2.mono ?_⟩;rintro ex w' ⟨rfl,H',L',g1,g2,g3⟩;exact aH (λ_ _ _=>rM g1) (qwG g1) _ _ _ (k H' g3 _ w' L' ((hE.mono g1.ext).put hd Zc) g2)
theorem Qa.RD{id:Nat}{l:List Oper}(h:Ss C n l.toArray Q l e H):Qa C n (.region id l.toArray false) Q e H:=λa w L hE hH=>wpIn_wide (n:=1) |>.1 (wpIn_region_lit (h a w L hE hH))
end W
def IC(C:Ctx)(n:Nat)(rs:List ResultVar)(R:re->Heap->Prop):uc
 |.normal,e,H|.ret,e,H=>∃ D F,e.ds=[{ target:=.collected D,args:=#[] }]/\H.Perm ((D,.obj (.deferred (some [])))::F)/\∃ vs H',Zl C n e F rs vs/\HSub H' F/\R (.ret (qh vs)) H'
 |.panic ch,e,H=>(e.ds=[]/\∃ H',HSub H' H/\R (.panic ch) H')∨∃ D F,e.ds=[{ target:=.collected D,args:=#[] }]/\H.Perm ((D,.obj (.deferred (some [])))::F)/\∃ H',HSub H' F/\R (.panic ch) H'
 |_,_,_=>False
theorem ca.PJ{f:FuncId}{fn:Func}{args:List LV}{H:Heap}{R:re->Heap->Prop}(hf:C.P.funcs[f]? = some fn)(hb:fn.body=some c)(hn:fn.ntmps=n)(h3:Nat.ble fn.results.size 3=true)
  (hl:Nat.ble args.length n=true) (h:Qa C n c (IC C n fn.results.toList R) (yG args) H):ca C f args H R:=λvs w L hv hH=>by
 subst hn;have kx:args.length<=fn.ntmps:=by simpa using hl
 have Gr:fn.results.size<=3:=by simpa using h3
 have hlen:=hv.length;refine callsIn_wide.1 (callsIn_of_wp_marks (F:=Fence.wide) (n:=1) hf hb trivial (wpIn_wide.2 (Go.wp_mono (h _ w L ⟨?_,rfl,λi=>?_⟩ hH) λex a' w' hq=>?_)))
 simp;omega;exact uN;obtain⟨e',H',L',g1,g2,g3,g4⟩:=hq;have turn:∀ {D F},H'.Perm ((D,ga.obj (.deferred (some [])))::F)->(Instr.takeDeferred D).run C.P w'=.ok [] (w'.putObj D (.deferred none))/\Fr (keys H) w L (w'.putObj D (.deferred none)) L' F/\Ma C (w'.putObj D (.deferred none)) L' F/\Ext w' L' (w'.putObj D (.deferred none)) L':=λ{D F} hp=>by have SB:=g2.perm hp;obtain⟨_,_,_,Qp,_⟩:=SB.qc _ mem_cons_self;have zB:w'.heap[D]? = some (.deferred (some [])):=Qp;have ht:=bU (o':=.deferred none) SB rfl;have hs:HSub F ((D,ga.obj (.deferred none))::F):=Gg Ya;have hkp:Fr (keys H) w L w' L' ((D,ga.obj (.deferred (some [])))::F):=g1.Zb ⟨[],by simpa using hp⟩;exact⟨run_takeDeferred zB,(hkp.trans ht.1).Zb hs,ht.2.Zb hs,ht.1.ext⟩
 have ret:nc fn.ntmps a' e' w' L'->(∃ D F,e'.ds=[{ target:=.collected D,args:=#[] }]/\H'.Perm ((D,.obj (.deferred (some [])))::F)/\∃ vs ph,Zl C fn.ntmps e' F fn.results.toList vs/\HSub ph F/\R (.ret (qh vs)) ph) ->
   LeavesInM Fence.wide 1 C.P fn a'.tmps (Bz C w L H (λv=>R (.ret v)) λch=>R (.panic ch)) a'.defers .returning w':=λhE hr=>by
  obtain⟨D,F,h1,hp,lC,ph,h2,h4,h5⟩:=hr;rw[hE.ds,h1];obtain⟨t1,t2,t3,t4⟩:=turn hp;refine⟨by simp,.inl ⟨D,_,rfl,t1,?_⟩⟩;obtain⟨v,r1,r2⟩:=jZ (hE.mono t4) t3 h2 Gr;exact⟨v,r1,qh lC,ph,L',t2.Zb h4,t3.Zb h4,r2,h5⟩
 cases ex with
 |normal=>exact ret g3 g4
 |ret=>exact ret g3 g4
 |panic ch=>rcases g4 with⟨h1,ph,h4,h5⟩|⟨D,F,h1,hp,ph,h4,h5⟩;show LeavesInM _ _ _ _ _ _ a'.defers _ _;rw[show a'.defers=[] from(show a'.defers=e'.ds from g3).trans h1];exact⟨ph,L',g1.Zb h4,g2.Zb h4,h5⟩;show LeavesInM _ _ _ _ _ _ a'.defers _ _;rw[show a'.defers=[{ target:=.collected D,args:=#[] }] from(show a'.defers=e'.ds from g3).trans h1];obtain⟨t1,t2,t3,t4⟩:=turn hp;exact⟨by simp,.inl ⟨D,_,rfl,t1,⟨ph,L',t2.Zb h4,t3.Zb h4,h5⟩⟩⟩
 |exit id=>exact g4.elim
 |goto id=>exact g4.elim
 |outgrown=>exact g4.elim
section
variable{C:Ctx}{n:Nat}{Q:uc}{e:Env}{H:Heap}{k:Env->Heap->Prop}
theorem Qa.mid{A:Type}(l:A->List (Nat×LV))(H1:A->Heap)(F:A->Prop)(hx:Qa C n c (Ud (λe' H'=>∃ a,F a/\At (l a) (H1 a) e.ds e' H') Q) e H)(hy:∀ a,F a->∀ j:Env,j.ds=e.ds->k (Env.Nf j (l a)) (H1 a)):Qa C n c (Ud k Q) e H:=by
 refine Qa.Oc hx ?_;rintro ex e' H' hq;cases ex with
 |normal=>obtain⟨a,hF,h1,rfl,h3⟩:=hq;have:=hy a hF e' h3;rw[Env.sd h1.mem] at this;exact this
 |exit id=>exact hq
 |goto id=>exact hq
 |ret=>exact hq
 |panic ch=>exact hq
 |outgrown=>exact hq
theorem cM{A:Type}{c2:Code}{Q2:uc}(l:A->List (Nat×LV))(H1:A->Heap)(F:A->Prop)(hx:Qa C n c (Ud (λe' H'=>∃ a,F a/\Yr e' (l a)/\HSub (H1 a) H'/\e'.ds=e.ds) Q) e H)(hy:∀ a,F a->∀ j:Env,j.ds=e.ds->Qa C n c2 Q2 (Env.Nf j (l a)) (H1 a)):Qa C n c (Ud (λe H=>Qa C n c2 Q2 e H) Q) e H:=by
 refine Qa.Oc hx ?_;rintro ex e' H' hq;cases ex with
 |normal=>obtain⟨a,hF,h1,h2,h3⟩:=hq;have:=hy a hF e' h3;rw[Env.sd h1.mem] at this;exact cW h2 this
 |exit id=>exact hq
 |goto id=>exact hq
 |ret=>exact hq
 |panic ch=>exact hq
 |outgrown=>exact hq
theorem qsW(hp:zd (b,.cells ty cs) H F)(hs:pw cs Ab)(hH:Ma C w L H):Ma C w L ((b,.cells ty Ab)::F):=by have h1:=hH.perm hp;refine⟨h1.base,h1.Bi,h1.b0,h1.wf,h1.nodup,λp hp=>?_⟩;rcases lc.1 hp with rfl|hp;obtain⟨r1,r2,r3,xs,r4,r5⟩:=h1.qc _ mem_cons_self;exact⟨r1,r2,r3,xs,r4,hs.zI r5⟩;exact h1.qc p (Gc _ hp)
theorem qu7(hp:zd (b,.cells ty cs) H F):∀ x,x∈keys ((b,ga.cells ty Ab)::F)->x∈keys H:=λx hx=>by have:keys ((b,ga.cells ty Ab)::F)=keys ((b,ga.cells ty cs)::F):=rfl;rw[this] at hx;exact((hp.map (·.1)).mem_iff).2 hx
theorem Qa.yx(hp:zd (b,.cells ty cs) H F)(hs:pw cs Ab)(h:Qa C n c Q e ((b,.cells ty Ab)::F)):Qa C n c Q e H:=λa w L hE hH=>
 Go.wp_mono (h a w L hE (qsW hp hs hH)) λ_ _ _=>NU (qu7 hp)
theorem wa.perm{ops:Array Oper}{rest:List Oper}{H':Heap}(s:H.Perm H')(h:wa C n ops Q rest e H'):wa C n ops Q rest e H:=wa.Zb ⟨[],by simpa using s⟩ h
end
section
variable{C:Ctx}{e:Env}{H:Heap}{dst:Option Nat}{ty:TypeId}{pos:String}{ka:Array Edge}{g:Option (Nat×Bool)}{x:Operand}
theorem Pure.Uo{t xT:TypeId} [ht:Ie C.P t]{vs:List Value}(hx:e.ev x=.atom (.iface t (.agg vs.toArray))):Pure C ⟨dst,.typeAssert x xT t true,ty,pos,ka,g⟩ e H (.tuple [.agg (vs.map .atom),bool true]):=
 .Ja λρ w L h=>⟨.tuple #[.agg vs.toArray,.bool true],by
  simp only[wb];exact⟨[.agg vs.toArray,.bool true],rfl,by simp only[la,wb];exact⟨_,_,rfl,⟨vs,rfl,Wq vs⟩,_,_,rfl,rfl,rfl⟩⟩,λw'=>by
  obtain⟨d,hd,hm⟩:=ht.out;have h3:execOp ρ ⟨dst,.typeAssert x xT t true,ty,pos,ka,g⟩=(do Pure.pure (.value (<-Instr.typeAssert (ρ x) xT t true))):=rfl;rw[h3,Rb h hx];simp only[Instr.typeAssert,wc,ie hd,Sc];cases d <;> simp_all⟩
end
theorem Tf.three{ops:Array Oper}{Q:uc}{HF:Heap}{ua:Nat}{listed:Array Bool}{e:Env}{H:Heap}{i j k:Nat}(hr:Region.ready .any ops listed=[i,j,k])(h1:Rh C n ops Q HF ua listed e H i)(h2:Rh C n ops Q HF ua listed e H j)(h3:Rh C n ops Q HF ua listed e H k):Tf C n ops Q HF (ua+1) listed e H:=
 Tf.all hr (by simp) λq hq=>by simp only[lc,List.not_mem_nil,or_false] at hq;rcases hq with rfl|rfl|rfl;exact h1;exact h2;exact h3
theorem JG(l:List (List UInt8)):∀ v∈l.map str,v.cells.length=1:=λv hv=>by obtain⟨x,_,rfl⟩:=Ei hv;rfl
theorem XI:∀ l:List (List UInt8),((l.map str).flatMap LV.cells).all Tq=true
 |[]=>rfl
 |x::l=>by rw[jd,List.flatMap_cons,List.all_append,XI l];try rfl
end Go.GL
namespace Go.GL
open Go.RowKit
variable{F:Heap}{L:Live}{b bytes clock sT xT:Nat}{el kt t:TypeId}{k l:List UInt8}{lv zl:LV}{mo z:Operand}{v zv:Value}{w:World}
section
variable{C:Ctx}{e:Env}{H:Heap}{dst:Option Nat}{ty:TypeId}{pos:String}{ka:Array Edge}{g:Option (Nat×Bool)}{xT yT:TypeId}{x y:Operand}
end
section
variable{C:Ctx}{e:Env}{H:Heap}{x y:Operand}{dst:Option Nat}{ty:TypeId}{pos:String}{ka:Array Edge}{g:Option (Nat×Bool)}{K:LV->Heap->Prop}{X:List PanicEntry->Heap->Prop}
def Qe(l:List UInt8):List LV:=l.map λb=>int .u8 b.toNat
theorem rP(l:List UInt8):(Qe l).length=l.length:=ab _
theorem eY(l m:List UInt8):Qe (l++m)=Qe l++Qe m:=Lf
theorem qm8(l:List UInt8):∀ v∈Qe l,v.cells.length=1:=by intro v hv;obtain⟨b,_,rfl⟩:=Ei hv;rfl
theorem qog(l:List UInt8):(Qe l).flatMap LV.cells=Qe l:=by
 induction l with
 |nil=>rfl
 |cons b l ih=>have h:Qe (b::l)=int .u8 b.toNat::Qe l:=rfl;rw[h,List.flatMap_cons,ih];try rfl
def ec(l:List UInt8):List Value:=l.map λb=>.int .u8 b.toNat
theorem qnv(l:List UInt8):∀ v∈ec l,(∀ cs,v≠Value.agg cs)/\(∀ cs,v≠Value.tuple cs):=by intro v hv;obtain⟨b,_,rfl⟩:=Ei hv;exact And.intro (λ_ h=>by cases h) (λ_ h=>by cases h)
theorem yY{P:Program}(l:List UInt8)(w':World):(Builtin.firstCells 1 l.length (.string ⟨l.toArray⟩)).run P w'=.ok (ec l).toArray w':=by have:=Go.Lib.run_firstCells_string (P:=P) w' 1 ⟨l.toArray⟩;rw[DL] at this;rw[this];try rfl
theorem tM{w:World}{L:Live}:∀ {zs xs:List Value},la w L (zs.map .atom) xs->xs=zs
 |[],_,h=>by simpa only[map_nil,la] using h
 |z::zs,xs,h=>by simp only[jd,la] at h;obtain⟨y,ys,rfl,h1,h2⟩:=h;simp only[wb] at h1;rw[h1,tM h2]
inductive Qg (el:TypeId):Value->List UInt8->Heap->Prop
 |nil:Qg el (.slice none 0 0) [] []
 |row {b:Nat} {l:List UInt8} {xs:List Value} (h0:l≠[]) (h1:l.length<=xs.length) (h2:xs.take l.length=ec l):Qg el (.slice (some ⟨b,0,none⟩) l.length xs.length) l [(b,.cells el (xs.map .atom))]
theorem Wr(l:List UInt8):(ec l).length=l.length:=ab _
theorem nU(l m:List UInt8):ec (l++m)=ec l++ec m:=Lf
theorem zU(hH:Ma C w L []){xs:List Value}(h0:l≠[])(h1:l.length<=xs.length)(h2:xs.take l.length=ec l)(hk:∀ v' H',Qg el v' l H'->K (.atom v') H') :
  Left C w L [] (World.push w (.cells xs.toArray el)) (.slice (some ⟨w.heap.size,0,none⟩) l.length xs.length) K:=by
 have hx:=KG hH.wf (.cells xs.toArray el) 0;have:=DC hH (.cells xs.toArray el) 0 [(w.heap.size,.cells el (xs.map .atom))] (λp hp=>by
  simp only[mem_singleton] at hp;subst hp;exact⟨rfl,by simp[Live.Sd],xs,xu,Wq xs⟩) (by simp)
 exact⟨.atom _,_,_,this.1,this.2,Zc,hk _ _ (Qg.row h0 h1 h2)⟩
theorem Ra.P6{el:Nat} [ht:Ea C.P sT el 1] [hr:Kh C.P el 1 bytes] [je:Bm C.P xT]{m:List UInt8}
  (hx:e.ev x=.atom v) (ha:Qg el v l H) (hy:e.ev y=str m) (Na:(l.length+m.length) * bytes<=140737488355328)
  (hk:∀ v' H',Qg el v' (l++m) H'->K (.atom v') H'):Ra C ⟨dst,.call { callee:=.builtin .append,args:=#[x,y],argTypes:=#[sT,xT] },ty,pos,ka,g⟩ e H K X:=by
 have h0:∀ (cs:Array Bool) (args:Array Value),builtin .append #[sT,xT] ty cs args=(do Pure.pure (.value (<-Builtin.append_ #[sT,xT] ty args))):=λ_ _=>rfl;have hlen:∀ w':World,(Builtin.lenOf (.string ⟨m.toArray⟩)).run C.P w'=.ok m.length w':=λw'=>by simp[Builtin.lenOf,DL]
 cases ha with
 |nil=>
  by_cases ub:m=[];subst ub;intro ρ w L h hH;have hr:(Builtin.append_ #[sT,xT] ty #[.slice none 0 0,.string ⟨#[]⟩]).run C.P w=.ok (.slice none 0 0) w:=by obtain⟨i,hi,T3⟩:=ht.size;simp[Builtin.append_,ie ht.De,ie je.De,sizeOf,typeInfo,hi,Builtin.lenOf,Builtin.firstCells,show(ByteArray.mk #[]).size=0 from rfl,show((ByteArray.mk #[]).extract 0 0).data=#[] from rfl]
  rw[Vq,h0];simp only[map_toArray,jd,map_nil,wc,Rb h hx,Rb h hy,hr,Sc,Ed];exact⟨_,[],L,Fr.refl _ _ _,hH,Zc,hk _ _ Qg.nil⟩;intro ρ w L h hH;have Py:0<m.length:=List.length_pos_iff.2 ub;obtain⟨Pe,rest,r1,r2,r3⟩:=cH (ty:=ty) (P:=C.P) (w:=w) (sT:=sT) (xT:=xT) (a:=none) (len:=0) (cap:=0) (n:=m.length) (xv:=.string ⟨m.toArray⟩) (old:=[]) (new:=ec m) (.inl je.De) hlen (λw' _=>yY m w')
   (λw' _=>by simp[Builtin.firstCells]) (by simpa using Na) zo
  rw[Vq,h0];simp only[map_toArray,jd,map_nil,wc,Rb h hx,Rb h hy,r3,Sc,Ed,List.nil_append,zero_add];have oe:(ec m++rest).length=Pe:=by rw[ya,r2,Wr];omega
  obtain⟨lv,H',L',g1,g2,g3,g4⟩:=zU (K:=K) (el:=el) (l:=m) (xs:=ec m++rest) hH.drew ub (by rw[oe];omega) (by rw[take_left' (Wr m)]) λv' H' h'=>hk v' H' h';rw[oe] at g3
  exact⟨lv,H',L',g1.Ve,g2,g3,g4⟩
 |row ub h1 h2=>
  rename_i b xs;intro ρ w L h hH;obtain⟨Ze,nh,hl,zs,My,RJ⟩:=hH.qc _ (Cp rfl);have hz:=tM RJ;subst hz;simp only at Ze nh hl My;rw[Vq,h0];simp only[map_toArray,jd,map_nil,wc,Rb h hx,Rb h hy];by_cases hc:l.length+m.length<=zs.length;have Ge:=lV (ty:=ty) (P:=C.P) (w:=w) (sT:=sT) (xT:=xT) (s:=1) (a:=some ⟨b,0,none⟩) (len:=l.length) (cap:=zs.length) (n:=m.length) (xv:=.string ⟨m.toArray⟩) (new:=ec m) (.inl je.De) hlen (λw' _=>yY m w') hc;obtain⟨w',r1,r2,r3,r4,r5,r6,r7⟩:=uM (P:=C.P) (b:=b) (off:=0+l.length * 1) (t:=el) (fr:=(0,0)) (ec m) 0 w zs My (by rw[Wr];omega) (λj _ _=>by simp) (qnv m);rw[Ge];simp only[Gf,r1,Sc,Ed];have Cn:(zs.take (0+l.length * 1+0)++ec m++zs.drop (0+l.length * 1+0+(ec m).length)).length=zs.length:=by simp only[ya,List.length_take,List.length_drop,Wr];omega
  have Nt:=SP (v:=.slice (some ⟨b,0,none⟩) (l.length+m.length) zs.length) (lv:=.atom (.slice (some ⟨b,0,none⟩) (l.length+m.length) zs.length)) (K:=K) (Ab:=(zs.take (0+l.length * 1+0)++ec m++zs.drop (0+l.length * 1+0+(ec m).length)).map .atom) hH r2 r3 r4 r5 r6 r7 (by rw[Cn,ab]) (Wq _) Zc (by
   have hb:Qg el (.slice (some ⟨b,0,none⟩) (l++m).length (zs.take (0+l.length * 1+0)++ec m++zs.drop (0+l.length * 1+0+(ec m).length)).length) (l++m) _:=Qg.row (b:=b) (el:=el) (by simp[ub]) (by rw[Cn,ya];exact hc) (by
    have he:0+l.length * 1+0=l.length:=by omega
    rw[he,h2,<-nU,take_left' (Wr _)])
   rw[Cn,ya] at hb;exact hk _ _ hb)
  exact Nt;have hold:∀ w':World,w'.heap=w.heap->(Builtin.firstCells 1 l.length (.slice (some ⟨b,0,none⟩) l.length zs.length)).run C.P w'=.ok (ec l).toArray w':=λw' hw=>by
   have:=vM (P:=C.P) (w:=w') (b:=b) (off:=0) l.length 0 #[] (ec l) (Wr l) (λj x' hj=>by
    have jK:zs[j]? = some x':=by rw[<-h2,List.getElem?_take] at hj;split at hj;exact hj;cases hj
    simp[World.cell?,hw,My,jK])
   simp only[Builtin.firstCells,loadCells,mul_one,this];simp
  obtain⟨Pe,rest,r1,r2,r3⟩:=cH (ty:=ty) (P:=C.P) (w:=w) (sT:=sT) (xT:=xT) (a:=some ⟨b,0,none⟩) (len:=l.length) (cap:=zs.length) (n:=m.length) (xv:=.string ⟨m.toArray⟩) (old:=ec l) (new:=ec m) (.inl je.De) hlen (λw' _=>yY m w') hold Na zo;rw[r3];simp only[Sc,Ed];have oe:(ec l++ec m++rest).length=Pe:=by rw[ya,ya,r2,Wr,Wr];omega
  have PB:Ma C w L []:=hH.sub (nil_sublist _);obtain⟨lv,H',L',g1,g2,g3,g4⟩:=zU (K:=K) (el:=el) (l:=l++m) (xs:=ec l++ec m++rest) PB.drew (by simp[ub]) (by rw[oe,ya];omega) (by rw[<-nU,take_left' (Wr _)]) λv' H' h'=>hk v' H' h';rw[oe,ya] at g3;exact⟨lv,H',L',g1.Ve.wide (by simp),g2,g3,g4⟩
theorem S.gS{el:Nat} [ht:Ea C.P sT el 1] [hr:Kh C.P el 1 bytes] [je:Bm C.P xT]{m:List UInt8}{H1:Heap}{q:Nat×ga}
  (hx:e.ev x=.atom v) (ha:Qg el v l H1) (hy:e.ev y=str m) (Na:(l.length+m.length) * bytes<=140737488355328)
  (hk:∀ v' H',Qg el v' (l++m) H'->K (.atom v') (q::H')):Ra C ⟨dst,.call { callee:=.builtin .append,args:=#[x,y],argTypes:=#[sT,xT] },ty,pos,ka,g⟩ e (q::H1) K X:=by
 refine Ra.Oc (K:=λlv H'=>∃ v' H2,lv=.atom v'/\H'=H2++[q]/\Qg el v' (l++m) H2) (Ra.frame (List.perm_append_singleton _ _).symm (Ra.P6 hx ha hy Na λv' H' h=>⟨v',H',rfl,rfl,h⟩)) ?_;rintro lv H' ⟨v',H2,rfl,rfl,h⟩;exact⟨_,[q]++H2,vR _,⟨[],by simp⟩,hk _ _ h⟩
end
structure qe(es:Array MapEntry)(p:List UInt8->Bool):Prop where
 keys:∀ e∈es.toList,∃ s:List UInt8,e.key=.string ⟨s.toArray⟩/\e.val=.bool true/\p s=true
 all:∀ s,p s=true->∃ e∈es.toList,e.key=.string ⟨s.toArray⟩
theorem qe.nil:qe #[] λ_=>false:=⟨λe he=>by simp at he,λs h=>by cases h⟩
theorem UG(a b:List UInt8):((⟨a.toArray⟩:ByteArray) == ⟨b.toArray⟩)=decide (a=b):=by show(a.toArray == b.toArray)=_;rw[Bool.eq_iff_iff];simp
theorem lZ(k:List UInt8):∀ (es:List MapEntry) (i:Nat),(∀ e∈es,∃ s:List UInt8,e.key=.string ⟨s.toArray⟩/\e.val=.bool true)->(∃ e∈es,e.key=.string ⟨k.toArray⟩) ->
  ∃ (j:Nat) (e:MapEntry),Instr.findNow .string (.string ⟨k.toArray⟩) es i=some (some (i+j,.bool true))/\es[j]? = some e/\e.key=.string ⟨k.toArray⟩
 |[],_,_,h=>by obtain⟨e,he,_⟩:=h;cases he
 |e::es,i,h,hk=>by
  obtain⟨s,h1,h2⟩:=h e mem_cons_self;by_cases hs:k=s;refine⟨0,e,?_,rfl,by rw[h1,hs]⟩;have hb:((⟨k.toArray⟩:ByteArray) == ⟨s.toArray⟩)=true:=by rw[UG,Vg hs]
  simp only[Instr.findNow,h1,Instr.sameNow,hb,h2,Nat.add_zero];have hb:((⟨k.toArray⟩:ByteArray) == ⟨s.toArray⟩)=false:=by rw[UG,decide_eq_false hs]
  obtain⟨e',Aa,Yn⟩:=hk;have fg:e'∈es:=by
   rcases lc.1 Aa with rfl|h3;rw[h1] at Yn;have:s=k:=by simpa using Yn
   exact absurd this.symm hs;exact h3
  obtain⟨j,e2,g1,g2,g3⟩:=lZ k es (i+1) (λx hx=>h x (Gc _ hx)) ⟨e',fg,Yn⟩;refine⟨j+1,e2,?_,g2,g3⟩;simp only[Instr.findNow,h1,Instr.sameNow,hb];rw[g1];congr 3;omega
section
variable{C:Ctx}{e:Env}{H:Heap}{dst:Option Nat}{ty:TypeId}{pos:String}{ka:Array Edge}{g:Option (Nat×Bool)}{K:LV->Heap->Prop}{X:List PanicEntry->Heap->Prop}{x y:Operand}
theorem WG(mh:C.P.underlying kt=some .string)(b:Bool)(k:ByteArray):(Instr.checkKey b 10000 kt (.string k)).run C.P w=.ok () w:=by have Fs:Instr.checkKey b 10000 kt (.string k)=Instr.checkKey b (9999+1) kt (.string k):=rfl;rw[Fs,Instr.checkKey];simp only[wc,ie mh,Sc,Ed]
theorem S.xI(ht:C.P.underlying t=some (.map kt el))(mh:C.P.underlying kt=some .string){es:Array MapEntry}{p:List UInt8->Bool}{m:Operand}(hm:e.ev m=.atom (.map (some b)))(hx:e.ev x=str k)(hz:e.ev z=bool true)
  (hp:zd (b,.obj (.map es clock)) H F) (hs:qe es p) (hk:∀ Ro mc,qe Ro (λs=>p s || decide (s=k))->K (.atom undef) ((b,.obj (.map Ro mc))::F)):Ra C ⟨dst,.insert t m x z,ty,pos,ka,g⟩ e H K X:=by
 by_cases fg:p k=true
 ·refine Ra.KK hp λρ w L h hH=>?_;obtain⟨Ze,nh,hl,ae,je⟩:=hH.qc _ (Cp rfl);simp only at Ze nh hl ae je;have h3:execOp ρ ⟨dst,.insert t m x z,ty,pos,ka,g⟩=(do Instr.mapUpdate t (ρ m) (ρ x) (ρ z);Pure.pure .skip):=rfl;obtain⟨j,e2,g1,g2,g3⟩:=lZ k es.toList 0 (λe he=>by obtain⟨s,h1,h2,_⟩:=hs.keys e he;exact⟨s,h1,h2⟩) (hs.all k fg)
  have hf:(Instr.findKey kt (.string ⟨k.toArray⟩) es.toList).run C.P w=.ok (some (0+j,.bool true)) w:=by simp only[Instr.findKey,wc,ie mh,Sc,g1,Ed]
  have hg:(getObj b).run C.P w=.ok (.map es clock) w:=by simp only[getObj,Sem.run,ae]
  have bD:es[j]? = some e2:=by simpa using g2
  have gl:(Instr.keyThatStays (((es[0+j]?).map (·.key)).getD (.string ⟨k.toArray⟩)) (.string ⟨k.toArray⟩)).run C.P w=.ok (.string ⟨k.toArray⟩) w:=by rw[zero_add,bD];simp only[map_some,getD_some,g3];unfold Instr.keyThatStays;rw[zp (by simp only[Instr.sameBits];rw[UG];simp)];try rfl
  rw[h3,Rb h hm,Rb h hx,Rb h hz];simp only[Instr.mapUpdate,wc,ie ht,Sc,hg,WG mh,hf,gl];have bF:∀ o',(setObj b o').run C.P w=.ok () (Eh w b o'):=λo'=>VP ae rfl;rw[bF];refine AP (w':=Eh w b _) hH rfl rfl rfl rfl (by simp[Eh]) (λc hc=>oM hc) (bM nh) (λ_=>Zc) (hk _ clock ⟨λe' Aa=>?_,λs CQ=>?_⟩);rw[zero_add] at Aa;obtain⟨i,hi,rfl⟩:=List.mem_iff_getElem.1 Aa;simp only[Array.length_toList,Array.size_modify] at hi;rw[Array.getElem_toList,Array.getElem_modify];split;exact⟨k,rfl,rfl,by simp⟩;obtain⟨s,h1,h2,h4⟩:=hs.keys es[i] (by simp);exact⟨s,h1,h2,by simp[h4]⟩
  have il:p s=true:=by rcases Bool.or_eq_true_iff.1 CQ with h4|h4;exact h4;rw[zt h4];exact fg
  obtain⟨e3,h5,h6⟩:=hs.all s il;obtain⟨i,hi,rfl⟩:=List.mem_iff_getElem.1 h5;simp only[Array.length_toList] at hi;rw[Array.getElem_toList] at h6;rw[zero_add];by_cases GV:j=i;refine⟨{ es[i] with key:=.string ⟨k.toArray⟩,val:=.bool true },?_,?_⟩;rw[List.mem_iff_getElem];refine⟨i,by simpa using hi,?_⟩;rw[Array.getElem_toList,Array.getElem_modify,zp GV];subst GV;rw[Array.getElem?_eq_getElem hi] at bD;obtain rfl:=Option.some.inj bD;rw[g3] at h6;exact h6;refine⟨es[i],?_,h6⟩;rw[List.mem_iff_getElem];refine⟨i,by simpa using hi,?_⟩;rw[Array.getElem_toList,Array.getElem_modify,zn GV]
 refine S.insert ht mh hm hx hz hp (λe he=>?_) (hk _ _ ⟨λe' Aa=>?_,λs CQ=>?_⟩);obtain⟨s,h1,_,h2⟩:=hs.keys e he;refine⟨_,h1,?_⟩;rw[UG];intro h3;rw[zt h3] at fg;exact fg h2;rw[Array.toList_push] at Aa;rcases vj Aa with h1|h1;obtain⟨s,h2,h3,h4⟩:=hs.keys e' h1;exact⟨s,h2,h3,by simp[h4]⟩;obtain rfl:=cj h1;exact⟨k,rfl,rfl,by simp⟩;rw[Array.toList_push];rcases Bool.or_eq_true_iff.1 CQ with h4|h4;obtain⟨e,h5,h6⟩:=hs.all s h4;exact⟨e,List.mem_append_left _ h5,h6⟩;exact⟨_,List.mem_append_right _ (Cp rfl),by rw[zt h4]⟩
theorem Pure.Qu(ht:C.P.underlying t=some (.map kt el))(mh:C.P.underlying kt=some .string)(hz:∀ w,(zeroValue el).run C.P w=.ok (.bool false) w){es:Array MapEntry}{p:List UInt8->Bool}(hm:e.ev x=.atom (.map (some b)))(hx:e.ev y=str k)
  (hb:(b,.obj (.map es clock))∈H) (hs:qe es p):Pure C ⟨dst,.lookup t x y false,ty,pos,ka,g⟩ e H (bool (p k)):=λρ w L h hH=>by
 obtain⟨_,_,_,ae,_⟩:=hH.qc _ hb;simp only at ae;refine⟨.bool (p k),Zc,λw' ha=>?_⟩;have hw:w'.heap[b]? = some (.map es clock):=(ha.1 _ hb).trans ae;have h3:execOp ρ ⟨dst,.lookup t x y false,ty,pos,ka,g⟩=(do Pure.pure (.value (<-Instr.lookup t (ρ x) (ρ y) false))):=rfl;have hg:(getObj b).run C.P w'=.ok (.map es clock) w':=by simp only[getObj,Sem.run,hw]
 rw[h3,Rb h hm,Rb h hx];by_cases fg:p k=true;obtain⟨j,e2,g1,g2,g3⟩:=lZ k es.toList 0 (λe he=>by obtain⟨s,h1,h2,_⟩:=hs.keys e he;exact⟨s,h1,h2⟩) (hs.all k fg);have hf:(Instr.findKey kt (.string ⟨k.toArray⟩) es.toList).run C.P w'=.ok (some (0+j,.bool true)) w':=by simp only[Instr.findKey,wc,ie mh,Sc,g1,Ed]
 simp only[Instr.lookup,wc,ie ht,Sc,hg,Ed,WG mh,hf,fg];rfl;have hf:(Instr.findKey kt (.string ⟨k.toArray⟩) es.toList).run C.P w'=.ok none w':=by
  have QQ:=CZ ⟨k.toArray⟩ es.toList 0 λe he=>by obtain⟨s,h1,_,h2⟩:=hs.keys e he;refine⟨_,h1,?_⟩;rw[UG];intro h3;rw[zt h3] at fg;exact fg h2
  simp only[Instr.findKey,wc,ie mh,Sc,QQ,Ed]
 have V3:p k=false:=Bool.eq_false_iff.2 fg;simp only[Instr.lookup,wc,ie ht,Sc,hg,Ed,WG mh,hf,hz,V3];rfl
end
section
variable{C:Ctx}{e:Env}{H:Heap}{dst:Option Nat}{ty:TypeId}{pos:String}{ka:Array Edge}{g:Option (Nat×Bool)}{K:LV->Heap->Prop}{X:List PanicEntry->Heap->Prop}{x y:Operand}
theorem Pure.FJ(ht:C.P.underlying t=some (.map kt el))(mh:C.P.underlying kt=some .string)(hz:∀ w,(zeroValue el).run C.P w=.ok (.int .i64 0) w)(hm:e.ev x=.atom (.map none))(hx:e.ev y=str k):Pure C ⟨dst,.lookup t x y false,ty,pos,ka,g⟩ e H (int .i64 0):=λρ w L h hH=>by
 refine⟨.int .i64 0,Zc,λw' ha=>?_⟩;have h3:execOp ρ ⟨dst,.lookup t x y false,ty,pos,ka,g⟩=(do Pure.pure (.value (<-Instr.lookup t (ρ x) (ρ y) false))):=rfl;rw[h3,Rb h hm,Rb h hx]
 have hf:(Instr.findKey kt (.string ⟨k.toArray⟩) []).run C.P w'=.ok none w':=by simp only[Instr.findKey,wc,ie mh,Sc,Instr.findNow,Ed]
 simp only[Instr.lookup,wc,ie ht,Sc,Ed,WG mh,hf,hz];rfl
end
section
variable{C:Ctx}{e:Env}{H:Heap}{x y:Operand}{dst:Option Nat}{ty:TypeId}{pos:String}{ka:Array Edge}{g:Option (Nat×Bool)}{K:LV->Heap->Prop}{X:List PanicEntry->Heap->Prop}
theorem Ra.fS{el:Nat} [ht:Ea C.P sT el 1] [hr:Kh C.P el 1 bytes]{e2:Nat} [je:Ea C.P xT e2 1]{m:List UInt8}
  (hx:e.ev x=.atom v) (ha:Qg el v l H) (hy:GL.elems (e.ev y)=some (Qe m)) (vB:m≠[]) (Na:(l.length+m.length) * bytes<=140737488355328)
  (hk:∀ v' H',Qg el v' (l++m) H'->K (.atom v') H'):Ra C ⟨dst,.call { callee:=.builtin .append,args:=#[x,y],argTypes:=#[sT,xT] },ty,pos,ka,g⟩ e H K X:=by
 have h0:∀ (cs:Array Bool) (args:Array Value),builtin .append #[sT,xT] ty cs args=(do Pure.pure (.value (<-Builtin.append_ #[sT,xT] ty args))):=λ_ _=>rfl
 cases ha with
 |nil=>
  by_cases ub:m=[];subst ub;exact absurd rfl vB;intro ρ w L h hH;have Py:0<m.length:=List.length_pos_iff.2 ub;obtain⟨ay,cy,nW,Ny,qQ,dB,rH,Ov⟩:=uJ (s:=1) (h y) hy (qm8 m);rw[qog] at dB;have X0:nW=ec m:=tM (zs:=ec m) (by rw[show(ec m).map LV.atom=Qe m from by simp[ec,Qe,map_map,Function.comp_def]];exact dB);subst X0;rw[rP] at Ny qQ Ov;rw[Ny] at Ov;have hlen:∀ w':World,(Builtin.lenOf (.slice ay m.length cy)).run C.P w'=.ok m.length w':=λw'=>by simp[Builtin.lenOf]
  obtain⟨Pe,rest,r1,r2,r3⟩:=cH (ty:=ty) (P:=C.P) (w:=w) (sT:=sT) (xT:=xT) (a:=none) (len:=0) (cap:=0) (n:=m.length) (xv:=.slice ay m.length cy) (old:=[]) (new:=ec m) (.inr ⟨_,je.De⟩) hlen (λw' hw=>Ov C.P w' hw)
   (λw' _=>by simp[Builtin.firstCells]) (by simpa using Na) zo
  rw[Vq,h0];simp only[map_toArray,jd,map_nil,wc,Rb h hx,Ny,r3,Sc,Ed,List.nil_append,zero_add];have oe:(ec m++rest).length=Pe:=by rw[ya,r2,Wr];omega
  obtain⟨lv,H',L',g1,g2,g3,g4⟩:=zU (K:=K) (el:=el) (l:=m) (xs:=ec m++rest) hH.drew ub (by rw[oe];omega) (by rw[take_left' (Wr m)]) λv' H' h'=>hk v' H' h';rw[oe] at g3
  exact⟨lv,H',L',g1.Ve,g2,g3,g4⟩
 |row ub h1 h2=>
  rename_i b xs;intro ρ w L h hH;obtain⟨Ze,nh,hl,zs,My,RJ⟩:=hH.qc _ (Cp rfl);have hz:=tM RJ;subst hz;simp only at Ze nh hl My;obtain⟨ay,cy,nW,Ny,qQ,dB,rH,Ov⟩:=uJ (s:=1) (h y) hy (qm8 m);rw[qog] at dB;have X0:nW=ec m:=tM (zs:=ec m) (by rw[show(ec m).map LV.atom=Qe m from by simp[ec,Qe,map_map,Function.comp_def]];exact dB);subst X0;rw[rP] at Ny qQ Ov;rw[Ny] at Ov;have hlen:∀ w':World,(Builtin.lenOf (.slice ay m.length cy)).run C.P w'=.ok m.length w':=λw'=>by simp[Builtin.lenOf]
  rw[Vq,h0];simp only[map_toArray,jd,map_nil,wc,Rb h hx,Ny];by_cases hc:l.length+m.length<=zs.length;have Ge:=lV (ty:=ty) (P:=C.P) (w:=w) (sT:=sT) (xT:=xT) (s:=1) (a:=some ⟨b,0,none⟩) (len:=l.length) (cap:=zs.length) (n:=m.length) (xv:=.slice ay m.length cy) (new:=ec m) (.inr ⟨_,je.De⟩) hlen (λw' hw=>Ov C.P w' hw) hc;obtain⟨w',r1,r2,r3,r4,r5,r6,r7⟩:=uM (P:=C.P) (b:=b) (off:=0+l.length * 1) (t:=el) (fr:=(0,0)) (ec m) 0 w zs My (by rw[Wr];omega) (λj _ _=>by simp) (qnv m);rw[Ge];simp only[Gf,r1,Sc,Ed];have Cn:(zs.take (0+l.length * 1+0)++ec m++zs.drop (0+l.length * 1+0+(ec m).length)).length=zs.length:=by simp only[ya,List.length_take,List.length_drop,Wr];omega
  have Nt:=SP (v:=.slice (some ⟨b,0,none⟩) (l.length+m.length) zs.length) (lv:=.atom (.slice (some ⟨b,0,none⟩) (l.length+m.length) zs.length)) (K:=K) (Ab:=(zs.take (0+l.length * 1+0)++ec m++zs.drop (0+l.length * 1+0+(ec m).length)).map .atom) hH r2 r3 r4 r5 r6 r7 (by rw[Cn,ab]) (Wq _) Zc (by
   have hb:Qg el (.slice (some ⟨b,0,none⟩) (l++m).length (zs.take (0+l.length * 1+0)++ec m++zs.drop (0+l.length * 1+0+(ec m).length)).length) (l++m) _:=Qg.row (b:=b) (el:=el) (by simp[ub]) (by rw[Cn,ya];exact hc) (by
    have he:0+l.length * 1+0=l.length:=by omega
    rw[he,h2,<-nU,take_left' (Wr _)])
   rw[Cn,ya] at hb;exact hk _ _ hb)
  exact Nt;have hold:∀ w':World,w'.heap=w.heap->(Builtin.firstCells 1 l.length (.slice (some ⟨b,0,none⟩) l.length zs.length)).run C.P w'=.ok (ec l).toArray w':=λw' hw=>by
   have:=vM (P:=C.P) (w:=w') (b:=b) (off:=0) l.length 0 #[] (ec l) (Wr l) (λj x' hj=>by
    have jK:zs[j]? = some x':=by rw[<-h2,List.getElem?_take] at hj;split at hj;exact hj;cases hj
    simp[World.cell?,hw,My,jK])
   simp only[Builtin.firstCells,loadCells,mul_one,this];simp
  obtain⟨Pe,rest,r1,r2,r3⟩:=cH (ty:=ty) (P:=C.P) (w:=w) (sT:=sT) (xT:=xT) (a:=some ⟨b,0,none⟩) (len:=l.length) (cap:=zs.length) (n:=m.length) (xv:=.slice ay m.length cy) (old:=ec l) (new:=ec m) (.inr ⟨_,je.De⟩) hlen (λw' hw=>Ov C.P w' hw) hold Na zo;rw[r3];simp only[Sc,Ed];have oe:(ec l++ec m++rest).length=Pe:=by rw[ya,ya,r2,Wr,Wr];omega
  have PB:Ma C w L []:=hH.sub (nil_sublist _);obtain⟨lv,H',L',g1,g2,g3,g4⟩:=zU (K:=K) (el:=el) (l:=l++m) (xs:=ec l++ec m++rest) PB.drew (by simp[ub]) (by rw[oe,ya];omega) (by rw[<-nU,take_left' (Wr _)]) λv' H' h'=>hk v' H' h';rw[oe,ya] at g3;exact⟨lv,H',L',g1.Ve.wide (by simp),g2,g3,g4⟩
theorem S.NK{el:Nat} [ht:Ea C.P sT el 1] [hr:Kh C.P el 1 bytes]{e2:Nat} [je:Ea C.P xT e2 1]{m:List UInt8}{H1:Heap}{q:Nat×ga}
  (hx:e.ev x=.atom v) (ha:Qg el v l H1) (hy:GL.elems (e.ev y)=some (Qe m)) (vB:m≠[]) (Na:(l.length+m.length) * bytes<=140737488355328)
  (hk:∀ v' H',Qg el v' (l++m) H'->K (.atom v') (q::H')):Ra C ⟨dst,.call { callee:=.builtin .append,args:=#[x,y],argTypes:=#[sT,xT] },ty,pos,ka,g⟩ e (q::H1) K X:=by
 refine Ra.Oc (K:=λlv H'=>∃ v' H2,lv=.atom v'/\H'=H2++[q]/\Qg el v' (l++m) H2) (Ra.frame (List.perm_append_singleton _ _).symm (Ra.fS hx ha hy vB Na λv' H' h=>⟨v',H',rfl,rfl,h⟩)) ?_;rintro lv H' ⟨v',H2,rfl,rfl,h⟩;exact⟨_,[q]++H2,vR _,⟨[],by simp⟩,hk _ _ h⟩
theorem Pure.M6{t el C6 s:Nat} [Ea C.P t C6 s]{Hv:Heap}(hx:e.ev x=.atom v)(ha:Qg el v l Hv):Pure C ⟨dst,.call { callee:=.builtin .len,args:=#[x],argTypes:=#[t] },ty,pos,ka,g⟩ e H (int .i64 l.length):=
 .Ja λρ _ _ h=>⟨_,Zc,λw'=>by
  have hu:=ie (P:=C.P) (Ea.De (t:=t)) w';rw[Vq,dV];cases ha <;> simp[Builtin.len_,hu,goInt,Rb h hx]⟩
end
abbrev KV:=List (List UInt8×LV)
variable{m:KV}
@[reducible] def fj(k:List UInt8):Value:=.string ⟨k.toArray⟩
def ye(m:KV):List (Value×LV):=m.map λp=>(fj p.1,p.2)
def db:KV->List UInt8->Option LV
 |[],_=>none
 |p::r,k=>if p.1=k then some p.2 else db r k
def rc:KV->List UInt8->LV->KV
 |[],k,v=>[(k,v)]
 |p::r,k,v=>if p.1=k then (k,v)::r else p::rc r k v
theorem qm(k k':List UInt8)(v:LV):∀ m:KV,db (rc m k v) k'=if k=k' then some v else db m k'
 |[]=>by simp only[rc,db]
 |p::r=>by unfold rc;by_cases h:p.1=k;rw[zp h];by_cases h':k=k';simp only[db,zp h'];simp only[db,zn h'];rw[zn (by rw[h];exact h')];rw[zn h];simp only[db];rw[qm k k' v r];by_cases h2:p.1=k';rw[zp h2,zn (by rw[<-h2];exact λh3=>h h3.symm)];simp only[zp h2];simp only[zn h2]
theorem BX(k:List UInt8):∀ (m:KV) (es:List MapEntry) (i:Nat),es.map (·.key)=(ye m).map (·.1) ->
  (db m k=none/\(∀ v,rc m k v=m++[(k,v)])/\Instr.findNow .string (fj k) es i=some none) ∨
  ∃ (j:Nat) (e:MapEntry) (v:LV),Instr.findNow .string (fj k) es i=some (some (i+j,e.val))/\es[j]? = some e/\m[j]? = some (k,v)/\db m k=some v/\∀ v',rc m k v'=m.set j (k,v')
 |[],[],i,_=>.inl ⟨rfl,λ_=>rfl,rfl⟩
 |[],_::_,_,h=>by cases h
 |_::_,[],_,h=>by cases h
 |p::m,e::es,i,h=>by
  have h1:e.key=fj p.1:=by have:=(List.cons.inj h).1;exact this
  have h2:es.map (·.key)=(ye m).map (·.1):=(List.cons.inj h).2;by_cases hs:p.1=k
  ·right;have hb:((⟨k.toArray⟩:ByteArray) == ⟨p.1.toArray⟩)=true:=by rw[UG,Vg hs.symm]
   refine⟨0,e,p.2,?_,rfl,by rw[<-hs];try rfl,by simp only[db,zp hs],λv'=>by simp only[rc,zp hs];rfl⟩;simp only[Instr.findNow,h1,Instr.sameNow,hb,Nat.add_zero]
  have hb:((⟨k.toArray⟩:ByteArray) == ⟨p.1.toArray⟩)=false:=by rw[UG,decide_eq_false (λh3=>hs h3.symm)]
  rcases BX k m es (i+1) h2 with⟨g1,g2,g3⟩|⟨j,e2,v,g1,g2,g3,g4,g5⟩;left;refine⟨by simp only[db,zn hs];exact g1,λv=>by simp only[rc,zn hs,g2];rfl,?_⟩;simp only[Instr.findNow,h1,Instr.sameNow,hb];exact g3;right;refine⟨j+1,e2,v,?_,g2,g3,by simp only[db,zn hs];exact g4,λv'=>by simp only[rc,zn hs,g5];rfl⟩;simp only[Instr.findNow,h1,Instr.sameNow,hb];rw[g1];congr 3;omega
theorem la.setAt{w:World}{L:Live}:∀ {cs:List LV} {xs:List Value},la w L cs xs->∀ (j:Nat) {c:LV} {x:Value},wb w L c x->la w L (cs.set j c) (xs.set j x)
 |[],xs,h,j,c,x,hr=>by simp only[la] at h;subst h;simp only[List.set_nil,la]
 |d::cs,xs,h,j,c,x,hr=>by
  simp only[la] at h;obtain⟨y,ys,rfl,h1,h2⟩:=h;cases j with
  |zero=>simp only[List.set_cons_zero,la];exact⟨x,ys,rfl,hr,h2⟩
  |succ j=>simp only[List.set_cons_succ,la];exact⟨y,_,rfl,h1,h2.setAt j hr⟩
section
variable{C:Ctx}{e:Env}{H:Heap}{dst:Option Nat}{ty:TypeId}{pos:String}{ka:Array Edge}{g:Option (Nat×Bool)}{K:LV->Heap->Prop}{X:List PanicEntry->Heap->Prop}{x y:Operand}
theorem qp4{w':World}{L:Live}{mc:Nat}{es Ro:List (Value×LV)}(hH:Ma C w L [(b,.map es clock)])(h1:w'.os=w.os)(h2:w'.tape=w.tape)(h3:w'.output=w.output)
  (h4:w'.heap.size=w.heap.size) (h5:∀ c,c≠b->w'.heap[c]? = w.heap[c]?) (zc:List MapEntry) (h6:w'.heap[b]? = some (.map zc.toArray mc)) (h7:zc.map (·.key)=Ro.map (·.1)) (h8:la w L (Ro.map (·.2)) (zc.map (·.val)))
  (h9:∀ e∈zc,e.born<mc) (sx:(zc.map (·.born)).Nodup) {v:Value} {lv:LV} (hv:∀ L,wb w' L lv v) (hk:K lv [(b,.map Ro mc)]):Left C w L [(b,.map es clock)] w' v K:=by
 obtain⟨Ze,nh,hl,xs,ae,_⟩:=hH.qc _ (Cp rfl);simp only at Ze nh hl ae;have hx:Ext w L w' L:=by
  refine⟨by rw[h4];exact Nb _,λc hc=>?_,λc i hi=>?_,λ_=>Nb _⟩
  by_cases he:c=b;subst he;rw[nM ae rfl];exact nM h6 rfl;exact bH (h5 c he);by_cases he:c=b;subst he;rw[hl] at hi;omega;exact cell_of_heap (h5 c he) i
 refine⟨lv,[(b,.map Ro mc)],L,⟨h1,h2,h3,hx,λc hc hn=>h5 c (by simpa using hn),λ_ _ _=>rfl,λp hp=>.inl (by simp only[mem_singleton] at hp;subst hp;simp)⟩,
  ⟨?_,hH.Bi,by rw[h4];exact hH.b0,by rw[h4];exact hH.wf,by simp,λp hp=>?_⟩,hv L,hk⟩
 exact hH.base.trans ⟨h1,h2,h3,by rw[h4];exact Nb _,λc hc=>h5 c zo⟩;simp only[mem_singleton] at hp;subst hp;exact⟨Ze,by rw[h4];exact nh,hl,zc,h6,h7,la.mono hx _ _ h8,h9,sx⟩
theorem S.fl(hk:∀ b,K (.atom (.map (some b))) ((b,.map (ye []) 0)::H)):Ra C ⟨dst,.makeMap t none,ty,pos,ka,g⟩ e H K X:=by
 refine Ra.mD λρ w L _ hH=>?_;have h3:execOp ρ ⟨dst,.makeMap t none,ty,pos,ka,g⟩=(do Pure.pure (.value (<-Instr.makeMap t none))):=rfl;have h4:(Instr.makeMap t none).run C.P w=.ok (.map (some w.heap.size)) (World.push w (.map #[] 0)):=rfl;rw[h3,wc,h4]
 have:=DC hH (.map #[] 0) 0 [(w.heap.size,.map (ye []) 0)] (λp hp=>by
  simp only[mem_singleton] at hp;subst hp;refine⟨rfl,by simp[Live.Sd],[],xu,rfl,?_,(λe he=>by cases he),List.nodup_nil⟩;show la _ _ [] [];simp only[la]) (by simp)
 exact⟨_,_,_,this.1,this.2,Zc,hk _⟩
theorem S.rc{t kt el:TypeId}(ht:C.P.underlying t=some (.map kt el))(mh:C.P.underlying kt=some .string){b clock:Nat}{m:KV}{F:Heap}{mo z:Operand}{k:List UInt8}{lv:LV}(hm:e.ev mo=.atom (.map (some b)))(hx:e.ev x=str k)(hz:e.ev z=lv)
  (hp:zd (b,.map (ye m) clock) H F) (hk:∀ mc,K (.atom undef) ((b,.map (ye (GL.rc m k lv)) mc)::F)):Ra C ⟨dst,.mapUpdate t mo x z,ty,pos,ka,g⟩ e H K X:=by
 refine Ra.KK hp λρ w L h hH=>?_;obtain⟨Ze,nh,hl,zc,ae,je,UE,rV,hx5⟩:=hH.qc _ (Cp rfl);simp only at Ze nh hl ae je UE;have YJ:wb w L lv (ρ z):=hz▸h z;have h3:execOp ρ ⟨dst,.mapUpdate t mo x z,ty,pos,ka,g⟩=(do Instr.mapUpdate t (ρ mo) (ρ x) (ρ z);Pure.pure .skip):=rfl;have hg:(getObj b).run C.P w=.ok (.map zc.toArray clock) w:=by simp only[getObj,Sem.run,ae]
 have bF:∀ o',(setObj b o').run C.P w=.ok () (Eh w b o'):=λo'=>VP ae rfl;rw[h3,Rb h hm,Rb h hx];rcases BX k m zc 0 je with⟨g1,g2,g3⟩|⟨j,e2,v,g1,g2,g3,g4,g5⟩
 ·have hf:(Instr.findKey kt (fj k) zc.toArray.toList).run C.P w=.ok none w:=by
   simp only[Instr.findKey,wc,ie mh,Sc,g3,Ed]
  simp only[Instr.mapUpdate,wc,ie ht,Sc,hg,WG mh,hf];rw[bF];refine qp4 (w':=Eh w b _) hH rfl rfl rfl (by simp[Eh]) (λc hc=>oM hc) (zc++[⟨fj k,ρ z,clock⟩]) (mc:=clock+1) ((bM nh).trans (by simp)) (Ro:=ye (GL.rc m k lv)) ?_ ?_ ?_ ?_ (λ_=>Zc) (hk _)
  ·rw[g2,ye,Lf,Lf,Lf,<-ye,je]
   try rfl
  rw[g2,ye,Lf,Lf,Lf,<-ye];refine la.append UE ?_;simp only[jd,map_nil,la];exact⟨_,_,rfl,YJ,rfl⟩;intro e' Aa;rcases vj Aa with h1|h1;exact Nat.lt_succ_of_lt (rV e' h1);obtain rfl:=cj h1;exact Nat.lt_succ_self _;rw[Lf,List.nodup_append];refine⟨hx5,by simp,λa ha b' uR he=>?_⟩;obtain⟨e',h1,rfl⟩:=Ei ha;simp only[jd,map_nil,mem_singleton] at uR;have:=rV e' h1;omega
 have hf:(Instr.findKey kt (fj k) zc.toArray.toList).run C.P w=.ok (some (0+j,e2.val)) w:=by simp only[Instr.findKey,wc,ie mh,Sc,g1,Ed]
 have DB:e2.key=fj k:=by
  have h1:(zc.map (·.key))[j]? = some e2.key:=by rw[List.getElem?_map,g2];try rfl
  rw[je,ye,map_map,List.getElem?_map,g3] at h1;exact(Option.some.inj h1).symm
 have gl:(Instr.keyThatStays (((zc.toArray[0+j]?).map (·.key)).getD (fj k)) (fj k)).run C.P w=.ok (fj k) w:=by rw[zero_add,List.getElem?_toArray,g2];simp only[map_some,getD_some,DB];unfold Instr.keyThatStays;rw[zp (by simp only[Instr.sameBits];rw[UG];simp)];try rfl
 simp only[Instr.mapUpdate,wc,ie ht,Sc,hg,WG mh,hf,gl];rw[bF];have B3:zc.toArray.modify (0+j) (λe=>{ e with key:=fj k,val:=ρ z })=(zc.set j { e2 with key:=fj k,val:=ρ z }).toArray:=by
  rw[zero_add];apply Array.ext';simp only[Array.toList_modify];refine List.ext_getElem? λi=>?_;rw[List.getElem?_modify,List.getElem?_set]
  by_cases hi:j=i;subst hi;have za:j<zc.length:=(List.getElem?_eq_some_iff.1 g2).1;rw[zp rfl,g2,zp za];show some _=_;simp;rw[zn hi];cases zc[i]? with
  |none=>rfl
  |some a=>show some _=_;simp[hi]
 refine qp4 (w':=Eh w b _) hH rfl rfl rfl (by simp[Eh]) (λc hc=>oM hc) (zc.set j { e2 with key:=fj k,val:=ρ z }) ((bM nh).trans (by rw[B3])) (Ro:=ye (GL.rc m k lv)) ?_ ?_ ?_ ?_ (λ_=>Zc) (hk _)
 ·rw[g5,ye,map_set,map_set,map_set,je]
  try rfl
 rw[g5,ye,map_set,map_set,map_set];exact la.setAt UE j YJ;intro e' Aa;rcases List.mem_or_eq_of_mem_set Aa with h1|h1;exact rV e' h1;rw[h1];exact rV e2 (List.mem_of_getElem? g2);rw[map_set];have:(zc.map (·.born)).set j e2.born=zc.map (·.born):=by
  refine List.ext_getElem? λi=>?_;rw[List.getElem?_set];split
  ·rename_i h1
   subst h1;split
   ·rw[List.getElem?_map,g2];try rfl
   rename_i h2;rw[List.getElem?_eq_none zo]
  rfl
 rw[this];exact hx5
theorem y'(ht:C.P.underlying t=some (.map kt el))(mh:C.P.underlying kt=some .string)(hz:∀ w,(zeroValue el).run C.P w=.ok zv w)(yM:∀ w L,wb w L zl zv)
  (hH:Ma C w L H) (hb:(b,.map (ye m) clock)∈H):∃ v,wb w L ((db m k).getD zl) v/\∀ w',Zp w L H w'->∀ c,(Instr.lookup t (.map (some b)) (fj k) c).run C.P w'=.ok (if c=true then .tuple #[v,.bool (db m k).isSome] else v) w':=by
 obtain⟨_,_,_,zc,ae,je,UE,_⟩:=hH.qc _ hb;simp only at ae;rcases BX k m zc 0 je with⟨g1,g2,g3⟩|⟨j,e2,v,g1,g2,g3,g4,g5⟩;refine⟨zv,by rw[g1];exact yM w L,λw' ha c=>?_⟩;have hw:w'.heap[b]? = some (.map zc.toArray clock):=(ha.1 _ hb).trans ae;have hg:(getObj b).run C.P w'=.ok (.map zc.toArray clock) w':=by simp only[getObj,Sem.run,hw]
 have hf:(Instr.findKey kt (fj k) zc.toArray.toList).run C.P w'=.ok none w':=by simp only[Instr.findKey,wc,ie mh,Sc,g3,Ed]
 simp only[Instr.lookup,wc,ie ht,Sc,hg,Ed,WG mh,hf,hz,g1];rfl;refine⟨e2.val,?_,λw' ha c=>?_⟩
 ·rw[g4];obtain⟨x,h1,h2⟩:=UE.get (i:=j) (c:=v) (by rw[ye,map_map,List.getElem?_map,g3];try rfl);rw[List.getElem?_map,g2] at h1;obtain rfl:=Option.some.inj h1;exact h2
 have hw:w'.heap[b]? = some (.map zc.toArray clock):=(ha.1 _ hb).trans ae;have hg:(getObj b).run C.P w'=.ok (.map zc.toArray clock) w':=by simp only[getObj,Sem.run,hw]
 have hf:(Instr.findKey kt (fj k) zc.toArray.toList).run C.P w'=.ok (some (0+j,e2.val)) w':=by simp only[Instr.findKey,wc,ie mh,Sc,g1,Ed]
 simp only[Instr.lookup,wc,ie ht,Sc,hg,Ed,WG mh,hf,g4];rfl
theorem Pure.db{t kt el:TypeId}(ht:C.P.underlying t=some (.map kt el))(mh:C.P.underlying kt=some .string){zv:Value}{zl:LV}(hz:∀ w,(zeroValue el).run C.P w=.ok zv w)(yM:∀ w L,wb w L zl zv){b clock:Nat}{m:KV}{k:List UInt8}(hm:e.ev x=.atom (.map (some b)))(hx:e.ev y=str k)
  (hb:(b,.map (ye m) clock)∈H):Pure C ⟨dst,.lookup t x y false,ty,pos,ka,g⟩ e H ((GL.db m k).getD zl):=λρ w L h hH=>by
 obtain⟨v,h1,h2⟩:=y' ht mh hz yM (k:=k) hH hb;refine⟨v,h1,λw' ha=>?_⟩;have h3:execOp ρ ⟨dst,.lookup t x y false,ty,pos,ka,g⟩=(do Pure.pure (.value (<-Instr.lookup t (ρ x) (ρ y) false))):=rfl;rw[h3,Rb h hm,Rb h hx,wc,h2 w' ha false]
 try rfl
theorem Pure.YA(ht:C.P.underlying t=some (.map kt el))(mh:C.P.underlying kt=some .string)(hz:∀ w,(zeroValue el).run C.P w=.ok zv w)(yM:∀ w L,wb w L zl zv)(hm:e.ev x=.atom (.map (some b)))(hx:e.ev y=str k)
  (hb:(b,.map (ye m) clock)∈H):Pure C ⟨dst,.lookup t x y true,ty,pos,ka,g⟩ e H (.tuple [(GL.db m k).getD zl,bool (GL.db m k).isSome]):=λρ w L h hH=>by
 obtain⟨v,h1,h2⟩:=y' ht mh hz yM (k:=k) hH hb;refine⟨.tuple #[v,.bool (GL.db m k).isSome],?_,λw' ha=>?_⟩;simp only[wb];refine⟨[v,.bool (GL.db m k).isSome],rfl,?_⟩;simp only[la];exact⟨_,_,rfl,h1,_,_,rfl,rfl,rfl⟩;have h3:execOp ρ ⟨dst,.lookup t x y true,ty,pos,ka,g⟩=(do Pure.pure (.value (<-Instr.lookup t (ρ x) (ρ y) true))):=rfl;rw[h3,Rb h hm,Rb h hx,wc,h2 w' ha true]
 try rfl
end
class On (P:Program) (t:TypeId) (el:outParam TypeId) (zv:outParam Value) (zl:outParam LV):Prop where
 De:∃ kt,P.underlying t=some (.map kt el)/\P.underlying kt=some .string
 zero:∀ w,(zeroValue el).run P w=.ok zv w
 rep:∀ w L,wb w L zl zv
theorem qwS(w:World)(L:Live)(zs:List Value):wb w L (.agg (zs.map .atom)) (.agg zs.toArray):=by simp only[wb];exact⟨zs,rfl,Wq zs⟩
section
variable{C:Ctx}{e:Env}{H:Heap}{dst:Option Nat}{ty:TypeId}{pos:String}{ka:Array Edge}{g:Option (Nat×Bool)}{K:LV->Heap->Prop}{X:List PanicEntry->Heap->Prop}{x y:Operand}
theorem Pure.nH [h:On C.P t el zv zl](hm:e.ev x=.atom (.map (some b)))(hx:e.ev y=str k)(hb:(b,.map (ye m) clock)∈H)(hg:GL.db m k=some lv) :
  Pure C ⟨dst,.lookup t x y false,ty,pos,ka,g⟩ e H lv:=by
 obtain⟨kt,h1,h2⟩:=h.De;have:=Pure.db (dst:=dst) (ty:=ty) (pos:=pos) (ka:=ka) (g:=g) h1 h2 h.zero h.rep hm hx hb;rwa [hg] at this
theorem Pure.MJ [h:On C.P t el zv zl](hm:e.ev x=.atom (.map (some b)))(hx:e.ev y=str k)(hb:(b,.map (ye m) clock)∈H)(hg:GL.db m k=none) :
  Pure C ⟨dst,.lookup t x y false,ty,pos,ka,g⟩ e H zl:=by
 obtain⟨kt,h1,h2⟩:=h.De;have:=Pure.db (dst:=dst) (ty:=ty) (pos:=pos) (ka:=ka) (g:=g) h1 h2 h.zero h.rep hm hx hb;rwa [hg] at this
theorem Pure.Lv [h:On C.P t el zv zl](hm:e.ev x=.atom (.map (some b)))(hx:e.ev y=str k)(hb:(b,.map (ye m) clock)∈H)(hg:GL.db m k=some lv) :
  Pure C ⟨dst,.lookup t x y true,ty,pos,ka,g⟩ e H (.tuple [lv,bool true]):=by
 obtain⟨kt,h1,h2⟩:=h.De;have:=Pure.YA (dst:=dst) (ty:=ty) (pos:=pos) (ka:=ka) (g:=g) h1 h2 h.zero h.rep hm hx hb;rwa [hg] at this
theorem Pure.jr [h:On C.P t el zv zl](hm:e.ev x=.atom (.map (some b)))(hx:e.ev y=str k)(hb:(b,.map (ye m) clock)∈H)(hg:GL.db m k=none) :
  Pure C ⟨dst,.lookup t x y true,ty,pos,ka,g⟩ e H (.tuple [zl,bool false]):=by
 obtain⟨kt,h1,h2⟩:=h.De;have:=Pure.YA (dst:=dst) (ty:=ty) (pos:=pos) (ka:=ka) (g:=g) h1 h2 h.zero h.rep hm hx hb;rwa [hg] at this
theorem S.Mm [h:On C.P t el zv zl](hm:e.ev mo=.atom (.map (some b)))(hx:e.ev x=str k)(hz:e.ev z=lv)
  (hp:zd (b,.map (ye m) clock) H F) (hk:∀ mc,K (.atom undef) ((b,.map (ye (GL.rc m k lv)) mc)::F)):Ra C ⟨dst,.mapUpdate t mo x z,ty,pos,ka,g⟩ e H K X:=by
 obtain⟨kt,h1,h2⟩:=h.De;exact S.rc h1 h2 hm hx hz hp hk
theorem S.lQ [h:On C.P t el zv zl](hm:e.ev mo=.atom (.map (some b)))(hx:e.ev x=str k)(hz:e.ev z=lv)
  (hp:zd (b,.map (ye m) clock) H F) (hk:∀ mc,K (.atom undef) ((b,.map (ye (GL.rc m k lv)) mc)::F)):Ra C ⟨dst,.insert t mo x z,ty,pos,ka,g⟩ e H K X:=
 λρ w L h1 h2=>(S.Mm (dst:=dst) (ty:=ty) (pos:=pos) (ka:=ka) (g:=g) (X:=X) hm hx hz hp hk) ρ w L h1 h2
theorem S.ed [h:On C.P t el zv zl](m':KV)(hm:e.ev mo=.atom (.map (some b)))(hx:e.ev x=str k)(hz:e.ev z=lv)
  (hp:zd (b,.map (ye m) clock) H F) (he:GL.rc m k lv=m') (hk:∀ mc,K (.atom undef) ((b,.map (ye m') mc)::F)):Ra C ⟨dst,.insert t mo x z,ty,pos,ka,g⟩ e H K X:=
 S.lQ hm hx hz hp (he▸hk)
theorem dT{k:List UInt8}{v:LV}:∀ {m:KV},k ∉ m.map (·.1)->GL.rc m k v=m++[(k,v)]
 |[],_=>rfl
 |p::r,h=>by
  rw[GL.rc,zn (λhe=>h (by rw[jd];exact lc.2 (.inl he.symm))),dT (λhm=>h (by rw[jd];exact Gc _ hm))]
  try rfl
end
variable{C:Ctx}{dst:Option Nat}{ty:TypeId}{pos:String}{ka:Array Edge}{g:Option (Nat×Bool)}{e:Env}{H:Heap}{K:LV->Heap->Prop}{X:List PanicEntry->Heap->Prop}
theorem S.Ou(ht:C.P.underlying t=some (.map kt el))(mh:C.P.underlying kt=some .string){es:Array MapEntry}{p:List UInt8->Bool}{m:Operand}{x:Operand}(hm:e.ev m=.atom (.map (some b)))(hx:e.ev x=str k)(hz:e.ev z=bool true)
  (hp:zd (b,.obj (.map es clock)) H F) (hs:qe es p) (hk:∀ Ro mc,qe Ro (λs=>p s || decide (s=k))->K (.atom undef) ((b,.obj (.map Ro mc))::F)):Ra C ⟨dst,.mapUpdate t m x z,ty,pos,ka,g⟩ e H K X:=
 λρ w L h hH=>(S.xI (dst:=dst) (ty:=ty) (pos:=pos) (ka:=ka) (g:=g) (X:=X) ht mh hm hx hz hp hs hk) ρ w L h hH
theorem qvO{P:Program}{fn:Func}{r s t q:ResultVar}(h:fn.results=#[r,s,t,q]){tmps:Array Value}{u x y:Value}(h1:(Yl tmps r).run P w=.ok v w)(h2:(Yl tmps s).run P w=.ok u w)(h3:(Yl tmps t).run P w=.ok x w)(h4:(Yl tmps q).run P w=.ok y w) :
  (results fn tmps).run P w=.ok (.tuple #[v,u,x,y]) w:=by
 have:results fn tmps=(do let v <-Yl tmps r;let u <-Yl tmps s;let x <-Yl tmps t;let y <-Yl tmps q;Pure.pure (.tuple #[v,u,x,y])):=by cases r <;> cases s <;> cases t <;> cases q <;> simp[results,h,Yl]
 rw[this,rE h1,rE h2,rE h3,rE h4];try rfl
theorem qoB{C:Ctx}{n:Nat}{fn:Func}{e:Env}{H:Heap}{a:Act}(hE:nc n a e w L)(hH:Ma C w L H){vs:List LV}
  (h:Zl C n e H fn.results.toList vs) (h3:fn.results.size=4):∃ v,(results fn a.tmps).run C.P w=.ok v w/\wb w L (qh vs) v:=by
 obtain⟨rs,vk⟩:∃ rs,fn.results=List.toArray rs:=⟨fn.results.toList,by simp⟩;rw[vk] at h h3;simp only[List.size_toArray] at h h3;match rs,vs,h,h3,vk with
 |[r,s,t,q],[x,y,z,o],h,_,vk=>obtain⟨v1,g1,r1⟩:=h.1 a w L hE hH;obtain⟨v2,g2,r2⟩:=h.2.1 a w L hE hH;obtain⟨v3,g3,r3⟩:=h.2.2.1 a w L hE hH;obtain⟨v4,g4,r4⟩:=h.2.2.2.1 a w L hE hH;exact⟨_,qvO vk g1 g2 g3 g4,by simp only[qh,wb];exact⟨[v1,v2,v3,v4],rfl,by simp only[la];exact⟨v1,_,rfl,r1,v2,_,rfl,r2,v3,_,rfl,r3,v4,_,rfl,r4,rfl⟩⟩⟩
 |[_,_,_,_],[],h,_,_=>exact h.elim
 |[_,_,_,_],[_],h,_,_=>exact h.2.elim
 |[_,_,_,_],[_,_],h,_,_=>exact h.2.2.elim
 |[_,_,_,_],[_,_,_],h,_,_=>exact h.2.2.2.elim
 |[_,_,_,_],_::_::_::_::_::_,h,_,_=>exact h.2.2.2.2.elim
theorem ca.QJ{C:Ctx}{f:FuncId}{fn:Func}{c:Code}{n:Nat}{args:List LV}{H:Heap}{R:re->Heap->Prop}(hf:C.P.funcs[f]? = some fn)(hb:fn.body=some c)(hn:fn.ntmps=n)(h3:Nat.beq fn.results.size 4=true)
  (hl:Nat.ble args.length n=true) (h:Qa C n c (od C n fn.results.toList R) (yG args) H):ca C f args H R:=λvs w L hv hH=>by
 subst hn;have kx:args.length<=fn.ntmps:=by simpa using hl
 have Gr:fn.results.size=4:=Nat.eq_of_beq_eq_true h3;have hlen:=hv.length;refine calls_of_wp hf hb (Go.wp_mono (h _ w L ⟨?_,rfl,λi=>?_⟩ hH) λex a' w' hq=>?_)
 simp;omega;exact uN;obtain⟨e',H',L',g1,g2,g3,g4⟩:=hq;have ret:nc fn.ntmps a' e' w' L'->(e'.ds=[]/\∃ vs ph,Zl C fn.ntmps e' H' fn.results.toList vs/\HSub ph H'/\R (.ret (qh vs)) ph) ->
   a'.defers=[]/\∃ v,(results fn a'.tmps).run C.P w'=.ok v w'/\Bz C w L H (λv=>R (.ret v)) (λch=>R (.panic ch)) (.returned v) w':=λhE hr=>by
  obtain⟨h1,lC,ph,h2,h4,h5⟩:=hr;obtain⟨v,r1,r2⟩:=qoB hE g2 h2 Gr;exact⟨hE.ds.trans h1,v,r1,qh lC,ph,L',g1.Zb h4,g2.Zb h4,r2,h5⟩
 cases ex with
 |normal=>exact ret g3 g4
 |ret=>exact ret g3 g4
 |panic ch=>obtain⟨h1,ph,h4,h5⟩:=g4;exact⟨g3.trans h1,ph,L',g1.Zb h4,g2.Zb h4,h5⟩
 |exit id=>exact g4.elim
 |goto id=>exact g4.elim
 |outgrown=>exact g4.elim
end Go.GL
