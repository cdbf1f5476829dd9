import Derived.Laws.IdiomStrings
import Derived.RangeFuncFrom
import Derived.RangeFuncLeaves
import Derived.TacticsIn
import Derived.DeepKeys
import Derived.Lib.Builder
import Derived.Lib.AppendStr
import Derived.StillTail
import Derived.Test.YtjolancjacdeaaaGreatDoorBRowRM1
set_option linter.unusedVariables false
set_option linter.unusedSimpArgs false
set_option maxRecDepth 100000
set_option maxHeartbeats 4000000
open List (mem_singleton mem_cons_self nil_sublist map_nil map_toArray take_left' map_map map_set)
open Nat (mul_one zero_add)
open Option (getD_some map_some)
namespace Go.GL
open Go.RowKit
variable{C:Ctx}{H:Heap}{P:Program}{Q:Ob}{xe:Array TypeId}{Wb:List LV}{c:Code}{e:Env}{f:FuncId}{lv:LV}{n:Nat}{xa:Array Oper}{rest:List Oper}{vs:List Value}
@[reducible] def gb(v:LV):Lc->Heap->Prop:=λr H=>r=.ret v/\H=[]
@[reducible] def Ko(p:LV->Prop):Lc->Heap->Prop:=λr H=>∃ v,r=.ret v/\p v/\H=[]
section
variable{C:Ctx}{e:Env}{H:Heap}{dst:Option Nat}{ty:TypeId}{la:String}{ma:Array Edge}{g:Option (Nat×Bool)}{K:LV->Heap->Prop}{X:List PanicEntry->Heap->Prop}
theorem sF{f:FuncId} [fb C.P f](args:List Operand)(has:args.map e.ev=Wb)(hc:aa C f Wb [] (gb lv))(hk:K lv H) :
  Ja C ⟨dst,.call { callee:=.value (.func f),args:=args.toArray,argTypes:=xe },ty,la,ma,g⟩ e H K X:=
 S.Ef args has hc (by rintro v H' ⟨h,rfl⟩;cases h;exact hk) (by rintro ch H' ⟨h,_⟩;cases h)
theorem S.ff{f:FuncId} [fb C.P f](args:List Operand){p:LV->Prop}(has:args.map e.ev=Wb)(hc:aa C f Wb [] (Ko p))(hk:∀ lv,p lv->K lv H) :
  Ja C ⟨dst,.call { callee:=.value (.func f),args:=args.toArray,argTypes:=xe },ty,la,ma,g⟩ e H K X:=
 S.Ef args has hc (by rintro v H' ⟨u,h,hp,rfl⟩;cases h;exact hk _ hp) (by rintro ch H' ⟨u,h,_⟩;cases h)
theorem S.Qs{fo:Operand} [fb C.P f]{first La:Array Value}(args:List Operand)(hf:e.ev fo=.atom (.func (.func f) first La))
  (has:first.toList.map .atom++args.map e.ev++La.toList.map .atom=Wb) (hc:aa C f Wb [] (gb lv)) (hk:K lv H) :
  Ja C ⟨dst,.call { callee:=.value fo,args:=args.toArray,argTypes:=xe },ty,la,ma,g⟩ e H K X:=
 S.Rf (H1:=[]) (F:=H) args hf has qb hc (by rintro v H' ⟨h,rfl⟩;cases h;exact hk) (by rintro ch H' ⟨h,_⟩;cases h)
theorem Na{rs:List ResultVar}{vs:List LV}(hd:e.ds=[])(h:Eh C n e H rs vs)(hv:Ge vs=lv):oc C n rs (gb lv) .ret e H:=
 rR hd h Fc ⟨by rw[hv],rfl⟩
theorem tj{rs:List ResultVar}{vs:List LV}{p:LV->Prop}(hd:e.ds=[])(h:Eh C n e H rs vs)(hv:p (Ge vs)):oc C n rs (Ko p) .ret e H:=
 rR hd h Fc ⟨_,rfl,hv,rfl⟩
end
theorem QH{w w':World}{L:Live}(hH:Ca C w L [])(h:Below w.heap.size w w'):Fr (keys []) w L w' L []/\Ca C w' L []:=by
 refine⟨⟨h.os,h.tape,h.output,⟨h.size,λb hb=>Wy (h.block b hb),λb i hi=>?_,λ_=>mc _⟩,λb hb _=>h.block b hb,λ_ _ _=>rfl,by simp⟩,
  ⟨hH.base.trans (h.mono hH.b0),hH.ng,Uf hH.b0 h.size,λb hb=>hH.wf b (Uf h.size hb),List.nodup_nil,by simp⟩⟩
 have hb:b<w.heap.size:=by rcases Nat.lt_or_ge b w.heap.size with h1|h1;exact h1;have:=hH.wf b h1;omega
 exact cell_of_heap (h.block b hb) i
theorem aa.Nv{p:Value->Prop}
  (h:∀ w,Below C.B0 C.w0 w->Calls C.P f vs.toArray w λe w'=>∃ v,e=.returned v/\p v/\Below w.heap.size w w'):aa C f (vs.map .atom) [] (λr H=>∃ v,r=.ret (.atom v)/\p v/\H=[]):=λxs w L hv hH=>by
 have hx:xs=vs:=by
  clear h hH;induction vs generalizing xs with
  |nil=>simpa [na] using hv
  |cons v vs ih=>simp only[Tb,na,Wa] at hv;obtain⟨y,ys,rfl,rfl,hv⟩:=hv;rw[ih _ hv]
 subst hx;refine(h w hH.base).mono λe w' he=>?_;obtain⟨v,rfl,hp,hb⟩:=he;obtain⟨h1,h2⟩:=QH hH hb;exact⟨.atom v,[],L,h1,h2,xc,v,rfl,hp,rfl⟩
theorem aa.Ud{p:List Value->Prop}
  (h:∀ w,Below C.B0 C.w0 w->Calls C.P f vs.toArray w λe w'=>∃ us:List Value,e=.returned (.tuple us.toArray)/\p us/\Below w.heap.size w w'):aa C f (vs.map .atom) [] (Ko λlv=>∃ us,p us/\lv=.tuple (us.map .atom)):=λxs w L hv hH=>by
 have hx:xs=vs:=by
  clear h hH;induction vs generalizing xs with
  |nil=>simpa [na] using hv
  |cons v vs ih=>simp only[Tb,na,Wa] at hv;obtain⟨y,ys,rfl,rfl,hv⟩:=hv;rw[ih _ hv]
 subst hx;refine(h w hH.base).mono λe w' he=>?_;obtain⟨us,rfl,hp,hb⟩:=he;obtain⟨h1,h2⟩:=QH hH hb;exact⟨.tuple (us.map .atom),[],L,h1,h2,by simp only[Wa];exact⟨us,rfl,Jl _⟩,_,rfl,⟨us,hp,rfl⟩,rfl⟩
theorem aa.ye{u:Value}
  (h:∀ w,Below C.B0 C.w0 w->Calls C.P f vs.toArray w λe w'=>e=.returned u/\Below w.heap.size w w'):aa C f (vs.map .atom) [] (gb (.atom u)):=
 aa.mono (aa.Nv (p:=λv=>v=u) λw hw=>(h w hw).mono λe w' he=>⟨u,he.1,rfl,he.2⟩) λr H' ⟨v,h1,h2,h3⟩=>⟨by rw[h1,h2],h3⟩
def As(e:Env):List (Nat×LV)->Prop
 |[]=>True
 |(d,v)::r=>e.s d=v/\As e r
theorem As.mem{e:Env}:∀ {l:List (Nat×LV)},As e l->∀ p∈l,e.s p.1=p.2
 |[],_,p,hp=>by cases hp
 |(d,v)::r,h,p,hp=>by rcases Mc.1 hp with rfl|hp;exact h.1;exact As.mem h.2 p hp
def TN(I:Nat->List (Nat×LV)->Heap->Prop)(k:Nat)(ds:List Deferred)(e':Env)(H':Heap):Prop:=
 ∃ m l' se,m<k/\I m l' se/\As e' l'/\HSub se H'/\e'.ds=ds
theorem oL{H:Heap}(I:Nat->List (Nat×LV)->Heap->Prop)(h0:∃ k l H0,I k l H0/\As e l/\HSub H0 H)
  (round:∀ k l H,I k l H->∀ j:Env,j.ds=e.ds->Ga C n c (Bc (TN I k e.ds) Q) (Env.kh j l) H):Ga C n (.loop c) Q e H:=by
 obtain⟨k,l,H0,h0,h1,h2⟩:=h0;refine cW h2 (Ga.loop (λk e' H'=>∃ l H0,I k l H0/\As e' l/\HSub H0 H'/\e'.ds=e.ds) k ⟨l,H0,h0,h1,kb _,rfl⟩ ?_);rintro k e' H' ⟨l,H0,g0,g1,g2,g3⟩;have:=round k l H0 g0 e' g3;rw[Env.wc g1.mem] at this;refine cW g2 (Ga.qc this ?_);rintro ex e2 H2 hq;cases ex with
 |normal=>obtain⟨m,l',H3,r1,r2,r3,r4,r5⟩:=hq;exact⟨m,r1,l',H3,r2,r3,r4,r5⟩
 |exit id=>exact hq
 |goto id=>exact hq
 |ret=>exact hq
 |panic ch=>exact hq
 |outgrown=>exact hq
theorem Ed{a b:Bool}(h:a=b):bool a=bool b:=by rw[h]
def At(l:List (Nat×LV))(H1:Heap)(ds:List Deferred)(e':Env)(H':Heap):Prop:=As e' l/\H'=H1/\e'.ds=ds
theorem ea.Qp{k:Env->Heap->Prop}(l:List (Nat×LV))(H1:Heap)
  (hx:ea C n xa (Bc (At l H1 e.ds) Q) rest e H) (hy:∀ j:Env,j.ds=e.ds->k (Env.kh j l) H1):ea C n xa (Bc k Q) rest e H:=by
 refine ea.qc hx ?_;rintro ex e' H' hq;cases ex with
 |normal=>obtain⟨h1,rfl,h3⟩:=hq;have:=hy e' h3;rw[Env.wc h1.mem] at this;exact this
 |exit id=>exact hq
 |goto id=>exact hq
 |ret=>exact hq
 |panic ch=>exact hq
 |outgrown=>exact hq
theorem Ga.Qp{k:Env->Heap->Prop}(l:List (Nat×LV))(H1:Heap)
  (hx:Ga C n c (Bc (At l H1 e.ds) Q) e H) (hy:∀ j:Env,j.ds=e.ds->k (Env.kh j l) H1):Ga C n c (Bc k Q) e H:=by
 refine Ga.qc hx ?_;rintro ex e' H' hq;cases ex with
 |normal=>obtain⟨h1,rfl,h3⟩:=hq;have:=hy e' h3;rw[Env.wc h1.mem] at this;exact this
 |exit id=>exact hq
 |goto id=>exact hq
 |ret=>exact hq
 |panic ch=>exact hq
 |outgrown=>exact hq
theorem ea.cut{k:Env->Heap->Prop}(l:List (Nat×LV))
  (hx:ea C n xa (Bc (At l H e.ds) Q) rest e H) (hy:∀ j:Env,j.ds=e.ds->k (Env.kh j l) H):ea C n xa (Bc k Q) rest e H:=ea.Qp l H hx hy
theorem cC{k:Env->Heap->Prop}(l:List (Nat×LV))
  (hx:Ga C n c (Bc (At l H e.ds) Q) e H) (hy:∀ j:Env,j.ds=e.ds->k (Env.kh j l) H):Ga C n c (Bc k Q) e H:=Ga.Qp l H hx hy
theorem qkz{a:Act}{w:World}{L:Live}(hE:Mb n a e w L){j d:Nat}(hj:(xa[j]?).bind (·.dst)=some d)(hb:e.s d=.atom undef):yielded xa a.tmps j=none:=by
 have h:=hE.Jg d;rw[hb] at h;simp only[Wa] at h;unfold yielded;rw[hj];simp only[Option.bind_some];rw[Array.getD_eq_getD_getElem?] at h;cases hx:a.tmps[d]? with
 |none=>rfl
 |some x=>rw[hx] at h;simp only[getD_some] at h;subst h;rfl
theorem ea.Vz{dst:Option Nat}{op:Op}{ty:TypeId}{la:String}{ma:Array Edge}{j d:Nat}{c:Bool}
  (hj:(xa[j]?).bind (·.dst)=some d) (hb:e.s d=.atom undef) (hd:Di n dst)
  (k:ea C n xa Q rest (e.put dst (.atom undef)) H):ea C n xa Q (⟨dst,op,ty,la,ma,some (j,c)⟩::rest) e H:=λa w L hE hH=>by
 unfold wpList;rw[zn (by simp[Region.wanted,qkz hE hj hb])];exact k _ w L (hE.put hd (by simp only[Wa])) hH
theorem bf{k:IntKind}{a b:Int}(h:a=b):int k a=int k b:=by rw[h]
theorem Qa{e:Env}{l:List (Nat×LV)}(h:As e l:=by repeat first|exact trivial|refine⟨rfl,?_⟩|refine⟨bf Ia,?_⟩):As e l:=h
class Ve (P:Program) (t:TypeId):Prop where
 zd:∃ ms,P.underlying t=some (.interface ms)
def OW(P:Program)(t:Nat):Bool:=match P.underlying t with|some (.interface _)=>true|_=>false
theorem Ve.of{t:Nat}(h:OW P t=true):Ve P t:=by
 unfold OW at h;refine⟨?_⟩;cases hu:P.underlying t with
 |none=>rw[hu] at h;simp at h
 |some d=>rw[hu] at h;cases d <;> simp_all
section
variable{C:Ctx}{e:Env}{H:Heap}{dst:Option Nat}{ty:TypeId}{la:String}{ma:Array Edge}{g:Option (Nat×Bool)}{xT yT:TypeId}{x:Operand}
theorem dM(t:TypeId)(x y:Value):Op.equal t x y=Op.equalIn (9999+1) t x y:=rfl
theorem qkm{t:TypeId} [h:Ve P t](w:World):(Op.equal t .nilIface .nilIface).run P w=.ok true w:=by obtain⟨ms,hu⟩:=h.zd;rw[dM,Op.equalIn];simp only[Sb,ed hu,lc,Qc]
theorem qjp{t:TypeId} [h:Ve P t](u:TypeId)(p:Value)(w:World):(Op.equal t (.iface u p) .nilIface).run P w=.ok false w:=by obtain⟨ms,hu⟩:=h.zd;rw[dM,Op.equalIn];simp only[Sb,ed hu,lc,Qc]
theorem Pure.xj [Ve C.P xT] (hx:e.ev x=.atom .nilIface):Pure C ⟨dst,.binOp .neq xT x (.const .nilIface) yT,ty,la,ma,g⟩ e H (bool false):=
 .Ka λρ _ _ h=>⟨_,xc,λw'=>by
  have h1:=Cb h hx;have h2:=Cb h (x:=.const .nilIface) rfl;have he:eqGuard .neq xT x (.const .nilIface) .nilIface .nilIface=Pure.pure ():=by simp[eqGuard]
  have hb:binOp .neq xT .nilIface .nilIface=(do Pure.pure (.bool (!(<-Op.equal xT .nilIface .nilIface)))):=rfl;simp only[execOp,h1,h2,he,hb,Sb,Qc,lc,qkm,Bool.not_true]⟩
theorem Pure.ph [Ve C.P xT] {u:TypeId} {p:Value} (hx:e.ev x=.atom (.iface u p)):Pure C ⟨dst,.binOp .neq xT x (.const .nilIface) yT,ty,la,ma,g⟩ e H (bool true):=
 .Ka λρ _ _ h=>⟨_,xc,λw'=>by
  have h1:=Cb h hx;have h2:=Cb h (x:=.const .nilIface) rfl;have he:eqGuard .neq xT x (.const .nilIface) (.iface u p) .nilIface=Pure.pure ():=by simp[eqGuard]
  have hb:binOp .neq xT (.iface u p) .nilIface=(do Pure.pure (.bool (!(<-Op.equal xT (.iface u p) .nilIface)))):=rfl;simp only[execOp,h1,h2,he,hb,Sb,Qc,lc,qjp,Bool.not_false]⟩
theorem uC{a b:List UInt8}(h:a=b):str a=str b:=by rw[h]
theorem Pure.yE{k k0 k':IntKind}{s d:TypeId}{n:Int} [hs:xg C.P s k0] [hd:xg C.P d k'](hx:e.ev x=int k n):Pure C ⟨dst,.convert s d x,ty,la,ma,g⟩ e H (int k' (k'.wrap n)):=Pure.Jz ⟨_,hs.zd⟩ hx
end
end Go.GL
namespace Go.GL
open Go.RowKit
variable{C:Ctx}{F H H1 HF:Heap}{P:Program}{Q:Ob}{ma:Array Edge}{b Xa i l n:Nat}{dst:Option Nat}{e:Env}{qa:Array Bool}{lv:LV}{xa:Array Oper}{la:String}{ty:TypeId}{w:World}
section any
variable{C:Ctx}{n:Nat}{xa:Array Oper}{Q:Ob}{HF:Heap}{Xa:Nat}{qa:Array Bool}{e:Env}{H:Heap}
def Lf(C:Ctx)(n:Nat)(xa:Array Oper)(Q:Ob)(HF:Heap)(Xa:Nat)(qa:Array Bool)(e:Env)(H:Heap)(i:Nat):Prop:=
 ∀ w0 L0 a w L,(∀ b,L0 b<=L b)->rm w0 L0 HF w->(∀ p∈HF,p.1<w.heap.size)->Mb n a e w L->Ca C w L H ->
  wpOp C.P xa (lift C n w L (keys H) Q) i (λa' w'=>rm w0 L0 HF w'/\wpAnyH C.P .any xa (lift C n w L (keys H) Q) (rm w0 L0 HF) Xa (qa.setIfInBounds i true) a' w') a w
theorem Td.all{is:List Nat}(hr:Region.ready .any xa qa=is)(eb:is≠[])(h:∀ i∈is,Lf C n xa Q HF Xa qa e H i):Td C n xa Q HF (Xa+1) qa e H:=λw0 L0 a w L hL hA ld hE hH=>
 wpAnyH_all hr eb λj hj=>h j hj w0 L0 a w L hL hA ld hE hH
theorem lS{op:Op}{g:Option (Nat×Bool)}(hi:xa[i]? = some ⟨dst,op,ty,la,ma,g⟩)(hg:g=none∨∃ j b d,g=some (j,b)/\(xa[j]?).bind (·.dst)=some d/\e.s d=.atom (.bool b))(hd:Di n dst)
  (p:H.Perm (H1++F)) (Jp:HSub HF F)
  (h:Ja C ⟨dst,op,ty,la,ma,g⟩ e H1 (λlv H'=>Td C n xa Q HF Xa (qa.setIfInBounds i true) (e.put dst lv) (H'++F)) λch H'=>∀ e',e'.ds=e.ds->Q (.panic ch) e' (H'++F)) :
  Lf C n xa Q HF Xa qa e H i:=λw0 L0 a w L hL hA ld hE hH=>by
 have Fx:=hH.perm p;have hn:(keys H1++keys F).Nodup:=by simpa [keys] using Fx.nodup
 have qw:∀ q∈HF,q.1 ∉ keys H1:=λq hq hm=>(ct hn).2.2 _ hm _ (List.mem_map_of_mem (Jp.mem q hq)) rfl
 have hw:Region.wanted ⟨dst,op,ty,la,ma,g⟩ (yielded xa a.tmps)=true:=by rcases hg with rfl|⟨j,b,d,rfl,hj,hb⟩;simp[Region.wanted];simp[Region.wanted,UC hE hj hb]
 unfold wpOp;rw[hi];simp only;rw[zp hw];refine .inl (EV (H:=H1) h hd hE Fx.left (λlv H' L' w' a' h1 h2 h3 h4=>?_) λch H' L' w' h1 h2 h3=>?_);have Dp:=Fx.frame h1 h2;have B2:rm w0 L0 HF w':=⟨λq hq=>(h1.block q.1 (ld q hq) (qw q hq)).trans (hA.1 q hq),λb i hi=>(h1.ext.live b i (Nat.lt_of_lt_of_le hi (hL b))).trans (hA.2 b i hi)⟩;exact⟨B2,Yy (λ_ _ _=>BF (Dp.2.perm p.symm)) _ _ _ _ (h4 w0 L0 a' w' L' (λb=>Uf (hL b) (h1.ext.mono b)) B2 (λq hq=>Nat.lt_of_lt_of_le (ld q hq) h1.ext.size) h3 Dp.1)⟩;have Dp:=Fx.frame h1 h2;exact⟨e,H'++F,L',Dp.2.perm p.symm,Dp.1,hE.ds,h3 e rfl⟩
theorem Dh(hr:Region.ready .any xa qa=[i])(h:Lf C n xa Q HF Xa qa e H i):Td C n xa Q HF (Xa+1) qa e H:=
 Td.all hr (by simp) λj hj=>by obtain rfl:=wh hj;exact h
theorem cm{j:Nat}(hr:Region.ready .any xa qa=[i,j])(h:Lf C n xa Q HF Xa qa e H i)(h':Lf C n xa Q HF Xa qa e H j):Td C n xa Q HF (Xa+1) qa e H:=
 Td.all hr (by simp) λk hk=>by rcases Mc.1 hk with rfl|hk;exact h;obtain rfl:=wh hk;exact h'
theorem lW{op:Op}{g:Option (Nat×Bool)}(hi:xa[i]? = some ⟨dst,op,ty,la,ma,g⟩)(hg:g=none∨∃ j b d,g=some (j,b)/\(xa[j]?).bind (·.dst)=some d/\e.s d=.atom (.bool b))(hd:Di n dst)
  (h:Ja C ⟨dst,op,ty,la,ma,g⟩ e H (λlv H'=>Td C n xa Q [] Xa (qa.setIfInBounds i true) (e.put dst lv) H') λch H'=>∀ e',e'.ds=e.ds->Q (.panic ch) e' H') :
  Lf C n xa Q [] Xa qa e H i:=lS (H1:=H) (F:=[]) hi hg hd (by simp) Fc (by simpa using h)
end any
theorem LQ.Up{K:Env->Prop}{rest:List Oper}(d:Nat){b:Bool}(hb:e.s d=bool b)(ht:b=true->LQ C n xa K rest (e.jd d (bool true)) H)(hf:b=false->LQ C n xa K rest (e.jd d (bool false)) H):LQ C n xa K rest e H:=by cases b;have:=hf rfl;rwa [Env.tf hb] at this;have:=ht rfl;rwa [Env.tf hb] at this
section pure
variable{C:Ctx}{e:Env}{H:Heap}{dst:Option Nat}{ty:TypeId}{la:String}{ma:Array Edge}{g:Option (Nat×Bool)}{xT yT:TypeId}{x y:Operand}{k:IntKind}{a b:Int}
theorem Pure.quo(hx:e.ev x=int .i64 a)(hy:e.ev y=int .i64 b)(hb:0<b)(ha:0<=a)(h:a<=9223372036854775807):Pure C ⟨dst,.binOp .quo xT x y yT,ty,la,ma,g⟩ e H (int .i64 (a / b)):=
 .Ka λ_ _ _ h'=>⟨_,xc,yv (Cb h' hx) (Cb h' hy) (by simp) (by simp) (s:=Op.intDiv .quo .i64 a b) (by simp only[binOp,ne_eq,not_true_eq_false,if_false]) (λw=>by
  have h1:a.tdiv b=a / b:=Int.tdiv_eq_ediv_of_nonneg ha;have h2:0<=a / b:=Int.ediv_nonneg ha zo;have h3:a / b<=a:=Int.ediv_le_self _ ha;rw[Op.intDiv,zn zo];simp only[h1];rw[GA zo];rfl)⟩
theorem Pure.rem(hx:e.ev x=int .i64 a)(hy:e.ev y=int .i64 b)(hb:0<b)(ha:0<=a):Pure C ⟨dst,.binOp .rem xT x y yT,ty,la,ma,g⟩ e H (int .i64 (a % b)):=
 .Ka λ_ _ _ h'=>⟨_,xc,yv (Cb h' hx) (Cb h' hy) (by simp) (by simp) (s:=Op.intDiv .rem .i64 a b) (by simp only[binOp,ne_eq,not_true_eq_false,if_false]) (λw=>by
  have h1:a.tmod b=a % b:=Int.tmod_eq_emod_of_nonneg ha;rw[Op.intDiv,zn zo];simp only[h1];rfl)⟩
theorem Pure.Pw{s d el:TypeId} [hs:Aa C.P s el 1] [he:xg C.P el .u8] [hd:Xi C.P d]{l:List UInt8}(hx:elems (e.ev x)=some (l.map λb=>int .u8 b.toNat))(eb:l≠[]) :
  Pure C ⟨dst,.convert s d x,ty,la,ma,g⟩ e H (str l):=λρ w L h _=>by
 obtain⟨a,cap,hv,Kc,hr⟩:=(h x).elems hx;obtain⟨b,off,k',rfl,rz⟩:=hr (by simpa using eb);refine⟨_,xc,λw' ha=>?_⟩;have h0:execOp ρ ⟨dst,.convert s d x,ty,la,ma,g⟩=(do Pure.pure (.value (<-convert s d (ρ x)))):=rfl;have fa:(l.map λb=>int .u8 b.toNat).length=l.length:=by simp
 have:=run_convert_bytes_back (P:=C.P) w' s d el ⟨b,off,none⟩ cap l hs.zd he.zd hd.zd (λj hj=>by
  obtain⟨h1,h2⟩:=rz.get (i:=j) (e:=int .u8 l[j].toNat) (by simp[hj]);simp only[LV.cells,pb,List.length_singleton] at h1 h2;obtain⟨h3,⟨v,h4,h5⟩,_⟩:=h2;simp only[Wa] at h5;subst h5;subst h1;rw[mul_one] at h3 h4;rw[re];rw[ha.2 b _ h3];exact h4)
 rw[h0,hv,fa];simp only[Sb,this,lc,Qc]
end pure
theorem aT(i:Nat){op:Op}
  (hi:xa[i]? = some ⟨dst,op,ty,la,ma,none⟩) (hd:Di n dst) (hp:Pure C ⟨dst,op,ty,la,ma,none⟩ e HF lv) (k:Pa C n xa Q HF Xa (qa.setIfInBounds i true) (e.put dst lv) H) (hs:Region.noSelect xa=true:=by kernel_rfl) (hf:Region.free .any xa qa i=true:=by kernel_rfl) (hr:(Region.ready .any xa qa).contains i=true:=by kernel_rfl)
  (Jp:HSub HF H:=by first|exact HSub.nil _|exact kb _|exact fe Ma|exact Ab pH Fc|exact Ab uc Fc|exact Ab Ig Fc|exact Ab pH dc|exact⟨_,List.Perm.refl _⟩):Pa C n xa Q HF (Xa+1) qa e H:=Pa.take Jp hi hs hf hr hd hp k
theorem Pa.Ao(i:Nat){j d:Nat}{b:Bool}{op:Op}
  (hi:xa[i]? = some ⟨dst,op,ty,la,ma,some (j,b)⟩) (hj:(xa[j]?).bind (·.dst)=some d) (hb:e.s d=.atom (.bool b)) (hd:Di n dst) (hp:Pure C ⟨dst,op,ty,la,ma,some (j,b)⟩ e HF lv) (k:Pa C n xa Q HF Xa (qa.setIfInBounds i true) (e.put dst lv) H) (hs:Region.noSelect xa=true:=by kernel_rfl) (hf:Region.free .any xa qa i=true:=by kernel_rfl) (hr:(Region.ready .any xa qa).contains i=true:=by kernel_rfl)
  (Jp:HSub HF H:=by first|exact HSub.nil _|exact kb _|exact fe Ma|exact Ab pH Fc|exact Ab uc Fc|exact Ab Ig Fc|exact Ab pH dc|exact⟨_,List.Perm.refl _⟩):Pa C n xa Q HF (Xa+1) qa e H:=Pa.Tk Jp hi hj hb hs hf hr hd hp k
theorem lO(i:Nat)(h:Lf C n xa Q HF Xa qa e H i)(hr:Region.ready .any xa qa=[i]:=by kernel_rfl):Td C n xa Q HF (Xa+1) qa e H:=Dh hr h
section
variable{C:Ctx}{e:Env}{H:Heap}{dst:Option Nat}{ty:TypeId}{la:String}{ma:Array Edge}{g:Option (Nat×Bool)}{K:LV->Heap->Prop}{X:List PanicEntry->Heap->Prop}{x y:Operand}
theorem sG{sT xT el s bytes:Nat} [ht:Aa C.P sT el s] [hr:bg C.P el s bytes]{e2 s2:Nat} [zc:Aa C.P xT e2 s2]{v:LV}{es ms:List LV}{A:Heap}
  (hp:H.Perm (H1++A)) (hx:e.ev x=v) (ha:Acc s v es H1 F) (hy:GL.elems (e.ev y)=some ms) (hs:∀ v∈ms,v.cells.length=s) (He:(ms.flatMap LV.cells).all bj=true) (Nb:(es.length+ms.length) * bytes<=140737488355328)
  (hk:∀ v' H',Acc s v' (es++ms) H' F->K v' (A++H')):Ja C ⟨dst,.call { callee:=.builtin .append,args:=#[x,y],argTypes:=#[sT,xT] },ty,la,ma,g⟩ e H K X:=by
 refine Ja.qc (K:=λlv H'=>∃ H2,H'=H2++A/\Acc s lv (es++ms) H2 F) (Ja.frame hp (S.acc hx ha hy hs He Nb λv' H' h=>⟨H',rfl,h⟩)) ?_;rintro lv H' ⟨H2,rfl,h⟩;exact⟨lv,A++H2,vR _,⟨[],by simpa using dd⟩,hk _ _ h⟩
theorem S.Cr{sT xT el s bytes:Nat} [ht:Aa C.P sT el s] [hr:bg C.P el s bytes]{e2 s2:Nat} [zc:Aa C.P xT e2 s2]{v:LV}{es ms:List LV}{q:Nat×da}
  (hx:e.ev x=v) (ha:Acc s v es H1 F) (hy:GL.elems (e.ev y)=some ms) (hs:∀ v∈ms,v.cells.length=s) (He:(ms.flatMap LV.cells).all bj=true) (Nb:(es.length+ms.length) * bytes<=140737488355328)
  (hk:∀ v' H',Acc s v' (es++ms) H' F->K v' (q::H')):Ja C ⟨dst,.call { callee:=.builtin .append,args:=#[x,y],argTypes:=#[sT,xT] },ty,la,ma,g⟩ e (q::H1) K X:=
 sG (A:=[q]) ((List.perm_append_singleton _ _).symm) hx ha hy hs He Nb hk
end
def BA:Obj->Bool
 |.cells _ _ _=>false
 |_=>true
theorem yF{o:Obj}(h:w.heap[b]? = some o)(ho:BA o=true):w.shape? b=none:=by simp only[World.shape?,h];cases o <;> simp_all [BA]
section
variable{C:Ctx}{e:Env}{H:Heap}{dst:Option Nat}{ty:TypeId}{la:String}{ma:Array Edge}{g:Option (Nat×Bool)}{K:LV->Heap->Prop}{X:List PanicEntry->Heap->Prop}{x y:Operand}
theorem oZ{L:Live}(hH:Ca C w L []){o:Obj}(ho:BA o=true){v:Value}(hk:K (.atom v) [(w.heap.size,.obj o)]):Left C w L [] (World.push w o) v K:=by
 have:=gx hH o 0 [(w.heap.size,.obj o)] (λp hp=>by
  simp only[mem_singleton] at hp;subst hp;exact⟨rfl,by simp[Live.jd],jq,yF jq ho⟩) (by simp)
 exact⟨_,_,_,this.1,this.2,xc,hk⟩
theorem TH{w':World}{L:Live}{o o':Obj}(hH:Ca C w L [(b,.obj o)])(JM:BA o'=true)(h1:w'.os=w.os)(h2:w'.tape=w.tape)(h3:w'.output=w.output)
  (h4:w'.heap.size=w.heap.size) (h5:∀ c,c≠b->w'.heap[c]? = w.heap[c]?) (h6:w'.heap[b]? = some o') {v:Value} {lv:LV} (hv:∀ L,Wa w' L lv v) (hk:K lv [(b,.obj o')]):Left C w L [(b,.obj o)] w' v K:=by
 obtain⟨Jd,Rd,hl,tc,zc⟩:=hH.Gb _ (Ll rfl);simp only at Jd Rd hl tc zc;have hx:Ext w L w' L:=by
  refine⟨by rw[h4];exact mc _,λc hc=>?_,λc i hi=>?_,λ_=>mc _⟩
  by_cases he:c=b;subst he;rw[zc];exact yF h6 JM;exact Wy (h5 c he);by_cases he:c=b;subst he;rw[hl] at hi;omega;exact cell_of_heap (h5 c he) i
 refine⟨lv,[(b,.obj o')],L,⟨h1,h2,h3,hx,λc hc hn=>h5 c (by simpa using hn),λ_ _ _=>rfl,λp hp=>.inl (by simp only[mem_singleton] at hp;subst hp;simp)⟩,
  ⟨?_,hH.ng,by rw[h4];exact hH.b0,by rw[h4];exact hH.wf,by simp,λp hp=>?_⟩,hv L,hk⟩
 exact hH.base.trans ⟨h1,h2,h3,by rw[h4];exact mc _,λc hc=>h5 c zo⟩;simp only[mem_singleton] at hp;subst hp;exact⟨Jd,by rw[h4];exact Rd,hl,h6,yF h6 JM⟩
theorem S.makeMap{t:TypeId}(hk:∀ b,K (.atom (.map (some b))) ((b,.obj (.map #[] 0))::H)):Ja C ⟨dst,.makeMap t none,ty,la,ma,g⟩ e H K X:=by refine Ja.Kx λρ w L _ hH=>?_;have h3:execOp ρ ⟨dst,.makeMap t none,ty,la,ma,g⟩=(do Pure.pure (.value (<-Instr.makeMap t none))):=rfl;have h4:(Instr.makeMap t none).run C.P w=.ok (.map (some w.heap.size)) (World.push w (.map #[] 0)):=rfl;rw[h3,Sb,h4];exact oZ hH rfl (hk _)
def Vf(w:World)(b:Nat)(o:Obj):World:={ w with heap:=w.heap.setIfInBounds b o }
theorem zF{c:Nat}{o:Obj}(h:c≠b):(Vf w b o).heap[c]? = w.heap[c]? := by
 simp only[Vf,Array.getElem?_setIfInBounds];rw[zn (Ne.symm h)]
theorem CF{o:Obj}(h:b<w.heap.size):(Vf w b o).heap[b]? = some o:=by simp only[Vf,Array.getElem?_setIfInBounds];simp[h]
theorem rI{o o':Obj}(h:w.heap[b]? = some o)(ho:BA o=true):(setObj b o').run P w=.ok () (Vf w b o'):=by simp only[setObj,Sem.run,h];cases o <;> first|rfl|(simp[BA] at ho)
theorem PQ(k:ByteArray):∀ (es:List MapEntry) (i:Nat),(∀ e∈es,∃ s,e.key=.string s/\¬ (k == s)=true)->Instr.findNow .string (.string k) es i=some none
 |[],_,_=>rfl
 |e::es,i,h=>by
  obtain⟨s,hs,eb⟩:=h e mem_cons_self;have zz:(k == s)=false:=by simpa using eb
  simp only[Instr.findNow,hs,Instr.sameNow,zz];exact PQ k es (i+1) λe he=>h e (Sc _ he)
theorem S.insert{t kt el:TypeId}(ht:C.P.underlying t=some (.map kt el))(df:C.P.underlying kt=some .string){b ga:Nat}{es:Array MapEntry}{F:Heap}{m z:Operand}{k:ByteArray}{v:Value}(hm:e.ev m=.atom (.map (some b)))(hx:e.ev x=.atom (.string k))(hz:e.ev z=.atom v)
  (hp:Ec (b,.obj (.map es ga)) H F) (Li:∀ e∈es.toList,∃ s,e.key=.string s/\¬ (k == s)=true) (hk:K (.atom undef) ((b,.obj (.map (es.push { key:=.string k,val:=v,born:=ga }) (ga+1)))::F)):Ja C ⟨dst,.insert t m x z,ty,la,ma,g⟩ e H K X:=by
 refine Ja.CB hp λρ w L h hH=>?_;obtain⟨Jd,Rd,hl,tc,zc⟩:=hH.Gb _ (Ll rfl);simp only at Jd Rd hl tc zc;have h3:execOp ρ ⟨dst,.insert t m x z,ty,la,ma,g⟩=(do Instr.mapUpdate t (ρ m) (ρ x) (ρ z);Pure.pure .skip):=rfl
 have hf:(Instr.findKey kt (.string k) es.toList).run C.P w=.ok none w:=by simp only[Instr.findKey,Sb,ed df,lc,PQ k es.toList 0 Li,Qc]
 have hc:(Instr.checkKey false 10000 kt (.string k)).run C.P w=.ok () w:=by have Lu:Instr.checkKey false 10000 kt (.string k)=Instr.checkKey false (9999+1) kt (.string k):=rfl;rw[Lu,Instr.checkKey];simp only[Sb,ed df,lc,Qc]
 have hg:(getObj b).run C.P w=.ok (.map es ga) w:=by simp only[getObj,Sem.run,tc]
 rw[h3,Cb h hm,Cb h hx,Cb h hz];simp only[Instr.mapUpdate,Sb,ed ht,lc,hg,hc,hf];have hs:(setObj b (.map (es.push { key:=.string k,val:=v,born:=ga }) (ga+1))).run C.P w=.ok () (Vf w b (.map (es.push { key:=.string k,val:=v,born:=ga }) (ga+1))):=rI tc rfl;rw[hs];exact TH (w':=Vf w b (.map (es.push { key:=.string k,val:=v,born:=ga }) (ga+1))) hH rfl rfl rfl rfl (by simp[Vf]) (λc hc=>zF hc) (CF Rd) (λ_=>xc) hk
theorem S.range{t kt el:TypeId}(ht:C.P.underlying t=some (.map kt el)){b ga:Nat}{es:Array MapEntry}(hx:e.ev x=.atom (.map (some b)))(hm:(b,.obj (.map es ga))∈H)
  (hk:∀ r,K (ptr r 0) ((r,.obj (.mapIter (some b) ga #[] ga))::H)):Ja C ⟨dst,.range t x,ty,la,ma,g⟩ e H K X:=by
 obtain⟨F,hF⟩:∃ F,H.Perm ((b,.obj (.map es ga))::F):=by obtain⟨l1,l2,rfl⟩:=List.append_of_mem hm;exact⟨l1++l2,List.perm_middle⟩
 have main:∀ X,Ja C ⟨dst,.range t x,ty,la,ma,g⟩ e [(b,.obj (.map es ga))] (λlv H'=>∃ r,lv=ptr r 0/\H'=[(r,.obj (.mapIter (some b) ga #[] ga)),(b,.obj (.map es ga))]) X:=λX ρ w L h hH=>by
  obtain⟨Jd,Rd,hl,tc,zc⟩:=hH.Gb _ (Ll rfl);simp only at Jd Rd hl tc zc;have h3:execOp ρ ⟨dst,.range t x,ty,la,ma,g⟩=(do Pure.pure (.value (<-Instr.range t (ρ x)))):=rfl;have hg:(getObj b).run C.P w=.ok (.map es ga) w:=by simp only[getObj,Sem.run,tc]
  have hn:∀ o,(newObj o).run C.P w=.ok w.heap.size (World.push w o):=λ_=>rfl;rw[h3,Cb h hx];simp only[Instr.range,Sb,ed ht,lc,hg,Qc,hn];have:=Left.frame (F:=[(b,.obj (.map es ga))]) (K:=λlv H'=>∃ r,lv=ptr r 0/\H'=[(r,.obj (.mapIter (some b) ga #[] ga)),(b,.obj (.map es ga))]) (v:=.pointer (some ⟨w.heap.size,0,none⟩)) (by simpa using hH) (oZ (w:=w) (L:=L) (hH.sub (nil_sublist _)) (o:=.mapIter (some b) ga #[] ga) rfl ⟨w.heap.size,rfl,rfl⟩);show Left C w L _ _ _ _;simpa using this
 refine Ja.qc (Ja.frame (H:=[(b,.obj (.map es ga))]) (F:=F) hF (K:=λlv H'=>∃ r,lv=ptr r 0/\H'=[(r,.obj (.mapIter (some b) ga #[] ga)),(b,.obj (.map es ga))]++F) ?_) ?_;exact Ja.qc (main _) (λlv H' ⟨r,h1,h2⟩=>⟨lv,H',vR _,kb _,r,h1,by rw[h2]⟩);rintro lv H' ⟨r,rfl,rfl⟩;exact⟨ptr r 0,_,vR _,⟨[],by simpa using hF.symm⟩,hk r⟩
theorem S.next{r b since last ga:Nat}{seen:Array Nat}{es:Array MapEntry}{F:Heap}(hx:e.ev x=ptr r 0)(hp:H.Perm ((r,.obj (.mapIter (some b) since seen last))::(b,.obj (.map es ga))::F))
  (hold:∀ e∈es.toList,e.born<since/\e.born<last)
  (mB:es.filter (λe=>!seen.contains e.born)=#[]->K (.tuple [bool false]) ((r,.obj (.mapIter (some b) since seen last))::(b,.obj (.map es ga))::F))
  (iB:∀ e∈(es.filter λe=>!seen.contains e.born).toList,K (.tuple [bool true,.atom e.key,.atom e.val]) ((r,.obj (.mapIter (some b) since (seen.push e.born) ga))::(b,.obj (.map es ga))::F)) :
  Ja C ⟨dst,.next x false,ty,la,ma,g⟩ e H K X:=by
 refine Ja.frame (H:=[(r,.obj (.mapIter (some b) since seen last)),(b,.obj (.map es ga))]) (F:=F) hp λρ w L h hH=>?_;have hr:=hH.Gb (r,.obj (.mapIter (some b) since seen last)) yb;have hb:=hH.Gb (b,.obj (.map es ga)) Ff;obtain⟨_,rk,_,xd,_⟩:=hr;obtain⟨_,Rd,_,QJ,_⟩:=hb;simp only at rk xd Rd QJ;have h3:execOp ρ ⟨dst,.next x false,ty,la,ma,g⟩=(do Pure.pure (.value (<-Instr.next (ρ x) false ty))):=rfl;have XS:(getObj r).run C.P w=.ok (.mapIter (some b) since seen last) w:=by simp only[getObj,Sem.run,xd]
 have UD:(getObj b).run C.P w=.ok (.map es ga) w:=by simp only[getObj,Sem.run,QJ]
 have RI:(!seen.isEmpty && !es.isEmpty && es.all λe=>decide (e.born ≥ last))=false:=by
  rw[Bool.eq_false_iff];intro bc;simp only[Le] at bc;obtain⟨⟨_,h1⟩,h2⟩:=bc;have eb:0<es.size:=by rcases Nat.eq_zero_or_pos es.size with h0|h0;have:es=#[]:=Array.eq_empty_of_size_eq_zero h0;subst this;simp at h1;exact h0
  have h3:=(Array.all_eq_true.1 h2) 0 eb;have h4:=(hold es[0] (by simp)).2;simp at h3;omega
 rw[h3,Cb h hx];simp only[Instr.next,Sb,lc,XS,UD,RI,Vh,if_false];generalize hL:es.filter (λe=>!seen.contains e.born)=left at mB iB ⊢;have mw:∀ x∈left.toList,x.born<since:=λx hx=>by subst hL;simp at hx;exact(hold x (by simpa using hx.1)).1
 have e1:left.filter (λx=>decide (x.born<since))=left:=Array.filter_eq_self.2 (λx hx=>by simpa using mw x (by simpa using hx))
 have e2:left.filter (λx=>decide (x.born ≥ since))=#[]:=by rw[Array.filter_eq_empty_iff];intro x hx;have:=mw x (by simpa using hx);simp;omega
 simp only[e1,e2,Array.append_empty];by_cases h0:left.size=0;have:left=#[]:=Array.eq_empty_of_size_eq_zero h0;subst this;have hch:(choose (.mapNext 1)).run C.P w=.ok 0 w:=by simp[choose,Sem.run,Question.forced]
 simp only[Array.isEmpty_empty,if_true,Array.map_empty,Array.append_empty,List.size_toArray,List.length_singleton,hch,Sb,lc,Qc];exact⟨.tuple [bool false],_,L,Fr.refl _ _ _,hH,by simp only[Wa];exact⟨[.bool false],rfl,by simp only[na,Wa];exact⟨_,_,rfl,rfl,rfl⟩⟩,mB rfl⟩;have eb:left.isEmpty=false:=by simp[Array.isEmpty,h0]
 simp only[eb,Vh,if_false,Array.empty_append,Array.size_map];obtain⟨j,w1,hj,Gu,Oc⟩:∃ (j:Nat) (w1:World),j<left.size/\(w1=w∨w1=w.drew)/\(choose (Question.mapNext left.size)).run C.P w=.ok j w1:=by
  by_cases hf:left.size<=1;exact⟨0,w,by omega,.inl rfl,by simp[choose,Sem.run,Question.forced,hf]⟩;exact⟨_,w.drew,Nat.mod_lt _ zo,.inr rfl,by
   simp only[choose,Sem.run,Question.forced,sf,hf,if_false,Question.cut];rfl⟩
 have fS:w1.heap[r]? = some (.mapIter (some b) since seen last):=by rcases Gu with rfl|rfl <;> exact xd
 have ld:w1.heap.size=w.heap.size:=by rcases Gu with rfl|rfl <;> rfl
 have BJ:w1.heap=w.heap:=by rcases Gu with rfl|rfl <;> rfl
 simp only[Oc,Array.getElem?_map,Array.getElem?_eq_getElem hj,map_some,Sb,lc,rI fS rfl,Qc];have hl:Left C w L [(r,.obj (.mapIter (some b) since seen last))] (Vf w1 r (.mapIter (some b) since (seen.push left[j].born) ga)) (.tuple #[.bool true,left[j].key,left[j].val]) (λlv H'=>K lv (H'++[(b,.obj (.map es ga))]++F)):=
  TH (lv:=.tuple [bool true,.atom left[j].key,.atom left[j].val]) (Ca.left (F:=[(b,.obj (.map es ga))]) hH) rfl (by rcases Gu with rfl|rfl <;> rfl) (by rcases Gu with rfl|rfl <;> rfl) (by rcases Gu with rfl|rfl <;> rfl) (by simp[Vf,ld]) (λc hc=>by rw[zF hc,BJ]) (CF zo)
   (λ_=>by simp only[Wa];exact⟨[.bool true,left[j].key,left[j].val],rfl,by simp only[na,Wa];exact⟨_,_,rfl,rfl,_,_,rfl,rfl,_,_,rfl,rfl,rfl⟩⟩) (iB left[j] (by simp))
 exact Left.frame (F:=[(b,.obj (.map es ga))]) (K:=λlv H'=>K lv (H'++F)) hH hl
theorem Pure.entry{r b since last ga stamp:Nat}{seen:Array Nat}{es:Array MapEntry}{en:MapEntry}(hx:e.ev x=ptr r 0)(hi:(r,da.obj (.mapIter (some b) since seen last))∈H)(hm:(b,da.obj (.map es ga))∈H)
  (hl:ga=last) (hb:seen.back? = some stamp) (hf:es.find? (·.born == stamp)=some en):Pure C ⟨dst,.entry x,ty,la,ma,g⟩ e H (.tuple [.atom en.key,.atom en.val]):=λρ w L h hH=>by
 refine⟨.tuple #[en.key,en.val],by simp only[Wa];exact⟨[en.key,en.val],rfl,by simp only[na,Wa];exact⟨_,_,rfl,rfl,_,_,rfl,rfl,rfl⟩⟩,λw' ha=>?_⟩;have h1:w'.heap[r]? = some (.mapIter (some b) since seen last):=(ha.1 _ hi).trans (hH.Gb _ hi).2.2.2.1;have h2:w'.heap[b]? = some (.map es ga):=(ha.1 _ hm).trans (hH.Gb _ hm).2.2.2.1;have h3:execOp ρ ⟨dst,.entry x,ty,la,ma,g⟩=(do Pure.pure (.value (<-Instr.entry (ρ x)))):=rfl;have XS:(getObj r).run C.P w'=.ok (.mapIter (some b) since seen last) w':=by simp only[getObj,Sem.run,h1]
 have UD:(getObj b).run C.P w'=.ok (.map es ga) w':=by simp only[getObj,Sem.run,h2]
 have eb:(ga != last)=false:=by rw[hl];simp
 rw[h3,Cb h hx];simp only[Instr.entry,Sb,lc,XS,hb,UD,eb,Vh,if_false,Qc,hf]
theorem lH{op:Op}(hi:xa[i]? = some ⟨dst,op,ty,la,ma,none⟩)(hd:Di n dst)
  (hp:Pure C ⟨dst,op,ty,la,ma,none⟩ e H lv) (k:Td C n xa Q HF Xa (qa.setIfInBounds i true) (e.put dst lv) H):Lf C n xa Q HF Xa qa e H i:=λw0 L0 a w L hL hA ld hE hH=>by
 obtain⟨v,hv,Oc⟩:=hp a.eval w L hE.ev hH;unfold wpOp;rw[hi];simp only;rw[zp (by simp[Region.wanted])];refine .inl ?_;unfold Oper.wp;rw[Oc w (rm.refl _ _ _)];exact⟨hA,k w0 L0 _ w L hL hA ld (hE.put hd hv) hH⟩
end
def ZE:Op->Bool
 |.defer _=>false
 |_=>true
theorem qkl{f:FuncId}{args:Array Value}{R:Ending->World->Prop}(h:Calls P f args w R):CallsIn (Fence.wide.inRound l) n P f args w R:=(callsIn_wide (n:=n)).2 h
theorem qlR{row:String}{args:Array Value}{R:Value->World->Prop}(h:Rows P row args w R):RowsIn (Fence.wide.inRound l) n P row args w R:=λc cs _=>
 let ⟨v,w',r,s⟩:=h c cs
 ⟨v,w',r,stepsIn_wide.2 s⟩
theorem xZ{o:Oper}{a:Act}{w:World}{next next':Act->World->Prop}{Q:Exit->Act->World->Prop}(ho:ZE o.op=true)
  (hn:∀ a w,next a w->next' a w) (h:o.wp P a w next Q):o.wpIn (Fence.wide.inRound l) n P a w next' Q:=by
 refine⟨λ_ _=>trivial,?_⟩;have hs:o.semAt (Fence.wide.inRound l).round a.eval=execOp a.eval o:=Oper.semAt_eq _ _ _ λc hc=>by rw[hc] at ho;cases ho
 rw[hs];unfold Oper.wp at h;revert h;generalize (execOp a.eval o).run P w=r;intro h;cases r with
 |ok x w'=>
  cases x with
  |value v=>exact hn _ _ h
  |skip=>exact hn _ _ h
  |defer d=>exact hn _ _ h
  |enter f args=>
   refine⟨λhd=>(by cases hd),qkl (Calls.mono h ?_)⟩;intro e VG he
   cases e with
   |returned v=>exact hn _ _ he
   |panicked ch=>exact he
   |outgrown=>exact he
  |row row args=>
   refine⟨λhd=>(by cases hd),qlR (Rows.mono h ?_)⟩;intro v VG he
   exact hn _ _ he
  |_=>exact h.elim
 |halt x w'=>cases x <;> first|exact h|exact h.elim
theorem MQ{l n:Nat}{P:Program}{xa:Array Oper}{Q:Exit->Act->World->Prop}(hQ:¬ LetsOut Q):∀ (rest:List Oper) (a:Act) (w:World),(∀ o∈rest,ZE o.op=true)->wpList P xa Q rest a w->wpListIn (Fence.wide.inRound l) n P xa Q rest a w
 |[],_,_,_,h=>h
 |o::rest,a,w,ho,h=>by
  unfold wpList at h;unfold wpListIn;split at h;rename_i hw;rw[zp hw];rcases h with h|⟨_,h⟩;exact xZ (ho o mem_cons_self) (λa w h=>MQ hQ rest a w (λo h=>ho o (Sc _ h)) h) h;exact absurd h hQ
  rename_i hw;rw[zn hw];exact⟨λ_ _=>trivial,MQ hQ rest _ _ (λo h=>ho o (Sc _ h)) h⟩
theorem qjD{id:Nat}{xa:List Oper}{Q:Exit->Act->World->Prop}{a:Act}(hQ:¬ LetsOut Q)(ho:xa.all (λo=>ZE o.op)=true)(h:wpList P xa.toArray Q xa a w) :
  (Code.region id xa.toArray false).wpIn (Fence.wide.inRound l) n P Q a w:=wpIn_region_lit (MQ hQ xa a w (by simpa using ho) h)
end Go.GL
namespace Go.GL
open Go.RowKit
variable{C:Ctx}{F:Heap}{L:Live}{b n ty:Nat}{c:Code}{cs Ya:List LV}{w:World}
theorem PH{o o':Obj}(hH:Ca C w L ((b,.obj o)::F))(JM:BA o'=true) :
  Fr (keys ((b,da.obj o)::F)) w L (w.putObj b o') L ((b,.obj o')::F)/\Ca C (w.putObj b o') L ((b,.obj o')::F):=by
 have h1:Ca C w L ([(b,.obj o)]++F):=hH;have wa:b<w.heap.size:=(hH.Gb _ mem_cons_self).2.1;have h2:Left C w L [(b,.obj o)] (w.putObj b o') undef (λ_ H'=>H'=[(b,.obj o')]):=
  TH (w':=w.putObj b o') h1.left JM rfl rfl rfl (by simp[World.putObj]) (λc hc=>World.putObj_heap_other hc) (World.putObj_heap_same wa) (v:=undef) (lv:=.atom undef) (λ_=>xc) rfl
 obtain⟨lv,H',L',g1,g2,g3,rfl⟩:=h2;have hL:L'=L:=by funext c;obtain⟨_,_,hl,_⟩:=h1.left.Gb _ mem_cons_self;obtain⟨_,_,Wt,_⟩:=g2.Gb _ mem_cons_self;by_cases he:c=b;subst he;rw[hl,Wt];rcases Nat.lt_or_ge c w.heap.size with hc|hc;exact g1.oh c hc (by simpa using he);rw[h1.wf c hc,g2.wf c (by simpa [World.putObj] using hc)]
 subst hL;have:=h1.frame g1 g2;exact⟨this.2,this.1⟩
theorem wX{o:Obj}(hH:Ca C w L F)(ho:BA o=true) :
  ∃ L',Fr (keys F) w L (w.alloc o) L' ((w.heap.size,.obj o)::F)/\Ca C (w.alloc o) L' ((w.heap.size,.obj o)::F):=by
 have h1:Ca C w L ([]++F):=hH;have:=gx h1.left o 0 [(w.heap.size,.obj o)] (λp hp=>by
  simp only[mem_singleton] at hp;subst hp;exact⟨rfl,by simp[Live.jd],jq,yF jq ho⟩) (by simp)
 have:=h1.frame this.1 this.2;exact⟨_,this.2,this.1⟩
def qf(C:Ctx)(l n:Nat)(c:Code)(Q:Ob)(e:Env)(H:Heap):Prop:=
 ∀ a w L,Mb n a e w L->Ca C w L H->∀ m,c.wpIn (Fence.wide.inRound l) m C.P (lift C n w L (keys H) Q) a w
def mq(k:Env->Heap->Prop):Ob
 |.normal,e,H=>k e H
 |_,_,_=>False
section round
variable{C:Ctx}{l n:Nat}{e:Env}{H:Heap}{k:Env->Heap->Prop}
theorem qf.region{id:Nat}{xa:List Oper}(ho:xa.all (λo=>ZE o.op)=true)(h:ea C n xa.toArray (Bc k (mq k)) xa e H):qf C l n (.region id xa.toArray false) (mq k) e H:=λa w L hE hH m=>by refine qjD ?_ ho (Kt ?_ _ _ _ (h a w L hE hH));rintro⟨a',w',e',H',L',_,_,_,hq⟩;exact hq;rintro ex a' w' hq;refine lQ ?_ hq;intro x e H h;cases x <;> exact h
theorem qf.skip(h:k e H):qf C l n .skip (mq k) e H:=λa w L hE hH m=>wpIn_skip ⟨e,H,L,Fr.refl _ _ _,hH,hE,h⟩
theorem qf.seq{x y:Code}(h:qf C l n x (mq λe H=>qf C l n y (mq k) e H) e H):qf C l n (.seq x y) (mq k) e H:=λa w L hE hH m=>by
 refine wpIn_seq (wpIn_mono (h a w L hE hH m) λex a' w' hq=>?_);obtain⟨e',H',L',h1,h2,h3,h4⟩:=hq
 cases ex with
 |normal=>exact wpIn_mono (h4 a' w' L' h3 h2 m) λ_ _ _=>BF h1
 |exit id=>exact h4.elim
 |goto id=>exact h4.elim
 |ret=>exact h4.elim
 |panic ch=>exact h4.elim
 |outgrown=>exact h4.elim
theorem qf.block{id:Nat}{c:Code}(h:qf C l n c (mq k) e H):qf C l n (.block id c) (mq k) e H:=λa w L hE hH m=>by
 refine wpIn_block (wpIn_mono (h a w L hE hH m) λex a' w' hq=>?_);obtain⟨e',H',L',h1,h2,h3,h4⟩:=hq
 cases ex with
 |normal=>exact⟨e',H',L',h1,h2,h3,h4⟩
 |exit id=>exact h4.elim
 |goto id=>exact h4.elim
 |ret=>exact h4.elim
 |panic ch=>exact h4.elim
 |outgrown=>exact h4.elim
end round
theorem FZ{F:Fence}{m:Nat}{P:Program}{l:Nat}{args:Array Value}{W:World}{R R':Ending->World->Prop}(h:YieldAt F m P l args W R)(hr:∀ e w,R e w->R' e w):YieldAt F m P l args W R':=by obtain⟨fn,tmps,assign,body,hy,hR⟩:=h;exact⟨fn,tmps,assign,body,hy,hR.mono hr⟩
def xm(C:Ctx)(l:Nat)(args:List LV)(H:Heap)(K:Heap->Prop):Prop:=
 ∀ (vs:List Value) w L,na w L args vs->Ca C w L H->∀ m,YieldAt Fence.wide m C.P l vs.toArray w λe w'=>e=.returned (.bool true)/\an C w L H w' K
theorem xm.frame{C:Ctx}{l:Nat}{args:List LV}{G H F:Heap}{K:Heap->Prop}(p:G.Perm (H++F))(h:xm C l args H λH'=>K (H'++F)):xm C l args G K:=λvs w L h1 h2 m=>by have h3:=h2.perm p;refine FZ (h vs w L h1 h3.left m) ?_;rintro e w' ⟨he,hx⟩;obtain⟨H',L',g1,g2,g3⟩:=an.frame h3 hx;exact⟨he,H',L',g1.perm p.symm,g2,g3⟩
theorem xm.mono{C:Ctx}{l:Nat}{args:List LV}{H:Heap}{K K':Heap->Prop}(h:xm C l args H K)(hk:∀ H,K H->K' H):xm C l args H K':=λvs w L h1 h2 m=>FZ (h vs w L h1 h2 m) λ_ _ hx=>⟨hx.1,hx.2.mono hk⟩
def Ww(C:Ctx)(gf:FuncId)(La:List LV)(Hc:Heap)(N:Nat)(xs:Nat->List LV):Prop:=
 ∀ (l:Nat) (J:Nat->Heap->Prop),(∀ k H,k<N->J k H->xm C l (xs k) H (J (k+1)))->∀ H0,J 0 H0 ->
  aa C gf (.atom (.func (.yield l) #[] #[])::La) (H0++Hc) λr H'=>(∃ v,r=.ret v)/\∃ H1,H'=H1++Hc/\J N H1
def Env.round(j:Env):List (Nat×LV)->Env
 |[]=>j
 |(d,v)::r=>Env.round (j.jd d v) r
theorem Mb.rounds{n:Nat}{w:World}{L:Live}:∀ (ps:List Nat) (Qv:List LV) (vs:List Value) (tmps:Array Value) (j:Env),Mb n { tmps,defers:=[] } j w L->na w L Qv vs->ps.length=Qv.length->ps.all (λp=>Nat.blt p n)=true ->
  Mb n { tmps:=(ps.zip vs).foldl (λt p=>t.setIfInBounds p.1 p.2) tmps,defers:=[] } (Env.round j (ps.zip Qv)) w L
 |[],Qv,vs,tmps,j,h,_,_,_=>by simpa [Env.round] using h
 |p::ps,[],vs,tmps,j,h,_,hl,_=>by simp at hl
 |p::ps,lv::Qv,vs,tmps,j,h,hr,hl,hp=>by simp only[na] at hr;obtain⟨y,ys,rfl,hy,hr⟩:=hr;simp only[List.all_cons,Le] at hp;have:=Mb.put (dst:=some p) h (by simp only[Di,Nw];exact hp.1) hy;simp only[List.zip_cons_cons,List.foldl_cons,Env.round];exact Mb.rounds ps Qv ys _ _ this hr (by simpa using hl) hp.2
def Act.flat(a:Act):Env:=⟨λi=>.atom (a.tmps.getD i undef),[]⟩
theorem Act.Iw{a:Act}(hn:a.tmps.size=n):Mb n { tmps:=a.tmps,defers:=[] } (Act.flat a) w L:=⟨hn,rfl,λ_=>xc⟩
section range
variable{C:Ctx}{n:Nat}{e:Env}{H:Heap}{Q:Ob}
theorem Ga.rangeFunc{g:Operand}{ps:List Nat}{assign body:Code}{gf:FuncId} [fb C.P gf]{La:Array Value}(hg:e.ev g=.atom (.func (.func gf) #[] La))(N:Nat)(xs:Nat->List LV)(H0 Hc:Heap)(hp:H.Perm (H0++Hc))
  (xJ:Ww C gf (La.toList.map .atom) Hc N xs) (ql:∀ k,k<N->ps.length=(xs k).length) (hpn:ps.all (λp=>Nat.blt p n)=true)
  (J:Nat->Heap->Prop) (h0:J 0 H0)
  (round:∀ k H,k<N->J k H->∀ j:Env,j.ds=[]->(∀ i v,e.s i=.atom v->j.s i=.atom v)->∀ (l D:Nat) (o oD:da),qf C l n assign (mq λe1 H1=>e1.ds=[]/\∃ DB,H1=(l,o)::(D,oD)::DB/\(∀ o':da,qf C l n body (mq λ_ H2=>∃ dU,HSub ((l,o')::(D,oD)::dU) H2/\J (k+1) dU) e1 ((l,o')::(D,oD)::DB))) (Env.round j (ps.zip (xs k))) ((l,o)::(D,oD)::H))
  (done:∀ D H',J N H'->Q .normal ⟨e.s,{ target:=.collected D,args:=#[] }::e.ds⟩ ((D,.obj (.deferred (some [])))::(H'++Hc))) :
  Ga C n (.rangeFunc g ps.toArray assign body) Q e H:=λa w L hE hH=>by
 refine wpIn_wide (n:=1) |>.1 (wpIn_rangeFunc λfn _=>?_);have hgv:a.eval g=.func (.func gf) #[] La:=by have:=hE.ev g;rw[hg] at this;simpa only[Wa] using this
 obtain⟨rec,Yq⟩:∃ rec:LoopState->Option Code->Loop,rec=λst pe=>{ state:=st,pending:=pe,fn,tmps:=a.tmps,params:=ps.toArray,assign,body,defers:=w.heap.size }:=⟨_,rfl⟩;obtain⟨L1,f1,r1⟩:=wX (o:=.deferred (some [])) (hH.perm hp) rfl;obtain⟨L2,f2,r2⟩:=wX (o:=.loop (rec .ready none)) r1 rfl;have ld:(w.alloc (.deferred (some []))).heap.size=w.heap.size+1:=World.size_alloc ..;rw[ld] at f2 r2;have eJ:rec .ready none={ state:=.ready,pending:=none,fn,tmps:=a.tmps,params:=ps.toArray,assign,body,defers:=w.heap.size }:=by rw[Yq]
 refine⟨w.heap.size+1,[{ target:=.collected w.heap.size,args:=#[] }],(w.alloc (.deferred (some []))).alloc (.loop (rec .ready none)),{ target:=.fn (.func gf) La,args:=#[.func (.yield (w.heap.size+1)) #[] #[]] },(w.alloc (.deferred (some []))).alloc (.loop (rec .ready none)),gf,
  #[.func (.yield (w.heap.size+1)) #[] #[]]++La,(w.alloc (.deferred (some []))).alloc (.loop (rec .ready none)),?_,?_,λ_ _=>trivial,?_,λ_=>mc _,callsIn_wide.2 ?_⟩
 rw[eJ];exact run_enterLoop_outer _ _ _ _ _;simp only[resolve,hgv];simp[go_sem];simp only[invoke];exact sM _ _;obtain⟨l,hl⟩:∃ l,l=w.heap.size+1:=⟨_,rfl⟩;obtain⟨D,hD⟩:∃ D,D=w.heap.size:=⟨_,rfl⟩;rw[<-hl,<-hD] at f2 r2 ⊢;rw[<-hD] at r1 f1;have hc:=xJ l (λk H=>∃ H1,H=(l,.obj (.loop (rec .ready none)))::(D,.obj (.deferred (some [])))::H1/\J k H1) ?_ ((l,.obj (.loop (rec .ready none)))::(D,.obj (.deferred (some [])))::H0) ⟨H0,rfl,h0⟩
 ·have h1:=hc (.func (.yield l) #[] #[]::La.toList) _ L2 (by simp only[na,Wa];exact⟨_,_,rfl,rfl,Jl _⟩) r2
  have e1:(Value.func (.yield l) #[] #[]::La.toList).toArray=#[.func (.yield l) #[] #[]]++La:=by apply Array.ext';simp
  rw[e1] at h1;refine Calls.mono h1 ?_;rintro ex w' hx;cases ex with
  |returned v=>
   obtain⟨lv,H',L',g1,g2,g3,_,H1,rfl,DB,rfl,hJ⟩:=hx;have Ns:Ca C w' L' ((l,.obj (.loop (rec .ready none)))::((D,.obj (.deferred (some [])))::(DB++Hc))):=g2;obtain⟨_,_,_,Wj,_⟩:=Ns.Gb _ mem_cons_self;have mr:w'.heap[l]? = some (.loop (rec .ready none)):=Wj;have hpe:(rec .ready none).pending=none:=by rw[Yq]
   have au:=(run_endLoop (P:=C.P) mr (by rw[Yq];simp)).trans (congrArg (λp=>Result.ok p _) hpe);have ht:=PH (o':=.loop { rec .ready none with state:=.exhausted }) Ns rfl;refine⟨none,_,au,?_⟩;have hs:HSub ((D,da.obj (.deferred (some [])))::(DB++Hc)) ((l,.obj (.loop { rec .ready none with state:=.exhausted }))::((D,.obj (.deferred (some [])))::(DB++Hc))):=fe Ma;refine⟨⟨e.s,{ target:=.collected D,args:=#[] }::e.ds⟩,(D,.obj (.deferred (some [])))::(DB++Hc),L',?_,ht.2.db hs,⟨?_,?_,?_⟩,done D DB hJ⟩;exact Fr.perm hp.symm ((f1.trans (f2.trans (g1.trans ht.1))).db hs);exact hE.size;show _::a.defers=_;rw[hE.ds];exact λi=>(hE.Jg i).mono (f1.ext.trans (f2.ext.trans (g1.ext.trans ht.1.ext))) _ _
  |panicked ch=>obtain⟨H',L',g1,g2,⟨v,hv⟩,_⟩:=hx;cases hv
  |outgrown=>exact hx.elim
 rintro k H hk ⟨H1,rfl,hJ⟩ vs w1 Lw NI hr m;obtain⟨_,_,_,Wj,_⟩:=hr.Gb _ mem_cons_self;have mr:w1.heap[l]? = some (.loop (rec .ready none)):=Wj;have fa:=NI.length;have hpk:=ql k hk;have hy:=run_yield (P:=C.P) (args:=vs.toArray) mr (by rw[Yq];simp;omega);rw[Yq] at hy;refine⟨fn,_,assign,body,hy,roundIn_of_wpIn trivial ?_⟩;have S0:Mb n { tmps:=a.tmps,defers:=[] } (Act.flat a) w1 Lw:=Act.Iw hE.size;have TR:=Mb.rounds ps (xs k) vs a.tmps (Act.flat a) S0 NI hpk hpn;have e2:(ps.toArray.zip vs.toArray).foldl (λtmps (t,a)=>tmps.setIfInBounds t a) a.tmps=(ps.zip vs).foldl (λt p=>t.setIfInBounds p.1 p.2) a.tmps:=by simp
 simp only[e2];refine wpIn_mono (round k H1 hk hJ (Act.flat a) rfl ?_ l D _ _ _ w1 Lw TR hr m) ?_;intro i v hv;have:=hE.Jg i;rw[hv] at this;simp only[Wa] at this;simp only[Act.flat,this];rintro ex a1 w2 ⟨e1,H2,L2',q1,q2,q3,q4⟩;cases ex with
 |normal=>
  obtain⟨Mn,dU,rfl,hb⟩:=q4;obtain⟨_,_,_,CS,_⟩:=q2.Gb _ mem_cons_self;have qJ:w2.heap[l]? = some (.loop (rec .ready none)):=CS;have ht:=PH (o':=.loop { rec .ready none with state:=.busy }) q2 rfl;refine⟨_,run_beginRound qJ (by rw[Yq]),?_⟩;refine wpIn_mono (hb (.obj (.loop { rec .ready none with state:=.busy })) a1 _ L2' (q3.mono ht.1.ext) ht.2 m) ?_;rintro ex a3 w3 ⟨e3,H3,L3,p1,p2,p3,p4⟩;cases ex with
  |normal=>
   obtain⟨H3',SF,hJ3⟩:=p4;have y0:=p2.db SF;obtain⟨_,_,_,BS,_⟩:=y0.Gb _ mem_cons_self;have pJ:w3.heap[l]? = some (.loop { rec .ready none with state:=.busy }):=BS;have SI:=PH (o':=.loop (rec .ready none)) y0 rfl;have au:=run_endRound (P:=C.P) none pJ;have e3:({ { rec .ready none with state:=.busy } with state:=if (none:Option Code).isNone then .ready else .done,pending:=none }:Loop)=rec .ready none:=by rw[Yq];try rfl
   rw[e3] at au;refine⟨.bool true,_,au,rfl,?_⟩;exact⟨_,L3,q1.trans (ht.1.trans ((p1.db SF).trans SI.1)),SI.2,H3',rfl,hJ3⟩
  |exit id=>exact p4.elim
  |goto id=>exact p4.elim
  |ret=>exact p4.elim
  |panic ch=>exact p4.elim
  |outgrown=>exact p4.elim
 |exit id=>exact q4.elim
 |goto id=>exact q4.elim
 |ret=>exact q4.elim
 |panic ch=>exact q4.elim
 |outgrown=>exact q4.elim
end range
def rj(C:Ctx)(n:Nat)(xa:Array Oper)(Q:Ob)(rest:List Oper)(e:Env)(H:Heap):Prop:=
 ∀ a w L,Mb n a e w L->Ca C w L H->wpListIn Fence.wide 1 C.P xa (lift C n w L (keys H) Q) rest a w
section W
variable{C:Ctx}{n:Nat}{xa:Array Oper}{Q:Ob}{e:Env}{H:Heap}
theorem rj.nil(h:Q .normal e H):rj C n xa Q [] e H:=λ_ _ L hE hH=>⟨e,H,L,Fr.refl _ _ _,hH,hE,h⟩
theorem NA{F:Fence}{m:Nat}{P:Program}{Q Q':Exit->Act->World->Prop}(h:∀ e a w,Q e a w->Q' e a w)(ho:LetsOut Q->LetsOut Q'):∀ (l:List Oper) (a:Act) (w:World),wpListIn F m P xa Q l a w->wpListIn F m P xa Q' l a w
 |[],_,_,k=>h _ _ _ k
 |o::l,a,w,k=>by
  unfold wpListIn at k ⊢;split at k
  ·rename_i hw
   rw[zp hw];refine⟨k.1,?_⟩;have k2:=k.2;generalize (o.semAt F.round a.eval).run P w=r at k2 ⊢;cases r with
   |ok x w'=>
    cases x with
    |value v=>exact NA h ho l _ _ k2
    |skip=>exact NA h ho l _ _ k2
    |defer d=>exact NA h ho l _ _ k2
    |enter f args=>
     refine⟨k2.1,k2.2.mono λe VG he=>?_⟩
     cases e with
     |returned v=>exact NA h ho l _ _ he
     |panicked ch=>exact h _ _ _ he
     |outgrown=>exact ho he
    |row row args=>
     refine⟨k2.1,λc cs hr=>?_⟩;obtain⟨v,w2,r2,s2⟩:=k2.2 c cs hr
     exact⟨v,w2,NA h ho l _ _ r2,s2⟩
    |round l' f tmps Wb bd=>
     refine⟨k2.1,k2.2.mono λe VG he=>?_⟩
     cases e with
     |returned v=>exact NA h ho l _ _ he
     |panicked ch=>exact h _ _ _ he
     |outgrown=>exact ho he
    |_=>exact k2.elim
   |halt x w'=>cases x <;> first|exact h _ _ _ k2|exact k2.elim
  rename_i hw;rw[zn hw];exact⟨k.1,NA h ho l _ _ k.2⟩
theorem e8{w1:World}{L1:Live}{K:List Nat}{H1:Heap}(f:Fr K w L w1 L1 H1):LetsOut (lift C n w1 L1 (keys H1) Q)->LetsOut (lift C n w L K Q):=λ⟨a,w',h⟩=>⟨a,w',BF f h⟩
theorem rj.pure{dst:Option Nat}{op:Op}{ty:TypeId}{la:String}{ma:Array Edge}{rest:List Oper}{lv:LV}
  (h:Pure C ⟨dst,op,ty,la,ma,none⟩ e H lv) (hd:Di n dst) (k:rj C n xa Q rest (e.put dst lv) H):rj C n xa Q (⟨dst,op,ty,la,ma,none⟩::rest) e H:=λa w L hE hH=>by
 obtain⟨v,hv,hr⟩:=h a.eval w L hE.ev hH;unfold wpListIn;rw[zp (by simp[Region.wanted])];refine⟨λ_ _=>trivial,?_⟩;have hs:Oper.semAt (Fence.wide).round a.eval ⟨dst,op,ty,la,ma,none⟩=execOp a.eval ⟨dst,op,ty,la,ma,none⟩:=rfl;rw[hs,hr w ⟨λ_ _=>rfl,λ_ _ _=>rfl⟩];exact k _ w L (hE.put hd hv) hH
theorem rj.yield{dst:Option Nat}{fo:Operand}{l:Nat}{args:List Operand}{xe:Array TypeId}{Wb:List LV}{ty:TypeId}{la:String}{ma:Array Edge}{rest:List Oper}{K:Heap->Prop}(hf:e.ev fo=.atom (.func (.yield l) #[] #[]))
  (has:args.map e.ev=Wb) (hy:xm C l Wb H K) (hd:Di n dst) (k:∀ H',K H'->rj C n xa Q rest (e.put dst (bool true)) H'):rj C n xa Q (⟨dst,.call { callee:=.value fo,args:=args.toArray,argTypes:=xe },ty,la,ma,none⟩::rest) e H:=λa w L hE hH=>by
 subst has;have hv:=hE.ev fo;rw[hf] at hv;simp only[Wa] at hv;obtain⟨fn,tmps,assign,body,h1,h2⟩:=hy (args.map a.eval) w L (gF hE.ev _) hH 0;unfold wpListIn;rw[zp (by simp[Region.wanted])];refine⟨λ_ _=>trivial,?_⟩;have h3:Oper.semAt (Fence.wide).round a.eval ⟨dst,.call { callee:=.value fo,args:=args.toArray,argTypes:=xe },ty,la,ma,none⟩=(do let d <-Deferred.ofValue (a.eval fo) (args.toArray.map a.eval);invoke d.target d.args):=rfl
 have h4:(do let d <-Deferred.ofValue (.func (.yield l) #[] #[]) (args.toArray.map a.eval);invoke d.target d.args:Sem Next).run C.P w=.ok (.round l fn tmps assign body) w:=by simp only[Deferred.ofValue,Sb,Qc,lc,invoke];rw[<-h1];simp
 rw[h3,hv,h4];refine⟨λ_=>mc _,h2.mono ?_⟩;rintro ex w' ⟨rfl,H',L',g1,g2,g3⟩;exact NA (λ_ _ _=>BF g1) (e8 g1) _ _ _ (k H' g3 _ w' L' ((hE.mono g1.ext).put hd xc) g2)
theorem Ga.Dk{id:Nat}{l:List Oper}(h:rj C n l.toArray Q l e H):Ga C n (.region id l.toArray false) Q e H:=λa w L hE hH=>wpIn_wide (n:=1) |>.1 (wpIn_region_lit (h a w L hE hH))
end W
def oo(C:Ctx)(n:Nat)(rs:List ResultVar)(R:Lc->Heap->Prop):Ob
 |.normal,e,H|.ret,e,H=>∃ D F,e.ds=[{ target:=.collected D,args:=#[] }]/\H.Perm ((D,.obj (.deferred (some [])))::F)/\∃ vs H',Eh C n e F rs vs/\HSub H' F/\R (.ret (Ge vs)) H'
 |.panic ch,e,H=>(e.ds=[]/\∃ H',HSub H' H/\R (.panic ch) H')∨∃ D F,e.ds=[{ target:=.collected D,args:=#[] }]/\H.Perm ((D,.obj (.deferred (some [])))::F)/\∃ H',HSub H' F/\R (.panic ch) H'
 |_,_,_=>False
theorem aa.zD{f:FuncId}{fn:Func}{args:List LV}{H:Heap}{R:Lc->Heap->Prop}(hf:C.P.funcs[f]? = some fn)(hb:fn.body=some c)(hn:fn.ntmps=n)(h3:Nat.ble fn.results.size 3=true)
  (hl:Nat.ble args.length n=true) (h:Ga C n c (oo C n fn.results.toList R) (Oy args) H):aa C f args H R:=λvs w L hv hH=>by
 subst hn;have Wt:args.length<=fn.ntmps:=by simpa using hl
 have Pk:fn.results.size<=3:=by simpa using h3
 have fa:=hv.length;refine callsIn_wide.1 (callsIn_of_wp_marks (F:=Fence.wide) (n:=1) hf hb trivial (wpIn_wide.2 (Go.wp_mono (h _ w L ⟨?_,rfl,λi=>?_⟩ hH) λex a' w' hq=>?_)))
 simp;omega;exact IE;obtain⟨e',H',L',g1,g2,g3,g4⟩:=hq;have turn:∀ {D F},H'.Perm ((D,da.obj (.deferred (some [])))::F)->(Instr.takeDeferred D).run C.P w'=.ok [] (w'.putObj D (.deferred none))/\Fr (keys H) w L (w'.putObj D (.deferred none)) L' F/\Ca C (w'.putObj D (.deferred none)) L' F/\Ext w' L' (w'.putObj D (.deferred none)) L':=λ{D F} hp=>by have Ns:=g2.perm hp;obtain⟨_,_,_,Wj,_⟩:=Ns.Gb _ mem_cons_self;have mr:w'.heap[D]? = some (.deferred (some [])):=Wj;have ht:=PH (o':=.deferred none) Ns rfl;have hs:HSub F ((D,da.obj (.deferred none))::F):=fe Ma;have GS:Fr (keys H) w L w' L' ((D,da.obj (.deferred (some [])))::F):=g1.db ⟨[],by simpa using hp⟩;exact⟨run_takeDeferred mr,(GS.trans ht.1).db hs,ht.2.db hs,ht.1.ext⟩
 have ret:Mb fn.ntmps a' e' w' L'->(∃ D F,e'.ds=[{ target:=.collected D,args:=#[] }]/\H'.Perm ((D,.obj (.deferred (some [])))::F)/\∃ vs se,Eh C fn.ntmps e' F fn.results.toList vs/\HSub se F/\R (.ret (Ge vs)) se) ->
   LeavesInM Fence.wide 1 C.P fn a'.tmps (js C w L H (λv=>R (.ret v)) λch=>R (.panic ch)) a'.defers .returning w':=λhE hr=>by
  obtain⟨D,F,h1,hp,Uw,se,h2,h4,h5⟩:=hr;rw[hE.ds,h1];obtain⟨t1,t2,t3,t4⟩:=turn hp;refine⟨by simp,.inl ⟨D,_,rfl,t1,?_⟩⟩;obtain⟨v,r1,r2⟩:=tI (hE.mono t4) t3 h2 Pk;exact⟨v,r1,Ge Uw,se,L',t2.db h4,t3.db h4,r2,h5⟩
 cases ex with
 |normal=>exact ret g3 g4
 |ret=>exact ret g3 g4
 |panic ch=>rcases g4 with⟨h1,se,h4,h5⟩|⟨D,F,h1,hp,se,h4,h5⟩;show LeavesInM _ _ _ _ _ _ a'.defers _ _;rw[show a'.defers=[] from(show a'.defers=e'.ds from g3).trans h1];exact⟨se,L',g1.db h4,g2.db h4,h5⟩;exact rG
 |exit id=>exact g4.elim
 |goto id=>exact g4.elim
 |outgrown=>exact g4.elim
section
variable{C:Ctx}{n:Nat}{Q:Ob}{e:Env}{H:Heap}{k:Env->Heap->Prop}
theorem Ga.mid{A:Type}(l:A->List (Nat×LV))(H1:A->Heap)(F:A->Prop)(hx:Ga C n c (Bc (λe' H'=>∃ a,F a/\At (l a) (H1 a) e.ds e' H') Q) e H)(hy:∀ a,F a->∀ j:Env,j.ds=e.ds->k (Env.kh j (l a)) (H1 a)):Ga C n c (Bc k Q) e H:=by
 refine Ga.qc hx ?_;rintro ex e' H' hq;cases ex with
 |normal=>obtain⟨a,hF,h1,rfl,h3⟩:=hq;have:=hy a hF e' h3;rw[Env.wc h1.mem] at this;exact this
 |exit id=>exact hq
 |goto id=>exact hq
 |ret=>exact hq
 |panic ch=>exact hq
 |outgrown=>exact hq
theorem cM{A:Type}{c2:Code}{Q2:Ob}(l:A->List (Nat×LV))(H1:A->Heap)(F:A->Prop)(hx:Ga C n c (Bc (λe' H'=>∃ a,F a/\As e' (l a)/\HSub (H1 a) H'/\e'.ds=e.ds) Q) e H)(hy:∀ a,F a->∀ j:Env,j.ds=e.ds->Ga C n c2 Q2 (Env.kh j (l a)) (H1 a)):Ga C n c (Bc (λe H=>Ga C n c2 Q2 e H) Q) e H:=by
 refine Ga.qc hx ?_;rintro ex e' H' hq;cases ex with
 |normal=>obtain⟨a,hF,h1,h2,h3⟩:=hq;have:=hy a hF e' h3;rw[Env.wc h1.mem] at this;exact cW h2 this
 |exit id=>exact hq
 |goto id=>exact hq
 |ret=>exact hq
 |panic ch=>exact hq
 |outgrown=>exact hq
theorem qqW(hp:Ec (b,.cells ty cs) H F)(hs:Ce cs Ya)(hH:Ca C w L H):Ca C w L ((b,.cells ty Ya)::F):=by have h1:=hH.perm hp;refine⟨h1.base,h1.ng,h1.b0,h1.wf,h1.nodup,λp hp=>?_⟩;rcases Mc.1 hp with rfl|hp;obtain⟨r1,r2,r3,xs,r4,r5⟩:=h1.Gb _ mem_cons_self;exact⟨r1,r2,r3,xs,r4,hs.vy r5⟩;exact h1.Gb p (Sc _ hp)
theorem C9(hp:Ec (b,.cells ty cs) H F):∀ x,x∈keys ((b,da.cells ty Ya)::F)->x∈keys H:=λx hx=>by have:keys ((b,da.cells ty Ya)::F)=keys ((b,da.cells ty cs)::F):=rfl;rw[this] at hx;exact((hp.map (·.1)).mem_iff).2 hx
theorem Ga.Ss(hp:Ec (b,.cells ty cs) H F)(hs:Ce cs Ya)(h:Ga C n c Q e ((b,.cells ty Ya)::F)):Ga C n c Q e H:=λa w L hE hH=>
 Go.wp_mono (h a w L hE (qqW hp hs hH)) λ_ _ _=>tF (C9 hp)
theorem ea.perm{xa:Array Oper}{rest:List Oper}{H':Heap}(s:H.Perm H')(h:ea C n xa Q rest e H'):ea C n xa Q rest e H:=ea.db ⟨[],by simpa using s⟩ h
end
section
variable{C:Ctx}{e:Env}{H:Heap}{dst:Option Nat}{ty:TypeId}{la:String}{ma:Array Edge}{g:Option (Nat×Bool)}{x:Operand}
theorem Pure.xl{t xT:TypeId} [ht:Xd C.P t]{vs:List Value}(hx:e.ev x=.atom (.iface t (.agg vs.toArray))):Pure C ⟨dst,.typeAssert x xT t true,ty,la,ma,g⟩ e H (.tuple [.agg (vs.map .atom),bool true]):=
 .Ka λρ w L h=>⟨.tuple #[.agg vs.toArray,.bool true],by
  simp only[Wa];exact⟨[.agg vs.toArray,.bool true],rfl,by simp only[na,Wa];exact⟨_,_,rfl,⟨vs,rfl,Jl vs⟩,_,_,rfl,rfl,rfl⟩⟩,λw'=>by
  obtain⟨d,hd,hm⟩:=ht.out;have h3:execOp ρ ⟨dst,.typeAssert x xT t true,ty,la,ma,g⟩=(do Pure.pure (.value (<-Instr.typeAssert (ρ x) xT t true))):=rfl;rw[h3,Cb h hx];simp only[Instr.typeAssert,Sb,ed hd,lc];cases d <;> simp_all⟩
end
theorem Td.three{xa:Array Oper}{Q:Ob}{HF:Heap}{Xa:Nat}{qa:Array Bool}{e:Env}{H:Heap}{i j k:Nat}(hr:Region.ready .any xa qa=[i,j,k])(h1:Lf C n xa Q HF Xa qa e H i)(h2:Lf C n xa Q HF Xa qa e H j)(h3:Lf C n xa Q HF Xa qa e H k):Td C n xa Q HF (Xa+1) qa e H:=
 Td.all hr (by simp) λq hq=>by simp only[Mc,List.not_mem_nil,or_false] at hq;rcases hq with rfl|rfl|rfl;exact h1;exact h2;exact h3
theorem Zw{b:Bool}(h:(!b)=true):b=false:=by cases b <;> simp_all
theorem qt{b:Bool}(h:(!b)=false):b=true:=by cases b <;> simp_all
theorem Ro(l:List (List UInt8)):∀ v∈l.map str,v.cells.length=1:=λv hv=>by obtain⟨x,_,rfl⟩:=vi hv;rfl
theorem CA:∀ l:List (List UInt8),((l.map str).flatMap LV.cells).all bj=true
 |[]=>rfl
 |x::l=>by rw[Tb,List.flatMap_cons,List.all_append,CA l];try rfl
end Go.GL
namespace Go.GL
open Go.RowKit
variable{C:Ctx}{F H:Heap}{L:Live}{P:Program}{b bytes ga n sT xT:Nat}{el kt t:TypeId}{k l:List UInt8}{lv zl:LV}{mo z:Operand}{v zv:Value}{w:World}
section
variable{C:Ctx}{e:Env}{H:Heap}{dst:Option Nat}{ty:TypeId}{la:String}{ma:Array Edge}{g:Option (Nat×Bool)}{xT yT:TypeId}{x y:Operand}
end
section
variable{C:Ctx}{e:Env}{H:Heap}{x y:Operand}{dst:Option Nat}{ty:TypeId}{la:String}{ma:Array Edge}{g:Option (Nat×Bool)}{K:LV->Heap->Prop}{X:List PanicEntry->Heap->Prop}
def jf(l:List UInt8):List LV:=l.map λb=>int .u8 b.toNat
theorem EL(l:List UInt8):(jf l).length=l.length:=Ua _
theorem NW(l m:List UInt8):jf (l++m)=jf l++jf m:=Od
theorem XX(l:List UInt8):∀ v∈jf l,v.cells.length=1:=by intro v hv;obtain⟨b,_,rfl⟩:=vi hv;rfl
theorem OX(l:List UInt8):(jf l).flatMap LV.cells=jf l:=by
 induction l with
 |nil=>rfl
 |cons b l ih=>have h:jf (b::l)=int .u8 b.toNat::jf l:=rfl;rw[h,List.flatMap_cons,ih];try rfl
def Jb(l:List UInt8):List Value:=l.map λb=>.int .u8 b.toNat
theorem iY(l:List UInt8):∀ v∈Jb l,(∀ cs,v≠Value.agg cs)/\(∀ cs,v≠Value.tuple cs):=by intro v hv;obtain⟨b,_,rfl⟩:=vi hv;exact And.intro (λ_ h=>by cases h) (λ_ h=>by cases h)
theorem pQ(l:List UInt8)(w':World):(Builtin.firstCells 1 l.length (.string ⟨l.toArray⟩)).run P w'=.ok (Jb l).toArray w':=by have:=Go.Lib.run_firstCells_string (P:=P) w' 1 ⟨l.toArray⟩;rw[iF] at this;rw[this];try rfl
theorem aD{w:World}{L:Live}:∀ {zs xs:List Value},na w L (zs.map .atom) xs->xs=zs
 |[],_,h=>by simpa only[map_nil,na] using h
 |z::zs,xs,h=>by simp only[Tb,na] at h;obtain⟨y,ys,rfl,h1,h2⟩:=h;simp only[Wa] at h1;rw[h1,aD h2]
inductive Ee (el:TypeId):Value->List UInt8->Heap->Prop
 |nil:Ee el (.slice none 0 0) [] []
 |row {b:Nat} {l:List UInt8} {xs:List Value} (h0:l≠[]) (h1:l.length<=xs.length) (h2:xs.take l.length=Jb l):Ee el (.slice (some ⟨b,0,none⟩) l.length xs.length) l [(b,.cells el (xs.map .atom))]
theorem po(l:List UInt8):(Jb l).length=l.length:=Ua _
theorem nL(l m:List UInt8):Jb (l++m)=Jb l++Jb m:=Od
theorem OL(hH:Ca C w L []){xs:List Value}(h0:l≠[])(h1:l.length<=xs.length)(h2:xs.take l.length=Jb l)(hk:∀ v' H',Ee el v' l H'->K (.atom v') H') :
  Left C w L [] (World.push w (.cells xs.toArray el)) (.slice (some ⟨w.heap.size,0,none⟩) l.length xs.length) K:=by
 have hx:=FA hH.wf (.cells xs.toArray el) 0;have:=gx hH (.cells xs.toArray el) 0 [(w.heap.size,.cells el (xs.map .atom))] (λp hp=>by
  simp only[mem_singleton] at hp;subst hp;exact⟨rfl,by simp[Live.jd],xs,jq,Jl xs⟩) (by simp)
 exact⟨.atom _,_,_,this.1,this.2,xc,hk _ _ (Ee.row h0 h1 h2)⟩
theorem Ja.RT{el:Nat} [ht:Aa C.P sT el 1] [hr:bg C.P el 1 bytes] [zc:Xi C.P xT]{m:List UInt8}
  (hx:e.ev x=.atom v) (ha:Ee el v l H) (hy:e.ev y=str m) (Nb:(l.length+m.length) * bytes<=140737488355328)
  (hk:∀ v' H',Ee el v' (l++m) H'->K (.atom v') H'):Ja C ⟨dst,.call { callee:=.builtin .append,args:=#[x,y],argTypes:=#[sT,xT] },ty,la,ma,g⟩ e H K X:=by
 have h0:∀ (cs:Array Bool) (args:Array Value),builtin .append #[sT,xT] ty cs args=(do Pure.pure (.value (<-Builtin.append_ #[sT,xT] ty args))):=λ_ _=>rfl;have fa:∀ w':World,(Builtin.lenOf (.string ⟨m.toArray⟩)).run C.P w'=.ok m.length w':=λw'=>by simp[Builtin.lenOf,iF]
 cases ha with
 |nil=>
  by_cases eb:m=[];subst eb;intro ρ w L h hH;have hr:(Builtin.append_ #[sT,xT] ty #[.slice none 0 0,.string ⟨#[]⟩]).run C.P w=.ok (.slice none 0 0) w:=by obtain⟨i,hi,RS⟩:=ht.size;simp[Builtin.append_,ed ht.zd,ed zc.zd,sizeOf,typeInfo,hi,Builtin.lenOf,Builtin.firstCells,show(ByteArray.mk #[]).size=0 from rfl,show((ByteArray.mk #[]).extract 0 0).data=#[] from rfl]
  rw[Pl,h0];simp only[map_toArray,Tb,map_nil,Sb,Cb h hx,Cb h hy,hr,lc,Qc];exact⟨_,[],L,Fr.refl _ _ _,hH,xc,hk _ _ Ee.nil⟩;intro ρ w L h hH;have Qd:0<m.length:=List.length_pos_iff.2 eb;obtain⟨de,rest,r1,r2,r3⟩:=PA (ty:=ty) (P:=C.P) (w:=w) (sT:=sT) (xT:=xT) (a:=none) (len:=0) (cap:=0) (n:=m.length) (xv:=.string ⟨m.toArray⟩) (old:=[]) (new:=Jb m) (.inl zc.zd) fa (λw' _=>pQ m w')
   (λw' _=>by simp[Builtin.firstCells]) (by simpa using Nb) zo
  rw[Pl,h0];simp only[map_toArray,Tb,map_nil,Sb,Cb h hx,Cb h hy,r3,lc,Qc,List.nil_append,zero_add];have Qf:(Jb m++rest).length=de:=by rw[ua,r2,po];omega
  obtain⟨lv,H',L',g1,g2,g3,g4⟩:=OL (K:=K) (el:=el) (l:=m) (xs:=Jb m++rest) hH.drew eb (by rw[Qf];omega) (by rw[take_left' (po m)]) λv' H' h'=>hk v' H' h';rw[Qf] at g3
  exact⟨lv,H',L',g1.Ld,g2,g3,g4⟩
 |row eb h1 h2=>
  rename_i b xs;intro ρ w L h hH;obtain⟨Jd,Rd,hl,zs,Qt,CD⟩:=hH.Gb _ (Ll rfl);have hz:=aD CD;subst hz;simp only at Jd Rd hl Qt;rw[Pl,h0];simp only[map_toArray,Tb,map_nil,Sb,Cb h hx,Cb h hy];by_cases hc:l.length+m.length<=zs.length;have Oc:=oM (ty:=ty) (P:=C.P) (w:=w) (sT:=sT) (xT:=xT) (s:=1) (a:=some ⟨b,0,none⟩) (len:=l.length) (cap:=zs.length) (n:=m.length) (xv:=.string ⟨m.toArray⟩) (new:=Jb m) (.inl zc.zd) fa (λw' _=>pQ m w') hc;obtain⟨w',r1,r2,r3,r4,r5,r6,r7⟩:=YC (P:=C.P) (b:=b) (off:=0+l.length * 1) (t:=el) (fr:=(0,0)) (Jb m) 0 w zs Qt (by rw[po];omega) (λj _ _=>by simp) (iY m);rw[Oc];simp only[re,r1,lc,Qc];have Kh:(zs.take (0+l.length * 1+0)++Jb m++zs.drop (0+l.length * 1+0+(Jb m).length)).length=zs.length:=by simp only[ua,List.length_take,List.length_drop,po];omega
  have WD:=vF (v:=.slice (some ⟨b,0,none⟩) (l.length+m.length) zs.length) (lv:=.atom (.slice (some ⟨b,0,none⟩) (l.length+m.length) zs.length)) (K:=K) (Ya:=(zs.take (0+l.length * 1+0)++Jb m++zs.drop (0+l.length * 1+0+(Jb m).length)).map .atom) hH r2 r3 r4 r5 r6 r7 (by rw[Kh,Ua]) (Jl _) xc (by
   have hb:Ee el (.slice (some ⟨b,0,none⟩) (l++m).length (zs.take (0+l.length * 1+0)++Jb m++zs.drop (0+l.length * 1+0+(Jb m).length)).length) (l++m) _:=Ee.row (b:=b) (el:=el) (by simp[eb]) (by rw[Kh,ua];exact hc) (by
    have he:0+l.length * 1+0=l.length:=by omega
    rw[he,h2,<-nL,take_left' (po _)])
   rw[Kh,ua] at hb;exact hk _ _ hb)
  exact WD;have hold:∀ w':World,w'.heap=w.heap->(Builtin.firstCells 1 l.length (.slice (some ⟨b,0,none⟩) l.length zs.length)).run C.P w'=.ok (Jb l).toArray w':=λw' hw=>by
   have:=IF (P:=C.P) (w:=w') (b:=b) (off:=0) l.length 0 #[] (Jb l) (po l) (λj x' hj=>by
    have pw:zs[j]? = some x':=by rw[<-h2,List.getElem?_take] at hj;split at hj;exact hj;cases hj
    simp[World.cell?,hw,Qt,pw])
   simp only[Builtin.firstCells,loadCells,mul_one,this];simp
  obtain⟨de,rest,r1,r2,r3⟩:=PA (ty:=ty) (P:=C.P) (w:=w) (sT:=sT) (xT:=xT) (a:=some ⟨b,0,none⟩) (len:=l.length) (cap:=zs.length) (n:=m.length) (xv:=.string ⟨m.toArray⟩) (old:=Jb l) (new:=Jb m) (.inl zc.zd) fa (λw' _=>pQ m w') hold Nb zo;rw[r3];simp only[lc,Qc];have Qf:(Jb l++Jb m++rest).length=de:=by rw[ua,ua,r2,po,po];omega
  have Dw:Ca C w L []:=hH.sub (nil_sublist _);obtain⟨lv,H',L',g1,g2,g3,g4⟩:=OL (K:=K) (el:=el) (l:=l++m) (xs:=Jb l++Jb m++rest) Dw.drew (by simp[eb]) (by rw[Qf,ua];omega) (by rw[<-nL,take_left' (po _)]) λv' H' h'=>hk v' H' h';rw[Qf,ua] at g3;exact⟨lv,H',L',g1.Ld.wide (by simp),g2,g3,g4⟩
theorem S.oK{el:Nat} [ht:Aa C.P sT el 1] [hr:bg C.P el 1 bytes] [zc:Xi C.P xT]{m:List UInt8}{H1:Heap}{q:Nat×da}
  (hx:e.ev x=.atom v) (ha:Ee el v l H1) (hy:e.ev y=str m) (Nb:(l.length+m.length) * bytes<=140737488355328)
  (hk:∀ v' H',Ee el v' (l++m) H'->K (.atom v') (q::H')):Ja C ⟨dst,.call { callee:=.builtin .append,args:=#[x,y],argTypes:=#[sT,xT] },ty,la,ma,g⟩ e (q::H1) K X:=by
 refine Ja.qc (K:=λlv H'=>∃ v' H2,lv=.atom v'/\H'=H2++[q]/\Ee el v' (l++m) H2) (Ja.frame (List.perm_append_singleton _ _).symm (Ja.RT hx ha hy Nb λv' H' h=>⟨v',H',rfl,rfl,h⟩)) ?_;rintro lv H' ⟨v',H2,rfl,rfl,h⟩;exact⟨_,[q]++H2,vR _,⟨[],by simp⟩,hk _ _ h⟩
end
structure Dd(es:Array MapEntry)(p:List UInt8->Bool):Prop where
 keys:∀ e∈es.toList,∃ s:List UInt8,e.key=.string ⟨s.toArray⟩/\e.val=.bool true/\p s=true
 all:∀ s,p s=true->∃ e∈es.toList,e.key=.string ⟨s.toArray⟩
theorem Dd.nil:Dd #[] λ_=>false:=⟨λe he=>by simp at he,λs h=>by cases h⟩
theorem MA(a b:List UInt8):((⟨a.toArray⟩:ByteArray) == ⟨b.toArray⟩)=decide (a=b):=by show(a.toArray == b.toArray)=_;rw[Bool.eq_iff_iff];simp
theorem CQ(k:List UInt8):∀ (es:List MapEntry) (i:Nat),(∀ e∈es,∃ s:List UInt8,e.key=.string ⟨s.toArray⟩/\e.val=.bool true)->(∃ e∈es,e.key=.string ⟨k.toArray⟩) ->
  ∃ (j:Nat) (e:MapEntry),Instr.findNow .string (.string ⟨k.toArray⟩) es i=some (some (i+j,.bool true))/\es[j]? = some e/\e.key=.string ⟨k.toArray⟩
 |[],_,_,h=>by obtain⟨e,he,_⟩:=h;cases he
 |e::es,i,h,hk=>by
  obtain⟨s,h1,h2⟩:=h e mem_cons_self;by_cases hs:k=s;refine⟨0,e,?_,rfl,by rw[h1,hs]⟩;have hb:((⟨k.toArray⟩:ByteArray) == ⟨s.toArray⟩)=true:=by rw[MA,Eg hs]
  simp only[Instr.findNow,h1,Instr.sameNow,hb,h2,Nat.add_zero];have hb:((⟨k.toArray⟩:ByteArray) == ⟨s.toArray⟩)=false:=by rw[MA,decide_eq_false hs]
  obtain⟨e',ya,ow⟩:=hk;have Je:e'∈es:=by
   rcases Mc.1 ya with rfl|h3;rw[h1] at ow;have:s=k:=by simpa using ow
   exact absurd this.symm hs;exact h3
  obtain⟨j,e2,g1,g2,g3⟩:=CQ k es (i+1) (λx hx=>h x (Sc _ hx)) ⟨e',Je,ow⟩;refine⟨j+1,e2,?_,g2,g3⟩;simp only[Instr.findNow,h1,Instr.sameNow,hb];rw[g1];congr 3;omega
section
variable{C:Ctx}{e:Env}{H:Heap}{dst:Option Nat}{ty:TypeId}{la:String}{ma:Array Edge}{g:Option (Nat×Bool)}{K:LV->Heap->Prop}{X:List PanicEntry->Heap->Prop}{x y:Operand}
theorem QA(df:C.P.underlying kt=some .string)(b:Bool)(k:ByteArray):(Instr.checkKey b 10000 kt (.string k)).run C.P w=.ok () w:=by have Lu:Instr.checkKey b 10000 kt (.string k)=Instr.checkKey b (9999+1) kt (.string k):=rfl;rw[Lu,Instr.checkKey];simp only[Sb,ed df,lc,Qc]
theorem S.WB(ht:C.P.underlying t=some (.map kt el))(df:C.P.underlying kt=some .string){es:Array MapEntry}{p:List UInt8->Bool}{m:Operand}(hm:e.ev m=.atom (.map (some b)))(hx:e.ev x=str k)(hz:e.ev z=bool true)
  (hp:Ec (b,.obj (.map es ga)) H F) (hs:Dd es p) (hk:∀ rh Vb,Dd rh (λs=>p s || decide (s=k))->K (.atom undef) ((b,.obj (.map rh Vb))::F)):Ja C ⟨dst,.insert t m x z,ty,la,ma,g⟩ e H K X:=by
 by_cases Je:p k=true
 ·refine Ja.CB hp λρ w L h hH=>?_;obtain⟨Jd,Rd,hl,tc,zc⟩:=hH.Gb _ (Ll rfl);simp only at Jd Rd hl tc zc;have h3:execOp ρ ⟨dst,.insert t m x z,ty,la,ma,g⟩=(do Instr.mapUpdate t (ρ m) (ρ x) (ρ z);Pure.pure .skip):=rfl;obtain⟨j,e2,g1,g2,g3⟩:=CQ k es.toList 0 (λe he=>by obtain⟨s,h1,h2,_⟩:=hs.keys e he;exact⟨s,h1,h2⟩) (hs.all k Je)
  have hf:(Instr.findKey kt (.string ⟨k.toArray⟩) es.toList).run C.P w=.ok (some (0+j,.bool true)) w:=by simp only[Instr.findKey,Sb,ed df,lc,g1,Qc]
  have hg:(getObj b).run C.P w=.ok (.map es ga) w:=by simp only[getObj,Sem.run,tc]
  have UD:es[j]? = some e2:=by simpa using g2
  have Ug:(Instr.keyThatStays (((es[0+j]?).map (·.key)).getD (.string ⟨k.toArray⟩)) (.string ⟨k.toArray⟩)).run C.P w=.ok (.string ⟨k.toArray⟩) w:=by rw[zero_add,UD];simp only[map_some,getD_some,g3];unfold Instr.keyThatStays;rw[zp (by simp only[Instr.sameBits];rw[MA];simp)];try rfl
  rw[h3,Cb h hm,Cb h hx,Cb h hz];simp only[Instr.mapUpdate,Sb,ed ht,lc,hg,QA df,hf,Ug];have pz:∀ o',(setObj b o').run C.P w=.ok () (Vf w b o'):=λo'=>rI tc rfl;rw[pz];refine TH (w':=Vf w b _) hH rfl rfl rfl rfl (by simp[Vf]) (λc hc=>zF hc) (CF Rd) (λ_=>xc) (hk _ ga ⟨λe' ya=>?_,λs KD=>?_⟩);rw[zero_add] at ya;obtain⟨i,hi,rfl⟩:=List.mem_iff_getElem.1 ya;simp only[Array.length_toList,Array.size_modify] at hi;rw[Array.getElem_toList,Array.getElem_modify];split;exact⟨k,rfl,rfl,by simp⟩;obtain⟨s,h1,h2,h4⟩:=hs.keys es[i] (by simp);exact⟨s,h1,h2,by simp[h4]⟩
  have ql:p s=true:=by rcases Bool.or_eq_true_iff.1 KD with h4|h4;exact h4;rw[zt h4];exact Je
  obtain⟨e3,h5,h6⟩:=hs.all s ql;obtain⟨i,hi,rfl⟩:=List.mem_iff_getElem.1 h5;simp only[Array.length_toList] at hi;rw[Array.getElem_toList] at h6;rw[zero_add];by_cases AJ:j=i;refine⟨{ es[i] with key:=.string ⟨k.toArray⟩,val:=.bool true },?_,?_⟩;rw[List.mem_iff_getElem];refine⟨i,by simpa using hi,?_⟩;rw[Array.getElem_toList,Array.getElem_modify,zp AJ];subst AJ;rw[Array.getElem?_eq_getElem hi] at UD;obtain rfl:=Option.some.inj UD;rw[g3] at h6;exact h6;refine⟨es[i],?_,h6⟩;rw[List.mem_iff_getElem];refine⟨i,by simpa using hi,?_⟩;rw[Array.getElem_toList,Array.getElem_modify,zn AJ]
 refine S.insert ht df hm hx hz hp (λe he=>?_) (hk _ _ ⟨λe' ya=>?_,λs KD=>?_⟩);obtain⟨s,h1,_,h2⟩:=hs.keys e he;refine⟨_,h1,?_⟩;rw[MA];intro h3;rw[zt h3] at Je;exact Je h2;rw[Array.toList_push] at ya;rcases Kj ya with h1|h1;obtain⟨s,h2,h3,h4⟩:=hs.keys e' h1;exact⟨s,h2,h3,by simp[h4]⟩;obtain rfl:=wh h1;exact⟨k,rfl,rfl,by simp⟩;rw[Array.toList_push];rcases Bool.or_eq_true_iff.1 KD with h4|h4;obtain⟨e,h5,h6⟩:=hs.all s h4;exact⟨e,List.mem_append_left _ h5,h6⟩;exact⟨_,List.mem_append_right _ (Ll rfl),by rw[zt h4]⟩
theorem Pure.wq(ht:C.P.underlying t=some (.map kt el))(df:C.P.underlying kt=some .string)(hz:∀ w,(zeroValue el).run C.P w=.ok (.bool false) w){es:Array MapEntry}{p:List UInt8->Bool}(hm:e.ev x=.atom (.map (some b)))(hx:e.ev y=str k)
  (hb:(b,.obj (.map es ga))∈H) (hs:Dd es p):Pure C ⟨dst,.lookup t x y false,ty,la,ma,g⟩ e H (bool (p k)):=λρ w L h hH=>by
 obtain⟨_,_,_,tc,_⟩:=hH.Gb _ hb;simp only at tc;refine⟨.bool (p k),xc,λw' ha=>?_⟩;have hw:w'.heap[b]? = some (.map es ga):=(ha.1 _ hb).trans tc;have h3:execOp ρ ⟨dst,.lookup t x y false,ty,la,ma,g⟩=(do Pure.pure (.value (<-Instr.lookup t (ρ x) (ρ y) false))):=rfl;have hg:(getObj b).run C.P w'=.ok (.map es ga) w':=by simp only[getObj,Sem.run,hw]
 rw[h3,Cb h hm,Cb h hx];by_cases Je:p k=true;obtain⟨j,e2,g1,g2,g3⟩:=CQ k es.toList 0 (λe he=>by obtain⟨s,h1,h2,_⟩:=hs.keys e he;exact⟨s,h1,h2⟩) (hs.all k Je);have hf:(Instr.findKey kt (.string ⟨k.toArray⟩) es.toList).run C.P w'=.ok (some (0+j,.bool true)) w':=by simp only[Instr.findKey,Sb,ed df,lc,g1,Qc]
 simp only[Instr.lookup,Sb,ed ht,lc,hg,Qc,QA df,hf,Je];rfl;have hf:(Instr.findKey kt (.string ⟨k.toArray⟩) es.toList).run C.P w'=.ok none w':=by
  have nJ:=PQ ⟨k.toArray⟩ es.toList 0 λe he=>by obtain⟨s,h1,_,h2⟩:=hs.keys e he;refine⟨_,h1,?_⟩;rw[MA];intro h3;rw[zt h3] at Je;exact Je h2
  simp only[Instr.findKey,Sb,ed df,lc,nJ,Qc]
 have TS:p k=false:=Bool.eq_false_iff.2 Je;simp only[Instr.lookup,Sb,ed ht,lc,hg,Qc,QA df,hf,hz,TS];rfl
end
section
variable{C:Ctx}{e:Env}{H:Heap}{dst:Option Nat}{ty:TypeId}{la:String}{ma:Array Edge}{g:Option (Nat×Bool)}{K:LV->Heap->Prop}{X:List PanicEntry->Heap->Prop}{x y:Operand}
theorem Pure.mD(ht:C.P.underlying t=some (.map kt el))(df:C.P.underlying kt=some .string)(hz:∀ w,(zeroValue el).run C.P w=.ok (.int .i64 0) w)(hm:e.ev x=.atom (.map none))(hx:e.ev y=str k):Pure C ⟨dst,.lookup t x y false,ty,la,ma,g⟩ e H (int .i64 0):=λρ w L h hH=>by
 refine⟨.int .i64 0,xc,λw' ha=>?_⟩;have h3:execOp ρ ⟨dst,.lookup t x y false,ty,la,ma,g⟩=(do Pure.pure (.value (<-Instr.lookup t (ρ x) (ρ y) false))):=rfl;rw[h3,Cb h hm,Cb h hx]
 have hf:(Instr.findKey kt (.string ⟨k.toArray⟩) []).run C.P w'=.ok none w':=by simp only[Instr.findKey,Sb,ed df,lc,Instr.findNow,Qc]
 simp only[Instr.lookup,Sb,ed ht,lc,Qc,QA df,hf,hz];rfl
end
section
variable{C:Ctx}{e:Env}{H:Heap}{x y:Operand}{dst:Option Nat}{ty:TypeId}{la:String}{ma:Array Edge}{g:Option (Nat×Bool)}{K:LV->Heap->Prop}{X:List PanicEntry->Heap->Prop}
theorem Ja.nK{el:Nat} [ht:Aa C.P sT el 1] [hr:bg C.P el 1 bytes]{e2:Nat} [zc:Aa C.P xT e2 1]{m:List UInt8}
  (hx:e.ev x=.atom v) (ha:Ee el v l H) (hy:GL.elems (e.ev y)=some (jf m)) (zS:m≠[]) (Nb:(l.length+m.length) * bytes<=140737488355328)
  (hk:∀ v' H',Ee el v' (l++m) H'->K (.atom v') H'):Ja C ⟨dst,.call { callee:=.builtin .append,args:=#[x,y],argTypes:=#[sT,xT] },ty,la,ma,g⟩ e H K X:=by
 have h0:∀ (cs:Array Bool) (args:Array Value),builtin .append #[sT,xT] ty cs args=(do Pure.pure (.value (<-Builtin.append_ #[sT,xT] ty args))):=λ_ _=>rfl
 cases ha with
 |nil=>
  by_cases eb:m=[];subst eb;exact absurd rfl zS;intro ρ w L h hH;have Qd:0<m.length:=List.length_pos_iff.2 eb;obtain⟨ay,cy,yN,Rt,KI,Wv,ZA,Vq⟩:=TC (s:=1) (h y) hy (XX m);rw[OX] at Wv;have DR:yN=Jb m:=aD (zs:=Jb m) (by rw[show(Jb m).map LV.atom=jf m from by simp[Jb,jf,map_map,Function.comp_def]];exact Wv);subst DR;rw[EL] at Rt KI Vq;rw[Rt] at Vq;have fa:∀ w':World,(Builtin.lenOf (.slice ay m.length cy)).run C.P w'=.ok m.length w':=λw'=>by simp[Builtin.lenOf]
  obtain⟨de,rest,r1,r2,r3⟩:=PA (ty:=ty) (P:=C.P) (w:=w) (sT:=sT) (xT:=xT) (a:=none) (len:=0) (cap:=0) (n:=m.length) (xv:=.slice ay m.length cy) (old:=[]) (new:=Jb m) (.inr ⟨_,zc.zd⟩) fa (λw' hw=>Vq C.P w' hw)
   (λw' _=>by simp[Builtin.firstCells]) (by simpa using Nb) zo
  rw[Pl,h0];simp only[map_toArray,Tb,map_nil,Sb,Cb h hx,Rt,r3,lc,Qc,List.nil_append,zero_add];have Qf:(Jb m++rest).length=de:=by rw[ua,r2,po];omega
  obtain⟨lv,H',L',g1,g2,g3,g4⟩:=OL (K:=K) (el:=el) (l:=m) (xs:=Jb m++rest) hH.drew eb (by rw[Qf];omega) (by rw[take_left' (po m)]) λv' H' h'=>hk v' H' h';rw[Qf] at g3
  exact⟨lv,H',L',g1.Ld,g2,g3,g4⟩
 |row eb h1 h2=>
  rename_i b xs;intro ρ w L h hH;obtain⟨Jd,Rd,hl,zs,Qt,CD⟩:=hH.Gb _ (Ll rfl);have hz:=aD CD;subst hz;simp only at Jd Rd hl Qt;obtain⟨ay,cy,yN,Rt,KI,Wv,ZA,Vq⟩:=TC (s:=1) (h y) hy (XX m);rw[OX] at Wv;have DR:yN=Jb m:=aD (zs:=Jb m) (by rw[show(Jb m).map LV.atom=jf m from by simp[Jb,jf,map_map,Function.comp_def]];exact Wv);subst DR;rw[EL] at Rt KI Vq;rw[Rt] at Vq;have fa:∀ w':World,(Builtin.lenOf (.slice ay m.length cy)).run C.P w'=.ok m.length w':=λw'=>by simp[Builtin.lenOf]
  rw[Pl,h0];simp only[map_toArray,Tb,map_nil,Sb,Cb h hx,Rt];by_cases hc:l.length+m.length<=zs.length;have Oc:=oM (ty:=ty) (P:=C.P) (w:=w) (sT:=sT) (xT:=xT) (s:=1) (a:=some ⟨b,0,none⟩) (len:=l.length) (cap:=zs.length) (n:=m.length) (xv:=.slice ay m.length cy) (new:=Jb m) (.inr ⟨_,zc.zd⟩) fa (λw' hw=>Vq C.P w' hw) hc;obtain⟨w',r1,r2,r3,r4,r5,r6,r7⟩:=YC (P:=C.P) (b:=b) (off:=0+l.length * 1) (t:=el) (fr:=(0,0)) (Jb m) 0 w zs Qt (by rw[po];omega) (λj _ _=>by simp) (iY m);rw[Oc];simp only[re,r1,lc,Qc];have Kh:(zs.take (0+l.length * 1+0)++Jb m++zs.drop (0+l.length * 1+0+(Jb m).length)).length=zs.length:=by simp only[ua,List.length_take,List.length_drop,po];omega
  have WD:=vF (v:=.slice (some ⟨b,0,none⟩) (l.length+m.length) zs.length) (lv:=.atom (.slice (some ⟨b,0,none⟩) (l.length+m.length) zs.length)) (K:=K) (Ya:=(zs.take (0+l.length * 1+0)++Jb m++zs.drop (0+l.length * 1+0+(Jb m).length)).map .atom) hH r2 r3 r4 r5 r6 r7 (by rw[Kh,Ua]) (Jl _) xc (by
   have hb:Ee el (.slice (some ⟨b,0,none⟩) (l++m).length (zs.take (0+l.length * 1+0)++Jb m++zs.drop (0+l.length * 1+0+(Jb m).length)).length) (l++m) _:=Ee.row (b:=b) (el:=el) (by simp[eb]) (by rw[Kh,ua];exact hc) (by
    have he:0+l.length * 1+0=l.length:=by omega
    rw[he,h2,<-nL,take_left' (po _)])
   rw[Kh,ua] at hb;exact hk _ _ hb)
  exact WD;have hold:∀ w':World,w'.heap=w.heap->(Builtin.firstCells 1 l.length (.slice (some ⟨b,0,none⟩) l.length zs.length)).run C.P w'=.ok (Jb l).toArray w':=λw' hw=>by
   have:=IF (P:=C.P) (w:=w') (b:=b) (off:=0) l.length 0 #[] (Jb l) (po l) (λj x' hj=>by
    have pw:zs[j]? = some x':=by rw[<-h2,List.getElem?_take] at hj;split at hj;exact hj;cases hj
    simp[World.cell?,hw,Qt,pw])
   simp only[Builtin.firstCells,loadCells,mul_one,this];simp
  obtain⟨de,rest,r1,r2,r3⟩:=PA (ty:=ty) (P:=C.P) (w:=w) (sT:=sT) (xT:=xT) (a:=some ⟨b,0,none⟩) (len:=l.length) (cap:=zs.length) (n:=m.length) (xv:=.slice ay m.length cy) (old:=Jb l) (new:=Jb m) (.inr ⟨_,zc.zd⟩) fa (λw' hw=>Vq C.P w' hw) hold Nb zo;rw[r3];simp only[lc,Qc];have Qf:(Jb l++Jb m++rest).length=de:=by rw[ua,ua,r2,po,po];omega
  have Dw:Ca C w L []:=hH.sub (nil_sublist _);obtain⟨lv,H',L',g1,g2,g3,g4⟩:=OL (K:=K) (el:=el) (l:=l++m) (xs:=Jb l++Jb m++rest) Dw.drew (by simp[eb]) (by rw[Qf,ua];omega) (by rw[<-nL,take_left' (po _)]) λv' H' h'=>hk v' H' h';rw[Qf,ua] at g3;exact⟨lv,H',L',g1.Ld.wide (by simp),g2,g3,g4⟩
theorem S.Sw{el:Nat} [ht:Aa C.P sT el 1] [hr:bg C.P el 1 bytes]{e2:Nat} [zc:Aa C.P xT e2 1]{m:List UInt8}{H1:Heap}{q:Nat×da}
  (hx:e.ev x=.atom v) (ha:Ee el v l H1) (hy:GL.elems (e.ev y)=some (jf m)) (zS:m≠[]) (Nb:(l.length+m.length) * bytes<=140737488355328)
  (hk:∀ v' H',Ee el v' (l++m) H'->K (.atom v') (q::H')):Ja C ⟨dst,.call { callee:=.builtin .append,args:=#[x,y],argTypes:=#[sT,xT] },ty,la,ma,g⟩ e (q::H1) K X:=by
 refine Ja.qc (K:=λlv H'=>∃ v' H2,lv=.atom v'/\H'=H2++[q]/\Ee el v' (l++m) H2) (Ja.frame (List.perm_append_singleton _ _).symm (Ja.nK hx ha hy zS Nb λv' H' h=>⟨v',H',rfl,rfl,h⟩)) ?_;rintro lv H' ⟨v',H2,rfl,rfl,h⟩;exact⟨_,[q]++H2,vR _,⟨[],by simp⟩,hk _ _ h⟩
theorem Pure.mK{t el FT s:Nat} [Aa C.P t FT s]{Hv:Heap}(hx:e.ev x=.atom v)(ha:Ee el v l Hv):Pure C ⟨dst,.call { callee:=.builtin .len,args:=#[x],argTypes:=#[t] },ty,la,ma,g⟩ e H (int .i64 l.length):=
 .Ka λρ _ _ h=>⟨_,xc,λw'=>by
  have hu:=ed (P:=C.P) (Aa.zd (t:=t)) w';rw[Pl,qM];cases ha <;> simp[Builtin.len_,hu,goInt,Cb h hx]⟩
end
abbrev KV:=List (List UInt8×LV)
variable{m:KV}
@[reducible] def gh(k:List UInt8):Value:=.string ⟨k.toArray⟩
def Gd(m:KV):List (Value×LV):=m.map λp=>(gh p.1,p.2)
def Sa:KV->List UInt8->Option LV
 |[],_=>none
 |p::r,k=>if p.1=k then some p.2 else Sa r k
def Zb:KV->List UInt8->LV->KV
 |[],k,v=>[(k,v)]
 |p::r,k,v=>if p.1=k then (k,v)::r else p::Zb r k v
theorem Aj(k k':List UInt8)(v:LV):∀ m:KV,Sa (Zb m k v) k'=if k=k' then some v else Sa m k'
 |[]=>by simp only[Zb,Sa]
 |p::r=>by unfold Zb;by_cases h:p.1=k;rw[zp h];by_cases h':k=k';simp only[Sa,zp h'];simp only[Sa,zn h'];rw[zn (by rw[h];exact h')];rw[zn h];simp only[Sa];rw[Aj k k' v r];by_cases h2:p.1=k';rw[zp h2,zn (by rw[<-h2];exact λh3=>h h3.symm)];simp only[zp h2];simp only[zn h2]
theorem yO(k:List UInt8):∀ (m:KV) (es:List MapEntry) (i:Nat),es.map (·.key)=(Gd m).map (·.1) ->
  (Sa m k=none/\(∀ v,Zb m k v=m++[(k,v)])/\Instr.findNow .string (gh k) es i=some none) ∨
  ∃ (j:Nat) (e:MapEntry) (v:LV),Instr.findNow .string (gh k) es i=some (some (i+j,e.val))/\es[j]? = some e/\m[j]? = some (k,v)/\Sa m k=some v/\∀ v',Zb m k v'=m.set j (k,v')
 |[],[],i,_=>.inl ⟨rfl,λ_=>rfl,rfl⟩
 |[],_::_,_,h=>by cases h
 |_::_,[],_,h=>by cases h
 |p::m,e::es,i,h=>by
  have h1:e.key=gh p.1:=by have:=(List.cons.inj h).1;exact this
  have h2:es.map (·.key)=(Gd m).map (·.1):=(List.cons.inj h).2;by_cases hs:p.1=k
  ·right;have hb:((⟨k.toArray⟩:ByteArray) == ⟨p.1.toArray⟩)=true:=by rw[MA,Eg hs.symm]
   refine⟨0,e,p.2,?_,rfl,by rw[<-hs];try rfl,by simp only[Sa,zp hs],λv'=>by simp only[Zb,zp hs];rfl⟩;simp only[Instr.findNow,h1,Instr.sameNow,hb,Nat.add_zero]
  have hb:((⟨k.toArray⟩:ByteArray) == ⟨p.1.toArray⟩)=false:=by rw[MA,decide_eq_false (λh3=>hs h3.symm)]
  rcases yO k m es (i+1) h2 with⟨g1,g2,g3⟩|⟨j,e2,v,g1,g2,g3,g4,g5⟩;left;refine⟨by simp only[Sa,zn hs];exact g1,λv=>by simp only[Zb,zn hs,g2];rfl,?_⟩;simp only[Instr.findNow,h1,Instr.sameNow,hb];exact g3;right;refine⟨j+1,e2,v,?_,g2,g3,by simp only[Sa,zn hs];exact g4,λv'=>by simp only[Zb,zn hs,g5];rfl⟩;simp only[Instr.findNow,h1,Instr.sameNow,hb];rw[g1];congr 3;omega
theorem na.setAt{w:World}{L:Live}:∀ {cs:List LV} {xs:List Value},na w L cs xs->∀ (j:Nat) {c:LV} {x:Value},Wa w L c x->na w L (cs.set j c) (xs.set j x)
 |[],xs,h,j,c,x,hr=>by simp only[na] at h;subst h;simp only[List.set_nil,na]
 |d::cs,xs,h,j,c,x,hr=>by
  simp only[na] at h;obtain⟨y,ys,rfl,h1,h2⟩:=h;cases j with
  |zero=>simp only[List.set_cons_zero,na];exact⟨x,ys,rfl,hr,h2⟩
  |succ j=>simp only[List.set_cons_succ,na];exact⟨y,_,rfl,h1,h2.setAt j hr⟩
section
variable{C:Ctx}{e:Env}{H:Heap}{dst:Option Nat}{ty:TypeId}{la:String}{ma:Array Edge}{g:Option (Nat×Bool)}{K:LV->Heap->Prop}{X:List PanicEntry->Heap->Prop}{x y:Operand}
theorem wW{w':World}{L:Live}{Vb:Nat}{es rh:List (Value×LV)}(hH:Ca C w L [(b,.map es ga)])(h1:w'.os=w.os)(h2:w'.tape=w.tape)(h3:w'.output=w.output)
  (h4:w'.heap.size=w.heap.size) (h5:∀ c,c≠b->w'.heap[c]? = w.heap[c]?) (Wb:List MapEntry) (h6:w'.heap[b]? = some (.map Wb.toArray Vb)) (h7:Wb.map (·.key)=rh.map (·.1)) (h8:na w L (rh.map (·.2)) (Wb.map (·.val)))
  (h9:∀ e∈Wb,e.born<Vb) (Ms:(Wb.map (·.born)).Nodup) {v:Value} {lv:LV} (hv:∀ L,Wa w' L lv v) (hk:K lv [(b,.map rh Vb)]):Left C w L [(b,.map es ga)] w' v K:=by
 obtain⟨Jd,Rd,hl,xs,tc,_⟩:=hH.Gb _ (Ll rfl);simp only at Jd Rd hl tc;have hx:Ext w L w' L:=by
  refine⟨by rw[h4];exact mc _,λc hc=>?_,λc i hi=>?_,λ_=>mc _⟩
  by_cases he:c=b;subst he;rw[yF tc rfl];exact yF h6 rfl;exact Wy (h5 c he);by_cases he:c=b;subst he;rw[hl] at hi;omega;exact cell_of_heap (h5 c he) i
 refine⟨lv,[(b,.map rh Vb)],L,⟨h1,h2,h3,hx,λc hc hn=>h5 c (by simpa using hn),λ_ _ _=>rfl,λp hp=>.inl (by simp only[mem_singleton] at hp;subst hp;simp)⟩,
  ⟨?_,hH.ng,by rw[h4];exact hH.b0,by rw[h4];exact hH.wf,by simp,λp hp=>?_⟩,hv L,hk⟩
 exact hH.base.trans ⟨h1,h2,h3,by rw[h4];exact mc _,λc hc=>h5 c zo⟩;simp only[mem_singleton] at hp;subst hp;exact⟨Jd,by rw[h4];exact Rd,hl,Wb,h6,h7,na.mono hx _ _ h8,h9,Ms⟩
theorem S.Ji(hk:∀ b,K (.atom (.map (some b))) ((b,.map (Gd []) 0)::H)):Ja C ⟨dst,.makeMap t none,ty,la,ma,g⟩ e H K X:=by
 refine Ja.Kx λρ w L _ hH=>?_;have h3:execOp ρ ⟨dst,.makeMap t none,ty,la,ma,g⟩=(do Pure.pure (.value (<-Instr.makeMap t none))):=rfl;have h4:(Instr.makeMap t none).run C.P w=.ok (.map (some w.heap.size)) (World.push w (.map #[] 0)):=rfl;rw[h3,Sb,h4]
 have:=gx hH (.map #[] 0) 0 [(w.heap.size,.map (Gd []) 0)] (λp hp=>by
  simp only[mem_singleton] at hp;subst hp;refine⟨rfl,by simp[Live.jd],[],jq,rfl,?_,(λe he=>by cases he),List.nodup_nil⟩;show na _ _ [] [];simp only[na]) (by simp)
 exact⟨_,_,_,this.1,this.2,xc,hk _⟩
theorem S.Zb{t kt el:TypeId}(ht:C.P.underlying t=some (.map kt el))(df:C.P.underlying kt=some .string){b ga:Nat}{m:KV}{F:Heap}{mo z:Operand}{k:List UInt8}{lv:LV}(hm:e.ev mo=.atom (.map (some b)))(hx:e.ev x=str k)(hz:e.ev z=lv)
  (hp:Ec (b,.map (Gd m) ga) H F) (hk:∀ Vb,K (.atom undef) ((b,.map (Gd (GL.Zb m k lv)) Vb)::F)):Ja C ⟨dst,.mapUpdate t mo x z,ty,la,ma,g⟩ e H K X:=by
 refine Ja.CB hp λρ w L h hH=>?_;obtain⟨Jd,Rd,hl,Wb,tc,zc,Xv,BM,N0⟩:=hH.Gb _ (Ll rfl);simp only at Jd Rd hl tc zc Xv;have LD:Wa w L lv (ρ z):=hz▸h z;have h3:execOp ρ ⟨dst,.mapUpdate t mo x z,ty,la,ma,g⟩=(do Instr.mapUpdate t (ρ mo) (ρ x) (ρ z);Pure.pure .skip):=rfl;have hg:(getObj b).run C.P w=.ok (.map Wb.toArray ga) w:=by simp only[getObj,Sem.run,tc]
 have pz:∀ o',(setObj b o').run C.P w=.ok () (Vf w b o'):=λo'=>rI tc rfl;rw[h3,Cb h hm,Cb h hx];rcases yO k m Wb 0 zc with⟨g1,g2,g3⟩|⟨j,e2,v,g1,g2,g3,g4,g5⟩
 ·have hf:(Instr.findKey kt (gh k) Wb.toArray.toList).run C.P w=.ok none w:=by
   simp only[Instr.findKey,Sb,ed df,lc,g3,Qc]
  simp only[Instr.mapUpdate,Sb,ed ht,lc,hg,QA df,hf];rw[pz];refine wW (w':=Vf w b _) hH rfl rfl rfl (by simp[Vf]) (λc hc=>zF hc) (Wb++[⟨gh k,ρ z,ga⟩]) (Vb:=ga+1) ((CF Rd).trans (by simp)) (rh:=Gd (GL.Zb m k lv)) ?_ ?_ ?_ ?_ (λ_=>xc) (hk _)
  ·rw[g2,Gd,Od,Od,Od,<-Gd,zc]
   try rfl
  rw[g2,Gd,Od,Od,Od,<-Gd];refine na.append Xv ?_;simp only[Tb,map_nil,na];exact⟨_,_,rfl,LD,rfl⟩;intro e' ya;rcases Kj ya with h1|h1;exact Nat.lt_succ_of_lt (BM e' h1);obtain rfl:=wh h1;exact Nat.lt_succ_self _;rw[Od,List.nodup_append];refine⟨N0,by simp,λa ha b' lT he=>?_⟩;obtain⟨e',h1,rfl⟩:=vi ha;simp only[Tb,map_nil,mem_singleton] at lT;have:=BM e' h1;omega
 have hf:(Instr.findKey kt (gh k) Wb.toArray.toList).run C.P w=.ok (some (0+j,e2.val)) w:=by simp only[Instr.findKey,Sb,ed df,lc,g1,Qc]
 have NS:e2.key=gh k:=by
  have h1:(Wb.map (·.key))[j]? = some e2.key:=by rw[List.getElem?_map,g2];try rfl
  rw[zc,Gd,map_map,List.getElem?_map,g3] at h1;exact(Option.some.inj h1).symm
 have Ug:(Instr.keyThatStays (((Wb.toArray[0+j]?).map (·.key)).getD (gh k)) (gh k)).run C.P w=.ok (gh k) w:=by rw[zero_add,List.getElem?_toArray,g2];simp only[map_some,getD_some,NS];unfold Instr.keyThatStays;rw[zp (by simp only[Instr.sameBits];rw[MA];simp)];try rfl
 simp only[Instr.mapUpdate,Sb,ed ht,lc,hg,QA df,hf,Ug];rw[pz];have xS:Wb.toArray.modify (0+j) (λe=>{ e with key:=gh k,val:=ρ z })=(Wb.set j { e2 with key:=gh k,val:=ρ z }).toArray:=by
  rw[zero_add];apply Array.ext';simp only[Array.toList_modify];refine List.ext_getElem? λi=>?_;rw[List.getElem?_modify,List.getElem?_set]
  by_cases hi:j=i;subst hi;have wa:j<Wb.length:=(List.getElem?_eq_some_iff.1 g2).1;rw[zp rfl,g2,zp wa];show some _=_;simp;rw[zn hi];cases Wb[i]? with
  |none=>rfl
  |some a=>show some _=_;simp[hi]
 refine wW (w':=Vf w b _) hH rfl rfl rfl (by simp[Vf]) (λc hc=>zF hc) (Wb.set j { e2 with key:=gh k,val:=ρ z }) ((CF Rd).trans (by rw[xS])) (rh:=Gd (GL.Zb m k lv)) ?_ ?_ ?_ ?_ (λ_=>xc) (hk _)
 ·rw[g5,Gd,map_set,map_set,map_set,zc]
  try rfl
 rw[g5,Gd,map_set,map_set,map_set];exact na.setAt Xv j LD;intro e' ya;rcases List.mem_or_eq_of_mem_set ya with h1|h1;exact BM e' h1;rw[h1];exact BM e2 (List.mem_of_getElem? g2);rw[map_set];have:(Wb.map (·.born)).set j e2.born=Wb.map (·.born):=by
  refine List.ext_getElem? λi=>?_;rw[List.getElem?_set];split
  ·rename_i h1
   subst h1;split
   ·rw[List.getElem?_map,g2];try rfl
   rename_i h2;rw[List.getElem?_eq_none zo]
  rfl
 rw[this];exact N0
theorem NV(ht:C.P.underlying t=some (.map kt el))(df:C.P.underlying kt=some .string)(hz:∀ w,(zeroValue el).run C.P w=.ok zv w)(PF:∀ w L,Wa w L zl zv)
  (hH:Ca C w L H) (hb:(b,.map (Gd m) ga)∈H):∃ v,Wa w L ((Sa m k).getD zl) v/\∀ w',rm w L H w'->∀ c,(Instr.lookup t (.map (some b)) (gh k) c).run C.P w'=.ok (if c=true then .tuple #[v,.bool (Sa m k).isSome] else v) w':=by
 obtain⟨_,_,_,Wb,tc,zc,Xv,_⟩:=hH.Gb _ hb;simp only at tc;rcases yO k m Wb 0 zc with⟨g1,g2,g3⟩|⟨j,e2,v,g1,g2,g3,g4,g5⟩;refine⟨zv,by rw[g1];exact PF w L,λw' ha c=>?_⟩;have hw:w'.heap[b]? = some (.map Wb.toArray ga):=(ha.1 _ hb).trans tc;have hg:(getObj b).run C.P w'=.ok (.map Wb.toArray ga) w':=by simp only[getObj,Sem.run,hw]
 have hf:(Instr.findKey kt (gh k) Wb.toArray.toList).run C.P w'=.ok none w':=by simp only[Instr.findKey,Sb,ed df,lc,g3,Qc]
 simp only[Instr.lookup,Sb,ed ht,lc,hg,Qc,QA df,hf,hz,g1];rfl;refine⟨e2.val,?_,λw' ha c=>?_⟩
 ·rw[g4];obtain⟨x,h1,h2⟩:=Xv.get (i:=j) (c:=v) (by rw[Gd,map_map,List.getElem?_map,g3];try rfl);rw[List.getElem?_map,g2] at h1;obtain rfl:=Option.some.inj h1;exact h2
 have hw:w'.heap[b]? = some (.map Wb.toArray ga):=(ha.1 _ hb).trans tc;have hg:(getObj b).run C.P w'=.ok (.map Wb.toArray ga) w':=by simp only[getObj,Sem.run,hw]
 have hf:(Instr.findKey kt (gh k) Wb.toArray.toList).run C.P w'=.ok (some (0+j,e2.val)) w':=by simp only[Instr.findKey,Sb,ed df,lc,g1,Qc]
 simp only[Instr.lookup,Sb,ed ht,lc,hg,Qc,QA df,hf,g4];rfl
theorem Pure.Sa{t kt el:TypeId}(ht:C.P.underlying t=some (.map kt el))(df:C.P.underlying kt=some .string){zv:Value}{zl:LV}(hz:∀ w,(zeroValue el).run C.P w=.ok zv w)(PF:∀ w L,Wa w L zl zv){b ga:Nat}{m:KV}{k:List UInt8}(hm:e.ev x=.atom (.map (some b)))(hx:e.ev y=str k)
  (hb:(b,.map (Gd m) ga)∈H):Pure C ⟨dst,.lookup t x y false,ty,la,ma,g⟩ e H ((GL.Sa m k).getD zl):=λρ w L h hH=>by
 obtain⟨v,h1,h2⟩:=NV ht df hz PF (k:=k) hH hb;refine⟨v,h1,λw' ha=>?_⟩;have h3:execOp ρ ⟨dst,.lookup t x y false,ty,la,ma,g⟩=(do Pure.pure (.value (<-Instr.lookup t (ρ x) (ρ y) false))):=rfl;rw[h3,Cb h hm,Cb h hx,Sb,h2 w' ha false]
 try rfl
theorem Pure.Uv(ht:C.P.underlying t=some (.map kt el))(df:C.P.underlying kt=some .string)(hz:∀ w,(zeroValue el).run C.P w=.ok zv w)(PF:∀ w L,Wa w L zl zv)(hm:e.ev x=.atom (.map (some b)))(hx:e.ev y=str k)
  (hb:(b,.map (Gd m) ga)∈H):Pure C ⟨dst,.lookup t x y true,ty,la,ma,g⟩ e H (.tuple [(GL.Sa m k).getD zl,bool (GL.Sa m k).isSome]):=λρ w L h hH=>by
 obtain⟨v,h1,h2⟩:=NV ht df hz PF (k:=k) hH hb;refine⟨.tuple #[v,.bool (GL.Sa m k).isSome],?_,λw' ha=>?_⟩;simp only[Wa];refine⟨[v,.bool (GL.Sa m k).isSome],rfl,?_⟩;simp only[na];exact⟨_,_,rfl,h1,_,_,rfl,rfl,rfl⟩;have h3:execOp ρ ⟨dst,.lookup t x y true,ty,la,ma,g⟩=(do Pure.pure (.value (<-Instr.lookup t (ρ x) (ρ y) true))):=rfl;rw[h3,Cb h hm,Cb h hx,Sb,h2 w' ha true]
 try rfl
end
class xk (P:Program) (t:TypeId) (el:outParam TypeId) (zv:outParam Value) (zl:outParam LV):Prop where
 zd:∃ kt,P.underlying t=some (.map kt el)/\P.underlying kt=some .string
 zero:∀ w,(zeroValue el).run P w=.ok zv w
 rep:∀ w L,Wa w L zl zv
theorem L8(w:World)(L:Live)(zs:List Value):Wa w L (.agg (zs.map .atom)) (.agg zs.toArray):=by simp only[Wa];exact⟨zs,rfl,Jl zs⟩
section
variable{C:Ctx}{e:Env}{H:Heap}{dst:Option Nat}{ty:TypeId}{la:String}{ma:Array Edge}{g:Option (Nat×Bool)}{K:LV->Heap->Prop}{X:List PanicEntry->Heap->Prop}{x y:Operand}
theorem Pure.WA [h:xk C.P t el zv zl](hm:e.ev x=.atom (.map (some b)))(hx:e.ev y=str k)(hb:(b,.map (Gd m) ga)∈H)(hg:GL.Sa m k=some lv) :
  Pure C ⟨dst,.lookup t x y false,ty,la,ma,g⟩ e H lv:=by
 obtain⟨kt,h1,h2⟩:=h.zd;have:=Pure.Sa (dst:=dst) (ty:=ty) (la:=la) (ma:=ma) (g:=g) h1 h2 h.zero h.rep hm hx hb;rwa [hg] at this
theorem Pure.wD [h:xk C.P t el zv zl](hm:e.ev x=.atom (.map (some b)))(hx:e.ev y=str k)(hb:(b,.map (Gd m) ga)∈H)(hg:GL.Sa m k=none) :
  Pure C ⟨dst,.lookup t x y false,ty,la,ma,g⟩ e H zl:=by
 obtain⟨kt,h1,h2⟩:=h.zd;have:=Pure.Sa (dst:=dst) (ty:=ty) (la:=la) (ma:=ma) (g:=g) h1 h2 h.zero h.rep hm hx hb;rwa [hg] at this
theorem Pure.Sq [h:xk C.P t el zv zl](hm:e.ev x=.atom (.map (some b)))(hx:e.ev y=str k)(hb:(b,.map (Gd m) ga)∈H)(hg:GL.Sa m k=some lv) :
  Pure C ⟨dst,.lookup t x y true,ty,la,ma,g⟩ e H (.tuple [lv,bool true]):=by
 obtain⟨kt,h1,h2⟩:=h.zd;have:=Pure.Uv (dst:=dst) (ty:=ty) (la:=la) (ma:=ma) (g:=g) h1 h2 h.zero h.rep hm hx hb;rwa [hg] at this
theorem Pure.Bn [h:xk C.P t el zv zl](hm:e.ev x=.atom (.map (some b)))(hx:e.ev y=str k)(hb:(b,.map (Gd m) ga)∈H)(hg:GL.Sa m k=none) :
  Pure C ⟨dst,.lookup t x y true,ty,la,ma,g⟩ e H (.tuple [zl,bool false]):=by
 obtain⟨kt,h1,h2⟩:=h.zd;have:=Pure.Uv (dst:=dst) (ty:=ty) (la:=la) (ma:=ma) (g:=g) h1 h2 h.zero h.rep hm hx hb;rwa [hg] at this
theorem S.Uj [h:xk C.P t el zv zl](hm:e.ev mo=.atom (.map (some b)))(hx:e.ev x=str k)(hz:e.ev z=lv)
  (hp:Ec (b,.map (Gd m) ga) H F) (hk:∀ Vb,K (.atom undef) ((b,.map (Gd (GL.Zb m k lv)) Vb)::F)):Ja C ⟨dst,.mapUpdate t mo x z,ty,la,ma,g⟩ e H K X:=by
 obtain⟨kt,h1,h2⟩:=h.zd;exact S.Zb h1 h2 hm hx hz hp hk
theorem S.JI [h:xk C.P t el zv zl](hm:e.ev mo=.atom (.map (some b)))(hx:e.ev x=str k)(hz:e.ev z=lv)
  (hp:Ec (b,.map (Gd m) ga) H F) (hk:∀ Vb,K (.atom undef) ((b,.map (Gd (GL.Zb m k lv)) Vb)::F)):Ja C ⟨dst,.insert t mo x z,ty,la,ma,g⟩ e H K X:=
 λρ w L h1 h2=>(S.Uj (dst:=dst) (ty:=ty) (la:=la) (ma:=ma) (g:=g) (X:=X) hm hx hz hp hk) ρ w L h1 h2
theorem S.Jc [h:xk C.P t el zv zl](m':KV)(hm:e.ev mo=.atom (.map (some b)))(hx:e.ev x=str k)(hz:e.ev z=lv)
  (hp:Ec (b,.map (Gd m) ga) H F) (he:GL.Zb m k lv=m') (hk:∀ Vb,K (.atom undef) ((b,.map (Gd m') Vb)::F)):Ja C ⟨dst,.insert t mo x z,ty,la,ma,g⟩ e H K X:=
 S.JI hm hx hz hp (he▸hk)
theorem KK{k:List UInt8}{v:LV}:∀ {m:KV},k ∉ m.map (·.1)->GL.Zb m k v=m++[(k,v)]
 |[],_=>rfl
 |p::r,h=>by
  rw[GL.Zb,zn (λhe=>h (by rw[Tb];exact Mc.2 (.inl he.symm))),KK (λhm=>h (by rw[Tb];exact Sc _ hm))]
  try rfl
end
variable{C:Ctx}{dst:Option Nat}{ty:TypeId}{la:String}{ma:Array Edge}{g:Option (Nat×Bool)}{e:Env}{H:Heap}{K:LV->Heap->Prop}{X:List PanicEntry->Heap->Prop}
theorem S.vq(ht:C.P.underlying t=some (.map kt el))(df:C.P.underlying kt=some .string){es:Array MapEntry}{p:List UInt8->Bool}{m:Operand}{x:Operand}(hm:e.ev m=.atom (.map (some b)))(hx:e.ev x=str k)(hz:e.ev z=bool true)
  (hp:Ec (b,.obj (.map es ga)) H F) (hs:Dd es p) (hk:∀ rh Vb,Dd rh (λs=>p s || decide (s=k))->K (.atom undef) ((b,.obj (.map rh Vb))::F)):Ja C ⟨dst,.mapUpdate t m x z,ty,la,ma,g⟩ e H K X:=
 λρ w L h hH=>(S.WB (dst:=dst) (ty:=ty) (la:=la) (ma:=ma) (g:=g) (X:=X) ht df hm hx hz hp hs hk) ρ w L h hH
theorem K7{fn:Func}{r s t q:ResultVar}(h:fn.results=#[r,s,t,q]){tmps:Array Value}{u x y:Value}(h1:(uj tmps r).run P w=.ok v w)(h2:(uj tmps s).run P w=.ok u w)(h3:(uj tmps t).run P w=.ok x w)(h4:(uj tmps q).run P w=.ok y w) :
  (results fn tmps).run P w=.ok (.tuple #[v,u,x,y]) w:=by
 have:results fn tmps=(do let v <-uj tmps r;let u <-uj tmps s;let x <-uj tmps t;let y <-uj tmps q;Pure.pure (.tuple #[v,u,x,y])):=by cases r <;> cases s <;> cases t <;> cases q <;> simp[results,h,uj]
 rw[this,Sy h1,Sy h2,Sy h3,Sy h4];try rfl
theorem qmS{fn:Func}{e:Env}{a:Act}(hE:Mb n a e w L)(hH:Ca C w L H){vs:List LV}
  (h:Eh C n e H fn.results.toList vs) (h3:fn.results.size=4):∃ v,(results fn a.tmps).run C.P w=.ok v w/\Wa w L (Ge vs) v:=by
 obtain⟨rs,rk⟩:∃ rs,fn.results=List.toArray rs:=⟨fn.results.toList,by simp⟩;rw[rk] at h h3;simp only[List.size_toArray] at h h3;match rs,vs,h,h3,rk with
 |[r,s,t,q],[x,y,z,o],h,_,rk=>obtain⟨v1,g1,r1⟩:=h.1 a w L hE hH;obtain⟨v2,g2,r2⟩:=h.2.1 a w L hE hH;obtain⟨v3,g3,r3⟩:=h.2.2.1 a w L hE hH;obtain⟨v4,g4,r4⟩:=h.2.2.2.1 a w L hE hH;exact⟨_,K7 rk g1 g2 g3 g4,by simp only[Ge,Wa];exact⟨[v1,v2,v3,v4],rfl,by simp only[na];exact⟨v1,_,rfl,r1,v2,_,rfl,r2,v3,_,rfl,r3,v4,_,rfl,r4,rfl⟩⟩⟩
 |[_,_,_,_],[],h,_,_=>exact h.elim
 |[_,_,_,_],[_],h,_,_=>exact h.2.elim
 |[_,_,_,_],[_,_],h,_,_=>exact h.2.2.elim
 |[_,_,_,_],[_,_,_],h,_,_=>exact h.2.2.2.elim
 |[_,_,_,_],_::_::_::_::_::_,h,_,_=>exact h.2.2.2.2.elim
theorem aa.AD{f:FuncId}{fn:Func}{c:Code}{args:List LV}{R:Lc->Heap->Prop}(hf:C.P.funcs[f]? = some fn)(hb:fn.body=some c)(hn:fn.ntmps=n)(h3:Nat.beq fn.results.size 4=true)
  (hl:Nat.ble args.length n=true) (h:Ga C n c (oc C n fn.results.toList R) (Oy args) H):aa C f args H R:=λvs w L hv hH=>by
 subst hn;have Wt:args.length<=fn.ntmps:=by simpa using hl
 have Pk:fn.results.size=4:=Nat.eq_of_beq_eq_true h3;have fa:=hv.length;refine calls_of_wp hf hb (Go.wp_mono (h _ w L ⟨?_,rfl,λi=>?_⟩ hH) λex a' w' hq=>?_)
 simp;omega;exact IE;obtain⟨e',H',L',g1,g2,g3,g4⟩:=hq;have ret:Mb fn.ntmps a' e' w' L'->(e'.ds=[]/\∃ vs se,Eh C fn.ntmps e' H' fn.results.toList vs/\HSub se H'/\R (.ret (Ge vs)) se) ->
   a'.defers=[]/\∃ v,(results fn a'.tmps).run C.P w'=.ok v w'/\js C w L H (λv=>R (.ret v)) (λch=>R (.panic ch)) (.returned v) w':=λhE hr=>by
  obtain⟨h1,Uw,se,h2,h4,h5⟩:=hr;obtain⟨v,r1,r2⟩:=qmS hE g2 h2 Pk;exact⟨hE.ds.trans h1,v,r1,Ge Uw,se,L',g1.db h4,g2.db h4,r2,h5⟩
 cases ex with
 |normal=>exact ret g3 g4
 |ret=>exact ret g3 g4
 |panic ch=>obtain⟨h1,se,h4,h5⟩:=g4;exact⟨g3.trans h1,se,L',g1.db h4,g2.db h4,h5⟩
 |exit id=>exact g4.elim
 |goto id=>exact g4.elim
 |outgrown=>exact g4.elim
section
variable{C:Ctx}{e:Env}{H:Heap}{dst:Option Nat}{ty:TypeId}{la:String}{ma:Array Edge}{g:Option (Nat×Bool)}{xT yT:TypeId}{x y:Operand}{k k2:IntKind}{a b:Int}
theorem bP{op:BinOp}{xT yT:TypeId}{x y:Operand}{k k2:IntKind}{a b:Int}{ρ:Operand->Value}(hx:ρ x=.int k a)(hy:ρ y=.int k2 b){s:Sem Value}
  (h:(binOp op xT (.int k a) (.int k2 b))=s) {v:Value} (hv:∀ w,s.run P w=.ok v w) (w:World):(execOp ρ ⟨dst,.binOp op xT x y yT,ty,la,ma,g⟩).run P w=.ok (.value v) w:=by
 subst h;have he:eqGuard op xT x y (.int k a) (.int k2 b)=Pure.pure ():=by unfold eqGuard;cases op <;> rfl
 simp only[execOp,hx,hy,he,Sb,Qc,lc,hv]
theorem Pure.kH(hx:e.ev x=int k a)(hy:e.ev y=int k b)(hb:b≠0):Pure C ⟨dst,.binOp .quo xT x y yT,ty,la,ma,g⟩ e H (int k (k.wrap (a.tdiv b))):=
 .Ka λ_ _ _ h=>⟨_,xc,bP (Cb h hx) (Cb h hy) (s:=Op.intDiv .quo k a b) (by simp only[binOp,ne_eq,not_true_eq_false,if_false]) (λ_=>by simp only[Op.intDiv,zn hb,Qc])⟩
theorem Pure.iH(hx:e.ev x=int k a)(hy:e.ev y=int k b)(hb:b≠0):Pure C ⟨dst,.binOp .rem xT x y yT,ty,la,ma,g⟩ e H (int k (a.tmod b)):=
 .Ka λ_ _ _ h=>⟨_,xc,bP (Cb h hx) (Cb h hy) (s:=Op.intDiv .rem k a b) (by simp only[binOp,ne_eq,not_true_eq_false,if_false]) (λ_=>by simp only[Op.intDiv,zn hb,Qc])⟩
theorem Pure.SG(hx:e.ev x=int k a)(hy:e.ev y=int k b):Pure C ⟨dst,.binOp .xor xT x y yT,ty,la,ma,g⟩ e H (int k (k.wrap ((BitVec.ofInt k.bits a ^^^ BitVec.ofInt k.bits b).toNat:Nat))):=
 .Ka λ_ _ _ h=>⟨_,xc,bP (Cb h hx) (Cb h hy) (s:=Op.intBits .xor k a b) (by simp only[binOp,ne_eq,not_true_eq_false,if_false]) λ_=>rfl⟩
end
theorem yZ{P:Program}{md:Region.Mode}{xa:Array Oper}{Q:Exit->Act->World->Prop}{S S':World->Prop}(hS:∀ w,S' w->S w):∀ (Xa:Nat) (qa:Array Bool) (a:Act) (w:World),
  wpAnyH P md xa Q S' Xa qa a w->wpAnyH P md xa Q S Xa qa a w
 |0,_,_,_,k=>k
 |Xa+1,_,_,_,k=>⟨k.1,λi hi=>wpOp_mono (λa' w' h=>⟨hS _ h.1,yZ hS Xa _ a' w' h.2⟩) (k.2 i hi)⟩
theorem Td.any{xa:Array Oper}{Q:Ob}{HF:Heap}{Xa:Nat}{qa:Array Bool}{e:Env}(Z2:Heap)(hs:∀ p∈HF,p∈Z2)(h:Pa C n xa Q Z2 Xa qa e H):Td C n xa Q HF Xa qa e H:=λw0 L0 a w L hL hA _ hE hH=>
 yZ (λw' cB=>⟨λp hp=>(cB.1 p (hs p hp)).trans (hA.1 p hp),λb i hi=>(cB.2 b i (Nat.lt_of_lt_of_le hi (hL b))).trans (hA.2 b i hi)⟩) _ _ _ _ (h a w L hE hH)
def LS(C:Ctx)(n:Nat)(xa:Array Oper)(K:Env->Prop)(rest:List Oper)(e:Env)(H:Heap):Prop:=
 ∀ a w L,Mb n a e w L->Ca C w L H->wpStill C.P xa w (λa'=>∃ e',Mb n a' e' w L/\K e') rest a
section still
variable{C:Ctx}{n:Nat}{xa:Array Oper}{K:Env->Prop}{e:Env}{H:Heap}{dst:Option Nat}{op:Op}{ty:TypeId}{la:String}{ma:Array Edge}{rest:List Oper}
theorem LS.nil(h:K e):LS C n xa K [] e H:=λ_ _ _ hE _=>⟨e,hE,h⟩
theorem qrT{Q:Act->Prop}{a:Act}{o:Oper}(hg:Region.wanted o (yielded xa a.tmps)=true)(h:(execOp a.eval o).run P w=.ok (.value v) w)(k:wpStill P xa w Q rest (a.put o.dst v)):wpStill P xa w Q (o::rest) a:=by unfold wpStill;rw[zp hg];unfold Oper.still;rw[h];exact⟨rfl,k⟩
theorem lP(h:Pure C ⟨dst,op,ty,la,ma,none⟩ e H lv)(hd:Di n dst)(k:LS C n xa K rest (e.put dst lv) H):LS C n xa K (⟨dst,op,ty,la,ma,none⟩::rest) e H:=λa w L hE hH=>by obtain⟨v,hv,hr⟩:=h a.eval w L hE.ev hH;exact qrT (by simp[Region.wanted]) (hr w (rm.refl _ _ _)) (k _ w L (hE.put hd hv) hH)
theorem eR{P:Program}{w:World}{Q Q':Act->Prop}(h:∀ a,Q a->Q' a):∀ (l:List Oper) (a:Act),wpStill P xa w Q l a->wpStill P xa w Q' l a
 |[],a,k=>h a k
 |o::l,a,k=>by unfold wpStill at k ⊢;split at k;rename_i hw;rw[zp hw];exact Oper.still_mono (λa=>eR h l a) k;rename_i hw;rw[zn hw];exact eR h l _ k
theorem Ga.tail [hm:Al C.P] {id:Nat} {l:List Oper} {Q:Ob} (m:Nat) (hB:Region.lexTailB .any l.toArray m=true) (h:LS C n l.toArray (λe'=>ea C n l.toArray Q (l.drop m) e' H) (l.take m) e H):Ga C n (.region id l.toArray true) Q e H:=λa w L hE hH=>by refine wp_region_still_tail m hm.out hB ?_;refine eR (λa' h'=>?_) _ _ (h a w.drew L (hE.mono (Ty w L)) hH.drew);obtain⟨e',oT,hk⟩:=h';refine Kt (λx a2 w' hq=>?_) _ _ _ (hk a' w.drew L oT hH.drew);obtain⟨e2,H',L',h1,h2,h3,h4⟩:=hq;exact⟨e2,H',L',h1.Ld,h2,h3,h4⟩
end still
end Go.GL
