import Derived.Laws.IdiomStrings
import Derived.RangeFuncFrom
import Derived.RangeFuncLeaves
import Derived.TacticsIn
import Derived.DeepKeys
import Derived.Lib.Builder
import Derived.Lib.AppendStr
import Derived.Test.YtmnjklgnhpnckaaGreatDoorBRowLV1
set_option linter.unusedVariables false
set_option linter.unusedSimpArgs false
set_option maxRecDepth 100000
set_option maxHeartbeats 4000000
open List (mem_singleton mem_cons_self nil_sublist map_nil map_toArray take_left' map_map map_set)
open Nat (mul_one zero_add)
open Option (getD_some map_some)
namespace Go.GL
open Go.RowKit
variable{C:Ctx}{H:Heap}{P:Program}{Q:Jc}{Rd:Array TypeId}{Mc:List LV}{c:Code}{e:Env}{f:FuncId}{lv:LV}{n:Nat}{Sa:Array Oper}{da:List Oper}{vs:List Value}
@[reducible] def Qb(v:LV):Ie->Heap->Prop:=λr H=>r=.ret v/\H=[]
@[reducible] def Cr(p:LV->Prop):Ie->Heap->Prop:=λr H=>∃ v,r=.ret v/\p v/\H=[]
section
variable{C:Ctx}{e:Env}{H:Heap}{dst:Option Nat}{ty:TypeId}{ra:String}{ua:Array Edge}{g:Option (Nat×Bool)}{K:LV->Heap->Prop}{X:List PanicEntry->Heap->Prop}
theorem sF{f:FuncId} [Tb C.P f](args:List Operand)(has:args.map e.ev=Mc)(hc:ca C f Mc [] (Qb lv))(hk:K lv H) :
  Ya C ⟨dst,.call { callee:=.value (.func f),args:=args.toArray,argTypes:=Rd },ty,ra,ua,g⟩ e H K X:=
 S.Uq args has hc (by rintro v H' ⟨h,rfl⟩;cases h;exact hk) (by rintro ch H' ⟨h,_⟩;cases h)
theorem S.Dg{f:FuncId} [Tb C.P f](args:List Operand){p:LV->Prop}(has:args.map e.ev=Mc)(hc:ca C f Mc [] (Cr p))(hk:∀ lv,p lv->K lv H) :
  Ya C ⟨dst,.call { callee:=.value (.func f),args:=args.toArray,argTypes:=Rd },ty,ra,ua,g⟩ e H K X:=
 S.Uq args has hc (by rintro v H' ⟨u,h,hp,rfl⟩;cases h;exact hk _ hp) (by rintro ch H' ⟨u,h,_⟩;cases h)
theorem S.kE{fo:Operand} [Tb C.P f]{first ib:Array Value}(args:List Operand)(hf:e.ev fo=.atom (.func (.func f) first ib))
  (has:first.toList.map .atom++args.map e.ev++ib.toList.map .atom=Mc) (hc:ca C f Mc [] (Qb lv)) (hk:K lv H) :
  Ya C ⟨dst,.call { callee:=.value fo,args:=args.toArray,argTypes:=Rd },ty,ra,ua,g⟩ e H K X:=
 S.Ml (H1:=[]) (F:=H) args hf has mc hc (by rintro v H' ⟨h,rfl⟩;cases h;exact hk) (by rintro ch H' ⟨h,_⟩;cases h)
theorem qb{rs:List ResultVar}{vs:List LV}(hd:e.ds=[])(h:Dm C n e H rs vs)(hv:Dh vs=lv):Kd C n rs (Qb lv) .ret e H:=
 rR hd h yd ⟨by rw[hv],rfl⟩
theorem Nr{rs:List ResultVar}{vs:List LV}{p:LV->Prop}(hd:e.ds=[])(h:Dm C n e H rs vs)(hv:p (Dh vs)):Kd C n rs (Cr p) .ret e H:=
 rR hd h yd ⟨_,rfl,hv,rfl⟩
end
theorem GU{w w':World}{L:Live}(hH:Ta C w L [])(h:Below w.heap.size w w'):Fr (keys []) w L w' L []/\Ta C w' L []:=by
 refine⟨⟨h.os,h.tape,h.output,⟨h.size,λb hb=>BF (h.block b hb),λb i hi=>?_,λ_=>Jb _⟩,λb hb _=>h.block b hb,λ_ _ _=>rfl,by simp⟩,
  ⟨hH.base.trans (h.mono hH.b0),hH.ui,Qf hH.b0 h.size,λb hb=>hH.wf b (Qf h.size hb),List.nodup_nil,by simp⟩⟩
 have hb:b<w.heap.size:=by rcases Nat.lt_or_ge b w.heap.size with h1|h1;exact h1;have:=hH.wf b h1;omega
 exact cell_of_heap (h.block b hb) i
theorem ca.JB{p:Value->Prop}
  (h:∀ w,Below C.B0 C.w0 w->Calls C.P f vs.toArray w λe w'=>∃ v,e=.returned v/\p v/\Below w.heap.size w w'):ca C f (vs.map .atom) [] (λr H=>∃ v,r=.ret (.atom v)/\p v/\H=[]):=λxs w L hv hH=>by
 have hx:xs=vs:=by
  clear h hH;induction vs generalizing xs with
  |nil=>simpa [oa] using hv
  |cons v vs ih=>simp only[jd,oa,xb] at hv;obtain⟨y,ys,rfl,rfl,hv⟩:=hv;rw[ih _ hv]
 subst hx;refine(h w hH.base).mono λe w' he=>?_;obtain⟨v,rfl,hp,hb⟩:=he;obtain⟨h1,h2⟩:=GU hH hb;exact⟨.atom v,[],L,h1,h2,zd,v,rfl,hp,rfl⟩
theorem ca.fh{p:List Value->Prop}
  (h:∀ w,Below C.B0 C.w0 w->Calls C.P f vs.toArray w λe w'=>∃ us:List Value,e=.returned (.tuple us.toArray)/\p us/\Below w.heap.size w w'):ca C f (vs.map .atom) [] (Cr λlv=>∃ us,p us/\lv=.tuple (us.map .atom)):=λxs w L hv hH=>by
 have hx:xs=vs:=by
  clear h hH;induction vs generalizing xs with
  |nil=>simpa [oa] using hv
  |cons v vs ih=>simp only[jd,oa,xb] at hv;obtain⟨y,ys,rfl,rfl,hv⟩:=hv;rw[ih _ hv]
 subst hx;refine(h w hH.base).mono λe w' he=>?_;obtain⟨us,rfl,hp,hb⟩:=he;obtain⟨h1,h2⟩:=GU hH hb;exact⟨.tuple (us.map .atom),[],L,h1,h2,by simp only[xb];exact⟨us,rfl,Wp _⟩,_,rfl,⟨us,hp,rfl⟩,rfl⟩
theorem ca.wm{u:Value}
  (h:∀ w,Below C.B0 C.w0 w->Calls C.P f vs.toArray w λe w'=>e=.returned u/\Below w.heap.size w w'):ca C f (vs.map .atom) [] (Qb (.atom u)):=
 ca.mono (ca.JB (p:=λv=>v=u) λw hw=>(h w hw).mono λe w' he=>⟨u,he.1,rfl,he.2⟩) λr H' ⟨v,h1,h2,h3⟩=>⟨by rw[h1,h2],h3⟩
def sx(e:Env):List (Nat×LV)->Prop
 |[]=>True
 |(d,v)::r=>e.s d=v/\sx e r
theorem sx.mem{e:Env}:∀ {l:List (Nat×LV)},sx e l->∀ p∈l,e.s p.1=p.2
 |[],_,p,hp=>by cases hp
 |(d,v)::r,h,p,hp=>by rcases zc.1 hp with rfl|hp;exact h.1;exact sx.mem h.2 p hp
def nX(I:Nat->List (Nat×LV)->Heap->Prop)(k:Nat)(ds:List Deferred)(e':Env)(H':Heap):Prop:=
 ∃ m l' Bh,m<k/\I m l' Bh/\sx e' l'/\HSub Bh H'/\e'.ds=ds
theorem oL{H:Heap}(I:Nat->List (Nat×LV)->Heap->Prop)(h0:∃ k l H0,I k l H0/\sx e l/\HSub H0 H)
  (round:∀ k l H,I k l H->∀ j:Env,j.ds=e.ds->fb C n c (ve (nX I k e.ds) Q) (Env.Aj j l) H):fb C n (.loop c) Q e H:=by
 obtain⟨k,l,H0,h0,h1,h2⟩:=h0;refine cW h2 (fb.loop (λk e' H'=>∃ l H0,I k l H0/\sx e' l/\HSub H0 H'/\e'.ds=e.ds) k ⟨l,H0,h0,h1,Kb _,rfl⟩ ?_);rintro k e' H' ⟨l,H0,g0,g1,g2,g3⟩;have:=round k l H0 g0 e' g3;rw[Env.ue g1.mem] at this;refine cW g2 (fb.Zc this ?_);rintro ex e2 H2 hq;cases ex with
 |normal=>obtain⟨m,l',H3,r1,r2,r3,r4,r5⟩:=hq;exact⟨m,r1,l',H3,r2,r3,r4,r5⟩
 |exit id=>exact hq
 |goto id=>exact hq
 |ret=>exact hq
 |panic ch=>exact hq
 |outgrown=>exact hq
theorem xe{a b:Bool}(h:a=b):bool a=bool b:=by rw[h]
def At(l:List (Nat×LV))(H1:Heap)(ds:List Deferred)(e':Env)(H':Heap):Prop:=sx e' l/\H'=H1/\e'.ds=ds
theorem Ea.fy{k:Env->Heap->Prop}(l:List (Nat×LV))(H1:Heap)
  (hx:Ea C n Sa (ve (At l H1 e.ds) Q) da e H) (hy:∀ j:Env,j.ds=e.ds->k (Env.Aj j l) H1):Ea C n Sa (ve k Q) da e H:=by
 refine Ea.Zc hx ?_;rintro ex e' H' hq;cases ex with
 |normal=>obtain⟨h1,rfl,h3⟩:=hq;have:=hy e' h3;rw[Env.ue h1.mem] at this;exact this
 |exit id=>exact hq
 |goto id=>exact hq
 |ret=>exact hq
 |panic ch=>exact hq
 |outgrown=>exact hq
theorem fb.fy{k:Env->Heap->Prop}(l:List (Nat×LV))(H1:Heap)
  (hx:fb C n c (ve (At l H1 e.ds) Q) e H) (hy:∀ j:Env,j.ds=e.ds->k (Env.Aj j l) H1):fb C n c (ve k Q) e H:=by
 refine fb.Zc hx ?_;rintro ex e' H' hq;cases ex with
 |normal=>obtain⟨h1,rfl,h3⟩:=hq;have:=hy e' h3;rw[Env.ue h1.mem] at this;exact this
 |exit id=>exact hq
 |goto id=>exact hq
 |ret=>exact hq
 |panic ch=>exact hq
 |outgrown=>exact hq
theorem Ea.cut{k:Env->Heap->Prop}(l:List (Nat×LV))
  (hx:Ea C n Sa (ve (At l H e.ds) Q) da e H) (hy:∀ j:Env,j.ds=e.ds->k (Env.Aj j l) H):Ea C n Sa (ve k Q) da e H:=Ea.fy l H hx hy
theorem Sz{k:Env->Heap->Prop}(l:List (Nat×LV))
  (hx:fb C n c (ve (At l H e.ds) Q) e H) (hy:∀ j:Env,j.ds=e.ds->k (Env.Aj j l) H):fb C n c (ve k Q) e H:=fb.fy l H hx hy
theorem ql3{a:Act}{w:World}{L:Live}(hE:yc n a e w L){j d:Nat}(hj:(Sa[j]?).bind (·.dst)=some d)(hb:e.s d=.atom undef):yielded Sa a.tmps j=none:=by
 have h:=hE.Gi d;rw[hb] at h;simp only[xb] at h;unfold yielded;rw[hj];simp only[Option.bind_some];rw[Array.getD_eq_getD_getElem?] at h;cases hx:a.tmps[d]? with
 |none=>rfl
 |some x=>rw[hx] at h;simp only[getD_some] at h;subst h;rfl
theorem Ea.VG{dst:Option Nat}{op:Op}{ty:TypeId}{ra:String}{ua:Array Edge}{j d:Nat}{c:Bool}
  (hj:(Sa[j]?).bind (·.dst)=some d) (hb:e.s d=.atom undef) (hd:Sl n dst)
  (k:Ea C n Sa Q da (e.put dst (.atom undef)) H):Ea C n Sa Q (⟨dst,op,ty,ra,ua,some (j,c)⟩::da) e H:=λa w L hE hH=>by
 unfold wpList;rw[zn (by simp[Region.wanted,ql3 hE hj hb])];exact k _ w L (hE.put hd (by simp only[xb])) hH
theorem Kg{k:IntKind}{a b:Int}(h:a=b):int k a=int k b:=by rw[h]
theorem lb{e:Env}{l:List (Nat×LV)}(h:sx e l:=by repeat first|exact trivial|refine⟨rfl,?_⟩|refine⟨Kg ga,?_⟩):sx e l:=h
class yh (P:Program) (t:TypeId):Prop where
 De:∃ ms,P.underlying t=some (.interface ms)
def qqM(P:Program)(t:Nat):Bool:=match P.underlying t with|some (.interface _)=>true|_=>false
theorem yh.of{t:Nat}(h:qqM P t=true):yh P t:=by
 unfold qqM at h;refine⟨?_⟩;cases hu:P.underlying t with
 |none=>rw[hu] at h;simp at h
 |some d=>rw[hu] at h;cases d <;> simp_all
section
variable{C:Ctx}{e:Env}{H:Heap}{dst:Option Nat}{ty:TypeId}{ra:String}{ua:Array Edge}{g:Option (Nat×Bool)}{xT yT:TypeId}{x:Operand}
theorem gV(t:TypeId)(x y:Value):Op.equal t x y=Op.equalIn (9999+1) t x y:=rfl
theorem qlP{t:TypeId} [h:yh P t](w:World):(Op.equal t .nilIface .nilIface).run P w=.ok true w:=by obtain⟨ms,hu⟩:=h.De;rw[gV,Op.equalIn];simp only[Ac,ye hu,ad,Yd]
theorem qkJ{t:TypeId} [h:yh P t](u:TypeId)(p:Value)(w:World):(Op.equal t (.iface u p) .nilIface).run P w=.ok false w:=by obtain⟨ms,hu⟩:=h.De;rw[gV,Op.equalIn];simp only[Ac,ye hu,ad,Yd]
theorem Pure.fz [yh C.P xT] (hx:e.ev x=.atom .nilIface):Pure C ⟨dst,.binOp .neq xT x (.const .nilIface) yT,ty,ra,ua,g⟩ e H (bool false):=
 .Wa λρ _ _ h=>⟨_,zd,λw'=>by
  have h1:=Zb h hx;have h2:=Zb h (x:=.const .nilIface) rfl;have he:eqGuard .neq xT x (.const .nilIface) .nilIface .nilIface=Pure.pure ():=by simp[eqGuard]
  have hb:binOp .neq xT .nilIface .nilIface=(do Pure.pure (.bool (!(<-Op.equal xT .nilIface .nilIface)))):=rfl;simp only[execOp,h1,h2,he,hb,Ac,Yd,ad,qlP,Bool.not_true]⟩
theorem Pure.lu [yh C.P xT] {u:TypeId} {p:Value} (hx:e.ev x=.atom (.iface u p)):Pure C ⟨dst,.binOp .neq xT x (.const .nilIface) yT,ty,ra,ua,g⟩ e H (bool true):=
 .Wa λρ _ _ h=>⟨_,zd,λw'=>by
  have h1:=Zb h hx;have h2:=Zb h (x:=.const .nilIface) rfl;have he:eqGuard .neq xT x (.const .nilIface) (.iface u p) .nilIface=Pure.pure ():=by simp[eqGuard]
  have hb:binOp .neq xT (.iface u p) .nilIface=(do Pure.pure (.bool (!(<-Op.equal xT (.iface u p) .nilIface)))):=rfl;simp only[execOp,h1,h2,he,hb,Ac,Yd,ad,qkJ,Bool.not_false]⟩
theorem vP{a b:List UInt8}(h:a=b):str a=str b:=by rw[h]
theorem Pure.Hz{k k0 k':IntKind}{s d:TypeId}{n:Int} [hs:Nh C.P s k0] [hd:Nh C.P d k'](hx:e.ev x=int k n):Pure C ⟨dst,.convert s d x,ty,ra,ua,g⟩ e H (int k' (k'.wrap n)):=Pure.JG ⟨_,hs.De⟩ hx
end
end Go.GL
namespace Go.GL
open Go.RowKit
variable{C:Ctx}{F H H1 HF:Heap}{P:Program}{Q:Jc}{ua:Array Edge}{b Aa i l n:Nat}{dst:Option Nat}{e:Env}{Ba:Array Bool}{lv:LV}{Sa:Array Oper}{ra:String}{ty:TypeId}{w:World}
section any
variable{C:Ctx}{n:Nat}{Sa:Array Oper}{Q:Jc}{HF:Heap}{Aa:Nat}{Ba:Array Bool}{e:Env}{H:Heap}
def db(C:Ctx)(n:Nat)(Sa:Array Oper)(Q:Jc)(HF:Heap)(Aa:Nat)(Ba:Array Bool)(e:Env)(H:Heap)(i:Nat):Prop:=
 ∀ w0 L0 a w L,(∀ b,L0 b<=L b)->uq w0 L0 HF w->(∀ p∈HF,p.1<w.heap.size)->yc n a e w L->Ta C w L H ->
  wpOp C.P Sa (lift C n w L (keys H) Q) i (λa' w'=>uq w0 L0 HF w'/\wpAnyH C.P .any Sa (lift C n w L (keys H) Q) (uq w0 L0 HF) Aa (Ba.setIfInBounds i true) a' w') a w
theorem nh.all{is:List Nat}(hr:Region.ready .any Sa Ba=is)(Fb:is≠[])(h:∀ i∈is,db C n Sa Q HF Aa Ba e H i):nh C n Sa Q HF (Aa+1) Ba e H:=λw0 L0 a w L hL hA ld hE hH=>
 wpAnyH_all hr Fb λj hj=>h j hj w0 L0 a w L hL hA ld hE hH
theorem lS{op:Op}{g:Option (Nat×Bool)}(hi:Sa[i]? = some ⟨dst,op,ty,ra,ua,g⟩)(hg:g=none∨∃ j b d,g=some (j,b)/\(Sa[j]?).bind (·.dst)=some d/\e.s d=.atom (.bool b))(hd:Sl n dst)
  (p:H.Perm (H1++F)) (Ho:HSub HF F)
  (h:Ya C ⟨dst,op,ty,ra,ua,g⟩ e H1 (λlv H'=>nh C n Sa Q HF Aa (Ba.setIfInBounds i true) (e.put dst lv) (H'++F)) λch H'=>∀ e',e'.ds=e.ds->Q (.panic ch) e' (H'++F)) :
  db C n Sa Q HF Aa Ba e H i:=λw0 L0 a w L hL hA ld hE hH=>by
 have gE:=hH.perm p;have hn:(keys H1++keys F).Nodup:=by simpa [keys] using gE.nodup
 have LC:∀ q∈HF,q.1 ∉ keys H1:=λq hq hm=>(Xm hn).2.2 _ hm _ (List.mem_map_of_mem (Ho.mem q hq)) rfl
 have hw:Region.wanted ⟨dst,op,ty,ra,ua,g⟩ (yielded Sa a.tmps)=true:=by rcases hg with rfl|⟨j,b,d,rfl,hj,hb⟩;simp[Region.wanted];simp[Region.wanted,LH hE hj hb]
 unfold wpOp;rw[hi];simp only;rw[zp hw];refine .inl (A9 (H:=H1) h hd hE gE.left (λlv H' L' w' a' h1 h2 h3 h4=>?_) λch H' L' w' h1 h2 h3=>?_);have cm:=gE.frame h1 h2;have hag:uq w0 L0 HF w':=⟨λq hq=>(h1.block q.1 (ld q hq) (LC q hq)).trans (hA.1 q hq),λb i hi=>(h1.ext.live b i (Nat.lt_of_lt_of_le hi (hL b))).trans (hA.2 b i hi)⟩;exact⟨hag,gK (λ_ _ _=>dN (cm.2.perm p.symm)) _ _ _ _ (h4 w0 L0 a' w' L' (λb=>Qf (hL b) (h1.ext.mono b)) hag (λq hq=>Nat.lt_of_lt_of_le (ld q hq) h1.ext.size) h3 cm.1)⟩;have cm:=gE.frame h1 h2;exact⟨e,H'++F,L',cm.2.perm p.symm,cm.1,hE.ds,h3 e rfl⟩
theorem Rj(hr:Region.ready .any Sa Ba=[i])(h:db C n Sa Q HF Aa Ba e H i):nh C n Sa Q HF (Aa+1) Ba e H:=
 nh.all hr (by simp) λj hj=>by obtain rfl:=Vi hj;exact h
theorem Zq{j:Nat}(hr:Region.ready .any Sa Ba=[i,j])(h:db C n Sa Q HF Aa Ba e H i)(h':db C n Sa Q HF Aa Ba e H j):nh C n Sa Q HF (Aa+1) Ba e H:=
 nh.all hr (by simp) λk hk=>by rcases zc.1 hk with rfl|hk;exact h;obtain rfl:=Vi hk;exact h'
theorem lW{op:Op}{g:Option (Nat×Bool)}(hi:Sa[i]? = some ⟨dst,op,ty,ra,ua,g⟩)(hg:g=none∨∃ j b d,g=some (j,b)/\(Sa[j]?).bind (·.dst)=some d/\e.s d=.atom (.bool b))(hd:Sl n dst)
  (h:Ya C ⟨dst,op,ty,ra,ua,g⟩ e H (λlv H'=>nh C n Sa Q [] Aa (Ba.setIfInBounds i true) (e.put dst lv) H') λch H'=>∀ e',e'.ds=e.ds->Q (.panic ch) e' H') :
  db C n Sa Q [] Aa Ba e H i:=lS (H1:=H) (F:=[]) hi hg hd (by simp) yd (by simpa using h)
end any
theorem LQ.RI{K:Env->Prop}{da:List Oper}(d:Nat){b:Bool}(hb:e.s d=bool b)(ht:b=true->LQ C n Sa K da (e.Kc d (bool true)) H)(hf:b=false->LQ C n Sa K da (e.Kc d (bool false)) H):LQ C n Sa K da e H:=by cases b;have:=hf rfl;rwa [Env.ji hb] at this;have:=ht rfl;rwa [Env.ji hb] at this
section pure
variable{C:Ctx}{e:Env}{H:Heap}{dst:Option Nat}{ty:TypeId}{ra:String}{ua:Array Edge}{g:Option (Nat×Bool)}{xT yT:TypeId}{x y:Operand}{k:IntKind}{a b:Int}
theorem Pure.quo(hx:e.ev x=int .i64 a)(hy:e.ev y=int .i64 b)(hb:0<b)(ha:0<=a)(h:a<=9223372036854775807):Pure C ⟨dst,.binOp .quo xT x y yT,ty,ra,ua,g⟩ e H (int .i64 (a / b)):=
 .Wa λ_ _ _ h'=>⟨_,zd,tB (Zb h' hx) (Zb h' hy) (by simp) (by simp) (s:=Op.intDiv .quo .i64 a b) (by simp only[binOp,ne_eq,not_true_eq_false,if_false]) (λw=>by
  have h1:a.tdiv b=a / b:=Int.tdiv_eq_ediv_of_nonneg ha;have h2:0<=a / b:=Int.ediv_nonneg ha zo;have h3:a / b<=a:=Int.ediv_le_self _ ha;rw[Op.intDiv,zn zo];simp only[h1];rw[Nt zo];rfl)⟩
theorem Pure.rem(hx:e.ev x=int .i64 a)(hy:e.ev y=int .i64 b)(hb:0<b)(ha:0<=a):Pure C ⟨dst,.binOp .rem xT x y yT,ty,ra,ua,g⟩ e H (int .i64 (a % b)):=
 .Wa λ_ _ _ h'=>⟨_,zd,tB (Zb h' hx) (Zb h' hy) (by simp) (by simp) (s:=Op.intDiv .rem .i64 a b) (by simp only[binOp,ne_eq,not_true_eq_false,if_false]) (λw=>by
  have h1:a.tmod b=a % b:=Int.tmod_eq_emod_of_nonneg ha;rw[Op.intDiv,zn zo];simp only[h1];rfl)⟩
theorem Pure.nD{s d el:TypeId} [hs:Oa C.P s el 1] [he:Nh C.P el .u8] [hd:Um C.P d]{l:List UInt8}(hx:elems (e.ev x)=some (l.map λb=>int .u8 b.toNat))(Fb:l≠[]) :
  Pure C ⟨dst,.convert s d x,ty,ra,ua,g⟩ e H (str l):=λρ w L h _=>by
 obtain⟨a,cap,hv,Ue,hr⟩:=(h x).elems hx;obtain⟨b,off,k',rfl,VD⟩:=hr (by simpa using Fb);refine⟨_,zd,λw' ha=>?_⟩;have h0:execOp ρ ⟨dst,.convert s d x,ty,ra,ua,g⟩=(do Pure.pure (.value (<-convert s d (ρ x)))):=rfl;have na:(l.map λb=>int .u8 b.toNat).length=l.length:=by simp
 have:=run_convert_bytes_back (P:=C.P) w' s d el ⟨b,off,none⟩ cap l hs.De he.De hd.De (λj hj=>by
  obtain⟨h1,h2⟩:=VD.get (i:=j) (e:=int .u8 l[j].toNat) (by simp[hj]);simp only[LV.cells,Rb,List.length_singleton] at h1 h2;obtain⟨h3,⟨v,h4,h5⟩,_⟩:=h2;simp only[xb] at h5;subst h5;subst h1;rw[mul_one] at h3 h4;rw[Cf];rw[ha.2 b _ h3];exact h4)
 rw[h0,hv,na];simp only[Ac,this,ad,Yd]
end pure
theorem aT(i:Nat){op:Op}
  (hi:Sa[i]? = some ⟨dst,op,ty,ra,ua,none⟩) (hd:Sl n dst) (hp:Pure C ⟨dst,op,ty,ra,ua,none⟩ e HF lv) (k:yb C n Sa Q HF Aa (Ba.setIfInBounds i true) (e.put dst lv) H) (hs:Region.noSelect Sa=true:=by kernel_rfl) (hf:Region.free .any Sa Ba i=true:=by kernel_rfl) (hr:(Region.ready .any Sa Ba).contains i=true:=by kernel_rfl)
  (Ho:HSub HF H:=by first|exact HSub.nil _|exact Kb _|exact Pg ob|exact tc pH yd|exact tc Od yd|exact tc Fi yd|exact tc pH qd|exact⟨_,List.Perm.refl _⟩):yb C n Sa Q HF (Aa+1) Ba e H:=yb.take Ho hi hs hf hr hd hp k
theorem yb.qo(i:Nat){j d:Nat}{b:Bool}{op:Op}
  (hi:Sa[i]? = some ⟨dst,op,ty,ra,ua,some (j,b)⟩) (hj:(Sa[j]?).bind (·.dst)=some d) (hb:e.s d=.atom (.bool b)) (hd:Sl n dst) (hp:Pure C ⟨dst,op,ty,ra,ua,some (j,b)⟩ e HF lv) (k:yb C n Sa Q HF Aa (Ba.setIfInBounds i true) (e.put dst lv) H) (hs:Region.noSelect Sa=true:=by kernel_rfl) (hf:Region.free .any Sa Ba i=true:=by kernel_rfl) (hr:(Region.ready .any Sa Ba).contains i=true:=by kernel_rfl)
  (Ho:HSub HF H:=by first|exact HSub.nil _|exact Kb _|exact Pg ob|exact tc pH yd|exact tc Od yd|exact tc Fi yd|exact tc pH qd|exact⟨_,List.Perm.refl _⟩):yb C n Sa Q HF (Aa+1) Ba e H:=yb.Po Ho hi hj hb hs hf hr hd hp k
theorem lO(i:Nat)(h:db C n Sa Q HF Aa Ba e H i)(hr:Region.ready .any Sa Ba=[i]:=by kernel_rfl):nh C n Sa Q HF (Aa+1) Ba e H:=Rj hr h
section
variable{C:Ctx}{e:Env}{H:Heap}{dst:Option Nat}{ty:TypeId}{ra:String}{ua:Array Edge}{g:Option (Nat×Bool)}{K:LV->Heap->Prop}{X:List PanicEntry->Heap->Prop}{x y:Operand}
theorem sG{sT xT el s bytes:Nat} [ht:Oa C.P sT el s] [hr:xh C.P el s bytes]{e2 s2:Nat} [Gd:Oa C.P xT e2 s2]{v:LV}{es ms:List LV}{A:Heap}
  (hp:H.Perm (H1++A)) (hx:e.ev x=v) (ha:Acc s v es H1 F) (hy:GL.elems (e.ev y)=some ms) (hs:∀ v∈ms,v.cells.length=s) (Dc:(ms.flatMap LV.cells).all yq=true) (Xa:(es.length+ms.length) * bytes<=140737488355328)
  (hk:∀ v' H',Acc s v' (es++ms) H' F->K v' (A++H')):Ya C ⟨dst,.call { callee:=.builtin .append,args:=#[x,y],argTypes:=#[sT,xT] },ty,ra,ua,g⟩ e H K X:=by
 refine Ya.Zc (K:=λlv H'=>∃ H2,H'=H2++A/\Acc s lv (es++ms) H2 F) (Ya.frame hp (S.acc hx ha hy hs Dc Xa λv' H' h=>⟨H',rfl,h⟩)) ?_;rintro lv H' ⟨H2,rfl,h⟩;exact⟨lv,A++H2,vR _,⟨[],by simpa using gi⟩,hk _ _ h⟩
theorem S.Jw{sT xT el s bytes:Nat} [ht:Oa C.P sT el s] [hr:xh C.P el s bytes]{e2 s2:Nat} [Gd:Oa C.P xT e2 s2]{v:LV}{es ms:List LV}{q:Nat×ma}
  (hx:e.ev x=v) (ha:Acc s v es H1 F) (hy:GL.elems (e.ev y)=some ms) (hs:∀ v∈ms,v.cells.length=s) (Dc:(ms.flatMap LV.cells).all yq=true) (Xa:(es.length+ms.length) * bytes<=140737488355328)
  (hk:∀ v' H',Acc s v' (es++ms) H' F->K v' (q::H')):Ya C ⟨dst,.call { callee:=.builtin .append,args:=#[x,y],argTypes:=#[sT,xT] },ty,ra,ua,g⟩ e (q::H1) K X:=
 sG (A:=[q]) ((List.perm_append_singleton _ _).symm) hx ha hy hs Dc Xa hk
end
def wH:Obj->Bool
 |.cells _ _ _=>false
 |_=>true
theorem jN{o:Obj}(h:w.heap[b]? = some o)(ho:wH o=true):w.shape? b=none:=by simp only[World.shape?,h];cases o <;> simp_all [wH]
section
variable{C:Ctx}{e:Env}{H:Heap}{dst:Option Nat}{ty:TypeId}{ra:String}{ua:Array Edge}{g:Option (Nat×Bool)}{K:LV->Heap->Prop}{X:List PanicEntry->Heap->Prop}{x y:Operand}
theorem qjY{L:Live}(hH:Ta C w L []){o:Obj}(ho:wH o=true){v:Value}(hk:K (.atom v) [(w.heap.size,.obj o)]):Left C w L [] (World.push w o) v K:=by
 have:=Uy hH o 0 [(w.heap.size,.obj o)] (λp hp=>by
  simp only[mem_singleton] at hp;subst hp;exact⟨rfl,by simp[Live.Kc],Fq,jN Fq ho⟩) (by simp)
 exact⟨_,_,_,this.1,this.2,zd,hk⟩
theorem VP{w':World}{L:Live}{o o':Obj}(hH:Ta C w L [(b,.obj o)])(YV:wH o'=true)(h1:w'.os=w.os)(h2:w'.tape=w.tape)(h3:w'.output=w.output)
  (h4:w'.heap.size=w.heap.size) (h5:∀ c,c≠b->w'.heap[c]? = w.heap[c]?) (h6:w'.heap[b]? = some o') {v:Value} {lv:LV} (hv:∀ L,xb w' L lv v) (hk:K lv [(b,.obj o')]):Left C w L [(b,.obj o)] w' v K:=by
 obtain⟨Le,Of,hl,td,Gd⟩:=hH.uc _ (Mo rfl);simp only at Le Of hl td Gd;have hx:Ext w L w' L:=by
  refine⟨by rw[h4];exact Jb _,λc hc=>?_,λc i hi=>?_,λ_=>Jb _⟩
  by_cases he:c=b;subst he;rw[Gd];exact jN h6 YV;exact BF (h5 c he);exact uE
 refine⟨lv,[(b,.obj o')],L,⟨h1,h2,h3,hx,λc hc hn=>h5 c (by simpa using hn),λ_ _ _=>rfl,λp hp=>.inl (by simp only[mem_singleton] at hp;subst hp;simp)⟩,
  ⟨?_,hH.ui,by rw[h4];exact hH.b0,by rw[h4];exact hH.wf,by simp,λp hp=>?_⟩,hv L,hk⟩
 exact hH.base.trans ⟨h1,h2,h3,by rw[h4];exact Jb _,λc hc=>h5 c zo⟩;simp only[mem_singleton] at hp;subst hp;exact⟨Le,by rw[h4];exact Of,hl,h6,jN h6 YV⟩
theorem S.makeMap{t:TypeId}(hk:∀ b,K (.atom (.map (some b))) ((b,.obj (.map #[] 0))::H)):Ya C ⟨dst,.makeMap t none,ty,ra,ua,g⟩ e H K X:=by refine Ya.Iz λρ w L _ hH=>?_;have h3:execOp ρ ⟨dst,.makeMap t none,ty,ra,ua,g⟩=(do Pure.pure (.value (<-Instr.makeMap t none))):=rfl;have h4:(Instr.makeMap t none).run C.P w=.ok (.map (some w.heap.size)) (World.push w (.map #[] 0)):=rfl;rw[h3,Ac,h4];exact qjY hH rfl (hk _)
def Rh(w:World)(b:Nat)(o:Obj):World:={ w with heap:=w.heap.setIfInBounds b o }
theorem aN{c:Nat}{o:Obj}(h:c≠b):(Rh w b o).heap[c]? = w.heap[c]? := by
 simp only[Rh,Array.getElem?_setIfInBounds];rw[zn (Ne.symm h)]
theorem VM{o:Obj}(h:b<w.heap.size):(Rh w b o).heap[b]? = some o:=by simp only[Rh,Array.getElem?_setIfInBounds];simp[h]
theorem vQ{o o':Obj}(h:w.heap[b]? = some o)(ho:wH o=true):(setObj b o').run P w=.ok () (Rh w b o'):=by simp only[setObj,Sem.run,h];cases o <;> first|rfl|(simp[wH] at ho)
theorem M0(k:ByteArray):∀ (es:List MapEntry) (i:Nat),(∀ e∈es,∃ s,e.key=.string s/\¬ (k == s)=true)->Instr.findNow .string (.string k) es i=some none
 |[],_,_=>rfl
 |e::es,i,h=>by
  obtain⟨s,hs,Fb⟩:=h e mem_cons_self;have qG:(k == s)=false:=by simpa using Fb
  simp only[Instr.findNow,hs,Instr.sameNow,qG];exact M0 k es (i+1) λe he=>h e (Pc _ he)
theorem S.insert{t kt el:TypeId}(ht:C.P.underlying t=some (.map kt el))(Ah:C.P.underlying kt=some .string){b qa:Nat}{es:Array MapEntry}{F:Heap}{m z:Operand}{k:ByteArray}{v:Value}(hm:e.ev m=.atom (.map (some b)))(hx:e.ev x=.atom (.string k))(hz:e.ev z=.atom v)
  (hp:xd (b,.obj (.map es qa)) H F) (Dl:∀ e∈es.toList,∃ s,e.key=.string s/\¬ (k == s)=true) (hk:K (.atom undef) ((b,.obj (.map (es.push { key:=.string k,val:=v,born:=qa }) (qa+1)))::F)):Ya C ⟨dst,.insert t m x z,ty,ra,ua,g⟩ e H K X:=by
 refine Ya.mE hp λρ w L h hH=>?_;obtain⟨Le,Of,hl,td,Gd⟩:=hH.uc _ (Mo rfl);simp only at Le Of hl td Gd;have h3:execOp ρ ⟨dst,.insert t m x z,ty,ra,ua,g⟩=(do Instr.mapUpdate t (ρ m) (ρ x) (ρ z);Pure.pure .skip):=rfl
 have hf:(Instr.findKey kt (.string k) es.toList).run C.P w=.ok none w:=by simp only[Instr.findKey,Ac,ye Ah,ad,M0 k es.toList 0 Dl,Yd]
 have hc:(Instr.checkKey false 10000 kt (.string k)).run C.P w=.ok () w:=by have Om:Instr.checkKey false 10000 kt (.string k)=Instr.checkKey false (9999+1) kt (.string k):=rfl;rw[Om,Instr.checkKey];simp only[Ac,ye Ah,ad,Yd]
 have hg:(getObj b).run C.P w=.ok (.map es qa) w:=by simp only[getObj,Sem.run,td]
 rw[h3,Zb h hm,Zb h hx,Zb h hz];simp only[Instr.mapUpdate,Ac,ye ht,ad,hg,hc,hf];have hs:(setObj b (.map (es.push { key:=.string k,val:=v,born:=qa }) (qa+1))).run C.P w=.ok () (Rh w b (.map (es.push { key:=.string k,val:=v,born:=qa }) (qa+1))):=vQ td rfl;rw[hs];exact VP (w':=Rh w b (.map (es.push { key:=.string k,val:=v,born:=qa }) (qa+1))) hH rfl rfl rfl rfl (by simp[Rh]) (λc hc=>aN hc) (VM Of) (λ_=>zd) hk
theorem S.range{t kt el:TypeId}(ht:C.P.underlying t=some (.map kt el)){b qa:Nat}{es:Array MapEntry}(hx:e.ev x=.atom (.map (some b)))(hm:(b,.obj (.map es qa))∈H)
  (hk:∀ r,K (ptr r 0) ((r,.obj (.mapIter (some b) qa #[] qa))::H)):Ya C ⟨dst,.range t x,ty,ra,ua,g⟩ e H K X:=by
 obtain⟨F,hF⟩:∃ F,H.Perm ((b,.obj (.map es qa))::F):=by obtain⟨l1,l2,rfl⟩:=List.append_of_mem hm;exact⟨l1++l2,List.perm_middle⟩
 have main:∀ X,Ya C ⟨dst,.range t x,ty,ra,ua,g⟩ e [(b,.obj (.map es qa))] (λlv H'=>∃ r,lv=ptr r 0/\H'=[(r,.obj (.mapIter (some b) qa #[] qa)),(b,.obj (.map es qa))]) X:=λX ρ w L h hH=>by
  obtain⟨Le,Of,hl,td,Gd⟩:=hH.uc _ (Mo rfl);simp only at Le Of hl td Gd;have h3:execOp ρ ⟨dst,.range t x,ty,ra,ua,g⟩=(do Pure.pure (.value (<-Instr.range t (ρ x)))):=rfl;have hg:(getObj b).run C.P w=.ok (.map es qa) w:=by simp only[getObj,Sem.run,td]
  have hn:∀ o,(newObj o).run C.P w=.ok w.heap.size (World.push w o):=λ_=>rfl;rw[h3,Zb h hx];simp only[Instr.range,Ac,ye ht,ad,hg,Yd,hn];have:=Left.frame (F:=[(b,.obj (.map es qa))]) (K:=λlv H'=>∃ r,lv=ptr r 0/\H'=[(r,.obj (.mapIter (some b) qa #[] qa)),(b,.obj (.map es qa))]) (v:=.pointer (some ⟨w.heap.size,0,none⟩)) (by simpa using hH) (qjY (w:=w) (L:=L) (hH.sub (nil_sublist _)) (o:=.mapIter (some b) qa #[] qa) rfl ⟨w.heap.size,rfl,rfl⟩);show Left C w L _ _ _ _;simpa using this
 refine Ya.Zc (Ya.frame (H:=[(b,.obj (.map es qa))]) (F:=F) hF (K:=λlv H'=>∃ r,lv=ptr r 0/\H'=[(r,.obj (.mapIter (some b) qa #[] qa)),(b,.obj (.map es qa))]++F) ?_) ?_;exact Ya.Zc (main _) (λlv H' ⟨r,h1,h2⟩=>⟨lv,H',vR _,Kb _,r,h1,by rw[h2]⟩);rintro lv H' ⟨r,rfl,rfl⟩;exact⟨ptr r 0,_,vR _,⟨[],by simpa using hF.symm⟩,hk r⟩
theorem S.next{r b since last qa:Nat}{seen:Array Nat}{es:Array MapEntry}{F:Heap}(hx:e.ev x=ptr r 0)(hp:H.Perm ((r,.obj (.mapIter (some b) since seen last))::(b,.obj (.map es qa))::F))
  (hold:∀ e∈es.toList,e.born<since/\e.born<last)
  (mI:es.filter (λe=>!seen.contains e.born)=#[]->K (.tuple [bool false]) ((r,.obj (.mapIter (some b) since seen last))::(b,.obj (.map es qa))::F))
  (nu:∀ e∈(es.filter λe=>!seen.contains e.born).toList,K (.tuple [bool true,.atom e.key,.atom e.val]) ((r,.obj (.mapIter (some b) since (seen.push e.born) qa))::(b,.obj (.map es qa))::F)) :
  Ya C ⟨dst,.next x false,ty,ra,ua,g⟩ e H K X:=by
 refine Ya.frame (H:=[(r,.obj (.mapIter (some b) since seen last)),(b,.obj (.map es qa))]) (F:=F) hp λρ w L h hH=>?_;have hr:=hH.uc (r,.obj (.mapIter (some b) since seen last)) nc;have hb:=hH.uc (b,.obj (.map es qa)) Oh;obtain⟨_,aq,_,oe,_⟩:=hr;obtain⟨_,Of,_,dL,_⟩:=hb;simp only at aq oe Of dL;have h3:execOp ρ ⟨dst,.next x false,ty,ra,ua,g⟩=(do Pure.pure (.value (<-Instr.next (ρ x) false ty))):=rfl;have T4:(getObj r).run C.P w=.ok (.mapIter (some b) since seen last) w:=by simp only[getObj,Sem.run,oe]
 have VK:(getObj b).run C.P w=.ok (.map es qa) w:=by simp only[getObj,Sem.run,dL]
 have aR:(!seen.isEmpty && !es.isEmpty && es.all λe=>decide (e.born ≥ last))=false:=by
  rw[Bool.eq_false_iff];intro Bg;simp only[sd] at Bg;obtain⟨⟨_,h1⟩,h2⟩:=Bg;have Fb:0<es.size:=by rcases Nat.eq_zero_or_pos es.size with h0|h0;have:es=#[]:=Array.eq_empty_of_size_eq_zero h0;subst this;simp at h1;exact h0
  have h3:=(Array.all_eq_true.1 h2) 0 Fb;have h4:=(hold es[0] (by simp)).2;simp at h3;omega
 rw[h3,Zb h hx];simp only[Instr.next,Ac,ad,T4,VK,aR,Uk,if_false];generalize hL:es.filter (λe=>!seen.contains e.born)=left at mI nu ⊢;have Uh:∀ x∈left.toList,x.born<since:=λx hx=>by subst hL;simp at hx;exact(hold x (by simpa using hx.1)).1
 have e1:left.filter (λx=>decide (x.born<since))=left:=Array.filter_eq_self.2 (λx hx=>by simpa using Uh x (by simpa using hx))
 have e2:left.filter (λx=>decide (x.born ≥ since))=#[]:=by rw[Array.filter_eq_empty_iff];intro x hx;have:=Uh x (by simpa using hx);simp;omega
 simp only[e1,e2,Array.append_empty];by_cases h0:left.size=0;have:left=#[]:=Array.eq_empty_of_size_eq_zero h0;subst this;have YR:(choose (.mapNext 1)).run C.P w=.ok 0 w:=by simp[choose,Sem.run,Question.forced]
 simp only[Array.isEmpty_empty,if_true,Array.map_empty,Array.append_empty,List.size_toArray,List.length_singleton,YR,Ac,ad,Yd];exact⟨.tuple [bool false],_,L,Fr.refl _ _ _,hH,by simp only[xb];exact⟨[.bool false],rfl,by simp only[oa,xb];exact⟨_,_,rfl,rfl,rfl⟩⟩,mI rfl⟩;have Fb:left.isEmpty=false:=by simp[Array.isEmpty,h0]
 simp only[Fb,Uk,if_false,Array.empty_append,Array.size_map];obtain⟨j,w1,hj,ft,Hd⟩:∃ (j:Nat) (w1:World),j<left.size/\(w1=w∨w1=w.drew)/\(choose (Question.mapNext left.size)).run C.P w=.ok j w1:=by
  by_cases hf:left.size<=1;exact⟨0,w,by omega,.inl rfl,by simp[choose,Sem.run,Question.forced,hf]⟩;exact⟨_,w.drew,Nat.mod_lt _ zo,.inr rfl,by
   simp only[choose,Sem.run,Question.forced,Gg,hf,if_false,Question.cut];rfl⟩
 have Q3:w1.heap[r]? = some (.mapIter (some b) since seen last):=by rcases ft with rfl|rfl <;> exact oe
 have ld:w1.heap.size=w.heap.size:=by rcases ft with rfl|rfl <;> rfl
 have NR:w1.heap=w.heap:=by rcases ft with rfl|rfl <;> rfl
 simp only[Hd,Array.getElem?_map,Array.getElem?_eq_getElem hj,map_some,Ac,ad,vQ Q3 rfl,Yd];have hl:Left C w L [(r,.obj (.mapIter (some b) since seen last))] (Rh w1 r (.mapIter (some b) since (seen.push left[j].born) qa)) (.tuple #[.bool true,left[j].key,left[j].val]) (λlv H'=>K lv (H'++[(b,.obj (.map es qa))]++F)):=
  VP (lv:=.tuple [bool true,.atom left[j].key,.atom left[j].val]) (Ta.left (F:=[(b,.obj (.map es qa))]) hH) rfl (by rcases ft with rfl|rfl <;> rfl) (by rcases ft with rfl|rfl <;> rfl) (by rcases ft with rfl|rfl <;> rfl) (by simp[Rh,ld]) (λc hc=>by rw[aN hc,NR]) (VM zo)
   (λ_=>by simp only[xb];exact⟨[.bool true,left[j].key,left[j].val],rfl,by simp only[oa,xb];exact⟨_,_,rfl,rfl,_,_,rfl,rfl,_,_,rfl,rfl,rfl⟩⟩) (nu left[j] (by simp))
 exact Left.frame (F:=[(b,.obj (.map es qa))]) (K:=λlv H'=>K lv (H'++F)) hH hl
theorem Pure.entry{r b since last qa stamp:Nat}{seen:Array Nat}{es:Array MapEntry}{en:MapEntry}(hx:e.ev x=ptr r 0)(hi:(r,ma.obj (.mapIter (some b) since seen last))∈H)(hm:(b,ma.obj (.map es qa))∈H)
  (hl:qa=last) (hb:seen.back? = some stamp) (hf:es.find? (·.born == stamp)=some en):Pure C ⟨dst,.entry x,ty,ra,ua,g⟩ e H (.tuple [.atom en.key,.atom en.val]):=λρ w L h hH=>by
 refine⟨.tuple #[en.key,en.val],by simp only[xb];exact⟨[en.key,en.val],rfl,by simp only[oa,xb];exact⟨_,_,rfl,rfl,_,_,rfl,rfl,rfl⟩⟩,λw' ha=>?_⟩;have h1:w'.heap[r]? = some (.mapIter (some b) since seen last):=(ha.1 _ hi).trans (hH.uc _ hi).2.2.2.1;have h2:w'.heap[b]? = some (.map es qa):=(ha.1 _ hm).trans (hH.uc _ hm).2.2.2.1;have h3:execOp ρ ⟨dst,.entry x,ty,ra,ua,g⟩=(do Pure.pure (.value (<-Instr.entry (ρ x)))):=rfl;have T4:(getObj r).run C.P w'=.ok (.mapIter (some b) since seen last) w':=by simp only[getObj,Sem.run,h1]
 have VK:(getObj b).run C.P w'=.ok (.map es qa) w':=by simp only[getObj,Sem.run,h2]
 have Fb:(qa != last)=false:=by rw[hl];simp
 rw[h3,Zb h hx];simp only[Instr.entry,Ac,ad,T4,hb,VK,Fb,Uk,if_false,Yd,hf]
theorem lH{op:Op}(hi:Sa[i]? = some ⟨dst,op,ty,ra,ua,none⟩)(hd:Sl n dst)
  (hp:Pure C ⟨dst,op,ty,ra,ua,none⟩ e H lv) (k:nh C n Sa Q HF Aa (Ba.setIfInBounds i true) (e.put dst lv) H):db C n Sa Q HF Aa Ba e H i:=λw0 L0 a w L hL hA ld hE hH=>by
 obtain⟨v,hv,Hd⟩:=hp a.eval w L hE.ev hH;unfold wpOp;rw[hi];simp only;rw[zp (by simp[Region.wanted])];refine .inl ?_;unfold Oper.wp;rw[Hd w (uq.refl _ _ _)];exact⟨hA,k w0 L0 _ w L hL hA ld (hE.put hd hv) hH⟩
end
def kU:Op->Bool
 |.defer _=>false
 |_=>true
theorem qlO{f:FuncId}{args:Array Value}{R:Ending->World->Prop}(h:Calls P f args w R):CallsIn (Fence.wide.inRound l) n P f args w R:=(callsIn_wide (n:=n)).2 h
theorem qnn{row:String}{args:Array Value}{R:Value->World->Prop}(h:Rows P row args w R):RowsIn (Fence.wide.inRound l) n P row args w R:=λc cs _=>
 let ⟨v,w',r,s⟩:=h c cs
 ⟨v,w',r,stepsIn_wide.2 s⟩
theorem qmS{o:Oper}{a:Act}{w:World}{next next':Act->World->Prop}{Q:Exit->Act->World->Prop}(ho:kU o.op=true)
  (hn:∀ a w,next a w->next' a w) (h:o.wp P a w next Q):o.wpIn (Fence.wide.inRound l) n P a w next' Q:=by
 refine⟨λ_ _=>trivial,?_⟩;have hs:o.semAt (Fence.wide.inRound l).round a.eval=execOp a.eval o:=Oper.semAt_eq _ _ _ λc hc=>by rw[hc] at ho;cases ho
 rw[hs];unfold Oper.wp at h;revert h;generalize (execOp a.eval o).run P w=r;intro h;cases r with
 |ok x w'=>
  cases x with
  |value v=>exact hn _ _ h
  |skip=>exact hn _ _ h
  |defer d=>exact hn _ _ h
  |enter f args=>
   refine⟨λhd=>(by cases hd),qlO (Calls.mono h ?_)⟩;intro e GO he
   cases e with
   |returned v=>exact hn _ _ he
   |panicked ch=>exact he
   |outgrown=>exact he
  |row row args=>
   refine⟨λhd=>(by cases hd),qnn (Rows.mono h ?_)⟩;intro v GO he
   exact hn _ _ he
  |_=>exact h.elim
 |halt x w'=>cases x <;> first|exact h|exact h.elim
theorem Y0{l n:Nat}{P:Program}{Sa:Array Oper}{Q:Exit->Act->World->Prop}(hQ:¬ LetsOut Q):∀ (da:List Oper) (a:Act) (w:World),(∀ o∈da,kU o.op=true)->wpList P Sa Q da a w->wpListIn (Fence.wide.inRound l) n P Sa Q da a w
 |[],_,_,_,h=>h
 |o::da,a,w,ho,h=>by
  unfold wpList at h;unfold wpListIn;split at h;rename_i hw;rw[zp hw];rcases h with h|⟨_,h⟩;exact qmS (ho o mem_cons_self) (λa w h=>Y0 hQ da a w (λo h=>ho o (Pc _ h)) h) h;exact absurd h hQ
  rename_i hw;rw[zn hw];exact⟨λ_ _=>trivial,Y0 hQ da _ _ (λo h=>ho o (Pc _ h)) h⟩
theorem qkW{id:Nat}{Sa:List Oper}{Q:Exit->Act->World->Prop}{a:Act}(hQ:¬ LetsOut Q)(ho:Sa.all (λo=>kU o.op)=true)(h:wpList P Sa.toArray Q Sa a w) :
  (Code.region id Sa.toArray false).wpIn (Fence.wide.inRound l) n P Q a w:=wpIn_region_lit (Y0 hQ Sa a w (by simpa using ho) h)
end Go.GL
namespace Go.GL
open Go.RowKit
variable{C:Ctx}{F:Heap}{L:Live}{b n ty:Nat}{c:Code}{cs Ob:List LV}{w:World}
theorem CU{o o':Obj}(hH:Ta C w L ((b,.obj o)::F))(YV:wH o'=true) :
  Fr (keys ((b,ma.obj o)::F)) w L (w.putObj b o') L ((b,.obj o')::F)/\Ta C (w.putObj b o') L ((b,.obj o')::F):=by
 have h1:Ta C w L ([(b,.obj o)]++F):=hH;have Ja:b<w.heap.size:=(hH.uc _ mem_cons_self).2.1;have h2:Left C w L [(b,.obj o)] (w.putObj b o') undef (λ_ H'=>H'=[(b,.obj o')]):=
  VP (w':=w.putObj b o') h1.left YV rfl rfl rfl (by simp[World.putObj]) (λc hc=>World.putObj_heap_other hc) (World.putObj_heap_same Ja) (v:=undef) (lv:=.atom undef) (λ_=>zd) rfl
 obtain⟨lv,H',L',g1,g2,g3,rfl⟩:=h2;have hL:L'=L:=by funext c;obtain⟨_,_,hl,_⟩:=h1.left.uc _ mem_cons_self;obtain⟨_,_,Rx,_⟩:=g2.uc _ mem_cons_self;by_cases he:c=b;subst he;rw[hl,Rx];rcases Nat.lt_or_ge c w.heap.size with hc|hc;exact g1.Qi c hc (by simpa using he);rw[h1.wf c hc,g2.wf c (by simpa [World.putObj] using hc)]
 subst hL;have:=h1.frame g1 g2;exact⟨this.2,this.1⟩
theorem qn0{o:Obj}(hH:Ta C w L F)(ho:wH o=true) :
  ∃ L',Fr (keys F) w L (w.alloc o) L' ((w.heap.size,.obj o)::F)/\Ta C (w.alloc o) L' ((w.heap.size,.obj o)::F):=by
 have h1:Ta C w L ([]++F):=hH;have:=Uy h1.left o 0 [(w.heap.size,.obj o)] (λp hp=>by
  simp only[mem_singleton] at hp;subst hp;exact⟨rfl,by simp[Live.Kc],Fq,jN Fq ho⟩) (by simp)
 have:=h1.frame this.1 this.2;exact⟨_,this.2,this.1⟩
def Ht(C:Ctx)(l n:Nat)(c:Code)(Q:Jc)(e:Env)(H:Heap):Prop:=
 ∀ a w L,yc n a e w L->Ta C w L H->∀ m,c.wpIn (Fence.wide.inRound l) m C.P (lift C n w L (keys H) Q) a w
def RG(k:Env->Heap->Prop):Jc
 |.normal,e,H=>k e H
 |_,_,_=>False
section round
variable{C:Ctx}{l n:Nat}{e:Env}{H:Heap}{k:Env->Heap->Prop}
theorem Ht.region{id:Nat}{Sa:List Oper}(ho:Sa.all (λo=>kU o.op)=true)(h:Ea C n Sa.toArray (ve k (RG k)) Sa e H):Ht C l n (.region id Sa.toArray false) (RG k) e H:=λa w L hE hH m=>by refine qkW ?_ ho (BB ?_ _ _ _ (h a w L hE hH));rintro⟨a',w',e',H',L',_,_,_,hq⟩;exact hq;rintro ex a' w' hq;refine iZ ?_ hq;intro x e H h;cases x <;> exact h
theorem Ht.seq{x y:Code}(h:Ht C l n x (RG λe H=>Ht C l n y (RG k) e H) e H):Ht C l n (.seq x y) (RG k) e H:=λa w L hE hH m=>by
 refine wpIn_seq (wpIn_mono (h a w L hE hH m) λex a' w' hq=>?_);obtain⟨e',H',L',h1,h2,h3,h4⟩:=hq
 cases ex with
 |normal=>exact wpIn_mono (h4 a' w' L' h3 h2 m) λ_ _ _=>dN h1
 |exit id=>exact h4.elim
 |goto id=>exact h4.elim
 |ret=>exact h4.elim
 |panic ch=>exact h4.elim
 |outgrown=>exact h4.elim
theorem Ht.block{id:Nat}{c:Code}(h:Ht C l n c (RG k) e H):Ht C l n (.block id c) (RG k) e H:=λa w L hE hH m=>by
 refine wpIn_block (wpIn_mono (h a w L hE hH m) λex a' w' hq=>?_);obtain⟨e',H',L',h1,h2,h3,h4⟩:=hq
 cases ex with
 |normal=>exact⟨e',H',L',h1,h2,h3,h4⟩
 |exit id=>exact h4.elim
 |goto id=>exact h4.elim
 |ret=>exact h4.elim
 |panic ch=>exact h4.elim
 |outgrown=>exact h4.elim
end round
theorem qi1{F:Fence}{m:Nat}{P:Program}{l:Nat}{args:Array Value}{W:World}{R R':Ending->World->Prop}(h:YieldAt F m P l args W R)(hr:∀ e w,R e w->R' e w):YieldAt F m P l args W R':=by obtain⟨fn,tmps,assign,body,hy,hR⟩:=h;exact⟨fn,tmps,assign,body,hy,hR.mono hr⟩
def qB(C:Ctx)(l:Nat)(args:List LV)(H:Heap)(K:Heap->Prop):Prop:=
 ∀ (vs:List Value) w L,oa w L args vs->Ta C w L H->∀ m,YieldAt Fence.wide m C.P l vs.toArray w λe w'=>e=.returned (.bool true)/\ur C w L H w' K
theorem qB.frame{C:Ctx}{l:Nat}{args:List LV}{G H F:Heap}{K:Heap->Prop}(p:G.Perm (H++F))(h:qB C l args H λH'=>K (H'++F)):qB C l args G K:=λvs w L h1 h2 m=>by have h3:=h2.perm p;refine qi1 (h vs w L h1 h3.left m) ?_;rintro e w' ⟨he,hx⟩;obtain⟨H',L',g1,g2,g3⟩:=ur.frame h3 hx;exact⟨he,H',L',g1.perm p.symm,g2,g3⟩
theorem qB.mono{C:Ctx}{l:Nat}{args:List LV}{H:Heap}{K K':Heap->Prop}(h:qB C l args H K)(hk:∀ H,K H->K' H):qB C l args H K':=λvs w L h1 h2 m=>qi1 (h vs w L h1 h2 m) λ_ _ hx=>⟨hx.1,hx.2.mono hk⟩
def gX(C:Ctx)(gf:FuncId)(ib:List LV)(Hc:Heap)(N:Nat)(xs:Nat->List LV):Prop:=
 ∀ (l:Nat) (J:Nat->Heap->Prop),(∀ k H,k<N->J k H->qB C l (xs k) H (J (k+1)))->∀ H0,J 0 H0 ->
  ca C gf (.atom (.func (.yield l) #[] #[])::ib) (H0++Hc) λr H'=>(∃ v,r=.ret v)/\∃ H1,H'=H1++Hc/\J N H1
def Env.round(j:Env):List (Nat×LV)->Env
 |[]=>j
 |(d,v)::r=>Env.round (j.Kc d v) r
theorem yc.rounds{n:Nat}{w:World}{L:Live}:∀ (ps:List Nat) (QB:List LV) (vs:List Value) (tmps:Array Value) (j:Env),yc n { tmps,defers:=[] } j w L->oa w L QB vs->ps.length=QB.length->ps.all (λp=>Nat.blt p n)=true ->
  yc n { tmps:=(ps.zip vs).foldl (λt p=>t.setIfInBounds p.1 p.2) tmps,defers:=[] } (Env.round j (ps.zip QB)) w L
 |[],QB,vs,tmps,j,h,_,_,_=>by simpa [Env.round] using h
 |p::ps,[],vs,tmps,j,h,_,hl,_=>by simp at hl
 |p::ps,lv::QB,vs,tmps,j,h,hr,hl,hp=>by simp only[oa] at hr;obtain⟨y,ys,rfl,hy,hr⟩:=hr;simp only[List.all_cons,sd] at hp;have:=yc.put (dst:=some p) h (by simp only[Sl,mD];exact hp.1) hy;simp only[List.zip_cons_cons,List.foldl_cons,Env.round];exact yc.rounds ps QB ys _ _ this hr (by simpa using hl) hp.2
def Act.flat(a:Act):Env:=⟨λi=>.atom (a.tmps.getD i undef),[]⟩
theorem Act.dD{a:Act}(hn:a.tmps.size=n):yc n { tmps:=a.tmps,defers:=[] } (Act.flat a) w L:=⟨hn,rfl,λ_=>zd⟩
section range
variable{C:Ctx}{n:Nat}{e:Env}{H:Heap}{Q:Jc}
theorem fb.rangeFunc{g:Operand}{ps:List Nat}{assign body:Code}{gf:FuncId} [Tb C.P gf]{ib:Array Value}(hg:e.ev g=.atom (.func (.func gf) #[] ib))(N:Nat)(xs:Nat->List LV)(H0 Hc:Heap)(hp:H.Perm (H0++Hc))
  (JR:gX C gf (ib.toList.map .atom) Hc N xs) (pn:∀ k,k<N->ps.length=(xs k).length) (hpn:ps.all (λp=>Nat.blt p n)=true)
  (J:Nat->Heap->Prop) (h0:J 0 H0)
  (round:∀ k H,k<N->J k H->∀ j:Env,j.ds=[]->(∀ i v,e.s i=.atom v->j.s i=.atom v)->∀ (l D:Nat) (o oD:ma),Ht C l n assign (RG λe1 H1=>e1.ds=[]/\∃ UI,H1=(l,o)::(D,oD)::UI/\(∀ o':ma,Ht C l n body (RG λ_ H2=>∃ T6,HSub ((l,o')::(D,oD)::T6) H2/\J (k+1) T6) e1 ((l,o')::(D,oD)::UI))) (Env.round j (ps.zip (xs k))) ((l,o)::(D,oD)::H))
  (done:∀ D H',J N H'->Q .normal ⟨e.s,{ target:=.collected D,args:=#[] }::e.ds⟩ ((D,.obj (.deferred (some [])))::(H'++Hc))) :
  fb C n (.rangeFunc g ps.toArray assign body) Q e H:=λa w L hE hH=>by
 refine wpIn_wide (n:=1) |>.1 (wpIn_rangeFunc λfn _=>?_);have hgv:a.eval g=.func (.func gf) #[] ib:=by have:=hE.ev g;rw[hg] at this;simpa only[xb] using this
 obtain⟨rec,jw⟩:∃ rec:LoopState->Option Code->Loop,rec=λst pe=>{ state:=st,pending:=pe,fn,tmps:=a.tmps,params:=ps.toArray,assign,body,defers:=w.heap.size }:=⟨_,rfl⟩;obtain⟨L1,f1,r1⟩:=qn0 (o:=.deferred (some [])) (hH.perm hp) rfl;obtain⟨L2,f2,r2⟩:=qn0 (o:=.loop (rec .ready none)) r1 rfl;have ld:(w.alloc (.deferred (some []))).heap.size=w.heap.size+1:=World.size_alloc ..;rw[ld] at f2 r2;have iR:rec .ready none={ state:=.ready,pending:=none,fn,tmps:=a.tmps,params:=ps.toArray,assign,body,defers:=w.heap.size }:=by rw[jw]
 refine⟨w.heap.size+1,[{ target:=.collected w.heap.size,args:=#[] }],(w.alloc (.deferred (some []))).alloc (.loop (rec .ready none)),{ target:=.fn (.func gf) ib,args:=#[.func (.yield (w.heap.size+1)) #[] #[]] },(w.alloc (.deferred (some []))).alloc (.loop (rec .ready none)),gf,
  #[.func (.yield (w.heap.size+1)) #[] #[]]++ib,(w.alloc (.deferred (some []))).alloc (.loop (rec .ready none)),?_,?_,λ_ _=>trivial,?_,λ_=>Jb _,callsIn_wide.2 ?_⟩
 rw[iR];exact run_enterLoop_outer _ _ _ _ _;simp only[resolve,hgv];simp[go_sem];simp only[invoke];exact V0 _ _;obtain⟨l,hl⟩:∃ l,l=w.heap.size+1:=⟨_,rfl⟩;obtain⟨D,hD⟩:∃ D,D=w.heap.size:=⟨_,rfl⟩;rw[<-hl,<-hD] at f2 r2 ⊢;rw[<-hD] at r1 f1;have hc:=JR l (λk H=>∃ H1,H=(l,.obj (.loop (rec .ready none)))::(D,.obj (.deferred (some [])))::H1/\J k H1) ?_ ((l,.obj (.loop (rec .ready none)))::(D,.obj (.deferred (some [])))::H0) ⟨H0,rfl,h0⟩
 ·have h1:=hc (.func (.yield l) #[] #[]::ib.toList) _ L2 (by simp only[oa,xb];exact⟨_,_,rfl,rfl,Wp _⟩) r2
  have e1:(Value.func (.yield l) #[] #[]::ib.toList).toArray=#[.func (.yield l) #[] #[]]++ib:=by apply Array.ext';simp
  rw[e1] at h1;refine Calls.mono h1 ?_;rintro ex w' hx;cases ex with
  |returned v=>
   obtain⟨lv,H',L',g1,g2,g3,_,H1,rfl,UI,rfl,hJ⟩:=hx;have bD:Ta C w' L' ((l,.obj (.loop (rec .ready none)))::((D,.obj (.deferred (some [])))::(UI++Hc))):=g2;obtain⟨_,_,_,Bs,_⟩:=bD.uc _ mem_cons_self;have xC:w'.heap[l]? = some (.loop (rec .ready none)):=Bs;have hpe:(rec .ready none).pending=none:=by rw[jw]
   have xp:=(run_endLoop (P:=C.P) xC (by rw[jw];simp)).trans (congrArg (λp=>Result.ok p _) hpe);have ht:=CU (o':=.loop { rec .ready none with state:=.exhausted }) bD rfl;refine⟨none,_,xp,?_⟩;have hs:HSub ((D,ma.obj (.deferred (some [])))::(UI++Hc)) ((l,.obj (.loop { rec .ready none with state:=.exhausted }))::((D,.obj (.deferred (some [])))::(UI++Hc))):=Pg ob;refine⟨⟨e.s,{ target:=.collected D,args:=#[] }::e.ds⟩,(D,.obj (.deferred (some [])))::(UI++Hc),L',?_,ht.2.qc hs,⟨?_,?_,?_⟩,done D UI hJ⟩;exact Fr.perm hp.symm ((f1.trans (f2.trans (g1.trans ht.1))).qc hs);exact hE.size;show _::a.defers=_;rw[hE.ds];exact λi=>(hE.Gi i).mono (f1.ext.trans (f2.ext.trans (g1.ext.trans ht.1.ext))) _ _
  |panicked ch=>obtain⟨H',L',g1,g2,⟨v,hv⟩,_⟩:=hx;cases hv
  |outgrown=>exact hx.elim
 rintro k H hk ⟨H1,rfl,hJ⟩ vs w1 Lw MV hr m;obtain⟨_,_,_,Bs,_⟩:=hr.uc _ mem_cons_self;have xC:w1.heap[l]? = some (.loop (rec .ready none)):=Bs;have na:=MV.length;have hpk:=pn k hk;have hy:=run_yield (P:=C.P) (args:=vs.toArray) xC (by rw[jw];simp;omega);rw[jw] at hy;refine⟨fn,_,assign,body,hy,roundIn_of_wpIn trivial ?_⟩;have htm:yc n { tmps:=a.tmps,defers:=[] } (Act.flat a) w1 Lw:=Act.dD hE.size;have Y2:=yc.rounds ps (xs k) vs a.tmps (Act.flat a) htm MV hpk hpn;have e2:(ps.toArray.zip vs.toArray).foldl (λtmps (t,a)=>tmps.setIfInBounds t a) a.tmps=(ps.zip vs).foldl (λt p=>t.setIfInBounds p.1 p.2) a.tmps:=by simp
 simp only[e2];refine wpIn_mono (round k H1 hk hJ (Act.flat a) rfl ?_ l D _ _ _ w1 Lw Y2 hr m) ?_;intro i v hv;have:=hE.Gi i;rw[hv] at this;simp only[xb] at this;simp only[Act.flat,this];rintro ex a1 w2 ⟨e1,H2,L2',q1,q2,q3,q4⟩;cases ex with
 |normal=>
  obtain⟨Cs,T6,rfl,hb⟩:=q4;obtain⟨_,_,_,G4,_⟩:=q2.uc _ mem_cons_self;have DR:w2.heap[l]? = some (.loop (rec .ready none)):=G4;have ht:=CU (o':=.loop { rec .ready none with state:=.busy }) q2 rfl;refine⟨_,run_beginRound DR (by rw[jw]),?_⟩;refine wpIn_mono (hb (.obj (.loop { rec .ready none with state:=.busy })) a1 _ L2' (q3.mono ht.1.ext) ht.2 m) ?_;rintro ex a3 w3 ⟨e3,H3,L3,p1,p2,p3,p4⟩;cases ex with
  |normal=>
   obtain⟨H3',CN,hJ3⟩:=p4;have p2':=p2.qc CN;obtain⟨_,_,_,F4,_⟩:=p2'.uc _ mem_cons_self;have CR:w3.heap[l]? = some (.loop { rec .ready none with state:=.busy }):=F4;have HK:=CU (o':=.loop (rec .ready none)) p2' rfl;have xp:=run_endRound (P:=C.P) none CR;have e3:({ { rec .ready none with state:=.busy } with state:=if (none:Option Code).isNone then .ready else .done,pending:=none }:Loop)=rec .ready none:=by rw[jw];try rfl
   rw[e3] at xp;refine⟨.bool true,_,xp,rfl,?_⟩;exact⟨_,L3,q1.trans (ht.1.trans ((p1.qc CN).trans HK.1)),HK.2,H3',rfl,hJ3⟩
  |exit id=>exact p4.elim
  |goto id=>exact p4.elim
  |ret=>exact p4.elim
  |panic ch=>exact p4.elim
  |outgrown=>exact p4.elim
 |exit id=>exact q4.elim
 |goto id=>exact q4.elim
 |ret=>exact q4.elim
 |panic ch=>exact q4.elim
 |outgrown=>exact q4.elim
end range
def Dt(C:Ctx)(n:Nat)(Sa:Array Oper)(Q:Jc)(da:List Oper)(e:Env)(H:Heap):Prop:=
 ∀ a w L,yc n a e w L->Ta C w L H->wpListIn Fence.wide 1 C.P Sa (lift C n w L (keys H) Q) da a w
section W
variable{C:Ctx}{n:Nat}{Sa:Array Oper}{Q:Jc}{e:Env}{H:Heap}
theorem Dt.nil(h:Q .normal e H):Dt C n Sa Q [] e H:=λ_ _ L hE hH=>⟨e,H,L,Fr.refl _ _ _,hH,hE,h⟩
theorem OH{F:Fence}{m:Nat}{P:Program}{Q Q':Exit->Act->World->Prop}(h:∀ e a w,Q e a w->Q' e a w)(ho:LetsOut Q->LetsOut Q'):∀ (l:List Oper) (a:Act) (w:World),wpListIn F m P Sa Q l a w->wpListIn F m P Sa Q' l a w
 |[],_,_,k=>h _ _ _ k
 |o::l,a,w,k=>by
  unfold wpListIn at k ⊢;split at k
  ·rename_i hw
   rw[zp hw];refine⟨k.1,?_⟩;have k2:=k.2;generalize (o.semAt F.round a.eval).run P w=r at k2 ⊢;cases r with
   |ok x w'=>
    cases x with
    |value v=>exact OH h ho l _ _ k2
    |skip=>exact OH h ho l _ _ k2
    |defer d=>exact OH h ho l _ _ k2
    |enter f args=>
     refine⟨k2.1,k2.2.mono λe GO he=>?_⟩
     cases e with
     |returned v=>exact OH h ho l _ _ he
     |panicked ch=>exact h _ _ _ he
     |outgrown=>exact ho he
    |row row args=>
     refine⟨k2.1,λc cs hr=>?_⟩;obtain⟨v,w2,r2,s2⟩:=k2.2 c cs hr
     exact⟨v,w2,OH h ho l _ _ r2,s2⟩
    |round l' f tmps Mc bd=>
     refine⟨k2.1,k2.2.mono λe GO he=>?_⟩
     cases e with
     |returned v=>exact OH h ho l _ _ he
     |panicked ch=>exact h _ _ _ he
     |outgrown=>exact ho he
    |_=>exact k2.elim
   |halt x w'=>cases x <;> first|exact h _ _ _ k2|exact k2.elim
  rename_i hw;rw[zn hw];exact⟨k.1,OH h ho l _ _ k.2⟩
theorem qwv{w1:World}{L1:Live}{K:List Nat}{H1:Heap}(f:Fr K w L w1 L1 H1):LetsOut (lift C n w1 L1 (keys H1) Q)->LetsOut (lift C n w L K Q):=λ⟨a,w',h⟩=>⟨a,w',dN f h⟩
theorem Dt.pure{dst:Option Nat}{op:Op}{ty:TypeId}{ra:String}{ua:Array Edge}{da:List Oper}{lv:LV}
  (h:Pure C ⟨dst,op,ty,ra,ua,none⟩ e H lv) (hd:Sl n dst) (k:Dt C n Sa Q da (e.put dst lv) H):Dt C n Sa Q (⟨dst,op,ty,ra,ua,none⟩::da) e H:=λa w L hE hH=>by
 obtain⟨v,hv,hr⟩:=h a.eval w L hE.ev hH;unfold wpListIn;rw[zp (by simp[Region.wanted])];refine⟨λ_ _=>trivial,?_⟩;have hs:Oper.semAt (Fence.wide).round a.eval ⟨dst,op,ty,ra,ua,none⟩=execOp a.eval ⟨dst,op,ty,ra,ua,none⟩:=rfl;rw[hs,hr w ⟨λ_ _=>rfl,λ_ _ _=>rfl⟩];exact k _ w L (hE.put hd hv) hH
theorem Dt.yield{dst:Option Nat}{fo:Operand}{l:Nat}{args:List Operand}{Rd:Array TypeId}{Mc:List LV}{ty:TypeId}{ra:String}{ua:Array Edge}{da:List Oper}{K:Heap->Prop}(hf:e.ev fo=.atom (.func (.yield l) #[] #[]))
  (has:args.map e.ev=Mc) (hy:qB C l Mc H K) (hd:Sl n dst) (k:∀ H',K H'->Dt C n Sa Q da (e.put dst (bool true)) H'):Dt C n Sa Q (⟨dst,.call { callee:=.value fo,args:=args.toArray,argTypes:=Rd },ty,ra,ua,none⟩::da) e H:=λa w L hE hH=>by
 subst has;have hv:=hE.ev fo;rw[hf] at hv;simp only[xb] at hv;obtain⟨fn,tmps,assign,body,h1,h2⟩:=hy (args.map a.eval) w L (tM hE.ev _) hH 0;unfold wpListIn;rw[zp (by simp[Region.wanted])];refine⟨λ_ _=>trivial,?_⟩;have h3:Oper.semAt (Fence.wide).round a.eval ⟨dst,.call { callee:=.value fo,args:=args.toArray,argTypes:=Rd },ty,ra,ua,none⟩=(do let d <-Deferred.ofValue (a.eval fo) (args.toArray.map a.eval);invoke d.target d.args):=rfl
 have h4:(do let d <-Deferred.ofValue (.func (.yield l) #[] #[]) (args.toArray.map a.eval);invoke d.target d.args:Sem Next).run C.P w=.ok (.round l fn tmps assign body) w:=by simp only[Deferred.ofValue,Ac,Yd,ad,invoke];rw[<-h1];simp
 rw[h3,hv,h4];refine⟨λ_=>Jb _,h2.mono ?_⟩;rintro ex w' ⟨rfl,H',L',g1,g2,g3⟩;exact OH (λ_ _ _=>dN g1) (qwv g1) _ _ _ (k H' g3 _ w' L' ((hE.mono g1.ext).put hd zd) g2)
theorem fb.WE{id:Nat}{l:List Oper}(h:Dt C n l.toArray Q l e H):fb C n (.region id l.toArray false) Q e H:=λa w L hE hH=>wpIn_wide (n:=1) |>.1 (wpIn_region_lit (h a w L hE hH))
end W
def ND(C:Ctx)(n:Nat)(rs:List ResultVar)(R:Ie->Heap->Prop):Jc
 |.normal,e,H|.ret,e,H=>∃ D F,e.ds=[{ target:=.collected D,args:=#[] }]/\H.Perm ((D,.obj (.deferred (some [])))::F)/\∃ vs H',Dm C n e F rs vs/\HSub H' F/\R (.ret (Dh vs)) H'
 |.panic ch,e,H=>(e.ds=[]/\∃ H',HSub H' H/\R (.panic ch) H')∨∃ D F,e.ds=[{ target:=.collected D,args:=#[] }]/\H.Perm ((D,.obj (.deferred (some [])))::F)/\∃ H',HSub H' F/\R (.panic ch) H'
 |_,_,_=>False
theorem ca.DK{f:FuncId}{fn:Func}{args:List LV}{H:Heap}{R:Ie->Heap->Prop}(hf:C.P.funcs[f]? = some fn)(hb:fn.body=some c)(hn:fn.ntmps=n)(h3:Nat.ble fn.results.size 3=true)
  (hl:Nat.ble args.length n=true) (h:fb C n c (ND C n fn.results.toList R) (vH args) H):ca C f args H R:=λvs w L hv hH=>by
 subst hn;have Rx:args.length<=fn.ntmps:=by simpa using hl
 have Hs:fn.results.size<=3:=by simpa using h3
 have na:=hv.length;refine callsIn_wide.1 (callsIn_of_wp_marks (F:=Fence.wide) (n:=1) hf hb trivial (wpIn_wide.2 (Go.wp_mono (h _ w L ⟨?_,rfl,λi=>?_⟩ hH) λex a' w' hq=>?_)))
 simp;omega;exact nO;obtain⟨e',H',L',g1,g2,g3,g4⟩:=hq;have turn:∀ {D F},H'.Perm ((D,ma.obj (.deferred (some [])))::F)->(Instr.takeDeferred D).run C.P w'=.ok [] (w'.putObj D (.deferred none))/\Fr (keys H) w L (w'.putObj D (.deferred none)) L' F/\Ta C (w'.putObj D (.deferred none)) L' F/\Ext w' L' (w'.putObj D (.deferred none)) L':=λ{D F} hp=>by have bD:=g2.perm hp;obtain⟨_,_,_,Bs,_⟩:=bD.uc _ mem_cons_self;have xC:w'.heap[D]? = some (.deferred (some [])):=Bs;have ht:=CU (o':=.deferred none) bD rfl;have hs:HSub F ((D,ma.obj (.deferred none))::F):=Pg ob;have hkp:Fr (keys H) w L w' L' ((D,ma.obj (.deferred (some [])))::F):=g1.qc ⟨[],by simpa using hp⟩;exact⟨run_takeDeferred xC,(hkp.trans ht.1).qc hs,ht.2.qc hs,ht.1.ext⟩
 have ret:yc fn.ntmps a' e' w' L'->(∃ D F,e'.ds=[{ target:=.collected D,args:=#[] }]/\H'.Perm ((D,.obj (.deferred (some [])))::F)/\∃ vs Bh,Dm C fn.ntmps e' F fn.results.toList vs/\HSub Bh F/\R (.ret (Dh vs)) Bh) ->
   LeavesInM Fence.wide 1 C.P fn a'.tmps (kA C w L H (λv=>R (.ret v)) λch=>R (.panic ch)) a'.defers .returning w':=λhE hr=>by
  obtain⟨D,F,h1,hp,wD,Bh,h2,h4,h5⟩:=hr;rw[hE.ds,h1];obtain⟨t1,t2,t3,t4⟩:=turn hp;refine⟨by simp,.inl ⟨D,_,rfl,t1,?_⟩⟩;obtain⟨v,r1,r2⟩:=JZ (hE.mono t4) t3 h2 Hs;exact⟨v,r1,Dh wD,Bh,L',t2.qc h4,t3.qc h4,r2,h5⟩
 cases ex with
 |normal=>exact ret g3 g4
 |ret=>exact ret g3 g4
 |panic ch=>rcases g4 with⟨h1,Bh,h4,h5⟩|⟨D,F,h1,hp,Bh,h4,h5⟩;show LeavesInM _ _ _ _ _ _ a'.defers _ _;rw[show a'.defers=[] from(show a'.defers=e'.ds from g3).trans h1];exact⟨Bh,L',g1.qc h4,g2.qc h4,h5⟩;show LeavesInM _ _ _ _ _ _ a'.defers _ _;rw[show a'.defers=[{ target:=.collected D,args:=#[] }] from(show a'.defers=e'.ds from g3).trans h1];obtain⟨t1,t2,t3,t4⟩:=turn hp;exact⟨by simp,.inl ⟨D,_,rfl,t1,⟨Bh,L',t2.qc h4,t3.qc h4,h5⟩⟩⟩
 |exit id=>exact g4.elim
 |goto id=>exact g4.elim
 |outgrown=>exact g4.elim
section
variable{C:Ctx}{n:Nat}{Q:Jc}{e:Env}{H:Heap}{k:Env->Heap->Prop}
theorem fb.mid{A:Type}(l:A->List (Nat×LV))(H1:A->Heap)(F:A->Prop)(hx:fb C n c (ve (λe' H'=>∃ a,F a/\At (l a) (H1 a) e.ds e' H') Q) e H)(hy:∀ a,F a->∀ j:Env,j.ds=e.ds->k (Env.Aj j (l a)) (H1 a)):fb C n c (ve k Q) e H:=by
 refine fb.Zc hx ?_;rintro ex e' H' hq;cases ex with
 |normal=>obtain⟨a,hF,h1,rfl,h3⟩:=hq;have:=hy a hF e' h3;rw[Env.ue h1.mem] at this;exact this
 |exit id=>exact hq
 |goto id=>exact hq
 |ret=>exact hq
 |panic ch=>exact hq
 |outgrown=>exact hq
theorem cM{A:Type}{c2:Code}{Q2:Jc}(l:A->List (Nat×LV))(H1:A->Heap)(F:A->Prop)(hx:fb C n c (ve (λe' H'=>∃ a,F a/\sx e' (l a)/\HSub (H1 a) H'/\e'.ds=e.ds) Q) e H)(hy:∀ a,F a->∀ j:Env,j.ds=e.ds->fb C n c2 Q2 (Env.Aj j (l a)) (H1 a)):fb C n c (ve (λe H=>fb C n c2 Q2 e H) Q) e H:=by
 refine fb.Zc hx ?_;rintro ex e' H' hq;cases ex with
 |normal=>obtain⟨a,hF,h1,h2,h3⟩:=hq;have:=hy a hF e' h3;rw[Env.ue h1.mem] at this;exact cW h2 this
 |exit id=>exact hq
 |goto id=>exact hq
 |ret=>exact hq
 |panic ch=>exact hq
 |outgrown=>exact hq
theorem qsV(hp:xd (b,.cells ty cs) H F)(hs:Mw cs Ob)(hH:Ta C w L H):Ta C w L ((b,.cells ty Ob)::F):=by have h1:=hH.perm hp;refine⟨h1.base,h1.ui,h1.b0,h1.wf,h1.nodup,λp hp=>?_⟩;rcases zc.1 hp with rfl|hp;obtain⟨r1,r2,r3,xs,r4,r5⟩:=h1.uc _ mem_cons_self;exact⟨r1,r2,r3,xs,r4,hs.sJ r5⟩;exact h1.uc p (Pc _ hp)
theorem qu6(hp:xd (b,.cells ty cs) H F):∀ x,x∈keys ((b,ma.cells ty Ob)::F)->x∈keys H:=λx hx=>by have:keys ((b,ma.cells ty Ob)::F)=keys ((b,ma.cells ty cs)::F):=rfl;rw[this] at hx;exact((hp.map (·.1)).mem_iff).2 hx
theorem fb.gy(hp:xd (b,.cells ty cs) H F)(hs:Mw cs Ob)(h:fb C n c Q e ((b,.cells ty Ob)::F)):fb C n c Q e H:=λa w L hE hH=>
 Go.wp_mono (h a w L hE (qsV hp hs hH)) λ_ _ _=>VU (qu6 hp)
theorem Ea.perm{Sa:Array Oper}{da:List Oper}{H':Heap}(s:H.Perm H')(h:Ea C n Sa Q da e H'):Ea C n Sa Q da e H:=Ea.qc ⟨[],by simpa using s⟩ h
end
section
variable{C:Ctx}{e:Env}{H:Heap}{dst:Option Nat}{ty:TypeId}{ra:String}{ua:Array Edge}{g:Option (Nat×Bool)}{x:Operand}
theorem Pure.Ep{t xT:TypeId} [ht:Ye C.P t]{vs:List Value}(hx:e.ev x=.atom (.iface t (.agg vs.toArray))):Pure C ⟨dst,.typeAssert x xT t true,ty,ra,ua,g⟩ e H (.tuple [.agg (vs.map .atom),bool true]):=
 .Wa λρ w L h=>⟨.tuple #[.agg vs.toArray,.bool true],by
  simp only[xb];exact⟨[.agg vs.toArray,.bool true],rfl,by simp only[oa,xb];exact⟨_,_,rfl,⟨vs,rfl,Wp vs⟩,_,_,rfl,rfl,rfl⟩⟩,λw'=>by
  obtain⟨d,hd,hm⟩:=ht.out;have h3:execOp ρ ⟨dst,.typeAssert x xT t true,ty,ra,ua,g⟩=(do Pure.pure (.value (<-Instr.typeAssert (ρ x) xT t true))):=rfl;rw[h3,Zb h hx];simp only[Instr.typeAssert,Ac,ye hd,ad];cases d <;> simp_all⟩
end
theorem nh.three{Sa:Array Oper}{Q:Jc}{HF:Heap}{Aa:Nat}{Ba:Array Bool}{e:Env}{H:Heap}{i j k:Nat}(hr:Region.ready .any Sa Ba=[i,j,k])(h1:db C n Sa Q HF Aa Ba e H i)(h2:db C n Sa Q HF Aa Ba e H j)(h3:db C n Sa Q HF Aa Ba e H k):nh C n Sa Q HF (Aa+1) Ba e H:=
 nh.all hr (by simp) λq hq=>by simp only[zc,List.not_mem_nil,or_false] at hq;rcases hq with rfl|rfl|rfl;exact h1;exact h2;exact h3
theorem zH(l:List (List UInt8)):∀ v∈l.map str,v.cells.length=1:=λv hv=>by obtain⟨x,_,rfl⟩:=Qh hv;rfl
theorem MJ:∀ l:List (List UInt8),((l.map str).flatMap LV.cells).all yq=true
 |[]=>rfl
 |x::l=>by rw[jd,List.flatMap_cons,List.all_append,MJ l];try rfl
end Go.GL
namespace Go.GL
open Go.RowKit
variable{F:Heap}{L:Live}{b bytes qa sT xT:Nat}{el kt t:TypeId}{k l:List UInt8}{lv zl:LV}{mo z:Operand}{v zv:Value}{w:World}
section
variable{C:Ctx}{e:Env}{H:Heap}{dst:Option Nat}{ty:TypeId}{ra:String}{ua:Array Edge}{g:Option (Nat×Bool)}{xT yT:TypeId}{x y:Operand}
end
section
variable{C:Ctx}{e:Env}{H:Heap}{x y:Operand}{dst:Option Nat}{ty:TypeId}{ra:String}{ua:Array Edge}{g:Option (Nat×Bool)}{K:LV->Heap->Prop}{X:List PanicEntry->Heap->Prop}
def Vb(l:List UInt8):List LV:=l.map λb=>int .u8 b.toNat
theorem iA(l:List UInt8):(Vb l).length=l.length:=Db _
theorem EM(l m:List UInt8):Vb (l++m)=Vb l++Vb m:=Je
theorem qmU(l:List UInt8):∀ v∈Vb l,v.cells.length=1:=by intro v hv;obtain⟨b,_,rfl⟩:=Qh hv;rfl
theorem qn7(l:List UInt8):(Vb l).flatMap LV.cells=Vb l:=by
 induction l with
 |nil=>rfl
 |cons b l ih=>have h:Vb (b::l)=int .u8 b.toNat::Vb l:=rfl;rw[h,List.flatMap_cons,ih];try rfl
def xc(l:List UInt8):List Value:=l.map λb=>.int .u8 b.toNat
theorem qnk(l:List UInt8):∀ v∈xc l,(∀ cs,v≠Value.agg cs)/\(∀ cs,v≠Value.tuple cs):=by intro v hv;obtain⟨b,_,rfl⟩:=Qh hv;exact And.intro (λ_ h=>by cases h) (λ_ h=>by cases h)
theorem cZ{P:Program}(l:List UInt8)(w':World):(Builtin.firstCells 1 l.length (.string ⟨l.toArray⟩)).run P w'=.ok (xc l).toArray w':=by have:=Go.Lib.run_firstCells_string (P:=P) w' 1 ⟨l.toArray⟩;rw[uH] at this;rw[this];try rfl
theorem lN{w:World}{L:Live}:∀ {zs xs:List Value},oa w L (zs.map .atom) xs->xs=zs
 |[],_,h=>by simpa only[map_nil,oa] using h
 |z::zs,xs,h=>by simp only[jd,oa] at h;obtain⟨y,ys,rfl,h1,h2⟩:=h;simp only[xb] at h1;rw[h1,lN h2]
inductive bh (el:TypeId):Value->List UInt8->Heap->Prop
 |nil:bh el (.slice none 0 0) [] []
 |row {b:Nat} {l:List UInt8} {xs:List Value} (h0:l≠[]) (h1:l.length<=xs.length) (h2:xs.take l.length=xc l):bh el (.slice (some ⟨b,0,none⟩) l.length xs.length) l [(b,.cells el (xs.map .atom))]
theorem ct(l:List UInt8):(xc l).length=l.length:=Db _
theorem uU(l m:List UInt8):xc (l++m)=xc l++xc m:=Je
theorem SU(hH:Ta C w L []){xs:List Value}(h0:l≠[])(h1:l.length<=xs.length)(h2:xs.take l.length=xc l)(hk:∀ v' H',bh el v' l H'->K (.atom v') H') :
  Left C w L [] (World.push w (.cells xs.toArray el)) (.slice (some ⟨w.heap.size,0,none⟩) l.length xs.length) K:=by
 have hx:=AH hH.wf (.cells xs.toArray el) 0;have:=Uy hH (.cells xs.toArray el) 0 [(w.heap.size,.cells el (xs.map .atom))] (λp hp=>by
  simp only[mem_singleton] at hp;subst hp;exact⟨rfl,by simp[Live.Kc],xs,Fq,Wp xs⟩) (by simp)
 exact⟨.atom _,_,_,this.1,this.2,zd,hk _ _ (bh.row h0 h1 h2)⟩
theorem Ya.I6{el:Nat} [ht:Oa C.P sT el 1] [hr:xh C.P el 1 bytes] [Gd:Um C.P xT]{m:List UInt8}
  (hx:e.ev x=.atom v) (ha:bh el v l H) (hy:e.ev y=str m) (Xa:(l.length+m.length) * bytes<=140737488355328)
  (hk:∀ v' H',bh el v' (l++m) H'->K (.atom v') H'):Ya C ⟨dst,.call { callee:=.builtin .append,args:=#[x,y],argTypes:=#[sT,xT] },ty,ra,ua,g⟩ e H K X:=by
 have h0:∀ (cs:Array Bool) (args:Array Value),builtin .append #[sT,xT] ty cs args=(do Pure.pure (.value (<-Builtin.append_ #[sT,xT] ty args))):=λ_ _=>rfl;have na:∀ w':World,(Builtin.lenOf (.string ⟨m.toArray⟩)).run C.P w'=.ok m.length w':=λw'=>by simp[Builtin.lenOf,uH]
 cases ha with
 |nil=>
  by_cases Fb:m=[];subst Fb;intro ρ w L h hH;have hr:(Builtin.append_ #[sT,xT] ty #[.slice none 0 0,.string ⟨#[]⟩]).run C.P w=.ok (.slice none 0 0) w:=by obtain⟨i,hi,P4⟩:=ht.size;simp[Builtin.append_,ye ht.De,ye Gd.De,sizeOf,typeInfo,hi,Builtin.lenOf,Builtin.firstCells,show(ByteArray.mk #[]).size=0 from rfl,show((ByteArray.mk #[]).extract 0 0).data=#[] from rfl]
  rw[Qr,h0];simp only[map_toArray,jd,map_nil,Ac,Zb h hx,Zb h hy,hr,ad,Yd];exact⟨_,[],L,Fr.refl _ _ _,hH,zd,hk _ _ bh.nil⟩;intro ρ w L h hH;have qz:0<m.length:=List.length_pos_iff.2 Fb;obtain⟨ff,da,r1,r2,r3⟩:=PH (ty:=ty) (P:=C.P) (w:=w) (sT:=sT) (xT:=xT) (a:=none) (len:=0) (cap:=0) (n:=m.length) (xv:=.string ⟨m.toArray⟩) (old:=[]) (new:=xc m) (.inl Gd.De) na (λw' _=>cZ m w')
   (λw' _=>by simp[Builtin.firstCells]) (by simpa using Xa) zo
  rw[Qr,h0];simp only[map_toArray,jd,map_nil,Ac,Zb h hx,Zb h hy,r3,ad,Yd,List.nil_append,zero_add];have Ge:(xc m++da).length=ff:=by rw[Ga,r2,ct];omega
  obtain⟨lv,H',L',g1,g2,g3,g4⟩:=SU (K:=K) (el:=el) (l:=m) (xs:=xc m++da) hH.drew Fb (by rw[Ge];omega) (by rw[take_left' (ct m)]) λv' H' h'=>hk v' H' h';rw[Ge] at g3
  exact⟨lv,H',L',g1.Re,g2,g3,g4⟩
 |row Fb h1 h2=>
  rename_i b xs;intro ρ w L h hH;obtain⟨Le,Of,hl,zs,oz,EK⟩:=hH.uc _ (Mo rfl);have hz:=lN EK;subst hz;simp only at Le Of hl oz;rw[Qr,h0];simp only[map_toArray,jd,map_nil,Ac,Zb h hx,Zb h hy];by_cases hc:l.length+m.length<=zs.length;have Hd:=CV (ty:=ty) (P:=C.P) (w:=w) (sT:=sT) (xT:=xT) (s:=1) (a:=some ⟨b,0,none⟩) (len:=l.length) (cap:=zs.length) (n:=m.length) (xv:=.string ⟨m.toArray⟩) (new:=xc m) (.inl Gd.De) na (λw' _=>cZ m w') hc;obtain⟨w',r1,r2,r3,r4,r5,r6,r7⟩:=kK (P:=C.P) (b:=b) (off:=0+l.length * 1) (t:=el) (fr:=(0,0)) (xc m) 0 w zs oz (by rw[ct];omega) (λj _ _=>by simp) (qnk m);rw[Hd];simp only[Cf,r1,ad,Yd];have Rn:(zs.take (0+l.length * 1+0)++xc m++zs.drop (0+l.length * 1+0+(xc m).length)).length=zs.length:=by simp only[Ga,List.length_take,List.length_drop,ct];omega
  have JC:=sQ (v:=.slice (some ⟨b,0,none⟩) (l.length+m.length) zs.length) (lv:=.atom (.slice (some ⟨b,0,none⟩) (l.length+m.length) zs.length)) (K:=K) (Ob:=(zs.take (0+l.length * 1+0)++xc m++zs.drop (0+l.length * 1+0+(xc m).length)).map .atom) hH r2 r3 r4 r5 r6 r7 (by rw[Rn,Db]) (Wp _) zd (by
   have hb:bh el (.slice (some ⟨b,0,none⟩) (l++m).length (zs.take (0+l.length * 1+0)++xc m++zs.drop (0+l.length * 1+0+(xc m).length)).length) (l++m) _:=bh.row (b:=b) (el:=el) (by simp[Fb]) (by rw[Rn,Ga];exact hc) (by
    have he:0+l.length * 1+0=l.length:=by omega
    rw[he,h2,<-uU,take_left' (ct _)])
   rw[Rn,Ga] at hb;exact hk _ _ hb)
  exact JC;have hold:∀ w':World,w'.heap=w.heap->(Builtin.firstCells 1 l.length (.slice (some ⟨b,0,none⟩) l.length zs.length)).run C.P w'=.ok (xc l).toArray w':=λw' hw=>by
   have:=mN (P:=C.P) (w:=w') (b:=b) (off:=0) l.length 0 #[] (xc l) (ct l) (λj x' hj=>by
    have GC:zs[j]? = some x':=by rw[<-h2,List.getElem?_take] at hj;split at hj;exact hj;cases hj
    simp[World.cell?,hw,oz,GC])
   simp only[Builtin.firstCells,loadCells,mul_one,this];simp
  obtain⟨ff,da,r1,r2,r3⟩:=PH (ty:=ty) (P:=C.P) (w:=w) (sT:=sT) (xT:=xT) (a:=some ⟨b,0,none⟩) (len:=l.length) (cap:=zs.length) (n:=m.length) (xv:=.string ⟨m.toArray⟩) (old:=xc l) (new:=xc m) (.inl Gd.De) na (λw' _=>cZ m w') hold Xa zo;rw[r3];simp only[ad,Yd];have Ge:(xc l++xc m++da).length=ff:=by rw[Ga,Ga,r2,ct,ct];omega
  have YC:Ta C w L []:=hH.sub (nil_sublist _);obtain⟨lv,H',L',g1,g2,g3,g4⟩:=SU (K:=K) (el:=el) (l:=l++m) (xs:=xc l++xc m++da) YC.drew (by simp[Fb]) (by rw[Ge,Ga];omega) (by rw[<-uU,take_left' (ct _)]) λv' H' h'=>hk v' H' h';rw[Ge,Ga] at g3;exact⟨lv,H',L',g1.Re.wide (by simp),g2,g3,g4⟩
theorem S.VS{el:Nat} [ht:Oa C.P sT el 1] [hr:xh C.P el 1 bytes] [Gd:Um C.P xT]{m:List UInt8}{H1:Heap}{q:Nat×ma}
  (hx:e.ev x=.atom v) (ha:bh el v l H1) (hy:e.ev y=str m) (Xa:(l.length+m.length) * bytes<=140737488355328)
  (hk:∀ v' H',bh el v' (l++m) H'->K (.atom v') (q::H')):Ya C ⟨dst,.call { callee:=.builtin .append,args:=#[x,y],argTypes:=#[sT,xT] },ty,ra,ua,g⟩ e (q::H1) K X:=by
 refine Ya.Zc (K:=λlv H'=>∃ v' H2,lv=.atom v'/\H'=H2++[q]/\bh el v' (l++m) H2) (Ya.frame (List.perm_append_singleton _ _).symm (Ya.I6 hx ha hy Xa λv' H' h=>⟨v',H',rfl,rfl,h⟩)) ?_;rintro lv H' ⟨v',H2,rfl,rfl,h⟩;exact⟨_,[q]++H2,vR _,⟨[],by simp⟩,hk _ _ h⟩
end
structure He(es:Array MapEntry)(p:List UInt8->Bool):Prop where
 keys:∀ e∈es.toList,∃ s:List UInt8,e.key=.string ⟨s.toArray⟩/\e.val=.bool true/\p s=true
 all:∀ s,p s=true->∃ e∈es.toList,e.key=.string ⟨s.toArray⟩
theorem He.nil:He #[] λ_=>false:=⟨λe he=>by simp at he,λs h=>by cases h⟩
theorem KH(a b:List UInt8):((⟨a.toArray⟩:ByteArray) == ⟨b.toArray⟩)=decide (a=b):=by show(a.toArray == b.toArray)=_;rw[Bool.eq_iff_iff];simp
theorem LZ(k:List UInt8):∀ (es:List MapEntry) (i:Nat),(∀ e∈es,∃ s:List UInt8,e.key=.string ⟨s.toArray⟩/\e.val=.bool true)->(∃ e∈es,e.key=.string ⟨k.toArray⟩) ->
  ∃ (j:Nat) (e:MapEntry),Instr.findNow .string (.string ⟨k.toArray⟩) es i=some (some (i+j,.bool true))/\es[j]? = some e/\e.key=.string ⟨k.toArray⟩
 |[],_,_,h=>by obtain⟨e,he,_⟩:=h;cases he
 |e::es,i,h,hk=>by
  obtain⟨s,h1,h2⟩:=h e mem_cons_self;by_cases hs:k=s;refine⟨0,e,?_,rfl,by rw[h1,hs]⟩;have hb:((⟨k.toArray⟩:ByteArray) == ⟨s.toArray⟩)=true:=by rw[KH,Nf hs]
  simp only[Instr.findNow,h1,Instr.sameNow,hb,h2,Nat.add_zero];have hb:((⟨k.toArray⟩:ByteArray) == ⟨s.toArray⟩)=false:=by rw[KH,decide_eq_false hs]
  obtain⟨e',Ka,Eo⟩:=hk;have Wf:e'∈es:=by
   rcases zc.1 Ka with rfl|h3;rw[h1] at Eo;have:s=k:=by simpa using Eo
   exact absurd this.symm hs;exact h3
  obtain⟨j,e2,g1,g2,g3⟩:=LZ k es (i+1) (λx hx=>h x (Pc _ hx)) ⟨e',Wf,Eo⟩;refine⟨j+1,e2,?_,g2,g3⟩;simp only[Instr.findNow,h1,Instr.sameNow,hb];rw[g1];congr 3;omega
section
variable{C:Ctx}{e:Env}{H:Heap}{dst:Option Nat}{ty:TypeId}{ra:String}{ua:Array Edge}{g:Option (Nat×Bool)}{K:LV->Heap->Prop}{X:List PanicEntry->Heap->Prop}{x y:Operand}
theorem QH(Ah:C.P.underlying kt=some .string)(b:Bool)(k:ByteArray):(Instr.checkKey b 10000 kt (.string k)).run C.P w=.ok () w:=by have Om:Instr.checkKey b 10000 kt (.string k)=Instr.checkKey b (9999+1) kt (.string k):=rfl;rw[Om,Instr.checkKey];simp only[Ac,ye Ah,ad,Yd]
theorem S.qJ(ht:C.P.underlying t=some (.map kt el))(Ah:C.P.underlying kt=some .string){es:Array MapEntry}{p:List UInt8->Bool}{m:Operand}(hm:e.ev m=.atom (.map (some b)))(hx:e.ev x=str k)(hz:e.ev z=bool true)
  (hp:xd (b,.obj (.map es qa)) H F) (hs:He es p) (hk:∀ Cp Ec,He Cp (λs=>p s || decide (s=k))->K (.atom undef) ((b,.obj (.map Cp Ec))::F)):Ya C ⟨dst,.insert t m x z,ty,ra,ua,g⟩ e H K X:=by
 by_cases Wf:p k=true
 ·refine Ya.mE hp λρ w L h hH=>?_;obtain⟨Le,Of,hl,td,Gd⟩:=hH.uc _ (Mo rfl);simp only at Le Of hl td Gd;have h3:execOp ρ ⟨dst,.insert t m x z,ty,ra,ua,g⟩=(do Instr.mapUpdate t (ρ m) (ρ x) (ρ z);Pure.pure .skip):=rfl;obtain⟨j,e2,g1,g2,g3⟩:=LZ k es.toList 0 (λe he=>by obtain⟨s,h1,h2,_⟩:=hs.keys e he;exact⟨s,h1,h2⟩) (hs.all k Wf)
  have hf:(Instr.findKey kt (.string ⟨k.toArray⟩) es.toList).run C.P w=.ok (some (0+j,.bool true)) w:=by simp only[Instr.findKey,Ac,ye Ah,ad,g1,Yd]
  have hg:(getObj b).run C.P w=.ok (.map es qa) w:=by simp only[getObj,Sem.run,td]
  have VK:es[j]? = some e2:=by simpa using g2
  have Kk:(Instr.keyThatStays (((es[0+j]?).map (·.key)).getD (.string ⟨k.toArray⟩)) (.string ⟨k.toArray⟩)).run C.P w=.ok (.string ⟨k.toArray⟩) w:=by rw[zero_add,VK];simp only[map_some,getD_some,g3];unfold Instr.keyThatStays;rw[zp (by simp only[Instr.sameBits];rw[KH];simp)];try rfl
  rw[h3,Zb h hm,Zb h hx,Zb h hz];simp only[Instr.mapUpdate,Ac,ye ht,ad,hg,QH Ah,hf,Kk];have kG:∀ o',(setObj b o').run C.P w=.ok () (Rh w b o'):=λo'=>vQ td rfl;rw[kG];refine VP (w':=Rh w b _) hH rfl rfl rfl rfl (by simp[Rh]) (λc hc=>aN hc) (VM Of) (λ_=>zd) (hk _ qa ⟨λe' Ka=>?_,λs jI=>?_⟩);rw[zero_add] at Ka;obtain⟨i,hi,rfl⟩:=List.mem_iff_getElem.1 Ka;simp only[Array.length_toList,Array.size_modify] at hi;rw[Array.getElem_toList,Array.getElem_modify];split;exact⟨k,rfl,rfl,by simp⟩;obtain⟨s,h1,h2,h4⟩:=hs.keys es[i] (by simp);exact⟨s,h1,h2,by simp[h4]⟩
  have pn:p s=true:=by rcases Bool.or_eq_true_iff.1 jI with h4|h4;exact h4;rw[zt h4];exact Wf
  obtain⟨e3,h5,h6⟩:=hs.all s pn;obtain⟨i,hi,rfl⟩:=List.mem_iff_getElem.1 h5;simp only[Array.length_toList] at hi;rw[Array.getElem_toList] at h6;rw[zero_add];by_cases fW:j=i;refine⟨{ es[i] with key:=.string ⟨k.toArray⟩,val:=.bool true },?_,?_⟩;rw[List.mem_iff_getElem];refine⟨i,by simpa using hi,?_⟩;rw[Array.getElem_toList,Array.getElem_modify,zp fW];subst fW;rw[Array.getElem?_eq_getElem hi] at VK;obtain rfl:=Option.some.inj VK;rw[g3] at h6;exact h6;refine⟨es[i],?_,h6⟩;rw[List.mem_iff_getElem];refine⟨i,by simpa using hi,?_⟩;rw[Array.getElem_toList,Array.getElem_modify,zn fW]
 refine S.insert ht Ah hm hx hz hp (λe he=>?_) (hk _ _ ⟨λe' Ka=>?_,λs jI=>?_⟩);obtain⟨s,h1,_,h2⟩:=hs.keys e he;refine⟨_,h1,?_⟩;rw[KH];intro h3;rw[zt h3] at Wf;exact Wf h2;rw[Array.toList_push] at Ka;rcases xj Ka with h1|h1;obtain⟨s,h2,h3,h4⟩:=hs.keys e' h1;exact⟨s,h2,h3,by simp[h4]⟩;obtain rfl:=Vi h1;exact⟨k,rfl,rfl,by simp⟩;rw[Array.toList_push];rcases Bool.or_eq_true_iff.1 jI with h4|h4;obtain⟨e,h5,h6⟩:=hs.all s h4;exact⟨e,List.mem_append_left _ h5,h6⟩;exact⟨_,List.mem_append_right _ (Mo rfl),by rw[zt h4]⟩
theorem Pure.vv(ht:C.P.underlying t=some (.map kt el))(Ah:C.P.underlying kt=some .string)(hz:∀ w,(zeroValue el).run C.P w=.ok (.bool false) w){es:Array MapEntry}{p:List UInt8->Bool}(hm:e.ev x=.atom (.map (some b)))(hx:e.ev y=str k)
  (hb:(b,.obj (.map es qa))∈H) (hs:He es p):Pure C ⟨dst,.lookup t x y false,ty,ra,ua,g⟩ e H (bool (p k)):=λρ w L h hH=>by
 obtain⟨_,_,_,td,_⟩:=hH.uc _ hb;simp only at td;refine⟨.bool (p k),zd,λw' ha=>?_⟩;have hw:w'.heap[b]? = some (.map es qa):=(ha.1 _ hb).trans td;have h3:execOp ρ ⟨dst,.lookup t x y false,ty,ra,ua,g⟩=(do Pure.pure (.value (<-Instr.lookup t (ρ x) (ρ y) false))):=rfl;have hg:(getObj b).run C.P w'=.ok (.map es qa) w':=by simp only[getObj,Sem.run,hw]
 rw[h3,Zb h hm,Zb h hx];by_cases Wf:p k=true;obtain⟨j,e2,g1,g2,g3⟩:=LZ k es.toList 0 (λe he=>by obtain⟨s,h1,h2,_⟩:=hs.keys e he;exact⟨s,h1,h2⟩) (hs.all k Wf);have hf:(Instr.findKey kt (.string ⟨k.toArray⟩) es.toList).run C.P w'=.ok (some (0+j,.bool true)) w':=by simp only[Instr.findKey,Ac,ye Ah,ad,g1,Yd]
 simp only[Instr.lookup,Ac,ye ht,ad,hg,Yd,QH Ah,hf,Wf];rfl;have hf:(Instr.findKey kt (.string ⟨k.toArray⟩) es.toList).run C.P w'=.ok none w':=by
  have yR:=M0 ⟨k.toArray⟩ es.toList 0 λe he=>by obtain⟨s,h1,_,h2⟩:=hs.keys e he;refine⟨_,h1,?_⟩;rw[KH];intro h3;rw[zt h3] at Wf;exact Wf h2
  simp only[Instr.findKey,Ac,ye Ah,ad,yR,Yd]
 have Q4:p k=false:=Bool.eq_false_iff.2 Wf;simp only[Instr.lookup,Ac,ye ht,ad,hg,Yd,QH Ah,hf,hz,Q4];rfl
end
section
variable{C:Ctx}{e:Env}{H:Heap}{dst:Option Nat}{ty:TypeId}{ra:String}{ua:Array Edge}{g:Option (Nat×Bool)}{K:LV->Heap->Prop}{X:List PanicEntry->Heap->Prop}{x y:Operand}
theorem Pure.uK(ht:C.P.underlying t=some (.map kt el))(Ah:C.P.underlying kt=some .string)(hz:∀ w,(zeroValue el).run C.P w=.ok (.int .i64 0) w)(hm:e.ev x=.atom (.map none))(hx:e.ev y=str k):Pure C ⟨dst,.lookup t x y false,ty,ra,ua,g⟩ e H (int .i64 0):=λρ w L h hH=>by
 refine⟨.int .i64 0,zd,λw' ha=>?_⟩;have h3:execOp ρ ⟨dst,.lookup t x y false,ty,ra,ua,g⟩=(do Pure.pure (.value (<-Instr.lookup t (ρ x) (ρ y) false))):=rfl;rw[h3,Zb h hm,Zb h hx]
 have hf:(Instr.findKey kt (.string ⟨k.toArray⟩) []).run C.P w'=.ok none w':=by simp only[Instr.findKey,Ac,ye Ah,ad,Instr.findNow,Yd]
 simp only[Instr.lookup,Ac,ye ht,ad,Yd,QH Ah,hf,hz];rfl
end
section
variable{C:Ctx}{e:Env}{H:Heap}{x y:Operand}{dst:Option Nat}{ty:TypeId}{ra:String}{ua:Array Edge}{g:Option (Nat×Bool)}{K:LV->Heap->Prop}{X:List PanicEntry->Heap->Prop}
theorem Ya.US{el:Nat} [ht:Oa C.P sT el 1] [hr:xh C.P el 1 bytes]{e2:Nat} [Gd:Oa C.P xT e2 1]{m:List UInt8}
  (hx:e.ev x=.atom v) (ha:bh el v l H) (hy:GL.elems (e.ev y)=some (Vb m)) (vC:m≠[]) (Xa:(l.length+m.length) * bytes<=140737488355328)
  (hk:∀ v' H',bh el v' (l++m) H'->K (.atom v') H'):Ya C ⟨dst,.call { callee:=.builtin .append,args:=#[x,y],argTypes:=#[sT,xT] },ty,ra,ua,g⟩ e H K X:=by
 have h0:∀ (cs:Array Bool) (args:Array Value),builtin .append #[sT,xT] ty cs args=(do Pure.pure (.value (<-Builtin.append_ #[sT,xT] ty args))):=λ_ _=>rfl
 cases ha with
 |nil=>
  by_cases Fb:m=[];subst Fb;exact absurd rfl vC;intro ρ w L h hH;have qz:0<m.length:=List.length_pos_iff.2 Fb;obtain⟨ay,cy,NW,pz,SQ,bC,ZF,dw⟩:=iK (s:=1) (h y) hy (qmU m);rw[qn7] at bC;have G2:NW=xc m:=lN (zs:=xc m) (by rw[show(xc m).map LV.atom=Vb m from by simp[xc,Vb,map_map,Function.comp_def]];exact bC);subst G2;rw[iA] at pz SQ dw;rw[pz] at dw;have na:∀ w':World,(Builtin.lenOf (.slice ay m.length cy)).run C.P w'=.ok m.length w':=λw'=>by simp[Builtin.lenOf]
  obtain⟨ff,da,r1,r2,r3⟩:=PH (ty:=ty) (P:=C.P) (w:=w) (sT:=sT) (xT:=xT) (a:=none) (len:=0) (cap:=0) (n:=m.length) (xv:=.slice ay m.length cy) (old:=[]) (new:=xc m) (.inr ⟨_,Gd.De⟩) na (λw' hw=>dw C.P w' hw)
   (λw' _=>by simp[Builtin.firstCells]) (by simpa using Xa) zo
  rw[Qr,h0];simp only[map_toArray,jd,map_nil,Ac,Zb h hx,pz,r3,ad,Yd,List.nil_append,zero_add];have Ge:(xc m++da).length=ff:=by rw[Ga,r2,ct];omega
  obtain⟨lv,H',L',g1,g2,g3,g4⟩:=SU (K:=K) (el:=el) (l:=m) (xs:=xc m++da) hH.drew Fb (by rw[Ge];omega) (by rw[take_left' (ct m)]) λv' H' h'=>hk v' H' h';rw[Ge] at g3
  exact⟨lv,H',L',g1.Re,g2,g3,g4⟩
 |row Fb h1 h2=>
  rename_i b xs;intro ρ w L h hH;obtain⟨Le,Of,hl,zs,oz,EK⟩:=hH.uc _ (Mo rfl);have hz:=lN EK;subst hz;simp only at Le Of hl oz;obtain⟨ay,cy,NW,pz,SQ,bC,ZF,dw⟩:=iK (s:=1) (h y) hy (qmU m);rw[qn7] at bC;have G2:NW=xc m:=lN (zs:=xc m) (by rw[show(xc m).map LV.atom=Vb m from by simp[xc,Vb,map_map,Function.comp_def]];exact bC);subst G2;rw[iA] at pz SQ dw;rw[pz] at dw;have na:∀ w':World,(Builtin.lenOf (.slice ay m.length cy)).run C.P w'=.ok m.length w':=λw'=>by simp[Builtin.lenOf]
  rw[Qr,h0];simp only[map_toArray,jd,map_nil,Ac,Zb h hx,pz];by_cases hc:l.length+m.length<=zs.length;have Hd:=CV (ty:=ty) (P:=C.P) (w:=w) (sT:=sT) (xT:=xT) (s:=1) (a:=some ⟨b,0,none⟩) (len:=l.length) (cap:=zs.length) (n:=m.length) (xv:=.slice ay m.length cy) (new:=xc m) (.inr ⟨_,Gd.De⟩) na (λw' hw=>dw C.P w' hw) hc;obtain⟨w',r1,r2,r3,r4,r5,r6,r7⟩:=kK (P:=C.P) (b:=b) (off:=0+l.length * 1) (t:=el) (fr:=(0,0)) (xc m) 0 w zs oz (by rw[ct];omega) (λj _ _=>by simp) (qnk m);rw[Hd];simp only[Cf,r1,ad,Yd];have Rn:(zs.take (0+l.length * 1+0)++xc m++zs.drop (0+l.length * 1+0+(xc m).length)).length=zs.length:=by simp only[Ga,List.length_take,List.length_drop,ct];omega
  have JC:=sQ (v:=.slice (some ⟨b,0,none⟩) (l.length+m.length) zs.length) (lv:=.atom (.slice (some ⟨b,0,none⟩) (l.length+m.length) zs.length)) (K:=K) (Ob:=(zs.take (0+l.length * 1+0)++xc m++zs.drop (0+l.length * 1+0+(xc m).length)).map .atom) hH r2 r3 r4 r5 r6 r7 (by rw[Rn,Db]) (Wp _) zd (by
   have hb:bh el (.slice (some ⟨b,0,none⟩) (l++m).length (zs.take (0+l.length * 1+0)++xc m++zs.drop (0+l.length * 1+0+(xc m).length)).length) (l++m) _:=bh.row (b:=b) (el:=el) (by simp[Fb]) (by rw[Rn,Ga];exact hc) (by
    have he:0+l.length * 1+0=l.length:=by omega
    rw[he,h2,<-uU,take_left' (ct _)])
   rw[Rn,Ga] at hb;exact hk _ _ hb)
  exact JC;have hold:∀ w':World,w'.heap=w.heap->(Builtin.firstCells 1 l.length (.slice (some ⟨b,0,none⟩) l.length zs.length)).run C.P w'=.ok (xc l).toArray w':=λw' hw=>by
   have:=mN (P:=C.P) (w:=w') (b:=b) (off:=0) l.length 0 #[] (xc l) (ct l) (λj x' hj=>by
    have GC:zs[j]? = some x':=by rw[<-h2,List.getElem?_take] at hj;split at hj;exact hj;cases hj
    simp[World.cell?,hw,oz,GC])
   simp only[Builtin.firstCells,loadCells,mul_one,this];simp
  obtain⟨ff,da,r1,r2,r3⟩:=PH (ty:=ty) (P:=C.P) (w:=w) (sT:=sT) (xT:=xT) (a:=some ⟨b,0,none⟩) (len:=l.length) (cap:=zs.length) (n:=m.length) (xv:=.slice ay m.length cy) (old:=xc l) (new:=xc m) (.inr ⟨_,Gd.De⟩) na (λw' hw=>dw C.P w' hw) hold Xa zo;rw[r3];simp only[ad,Yd];have Ge:(xc l++xc m++da).length=ff:=by rw[Ga,Ga,r2,ct,ct];omega
  have YC:Ta C w L []:=hH.sub (nil_sublist _);obtain⟨lv,H',L',g1,g2,g3,g4⟩:=SU (K:=K) (el:=el) (l:=l++m) (xs:=xc l++xc m++da) YC.drew (by simp[Fb]) (by rw[Ge,Ga];omega) (by rw[<-uU,take_left' (ct _)]) λv' H' h'=>hk v' H' h';rw[Ge,Ga] at g3;exact⟨lv,H',L',g1.Re.wide (by simp),g2,g3,g4⟩
theorem S.KL{el:Nat} [ht:Oa C.P sT el 1] [hr:xh C.P el 1 bytes]{e2:Nat} [Gd:Oa C.P xT e2 1]{m:List UInt8}{H1:Heap}{q:Nat×ma}
  (hx:e.ev x=.atom v) (ha:bh el v l H1) (hy:GL.elems (e.ev y)=some (Vb m)) (vC:m≠[]) (Xa:(l.length+m.length) * bytes<=140737488355328)
  (hk:∀ v' H',bh el v' (l++m) H'->K (.atom v') (q::H')):Ya C ⟨dst,.call { callee:=.builtin .append,args:=#[x,y],argTypes:=#[sT,xT] },ty,ra,ua,g⟩ e (q::H1) K X:=by
 refine Ya.Zc (K:=λlv H'=>∃ v' H2,lv=.atom v'/\H'=H2++[q]/\bh el v' (l++m) H2) (Ya.frame (List.perm_append_singleton _ _).symm (Ya.US hx ha hy vC Xa λv' H' h=>⟨v',H',rfl,rfl,h⟩)) ?_;rintro lv H' ⟨v',H2,rfl,rfl,h⟩;exact⟨_,[q]++H2,vR _,⟨[],by simp⟩,hk _ _ h⟩
theorem Pure.D6{t el j6 s:Nat} [Oa C.P t j6 s]{Hv:Heap}(hx:e.ev x=.atom v)(ha:bh el v l Hv):Pure C ⟨dst,.call { callee:=.builtin .len,args:=#[x],argTypes:=#[t] },ty,ra,ua,g⟩ e H (int .i64 l.length):=
 .Wa λρ _ _ h=>⟨_,zd,λw'=>by
  have hu:=ye (P:=C.P) (Oa.De (t:=t)) w';rw[Qr,sV];cases ha <;> simp[Builtin.len_,hu,goInt,Zb h hx]⟩
end
abbrev KV:=List (List UInt8×LV)
variable{m:KV}
@[reducible] def zj(k:List UInt8):Value:=.string ⟨k.toArray⟩
def Pe(m:KV):List (Value×LV):=m.map λp=>(zj p.1,p.2)
def wb:KV->List UInt8->Option LV
 |[],_=>none
 |p::r,k=>if p.1=k then some p.2 else wb r k
def Ic:KV->List UInt8->LV->KV
 |[],k,v=>[(k,v)]
 |p::r,k,v=>if p.1=k then (k,v)::r else p::Ic r k v
theorem Im(k k':List UInt8)(v:LV):∀ m:KV,wb (Ic m k v) k'=if k=k' then some v else wb m k'
 |[]=>by simp only[Ic,wb]
 |p::r=>by unfold Ic;by_cases h:p.1=k;rw[zp h];by_cases h':k=k';simp only[wb,zp h'];simp only[wb,zn h'];rw[zn (by rw[h];exact h')];rw[zn h];simp only[wb];rw[Im k k' v r];by_cases h2:p.1=k';rw[zp h2,zn (by rw[<-h2];exact λh3=>h h3.symm)];simp only[zp h2];simp only[zn h2]
theorem jY(k:List UInt8):∀ (m:KV) (es:List MapEntry) (i:Nat),es.map (·.key)=(Pe m).map (·.1) ->
  (wb m k=none/\(∀ v,Ic m k v=m++[(k,v)])/\Instr.findNow .string (zj k) es i=some none) ∨
  ∃ (j:Nat) (e:MapEntry) (v:LV),Instr.findNow .string (zj k) es i=some (some (i+j,e.val))/\es[j]? = some e/\m[j]? = some (k,v)/\wb m k=some v/\∀ v',Ic m k v'=m.set j (k,v')
 |[],[],i,_=>.inl ⟨rfl,λ_=>rfl,rfl⟩
 |[],_::_,_,h=>by cases h
 |_::_,[],_,h=>by cases h
 |p::m,e::es,i,h=>by
  have h1:e.key=zj p.1:=by have:=(List.cons.inj h).1;exact this
  have h2:es.map (·.key)=(Pe m).map (·.1):=(List.cons.inj h).2;by_cases hs:p.1=k
  ·right;have hb:((⟨k.toArray⟩:ByteArray) == ⟨p.1.toArray⟩)=true:=by rw[KH,Nf hs.symm]
   refine⟨0,e,p.2,?_,rfl,by rw[<-hs];try rfl,by simp only[wb,zp hs],λv'=>by simp only[Ic,zp hs];rfl⟩;simp only[Instr.findNow,h1,Instr.sameNow,hb,Nat.add_zero]
  have hb:((⟨k.toArray⟩:ByteArray) == ⟨p.1.toArray⟩)=false:=by rw[KH,decide_eq_false (λh3=>hs h3.symm)]
  rcases jY k m es (i+1) h2 with⟨g1,g2,g3⟩|⟨j,e2,v,g1,g2,g3,g4,g5⟩;left;refine⟨by simp only[wb,zn hs];exact g1,λv=>by simp only[Ic,zn hs,g2];rfl,?_⟩;simp only[Instr.findNow,h1,Instr.sameNow,hb];exact g3;right;refine⟨j+1,e2,v,?_,g2,g3,by simp only[wb,zn hs];exact g4,λv'=>by simp only[Ic,zn hs,g5];rfl⟩;simp only[Instr.findNow,h1,Instr.sameNow,hb];rw[g1];congr 3;omega
theorem oa.setAt{w:World}{L:Live}:∀ {cs:List LV} {xs:List Value},oa w L cs xs->∀ (j:Nat) {c:LV} {x:Value},xb w L c x->oa w L (cs.set j c) (xs.set j x)
 |[],xs,h,j,c,x,hr=>by simp only[oa] at h;subst h;simp only[List.set_nil,oa]
 |d::cs,xs,h,j,c,x,hr=>by
  simp only[oa] at h;obtain⟨y,ys,rfl,h1,h2⟩:=h;cases j with
  |zero=>simp only[List.set_cons_zero,oa];exact⟨x,ys,rfl,hr,h2⟩
  |succ j=>simp only[List.set_cons_succ,oa];exact⟨y,_,rfl,h1,h2.setAt j hr⟩
section
variable{C:Ctx}{e:Env}{H:Heap}{dst:Option Nat}{ty:TypeId}{ra:String}{ua:Array Edge}{g:Option (Nat×Bool)}{K:LV->Heap->Prop}{X:List PanicEntry->Heap->Prop}{x y:Operand}
theorem qp9{w':World}{L:Live}{Ec:Nat}{es Cp:List (Value×LV)}(hH:Ta C w L [(b,.map es qa)])(h1:w'.os=w.os)(h2:w'.tape=w.tape)(h3:w'.output=w.output)
  (h4:w'.heap.size=w.heap.size) (h5:∀ c,c≠b->w'.heap[c]? = w.heap[c]?) (Mc:List MapEntry) (h6:w'.heap[b]? = some (.map Mc.toArray Ec)) (h7:Mc.map (·.key)=Cp.map (·.1)) (h8:oa w L (Cp.map (·.2)) (Mc.map (·.val)))
  (h9:∀ e∈Mc,e.born<Ec) (Yx:(Mc.map (·.born)).Nodup) {v:Value} {lv:LV} (hv:∀ L,xb w' L lv v) (hk:K lv [(b,.map Cp Ec)]):Left C w L [(b,.map es qa)] w' v K:=by
 obtain⟨Le,Of,hl,xs,td,_⟩:=hH.uc _ (Mo rfl);simp only at Le Of hl td;have hx:Ext w L w' L:=by
  refine⟨by rw[h4];exact Jb _,λc hc=>?_,λc i hi=>?_,λ_=>Jb _⟩
  by_cases he:c=b;subst he;rw[jN td rfl];exact jN h6 rfl;exact BF (h5 c he);exact uE
 refine⟨lv,[(b,.map Cp Ec)],L,⟨h1,h2,h3,hx,λc hc hn=>h5 c (by simpa using hn),λ_ _ _=>rfl,λp hp=>.inl (by simp only[mem_singleton] at hp;subst hp;simp)⟩,
  ⟨?_,hH.ui,by rw[h4];exact hH.b0,by rw[h4];exact hH.wf,by simp,λp hp=>?_⟩,hv L,hk⟩
 exact hH.base.trans ⟨h1,h2,h3,by rw[h4];exact Jb _,λc hc=>h5 c zo⟩;simp only[mem_singleton] at hp;subst hp;exact⟨Le,by rw[h4];exact Of,hl,Mc,h6,h7,oa.mono hx _ _ h8,h9,Yx⟩
theorem S.Al(hk:∀ b,K (.atom (.map (some b))) ((b,.map (Pe []) 0)::H)):Ya C ⟨dst,.makeMap t none,ty,ra,ua,g⟩ e H K X:=by
 refine Ya.Iz λρ w L _ hH=>?_;have h3:execOp ρ ⟨dst,.makeMap t none,ty,ra,ua,g⟩=(do Pure.pure (.value (<-Instr.makeMap t none))):=rfl;have h4:(Instr.makeMap t none).run C.P w=.ok (.map (some w.heap.size)) (World.push w (.map #[] 0)):=rfl;rw[h3,Ac,h4]
 have:=Uy hH (.map #[] 0) 0 [(w.heap.size,.map (Pe []) 0)] (λp hp=>by
  simp only[mem_singleton] at hp;subst hp;refine⟨rfl,by simp[Live.Kc],[],Fq,rfl,?_,(λe he=>by cases he),List.nodup_nil⟩;show oa _ _ [] [];simp only[oa]) (by simp)
 exact⟨_,_,_,this.1,this.2,zd,hk _⟩
theorem S.Ic{t kt el:TypeId}(ht:C.P.underlying t=some (.map kt el))(Ah:C.P.underlying kt=some .string){b qa:Nat}{m:KV}{F:Heap}{mo z:Operand}{k:List UInt8}{lv:LV}(hm:e.ev mo=.atom (.map (some b)))(hx:e.ev x=str k)(hz:e.ev z=lv)
  (hp:xd (b,.map (Pe m) qa) H F) (hk:∀ Ec,K (.atom undef) ((b,.map (Pe (GL.Ic m k lv)) Ec)::F)):Ya C ⟨dst,.mapUpdate t mo x z,ty,ra,ua,g⟩ e H K X:=by
 refine Ya.mE hp λρ w L h hH=>?_;obtain⟨Le,Of,hl,Mc,td,Gd,bG,IV,hx5⟩:=hH.uc _ (Mo rfl);simp only at Le Of hl td Gd bG;have Lx:xb w L lv (ρ z):=hz▸h z;have h3:execOp ρ ⟨dst,.mapUpdate t mo x z,ty,ra,ua,g⟩=(do Instr.mapUpdate t (ρ mo) (ρ x) (ρ z);Pure.pure .skip):=rfl;have hg:(getObj b).run C.P w=.ok (.map Mc.toArray qa) w:=by simp only[getObj,Sem.run,td]
 have kG:∀ o',(setObj b o').run C.P w=.ok () (Rh w b o'):=λo'=>vQ td rfl;rw[h3,Zb h hm,Zb h hx];rcases jY k m Mc 0 Gd with⟨g1,g2,g3⟩|⟨j,e2,v,g1,g2,g3,g4,g5⟩
 ·have hf:(Instr.findKey kt (zj k) Mc.toArray.toList).run C.P w=.ok none w:=by
   simp only[Instr.findKey,Ac,ye Ah,ad,g3,Yd]
  simp only[Instr.mapUpdate,Ac,ye ht,ad,hg,QH Ah,hf];rw[kG];refine qp9 (w':=Rh w b _) hH rfl rfl rfl (by simp[Rh]) (λc hc=>aN hc) (Mc++[⟨zj k,ρ z,qa⟩]) (Ec:=qa+1) ((VM Of).trans (by simp)) (Cp:=Pe (GL.Ic m k lv)) ?_ ?_ ?_ ?_ (λ_=>zd) (hk _)
  ·rw[g2,Pe,Je,Je,Je,<-Pe,Gd]
   try rfl
  rw[g2,Pe,Je,Je,Je,<-Pe];refine oa.append bG ?_;simp only[jd,map_nil,oa];exact⟨_,_,rfl,Lx,rfl⟩;intro e' Ka;rcases xj Ka with h1|h1;exact Nat.lt_succ_of_lt (IV e' h1);obtain rfl:=Vi h1;exact Nat.lt_succ_self _;rw[Je,List.nodup_append];refine⟨hx5,by simp,λa ha b' fS he=>?_⟩;obtain⟨e',h1,rfl⟩:=Qh ha;simp only[jd,map_nil,mem_singleton] at fS;have:=IV e' h1;omega
 have hf:(Instr.findKey kt (zj k) Mc.toArray.toList).run C.P w=.ok (some (0+j,e2.val)) w:=by simp only[Instr.findKey,Ac,ye Ah,ad,g1,Yd]
 have DC:e2.key=zj k:=by
  have h1:(Mc.map (·.key))[j]? = some e2.key:=by rw[List.getElem?_map,g2];try rfl
  rw[Gd,Pe,map_map,List.getElem?_map,g3] at h1;exact(Option.some.inj h1).symm
 have Kk:(Instr.keyThatStays (((Mc.toArray[0+j]?).map (·.key)).getD (zj k)) (zj k)).run C.P w=.ok (zj k) w:=by rw[zero_add,List.getElem?_toArray,g2];simp only[map_some,getD_some,DC];unfold Instr.keyThatStays;rw[zp (by simp only[Instr.sameBits];rw[KH];simp)];try rfl
 simp only[Instr.mapUpdate,Ac,ye ht,ad,hg,QH Ah,hf,Kk];rw[kG];have B4:Mc.toArray.modify (0+j) (λe=>{ e with key:=zj k,val:=ρ z })=(Mc.set j { e2 with key:=zj k,val:=ρ z }).toArray:=by
  rw[zero_add];apply Array.ext';simp only[Array.toList_modify];refine List.ext_getElem? λi=>?_;rw[List.getElem?_modify,List.getElem?_set]
  by_cases hi:j=i;subst hi;have Ja:j<Mc.length:=(List.getElem?_eq_some_iff.1 g2).1;rw[zp rfl,g2,zp Ja];show some _=_;simp;rw[zn hi];cases Mc[i]? with
  |none=>rfl
  |some a=>show some _=_;simp[hi]
 refine qp9 (w':=Rh w b _) hH rfl rfl rfl (by simp[Rh]) (λc hc=>aN hc) (Mc.set j { e2 with key:=zj k,val:=ρ z }) ((VM Of).trans (by rw[B4])) (Cp:=Pe (GL.Ic m k lv)) ?_ ?_ ?_ ?_ (λ_=>zd) (hk _)
 ·rw[g5,Pe,map_set,map_set,map_set,Gd]
  try rfl
 rw[g5,Pe,map_set,map_set,map_set];exact oa.setAt bG j Lx;intro e' Ka;rcases List.mem_or_eq_of_mem_set Ka with h1|h1;exact IV e' h1;rw[h1];exact IV e2 (List.mem_of_getElem? g2);rw[map_set];have:(Mc.map (·.born)).set j e2.born=Mc.map (·.born):=by
  refine List.ext_getElem? λi=>?_;rw[List.getElem?_set];split
  ·rename_i h1
   subst h1;split
   ·rw[List.getElem?_map,g2];try rfl
   rename_i h2;rw[List.getElem?_eq_none zo]
  rfl
 rw[this];exact hx5
theorem R9(ht:C.P.underlying t=some (.map kt el))(Ah:C.P.underlying kt=some .string)(hz:∀ w,(zeroValue el).run C.P w=.ok zv w)(xN:∀ w L,xb w L zl zv)
  (hH:Ta C w L H) (hb:(b,.map (Pe m) qa)∈H):∃ v,xb w L ((wb m k).getD zl) v/\∀ w',uq w L H w'->∀ c,(Instr.lookup t (.map (some b)) (zj k) c).run C.P w'=.ok (if c=true then .tuple #[v,.bool (wb m k).isSome] else v) w':=by
 obtain⟨_,_,_,Mc,td,Gd,bG,_⟩:=hH.uc _ hb;simp only at td;rcases jY k m Mc 0 Gd with⟨g1,g2,g3⟩|⟨j,e2,v,g1,g2,g3,g4,g5⟩;refine⟨zv,by rw[g1];exact xN w L,λw' ha c=>?_⟩;have hw:w'.heap[b]? = some (.map Mc.toArray qa):=(ha.1 _ hb).trans td;have hg:(getObj b).run C.P w'=.ok (.map Mc.toArray qa) w':=by simp only[getObj,Sem.run,hw]
 have hf:(Instr.findKey kt (zj k) Mc.toArray.toList).run C.P w'=.ok none w':=by simp only[Instr.findKey,Ac,ye Ah,ad,g3,Yd]
 simp only[Instr.lookup,Ac,ye ht,ad,hg,Yd,QH Ah,hf,hz,g1];rfl;refine⟨e2.val,?_,λw' ha c=>?_⟩
 ·rw[g4];obtain⟨x,h1,h2⟩:=bG.get (i:=j) (c:=v) (by rw[Pe,map_map,List.getElem?_map,g3];try rfl);rw[List.getElem?_map,g2] at h1;obtain rfl:=Option.some.inj h1;exact h2
 have hw:w'.heap[b]? = some (.map Mc.toArray qa):=(ha.1 _ hb).trans td;have hg:(getObj b).run C.P w'=.ok (.map Mc.toArray qa) w':=by simp only[getObj,Sem.run,hw]
 have hf:(Instr.findKey kt (zj k) Mc.toArray.toList).run C.P w'=.ok (some (0+j,e2.val)) w':=by simp only[Instr.findKey,Ac,ye Ah,ad,g1,Yd]
 simp only[Instr.lookup,Ac,ye ht,ad,hg,Yd,QH Ah,hf,g4];rfl
theorem Pure.wb{t kt el:TypeId}(ht:C.P.underlying t=some (.map kt el))(Ah:C.P.underlying kt=some .string){zv:Value}{zl:LV}(hz:∀ w,(zeroValue el).run C.P w=.ok zv w)(xN:∀ w L,xb w L zl zv){b qa:Nat}{m:KV}{k:List UInt8}(hm:e.ev x=.atom (.map (some b)))(hx:e.ev y=str k)
  (hb:(b,.map (Pe m) qa)∈H):Pure C ⟨dst,.lookup t x y false,ty,ra,ua,g⟩ e H ((GL.wb m k).getD zl):=λρ w L h hH=>by
 obtain⟨v,h1,h2⟩:=R9 ht Ah hz xN (k:=k) hH hb;refine⟨v,h1,λw' ha=>?_⟩;have h3:execOp ρ ⟨dst,.lookup t x y false,ty,ra,ua,g⟩=(do Pure.pure (.value (<-Instr.lookup t (ρ x) (ρ y) false))):=rfl;rw[h3,Zb h hm,Zb h hx,Ac,h2 w' ha false]
 try rfl
theorem Pure.VB(ht:C.P.underlying t=some (.map kt el))(Ah:C.P.underlying kt=some .string)(hz:∀ w,(zeroValue el).run C.P w=.ok zv w)(xN:∀ w L,xb w L zl zv)(hm:e.ev x=.atom (.map (some b)))(hx:e.ev y=str k)
  (hb:(b,.map (Pe m) qa)∈H):Pure C ⟨dst,.lookup t x y true,ty,ra,ua,g⟩ e H (.tuple [(GL.wb m k).getD zl,bool (GL.wb m k).isSome]):=λρ w L h hH=>by
 obtain⟨v,h1,h2⟩:=R9 ht Ah hz xN (k:=k) hH hb;refine⟨.tuple #[v,.bool (GL.wb m k).isSome],?_,λw' ha=>?_⟩;simp only[xb];refine⟨[v,.bool (GL.wb m k).isSome],rfl,?_⟩;simp only[oa];exact⟨_,_,rfl,h1,_,_,rfl,rfl,rfl⟩;have h3:execOp ρ ⟨dst,.lookup t x y true,ty,ra,ua,g⟩=(do Pure.pure (.value (<-Instr.lookup t (ρ x) (ρ y) true))):=rfl;rw[h3,Zb h hm,Zb h hx,Ac,h2 w' ha true]
 try rfl
end
class jo (P:Program) (t:TypeId) (el:outParam TypeId) (zv:outParam Value) (zl:outParam LV):Prop where
 De:∃ kt,P.underlying t=some (.map kt el)/\P.underlying kt=some .string
 zero:∀ w,(zeroValue el).run P w=.ok zv w
 rep:∀ w L,xb w L zl zv
theorem qwJ(w:World)(L:Live)(zs:List Value):xb w L (.agg (zs.map .atom)) (.agg zs.toArray):=by simp only[xb];exact⟨zs,rfl,Wp zs⟩
section
variable{C:Ctx}{e:Env}{H:Heap}{dst:Option Nat}{ty:TypeId}{ra:String}{ua:Array Edge}{g:Option (Nat×Bool)}{K:LV->Heap->Prop}{X:List PanicEntry->Heap->Prop}{x y:Operand}
theorem Pure.WH [h:jo C.P t el zv zl](hm:e.ev x=.atom (.map (some b)))(hx:e.ev y=str k)(hb:(b,.map (Pe m) qa)∈H)(hg:GL.wb m k=some lv) :
  Pure C ⟨dst,.lookup t x y false,ty,ra,ua,g⟩ e H lv:=by
 obtain⟨kt,h1,h2⟩:=h.De;have:=Pure.wb (dst:=dst) (ty:=ty) (ra:=ra) (ua:=ua) (g:=g) h1 h2 h.zero h.rep hm hx hb;rwa [hg] at this
theorem Pure.BK [h:jo C.P t el zv zl](hm:e.ev x=.atom (.map (some b)))(hx:e.ev y=str k)(hb:(b,.map (Pe m) qa)∈H)(hg:GL.wb m k=none) :
  Pure C ⟨dst,.lookup t x y false,ty,ra,ua,g⟩ e H zl:=by
 obtain⟨kt,h1,h2⟩:=h.De;have:=Pure.wb (dst:=dst) (ty:=ty) (ra:=ra) (ua:=ua) (g:=g) h1 h2 h.zero h.rep hm hx hb;rwa [hg] at this
theorem Pure.Yv [h:jo C.P t el zv zl](hm:e.ev x=.atom (.map (some b)))(hx:e.ev y=str k)(hb:(b,.map (Pe m) qa)∈H)(hg:GL.wb m k=some lv) :
  Pure C ⟨dst,.lookup t x y true,ty,ra,ua,g⟩ e H (.tuple [lv,bool true]):=by
 obtain⟨kt,h1,h2⟩:=h.De;have:=Pure.VB (dst:=dst) (ty:=ty) (ra:=ra) (ua:=ua) (g:=g) h1 h2 h.zero h.rep hm hx hb;rwa [hg] at this
theorem Pure.Yr [h:jo C.P t el zv zl](hm:e.ev x=.atom (.map (some b)))(hx:e.ev y=str k)(hb:(b,.map (Pe m) qa)∈H)(hg:GL.wb m k=none) :
  Pure C ⟨dst,.lookup t x y true,ty,ra,ua,g⟩ e H (.tuple [zl,bool false]):=by
 obtain⟨kt,h1,h2⟩:=h.De;have:=Pure.VB (dst:=dst) (ty:=ty) (ra:=ra) (ua:=ua) (g:=g) h1 h2 h.zero h.rep hm hx hb;rwa [hg] at this
theorem S.mn [h:jo C.P t el zv zl](hm:e.ev mo=.atom (.map (some b)))(hx:e.ev x=str k)(hz:e.ev z=lv)
  (hp:xd (b,.map (Pe m) qa) H F) (hk:∀ Ec,K (.atom undef) ((b,.map (Pe (GL.Ic m k lv)) Ec)::F)):Ya C ⟨dst,.mapUpdate t mo x z,ty,ra,ua,g⟩ e H K X:=by
 obtain⟨kt,h1,h2⟩:=h.De;exact S.Ic h1 h2 hm hx hz hp hk
theorem S.NQ [h:jo C.P t el zv zl](hm:e.ev mo=.atom (.map (some b)))(hx:e.ev x=str k)(hz:e.ev z=lv)
  (hp:xd (b,.map (Pe m) qa) H F) (hk:∀ Ec,K (.atom undef) ((b,.map (Pe (GL.Ic m k lv)) Ec)::F)):Ya C ⟨dst,.insert t mo x z,ty,ra,ua,g⟩ e H K X:=
 λρ w L h1 h2=>(S.mn (dst:=dst) (ty:=ty) (ra:=ra) (ua:=ua) (g:=g) (X:=X) hm hx hz hp hk) ρ w L h1 h2
theorem S.Ed [h:jo C.P t el zv zl](m':KV)(hm:e.ev mo=.atom (.map (some b)))(hx:e.ev x=str k)(hz:e.ev z=lv)
  (hp:xd (b,.map (Pe m) qa) H F) (he:GL.Ic m k lv=m') (hk:∀ Ec,K (.atom undef) ((b,.map (Pe m') Ec)::F)):Ya C ⟨dst,.insert t mo x z,ty,ra,ua,g⟩ e H K X:=
 S.NQ hm hx hz hp (he▸hk)
theorem NT{k:List UInt8}{v:LV}:∀ {m:KV},k ∉ m.map (·.1)->GL.Ic m k v=m++[(k,v)]
 |[],_=>rfl
 |p::r,h=>by
  rw[GL.Ic,zn (λhe=>h (by rw[jd];exact zc.2 (.inl he.symm))),NT (λhm=>h (by rw[jd];exact Pc _ hm))]
  try rfl
end
variable{C:Ctx}{dst:Option Nat}{ty:TypeId}{ra:String}{ua:Array Edge}{g:Option (Nat×Bool)}{e:Env}{H:Heap}{K:LV->Heap->Prop}{X:List PanicEntry->Heap->Prop}
theorem S.uv(ht:C.P.underlying t=some (.map kt el))(Ah:C.P.underlying kt=some .string){es:Array MapEntry}{p:List UInt8->Bool}{m:Operand}{x:Operand}(hm:e.ev m=.atom (.map (some b)))(hx:e.ev x=str k)(hz:e.ev z=bool true)
  (hp:xd (b,.obj (.map es qa)) H F) (hs:He es p) (hk:∀ Cp Ec,He Cp (λs=>p s || decide (s=k))->K (.atom undef) ((b,.obj (.map Cp Ec))::F)):Ya C ⟨dst,.mapUpdate t m x z,ty,ra,ua,g⟩ e H K X:=
 λρ w L h hH=>(S.qJ (dst:=dst) (ty:=ty) (ra:=ra) (ua:=ua) (g:=g) (X:=X) ht Ah hm hx hz hp hs hk) ρ w L h hH
theorem qvL{P:Program}{fn:Func}{r s t q:ResultVar}(h:fn.results=#[r,s,t,q]){tmps:Array Value}{u x y:Value}(h1:(Bm tmps r).run P w=.ok v w)(h2:(Bm tmps s).run P w=.ok u w)(h3:(Bm tmps t).run P w=.ok x w)(h4:(Bm tmps q).run P w=.ok y w) :
  (results fn tmps).run P w=.ok (.tuple #[v,u,x,y]) w:=by
 have:results fn tmps=(do let v <-Bm tmps r;let u <-Bm tmps s;let x <-Bm tmps t;let y <-Bm tmps q;Pure.pure (.tuple #[v,u,x,y])):=by cases r <;> cases s <;> cases t <;> cases q <;> simp[results,h,Bm]
 rw[this,uF h1,uF h2,uF h3,uF h4];try rfl
theorem qor{C:Ctx}{n:Nat}{fn:Func}{e:Env}{H:Heap}{a:Act}(hE:yc n a e w L)(hH:Ta C w L H){vs:List LV}
  (h:Dm C n e H fn.results.toList vs) (h3:fn.results.size=4):∃ v,(results fn a.tmps).run C.P w=.ok v w/\xb w L (Dh vs) v:=by
 obtain⟨rs,aq⟩:∃ rs,fn.results=List.toArray rs:=⟨fn.results.toList,by simp⟩;rw[aq] at h h3;simp only[List.size_toArray] at h h3;match rs,vs,h,h3,aq with
 |[r,s,t,q],[x,y,z,o],h,_,aq=>obtain⟨v1,g1,r1⟩:=h.1 a w L hE hH;obtain⟨v2,g2,r2⟩:=h.2.1 a w L hE hH;obtain⟨v3,g3,r3⟩:=h.2.2.1 a w L hE hH;obtain⟨v4,g4,r4⟩:=h.2.2.2.1 a w L hE hH;exact⟨_,qvL aq g1 g2 g3 g4,by simp only[Dh,xb];exact⟨[v1,v2,v3,v4],rfl,by simp only[oa];exact⟨v1,_,rfl,r1,v2,_,rfl,r2,v3,_,rfl,r3,v4,_,rfl,r4,rfl⟩⟩⟩
 |[_,_,_,_],[],h,_,_=>exact h.elim
 |[_,_,_,_],[_],h,_,_=>exact h.2.elim
 |[_,_,_,_],[_,_],h,_,_=>exact h.2.2.elim
 |[_,_,_,_],[_,_,_],h,_,_=>exact h.2.2.2.elim
 |[_,_,_,_],_::_::_::_::_::_,h,_,_=>exact h.2.2.2.2.elim
theorem ca.YB{C:Ctx}{f:FuncId}{fn:Func}{c:Code}{n:Nat}{args:List LV}{H:Heap}{R:Ie->Heap->Prop}(hf:C.P.funcs[f]? = some fn)(hb:fn.body=some c)(hn:fn.ntmps=n)(h3:Nat.beq fn.results.size 4=true)
  (hl:Nat.ble args.length n=true) (h:fb C n c (Kd C n fn.results.toList R) (vH args) H):ca C f args H R:=λvs w L hv hH=>by
 subst hn;have Rx:args.length<=fn.ntmps:=by simpa using hl
 have Hs:fn.results.size=4:=Nat.eq_of_beq_eq_true h3;have na:=hv.length;refine calls_of_wp hf hb (Go.wp_mono (h _ w L ⟨?_,rfl,λi=>?_⟩ hH) λex a' w' hq=>?_)
 simp;omega;exact nO;obtain⟨e',H',L',g1,g2,g3,g4⟩:=hq;have ret:yc fn.ntmps a' e' w' L'->(e'.ds=[]/\∃ vs Bh,Dm C fn.ntmps e' H' fn.results.toList vs/\HSub Bh H'/\R (.ret (Dh vs)) Bh) ->
   a'.defers=[]/\∃ v,(results fn a'.tmps).run C.P w'=.ok v w'/\kA C w L H (λv=>R (.ret v)) (λch=>R (.panic ch)) (.returned v) w':=λhE hr=>by
  obtain⟨h1,wD,Bh,h2,h4,h5⟩:=hr;obtain⟨v,r1,r2⟩:=qor hE g2 h2 Hs;exact⟨hE.ds.trans h1,v,r1,Dh wD,Bh,L',g1.qc h4,g2.qc h4,r2,h5⟩
 cases ex with
 |normal=>exact ret g3 g4
 |ret=>exact ret g3 g4
 |panic ch=>obtain⟨h1,Bh,h4,h5⟩:=g4;exact⟨g3.trans h1,Bh,L',g1.qc h4,g2.qc h4,h5⟩
 |exit id=>exact g4.elim
 |goto id=>exact g4.elim
 |outgrown=>exact g4.elim
end Go.GL
