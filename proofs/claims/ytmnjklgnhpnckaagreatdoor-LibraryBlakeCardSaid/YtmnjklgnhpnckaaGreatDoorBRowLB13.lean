import Derived.Test.YtmnjklgnhpnckaaGreatDoorBRowLB12
set_option linter.unusedVariables false
set_option linter.unusedSimpArgs false
set_option maxRecDepth 100000
set_option maxHeartbeats 4000000
open List (mem_append_right cons_append take_succ_eq_append_getElem take_length getElem_mem sum_cons length_take map_map length_reverse)
open Nat (lt_succ_self zero_le)
namespace Go.Proofs.YtmnjklgnhpnckaaGreatDoor.bN
open Go.GL Go.RowKit Go.ea
open Go.Lib (decDigits itoa join)
variable{A F H1:Heap}{yg:Array TypeId}{zc:List LV}{c:CC}{env:gb}{f:FuncId}{i m:Nat}{op own:Nm}
structure TB where
 tb:Nat
 sm:Nat
 am:Nat
 S:KV
 A:KV
 g1:Nat
 g2:Nat
 sc:Nat
def Aj(k:TB)(own:Nm)(ws:List Wd)(n:Nat)(H:Heap):Prop:=∃ v Hv,GL.Acc 1 v (ws.map str) Hv []/\H=(k.tb,.cells 121 [v,int .i64 (n:Nat),int .i64 (k.sc:Nat),.atom (.map (some k.sm)),.atom (.map (some k.am)),str own])::(k.sm,.map (ye k.S) k.g1)::(k.am,.map (ye k.A) k.g2)::Hv
def Zx(P:Heap->Prop):re->Heap->Prop:=λr H=>r=.ret (.tuple [])/\P H
def fG(s:List UInt8)(P:Heap->Prop):re->Heap->Prop:=λr H=>r=.ret (str s)/\P H
structure Rr(k:TB)(c:CC)(own:Nm):Prop where
 sc:∀ name,∃ a:Nat,a<=1000000000/\c.sc name=decDigits a/\((∃ v,GL.db k.S (own++[46]++name)=some v/\v=int .i64 (a:Nat))∨(GL.db k.S (own++[46]++name)=none/\(GL.db k.S name).getD (int .i64 0)=int .i64 (a:Nat)))
 ar:∀ name,∃ a:Nat,a<=1000000000/\c.ar name=decDigits a/\(GL.db k.A name).getD (int .i64 0)=int .i64 (a:Nat)
 t0:c.t0=decDigits k.sc
 t1:c.t1=decDigits (k.sc+1)
 t2:c.t2=decDigits (k.sc+2)
 small:k.sc<=1000000000
 own:own.length<=1000000
theorem bQ{x y z:Nat×ga}:(x::y::z::A).Perm (A++[x,y,z]):=Nh (l₁:=[x,y,z])
theorem Te{x:Nat×ga}:(x::A).Perm (A++[x]):=(List.perm_append_singleton _ _).symm
theorem Mw{x y:Nat×ga}:(x::y::A).Perm (A++[x,y]):=Nh (l₁:=[x,y])
theorem GI:A.Perm (A++[]):=by rw[Jd]
theorem kp{x:Nat×ga}:HSub A (x::A):=Gg Ya
theorem kG{x y:Nat×ga}:HSub A (x::y::A):=Gg (Gg Ya)
theorem SW{x:Nat×ga}:HSub [x] (x::A):=Pb pH Vc
theorem jG{x y:Nat×ga}:HSub [x,y] (x::y::A):=Pb pH Xc
theorem qpL{x:Nat×ga}:HSub (x::A) (A++[x]):=⟨[],by rw[Jd];exact Te.symm⟩
theorem qq2{x y:Nat×ga}:HSub (x::y::A) (A++[x,y]):=⟨[],by rw[Jd];exact Mw.symm⟩
theorem qt1(h:m<4294967296):IntKind.u64.wrap (m:Int)=m:=by simp only[IntKind.wrap,IntKind.bits,IntKind.signed,Di];simp;omega
section
variable{C:Ctx}{e:Env}{H:Heap}{dst:Option Nat}{ty:TypeId}{pos:String}{ka:Array Edge}{g:Option (Nat×Bool)}{K:LV->Heap->Prop}{X:List PanicEntry->Heap->Prop}
theorem Je{f:FuncId} [Gb C.P f](args:List Operand){P:Heap->Prop}(has:args.map e.ev=zc)(hp:H.Perm (H1++F))(hc:ca C f zc H1 (Zx P))(hk:∀ H',P H'->K (.tuple []) (F++H')) :
  Ra C ⟨dst,.call { callee:=.value (.func f),args:=args.toArray,argTypes:=yg },ty,pos,ka,g⟩ e H K X:=
 Ra.Oc (K:=λlv ph=>∃ H',ph=H'++F/\P H'/\lv=.tuple []) (S.Ec args has hp hc (by rintro v H' ⟨h,h2⟩;cases h;exact⟨H',rfl,h2,rfl⟩) (by rintro ch H' ⟨h,_⟩;cases h))
  (by rintro lv ph ⟨H',rfl,hP,rfl⟩;exact⟨_,F++H',vR _,⟨[],by rw[Jd];exact Nh⟩,hk H' hP⟩)
theorem Pure.LJ{t el:TypeId}{zv:Value}{zl lv:LV} [h:On C.P t el zv zl]{x y:Operand}{b clock:Nat}{m:KV}{s:List UInt8}(hm:e.ev x=.atom (.map (some b)))(hx:e.ev y=str s)(hb:(b,.map (ye m) clock)∈H)(hg:(GL.db m s).getD zl=lv) :
  GL.Pure C ⟨dst,.lookup t x y false,ty,pos,ka,g⟩ e H lv:=by
 obtain⟨kt,h1,h2⟩:=h.De;exact hg▸GL.Pure.db h1 h2 h.zero h.rep hm hx hb
theorem S.qj{f:FuncId} [Gb C.P f](args:List Operand){P:Heap->Prop}{s:List UInt8}(has:args.map e.ev=zc)(hp:H.Perm (H1++F))(hc:ca C f zc H1 (fG s P))(hk:∀ H',P H'->K (str s) (F++H')) :
  Ra C ⟨dst,.call { callee:=.value (.func f),args:=args.toArray,argTypes:=yg },ty,pos,ka,g⟩ e H K X:=
 Ra.Oc (K:=λlv ph=>∃ H',ph=H'++F/\P H'/\lv=str s) (S.Ec args has hp hc (by rintro v H' ⟨h,h2⟩;cases h;exact⟨H',rfl,h2,rfl⟩) (by rintro ch H' ⟨h,_⟩;cases h))
  (by rintro lv ph ⟨H',rfl,hP,rfl⟩;exact⟨_,F++H',vR _,⟨[],by rw[Jd];exact Nh⟩,hk H' hP⟩)
theorem S.Lr{fo:Operand} [Gb C.P f]{first Ua:Array Value}(args:List Operand){P:Heap->Prop}(hf:e.ev fo=.atom (.func (.func f) first Ua))
  (has:first.toList.map .atom++args.map e.ev++Ua.toList.map .atom=zc) (hp:H.Perm (H1++F)) (hc:ca C f zc H1 (Zx P)) (hk:∀ H',P H'->K (.tuple []) (F++H')) :
  Ra C ⟨dst,.call { callee:=.value fo,args:=args.toArray,argTypes:=yg },ty,pos,ka,g⟩ e H K X:=
 Ra.Oc (K:=λlv ph=>∃ H',ph=H'++F/\P H'/\lv=.tuple []) (S.yl args hf has hp hc (by rintro v H' ⟨h,h2⟩;cases h;exact⟨H',rfl,h2,rfl⟩) (by rintro ch H' ⟨h,_⟩;cases h))
  (by rintro lv ph ⟨H',rfl,hP,rfl⟩;exact⟨_,F++H',vR _,⟨[],by rw[Jd];exact Nh⟩,hk H' hP⟩)
end
attribute [local irreducible] wa Qa Ra ca Go.GL.Pure Ud xe od LQ Eb Tf Rh LS
section
variable{B0:Nat}{w0:World}{k:TB}{own:Nm}{c:CC}{ws:List Wd}{n:Nat}{H:Heap}
theorem Ai(h:Aj k own ws n H)(W:List Wd){a:LV}(ha:GL.elems a=some (W.map str))(hr:ws.length+W.length<=1000000000):ca (KC B0 w0) 89 [ptr k.tb 0,a] H (Zx (Aj k own (ws++W) n)):=by obtain⟨v,Hv,kb,rfl⟩:=h;have h1:(ws.map str).length=ws.length:=ab _;have h2:(W.map str).length=W.length:=ab _;refine Xa Tryz.func89 rfl (n:=13) rfl rfl rfl ?_;refine oa ?_;refine ia (pL (c:=v) rfl Bb rfl)<|ia (pM (lv:=a) rfl)<|oS (sG bQ rfl kb ha (JG W) (XI W) zo λv' H' qb=>?_);refine qa ?_;refine oS (sS (Ab:=[v',int .i64 (n:Nat),int .i64 (k.sc:Nat),.atom (.map (some k.sm)),.atom (.map (some k.am)),str own]) rfl pH (Acc.cell qb).1 rfl rfl (Acc.cell qb).2 rfl ?_);refine Qc ?_;exact rO rfl rN Ya ⟨rfl,v',H',by rw[Lf];exact qb,rfl⟩
theorem TU(hG:GW B0 w0)(h:Aj k own ws n H)(hn:n<=1000000000000):ca (KC B0 w0) 205 [ptr k.tb 0] H (fG (na n) (Aj k own ws (n+1))):=by
 obtain⟨v,Hv,kb,rfl⟩:=h;have hd:(Go.Lib.decDigits n).length<=20:=by rw[Go.Lib.decDigits_length];exact Se (XU 12 n zo) da
 refine Xa Tryz.func205 rfl (n:=18) rfl rfl rfl ?_;refine oa ?_;refine oS (sF [_] rfl (TG hG n zo) ?_);refine ja ?_;first|(refine oS (sS (Ab:=[_,_,_,_,_,_]) rfl pH rfl rfl rfl rfl rfl ?_))|skip
 refine oa ?_;exact rR rfl (Oa rfl) Ya ⟨rfl,v,Hv,kb,rfl⟩
theorem gM(hG:GW B0 w0)(hk:Rr k c own)(h:Aj k own ws n H)(name:List UInt8)(hn:name.length<=1000000):ca (KC B0 w0) 91 [ptr k.tb 0,str name] H (fG (c.sc name) (Aj k own ws n)):=by obtain⟨a,Oz,sq,dw⟩:=hk.sc name;have ho:=hk.own;have h0:=h;obtain⟨v,Hv,kb,rfl⟩:=h;rw[sq];refine Xa Tryz.func91 rfl (n:=32) rfl rfl rfl ?_;refine Ln ?_;refine Aq ?_;rcases dw with⟨v3,WE,rfl⟩|⟨WE,hv4⟩;refine qP (Pure.Lv rfl rfl xf WE) rfl ?_;refine ja ?_;refine Ca (λhc=>?_) λhc=>?_;refine Bd ?_;refine oS (sF [_] rfl (TG hG a zo) ?_);refine qa ?_;exact rR rfl (Oa rfl) Ya ⟨rfl,h0⟩;cases hc;refine qP (Pure.jr rfl rfl xf WE) rfl ?_;refine ja ?_;refine Ca (λhc=>?_) λhc=>?_;cases hc;refine oa ?_;refine ia (Pure.LJ rfl rfl xf hv4)<|oS (sF [_] rfl (TG hG a zo) ?_);refine Qc ?_;exact rR rfl (Oa rfl) Ya ⟨rfl,h0⟩
theorem gV(hG:GW B0 w0)(hk:Rr k c own)(h:Aj k own ws n H)(i:Nat)(hi:i<=2):ca (KC B0 w0) 90 [ptr k.tb 0,int .i64 (i:Nat)] H (fG (decDigits (k.sc+i)) (Aj k own ws n)):=by have h0:=h;obtain⟨v,Hv,kb,rfl⟩:=h;have hs:=hk.small;have e1:int .i64 ((k.sc:Int)+(i:Int))=int .i64 ((k.sc+i:Nat):Int):=lh zo;refine Xa Tryz.func90 rfl (n:=12) rfl rfl rfl ?_;refine oa ?_;refine oS (sF [_] (by show [_]=_;exact congrArg (λx=>[x]) e1) (TG hG (k.sc+i) zo) ?_);refine Qc ?_;exact rR rfl (Oa rfl) Ya ⟨rfl,h0⟩
theorem qiU(hG:GW B0 w0)(hk:Rr k c own)(h:Aj k own ws n H)(hr:ws.length+(Kl c).length<=1000000000):ca (KC B0 w0) 234 [ptr k.tb 0] H (Zx (Aj k own (ws++Kl c) n)):=by have e:Kl c=[c.t2,[33],c.t1,[33],c.t2,[64],c.t1,[64],[60]]:=rfl;rw[e] at hr ⊢;rw[hk.t1,hk.t2];rw[hk.t1,hk.t2] at hr;refine Xa Tryz.func234 rfl (n:=15) rfl rfl rfl ?_;refine Bd ?_;refine oS (S.qj (F:=[]) [_,_] rfl GI (gV hG hk h 1 da) λH1 h1=>?_);refine qa ?_;refine oS (S.qj (H1:=H1) (F:=[]) [_,_] rfl GI (gV hG hk h1 2 da) λH2 h2=>?_);refine Pj ?_;refine oS (sL [_,_,_,_,_,_,_,_,_] rfl (bt [_,_,_,_,_,_,_,_,_]) rfl rfl rfl<|oS (Je (H1:=H2) (F:=[]) [_,_] rfl GI (Ai h2 [_,_,_,_,_,_,_,_,_] rfl hr) λH3 h3=>?_));refine Qc ?_;exact rO rfl rN Ya ⟨rfl,h3⟩
end
structure xq(env:gb):Prop where
 sc:∀ s,Vr env s=0->s.length<=24
 fn:∀ k∈env.funcs,k.name.length<=24
theorem xq.call(h:xq env){name:Nm}(hc:yc env name m=0):name.length<=24:=by
 unfold yc at hc;split at hc;rename_i e;rw[e];decide;split at hc;rename_i e;rw[e];decide;unfold gb.fn at hc;cases hf:env.funcs.find? λf=>decide (f.name=name) with
 |none=>rw[hf] at hc;simp only at hc;split at hc <;> cases hc
 |some k=>have e:k.name=name:=zt (List.find?_some (p:=λg:Nd=>decide (g.name=name)) hf);rw[<-e];exact h.fn k (List.mem_of_find?_eq_some hf)
section
variable{C:Ctx}{e:Env}{H:Heap}{dst:Option Nat}{ty:TypeId}{pos:String}{ka:Array Edge}{g:Option (Nat×Bool)}{K:LV->Heap->Prop}{X:List PanicEntry->Heap->Prop}
theorem Ra.zx{f:FuncId} [Gb C.P f](args:List Operand){P:Heap->Prop}(has:args.map e.ev=zc)(hc:ca C f zc H (Zx P))(hk:∀ H',P H'->K (.tuple []) H') :
  Ra C ⟨dst,.call { callee:=.value (.func f),args:=args.toArray,argTypes:=yg },ty,pos,ka,g⟩ e H K X:=
 Ra.Oc (Je (F:=[]) (K:=λlv H'=>K lv H') (X:=X) args has (by rw[Jd]) hc λH' h=>hk H' h) λlv H' h=>⟨lv,H',vR _,Tb _,h⟩
end
variable{B0:Nat}{w0:World}
abbrev WM(b:Nat)(op:Nm)(num:Nat)(name:Nm)(args:List Ex):Nat×ga:=(b,.cells 220 [str op,int .u32 (num:Int),str name,.list (args.map eb)])
def II(B0:Nat)(w0:World)(k:TB)(own:Nm)(c:CC)(env:gb)(m:Nat):Prop:=∀ (x:Ex) (ws:List Wd) (n:Nat) (H:Heap),Zk x<=m->vi x->bf env x=0->Aj k own ws n H->ws.length+(Cb c x).length<=1000000000->ca (KC B0 w0) 158 [ptr k.tb 0,eb x] H (Zx (Aj k own (ws++Cb c x) n))
theorem rY{k:TB}(ih:II B0 w0 k own c env m)(l:List Ex)(ws:List Wd)(n:Nat)(H:Heap)(hm:Fb l<=m)(hl:l.length<=2000000)(Vb:lk l)(he:Sf env l=0)(h:Aj k own ws n H)(hr:ws.length+(xb c l).flatten.length<=1000000000) :
  ca (KC B0 w0) 203 [ptr k.tb 0,.list (l.map eb)] H (Zx (Aj k own (ws++(xb c l).flatten) n)):=by
 have ug:(l.map eb).length=l.length:=ab _;refine Xa Tryz.func203 rfl (n:=16) rfl rfl rfl ?_;refine ja ?_;refine oL (λkk ls H'=>∃ (pre l1:List Ex) (Em:List Wd),l=pre++l1/\kk=l1.length/\ls=[(0,ptr k.tb 0),(6,.list (l.map eb)),(7,int .i64 ((l.map eb).length:Int)),(8,int .i64 (pre.length:Int))]/\Aj k own Em n H'/\Em++(xb c l1).flatten=ws++(xb c l).flatten/\Sf env l1=0/\lk l1)
  ⟨l.length,_,_,⟨[],l,ws,rfl,rfl,rfl,h,rfl,he,Vb⟩,jb,Tb _⟩ ?_
 rintro kk ls H' ⟨pre,l1,Em,Mb,rfl,rfl,hT,hW,mi,Kz⟩ j hj;have Qm:pre.length<=2000000:=by have:=congrArg List.length Mb;rw[ya] at this;omega
 refine wg ?_;refine Ca (λhc=>?_) λhc=>?_;have hlen:=zt hc;rw[ab,Mb,ya] at hlen
 obtain⟨a,l2,rfl⟩:∃ a l2,l1=a::l2:=by
  cases l1 with
  |nil=>simp at hlen
  |cons a l2=>exact⟨a,l2,rfl⟩
 have JB:Zk a<=Fb l:=sY (by rw[Mb];exact mem_append_right _ Ce);rw[Sf] at mi;rw[lk] at Kz;rw[xb,List.flatten_cons,<-Pc] at hW;obtain⟨h1,h2⟩:=Dc.1 mi;have Ml:=congrArg List.length hW;rw[ya,ya,ya] at Ml;refine Zi ?_;refine ia (xR (ve:=eb a) (cs:=[_,_,_,_]) rfl rfl zo (by rw[Mb];exact Ti.xd eb pre a l2) rfl rfl)<|Ga ?_;refine oS (Rc λb8=>?_);refine ja ?_;refine oS (Je (H1:=H') (F:=[_]) [_,_] rfl Te (ih a Em n H' zo Kz.1 h1 hT zo) λH2 yR=>?_);refine rl ?_;exact⟨l2.length,_,_,lt_succ_self _,⟨pre++[a],l2,Em++Cb c a,by rw[Mb];simp,rfl,rfl,yR,hW,h2,Kz.2⟩,⟨rfl,rfl,rfl,lh (by simp),trivial⟩,kp,hj⟩;have hlen:=zf hc;rw[ab,Mb,ya] at hlen
 obtain rfl:l1=[]:=by
  cases l1 with
  |nil=>rfl
  |cons a l2=>simp at hlen;omega
 rw[xb,List.flatten_nil,Jd] at hW;refine qa ?_;exact rO hj rN Ya ⟨rfl,by rw[<-hW];exact hT⟩
theorem qn3{k:TB}(ih:II B0 w0 k own c env m)(b2 b3:Nat)(op:Nm)(num:Nat)(name:Nm)(x y:Ex)(ws:List Wd)(n:Nat)(H:Heap)(hx:Zk x<=m)(hy:Zk y<=m)(nx:vi x)(ny:vi y)(ex:bf env x=0)(ey:bf env y=0)(h:Aj k own ws n H)
  (A B:List Wd) {a b:LV} (ha:GL.elems a=some (A.map str)) (hb:GL.elems b=some (B.map str)) (hr:ws.length+(A++Cb c x++B++Cb c y).length<=1000000000) :
  ca (KC B0 w0) 233 [a,b,ptr b2 0,ptr b3 0] ((b2,.cells 118 [ptr k.tb 0])::WM b3 op num name [x,y]::H)
   (Zx λH'=>∃ H2,H'=(b2,.cells 118 [ptr k.tb 0])::WM b3 op num name [x,y]::H2/\Aj k own (ws++(A++Cb c x++B++Cb c y)) n H2):=by
 simp only[ya] at hr;refine Xa Tryz.func233 rfl (n:=24) rfl rfl rfl ?_;refine oa ?_;refine ia (pM (lv:=a) rfl)<|oS (Je (H1:=H) (F:=[_,_]) [_,_] rfl Mw (Ai h A ha zo) λH2 h2=>?_);refine qa ?_;refine EN ?_;refine Eb.take (i:=3) jG rfl zk zk zk rfl (xR (ve:=eb x) (cs:=[_,_,_,_]) rfl rfl da rfl rfl rfl)<|aT 4 rfl rfl (pR (Ab:=[_,_,_,_]) rfl rfl rfl)<|aL ?_ jG;refine lO 5 (lS (H1:=H2) (F:=[_,_]) rfl (.inl rfl) rfl Mw Ya (Ra.zx [_,_] rfl (ih x _ n H2 hx nx ex h2 (by rw[ya];omega)) λH3 h3=>?_));refine Xm ?_;refine cW qq2 ?_;refine oa ?_;refine ia (pM (lv:=b) rfl)<|oS (Je (H1:=H3) (F:=[_,_]) [_,_] rfl Mw (Ai h3 B hb (by simp only[ya];omega)) λH4 h4=>?_);refine Qc ?_;refine EN ?_;refine Eb.take (i:=3) jG rfl zk zk zk rfl (xR (ve:=eb y) (cs:=[_,_,_,_]) rfl rfl da rfl rfl rfl)<|aT 4 rfl rfl (pR (Ab:=[_,_,_,_]) rfl rfl rfl)<|aL ?_ jG;refine lO 5 (lS (H1:=H4) (F:=[_,_]) rfl (.inl rfl) rfl Mw Ya (Ra.zx [_,_] rfl (ih y _ n H4 hy ny ey h4 (by simp only[ya];omega)) λH5 h5=>?_));refine lD zk ?_
 exact rO rfl rN qq2 ⟨rfl,H5,rfl,by
  simp only[Pc] at h5 ⊢;exact h5⟩
theorem ZT(c:CC):xb c []=[]:=by rw[xb]
theorem GP(c:CC)(x:Ex)(l:List Ex):xb c (x::l)=Cb c x::xb c l:=by rw[xb]
theorem qyC{env:gb}{name:Nm}{args:List Ex}(h:Qf op = -1∨Qf op=args.length)(ho:Qf op=1):∃ x,args=[x]:=by
 have:args.length=1:=by omega
 exact Hu this
theorem qwB{args:List Ex}(h:Qf op = -1∨Qf op=args.length)(ho:Qf op=2):∃ x y,args=[x,y]:=by
 have h2:args.length=2:=by omega
 match args,h2 with
 |[x,y],_=>exact⟨x,y,rfl⟩
def yk(c:CC)(op:Nm):List Wd:=if op=[62] then Kl c else if op=[60,61] then Kl c++[[49],[94]] else if op=[62,61] then [[60],[49],[94]] else if op=[61,61] then [[94],[49],[60]] else [op]
def Qx(c:CC)(op:Nm)(X Y:List Wd):List Wd:=
 if op=[33,61] then [[48]]++X++[]++Y++[[94],[60]]
 else if op=[38,38] then [[48]]++X++[[60],[48]]++Y++[[60],[42]]
 else if op=[124,124] then [[48],[48]]++X++[[60],[48]]++Y++[[60],[43],[60]]
 else []++X++[]++Y++yk c op
theorem qx7(c:CC)(num:Nat)(name:Nm)(x y:Ex)(h1:op≠We)(h2:op≠Bf)(h3:op≠ij)(h4:op≠Of)(h5:op≠tg)(h6:op≠Uf):Cb c (.mk op num name [x,y])=Qx c op (Cb c x) (Cb c y):=by rw[Cb,GP,GP,ZT];unfold jq Qx yk;rw[zn h1,zn h2,zn h3,zn h4,zn h5,zn h6];simp only[List.headD_cons,List.drop_one,List.tail_cons,List.nil_append,Jd,Pc,cons_append,List.singleton_append]
theorem AZ(hG:GW B0 w0){k:TB}(hk:Rr k c own)(ih:II B0 w0 k own c env m)(op:Nm)(num:Nat)(name:Nm)(x y:Ex)(ws:List Wd)(n:Nat)(H:Heap)(hx:Zk x<=m)(hy:Zk y<=m)(nx:vi x)(ny:vi y)(ex:bf env x=0)(ey:bf env y=0)(h:Aj k own ws n H)
  (hr:ws.length+(Qx c op (Cb c x) (Cb c y)).length<=1000000000) :
  ca (KC B0 w0) 204 [ptr k.tb 0,eb (.mk op num name [x,y])] H (Zx (Aj k own (ws++Qx c op (Cb c x) (Cb c y)) n)):=by
 rw[BA];generalize hW:Qx c op (Cb c x) (Cb c y)=W at hr ⊢;unfold Qx at hW;refine Xa Tryz.func204 rfl (n:=64) rfl rfl rfl ?_;refine Xd ?_;refine oS (sB rfl λb2=>oS (sB rfl λb3=>?_));refine wa.Zb (H':=(b2,.cells 118 [ptr k.tb 0])::WM b3 op num name [x,y]::H) ⟨[],by rw[Jd];exact Vp _ _ _⟩ ?_;refine ja ?_;have PV:=λ(A B:List Wd) {a b:LV} (ha:GL.elems a=some (A.map str)) (hb:GL.elems b=some (B.map str)) hr=>qn3 (B0:=B0) (w0:=w0) ih b2 b3 op num name x y ws n H hx hy nx ny ex ey h A B ha hb hr
 by_cases h1:op=[33,61];rw[zp h1] at hW;refine oC rfl (λ_=>?_) λhc=>absurd h1 (zf hc);refine Bd ?_;refine Rl ?_;refine oS (S.Lr (f:=233) (F:=[]) [_,_] rfl rfl GI (PV [[48]] [] rfl rfl (by rw[<-hW] at hr;simp only[ya] at hr ⊢;omega)) ?_);rintro H1 ⟨H2,rfl,h2⟩;refine oa ?_;refine yq ?_;refine oS (Je (H1:=H2) (F:=[_,_]) [_,_] rfl Mw (Ai h2 [[94],[60]] rfl (by rw[<-hW] at hr;simp only[ya] at hr ⊢;omega)) λH3 h3=>?_);refine qa ?_;exact rR rfl rN kG ⟨rfl,by rw[<-hW];simp only[Pc] at h3 ⊢;exact h3⟩;rw[zn h1] at hW;refine oC rfl (λhc=>absurd (zt hc) h1) λ_=>?_;refine Am ?_
 by_cases h2:op=[38,38];rw[zp h2] at hW;refine oC rfl (λ_=>?_) λhc=>absurd h2 (zf hc);refine Bd ?_;refine Rl ?_;refine yq ?_;refine oS (S.Lr (f:=233) (F:=[]) [_,_] rfl rfl GI (PV [[48]] [[60],[48]] rfl rfl (by rw[<-hW] at hr;simp only[ya] at hr ⊢;omega)) ?_);rintro H1 ⟨H2,rfl,h2⟩;refine oa ?_;refine yq ?_;refine oS (Je (H1:=H2) (F:=[_,_]) [_,_] rfl Mw (Ai h2 [[60],[42]] rfl (by rw[<-hW] at hr;simp only[ya] at hr ⊢;omega)) λH3 h3=>?_);refine qa ?_;exact rR rfl rN kG ⟨rfl,by rw[<-hW];simp only[Pc] at h3 ⊢;exact h3⟩;rw[zn h2] at hW;refine oC rfl (λhc=>absurd (zt hc) h2) λ_=>?_;refine Am ?_
 by_cases h3:op=[124,124];rw[zp h3] at hW;refine oC rfl (λ_=>?_) λhc=>absurd h3 (zf hc);refine Bd ?_;refine yq ?_;refine yq ?_;refine oS (S.Lr (f:=233) (F:=[]) [_,_] rfl rfl GI (PV [[48],[48]] [[60],[48]] rfl rfl (by rw[<-hW] at hr;simp only[ya] at hr ⊢;omega)) ?_);rintro H1 ⟨H2,rfl,h2⟩;refine kI ?_;refine oS (Je (H1:=H2) (F:=[_,_]) [_,_] rfl Mw (Ai h2 [[60],[43],[60]] rfl (by rw[<-hW] at hr;simp only[ya] at hr ⊢;omega)) λH3 h3=>?_);refine qa ?_;exact rR rfl rN kG ⟨rfl,by rw[<-hW];simp only[Pc] at h3 ⊢;exact h3⟩;rw[zn h3] at hW;refine oC rfl (λhc=>absurd (zt hc) h3) λ_=>?_;refine oa ?_;refine oS (S.Lr (f:=233) (F:=[]) [_,_] rfl rfl GI (PV [] [] rfl rfl (by rw[<-hW] at hr;simp only[ya] at hr ⊢;omega)) ?_);rintro H1 ⟨H2,rfl,h2⟩;generalize hX:ws++([]++Cb c x++[]++Cb c y)=wx at h2;have Vt:wx++yk c op=ws++W:=by rw[<-hW,<-hX];simp only[Pc]
 have Ml:=congrArg List.length Vt;rw[ya,ya] at Ml;unfold yk at Vt Ml;refine ja ?_;by_cases g1:op=[62];rw[zp g1] at Vt Ml;refine oC rfl (λ_=>?_) λhc=>absurd g1 (zf hc);refine oa ?_;refine oS (Je (H1:=H2) (F:=[_,_]) [_] rfl Mw (qiU hG hk h2 zo) λH3 h3=>?_);refine qa ?_;exact rO rfl rN kG ⟨rfl,by rw[<-Vt];exact h3⟩;rw[zn g1] at Vt Ml;refine oC rfl (λhc=>absurd (zt hc) g1) λ_=>?_;refine Am ?_
 by_cases g2:op=[60,61];rw[zp g2] at Vt Ml;rw[ya] at Ml;refine oC rfl (λ_=>?_) λhc=>absurd g2 (zf hc);refine oa ?_;refine oS (Je (H1:=H2) (F:=[_,_]) [_] rfl Mw (qiU hG hk h2 zo) λH3 h3=>?_);refine oa ?_;refine yq ?_;refine oS (Je (H1:=H3) (F:=[_,_]) [_,_] rfl Mw (Ai h3 [[49],[94]] rfl (by rw[ya];omega)) λH4 h4=>?_);refine qa ?_;exact rO rfl rN kG ⟨rfl,by rw[<-Vt,<-Pc];exact h4⟩;rw[zn g2] at Vt Ml;refine oC rfl (λhc=>absurd (zt hc) g2) λ_=>?_;refine Am ?_
 by_cases g3:op=[62,61];rw[zp g3] at Vt Ml;refine oC rfl (λ_=>?_) λhc=>absurd g3 (zf hc);refine kI ?_;refine oS (Je (H1:=H2) (F:=[_,_]) [_,_] rfl Mw (Ai h2 [[60],[49],[94]] rfl zo) λH3 h3=>?_);refine qa ?_;exact rO rfl rN kG ⟨rfl,by rw[<-Vt];exact h3⟩;rw[zn g3] at Vt Ml;refine oC rfl (λhc=>absurd (zt hc) g3) λ_=>?_;refine Am ?_
 by_cases g4:op=[61,61];rw[zp g4] at Vt Ml;refine oC rfl (λ_=>?_) λhc=>absurd g4 (zf hc);refine kI ?_;refine oS (Je (H1:=H2) (F:=[_,_]) [_,_] rfl Mw (Ai h2 [[94],[49],[60]] rfl zo) λH3 h3=>?_);refine qa ?_;exact rO rfl rN kG ⟨rfl,by rw[<-Vt];exact h3⟩;rw[zn g4] at Vt Ml;refine oC rfl (λhc=>absurd (zt hc) g4) λ_=>?_;refine ja ?_;refine Rl ?_;refine oS (Je (H1:=H2) (F:=[_,_]) [_,_] rfl Mw (Ai h2 [op] rfl zo) λH3 h3=>?_);refine qa ?_;exact rO rfl rN kG ⟨rfl,by rw[<-Vt];exact h3⟩
theorem iJ(hG:GW B0 w0){k:TB}{own:Nm}{c:CC}(hk:Rr k c own){env:gb}(hE:xq env):∀ m:Nat,m<=2000000->II B0 w0 k own c env m
 |0,_=>λx ws n H h=>by have:=NT x;omega
 |m+1,hm6=>by
  have ih:=iJ hG hk hE m zo;intro x ws n H dh Vb ll h hr;obtain⟨op,num,name,args⟩:=x;rw[Zk] at dh;rw[vi] at Vb;obtain⟨Vb,WC⟩:=Vb;have LB:=WL args;have ug:(args.map eb).length=args.length:=ab _;rw[bf] at ll;by_cases Lc:Qf op = -1∨Qf op=args.length;rotate_left;rw[zn Lc] at ll;cases ll;rw[zp Lc] at ll;obtain⟨mi,Mz⟩:=Dc.1 ll;have hW:Cb c (Ex.mk op num name args)=jq c op num name (xb c args):=by rw[Cb]
  have Ry:Qf op=1->∃ x,args=[x]:=λh1=>qyC (env:=env) (name:=name) Lc h1;rw[BA];refine Xa Tryz.func158 rfl (n:=98) rfl rfl rfl ?_;refine Xd ?_;refine oS (sB rfl λb3=>?_);refine oa ?_
  by_cases h1:op=[110,117,109];have MB:Cb c (Ex.mk op num name args)=[decDigits num]:=by rw[hW];subst h1;rfl
  rw[MB] at hr ⊢;refine oC rfl (λ_=>?_) λhc=>absurd h1 (zf hc);refine ja ?_;refine oS (sF [_,_] (by show [int .u64 (IntKind.u64.wrap (num:Int)),_]=[int .u64 (num:Nat),int .i64 10];rw[qt1 Vb];rfl) (fe hG num (by have:num<4294967296:=Vb;omega)) ?_);refine Rl ?_;refine oS (Je (H1:=H) (F:=[_]) [_,_] rfl Te (Ai h [decDigits num] rfl hr) λH2 h2=>?_);refine qa ?_;exact rO rfl rN kp ⟨rfl,h2⟩;refine oC rfl (λhc=>absurd (zt hc) h1) λ_=>?_;refine Am ?_
  by_cases h2:op=[118,97,114];have MB:Cb c (Ex.mk op num name args)=[c.sc name,[64]]:=by rw[hW];subst h2;rfl
  have XJ:Vr env name=0:=by rw[<-Mz];subst h2;rfl
  have nq:=hE.sc name XJ;rw[MB] at hr ⊢;refine oC rfl (λ_=>?_) λhc=>absurd h2 (zf hc);refine oa ?_;refine oS (S.qj (H1:=H) (F:=[_]) [_,_] rfl Te (gM hG hk h name zo) λH2 h2=>?_);refine yq ?_;refine oS (Je (H1:=H2) (F:=[_]) [_,_] rfl Te (Ai h2 [c.sc name,[64]] rfl hr) λH3 h3=>?_);refine qa ?_;exact rO rfl rN kp ⟨rfl,h3⟩;refine oC rfl (λhc=>absurd (zt hc) h2) λ_=>?_;refine Am ?_
  by_cases h3:op=[101,108,101,109];obtain⟨x,rfl⟩:=Ry (by subst h3;rfl);have MB:Cb c (Ex.mk op num name [x])=[c.ar name]++(Cb c x++[[43],[64]]):=by rw[hW,GP,ZT];subst h3;rfl
  rw[MB] at hr ⊢;simp only[ya,Ba,dc] at hr;rw[Sf] at mi;rw[lk] at WC;rw[Fb] at dh;have hex:=(Dc.1 mi).1;obtain⟨a,Oz,sq,dw⟩:=hk.ar name;refine oC rfl (λ_=>?_) λhc=>absurd h3 (zf hc);refine qa ?_;have h0:=h;obtain⟨v,Hv,kb,rfl⟩:=h;refine bj (m:=11) rfl [WM b3 op num name [x]] ?_;refine nI ?_;refine aL ?_ Xc;refine lO 4 (lH rfl rfl (pL (c:=.atom _) rfl xf rfl) ?_);refine lO 7 (lH rfl rfl (Pure.LJ rfl rfl dN dw) ?_);refine lO 8 (lS (H1:=[]) rfl (.inl rfl) rfl Kb Xc (sF [_] rfl (TG hG a zo) ?_));rw[<-sq];refine lO 9 (lS (H1:=[]) rfl (.inl rfl) rfl Kb Xc (sL [_] rfl (bt [_]) rfl rfl rfl ?_));refine lO 10 (lS (F:=[WM b3 op num name [x]]) rfl (.inl rfl) rfl Te Ya (Ra.zx [_,_] rfl (Ai h0 [c.ar name] rfl (by simp only[Ba,dc];omega)) λH2 h2=>?_));refine Xm ?_;refine cW qpL ?_;refine Lu ?_;refine oS (Je (H1:=H2) (F:=[_]) [_,_] rfl Te (ih x _ n H2 zo WC.1 hex h2 (by simp only[ya,Ba,dc];omega)) λH3 h3=>?_);refine Xh ?_;refine yq ?_;refine oS (Je (H1:=H3) (F:=[_]) [_,_] rfl Te (Ai h3 [[43],[64]] rfl (by simp only[ya,Ba,dc];omega)) λH4 h4=>?_);refine qa ?_;exact rO rfl rN kp ⟨rfl,by rw[Pc,Pc] at h4;exact h4⟩;refine oC rfl (λhc=>absurd (zt hc) h3) λ_=>?_;refine Am ?_
  by_cases h4:op=[99,97,108,108];have oe:yc env name args.length=0:=by rw[<-Mz];subst h4;rfl
  have nq:=hE.call oe;have MB:Cb c (Ex.mk op num name args)=(xb c args).flatten++(if name=[105,110] then [[44]] else if name=[111,117,116] then [[46],[48]] else [[38,102,95]++name,[58]]):=by rw[hW];subst h4;rfl
  rw[MB] at hr ⊢;rw[ya] at hr;refine oC rfl (λ_=>?_) λhc=>absurd h4 (zf hc);refine ja ?_;refine oS (Je (H1:=H) (F:=[_]) [_,_] rfl Te (rY ih args ws n H zo zo WC mi h zo) λH2 h2=>?_);rw[<-Pc];generalize hX:ws++(xb c args).flatten=wx at h2 ⊢;have yB:=congrArg List.length hX;rw[ya] at yB;refine oa ?_
  by_cases g1:name=[105,110];rw[zp g1] at hr ⊢;refine oC rfl (λ_=>?_) λhc=>absurd g1 (zf hc);refine Bd ?_;refine Rl ?_;refine oS (Je (H1:=H2) (F:=[_]) [_,_] rfl Te (Ai h2 [[44]] rfl zo) λH3 h3=>?_);refine qa ?_;exact rO rfl rN kp ⟨rfl,h3⟩;rw[zn g1] at hr ⊢;refine oC rfl (λhc=>absurd (zt hc) g1) λ_=>?_;refine Am ?_
  by_cases g2:name=[111,117,116];rw[zp g2] at hr ⊢;refine oC rfl (λ_=>?_) λhc=>absurd g2 (zf hc);refine Bd ?_;refine yq ?_;refine oS (Je (H1:=H2) (F:=[_]) [_,_] rfl Te (Ai h2 [[46],[48]] rfl zo) λH3 h3=>?_);refine qa ?_;exact rO rfl rN kp ⟨rfl,h3⟩;rw[zn g2] at hr ⊢;refine oC rfl (λhc=>absurd (zt hc) g2) λ_=>?_;refine ja ?_;refine yq ?_;refine oS (Je (H1:=H2) (F:=[_]) [_,_] rfl Te (Ai h2 [[38,102,95]++name,[58]] rfl zo) λH3 h3=>?_);refine qa ?_;exact rO rfl rN kp ⟨rfl,h3⟩;refine oC rfl (λhc=>absurd (zt hc) h4) λ_=>?_;refine Am ?_
  by_cases h5:op=[110,101,103];obtain⟨x,rfl⟩:=Ry (by subst h5;rfl);have MB:Cb c (Ex.mk op num name [x])=[[48]]++(Cb c x++[[45]]):=by rw[hW,GP,ZT];subst h5;rfl
  rw[MB] at hr ⊢;simp only[ya,Ba,dc] at hr;rw[Sf] at mi;rw[lk] at WC;rw[Fb] at dh;have hex:=(Dc.1 mi).1;refine oC rfl (λ_=>?_) λhc=>absurd h5 (zf hc);refine Bd ?_;refine Rl ?_;refine oS (Je (H1:=H) (F:=[_]) [_,_] rfl Te (Ai h [[48]] rfl (by simp only[Ba,dc];omega)) λH2 h2=>?_);refine Lu ?_;refine oS (Je (H1:=H2) (F:=[_]) [_,_] rfl Te (ih x _ n H2 zo WC.1 hex h2 (by simp only[ya,Ba,dc];omega)) λH3 h3=>?_);refine Xh ?_;refine Rl ?_;refine oS (Je (H1:=H3) (F:=[_]) [_,_] rfl Te (Ai h3 [[45]] rfl (by simp only[ya,Ba,dc];omega)) λH4 h4=>?_);refine qa ?_;exact rO rfl rN kp ⟨rfl,by rw[Pc,Pc] at h4;exact h4⟩;refine oC rfl (λhc=>absurd (zt hc) h5) λ_=>?_;refine Am ?_
  by_cases h6:op=[110,111,116];obtain⟨x,rfl⟩:=Ry (by subst h6;rfl);have MB:Cb c (Ex.mk op num name [x])=Cb c x++[[49],[60]]:=by rw[hW,GP,ZT];subst h6;rfl
  rw[MB] at hr ⊢;simp only[ya,Ba,dc] at hr;rw[Sf] at mi;rw[lk] at WC;rw[Fb] at dh;have hex:=(Dc.1 mi).1;refine oC rfl (λ_=>?_) λhc=>absurd h6 (zf hc);refine Lu ?_;refine oS (Je (H1:=H) (F:=[_]) [_,_] rfl Te (ih x _ n H zo WC.1 hex h zo) λH3 h3=>?_);refine Xh ?_;refine yq ?_;refine oS (Je (H1:=H3) (F:=[_]) [_,_] rfl Te (Ai h3 [[49],[60]] rfl (by simp only[ya,Ba,dc];omega)) λH4 h4=>?_);refine qa ?_;exact rO rfl rN kp ⟨rfl,by rw[Pc] at h4;exact h4⟩;refine oC rfl (λhc=>absurd (zt hc) h6) λ_=>?_
  have O1:Qf op=2:=by
   unfold Qf at Lc ⊢;rw[zn λh=>h.elim h1 h2,zn λh=>h.elim h3 λh=>h.elim h5 h6,zn (show ¬ op=Of from h4)] at Lc ⊢;split;rfl
   rename_i hb;rw[zn hb] at Lc;omega
  obtain⟨x,y,rfl⟩:=qwB Lc O1;have Vt:=qx7 c num name x y h1 h2 h3 h4 h5 h6;rw[Vt] at hr ⊢;simp only[Sf] at mi;simp only[lk] at WC;simp only[Fb] at dh;have hex:=Dc.1 mi;refine ja ?_;refine oS (Je (H1:=H) (F:=[_]) [_,_] rfl Te (AZ hG hk ih op num name x y ws n H zo zo WC.1 WC.2.1 hex.1 (Dc.1 hex.2).1 h hr) λH3 h3=>?_);refine qa ?_;exact rO rfl rN kp ⟨rfl,h3⟩
mutual
theorem W9(c:CC):∀ (s:Sm) (n:Nat),(kg c n s).2<=n+2 * vp s
 |.mk kind name index value Ka fb,n=>by
  have ht:=λn=>kP c Ka n;have he:=λn=>kP c fb n;rw[vp];unfold kg
  by_cases k1:kind=1;rw[zp k1];simp only;omega;rw[zn k1];by_cases k2:kind=2;rw[zp k2];simp only;omega;rw[zn k2];by_cases k3:kind=3;rw[zp k3];cases fb with
  |nil=>have:=ht (n+1);simp only;omega
  |cons a r=>have h1:=ht (n+2);have h2:=he (Da c (n+2) Ka).2;simp only;omega
  rw[zn k3];by_cases k4:kind=4;have h1:=ht (n+2);rw[zp k4];simp only;omega;rw[zn k4];by_cases k5:kind=5;rw[zp k5];simp only;omega;rw[zn k5];by_cases k6:kind=6;rw[zp k6];simp only;omega;rw[zn k6];by_cases k7:kind=7;rw[zp k7];simp only;omega;rw[zn k7];simp only;omega
theorem kP(c:CC):∀ (l:List Sm) (n:Nat),(Da c n l).2<=n+2 * pd l
 |[],n=>by rw[Da,pd];simp
 |s::l,n=>by have h1:=W9 c s n;have h2:=kP c l (kg c n s).2;rw[Da,pd];simp only;omega
end
theorem quM(c:CC)(n:Nat)(s:Sm)(l:List Sm):Da c n (s::l)=((kg c n s).1++(Da c (kg c n s).2 l).1,(Da c (kg c n s).2 l).2):=by rw[Da]
theorem gY(c:CC)(n:Nat):Da c n []=([],n):=by rw[Da]
theorem YY(x:Ex):([x]:List Ex).headD default=x:=rfl
theorem qqY:∀ {l:List Sm} {x:Sm},x∈l->vp x<=pd l
 |g::l,f,h=>by rw[pd];rcases lc.1 h with rfl|h;omega;have:=qqY h;omega
abbrev L7(b:Nat)(kind:Int)(name:Nm)(index value:List Ex)(Ka fb:List Sm):Nat×ga:=(b,.cells 217 [int .i64 kind,str name,.list (index.map eb),.list (value.map eb),.list (Ka.map Yb),.list (fb.map Yb)])
def ZW(B0:Nat)(w0:World)(k:TB)(own:Nm)(c:CC)(env:gb)(m:Nat):Prop:=∀ (l:List Sm) (ws:List Wd) (n:Nat) (H:Heap),pd l<=m->Hi l->Gh env l=0->Aj k own ws n H->ws.length+(Da c n l).1.length<=1000000000->n+2 * pd l<=1000000000->ca (KC B0 w0) 92 [ptr k.tb 0,.list (l.map Yb)] H (Zx (Aj k own (ws++(Da c n l).1) (Da c n l).2))
theorem qpr(hG:GW B0 w0){k:TB}(hX:II B0 w0 k own c env 2000000)(ih:ZW B0 w0 k own c env m)(name:Nm)(index:List Ex)(v:Ex)(Ka fb:List Sm)(ws:List Wd)(n:Nat)(H:Heap)(hv:Zk v<=2000000)(hm:pd Ka+pd fb<=m)(h2m:fb.length<=2000000)
  (nv:vi v) (nt:Hi Ka) (ne:Hi fb) (ev:bf env v=0) (et:Gh env Ka=0) (ee:Gh env fb=0) (h:Aj k own ws n H) (hr:ws.length+(kg c n (.mk 3 name index [v] Ka fb)).1.length<=1000000000) (hN:n+2+2 * (pd Ka+pd fb)<=1000000000) :
  ca (KC B0 w0) 159 [ptr k.tb 0,Yb (.mk 3 name index [v] Ka fb)] H (Zx (Aj k own (ws++(kg c n (.mk 3 name index [v] Ka fb)).1) (kg c n (.mk 3 name index [v] Ka fb)).2)):=by
 have za:=kP c Ka (n+2);have lF:∀ i:Nat,i<=1000000001->(na i).length<=11:=λi hi=>EL zo;have hle:(fb.map Yb).length=fb.length:=ab _;rw[rv];refine Xa Tryz.func159 rfl (n:=65) rfl rfl rfl ?_;refine Xd ?_;refine oS (sB rfl λb3=>?_);refine Xh ?_;refine oS (S.qj (H1:=H) (F:=[_]) [_] rfl Te (TU hG h zo) λH1 h1=>?_);have CB:=lF n zo;refine ja ?_
 cases fb with
 |nil=>
  have hS:kg c n (.mk 3 name index [v] Ka [])=(Cb c v++([38::na n,[63]]++((Da c (n+1) Ka).1++[na n++[58]])),(Da c (n+1) Ka).2):=by unfold kg;rw[zn da,zn da,zp rfl];simp only[YY,Pc]
  rw[hS] at hr ⊢;simp only[ya,Ba,dc] at hr;refine oC rfl (λ_=>?_) (λhc=>by cases hc);refine qI ?_;refine oS (Je (H1:=H1) (F:=[_]) [_,_] rfl Te (hX v ws (n+1) H1 hv nv ev h1 zo) λH2 h2=>?_);refine ja ?_;refine yq ?_;refine oS (Je (H1:=H2) (F:=[_]) [_,_] rfl Te (Ai h2 [38::na n,[63]] rfl (by simp only[ya,Ba,dc];omega)) λH3 h3=>?_);refine ja ?_;refine oS (Je (H1:=H3) (F:=[_]) [_,_] rfl Te (ih Ka _ (n+1) H3 zo nt et h3 (by simp only[ya,Ba,dc];omega) zo) λH4 h4=>?_);refine ja ?_;refine Rl ?_;refine oS (Je (H1:=H4) (F:=[_]) [_,_] rfl Te (Ai h4 [na n++[58]] rfl (by simp only[ya,Ba,dc];omega)) λH5 h5=>?_);refine qa ?_
  exact rR rfl rN kp ⟨rfl,by simp only[Pc] at h5 ⊢;exact h5⟩
 |cons s0 r0=>
  have hS:kg c n (.mk 3 name index [v] Ka (s0::r0))=(Cb c v++([38::na n,[63]]++((Da c (n+2) Ka).1++([[48],38::na (n+1),[63],na n++[58]]++((Da c (Da c (n+2) Ka).2 (s0::r0)).1++[na (n+1)++[58]])))),(Da c (Da c (n+2) Ka).2 (s0::r0)).2):=by unfold kg;rw[zn da,zn da,zp rfl];simp only[YY,Pc]
  rw[hS] at hr ⊢;simp only[ya,Ba,dc] at hr;have jx:=lF (n+1) zo;generalize B4:s0::r0=fb at *;have ub:¬ ((fb.map Yb).length:Int)=0:=by rw[<-B4];simp only[ab,Ba];omega
  refine oC rfl (λhc=>absurd (zt hc) ub) λ_=>?_;refine oa ?_;refine oS (S.qj (H1:=H1) (F:=[_]) [_] rfl Te (TU hG h1 zo) λH1 h1=>?_);refine qI ?_;refine oS (Je (H1:=H1) (F:=[_]) [_,_] rfl Te (hX v ws (n+1+1) H1 hv nv ev h1 zo) λH2 h2=>?_);refine ja ?_;refine yq ?_;refine oS (Je (H1:=H2) (F:=[_]) [_,_] rfl Te (Ai h2 [38::na n,[63]] rfl (by simp only[ya,Ba,dc];omega)) λH3 h3=>?_);refine ja ?_;refine oS (Je (H1:=H3) (F:=[_]) [_,_] rfl Te (ih Ka _ (n+2) H3 zo nt et h3 (by simp only[ya,Ba,dc];omega) zo) λH4 h4=>?_);refine ja ?_;refine oS (sL [_,_,_,_] rfl (bt [_,_,_,_]) rfl rfl rfl<|oS (Je (H1:=H4) (F:=[_]) [_,_] rfl Te (Ai h4 [[48],38::na (n+1),[63],na n++[58]] rfl (by simp only[ya,Ba,dc];omega)) λH5 h5=>?_));refine ja ?_;refine oS (Je (H1:=H5) (F:=[_]) [_,_] rfl Te (ih fb _ _ H5 zo ne ee h5 (by simp only[ya,Ba,dc];omega) zo) λH6 h6=>?_);refine ja ?_;refine Rl ?_;refine oS (Je (H1:=H6) (F:=[_]) [_,_] rfl Te (Ai h6 [na (n+1)++[58]] rfl (by simp only[ya,Ba,dc];omega)) λH7 h7=>?_);refine Qc ?_;exact rO rfl rN kp ⟨rfl,by simp only[Pc] at h7 ⊢;exact h7⟩
theorem quL(hG:GW B0 w0){k:TB}(hX:II B0 w0 k own c env 2000000)(ih:ZW B0 w0 k own c env m)(name:Nm)(index:List Ex)(v:Ex)(Ka fb:List Sm)(ws:List Wd)(n:Nat)(H:Heap)(hv:Zk v<=2000000)(hm:pd Ka<=m)
  (nv:vi v) (nt:Hi Ka) (ev:bf env v=0) (et:Gh env Ka=0) (h:Aj k own ws n H) (hr:ws.length+(kg c n (.mk 4 name index [v] Ka fb)).1.length<=1000000000) (hN:n+2+2 * pd Ka<=1000000000) :
  ca (KC B0 w0) 160 [ptr k.tb 0,Yb (.mk 4 name index [v] Ka fb)] H (Zx (Aj k own (ws++(kg c n (.mk 4 name index [v] Ka fb)).1) (kg c n (.mk 4 name index [v] Ka fb)).2)):=by
 have CB:(na n).length<=11:=EL zo;have jx:(na (n+1)).length<=11:=EL zo;have hS:kg c n (.mk 4 name index [v] Ka fb)=([na n++[58]]++(Cb c v++([38::na (n+1),[63]]++((Da c (n+2) Ka).1++[[48],38::na n,[63],na (n+1)++[58]]))),(Da c (n+2) Ka).2):=by unfold kg;rw[zn da,zn da,zn da,zp rfl];simp only[YY,Pc]
 rw[hS] at hr ⊢;simp only[ya,Ba,dc] at hr;rw[rv];refine Xa Tryz.func160 rfl (n:=37) rfl rfl rfl ?_;refine Xd ?_;refine oS (sB rfl λb3=>?_);refine Xh ?_;refine oS (S.qj (H1:=H) (F:=[_]) [_] rfl Te (TU hG h zo) λH1 h1=>?_);refine qa ?_;refine oS (S.qj (H1:=H1) (F:=[_]) [_] rfl Te (TU hG h1 zo) λH1 h1=>?_);refine ja ?_;refine Rl ?_;refine oS (Je (H1:=H1) (F:=[_]) [_,_] rfl Te (Ai h1 [na n++[58]] rfl (by simp only[ya,Ba,dc];omega)) λH2 h2=>?_);refine qI ?_;refine oS (Je (H1:=H2) (F:=[_]) [_,_] rfl Te (hX v _ (n+1+1) H2 hv nv ev h2 (by simp only[ya,Ba,dc];omega)) λH3 h3=>?_);refine ja ?_;refine yq ?_;refine oS (Je (H1:=H3) (F:=[_]) [_,_] rfl Te (Ai h3 [38::na (n+1),[63]] rfl (by simp only[ya,Ba,dc];omega)) λH4 h4=>?_);refine ja ?_;refine oS (Je (H1:=H4) (F:=[_]) [_,_] rfl Te (ih Ka _ (n+2) H4 zo nt et h4 (by simp only[ya,Ba,dc];omega) zo) λH5 h5=>?_);refine ja ?_;refine oS (sL [_,_,_,_] rfl (bt [_,_,_,_]) rfl rfl rfl<|oS (Je (H1:=H5) (F:=[_]) [_,_] rfl Te (Ai h5 [[48],38::na n,[63],na (n+1)++[58]] rfl (by simp only[ya,Ba,dc];omega)) λH6 h6=>?_));refine Qc ?_;exact rO rfl rN kp ⟨rfl,by simp only[Pc] at h6 ⊢;exact h6⟩
theorem qs2{name:List UInt8}{index value:List Ex}{Ka fb:List Sm}(h:yh (.mk 2 name index value Ka fb)=true):∃ x,index=[x]:=by
 have h1:index.length=1:=by
  simp only[yh] at h;repeat' (split at h)
  all_goals first
   |(simp only[Mf] at h;omega)
   |cases h
   |contradiction
 exact Hu h1
theorem quS{kind:Int}{name:List UInt8}{index value:List Ex}{Ka fb:List Sm}(h:yh (.mk kind name index value Ka fb)=true):kind=1∨kind=2∨kind=3∨kind=4∨kind=5∨kind=6∨kind=7:=by
 simp only[yh] at h;repeat' (split at h)
 all_goals first
  |omega
  |cases h
theorem UU(hG:GW B0 w0){k:TB}{own:Nm}{c:CC}(hk:Rr k c own){env:gb}(hE:xq env):∀ m:Nat,m<=2000000->ZW B0 w0 k own c env m
 |0,_=>λl ws n H hm Vb ll h hr hN=>by
  have:l=[]:=by
   cases l with
   |nil=>rfl
   |cons s r=>have:=NX s;rw[pd] at hm;omega
  subst this;rw[gY];refine Xa Tryz.func92 rfl (n:=97) rfl rfl rfl ?_;refine ja ?_;refine oL (λkk ls H'=>kk=0/\ls=[(0,ptr k.tb 0),(6,.list []),(7,int .i64 0),(8,int .i64 0)]/\H'=H) ⟨0,_,_,⟨rfl,rfl,rfl⟩,jb,Tb _⟩ ?_;rintro kk ls H' ⟨rfl,rfl,rfl⟩ j hj;refine wg ?_;refine oC rfl (λhc=>by cases hc) λhc=>?_;refine qa ?_
  exact rO hj rN Ya ⟨rfl,by rw[Jd];exact h⟩
 |m+1,hm6=>by
  have ih:=UU hG hk hE m zo;have hX:II B0 w0 k own c env 2000000:=iJ hG hk hE 2000000 (Nb _);intro l ws n H hm Vb ll h hr hN;have LB:=eJ l;generalize hT:Da c n l=T at hr ⊢;refine Xa Tryz.func92 rfl (n:=97) rfl rfl rfl ?_;refine ja ?_;refine oL (λkk ls H'=>∃ (pre l1:List Sm) (Em:List Wd) (n':Nat),l=pre++l1/\kk=l1.length/\ls=[(0,ptr k.tb 0),(6,.list (l.map Yb)),(7,int .i64 ((l.map Yb).length:Int)),(8,int .i64 (pre.length:Int))]/\Aj k own Em n' H'/\Em++(Da c n' l1).1=ws++T.1/\(Da c n' l1).2=T.2/\n'+2 * pd l1<=1000000000/\Gh env l1=0/\Hi l1)
   ⟨l.length,_,_,⟨[],l,ws,n,rfl,rfl,rfl,h,by rw[hT],by rw[hT],hN,ll,Vb⟩,jb,Tb _⟩ ?_
  rintro kk ls H' ⟨pre,l1,Em,n',Mb,rfl,rfl,Xy,hW,hL,OB,mi,Kz⟩ j hj;have Qm:pre.length<=2000000:=by have:=congrArg List.length Mb;rw[ya] at this;omega
  refine wg ?_;refine Ca (λhc=>?_) λhc=>?_;rotate_left;have hlen:=zf hc;rw[ab,Mb,ya] at hlen
  obtain rfl:l1=[]:=by
   cases l1 with
   |nil=>rfl
   |cons a l2=>simp at hlen;omega
  rw[gY,Jd] at hW;rw[gY] at hL;simp only at hL;refine qa ?_;exact rO hj rN Ya ⟨rfl,by rw[<-hW,<-hL];exact Xy⟩;have hlen:=zt hc;rw[ab,Mb,ya] at hlen;obtain⟨s,l2,rfl⟩:∃ a l2,l1=a::l2:=by
   cases l1 with
   |nil=>simp at hlen
   |cons a l2=>exact⟨a,l2,rfl⟩
  have JB:vp s<=pd l:=qqY (by rw[Mb];exact mem_append_right _ Ce);have lr:=W9 c s n';rw[Gh] at mi;rw[Hi] at Kz;rw[pd] at OB;obtain⟨dK,cx⟩:=Kz;obtain⟨aw,Mz⟩:=Dc.1 mi;rw[quM] at hW hL;simp only at hW hL;rw[<-Pc] at hW;have Ml:=congrArg List.length hW;rw[ya,ya,ya] at Ml;obtain⟨kind,name,index,value,Ka,fb⟩:=s;rw[xk] at aw;by_cases hf:yh (.mk kind name index value Ka fb)=false;rw[zp hf] at aw;cases aw;rw[zn hf] at aw;rw[Bool.not_eq_false] at hf;obtain⟨e1,aw⟩:=Dc.1 aw;obtain⟨e2,aw⟩:=Dc.1 aw;obtain⟨e3,aw⟩:=Dc.1 aw;obtain⟨e4,e5⟩:=Dc.1 aw;rw[Io] at dK;obtain⟨n1,n2,n3,n4⟩:=dK;rw[vp] at JB OB lr;have Ot:=eJ fb;refine Zi ?_;refine ia (xR (ve:=.agg [int .i64 kind,str name,.list (index.map eb),.list (value.map eb),.list (Ka.map Yb),.list (fb.map Yb)]) (cs:=[_,_,_,_,_,_]) rfl rfl zo (by
   have h9:=Ti.xd Yb pre (Sm.mk kind name index value Ka fb) l2;rw[rv] at h9;rw[Mb];exact h9) rfl rfl) ?_
  refine Ga ?_;refine oS (Rc λb5=>?_);refine ja ?_;have fin:∀ {e:Env} {Hx:Heap} (W:List Wd) (nx:Nat) (H2:Heap),kg c n' (.mk kind name index value Ka fb)=(W,nx)->Aj k own (Em++W) nx H2->HSub H2 Hx->e.ds=j.ds ->
    (e.s 0=ptr k.tb 0/\e.s 6=.list (l.map Yb)/\e.s 7=int .i64 ((l.map Yb).length:Int)/\e.s 8=int .i64 ((pre.length:Int)+1)) ->
    ∃ k' ls' H3,k'<(Sm.mk kind name index value Ka fb::l2).length/\(∃ (pre l1:List Sm) (Em:List Wd) (n':Nat),l=pre++l1/\k'=l1.length/\ls'=[(0,ptr k.tb 0),(6,.list (l.map Yb)),(7,int .i64 ((l.map Yb).length:Int)),(8,int .i64 (pre.length:Int))]/\Aj k own Em n' H3/\Em++(Da c n' l1).1=ws++T.1/\(Da c n' l1).2=T.2/\n'+2 * pd l1<=1000000000/\Gh env l1=0/\Hi l1)/\Yr e ls'/\HSub H3 Hx/\e.ds=[]:=by
   intro e Hx W nx H2 hS yR Oy hd hv;rw[hS] at hW hL lr;simp only at hW hL lr;exact⟨l2.length,_,H2,lt_succ_self _,⟨pre++[Sm.mk kind name index value Ka fb],l2,Em++W,nx,by rw[Mb];simp,rfl,rfl,yR,hW,hL,by omega,Mz,cx⟩,⟨hv.1,hv.2.1,hv.2.2.1,by rw[hv.2.2.2];exact lh (by simp),trivial⟩,Oy,hd.trans hj⟩
  by_cases k1:kind=1;subst k1;obtain⟨x,rfl⟩:=pi.He hf da;rw[Sf] at e1;rw[lk] at n2;rw[Fb,Fb] at JB OB lr;have hex:=(Dc.1 e1).1;have XJ:Vr env name=0:=by rw[zp rfl] at e3;exact e3
  have nq:=hE.sc name XJ;have hS:kg c n' (.mk 1 name index [x] Ka fb)=(Cb c x++[c.sc name,[33]],n'):=by unfold kg;rw[zp rfl];rfl
  have gx:=Ml;rw[hS] at gx;simp only[ya,Ba,dc] at gx;refine oC rfl (λ_=>?_) (λhc=>by cases hc);refine Lu ?_;refine oS (Je (H1:=H') (F:=[_]) [_,_] rfl Te (hX x Em n' H' zo n2.1 hex Xy zo) λH2 h2=>?_);refine oa ?_;refine oS (S.qj (H1:=H2) (F:=[_]) [_,_] rfl Te (gM hG hk h2 name zo) λH3 h3=>?_);refine yq ?_;refine oS (Je (H1:=H3) (F:=[_]) [_,_] rfl Te (Ai h3 [c.sc name,[33]] rfl (by simp only[ya,Ba,dc];omega)) λH4 h4=>?_);refine rl ?_;exact fin _ _ H4 hS (by rw[<-Pc];exact h4) kp rfl ⟨rfl,rfl,rfl,rfl⟩;refine oC rfl (λhc=>absurd (zt hc) k1) λ_=>?_;refine Ch ?_
  by_cases k2:kind=2;subst k2;obtain⟨x,rfl⟩:=pi.He hf da;obtain⟨y,rfl⟩:=qs2 hf;rw[Sf] at e1 e2;rw[lk] at n1 n2;rw[Fb,Fb,Fb,Fb] at JB OB lr;have hex:=(Dc.1 e1).1;have hey:=(Dc.1 e2).1;obtain⟨a,Oz,sq,dw⟩:=hk.ar name;have hS:kg c n' (.mk 2 name [y] [x] Ka fb)=(Cb c x++([c.ar name]++(Cb c y++[[43],[33]])),n'):=by unfold kg;rw[zn da,zp rfl];rfl
  have gx:=Ml;rw[hS] at gx;simp only[ya,Ba,dc] at gx;refine oC rfl (λ_=>?_) (λhc=>by cases hc);refine Lu ?_;refine oS (Je (H1:=H') (F:=[_]) [_,_] rfl Te (hX x Em n' H' zo n2.1 hex Xy zo) λH2 h2=>?_);refine qa ?_;have h0:=h2;obtain⟨v,Hv,kb,rfl⟩:=h2;refine bj (m:=11) rfl [L7 b5 2 name [y] [x] Ka fb] ?_;refine nI ?_;refine aL ?_ SW;refine lO 4 (lH rfl rfl (pL (c:=.atom _) rfl xf rfl) ?_);refine lO 7 (lH rfl rfl (Pure.LJ rfl rfl dN dw) ?_);refine lO 8 (lS (H1:=[]) rfl (.inl rfl) rfl Kb SW (sF [_] rfl (TG hG a zo) ?_));rw[<-sq];refine lO 9 (lS (H1:=[]) rfl (.inl rfl) rfl Kb SW (sL [_] rfl (bt [_]) rfl rfl rfl ?_));refine lO 10 (lS (F:=[L7 b5 2 name [y] [x] Ka fb]) rfl (.inl rfl) rfl Te Ya (Ra.zx [_,_] rfl (Ai h0 [c.ar name] rfl (by simp only[ya,Ba,dc];omega)) λH2 h2=>?_));refine Xm ?_;refine cW qpL ?_;refine ja ?_;refine ia (xR (ve:=eb y) (cs:=[_,_,_,_]) rfl rfl da rfl rfl rfl)<|Ga ?_;refine oS (Je (H1:=H2) (F:=[_]) [_,_] rfl Te (hX y _ n' H2 zo n1.1 hey h2 (by simp only[ya,Ba,dc];omega)) λH3 h3=>?_);refine Xh ?_;refine yq ?_;refine oS (Je (H1:=H3) (F:=[_]) [_,_] rfl Te (Ai h3 [[43],[33]] rfl (by simp only[ya,Ba,dc];omega)) λH4 h4=>?_);refine rl ?_;exact fin _ _ H4 hS (by simp only[Pc] at h4 ⊢;exact h4) kp rfl ⟨rfl,rfl,rfl,rfl⟩;refine oC rfl (λhc=>absurd (zt hc) k2) λ_=>?_;refine Ch ?_
  by_cases k3:kind=3;subst k3;obtain⟨x,rfl⟩:=pi.He hf da;rw[Sf] at e1;rw[lk] at n2;rw[Fb,Fb] at JB OB lr;have hex:=(Dc.1 e1).1;refine oC rfl (λ_=>?_) (λhc=>by cases hc);refine ja ?_;refine oS (Je (H1:=H') (F:=[_]) [_,_] (by show [ptr k.tb 0,_]=_;rw[rv];rfl) Te (qpr hG hX ih name index x Ka fb Em n' H' zo zo zo n2.1 n3 n4 hex e4 e5 Xy zo zo) λH2 h2=>?_);refine rl ?_;exact fin _ _ H2 rfl h2 kp rfl ⟨rfl,rfl,rfl,rfl⟩;refine oC rfl (λhc=>absurd (zt hc) k3) λ_=>?_;refine Ch ?_
  by_cases k4:kind=4;subst k4;obtain⟨x,rfl⟩:=pi.He hf da;rw[Sf] at e1;rw[lk] at n2;rw[Fb,Fb] at JB OB lr;have hex:=(Dc.1 e1).1;refine oC rfl (λ_=>?_) (λhc=>by cases hc);refine ja ?_;refine oS (Je (H1:=H') (F:=[_]) [_,_] (by show [ptr k.tb 0,_]=_;rw[rv];rfl) Te (quL hG hX ih name index x Ka fb Em n' H' zo zo n2.1 n3 hex e4 Xy zo zo) λH2 h2=>?_);refine rl ?_;exact fin _ _ H2 rfl h2 kp rfl ⟨rfl,rfl,rfl,rfl⟩;refine oC rfl (λhc=>absurd (zt hc) k4) λ_=>?_;refine Ch ?_
  by_cases k5:kind=5;subst k5;obtain⟨x,rfl⟩:=pi.He hf da;rw[Sf] at e1;rw[lk] at n2;rw[Fb,Fb] at JB OB lr;have hex:=(Dc.1 e1).1;have hS:kg c n' (.mk 5 name index [x] Ka fb)=(Cb c x++[[59]],n'):=by unfold kg;rw[zn da,zn da,zn da,zn da,zp rfl];rfl
  have gx:=Ml;rw[hS] at gx;simp only[ya,Ba,dc] at gx;refine oC rfl (λ_=>?_) (λhc=>by cases hc);refine Lu ?_;refine oS (Je (H1:=H') (F:=[_]) [_,_] rfl Te (hX x Em n' H' zo n2.1 hex Xy zo) λH2 h2=>?_);refine Xh ?_;refine Rl ?_;refine oS (Je (H1:=H2) (F:=[_]) [_,_] rfl Te (Ai h2 [[59]] rfl (by simp only[ya,Ba,dc];omega)) λH4 h4=>?_);refine rl ?_;exact fin _ _ H4 hS (by rw[<-Pc];exact h4) kp rfl ⟨rfl,rfl,rfl,rfl⟩;refine oC rfl (λhc=>absurd (zt hc) k5) λ_=>?_;refine Ch ?_
  by_cases k6:kind=6;subst k6;obtain⟨x,rfl⟩:=pi.He hf da;rw[Sf] at e1;rw[lk] at n2;rw[Fb,Fb] at JB OB lr;have hex:=(Dc.1 e1).1;have hS:kg c n' (.mk 6 name index [x] Ka fb)=(Cb c x++[c.t0,[33]],n'):=by unfold kg;rw[zn da,zn da,zn da,zn da,zn da,zp rfl];rfl
  have gx:=Ml;rw[hS] at gx;simp only[ya,Ba,dc] at gx;refine oC rfl (λ_=>?_) (λhc=>by cases hc);refine Lu ?_;refine oS (Je (H1:=H') (F:=[_]) [_,_] rfl Te (hX x Em n' H' zo n2.1 hex Xy zo) λH2 h2=>?_);refine Xh ?_
  refine oS (S.qj (H1:=H2) (F:=[_]) [_,_] rfl Te (by
   have h9:=gV (B0:=B0) (w0:=w0) hG hk h2 0 da;rw[Nat.add_zero,<-hk.t0] at h9;exact h9) λH3 h3=>?_)
  refine yq ?_;refine oS (Je (H1:=H3) (F:=[_]) [_,_] rfl Te (Ai h3 [c.t0,[33]] rfl (by simp only[ya,Ba,dc];omega)) λH4 h4=>?_);refine rl ?_;exact fin _ _ H4 hS (by rw[<-Pc];exact h4) kp rfl ⟨rfl,rfl,rfl,rfl⟩;refine oC rfl (λhc=>absurd (zt hc) k6) λ_=>?_;refine Ch ?_;have k7:kind=7:=by have:=quS hf;omega
  subst k7;have hS:kg c n' (.mk 7 name index value Ka fb)=([[36]],n'):=by unfold kg;rw[zn da,zn da,zn da,zn da,zn da,zn da,zp rfl]
  have gx:=Ml;rw[hS] at gx;simp only[ya,Ba,dc] at gx;refine oC rfl (λ_=>?_) (λhc=>by cases hc);refine Bd ?_;refine Rl ?_;refine oS (Je (H1:=H') (F:=[_]) [_,_] rfl Te (Ai Xy [[36]] rfl (by simp only[ya,Ba,dc];omega)) λH4 h4=>?_);refine rl ?_;exact fin _ _ H4 hS h4 kp rfl ⟨rfl,rfl,rfl,rfl⟩
abbrev ft(c:CC)(l:List Nm):List Wd:=l.flatMap λp=>[c.sc p,[33]]
theorem qsS(c:CC)(p:Nm)(l:List Nm):ft c (p::l)=[c.sc p,[33]]++ft c l:=by unfold ft;rw[List.flatMap_cons]
theorem qv9(cc:Nm->CC)(n:Nat):Cc cc n []=([],n):=by rw[Cc]
theorem quB(cc:Nm->CC)(n:Nat)(f:ob)(l:List ob):Cc cc n (f::l)=((Rj (cc f.name) n f).1++(Cc cc (Rj (cc f.name) n f).2 l).1,(Cc cc (Rj (cc f.name) n f).2 l).2):=by rw[Cc]
theorem qzK(c:CC)(n:Nat)(f:ob):Rj c n f=([[102,95]++f.name++[58]]++(ft c f.params.reverse++((Da c n f.body).1++[[48],[59]])),(Da c n f.body).2):=by unfold Rj ft;simp only[Pc]
theorem qwR{l:List Nm}(h:i<l.length):(l.take (i+1)).reverse=l[i]::(l.take i).reverse:=by rw[take_succ_eq_append_getElem h,List.reverse_append];rfl
structure FnT(k:TB)(cc:Nm->CC)(f:ob):Prop where
 tb:Rr k (cc f.name) f.name
 name:f.name.length<=24
 params:∀ p∈f.params,p.length<=1000000
 num:Hi f.body
 env:∃ env,xq env/\Gh env f.body=0
theorem rJ(hG:GW B0 w0){k:TB}{cc:Nm->CC}(Bs:k.sc<=1000000000)(vars:List Nm)(ba:List (Nm×Int))(fs:List ob)(dh:Qd fs<=2000000)(hf:∀ f∈fs,FnT k cc f){own0:Nm}{c0:CC}(S3:Rr k c0 own0)(H:Heap)(h:Aj k own0 [] 0 H)
  (hr:5+(Cc cc 0 fs).1.length<=1000000000) :
  ca (KC B0 w0) 48 [ptr k.tb 0,Ti.fh vars ba fs] H (Zx λH'=>∃ own n,Aj k own ([[38,102,95,109,97,105,110],[58],decDigits k.sc,[33],[36]]++(Cc cc 0 fs).1) n H'):=by
 have LB:=qU fs;have ug:(fs.map cg).length=fs.length:=ab _;refine Xa Tryz.func48 rfl (n:=57) rfl rfl rfl ?_;refine Xd ?_;refine oS (sB rfl λb3=>?_);refine Xh ?_;refine oS (S.qj (H1:=H) (F:=[_]) [_,_] rfl Te (by
  have h9:=gV (B0:=B0) (w0:=w0) hG S3 h 0 da;rw[Nat.add_zero] at h9;exact h9) λH1 h1=>?_)
 refine oS (sL [_,_,_,_,_] rfl (bt [_,_,_,_,_]) rfl rfl rfl<|oS (Je (H1:=H1) (F:=[_]) [_,_] rfl Te (Ai h1 [[38,102,95,109,97,105,110],[58],decDigits k.sc,[33],[36]] rfl (by simp only[Ba,dc];omega)) λH2 h2=>?_));rw[List.nil_append] at h2;refine ja ?_;generalize hP:([[38,102,95,109,97,105,110],[58],decDigits k.sc,[33],[36]]:List Wd)=P5 at h2 ⊢;have hP5:P5.length=5:=by rw[<-hP];rfl
 clear hP;generalize hT:Cc cc 0 fs=T at hr ⊢;refine oL (λkk ls H'=>∃ (pre l1:List ob) (Em:List Wd) (n':Nat) (own:Nm),fs=pre++l1/\kk=l1.length/\ls=[(0,ptr k.tb 0),(13,.list (fs.map cg)),(14,int .i64 ((fs.map cg).length:Int)),(15,int .i64 (pre.length:Int))]/\Aj k own Em n' H'/\Em++(Cc cc n' l1).1=P5++T.1/\n'+2 * Qd l1<=1000000000)
  ⟨fs.length,_,_,⟨[],fs,P5,0,own0,rfl,rfl,rfl,h2,by rw[hT],by omega⟩,jb,kp⟩ ?_
 rintro kk ls H' ⟨pre,l1,Em,n',own,Mb,rfl,rfl,Xy,hW,OB⟩ j hj;have Qm:pre.length<=2000000:=by have:=congrArg List.length Mb;rw[ya] at this;omega
 refine wg ?_;refine Ca (λhc=>?_) λhc=>?_;rotate_left;have hlen:=zf hc;rw[ab,Mb,ya] at hlen
 obtain rfl:l1=[]:=by
  cases l1 with
  |nil=>rfl
  |cons a l2=>simp at hlen;omega
 rw[qv9,Jd] at hW;refine qa ?_;exact rO hj rN Ya ⟨rfl,own,n',by rw[<-hW];exact Xy⟩;have hlen:=zt hc;rw[ab,Mb,ya] at hlen;obtain⟨f,l2,rfl⟩:∃ a l2,l1=a::l2:=by
  cases l1 with
  |nil=>simp at hlen
  |cons a l2=>exact⟨a,l2,rfl⟩
 have LM:f∈fs:=by rw[Mb];exact mem_append_right _ Ce
 have IM:=jU LM;obtain⟨hk,Sy,hpm,Vb,env,hE,ll⟩:=hf f LM;rw[Qd] at OB;have RH:=kP (cc f.name) f.body n';have yp:(f.params.map str).length=f.params.length:=ab _;unfold kq at IM OB;rw[quB] at hW;rw[qzK] at hW;simp only at hW;have Ml:=congrArg List.length hW;simp only[ya,Ba,dc] at Ml;obtain⟨v,Hv,kb,rfl⟩:=Xy;refine Zi ?_;refine ia (xR (ve:=cg f) (cs:=[_,_,_,_]) rfl rfl zo (by rw[Mb];exact Ti.xd cg pre f l2) rfl rfl)<|Ga ?_;refine oS (Rc λb5=>?_);refine ja ?_;first|(refine oS (sS (Ab:=[_,_,_,_,_,_]) rfl Fc rfl rfl rfl rfl rfl ?_))|skip
 refine ja ?_;have h1:Aj k f.name Em n' ((k.tb,.cells 121 [v,int .i64 (n':Nat),int .i64 (k.sc:Nat),.atom (.map (some k.sm)),.atom (.map (some k.am)),str f.name])::(k.sm,.map (ye k.S) k.g1)::(k.am,.map (ye k.A) k.g2)::Hv):=⟨v,Hv,kb,rfl⟩;refine wa.Zb (H':=(b5,.cells 168 [str f.name,.list (f.params.map str),.list (f.locals.map str),.list (f.body.map Yb)])::(k.tb,.cells 121 [v,int .i64 (n':Nat),int .i64 (k.sc:Nat),.atom (.map (some k.sm)),.atom (.map (some k.am)),str f.name])::(k.sm,.map (ye k.S) k.g1)::(k.am,.map (ye k.A) k.g2)::Hv) ⟨[],by rw[Jd];exact Vp _ _ _⟩ ?_;generalize ((k.tb,.cells 121 [v,int .i64 (n':Nat),int .i64 (k.sc:Nat),.atom (.map (some k.sm)),.atom (.map (some k.am)),str f.name])::(k.sm,.map (ye k.S) k.g1)::(k.am,.map (ye k.A) k.g2)::Hv:Heap)=H1 at h1 ⊢;refine Rl ?_;refine oS (Je (H1:=H1) (F:=[_]) [_,_] rfl Te (Ai h1 [[102,95]++f.name++[58]] rfl (by simp only[Ba,dc];omega)) λH2 h2=>?_);refine ja ?_
 refine oL (λkk ls H'=>∃ (i:Nat) (DS:List Wd) (H3:Heap),i<=f.params.length/\kk=i/\ls=[(0,ptr k.tb 0),(5,ptr b5 0),(6,int .i64 ((i:Int)-1)),(13,.list (fs.map cg)),(14,int .i64 ((fs.map cg).length:Int)),(15,int .i64 (pre.length:Int))]/\H'=(b5,.cells 168 [str f.name,.list (f.params.map str),.list (f.locals.map str),.list (f.body.map Yb)])::H3/\Aj k f.name DS n' H3/\DS++ft (cc f.name) (f.params.take i).reverse=Em++[[102,95]++f.name++[58]]++ft (cc f.name) f.params.reverse)
  ⟨f.params.length,_,_,⟨f.params.length,_,H2,Nb _,rfl,rfl,rfl,h2,by rw[take_length]⟩,⟨rfl,rfl,by rw[<-yp];rfl,rfl,rfl,rfl,trivial⟩,Tb _⟩ ?_
 rintro kk ls H' ⟨i,DS,H3,hi,rfl,rfl,rfl,h3,QM⟩ j2 tc;refine ja ?_;refine Ca (λhc=>?_) λhc=>?_;have Es:=zt hc;obtain⟨i,rfl⟩:∃ i',kk=i'+1:=⟨kk-1,by omega⟩;have za:i<f.params.length:=by omega
 rw[qwR za,qsS] at QM;have fK:=congrArg List.length QM;simp only[ya,Ba,dc] at fK;have hpi:=hpm _ (getElem_mem za);refine ja ?_;refine ia (xR (ve:=str f.params[i]) (cs:=[str f.params[i]]) rfl rfl zo (by rw[show(((i+1:Nat):Int)-1).toNat=i by omega,List.getElem?_map,di za];rfl) rfl rfl) ?_;refine Ga ?_;refine oS (S.qj (H1:=H3) (F:=[_]) [_,_] rfl Te (gM hG hk h3 f.params[i] zo) λH4 h4=>?_);refine yq ?_;refine oS (Je (H1:=H4) (F:=[_]) [_,_] rfl Te (Ai h4 [(cc f.name).sc f.params[i],[33]] rfl (by simp only[Ba,dc];omega)) λH5 h5=>?_);refine ja ?_;exact⟨i,_,_,lt_succ_self _,⟨i,_,H5,by omega,rfl,rfl,rfl,h5,by rw[Pc];exact QM⟩,jb,Tb _,tc⟩;have za:=zf hc;obtain rfl:kk=0:=by omega
 rw[List.take_zero,List.reverse_nil,show ft (cc f.name) []=[] from rfl,Jd] at QM;have fK:=congrArg List.length QM;simp only[ya,Ba,dc] at fK;refine ja ?_;refine oS (Je (H1:=H3) (F:=[_]) [_,_] rfl Te (UU hG hk hE (pd f.body) zo f.body DS n' H3 (Nb _) Vb ll h3 zo zo) λH4 h4=>?_);refine Xh ?_;refine yq ?_;refine oS (Je (H1:=H4) (F:=[_]) [_,_] rfl Te (Ai h4 [[48],[59]] rfl (by simp only[ya,Ba,dc];omega)) λH5 h5=>?_);refine rl ?_
 exact⟨l2.length,_,_,lt_succ_self _,⟨pre++[f],l2,_,_,f.name,by rw[Mb];simp,rfl,rfl,h5,by
  rw[QM];simp only[Pc] at hW ⊢;exact hW,by omega⟩,⟨rfl,rfl,rfl,lh (by simp),trivial⟩,kp,tc.trans hj⟩
def Kq(r:Int×Int):LV:=.agg [int .i64 r.1,int .i64 r.2]
def tA(o:fk):LV:=.agg [int .i64 o.code,int .i64 o.scalars,int .i64 o.ba]
def dL(p:Nm×Int):LV:=.agg [str p.1,int .i64 p.2]
def qw(n:Int):Prop := -9223372036854775808<=n/\n<9223372036854775808
def Rz(n:Int):Prop := -1000000000000<=n/\n<=1000000000000
theorem qpQ{l:List Int}(h:i<l.length):(l.take (i+1)).sum=(l.take i).sum+l[i]:=by rw[take_succ_eq_append_getElem h,List.sum_append];simp
theorem jM:∀ (l:List Int) (i:Nat),(∀ n∈l,0<n)->0<=(l.take i).sum/\(l.take i).sum<=l.sum
 |[],i,_=>by simp
 |a::l,0,h=>by
  have:=jM l l.length λn hn=>h n (Gc _ hn);have h1:=h a Ce;rw[take_length] at this;rw[List.take_zero,List.sum_nil,sum_cons]
  omega
 |a::l,i+1,h=>by have:=jM l i λn hn=>h n (Gc _ hn);have h1:=h a Ce;rw[List.take_succ_cons,sum_cons,sum_cons];omega
theorem qu1{l:List (Nm×Int)}(h:i<l.length)(a:Int):jg a (l.take (i+1))=jg a (l.take i)++[(l[i].1,a+((l.map (·.2)).take i).sum)]:=by rw[take_succ_eq_append_getElem h,qqq,<-List.map_take];rfl
theorem qpG(r:Int×Int)(h2:Rz r.2):ca (KC B0 w0) 85 [Kq r] [] (Hb (bool (AG r))):=by
 obtain⟨a,n⟩:=r;unfold Rz at h2;simp only at h2;have hI:AG (a,n)=decide (0<=a/\a<=262144-n):=rfl;unfold Kq;refine Xa Tryz.func85 rfl (n:=14) rfl rfl rfl ?_;refine Xd ?_;refine oS (sB rfl λb1=>?_);refine ja ?_;refine oB 6 rfl (λh=>?_) λh=>?_;have h1:a ≥ 0:=zt h;refine Ga ?_
 exact Wa rfl (Oa rfl) (Ae (by
  rw[hI,Bool.eq_iff_iff,decide_eq_true_iff,decide_eq_true_iff];omega))
 have h1:¬ a ≥ 0:=zf h;refine qa ?_;exact Wa rfl (Oa rfl) (Ae (by
  rw[hI]
  symm
  exact decide_eq_false zo))
theorem qrh(r s:Int×Int)(h1:Rz r.1)(h2:Rz r.2)(h3:Rz s.1)(h4:Rz s.2):ca (KC B0 w0) 86 [Kq r,Kq s] [] (Hb (bool (NI r s))):=by
 obtain⟨a,n⟩:=r;obtain⟨b,m⟩:=s;unfold Rz at h1 h2 h3 h4;simp only at h1 h2 h3 h4;have hI:NI (a,n) (b,m)=decide (0<n/\0<m/\a<b+m/\b<a+n):=rfl;unfold Kq;refine Xa Tryz.func86 rfl (n:=33) rfl rfl rfl ?_;refine Xd ?_;refine oS (sB rfl λb1=>oS (sB rfl λb2=>?_));refine ja ?_;refine oB 8 rfl (λg1=>?_) λg1=>?_;rotate_left;have jD:¬ n > 0:=zf g1;refine qa ?_;exact Wa rfl (Oa rfl) (Ae (by rw[hI];symm;exact decide_eq_false zo));have jD:n > 0:=zt g1;refine Ga ?_;refine oB 13 rfl (λg2=>?_) λg2=>?_;rotate_left;have SB:¬ m > 0:=zf g2;refine qa ?_;exact Wa rfl (Oa rfl) (Ae (by rw[hI];symm;exact decide_eq_false zo));have SB:m > 0:=zt g2;refine Ga ?_;refine oB 23 rfl (λg3=>?_) λg3=>?_;rotate_left;have A6:¬ a<b+m:=zf g3;refine qa ?_;exact Wa rfl (Oa rfl) (Ae (by rw[hI];symm;exact decide_eq_false zo));have A6:a<b+m:=zt g3;refine Ga ?_
 exact Wa rfl (Oa rfl) (Ae (by
  rw[hI,Bool.eq_iff_iff,decide_eq_true_iff,decide_eq_true_iff];omega))
theorem qoP(vars:List Nm)(ba:List (Nm×Int))(fs:List ob)(o:fk)(hl:ba.length<=2000000)(hp:∀ a∈ba,0<a.2)(h0:0<=o.ba)(h1:o.ba+(ba.map (·.2)).sum<=262144):ca (KC B0 w0) 47 [Ti.fh vars ba fs,tA o] [] (Hb (.tuple [.list ((jg o.ba ba).map dL),int .i64 0])):=by
 have LB:(ba.map Ti.bc).length=ba.length:=ab _;have Bu:(ba.map (·.2)).length=ba.length:=ab _;have il:∀ n∈ba.map (·.2),0<n:=λn hn=>by obtain⟨a,ha,rfl⟩:=Ei hn;exact hp a ha
 unfold Ti.fh tA;refine Xa Tryz.func47 rfl (n:=50) rfl rfl rfl ?_;refine Xd ?_;refine oS (sB rfl λb2=>oS (sB rfl λb3=>?_));refine ja ?_
 refine oL (λkk ls H'=>∃ (i:Nat) (v:LV),i<=ba.length/\kk=ba.length-i/\ls=[(6,v),(7,int .i64 (o.ba+((ba.map (·.2)).take i).sum)),(13,.list (ba.map Ti.bc)),(14,int .i64 ba.length),(15,int .i64 (i:Nat))]/\GL.Acc 2 v ((jg o.ba (ba.take i)).map dL) H' [])
  ⟨_,_,_,⟨0,Ob,zero_le _,rfl,rfl,Acc.nil⟩,⟨rfl,lh (by simp),rfl,lh zo,rfl,trivial⟩,HSub.nil _⟩ ?_
 rintro kk ls H' ⟨i,v,hi,rfl,rfl,kb⟩ j hj;have Lp:=jM (ba.map (·.2)) i il;refine wg ?_;refine Ca (λhc=>?_) λhc=>?_;have za:i<ba.length:=by have:=zt hc;omega
 have hpi:=hp _ (getElem_mem za);have gl:=qpQ (l:=ba.map (·.2)) (i:=i) zo;rw[List.getElem_map] at gl;have xQ:=jM (ba.map (·.2)) (i+1) il;have hlen:((jg o.ba (ba.take i)).map dL).length=i:=by rw[ab,RX,length_take];omega
 generalize xH:((ba.map (·.2)).take i).sum=si at Lp gl;have hsy:=qu1 za o.ba;rw[xH] at hsy;refine Zi ?_;refine ia (xR (ve:=Ti.bc ba[i]) (cs:=[_,_]) rfl rfl zo (rn _ _ _ za) rfl rfl)<|Ga ?_;refine oS (Rc λb9=>?_);refine ja ?_;refine oB 21 rfl (λh=>?_) λ_=>?_;have:=zt h;omega;refine Ga ?_;refine oB 25 rfl (λh=>?_) λ_=>?_;have:=zt h;omega;refine Ga ?_;refine oB 30 rfl (λh=>?_) λ_=>?_;have:=zt h;omega;refine Ga ?_;refine Ca (λh=>?_) λ_=>?_;have:=zt h;omega;refine Zi ?_;refine Zm ?_;refine Ga ?_;refine Ui ?_;refine oS (S.nw rfl kb rfl (by simp;rfl) rfl (by rw[hlen];simp;omega) λv' H2 qb=>?_);refine ik ?_;refine oa ?_;exact⟨_,_,_,by omega,⟨i+1,v',by omega,rfl,rfl,by rw[hsy,Lf];exact qb⟩,⟨rfl,lh (by rw[gl];omega),rfl,rfl,lh zo,trivial⟩,Gg Ya,hj⟩;have xi:i=ba.length:=by have:=zf hc;omega
 subst xi;rw[take_length] at kb;refine Qa.sub (d:=6) (v:=v) rfl kb.sub ?_;refine cW Vc ?_;refine ja ?_;exact Wa hj (rC (Gd (v:=.list _) rfl ld) (Oa rfl)) rfl
theorem qsm(vars:List Nm)(ba:List (Nm×Int))(fs:List ob)(o:fk)(fB:vars.length<=2000000)(lK:fs.length<=2000000)(hl:ba.length<=2000000)(Bs:∀ f∈fs,pS f)(hn:∀ f∈fs,f.name.length<=1000/\∀ x∈f.params++f.locals,x.length<=1000)
  (hp:∀ a∈ba,0<a.2) (ht:(ba.map (·.2)).sum<=150000) (XJ:(Ad vars fs).length<=8000) (o1:qw o.code) (o2:qw o.scalars) (o3:qw o.ba) :
  ca (KC B0 w0) 45 [Ti.fh vars ba fs,tA o] [] (Hb (bool (Jq vars ba fs o))):=by
 have LB:(ba.map Ti.bc).length=ba.length:=ab _;have Bu:(ba.map (·.2)).length=ba.length:=ab _;have il:∀ n∈ba.map (·.2),0<n:=λn hn=>by obtain⟨a,ha,rfl⟩:=Ei hn;exact hp a ha
 have BQ:((Ad vars fs).map str).length=(Ad vars fs).length:=ab _;have hS:=Ti.Fh (B0:=B0) (w0:=w0) (vars:=vars) (fs:=fs) (.list (ba.map Ti.bc)) fB lK Bs hn;rw[qyy];unfold Ti.fh tA;refine Xa Tryz.func45 rfl (n:=63) rfl rfl rfl ?_;refine Xd ?_;refine oS (sB rfl λb2=>oS (sB rfl λb3=>?_));refine ja ?_
 refine oL (λkk ls H'=>∃ (i:Nat),i<=ba.length/\kk=ba.length-i/\ls=[(2,ptr b2 0),(3,ptr b3 0),(5,int .i64 (((ba.map (·.2)).take i).sum)),(14,.list (ba.map Ti.bc)),(15,int .i64 ba.length),(16,int .i64 (i:Nat))]/\H'=[(b3,.cells 48 [int .i64 o.code,int .i64 o.scalars,int .i64 o.ba]),(b2,.cells 68 [.list (vars.map str),.list (ba.map Ti.bc),.list (fs.map cg)])])
  ⟨_,_,_,⟨0,zero_le _,rfl,rfl,rfl⟩,jb,Tb _⟩ ?_
 rintro kk ls H' ⟨i,hi,rfl,rfl,rfl⟩ j hj;have Lp:=jM (ba.map (·.2)) i il;refine wg ?_;refine Ca (λhc=>?_) λhc=>?_;have za:i<ba.length:=by have:=zt hc;omega
 have hpi:=hp _ (getElem_mem za);have gl:=qpQ (l:=ba.map (·.2)) (i:=i) zo;rw[List.getElem_map] at gl;have xQ:=jM (ba.map (·.2)) (i+1) il;generalize xH:((ba.map (·.2)).take i).sum=si at Lp gl;refine Zi ?_;refine ia (xR (ve:=Ti.bc ba[i]) (cs:=[_,_]) rfl rfl zo (rn _ _ _ za) rfl rfl)<|Ga ?_;refine oS (Rc λb7=>?_);refine ja ?_;exact⟨_,_,_,by omega,⟨i+1,by omega,rfl,rfl,rfl⟩,⟨rfl,rfl,lh (by rw[gl]),rfl,rfl,lh zo,trivial⟩,Gg Ya,hj⟩;have xi:i=ba.length:=by have:=zf hc;omega
 subst xi;rw[<-Bu,take_length] at Lp ⊢;generalize (ba.map (·.2)).sum=total at Lp ht ⊢;generalize (Ad vars fs).length=ns at XJ BQ ⊢;refine qa ?_;refine bj (m:=16) rfl [(b3,.cells 48 [int .i64 o.code,int .i64 o.scalars,int .i64 o.ba]),(b2,.cells 68 [.list (vars.map str),.list (ba.map Ti.bc),.list (fs.map cg)])] ?_;refine lI ?_;refine aT 2 rfl rfl (pG (Ab:=[_,_,_]) rfl xf rfl rfl)<|aT 7 rfl rfl (pF rfl)<|aT 8 rfl rfl (pL (c:=.atom _) rfl Bb rfl)<|aT 9 rfl rfl (pB _ (cs:=[_,_]) rfl)<|aT 10 rfl rfl (pF rfl)<|aT 11 rfl rfl (pL (c:=.atom _) rfl Bb rfl)<|aT 12 rfl rfl (pM (lv:=.atom _) rfl)<|aT 13 rfl rfl (pB _ (cs:=[_,_]) rfl)<|aL ?_ Ya;refine lO 3 (lS (H1:=[]) rfl (.inl rfl) rfl Kb Ya (sF [_] rfl hS ?_));refine lO 4 (lH rfl rfl (Pure.pt rfl) ?_);refine lO 5 (lH rfl rfl (Pure.add rfl rfl zo) ?_);refine lO 6 (lH rfl rfl (pB _ (cs:=[_,_]) rfl) ?_);refine lO 14 (lS (H1:=[]) rfl (.inl rfl) rfl Kb Ya (sL (es:=[LV.agg [int .i64 o.scalars,int .i64 (3+(((Ad vars fs).map str).length:Int))],.agg [int .i64 o.code,int .i64 40000],.agg [int .i64 o.ba,int .i64 total]]) [_,_,_] rfl (Hd rfl rfl (Hd rfl rfl (Hd rfl rfl Ek))) rfl rfl rfl ?_));refine lO 15 (lH rfl rfl (pA (lv:=.list _) rfl) ?_);refine lD zk ?_;have e3:(3:Int)+(((Ad vars fs).map str).length:Int)=3+(ns:Nat):=by rw[BQ]
 rw[e3];generalize vk:[(o.scalars,(3:Int)+(ns:Nat)),(o.code,(40000:Int)),(o.ba,total)]=rs;have zj:([LV.agg [int .i64 o.scalars,int .i64 (3+(ns:Int))],.agg [int .i64 o.code,int .i64 40000],.agg [int .i64 o.ba,int .i64 total]]:List LV)=rs.map Kq:=by rw[<-vk];rfl
 rw[zj];have hlr:rs.length=3:=by rw[<-vk];rfl
 have gd:∀ r∈rs,Rz r.2/\0<=r.2:=by rw[<-vk];intro r hr;simp only[lc,List.not_mem_nil,or_false] at hr;unfold Rz;rcases hr with rfl|rfl|rfl <;> simp only <;> omega
 have hrm:(rs.map Kq).length=rs.length:=ab _;clear zj vk;generalize hR:RB [] rs=R;refine qN ?_;refine cW Vc ?_;refine ja ?_;refine oL (λkk ls H'=>∃ (i:Nat),i<=rs.length/\kk=rs.length-i/\ls=[(8,.list (rs.map Kq)),(40,.list (rs.map Kq)),(41,int .i64 rs.length),(42,int .i64 (i:Nat))]/\H'=[]/\RB (rs.take i) (rs.drop i)=R/\∀ r∈rs.take i,AG r=true)
  ⟨_,_,_,⟨0,zero_le _,rfl,rfl,rfl,hR,λr hr=>by cases hr⟩,jb,Tb _⟩ ?_
 rintro kk ls H' ⟨i,hi,rfl,rfl,rfl,IH,aR⟩ j1 Vf;refine wg ?_;refine Ca (λhc=>?_) λhc=>?_;rotate_left;have xi:i=rs.length:=by have:=zf hc;omega
 subst xi;rw[List.drop_length,RB] at IH;refine oa ?_;exact Wa (Vf.trans hj) (Oa rfl) (Ae IH);have za:i<rs.length:=by have:=zt hc;omega
 have xH:=gd _ (getElem_mem za);rw[List.drop_eq_getElem_cons za,RB,<-take_succ_eq_append_getElem za] at IH;generalize hgr:rs[i]=r at IH xH;refine oa ?_;refine ia (xR (ve:=Kq r) (cs:=[_,_]) rfl rfl zo (by rw[<-hgr];exact rn _ _ _ za) rfl rfl)<|Ga ?_;refine oS (Rc λN6=>?_);refine ja ?_;refine oS (sF [_] rfl (qpG r xH.1) ?_);refine Ga ?_;refine Ca (λh=>?_) λh=>?_;have h':AG r=false:=by simpa using h
 rw[h',Di,Di] at IH;refine oa ?_;exact Wa (Vf.trans hj) (Oa rfl) (Ae IH);have h':AG r=true:=by simpa using h
 rw[h',Bool.true_and] at IH;have inb:∀ r:Int×Int,Rz r.2/\0<=r.2->AG r=true->Rz r.1:=λr h1 h2=>by have:0<=r.1/\r.1<=262144-r.2:=zt h2;unfold Rz at h1 ⊢;omega
 have hri:=inb r xH h';have jB:(rs.take i).length=i:=by rw[length_take];omega
 have htm:((rs.take i).map Kq).length=i:=by rw[ab,jB]
 have hts:((rs.map Kq).take i)=(rs.take i).map Kq:=List.map_take.symm;refine oa ?_;refine ia (Pure.Ww (i:=0) (j:=(i:Nat)) (es:=rs.map Kq) (ms:=(rs.take i).map Kq) rfl rfl ⟨_,rfl⟩ zo zo zo (λv hv=>by obtain⟨r,_,rfl⟩:=Ei hv;rfl) (by rw[Int.toNat_natCast,<-hts];rfl))<|Ga ?_;refine oL (λkk ls H'=>∃ (x:Nat),x<=i/\kk=i-x/\ls=[(8,.list (rs.map Kq)),(10,ptr N6 0),(40,.list (rs.map Kq)),(41,int .i64 rs.length),(42,int .i64 (i:Nat)),(52,.list ((rs.take i).map Kq)),(53,int .i64 i),(54,int .i64 (x:Nat))]/\H'=[(N6,.cells 177 [int .i64 r.1,int .i64 r.2])]/\((((rs.take i).drop x).all λs=>!NI r s) && RB (rs.take (i+1)) (rs.drop (i+1)))=R)
  ⟨_,_,_,⟨0,zero_le _,rfl,rfl,rfl,by rw[List.drop_zero];exact IH⟩,jb,Tb _⟩ ?_
 rintro kk ls H' ⟨x,hx,rfl,rfl,rfl,ug⟩ j2 tc;refine wg ?_;refine Ca (λhc=>?_) λhc=>?_;have yB:x<(rs.take i).length:=by have:=zt hc;omega
 have Uy:=getElem_mem yB;have yQ:=gd _ (List.mem_of_mem_take Uy);have hsn:=inb _ yQ (aR _ Uy);rw[List.drop_eq_getElem_cons yB,List.all_cons] at ug;generalize A4:(rs.take i)[x]=s at ug yQ hsn;refine Zi ?_;refine ia (xR (ve:=Kq s) (cs:=[_,_]) rfl rfl zo (by rw[<-A4];exact rn _ _ _ yB) rfl rfl)<|Ga ?_;refine oS (Rc λJF=>?_);refine ja ?_;refine oS (sF [_,_] rfl (qrh r s hri xH.1 hsn yQ.1) ?_);refine Qc ?_;refine Ca (λh=>?_) λh=>?_;have h2:NI r s=true:=h;rw[h2] at ug;refine oa ?_;exact Wa (tc.trans (Vf.trans hj)) (Oa rfl) (Ae (by rw[<-ug];rfl));have h2:NI r s=false:=h;rw[h2] at ug;refine oa ?_;exact⟨_,_,_,by omega,⟨x+1,by omega,rfl,rfl,rfl,ug⟩,jb,Gg Ya,tc⟩;have Cn:x=i:=by have:=zf hc;omega
 subst Cn;rw[List.drop_eq_nil_of_le (by rw[jB];exact Nb _)] at ug;refine oa ?_;exact⟨_,_,_,by omega,⟨x+1,by omega,rfl,rfl,rfl,ug,λq hq=>by
  rw[take_succ_eq_append_getElem za,hgr] at hq;rcases vj hq with hq|hq;exact aR q hq;rw[cj hq];exact h'⟩,jb,HSub.nil _,tc.trans Vf⟩
def Xg(S:Int):Nat->List Nm->KV
 |_,[]=>[]
 |i,x::r=>(x,int .i64 (S+3+(i:Nat)))::Xg S (i+1) r
theorem qpV(S:Int):∀ (l m:List Nm) (i:Nat),Xg S i (l++m)=Xg S i l++Xg S (i+l.length) m
 |[],m,i=>by simp[Xg]
 |x::r,m,i=>by rw[cons_append,Xg,qpV S r m,Xg,cons_append,Ba,Nat.add_right_comm,Nat.add_assoc]
theorem qod(S:Int):∀ (l:List Nm) (i:Nat),(Xg S i l).map (·.1)=l
 |[],i=>rfl
 |x::r,i=>by rw[Xg,jd,qod S r]
theorem qsL{S:Int}{l:List Nm}(h:i<l.length)(hn:l.Nodup):GL.rc (Xg S 0 (l.take i)) l[i] (int .i64 (S+3+(i:Nat)))=Xg S 0 (l.take (i+1)):=by rw[take_succ_eq_append_getElem h,qpV,length_take,Nat.zero_add,Nat.min_eq_left zo];refine dT ?_;rw[qod];intro hm;rw[<-List.take_append_drop i l,List.drop_eq_getElem_cons h,List.nodup_append] at hn;exact hn.2.2 _ hm _ Ce rfl
theorem iY(S:Int)(k:Nm):∀ (l:List Nm) (i:Nat),GL.db (Xg S i l) k=if k∈l then some (int .i64 (S+3+((i+l.idxOf k:Nat):Int))) else none
 |[],i=>rfl
 |x::r,i=>by rw[Xg,GL.db];by_cases h:x=k;rw[zp h,zp (by rw[h];exact List.mem_cons_self ..),List.idxOf_cons,h];simp;rw[zn h,iY S k r (i+1)];by_cases hm:k∈r;rw[zp hm,zp (Gc _ hm),List.idxOf_cons,cond_eq_ite,zn (by simpa using h)];congr 4;omega;rw[zn hm,zn (by rw[lc];exact λg=>g.elim (λe=>h e.symm) hm)]
def Nn(l:List (Nm×Int)):KV:=l.map λp=>(p.1,int .i64 p.2)
theorem qst{l:List (Nm×Int)}(h:i<l.length)(hn:(l.map (·.1)).Nodup):GL.rc (Nn (l.take i)) l[i].1 (int .i64 l[i].2)=Nn (l.take (i+1)):=by
 unfold Nn;rw[take_succ_eq_append_getElem h,Lf];refine dT ?_;rw[map_map];intro hm;have e1:l.map (·.1)=(l.take i).map (·.1)++l[i].1::(l.drop (i+1)).map (·.1):=by
  conv=>lhs;rw[<-List.take_append_drop i l,List.drop_eq_getElem_cons h]
  rw[Lf,jd]
 rw[e1,List.nodup_append] at hn;exact hn.2.2 _ hm _ Ce rfl
theorem qp5(name:Nm):∀ (l:List (Nm×Int)) (a:Int),(GL.db (Nn (jg a l)) name).getD (int .i64 0)=int .i64 (Ri a l name)
 |[],a=>rfl
 |(x,n)::r,a=>by rw[jg,Ri];show(GL.db ((x,int .i64 a)::Nn (jg (a+n) r)) name).getD (int .i64 0)=_;rw[GL.db];simp only;by_cases h:x=name;rw[zp h,zp h];rfl;rw[zn h,zn h];exact qp5 name r (a+n)
def fL:Except Int Wd->LV
 |.error e=>.tuple [str [],int .i64 e]
 |.ok t=>.tuple [str t,int .i64 0]
theorem bO{P:Pr}{o:fk}(hF:sw P o)(own:Nm)(ho:own.length<=1000000)(b1 b2 b3 g1 g2:Nat):Rr ⟨b1,b2,b3,Xg o.scalars 0 (Ad P.vars P.funcs),Nn (jg o.ba (Ue P)),g1,g2,o.scalars.toNat⟩ (Bp P.vars (Ue P) P.funcs o own) own:=by
 have s0:=hF.s0;have s1:=hF.s1;have a0:=hF.a0;have a1:=hF.a1;have hp:∀ p∈Ue P,0<=p.2:=λp hp=>by obtain⟨a,_,rfl⟩:=Ei hp;exact Int.natCast_nonneg _
 have yp:∀ k,0<=Nw (Ad P.vars P.funcs) o.scalars k/\Nw (Ad P.vars P.funcs) o.scalars k<=262144/\(k∈Ad P.vars P.funcs->int .i64 (o.scalars+3+((0+(Ad P.vars P.funcs).idxOf k:Nat):Int))=int .i64 (((Nw (Ad P.vars P.funcs) o.scalars k).toNat:Nat):Int)):=λk=>by unfold Nw;by_cases h:k∈Ad P.vars P.funcs;have:=List.idxOf_lt_length_of_mem h;rw[zp h];exact⟨by omega,by omega,λ_=>lh zo⟩;rw[zn h];exact⟨by omega,by omega,λh2=>absurd h2 h⟩
 refine⟨λname=>?_,λname=>?_,?_,?_,?_,?_,ho⟩;refine⟨(Nw (Ad P.vars P.funcs) o.scalars (Gt (Ad P.vars P.funcs) own name)).toNat,?_,?_,?_⟩;have:=yp (Gt (Ad P.vars P.funcs) own name);omega;exact jv (yp _).1;show(∃ v,GL.db (Xg o.scalars 0 (Ad P.vars P.funcs)) (own++[46]++name)=some v/\_)∨(GL.db (Xg o.scalars 0 (Ad P.vars P.funcs)) (own++[46]++name)=none/\(GL.db (Xg o.scalars 0 (Ad P.vars P.funcs)) name).getD _=_);rw[iY,iY];unfold Gt
 by_cases h:own++[46]++name∈Ad P.vars P.funcs;left;rw[zp h,zp h];exact⟨_,rfl,(yp _).2.2 h⟩;right;rw[zn h,zn h];refine⟨rfl,?_⟩;by_cases h2:name∈Ad P.vars P.funcs;rw[zp h2];exact(yp _).2.2 h2;rw[zn h2];unfold Nw;rw[zn h2];rfl;have h1:=mP (Ue P) o.ba a0 hp name;have h2:=CL (Ue P) o.ba a0 hp name;have h3:((Ue P).map (·.2)).sum=((Fj P.ba:Nat):Int):=bP P.ba;rw[h3] at h2;refine⟨(Ri o.ba (Ue P) name).toNat,by omega,jv h1,?_⟩;show(GL.db (Nn (jg o.ba (Ue P))) name).getD _=_;rw[qp5];exact lh zo;exact jv s0;show itoa (o.scalars+1)=_;rw[jv zo];congr 1;show _=o.scalars.toNat+1;omega;show itoa (o.scalars+2)=_;rw[jv zo];congr 1;show _=o.scalars.toNat+2;omega;show o.scalars.toNat<=_;omega
theorem zT{s:Nm}(h:Le s=true):s.length<=24:=by unfold Le at h;rw[Yc,Yc,Mf] at h;exact h.1.1
theorem qzO{P:Pr}(hv:Valid P){f:ob}(hf:f∈P.funcs)(Sv:∀ x∈f.params++f.locals,x.length<=24){kn:List Nd}(hk:DI P.funcs kn):xq (Wf P.vars (P.ba.map (·.name)) (P.funcs.map (·.name)) kn f):=by
 have Nl:=sv _ _ hv.names;refine⟨λs hs=>?_,λk Yn=>?_⟩;unfold Vr at hs;split at hs
 rename_i h;rcases h with h|h;exact zT (Nl.2 s (List.mem_append_left _ (List.mem_append_left _ h))).2;exact Sv s h;split at hs <;> cases hs;obtain⟨g,g1,g2,_⟩:=hk k Yn;rw[<-g2];exact zT (Nl.2 _ (mem_append_right _ (List.mem_map_of_mem g1))).2
theorem qn1:∀ (vars ba later:List Nm) (known:List Nd) (fs:List ob),Ur vars ba later known fs=0->∀ f∈fs,∀ x∈f.params++f.locals,x.length<=24
 |_,_,_,_,[],_,f,hf=>(List.not_mem_nil hf).elim
 |vars,ba,later,known,g::l,h,f,hf=>by rw[Ur] at h;obtain⟨h1,h2⟩:=Dc.1 h;rcases lc.1 hf with rfl|hf;unfold Yt at h1;intro x hx;exact zT ((sv _ _ (Dc.1 h1).1).2 x hx).2;exact qn1 vars ba later _ l h2 f hf
theorem qAx{t s a b3 b2:Nat×ga}:[t,b3,s,a,b2].Perm ([t,s,a]++[b3,b2]):=Sr _ ((Vp _ _ _).trans (Sr _ (Vp _ _ _)))
theorem qnL(hG:GW B0 w0)(hM:Sp.GM w0)(vars:List Nm)(ba:List (Nm×Int))(fs:List ob)(o:fk)(fB:vars.length<=2000000)(OM:ba.length<=2000000)(qK:∀ a∈ba,qw a.2)(dh:Qd fs<=2000000)(Vb:∀ f∈fs,Hi f.body)(o1:qw o.code)(o2:qw o.scalars)(o3:qw o.ba) :
  ca (KC B0 w0) 28 [Ti.fh vars ba fs,tA o] [] (Hb (fL (Tj vars ba fs o))):=by
 have Fs:=Ti.Ff (B0:=B0) (w0:=w0) vars ba fs fB OM qK dh;have lK:=qU fs;have Bs:∀ f∈fs,pS f:=λf hf=>YW (by have:=jU hf;omega);generalize hC:Tj vars ba fs o=R;unfold Tj at hC;have VV:Ti.fh vars ba fs=.agg [.list (vars.map str),.list (ba.map Ti.bc),.list (fs.map cg)]:=rfl;have D6:tA o=.agg [int .i64 o.code,int .i64 o.scalars,int .i64 o.ba]:=rfl;rw[VV,D6];refine Xa Tryz.func28 rfl (n:=102) rfl rfl rfl ?_;refine Xd ?_;refine oS (sB rfl λb2=>oS (sB rfl λb3=>?_));refine ja ?_;refine oS (S.Ec (H1:=[]) (F:=[_,_]) [_] rfl Kb Fs ?_ (by rintro ch H' ⟨_,nm,h⟩;cases h));rintro lv H' ⟨rfl,nm,h⟩;cases h;refine ja ?_
 by_cases fD:Uq vars ba fs=0;rotate_left;rw[zp fD] at hC;subst hC;refine Ca (λ_=>?_) λhc=>?_;refine oa ?_;exact Wa rfl (rC (Ic rfl) (Oa rfl)) rfl;have h2:(!decide (Uq vars ba fs=0))=false:=hc;simp at h2;exact absurd h2 fD;refine Ca (λhc=>?_) λ_=>?_;have h2:(!decide (Uq vars ba fs=0))=true:=hc;simp[fD] at h2;rw[zn (by simpa using fD)] at hC;obtain⟨ht,hp,AR,hPc,hV⟩:=qoX fD
 have Sv:∀ f∈fs,∀ x∈f.params++f.locals,x.length<=24:=by have h:=fD;unfold Uq at h;exact qn1 _ _ _ _ _ (Dc.1 (Dc.1 (Dc.1 h).2).2).1
 have Nl:=sv _ _ hV.names;have Kc:∀ f∈fs,f.name.length<=24:=λf hf=>zT (Nl.2 _ (mem_append_right _ (List.mem_map_of_mem hf))).2;have hn:∀ f∈fs,f.name.length<=1000/\∀ x∈f.params++f.locals,x.length<=1000:=λf hf=>⟨by have:=Kc f hf;omega,λx hx=>by have:=Sv f hf x hx;omega⟩;have D2:(Ad vars fs).length<=8000:=hV.az;have IV:=qsm (B0:=B0) (w0:=w0) vars ba fs o fB zo OM Bs hn hp ht D2 o1 o2 o3;rw[VV,D6] at IV;refine ja ?_;refine oS (sF [_,_] rfl IV ?_);refine Ga ?_
 by_cases de:Jq vars ba fs o=true;rotate_left;rw[zp (by simpa using de)] at hC;subst hC;refine Ca (λ_=>?_) λhc=>?_;refine Qj ?_;exact Wa rfl (rC (Ic rfl) (Oa rfl)) rfl;have h2:(!Jq vars ba fs o)=false:=hc;simp at h2;exact absurd h2 de;refine Ca (λhc=>?_) λ_=>?_;have h2:(!Jq vars ba fs o)=true:=hc;rw[de] at h2;cases h2;rw[zn (by rw[de];decide)] at hC;have KH:Jq (Th vars ba fs).vars (Ue (Th vars ba fs)) (Th vars ba fs).funcs o=true:=by rw[AR];exact de
 have hF:=zC KH;have hS:=Ti.Fh (B0:=B0) (w0:=w0) (vars:=vars) (fs:=fs) (.list (ba.map Ti.bc)) fB zo Bs hn;have hT:=hF.s1;have hS0:=hF.s0;have CK:=hF.a1;have UH:=hF.a0;have YQ:(Ad vars fs).Nodup:=hV.keys;have VJ:(ba.map (·.2)).sum=((Fj (Th vars ba fs).ba:Nat):Int):=by have:=bP (Th vars ba fs).ba;rw[<-this];congr 2;exact AR.symm
 have hAs:=qoP (B0:=B0) (w0:=w0) vars ba fs o OM hp UH (by rw[VJ];omega);rw[VV,D6] at hAs;have yR:o.scalars.toNat+3+(Ad vars fs).length<=262144:=hT;refine oa ?_;refine oS (S.fl λsm=>oS (S.fl λam=>?_));refine Ga ?_;refine oS (sB rfl λtb=>?_);refine ja ?_;refine oS (sF [_] rfl hS ?_);have lr:((Ad vars fs).map str).length=(Ad vars fs).length:=ab _;refine Ga ?_;generalize AQ:Ad vars fs=sl at *
 refine oL (λkk ls H'=>∃ (i g1:Nat),i<=sl.length/\kk=sl.length-i/\ls=[(2,ptr b2 0),(3,ptr b3 0),(8,ptr tb 0),(39,.list (sl.map str)),(40,int .i64 sl.length),(41,int .i64 (i:Nat))]/\H'=[(tb,.cells 121 [Ob,int .i64 0,int .i64 o.scalars,.atom (.map (some sm)),.atom (.map (some am)),str []]),(b3,.cells 48 [int .i64 o.code,int .i64 o.scalars,int .i64 o.ba]),(sm,.map (ye (Xg o.scalars 0 (sl.take i))) g1),(am,.map (ye []) 0),(b2,.cells 68 [.list (vars.map str),.list (ba.map Ti.bc),.list (fs.map cg)])])
  ⟨_,_,_,⟨0,0,zero_le _,rfl,rfl,rfl⟩,jb,Pb pH (Pb Bj (Pb Fc Ya))⟩ ?_
 rintro kk ls H' ⟨i,g1,hi,rfl,rfl,rfl⟩ j hj;refine wg ?_;refine Ca (λhc=>?_) λhc=>?_;have za:i<sl.length:=by have:=zt hc;omega
 have YE:=qsL (S:=o.scalars) za YQ;refine oa ?_;refine ia (xR (ve:=str sl[i]) (cs:=[str sl[i]]) rfl rfl zo (rn _ _ _ za) rfl rfl)<|Ga ?_;refine bj (m:=11) rfl [(tb,.cells 121 [Ob,int .i64 0,int .i64 o.scalars,.atom (.map (some sm)),.atom (.map (some am)),str []]),(b3,.cells 48 [int .i64 o.code,int .i64 o.scalars,int .i64 o.ba])] ?_;refine Mx ?_;refine aT 3 rfl rfl (pL (c:=.atom _) rfl Bb rfl)<|aT 4 rfl rfl (pM (lv:=.atom _) rfl)<|aT 5 rfl rfl (pF rfl)<|aT 6 rfl rfl (pL (c:=.atom _) rfl xf rfl)<|aT 7 rfl rfl (Pure.add rfl rfl zo)<|aT 8 rfl rfl (pM (lv:=.atom _) rfl)<|aT 9 rfl rfl (Pure.add rfl rfl zo)<|aL ?_ jG;refine lO 10 (lS (H1:=[(sm,.map (ye (Xg o.scalars 0 (sl.take i))) g1)]) rfl (.inl rfl) rfl (show zd _ _ _ from fc Fc) jG (S.Mm (k:=sl[i]) (lv:=int .i64 (o.scalars+3+(i:Nat))) rfl rfl rfl pH λjD=>?_));rw[YE];refine lD zk ?_;refine rl ?_;exact⟨_,_,_,by omega,⟨i+1,jD,by omega,rfl,rfl,rfl⟩,jb,Pb Fc (Pb Fc Ya),hj⟩;have xi:i=sl.length:=by have:=zf hc;omega
 subst xi;rw[take_length];have rH:=RX ba o.ba;have hyn:((jg o.ba ba).map (·.1)).Nodup:=by
  rw[qlQ];have h1:=(Dm (Dm Nl.1).1).2.1;have e1:(Th vars ba fs).ba.map (·.name)=ba.map (·.1):=by unfold Th;rw[map_map];rfl
  rw[e1] at h1;exact h1
 have hym:((jg o.ba ba).map dL).length=(jg o.ba ba).length:=ab _;refine ja ?_;refine oS (sF [_,_] rfl hAs ?_);refine ja ?_;generalize hyy:jg o.ba ba=ys at *;refine oC rfl (λh=>by cases h) λ_=>?_;refine ja ?_
 refine oL (λkk ls H'=>∃ (i g2:Nat),i<=ys.length/\kk=ys.length-i/\ls=[(2,ptr b2 0),(3,ptr b3 0),(8,ptr tb 0),(66,.list (ys.map dL)),(67,int .i64 ys.length),(68,int .i64 (i:Nat))]/\H'=[(tb,.cells 121 [Ob,int .i64 0,int .i64 o.scalars,.atom (.map (some sm)),.atom (.map (some am)),str []]),(b3,.cells 48 [int .i64 o.code,int .i64 o.scalars,int .i64 o.ba]),(sm,.map (ye (Xg o.scalars 0 sl)) g1),(am,.map (ye (Nn (ys.take i))) g2),(b2,.cells 68 [.list (vars.map str),.list (ba.map Ti.bc),.list (fs.map cg)])])
  ⟨_,_,_,⟨0,0,zero_le _,rfl,rfl,rfl⟩,jb,Tb _⟩ ?_
 rintro kk ls H' ⟨i,g2,hi,rfl,rfl,rfl⟩ j2 tc;refine wg ?_;refine Ca (λhc=>?_) λhc=>?_;have za:i<ys.length:=by have:=zt hc;omega
 have YE:=qst za hyn;refine Zi ?_;refine ia (xR (ve:=dL ys[i]) (cs:=[_,_]) rfl rfl zo (rn _ _ _ za) rfl rfl)<|Ga ?_;refine oS (Rc λXM=>?_);refine Ga ?_;refine bj (m:=9) rfl [(XM,.cells 126 [str ys[i].1,int .i64 ys[i].2]),(tb,.cells 121 [Ob,int .i64 0,int .i64 o.scalars,.atom (.map (some sm)),.atom (.map (some am)),str []])] ?_;refine xN ?_;refine aT 6 rfl rfl (pF rfl)<|aT 7 rfl rfl (pL (c:=.atom _) rfl Bb rfl)<|aL ?_ jG;refine lO 8 (lS (H1:=[(am,.map (ye (Nn (ys.take i))) g2)]) rfl (.inl rfl) rfl (show zd _ _ _ from fc Uz) jG (S.Mm (k:=ys[i].1) (lv:=int .i64 ys[i].2) rfl rfl rfl pH λSB=>?_));rw[YE];refine lD zk ?_;refine rl ?_;exact⟨_,_,_,by omega,⟨i+1,SB,by omega,rfl,rfl,rfl⟩,jb,Pb Bj (Pb Bj (Pb Bj (Pb pH (Gg Ya)))),tc⟩;have xi:i=ys.length:=by have:=zf hc;omega
 subst xi;rw[take_length];have R1:=λown ho=>bO (P:=Th vars ba fs) hF own ho tb sm am g1 g2;rw[AR] at R1;have hW:=DX hPc Vb KH dh;have hjt:=SL (Mg (Th vars ba fs) o)
 have hwc:Mg (Th vars ba fs) o=JA vars ba fs o:=by unfold Mg;rw[AR];rfl
 rw[hwc] at hW hjt;have Pt:Bp (Th vars ba fs).vars ba (Th vars ba fs).funcs o=Bp vars ba fs o:=rfl;rw[AR,Pt] at hW;have zM:=HT (JA vars ba fs o);have IM:Qd (Th vars ba fs).funcs=Qd fs:=rfl;rw[IM] at hW;have hpw:JA vars ba fs o=[[38,102,95,109,97,105,110],[58],decDigits o.scalars.toNat,[33],[36]]++(Cc (Bp vars ba fs o) 0 fs).1:=by unfold JA;rw[jv hS0]
 have yp:(JA vars ba fs o).length=5+(Cc (Bp vars ba fs o) 0 fs).1.length:=by rw[hpw,ya];rfl
 have Xy:Aj ⟨tb,sm,am,Xg o.scalars 0 sl,Nn ys,g1,g2,o.scalars.toNat⟩ [] [] 0 [(tb,.cells 121 [Ob,int .i64 0,int .i64 o.scalars,.atom (.map (some sm)),.atom (.map (some am)),str []]),(sm,.map (ye (Xg o.scalars 0 sl)) g1),(am,.map (ye (Nn ys)) g2)]:=⟨Ob,[],Acc.nil,by
  simp only;rw[Int.toNat_of_nonneg hS0];rfl⟩
 have hpg:=rJ (B0:=B0) (w0:=w0) hG (k:=⟨tb,sm,am,Xg o.scalars 0 sl,Nn ys,g1,g2,o.scalars.toNat⟩) (cc:=Bp vars ba fs o) (by show o.scalars.toNat<=_;omega) vars ba fs dh (λf hf=>by
  obtain⟨kn,k1,k2⟩:=hV.jw f hf;refine⟨?_,Kc f hf,λp hp=>by have:=Sv f hf p (List.mem_append_left _ hp);omega,Vb f hf,_,qzO hV hf (Sv f hf) k2,k1⟩;have:=R1 f.name (by have:=Kc f hf;omega);rw[<-AQ,<-hyy];exact this) (own0:=[]) (c0:=Bp vars ba fs o []) (by
  have:=R1 [] da;rw[<-AQ,<-hyy];exact this) _ Xy zo
 rw[VV] at hpg;refine ja ?_;refine oS (Je (F:=[_,_]) [_,_] rfl qAx hpg λH2 h2=>?_);obtain⟨own,n,h2⟩:=h2;rw[<-hpw] at h2;generalize JA vars ba fs o=W at *;obtain⟨v,Hv,kb,rfl⟩:=h2;have j0:=Sp.ah (B0:=B0) (w0:=w0) [32] W zo zo;have Oj:=Sp.ek (B0:=B0) (w0:=w0) hG hM (join W [32]) o.code zo;refine oa ?_;refine ia (pL (c:=v) rfl Vz rfl)<|wa.sub 87 rfl kb.sub ?_;refine oS (sF [_,_] rfl j0 ?_);refine oa ?_
 cases hx:vh (join W [32]) o.code with
 |error e=>
  rw[hx] at Oj hC;simp only at hC;subst hC;refine oS (sF [_,_] rfl Oj ?_);unfold Sp.cu;refine ja ?_;have he:¬ (e.2:Int)=0:=by have h3:=hF.c1;have h4:=hF.c0;have:=qvE zo hx;omega
  refine Ca (λ_=>?_) λhc=>?_;refine oa ?_;exact Wa (tc.trans hj) (rC (Ic rfl) (Oa rfl)) rfl;have h2:(!decide ((e.2:Int)=0))=false:=hc;simp at h2
  omega
 |ok x=>rw[hx] at Oj hC;simp only at hC;subst hC;refine oS (sF [_,_] rfl Oj ?_);unfold Sp.cu;refine ja ?_;refine oC rfl (λhc=>by cases hc) λ_=>?_;refine oa ?_;exact Wa (tc.trans hj) (rC (Ic rfl) (Oa rfl)) rfl
end Go.Proofs.YtmnjklgnhpnckaaGreatDoor.bN
namespace Go.Proofs.YtmnjklgnhpnckaaGreatDoor.pi
open Go.GL Go.RowKit Go.ea
theorem Zt(p:Pr):Tu p=Ti.fh p.vars (p.ba.map λa=>(a.name,(a.size:Int))) p.funcs:=by unfold Tu Ti.fh;rw[map_map];rfl
attribute [local irreducible] wa Qa Ra ca Go.GL.Pure Ud xe od LQ Eb Tf Rh LS
variable{B0:Nat}{w0:World}
theorem xl{p:Pr}{n:Nat}(h:QF p n)(hn:n<=2000000):ca (KC B0 w0) 27 [Tu p] [] (λr H=>H=[]/\∃ nm,r=.ret (.tuple [str nm,int .i64 (qp p)])):=by
 rw[Zt];exact Ti.Ff _ _ _ (Se h.vars hn) (by rw[ab];exact Se h.ba hn) (λa ha=>by
  obtain⟨x,hx,rfl⟩:=Ei ha;have:=h.size x hx;constructor;show(-9223372036854775808:Int)<=(x.size:Int);omega;show(x.size:Int)<9223372036854775808;omega) (Se h.funcs hn)
end Go.Proofs.YtmnjklgnhpnckaaGreatDoor.pi
namespace Go.Proofs.YtmnjklgnhpnckaaGreatDoor.pi
open Go.GL Go.RowKit Go.ea
@[reducible] def Same(v:LV)(H:Heap):re->Heap->Prop:=λr H'=>r=.ret v/\H'=H
section steps
variable{C:Ctx}{n:Nat}{e:Env}{H:Heap}{dst:Option Nat}{ty:TypeId}{pos:String}{ka:Array Edge}{g:Option (Nat×Bool)}{K:LV->Heap->Prop}{X:List PanicEntry->Heap->Prop}
theorem Ao{rs:List ResultVar}{vs:List LV}{lv:LV}{H0:Heap}(hd:e.ds=[])(h:Zl C n e H rs vs)(hv:qh vs=lv)(hH:HSub H0 H):od C n rs (Same lv H0) .ret e H:=
 rR hd h hH ⟨by rw[hv],rfl⟩
end steps
theorem gn(n:Int):IntKind.u32.wrap n=n % 4294967296:=by simp only[IntKind.wrap,IntKind.bits,IntKind.signed,Di];rfl
theorem Ji{a:Int}{b:Nat}(h:a=b):int .u32 a=u32 b:=by rw[h]
section
variable{a b:Nat}
theorem tu(ha:a<4294967296)(hb:b<4294967296):IntKind.u32.wrap ((BitVec.ofInt IntKind.u32.bits a ^^^ BitVec.ofInt IntKind.u32.bits b).toNat:Nat)=((a ^^^ b:Nat):Int):=by
 rw[gn,BitVec.toNat_xor];have h1:∀ n:Nat,n<4294967296->(BitVec.ofInt IntKind.u32.bits (n:Int)).toNat=n:=λn hn=>by rw[BitVec.ofInt_natCast,BitVec.toNat_ofNat];exact Nat.mod_eq_of_lt hn
 rw[h1 a ha,h1 b hb];have:a ^^^ b<4294967296:=Nat.xor_lt_two_pow (n:=32) ha hb;omega
end
section
variable{C:Ctx}{e:Env}{H:Heap}{dst:Option Nat}{ty:TypeId}{pos:String}{ka:Array Edge}{g:Option (Nat×Bool)}{x:Operand}
end
theorem QT(n:Nat):IntKind.u8.wrap (n:Int)=((UInt8.ofNat n).toNat:Int):=by
 have h:IntKind.u8.wrap (n:Int)=(n:Int) % 256:=by simp only[IntKind.wrap,IntKind.bits,IntKind.signed,Di];rfl
 rw[h];have h2:(UInt8.ofNat n).toNat=n % 256:=by simp
 rw[h2];omega
theorem AX{s:Nat}{v:LV}{es:List LV}{H F:Heap}(h:GL.Acc s v es H F):v.cells? = some [v]/\([v].all Tq)=true:=by cases h <;> exact⟨rfl,rfl⟩
theorem Rh.IA{C:Ctx}{e:Env}{H:Heap}{dst:Option Nat}{ty:TypeId}{pos:String}{ka:Array Edge}{n:Nat}{ops:Array Oper}{Q:uc}{HF:Heap}{ua:Nat}{listed:Array Bool}{i j d:Nat}{b:Bool}{op:Op}{lv:LV}(hi:ops[i]? = some ⟨dst,op,ty,pos,ka,some (j,b)⟩)(hj:(ops[j]?).bind (·.dst)=some d)(hb:e.s d=.atom (.bool b))(hd:Fl n dst)
  (hp:Go.GL.Pure C ⟨dst,op,ty,pos,ka,some (j,b)⟩ e H lv) (k:Tf C n ops Q HF ua (listed.setIfInBounds i true) (e.put dst lv) H):Rh C n ops Q HF ua listed e H i:=λw0 L0 a w L hL hA gd hE hH=>by
 obtain⟨v,hv,Ge⟩:=hp a.eval w L hE.ev hH;unfold wpOp;rw[hi];simp only;rw[zp (by simp[Region.wanted,VG hE hj hb])];refine .inl ?_;unfold Oper.wp;rw[Ge w (Zp.refl _ _ _)];exact⟨hA,k w0 L0 _ w L hL hA gd (hE.put hd hv) hH⟩
end Go.Proofs.YtmnjklgnhpnckaaGreatDoor.pi
namespace Go.Proofs.YtmnjklgnhpnckaaGreatDoor.YM
open Go.GL Go.RowKit Go.ea
open pi (u32)
variable{el:Nat}
def us(l:List Nat):List LV:=l.map u32
theorem yA(l:List Nat):(us l).length=l.length:=ab _
theorem qs9(l:List Nat):∀ v∈us l,v.cells.length=1:=λv hv=>by obtain⟨a,_,rfl⟩:=Ei hv;rfl
theorem aP:∀ l:List Nat,(us l).flatMap LV.cells=us l
 |[]=>rfl
 |a::l=>by show(u32 a::us l).flatMap LV.cells=u32 a::us l;rw[List.flatMap_cons,aP l];rfl
theorem aE(l m:List Nat):us (l++m)=us l++us m:=Lf
theorem tX{b m cap:Nat}{l:List Nat}{spare:List LV}(hm:l.length=m)(hc:m<=cap)(hl:m+spare.length=cap):jf el 1 (.slice (some ⟨b,0,none⟩) m cap) (us l) [(b,.cells el (us l++spare))]:=
 jf.nj (qs9 l) (aP l) (by rw[yA];exact hm) hc hl
theorem WT{s:Nat}{v:Value}{es:List LV}{H:Heap}(h:jf el s v es H):(LV.atom v).cells? = some [LV.atom v]/\([LV.atom v].all Tq)=true:=by cases h <;> exact⟨rfl,rfl⟩
theorem qui{v:Value}{l:List Nat}{H:Heap}(h:jf el 1 v (us l) H)(ub:l≠[]):∃ b cap spare,v=.slice (some ⟨b,0,none⟩) l.length cap/\H=[(b,.cells el (us l++spare))]/\l.length<=cap/\l.length+spare.length=cap:=by obtain⟨b,cap,spare,h1,h2,h3,h4⟩:=h.addr (by intro e;exact ub (List.map_eq_nil_iff.1 e));rw[yA] at h1 h3 h4;rw[aP] at h2;exact⟨b,cap,spare,h1,h2,h3,by omega⟩
structure MF where
 mb:Nat
 vm:Value
 pc:Nat
 vc:Value
 xa:List Nat
 vo:LV
 digit:Bool
 st:Nat
 stop:Bool
 bm:Nat
def MF.cells(f:MF)(vd:Value):List LV:=[.atom f.vm,u32 f.pc,.atom vd,.atom f.vc,.list (us f.xa),f.vo,bool f.digit,int .i64 (f.st:Nat),bool f.stop,.atom (.map (some f.bm))]
def DH(f:MF)(data:List Nat)(H:Heap):Prop:=∃ vd HD,jf 54 1 vd (us data.reverse) HD/\H=(f.mb,.cells 80 (f.cells vd))::HD
def Cw:List PanicEntry:=[{ v:=.iface 139 (.agg #[]),recovered:=false }]
def vX(f:MF)(data:List Nat):re->Heap->Prop:=λr H=>match data with
 |[]=>r=.panic Cw/\DH f [] H
 |v::d=>r=.ret (u32 v)/\DH f d H
def fU(f:MF)(data:List Nat)(v:Nat):re->Heap->Prop:=λr H=>if data.length<256 then r=.ret (.tuple [])/\DH f (v::data) H else r=.panic Cw/\DH f data H
def aU(f:MF)(data:List Nat):re->Heap->Prop:=λr H=>match data with
 |[]=>r=.panic Cw/\DH f [] H
 |v::d=>if v<262144 then r=.ret (u32 v)/\DH f d H else r=.panic Cw/\DH f d H
attribute [local irreducible] wa Qa Ra ca Go.GL.Pure Ud xe od LQ Eb Tf Rh LS
variable{B0:Nat}{w0:World}
theorem Ff(b:Bool):ca (KC B0 w0) 59 [bool b] [] (λr H'=>H'=[]/\r=if b=true then .ret (.tuple []) else .panic Cw):=by
 refine Xa Tryz.func59 rfl (n:=6) rfl rfl rfl ?_;refine ja ?_;refine Ca (λhc=>?_) λhc=>?_;have hb:b=false:=by simpa using hc
 subst hb;refine ja ?_;refine oS (Ra.panic rfl λe' Aa=>?_);exact od.panic (Aa.trans rfl) Ya ⟨rfl,rfl⟩;have hb:b=true:=by simpa using hc
 subst hb;refine qa ?_;exact rO rfl rN Ya ⟨rfl,rfl⟩
section
variable{B0:Nat}{w0:World}{e:Env}{H:Heap}{dst:Option Nat}{ty:TypeId}{pos:String}{ka:Array Edge}{g:Option (Nat×Bool)}{K:LV->Heap->Prop}{X:List PanicEntry->Heap->Prop}
theorem S.check{b:Bool}{o:Operand}{yg:Array TypeId}(hx:e.ev o=bool b)(hk:b=true->K (.tuple []) H)(hn:b=false->X Cw H):Ra (KC B0 w0) ⟨dst,.call { callee:=.value (.func 59),args:=#[o],argTypes:=yg },ty,pos,ka,g⟩ e H K X:=by
 refine S.Ec (H1:=[]) (F:=H) [o] (by simp only[jd,List.map_nil,hx]) Kb (Ff b) ?_ ?_;rintro v H' ⟨rfl,h⟩;cases b with
 |true=>cases h;exact hk rfl
 |false=>cases h
 rintro ch H' ⟨rfl,h⟩;cases b with
 |true=>cases h
 |false=>cases h;exact hn rfl
end
section
variable{B0:Nat}{w0:World}{f:MF}{data:List Nat}{H:Heap}
theorem qtz(h:DH f data H)(hf:data.length<=256)(v:Nat):ca (KC B0 w0) 113 [ptr f.mb 0,u32 v] H (fU f data v):=by
 obtain⟨vd,HD,hm,rfl⟩:=h;have hl:(us data.reverse).length=data.length:=by rw[yA,length_reverse]
 unfold fU;refine Xa Tryz.func113 rfl (n:=21) rfl rfl rfl ?_;refine oa ?_;refine ia (Pure.QA rfl hm)<|qa ?_;refine oS (S.check rfl (λhb=>?_) λhb e' Aa=>?_);have za:data.length<256:=by have:=zt hb;omega
 simp only[zp za];refine oa ?_;refine Ui ?_;refine oS (S.NF (HM:=HD) (F:=[_]) rfl (List.perm_append_singleton _ _).symm hm rfl (by simp;rfl) rfl (by simp;omega) λv' H' XC=>?_);refine qa ?_;refine oS (sS (n:=1) (vs:=[LV.atom v']) (Ab:=[_,_,_,_,_,_,_,_,_,_]) rfl pH (WT XC).1 rfl rfl (WT XC).2 rfl ?_);refine Qc ?_
 exact rO rfl rN Ya ⟨rfl,v',H',by
  rw[List.reverse_cons,aE];exact XC,rfl⟩
 have za:¬ data.length<256:=by have:=zf hb;omega
 simp only[zn za];refine oi ?_;exact od.panic (Aa.trans rfl) Ya ⟨rfl,vd,HD,hm,rfl⟩
theorem qpZ(h:DH f data H)(hf:data.length<=256):ca (KC B0 w0) 115 [ptr f.mb 0] H (vX f data):=by
 obtain⟨vd,HD,hm,rfl⟩:=h;have hl:(us data.reverse).length=data.length:=by rw[yA,length_reverse]
 unfold vX;refine Xa Tryz.func115 rfl (n:=32) rfl rfl rfl ?_;refine oa ?_;refine ia (Pure.QA rfl hm)<|ja ?_;cases data with
 |nil=>
  refine oS (S.check rfl (λhb=>?_) λhb e' Aa=>?_);cases hb;refine oi ?_
  exact od.panic (Aa.trans rfl) Ya ⟨rfl,vd,HD,hm,rfl⟩
 |cons a r=>
  refine oS (S.check rfl (λhb=>?_) λhb=>?_);rotate_left;have:=zf hb;rw[hl,Ba] at this;omega;obtain⟨b,cap,spare,rfl,rfl,hc,Jh⟩:=qui hm (by rw[List.reverse_cons];simp);rw[List.reverse_cons,aE,Pc] at *;rw[ya,length_reverse,List.length_singleton] at hc Jh;have gd:(us r.reverse).length=r.length:=by rw[yA,length_reverse]
  have Ot:(r.reverse++[a]).length=r.length+1:=by simp
  rw[Ba] at hl hf;refine ja ?_;refine ia (Pure.Cf (o:=r.length) rfl rfl zo zo zo)<|ia (pL (c:=u32 a) rfl xf (by rw[List.getElem?_append_right zo,gd,Nat.sub_self];rfl)) ?_;refine ja ?_;refine ia (Pure.Sk (n:=r.length) rfl (by exact lh zo) zo)<|ja ?_;exact rR rfl (Oa rfl) Ya ⟨rfl,_,_,tX (l:=r.reverse) (spare:=us [a]++spare) (by rw[length_reverse]) zo (by rw[ya,yA];simp only[List.length_singleton];omega),rfl⟩
theorem OZ(h:DH f data H)(hf:data.length<=256):ca (KC B0 w0) 114 [ptr f.mb 0] H (aU f data):=by
 have hp:=qpZ (B0:=B0) (w0:=w0) h hf;unfold vX at hp;unfold aU;refine Xa Tryz.func114 rfl (n:=10) rfl rfl rfl ?_;refine Pj ?_;cases data with
 |nil=>refine oS (S.Ec (H1:=H) (F:=[]) [_] rfl (by rw[Jd]) hp ?_ ?_);rintro v H' ⟨h1,_⟩;cases h1;rintro ch H' ⟨h1,h2⟩ e' Aa;cases h1;refine oi ?_;exact od.panic (Aa.trans rfl) Ya ⟨rfl,by rw[Jd];exact h2⟩
 |cons a r=>
  refine oS (S.Ec (H1:=H) (F:=[]) [_] rfl (by rw[Jd]) hp ?_ ?_);rotate_left;rintro ch H' ⟨h1,_⟩;cases h1;rintro v H' ⟨h1,h2⟩;cases h1;rw[Jd];refine oa ?_;refine oS (S.check rfl (λhb=>?_) λhb e' Aa=>?_);have za:a<262144:=by have:(a:Int)<262144:=zt hb;omega
  simp only[zp za];refine oa ?_;exact rR rfl (Oa rfl) Ya ⟨rfl,h2⟩;have za:¬ a<262144:=by have:¬ (a:Int)<262144:=zf hb;omega
  simp only[zn za];refine oi ?_;exact od.panic (Aa.trans rfl) Ya ⟨rfl,h2⟩
end
open pi (u32 Same Ao gn Ji tu)
variable{c:Nat}
def cl(f:Nat->Nat):List LV:=(List.range 262144).map λi=>u32 (f i)
theorem pP(f:Nat->Nat):(cl f).length=262144:=by unfold cl;rw[ab,List.length_range]
theorem uP(f:Nat->Nat){a:Nat}(h:a<262144):(cl f)[a]? = some (u32 (f a)):=by unfold cl;rw[List.getElem?_map,List.getElem?_range h];rfl
theorem qnZ(l:List LV):Kd l 0 []=l:=by cases l <;> rfl
theorem tP:∀ (l:List LV) (a:Nat) (v:LV),Kd l a [v]=l.set a v
 |[],a,v=>by cases a <;> rfl
 |x::xs,0,v=>by show v::Kd xs 0 []=_;rw[qnZ];rfl
 |x::xs,a+1,v=>by show x::Kd xs a [v]=_;rw[tP xs a v];rfl
theorem SX(f:Nat->Nat)(a v:Nat):Kd (cl f) a [u32 v]=cl (λi=>if i=a then v else f i):=by
 rw[tP];refine List.ext_getElem? λi=>?_;rw[List.getElem?_set,pP]
 by_cases h2:i<262144;rw[uP (λi=>if i=a then v else f i) h2,uP f h2];by_cases h:a=i;subst h;simp[h2];have h3:¬ i=a:=λe=>h e.symm;simp[h,h3];have n1:∀ f,(cl f)[i]? = none:=λf=>List.getElem?_eq_none (by rw[pP];omega);rw[n1 f,n1 (λi=>if i=a then v else f i)]
 by_cases h:a=i;subst h;simp[h2];simp[h]
theorem qnm:List.replicate 262144 (LV.atom (.int .u32 0))=cl (λ_=>0):=by unfold cl;rw[List.map_const',List.length_range];rfl
attribute [irreducible] cl
theorem qyK{s s':MS}(h:yd c s=.run s')(hc:pn c=true):s'.data≠[]:=by unfold yd at h;rw[zp hc] at h;unfold YD at h;split at h;split at h;exact Is;cases h;unfold Vn at h;split at h;exact Is;cases h
def VH(k:Int)(f:FuncId)(n:Nat):MapEntry:={ key:=.int .u32 k,val:=.func (.func f) #[] #[],born:=n }
def AO:Array MapEntry:=#[VH 43 55 0,VH 45 56 1,VH 42 57 2,VH 47 58 3,VH 37 60 4,VH 94 61 5,VH 60 62 6]
theorem quE(h:¬ (c=43∨c=45∨c=42∨c=47∨c=37∨c=94∨c=60)):Instr.findNow (.int .u32) (.int .u32 (c:Int)) AO.toList 0=some none:=by
 have key:∀ k:Nat,c≠k->((c:Int) == (k:Int))=false:=λk hk=>by rw[beq_eq_false_iff_ne];omega
 have k1:=key 43 zo;have k2:=key 45 zo;have k3:=key 42 zo;have k4:=key 47 zo;have k5:=key 37 zo;have k6:=key 94 zo;have k7:=key 60 zo;simp only[AO,VH,Instr.findNow,Instr.sameNow,if_true];simp only[Int.cast_ofNat_Int] at k1 k2 k3 k4 k5 k6 k7;simp only[k1,k2,k3,k4,k5,k6,k7]
def yI(o:Option Nat):re:=match o with
 |some v=>.ret (u32 v)
 |none=>.panic Cw
section
variable{B0:Nat}{w0:World}{H:Heap}{a b:Nat}
theorem qhK:ca (KC B0 w0) 31 [] [] (λr H=>∃ om,r=.ret (.atom (.map (some om)))/\H=[(om,.obj (.map AO 7))]):=by refine Xa Tryz.func31 rfl (n:=3) rfl rfl rfl ?_;refine Ln ?_;refine oS (S.makeMap λom=>?_);refine zQ4 ?_;refine eW ?_;refine oS (S.wi (kt:=54) (el:=136) (kd:=.u32) zk zk rfl rfl rfl pH rfl rfl ?_);refine qa ?_;exact rR rfl (Oa rfl) Ya ⟨om,rfl,rfl⟩
theorem qxF(ha:a<4294967296)(hb:b<4294967296):ca (KC B0 w0) 55 [u32 a,u32 b] H (Same (u32 ((a+b) % 4294967296)) H):=by refine Xa Tryz.func55 rfl (n:=8) rfl rfl rfl ?_;refine Pj ?_;refine ia (Pure.Vo rfl rfl)<|Qc ?_;exact Ao rfl (Oa rfl) (Ji (by rw[gn];omega)) Ya
theorem qxW(ha:a<4294967296)(hb:b<4294967296):ca (KC B0 w0) 56 [u32 a,u32 b] H (Same (u32 ((a+4294967296-b) % 4294967296)) H):=by refine Xa Tryz.func56 rfl (n:=8) rfl rfl rfl ?_;refine Pj ?_;refine ia (Pure.Tx rfl rfl)<|Qc ?_;exact Ao rfl (Oa rfl) (Ji (by rw[gn];omega)) Ya
theorem qyM(ha:a<4294967296)(hb:b<4294967296):ca (KC B0 w0) 57 [u32 a,u32 b] H (Same (u32 (a * b % 4294967296)) H):=by refine Xa Tryz.func57 rfl (n:=8) rfl rfl rfl ?_;refine Pj ?_;refine ia (Pure.Fv rfl rfl)<|Qc ?_;exact Ao rfl (Oa rfl) (Ji (by rw[gn,<-Int.natCast_mul];generalize a * b=q;omega)) Ya
theorem qyE(ha:a<4294967296)(hb:b<4294967296):ca (KC B0 w0) 61 [u32 a,u32 b] H (Same (u32 (a ^^^ b)) H):=by refine Xa Tryz.func61 rfl (n:=8) rfl rfl rfl ?_;refine Pj ?_;refine ia (Pure.oo rfl rfl)<|Qc ?_;exact Ao rfl (Oa rfl) (Ji (tu ha hb)) Ya
theorem qyL:ca (KC B0 w0) 62 [u32 a,u32 b] H (Same (u32 (if a<b then 1 else 0)) H):=by
 refine Xa Tryz.func62 rfl (n:=8) rfl rfl rfl ?_;refine oa ?_;refine Ca (λhc=>?_) λhc=>?_;have h1:a<b:=by have:=zt hc;omega
 refine Qj ?_;exact Ao rfl (Oa rfl) (by rw[zp h1];rfl) Ya;have h1:¬ a<b:=by have:=zf hc;omega
 refine oa ?_;exact Ao rfl (Oa rfl) (by rw[zn h1];rfl) Ya
theorem qyN(ha:a<4294967296):ca (KC B0 w0) 58 [u32 a,u32 b] H (λr H'=>H'=H/\r=yI (if b=0 then none else some (a / b))):=by refine Xa Tryz.func58 rfl (n:=11) rfl rfl rfl ?_;refine ja ?_;by_cases h0:b=0;refine oS (S.check rfl (λhb=>?_) λhb e' Aa=>?_);simp[h0] at hb;refine oi ?_;exact od.panic (Aa.trans rfl) Ya ⟨rfl,by rw[zp h0];rfl⟩;refine oS (S.check rfl (λhb=>?_) λhb e' Aa=>?_);rotate_left;simp[h0] at hb;refine Xh ?_;refine ia (Pure.sO rfl rfl zo)<|Qc ?_;refine rR rfl (Oa rfl) Ya ⟨rfl,?_⟩;rw[zn h0];exact congrArg re.ret (Ji (by rw[gn,Int.tdiv_eq_ediv_of_nonneg zo,<-Int.natCast_ediv];have hq:a / b<4294967296:=Nat.lt_of_le_of_lt (Nat.div_le_self a b) ha;generalize a / b=q at hq ⊢;omega))
theorem qyA(ha:a<4294967296):ca (KC B0 w0) 60 [u32 a,u32 b] H (λr H'=>H'=H/\r=yI (if b=0 then none else some (a % b))):=by refine Xa Tryz.func60 rfl (n:=11) rfl rfl rfl ?_;refine ja ?_;by_cases h0:b=0;refine oS (S.check rfl (λhb=>?_) λhb e' Aa=>?_);simp[h0] at hb;refine oi ?_;exact od.panic (Aa.trans rfl) Ya ⟨rfl,by rw[zp h0];rfl⟩;refine oS (S.check rfl (λhb=>?_) λhb e' Aa=>?_);rotate_left;simp[h0] at hb;refine Xh ?_;refine ia (Pure.oO rfl rfl zo)<|Qc ?_;refine rR rfl (Oa rfl) Ya ⟨rfl,?_⟩;rw[zn h0];exact congrArg re.ret (Ji (by rw[Int.tmod_eq_emod_of_nonneg zo,<-Int.natCast_emod]))
theorem qnx(hc:c=43∨c=45∨c=42∨c=47∨c=37∨c=94∨c=60)(ha:a<4294967296)(hb:b<4294967296):∃ (j:Nat) (f:FuncId),Instr.findNow (.int .u32) (.int .u32 (c:Int)) AO.toList 0=some (some (j,.func (.func f) #[] #[]))/\Gb Tryz.prog f /\
  ∀ H,ca (KC B0 w0) f [u32 a,u32 b] H (λr H'=>H'=H/\r=yI (ad c a b)):=by
 rcases hc with rfl|rfl|rfl|rfl|rfl|rfl|rfl;exact⟨0,55,rfl,inferInstance,λH=>ca.mono (qxF ha hb) λr H' ⟨h1,h2⟩=>⟨h2,h1⟩⟩;exact⟨1,56,rfl,inferInstance,λH=>ca.mono (qxW ha hb) λr H' ⟨h1,h2⟩=>⟨h2,h1⟩⟩;exact⟨2,57,rfl,inferInstance,λH=>ca.mono (qyM ha hb) λr H' ⟨h1,h2⟩=>⟨h2,h1⟩⟩;exact⟨3,58,rfl,inferInstance,λH=>qyN ha⟩;exact⟨4,60,rfl,inferInstance,λH=>qyA ha⟩;exact⟨5,61,rfl,inferInstance,λH=>ca.mono (qyE ha hb) λr H' ⟨h1,h2⟩=>⟨h2,h1⟩⟩;exact⟨6,62,rfl,inferInstance,λH=>ca.mono (qyL) λr H' ⟨h1,h2⟩=>⟨h2,h1⟩⟩
end
end Go.Proofs.YtmnjklgnhpnckaaGreatDoor.YM
