import Derived.Test.YtafdodhkoihlhaaGreatDoorBRowLE8
set_option linter.unusedVariables false
set_option linter.unusedSimpArgs false
set_option maxRecDepth 100000
set_option maxHeartbeats 0
open List (mem_append_right cons_append take_succ_eq_append_getElem take_length getElem_mem take_zero sum_cons length_take not_mem_nil map_map length_reverse reverse_cons)
open Nat (lt_succ_self add_zero zero_le sub_self ble_eq)
namespace Go.Proofs.Y.TO
open Go.GL Go.RowKit Go.ia
open Go.Lib (decDigits itoa join)
variable{A F H1:Heap}{nh:Array TypeId}{Sc:List LV}{c:CC}{env:Cb}{f:FuncId}{i m:Nat}{op own:Nm}
structure TB where
 tb:Nat
 sm:Nat
 am:Nat
 S:KV
 A:KV
 g1:Nat
 g2:Nat
 sc:Nat
def Bk(k:TB)(own:Nm)(ws:List Wd)(n:Nat)(H:Heap):Prop:=∃ v Hv,GL.Acc 1 v (ws.map str) Hv []/\H=(k.tb,.cells 126 [v,int .i64 (n:Nat),int .i64 (k.sc:Nat),.atom (.map (some k.sm)),.atom (.map (some k.am)),str own])::(k.sm,.map (Ve k.S) k.g1)::(k.am,.map (Ve k.A) k.g2)::Hv
def Jz(P:Heap->Prop):Pe->Heap->Prop:=λr H=>r=.ret (.tuple [])/\P H
def ZH(s:List UInt8)(P:Heap->Prop):Pe->Heap->Prop:=λr H=>r=.ret (str s)/\P H
structure Zt(k:TB)(c:CC)(own:Nm):Prop where
 sc:∀ name,∃ a:Nat,a<=1000000000/\c.sc name=decDigits a/\((∃ v,GL.wb k.S (own++[46]++name)=some v/\v=int .i64 (a:Nat))∨(GL.wb k.S (own++[46]++name)=none/\(GL.wb k.S name).getD (int .i64 0)=int .i64 (a:Nat)))
 ar:∀ name,∃ a:Nat,a<=1000000000/\c.ar name=decDigits a/\(GL.wb k.A name).getD (int .i64 0)=int .i64 (a:Nat)
 t0:c.t0=decDigits k.sc
 t1:c.t1=decDigits (k.sc+1)
 t2:c.t2=decDigits (k.sc+2)
 small:k.sc<=1000000000
 own:own.length<=1000000
theorem JR{x y z:Nat×ja}:(x::y::z::A).Perm (A++[x,y,z]):=Lh (l₁:=[x,y,z])
theorem uf{x:Nat×ja}:(x::A).Perm (A++[x]):=(List.perm_append_singleton _ _).symm
theorem Fy{x y:Nat×ja}:(x::y::A).Perm (A++[x,y]):=Lh (l₁:=[x,y])
theorem rK:A.Perm (A++[]):=by rw[ue]
theorem Kq{x:Nat×ja}:HSub A (x::A):=Yg ob
theorem iI{x y:Nat×ja}:HSub A (x::y::A):=Yg (Yg ob)
theorem NY{x:Nat×ja}:HSub [x] (x::A):=Fc pH sd
theorem fI{x y:Nat×ja}:HSub [x,y] (x::y::A):=Fc pH Gd
theorem qpR{x:Nat×ja}:HSub (x::A) (A++[x]):=⟨[],by rw[ue];exact uf.symm⟩
theorem qrg{x y:Nat×ja}:HSub (x::y::A) (A++[x,y]):=⟨[],by rw[ue];exact Fy.symm⟩
theorem quD(h:m<4294967296):IntKind.u64.wrap (m:Int)=m:=by simp only[IntKind.wrap,IntKind.bits,IntKind.signed,wj];simp;omega
section
variable{C:Ctx}{e:Env}{H:Heap}{dst:Option Nat}{ty:TypeId}{ra:String}{ua:Array Edge}{g:Option (Nat×Bool)}{K:LV->Heap->Prop}{X:List PanicEntry->Heap->Prop}
theorem ff{f:FuncId} [Wb C.P f](args:List Operand){P:Heap->Prop}(has:args.map e.ev=Sc)(hp:H.Perm (H1++F))(hc:ca C f Sc H1 (Jz P))(hk:∀ H',P H'->K (.tuple []) (F++H')) :
  ab C ⟨dst,.call { callee:=.value (.func f),args:=args.toArray,argTypes:=nh },ty,ra,ua,g⟩ e H K X:=
 ab.qd (K:=λlv Kh=>∃ H',Kh=H'++F/\P H'/\lv=.tuple []) (S.Uc args has hp hc (by rintro v H' ⟨h,h2⟩;cases h;exact⟨H',rfl,h2,rfl⟩) (by rintro ch H' ⟨h,_⟩;cases h))
  (by rintro lv Kh ⟨H',rfl,hP,rfl⟩;exact⟨_,F++H',vR _,⟨[],by rw[ue];exact Lh⟩,hk H' hP⟩)
theorem Pure.EL{t el:TypeId}{zv:Value}{zl lv:LV} [h:dp C.P t el zv zl]{x y:Operand}{b ka:Nat}{m:KV}{s:List UInt8}(hm:e.ev x=.atom (.map (some b)))(hx:e.ev y=str s)(hb:(b,.map (Ve m) ka)∈H)(hg:(GL.wb m s).getD zl=lv) :
  GL.Pure C ⟨dst,.lookup t x y false,ty,ra,ua,g⟩ e H lv:=by
 obtain⟨kt,h1,h2⟩:=h.af;exact hg▸GL.Pure.wb h1 h2 h.zero h.rep hm hx hb
theorem S.lk{f:FuncId} [Wb C.P f](args:List Operand){P:Heap->Prop}{s:List UInt8}(has:args.map e.ev=Sc)(hp:H.Perm (H1++F))(hc:ca C f Sc H1 (ZH s P))(hk:∀ H',P H'->K (str s) (F++H')) :
  ab C ⟨dst,.call { callee:=.value (.func f),args:=args.toArray,argTypes:=nh },ty,ra,ua,g⟩ e H K X:=
 ab.qd (K:=λlv Kh=>∃ H',Kh=H'++F/\P H'/\lv=str s) (S.Uc args has hp hc (by rintro v H' ⟨h,h2⟩;cases h;exact⟨H',rfl,h2,rfl⟩) (by rintro ch H' ⟨h,_⟩;cases h))
  (by rintro lv Kh ⟨H',rfl,hP,rfl⟩;exact⟨_,F++H',vR _,⟨[],by rw[ue];exact Lh⟩,hk H' hP⟩)
theorem S.Vt{fo:Operand} [Wb C.P f]{first db:Array Value}(args:List Operand){P:Heap->Prop}(hf:e.ev fo=.atom (.func (.func f) first db))
  (has:first.toList.map .atom++args.map e.ev++db.toList.map .atom=Sc) (hp:H.Perm (H1++F)) (hc:ca C f Sc H1 (Jz P)) (hk:∀ H',P H'->K (.tuple []) (F++H')) :
  ab C ⟨dst,.call { callee:=.value fo,args:=args.toArray,argTypes:=nh },ty,ra,ua,g⟩ e H K X:=
 ab.qd (K:=λlv Kh=>∃ H',Kh=H'++F/\P H'/\lv=.tuple []) (S.Cm args hf has hp hc (by rintro v H' ⟨h,h2⟩;cases h;exact⟨H',rfl,h2,rfl⟩) (by rintro ch H' ⟨h,_⟩;cases h))
  (by rintro lv Kh ⟨H',rfl,hP,rfl⟩;exact⟨_,F++H',vR _,⟨[],by rw[ue];exact Lh⟩,hk H' hP⟩)
end
attribute [local irreducible] Ea kb ab ca Go.GL.Pure Ie pf ke LQ Rb oi Nj LS
section
variable{B0:Nat}{w0:World}{k:TB}{own:Nm}{c:CC}{ws:List Wd}{n:Nat}{H:Heap}
theorem qj(h:Bk k own ws n H)(W:List Wd){a:LV}(ha:GL.elems a=some (W.map str))(hr:ws.length+W.length<=1000000000):ca (KC B0 w0) 90 [ptr k.tb 0,a] H (Jz (Bk k own (ws++W) n)):=by obtain⟨v,Hv,Eb,rfl⟩:=h;have h1:(ws.map str).length=ws.length:=Mb _;have h2:(W.map str).length=W.length:=Mb _;refine jb Tryz.func90 rfl (n:=13) rfl rfl rfl ?_;refine wa ?_;refine qa (pL (c:=v) rfl xc rfl)<|qa (Cc (lv:=a) rfl)<|oS (sG JR rfl Eb ha (CI W) (EK W) zo λv' H' Ob=>?_);refine Aa ?_;refine oS (sS (Zb:=[v',int .i64 (n:Nat),int .i64 (k.sc:Nat),.atom (.map (some k.sm)),.atom (.map (some k.am)),str own]) rfl pH (Acc.cell Ob).1 rfl rfl (Acc.cell Ob).2 rfl ?_);refine Ad ?_;exact rO rfl rN ob ⟨rfl,v',H',by rw[Te];exact Ob,rfl⟩
theorem IW(hG:GW B0 w0)(h:Bk k own ws n H)(hn:n<=1000000000000):ca (KC B0 w0) 205 [ptr k.tb 0] H (ZH (za n) (Bk k own ws (n+1))):=by
 obtain⟨v,Hv,Eb,rfl⟩:=h;have hd:(Go.Lib.decDigits n).length<=20:=by rw[Go.Lib.decDigits_length];exact Xf (LW 12 n zo) ea
 refine jb Tryz.func205 rfl (n:=18) rfl rfl rfl ?_;refine wa ?_;refine oS (sF [_] rfl (KI hG n zo) ?_);refine xa ?_;first|(refine oS (sS (Zb:=[_,_,_,_,_,_]) rfl pH rfl rfl rfl rfl rfl ?_))|skip
 refine wa ?_;exact rR rfl (eb rfl) ob ⟨rfl,v,Hv,Eb,rfl⟩
theorem UN(hG:GW B0 w0)(hk:Zt k c own)(h:Bk k own ws n H)(name:List UInt8)(hn:name.length<=1000000):ca (KC B0 w0) 92 [ptr k.tb 0,str name] H (ZH (c.sc name) (Bk k own ws n)):=by obtain⟨a,QB,Nr,Lx⟩:=hk.sc name;have ho:=hk.own;have h0:=h;obtain⟨v,Hv,Eb,rfl⟩:=h;rw[Nr];refine jb Tryz.func92 rfl (n:=32) rfl rfl rfl ?_;refine Ep ?_;refine Tq ?_;rcases Lx with⟨v3,dH,rfl⟩|⟨dH,hv4⟩;refine qP (Pure.bx rfl rfl Xh dH) rfl ?_;refine xa ?_;refine Oa (λhc=>?_) λhc=>?_;refine Yd ?_;refine oS (sF [_] rfl (KI hG a zo) ?_);refine Aa ?_;exact rR rfl (eb rfl) ob ⟨rfl,h0⟩;cases hc;refine qP (Pure.vt rfl rfl Xh dH) rfl ?_;refine xa ?_;refine Oa (λhc=>?_) λhc=>?_;cases hc;refine wa ?_;refine qa (Pure.EL rfl rfl Xh hv4)<|oS (sF [_] rfl (KI hG a zo) ?_);refine Ad ?_;exact rR rfl (eb rfl) ob ⟨rfl,h0⟩
theorem VW(hG:GW B0 w0)(hk:Zt k c own)(h:Bk k own ws n H)(i:Nat)(hi:i<=2):ca (KC B0 w0) 91 [ptr k.tb 0,int .i64 (i:Nat)] H (ZH (decDigits (k.sc+i)) (Bk k own ws n)):=by have h0:=h;obtain⟨v,Hv,Eb,rfl⟩:=h;have hs:=hk.small;have e1:int .i64 ((k.sc:Int)+(i:Int))=int .i64 ((k.sc+i:Nat):Int):=qf zo;refine jb Tryz.func91 rfl (n:=12) rfl rfl rfl ?_;refine wa ?_;refine oS (sF [_] (by show [_]=_;exact congrArg (λx=>[x]) e1) (KI hG (k.sc+i) zo) ?_);refine Ad ?_;exact rR rfl (eb rfl) ob ⟨rfl,h0⟩
theorem qiL(hG:GW B0 w0)(hk:Zt k c own)(h:Bk k own ws n H)(hr:ws.length+(Om c).length<=1000000000):ca (KC B0 w0) 234 [ptr k.tb 0] H (Jz (Bk k own (ws++Om c) n)):=by have e:Om c=[c.t2,[33],c.t1,[33],c.t2,[64],c.t1,[64],[60]]:=rfl;rw[e] at hr ⊢;rw[hk.t1,hk.t2];rw[hk.t1,hk.t2] at hr;refine jb Tryz.func234 rfl (n:=15) rfl rfl rfl ?_;refine Yd ?_;refine oS (S.lk (F:=[]) [_,_] rfl rK (VW hG hk h 1 ea) λH1 h1=>?_);refine Aa ?_;refine oS (S.lk (H1:=H1) (F:=[]) [_,_] rfl rK (VW hG hk h1 2 ea) λH2 h2=>?_);refine cl ?_;refine oS (sL [_,_,_,_,_,_,_,_,_] rfl (Zv [_,_,_,_,_,_,_,_,_]) rfl rfl rfl<|oS (ff (H1:=H2) (F:=[]) [_,_] rfl rK (qj h2 [_,_,_,_,_,_,_,_,_] rfl hr) λH3 h3=>?_));refine Ad ?_;exact rO rfl rN ob ⟨rfl,h3⟩
end
structure Zr(env:Cb):Prop where
 sc:∀ s,du env s=0->s.length<=24
 fn:∀ k∈env.funcs,k.name.length<=24
theorem Zr.call(h:Zr env){name:Nm}(hc:Qc env name m=0):name.length<=24:=by
 unfold Qc at hc;split at hc;rename_i e;rw[e];decide;split at hc;rename_i e;rw[e];decide;unfold Cb.fn at hc;cases hf:env.funcs.find? λf=>decide (f.name=name) with
 |none=>rw[hf] at hc;simp only at hc;split at hc <;> cases hc
 |some k=>have e:k.name=name:=zt (List.find?_some (p:=λg:ye=>decide (g.name=name)) hf);rw[<-e];exact h.fn k (List.mem_of_find?_eq_some hf)
section
variable{C:Ctx}{e:Env}{H:Heap}{dst:Option Nat}{ty:TypeId}{ra:String}{ua:Array Edge}{g:Option (Nat×Bool)}{K:LV->Heap->Prop}{X:List PanicEntry->Heap->Prop}
theorem ab.nz{f:FuncId} [Wb C.P f](args:List Operand){P:Heap->Prop}(has:args.map e.ev=Sc)(hc:ca C f Sc H (Jz P))(hk:∀ H',P H'->K (.tuple []) H') :
  ab C ⟨dst,.call { callee:=.value (.func f),args:=args.toArray,argTypes:=nh },ty,ra,ua,g⟩ e H K X:=
 ab.qd (ff (F:=[]) (K:=λlv H'=>K lv H') (X:=X) args has (by rw[ue]) hc λH' h=>hk H' h) λlv H' h=>⟨lv,H',vR _,bc _,h⟩
end
variable{B0:Nat}{w0:World}
abbrev MO(b:Nat)(op:Nm)(num:Nat)(name:Nm)(args:List Ex):Nat×ja:=(b,.cells 219 [str op,int .u32 (num:Int),str name,.list (args.map Ab)])
def uK(B0:Nat)(w0:World)(k:TB)(own:Nm)(c:CC)(env:Cb)(m:Nat):Prop:=∀ (x:Ex) (ws:List Wd) (n:Nat) (H:Heap),Zl x<=m->fj x->Gf env x=0->Bk k own ws n H->ws.length+(Qb c x).length<=1000000000->ca (KC B0 w0) 158 [ptr k.tb 0,Ab x] H (Jz (Bk k own (ws++Qb c x) n))
theorem X0{k:TB}(ih:uK B0 w0 k own c env m)(l:List Ex)(ws:List Wd)(n:Nat)(H:Heap)(hm:Vb l<=m)(hl:l.length<=2000000)(lc:ml l)(he:vg env l=0)(h:Bk k own ws n H)(hr:ws.length+(Ib c l).flatten.length<=1000000000) :
  ca (KC B0 w0) 203 [ptr k.tb 0,.list (l.map Ab)] H (Jz (Bk k own (ws++(Ib c l).flatten) n)):=by
 have Tf:(l.map Ab).length=l.length:=Mb _;refine jb Tryz.func203 rfl (n:=16) rfl rfl rfl ?_;refine wa ?_;refine oL (λkk ls H'=>∃ (pre l1:List Ex) (Pn:List Wd),l=pre++l1/\kk=l1.length/\ls=[(0,ptr k.tb 0),(6,.list (l.map Ab)),(7,int .i64 ((l.map Ab).length:Int)),(8,int .i64 (pre.length:Int))]/\Bk k own Pn n H'/\Pn++(Ib c l1).flatten=ws++(Ib c l).flatten/\vg env l1=0/\ml l1)
  ⟨l.length,_,_,⟨[],l,ws,rfl,rfl,rfl,h,rfl,he,lc⟩,Kb,bc _⟩ ?_
 rintro kk ls H' ⟨pre,l1,Pn,ec,rfl,rfl,hT,hW,Vi,zx⟩ j hj;have oo:pre.length<=2000000:=by have:=congrArg List.length ec;rw[Ga] at this;omega
 refine wh ?_;refine Oa (λhc=>?_) λhc=>?_;have ma:=zt hc;rw[Mb,ec,Ga] at ma
 obtain⟨a,l2,rfl⟩:∃ a l2,l1=a::l2:=by
  cases l1 with
  |nil=>simp at ma
  |cons a l2=>exact⟨a,l2,rfl⟩
 have SD:Zl a<=Vb l:=Y0 (by rw[ec];exact mem_append_right _ Qe);rw[vg] at Vi;rw[ml] at zx;rw[Ib,List.flatten_cons,<-Yc] at hW;obtain⟨h1,h2⟩:=Tc.1 Vi;have Um:=congrArg List.length hW;rw[Ga,Ga,Ga] at Um;refine Zi ?_;refine qa (xR (Ud:=Ab a) (cs:=[_,_,_,_]) rfl rfl zo (by rw[ec];exact sk.de Ab pre a l2) rfl rfl)<|Ra ?_;refine oS (Sd λb8=>?_);refine xa ?_;refine oS (ff (H1:=H') (F:=[_]) [_,_] rfl uf (ih a Pn n H' zo zx.1 h1 hT zo) λH2 DT=>?_);refine zm ?_;exact⟨l2.length,_,_,lt_succ_self _,⟨pre++[a],l2,Pn++Qb c a,by rw[ec];simp,rfl,rfl,DT,hW,h2,zx.2⟩,⟨rfl,rfl,rfl,qf (by simp),trivial⟩,Kq,hj⟩;have ma:=zf hc;rw[Mb,ec,Ga] at ma
 obtain rfl:l1=[]:=by
  cases l1 with
  |nil=>rfl
  |cons a l2=>simp at ma;omega
 rw[Ib,List.flatten_nil,ue] at hW;refine Aa ?_;exact rO hj rN ob ⟨rfl,by rw[<-hW];exact hT⟩
theorem qnZ{k:TB}(ih:uK B0 w0 k own c env m)(b2 b3:Nat)(op:Nm)(num:Nat)(name:Nm)(x y:Ex)(ws:List Wd)(n:Nat)(H:Heap)(hx:Zl x<=m)(hy:Zl y<=m)(nx:fj x)(ny:fj y)(ex:Gf env x=0)(ey:Gf env y=0)(h:Bk k own ws n H)
  (A B:List Wd) {a b:LV} (ha:GL.elems a=some (A.map str)) (hb:GL.elems b=some (B.map str)) (hr:ws.length+(A++Qb c x++B++Qb c y).length<=1000000000) :
  ca (KC B0 w0) 233 [a,b,ptr b2 0,ptr b3 0] ((b2,.cells 123 [ptr k.tb 0])::MO b3 op num name [x,y]::H)
   (Jz λH'=>∃ H2,H'=(b2,.cells 123 [ptr k.tb 0])::MO b3 op num name [x,y]::H2/\Bk k own (ws++(A++Qb c x++B++Qb c y)) n H2):=by
 simp only[Ga] at hr;refine jb Tryz.func233 rfl (n:=24) rfl rfl rfl ?_;refine wa ?_;refine qa (Cc (lv:=a) rfl)<|oS (ff (H1:=H) (F:=[_,_]) [_,_] rfl Fy (qj h A ha zo) λH2 h2=>?_);refine Aa ?_;refine uP ?_;refine Rb.take (i:=3) fI rfl zk zk zk rfl (xR (Ud:=Ab x) (cs:=[_,_,_,_]) rfl rfl ea rfl rfl rfl)<|aT 4 rfl rfl (pR (Zb:=[_,_,_,_]) rfl rfl rfl)<|aL ?_ fI;refine lO 5 (lS (H1:=H2) (F:=[_,_]) rfl (.inl rfl) rfl Fy ob (ab.nz [_,_] rfl (ih x _ n H2 hx nx ex h2 (by rw[Ga];omega)) λH3 h3=>?_));refine lD zk ?_;refine qN ?_;refine cW qrg ?_;refine wa ?_;refine qa (Cc (lv:=b) rfl)<|oS (ff (H1:=H3) (F:=[_,_]) [_,_] rfl Fy (qj h3 B hb (by simp only[Ga];omega)) λH4 h4=>?_);refine Ad ?_;refine uP ?_;refine Rb.take (i:=3) fI rfl zk zk zk rfl (xR (Ud:=Ab y) (cs:=[_,_,_,_]) rfl rfl ea rfl rfl rfl)<|aT 4 rfl rfl (pR (Zb:=[_,_,_,_]) rfl rfl rfl)<|aL ?_ fI;refine lO 5 (lS (H1:=H4) (F:=[_,_]) rfl (.inl rfl) rfl Fy ob (ab.nz [_,_] rfl (ih y _ n H4 hy ny ey h4 (by simp only[Ga];omega)) λH5 h5=>?_));refine lD zk ?_
 exact rO rfl rN qrg ⟨rfl,H5,rfl,by
  simp only[Yc] at h5 ⊢;exact h5⟩
theorem WV(c:CC):Ib c []=[]:=by rw[Ib]
theorem fR(c:CC)(x:Ex)(l:List Ex):Ib c (x::l)=Qb c x::Ib c l:=by rw[Ib]
theorem qzW{env:Cb}{name:Nm}{args:List Ex}(h:ug op = -1∨ug op=args.length)(ho:ug op=1):∃ x,args=[x]:=by
 have:args.length=1:=by omega
 exact nw this
theorem qxm{args:List Ex}(h:ug op = -1∨ug op=args.length)(ho:ug op=2):∃ x y,args=[x,y]:=by
 have h2:args.length=2:=by omega
 match args,h2 with
 |[x,y],_=>exact⟨x,y,rfl⟩
def El(c:CC)(op:Nm):List Wd:=if op=[62] then Om c else if op=[60,61] then Om c++[[49],[94]] else if op=[62,61] then [[60],[49],[94]] else if op=[61,61] then [[94],[49],[60]] else [op]
def zz(c:CC)(op:Nm)(X Y:List Wd):List Wd:=
 if op=[33,61] then [[48]]++X++[]++Y++[[94],[60]]
 else if op=[38,38] then [[48]]++X++[[60],[48]]++Y++[[60],[42]]
 else if op=[124,124] then [[48],[48]]++X++[[60],[48]]++Y++[[60],[43],[60]]
 else []++X++[]++Y++El c op
theorem qzi(c:CC)(num:Nat)(name:Nm)(x y:Ex)(h1:op≠Af)(h2:op≠bg)(h3:op≠Vj)(h4:op≠tg)(h5:op≠Ng)(h6:op≠yg):Qb c (.mk op num name [x,y])=zz c op (Qb c x) (Qb c y):=by rw[Qb,fR,fR,WV];unfold Cr zz El;rw[zn h1,zn h2,zn h3,zn h4,zn h5,zn h6];simp only[List.headD_cons,List.drop_one,List.tail_cons,List.nil_append,ue,Yc,cons_append,List.singleton_append]
theorem u4(hG:GW B0 w0){k:TB}(hk:Zt k c own)(ih:uK B0 w0 k own c env m)(op:Nm)(num:Nat)(name:Nm)(x y:Ex)(ws:List Wd)(n:Nat)(H:Heap)(hx:Zl x<=m)(hy:Zl y<=m)(nx:fj x)(ny:fj y)(ex:Gf env x=0)(ey:Gf env y=0)(h:Bk k own ws n H)
  (hr:ws.length+(zz c op (Qb c x) (Qb c y)).length<=1000000000) :
  ca (KC B0 w0) 204 [ptr k.tb 0,Ab (.mk op num name [x,y])] H (Jz (Bk k own (ws++zz c op (Qb c x) (Qb c y)) n)):=by
 rw[GC];generalize hW:zz c op (Qb c x) (Qb c y)=W at hr ⊢;unfold zz at hW;refine jb Tryz.func204 rfl (n:=64) rfl rfl rfl ?_;refine Xe ?_;refine oS (sB rfl λb2=>oS (sB rfl λb3=>?_));refine Ea.Yb (H':=(b2,.cells 123 [ptr k.tb 0])::MO b3 op num name [x,y]::H) ⟨[],by rw[ue];exact yq _ _ _⟩ ?_;refine xa ?_;have NX:=λ(A B:List Wd) {a b:LV} (ha:GL.elems a=some (A.map str)) (hb:GL.elems b=some (B.map str)) hr=>qnZ (B0:=B0) (w0:=w0) ih b2 b3 op num name x y ws n H hx hy nx ny ex ey h A B ha hb hr
 by_cases h1:op=[33,61];rw[zp h1] at hW;refine oC rfl (λ_=>?_) λhc=>absurd h1 (zf hc);refine Yd ?_;refine Zm ?_;refine oS (S.Vt (f:=233) (F:=[]) [_,_] rfl rfl rK (NX [[48]] [] rfl rfl (by rw[<-hW] at hr;simp only[Ga] at hr ⊢;omega)) ?_);rintro H1 ⟨H2,rfl,h2⟩;refine wa ?_;refine Ds ?_;refine oS (ff (H1:=H2) (F:=[_,_]) [_,_] rfl Fy (qj h2 [[94],[60]] rfl (by rw[<-hW] at hr;simp only[Ga] at hr ⊢;omega)) λH3 h3=>?_);refine Aa ?_;exact rR rfl rN iI ⟨rfl,by rw[<-hW];simp only[Yc] at h3 ⊢;exact h3⟩;rw[zn h1] at hW;refine oC rfl (λhc=>absurd (zt hc) h1) λ_=>?_;refine Mn ?_
 by_cases h2:op=[38,38];rw[zp h2] at hW;refine oC rfl (λ_=>?_) λhc=>absurd h2 (zf hc);refine Yd ?_;refine Zm ?_;refine Ds ?_;refine oS (S.Vt (f:=233) (F:=[]) [_,_] rfl rfl rK (NX [[48]] [[60],[48]] rfl rfl (by rw[<-hW] at hr;simp only[Ga] at hr ⊢;omega)) ?_);rintro H1 ⟨H2,rfl,h2⟩;refine wa ?_;refine Ds ?_;refine oS (ff (H1:=H2) (F:=[_,_]) [_,_] rfl Fy (qj h2 [[60],[42]] rfl (by rw[<-hW] at hr;simp only[Ga] at hr ⊢;omega)) λH3 h3=>?_);refine Aa ?_;exact rR rfl rN iI ⟨rfl,by rw[<-hW];simp only[Yc] at h3 ⊢;exact h3⟩;rw[zn h2] at hW;refine oC rfl (λhc=>absurd (zt hc) h2) λ_=>?_;refine Mn ?_
 by_cases h3:op=[124,124];rw[zp h3] at hW;refine oC rfl (λ_=>?_) λhc=>absurd h3 (zf hc);refine Yd ?_;refine Ds ?_;refine Ds ?_;refine oS (S.Vt (f:=233) (F:=[]) [_,_] rfl rfl rK (NX [[48],[48]] [[60],[48]] rfl rfl (by rw[<-hW] at hr;simp only[Ga] at hr ⊢;omega)) ?_);rintro H1 ⟨H2,rfl,h2⟩;refine TJ ?_;refine oS (ff (H1:=H2) (F:=[_,_]) [_,_] rfl Fy (qj h2 [[60],[43],[60]] rfl (by rw[<-hW] at hr;simp only[Ga] at hr ⊢;omega)) λH3 h3=>?_);refine Aa ?_;exact rR rfl rN iI ⟨rfl,by rw[<-hW];simp only[Yc] at h3 ⊢;exact h3⟩;rw[zn h3] at hW;refine oC rfl (λhc=>absurd (zt hc) h3) λ_=>?_;refine wa ?_;refine oS (S.Vt (f:=233) (F:=[]) [_,_] rfl rfl rK (NX [] [] rfl rfl (by rw[<-hW] at hr;simp only[Ga] at hr ⊢;omega)) ?_);rintro H1 ⟨H2,rfl,h2⟩;generalize hX:ws++([]++Qb c x++[]++Qb c y)=wx at h2;have ov:wx++El c op=ws++W:=by rw[<-hW,<-hX];simp only[Yc]
 have Um:=congrArg List.length ov;rw[Ga,Ga] at Um;unfold El at ov Um;refine xa ?_;by_cases g1:op=[62];rw[zp g1] at ov Um;refine oC rfl (λ_=>?_) λhc=>absurd g1 (zf hc);refine wa ?_;refine oS (ff (H1:=H2) (F:=[_,_]) [_] rfl Fy (qiL hG hk h2 zo) λH3 h3=>?_);refine Aa ?_;exact rO rfl rN iI ⟨rfl,by rw[<-ov];exact h3⟩;rw[zn g1] at ov Um;refine oC rfl (λhc=>absurd (zt hc) g1) λ_=>?_;refine Mn ?_
 by_cases g2:op=[60,61];rw[zp g2] at ov Um;rw[Ga] at Um;refine oC rfl (λ_=>?_) λhc=>absurd g2 (zf hc);refine wa ?_;refine oS (ff (H1:=H2) (F:=[_,_]) [_] rfl Fy (qiL hG hk h2 zo) λH3 h3=>?_);refine wa ?_;refine Ds ?_;refine oS (ff (H1:=H3) (F:=[_,_]) [_,_] rfl Fy (qj h3 [[49],[94]] rfl (by rw[Ga];omega)) λH4 h4=>?_);refine Aa ?_;exact rO rfl rN iI ⟨rfl,by rw[<-ov,<-Yc];exact h4⟩;rw[zn g2] at ov Um;refine oC rfl (λhc=>absurd (zt hc) g2) λ_=>?_;refine Mn ?_
 by_cases g3:op=[62,61];rw[zp g3] at ov Um;refine oC rfl (λ_=>?_) λhc=>absurd g3 (zf hc);refine TJ ?_;refine oS (ff (H1:=H2) (F:=[_,_]) [_,_] rfl Fy (qj h2 [[60],[49],[94]] rfl zo) λH3 h3=>?_);refine Aa ?_;exact rO rfl rN iI ⟨rfl,by rw[<-ov];exact h3⟩;rw[zn g3] at ov Um;refine oC rfl (λhc=>absurd (zt hc) g3) λ_=>?_;refine Mn ?_
 by_cases g4:op=[61,61];rw[zp g4] at ov Um;refine oC rfl (λ_=>?_) λhc=>absurd g4 (zf hc);refine TJ ?_;refine oS (ff (H1:=H2) (F:=[_,_]) [_,_] rfl Fy (qj h2 [[94],[49],[60]] rfl zo) λH3 h3=>?_);refine Aa ?_;exact rO rfl rN iI ⟨rfl,by rw[<-ov];exact h3⟩;rw[zn g4] at ov Um;refine oC rfl (λhc=>absurd (zt hc) g4) λ_=>?_;refine xa ?_;refine Zm ?_;refine oS (ff (H1:=H2) (F:=[_,_]) [_,_] rfl Fy (qj h2 [op] rfl zo) λH3 h3=>?_);refine Aa ?_;exact rO rfl rN iI ⟨rfl,by rw[<-ov];exact h3⟩
theorem QK(hG:GW B0 w0){k:TB}{own:Nm}{c:CC}(hk:Zt k c own){env:Cb}(hE:Zr env):∀ m:Nat,m<=2000000->uK B0 w0 k own c env m
 |0,_=>λx ws n H h=>by have:=wV x;omega
 |m+1,hm6=>by
  have ih:=QK hG hk hE m zo;intro x ws n H Bh lc tm h hr;obtain⟨op,num,name,args⟩:=x;rw[Zl] at Bh;rw[fj] at lc;obtain⟨lc,dF⟩:=lc;have TD:=GN args;have Tf:(args.map Ab).length=args.length:=Mb _;rw[Gf] at tm;by_cases ld:ug op = -1∨ug op=args.length;rotate_left;rw[zn ld] at tm;cases tm;rw[zp ld] at tm;obtain⟨Vi,OB⟩:=Tc.1 tm;have hW:Qb c (Ex.mk op num name args)=Cr c op num name (Ib c args):=by rw[Qb]
  have Yu:ug op=1->∃ x,args=[x]:=λh1=>qzW (env:=env) (name:=name) ld h1;rw[GC];refine jb Tryz.func158 rfl (n:=98) rfl rfl rfl ?_;refine Xe ?_;refine oS (sB rfl λb3=>?_);refine wa ?_
  by_cases h1:op=[110,117,109];have UD:Qb c (Ex.mk op num name args)=[decDigits num]:=by rw[hW];subst h1;rfl
  rw[UD] at hr ⊢;refine oC rfl (λ_=>?_) λhc=>absurd h1 (zf hc);refine xa ?_;refine oS (sF [_,_] (by show [int .u64 (IntKind.u64.wrap (num:Int)),_]=[int .u64 (num:Nat),int .i64 10];rw[quD lc];rfl) (He hG num (by have:num<4294967296:=lc;omega)) ?_);refine Zm ?_;refine oS (ff (H1:=H) (F:=[_]) [_,_] rfl uf (qj h [decDigits num] rfl hr) λH2 h2=>?_);refine Aa ?_;exact rO rfl rN Kq ⟨rfl,h2⟩;refine oC rfl (λhc=>absurd (zt hc) h1) λ_=>?_;refine Mn ?_
  by_cases h2:op=[118,97,114];have UD:Qb c (Ex.mk op num name args)=[c.sc name,[64]]:=by rw[hW];subst h2;rfl
  have RL:du env name=0:=by rw[<-OB];subst h2;rfl
  have Ir:=hE.sc name RL;rw[UD] at hr ⊢;refine oC rfl (λ_=>?_) λhc=>absurd h2 (zf hc);refine wa ?_;refine oS (S.lk (H1:=H) (F:=[_]) [_,_] rfl uf (UN hG hk h name zo) λH2 h2=>?_);refine Ds ?_;refine oS (ff (H1:=H2) (F:=[_]) [_,_] rfl uf (qj h2 [c.sc name,[64]] rfl hr) λH3 h3=>?_);refine Aa ?_;exact rO rfl rN Kq ⟨rfl,h3⟩;refine oC rfl (λhc=>absurd (zt hc) h2) λ_=>?_;refine Mn ?_
  by_cases h3:op=[101,108,101,109];obtain⟨x,rfl⟩:=Yu (by subst h3;rfl);have UD:Qb c (Ex.mk op num name [x])=[c.ar name]++(Qb c x++[[43],[64]]):=by rw[hW,fR,WV];subst h3;rfl
  rw[UD] at hr ⊢;simp only[Ga,Ma,qc] at hr;rw[vg] at Vi;rw[ml] at dF;rw[Vb] at Bh;have hex:=(Tc.1 Vi).1;obtain⟨a,QB,Nr,Lx⟩:=hk.ar name;refine oC rfl (λ_=>?_) λhc=>absurd h3 (zf hc);refine Aa ?_;have h0:=h;obtain⟨v,Hv,Eb,rfl⟩:=h;refine cD (m:=11) rfl [MO b3 op num name [x]]<|VJ ?_;refine aL ?_ Gd;refine lO 4 (lH rfl rfl (pL (c:=.atom _) rfl Xh rfl) ?_);refine lO 7 (lH rfl rfl (Pure.EL rfl rfl VO Lx) ?_);refine lO 8 (lS (H1:=[]) rfl (.inl rfl) rfl dc Gd (sF [_] rfl (KI hG a zo) ?_));rw[<-Nr];refine lO 9 (lS (H1:=[]) rfl (.inl rfl) rfl dc Gd (sL [_] rfl (Zv [_]) rfl rfl rfl ?_));refine lO 10 (lS (F:=[MO b3 op num name [x]]) rfl (.inl rfl) rfl uf ob (ab.nz [_,_] rfl (qj h0 [c.ar name] rfl (by simp only[Ma,qc];omega)) λH2 h2=>?_));refine lD zk ?_;refine qN ?_;refine cW qpR ?_;refine uw ?_;refine oS (ff (H1:=H2) (F:=[_]) [_,_] rfl uf (ih x _ n H2 zo dF.1 hex h2 (by simp only[Ga,Ma,qc];omega)) λH3 h3=>?_);refine Xi ?_;refine Ds ?_;refine oS (ff (H1:=H3) (F:=[_]) [_,_] rfl uf (qj h3 [[43],[64]] rfl (by simp only[Ga,Ma,qc];omega)) λH4 h4=>?_);refine Aa ?_;exact rO rfl rN Kq ⟨rfl,by rw[Yc,Yc] at h4;exact h4⟩;refine oC rfl (λhc=>absurd (zt hc) h3) λ_=>?_;refine Mn ?_
  by_cases h4:op=[99,97,108,108];have cf:Qc env name args.length=0:=by rw[<-OB];subst h4;rfl
  have Ir:=hE.call cf;have UD:Qb c (Ex.mk op num name args)=(Ib c args).flatten++(if name=[105,110] then [[44]] else if name=[111,117,116] then [[46],[48]] else [[38,102,95]++name,[58]]):=by rw[hW];subst h4;rfl
  rw[UD] at hr ⊢;rw[Ga] at hr;refine oC rfl (λ_=>?_) λhc=>absurd h4 (zf hc);refine xa ?_;refine oS (ff (H1:=H) (F:=[_]) [_,_] rfl uf (X0 ih args ws n H zo zo dF Vi h zo) λH2 h2=>?_);rw[<-Yc];generalize hX:ws++(Ib c args).flatten=wx at h2 ⊢;have pJ:=congrArg List.length hX;rw[Ga] at pJ;refine wa ?_
  by_cases g1:name=[105,110];rw[zp g1] at hr ⊢;refine oC rfl (λ_=>?_) λhc=>absurd g1 (zf hc);refine Yd ?_;refine Zm ?_;refine oS (ff (H1:=H2) (F:=[_]) [_,_] rfl uf (qj h2 [[44]] rfl zo) λH3 h3=>?_);refine Aa ?_;exact rO rfl rN Kq ⟨rfl,h3⟩;rw[zn g1] at hr ⊢;refine oC rfl (λhc=>absurd (zt hc) g1) λ_=>?_;refine Mn ?_
  by_cases g2:name=[111,117,116];rw[zp g2] at hr ⊢;refine oC rfl (λ_=>?_) λhc=>absurd g2 (zf hc);refine Yd ?_;refine Ds ?_;refine oS (ff (H1:=H2) (F:=[_]) [_,_] rfl uf (qj h2 [[46],[48]] rfl zo) λH3 h3=>?_);refine Aa ?_;exact rO rfl rN Kq ⟨rfl,h3⟩;rw[zn g2] at hr ⊢;refine oC rfl (λhc=>absurd (zt hc) g2) λ_=>?_;refine xa ?_;refine Ds ?_;refine oS (ff (H1:=H2) (F:=[_]) [_,_] rfl uf (qj h2 [[38,102,95]++name,[58]] rfl zo) λH3 h3=>?_);refine Aa ?_;exact rO rfl rN Kq ⟨rfl,h3⟩;refine oC rfl (λhc=>absurd (zt hc) h4) λ_=>?_;refine Mn ?_
  by_cases h5:op=[110,101,103];obtain⟨x,rfl⟩:=Yu (by subst h5;rfl);have UD:Qb c (Ex.mk op num name [x])=[[48]]++(Qb c x++[[45]]):=by rw[hW,fR,WV];subst h5;rfl
  rw[UD] at hr ⊢;simp only[Ga,Ma,qc] at hr;rw[vg] at Vi;rw[ml] at dF;rw[Vb] at Bh;have hex:=(Tc.1 Vi).1;refine oC rfl (λ_=>?_) λhc=>absurd h5 (zf hc);refine Yd ?_;refine Zm ?_;refine oS (ff (H1:=H) (F:=[_]) [_,_] rfl uf (qj h [[48]] rfl (by simp only[Ma,qc];omega)) λH2 h2=>?_);refine uw ?_;refine oS (ff (H1:=H2) (F:=[_]) [_,_] rfl uf (ih x _ n H2 zo dF.1 hex h2 (by simp only[Ga,Ma,qc];omega)) λH3 h3=>?_);refine Xi ?_;refine Zm ?_;refine oS (ff (H1:=H3) (F:=[_]) [_,_] rfl uf (qj h3 [[45]] rfl (by simp only[Ga,Ma,qc];omega)) λH4 h4=>?_);refine Aa ?_;exact rO rfl rN Kq ⟨rfl,by rw[Yc,Yc] at h4;exact h4⟩;refine oC rfl (λhc=>absurd (zt hc) h5) λ_=>?_;refine Mn ?_
  by_cases h6:op=[110,111,116];obtain⟨x,rfl⟩:=Yu (by subst h6;rfl);have UD:Qb c (Ex.mk op num name [x])=Qb c x++[[49],[60]]:=by rw[hW,fR,WV];subst h6;rfl
  rw[UD] at hr ⊢;simp only[Ga,Ma,qc] at hr;rw[vg] at Vi;rw[ml] at dF;rw[Vb] at Bh;have hex:=(Tc.1 Vi).1;refine oC rfl (λ_=>?_) λhc=>absurd h6 (zf hc);refine uw ?_;refine oS (ff (H1:=H) (F:=[_]) [_,_] rfl uf (ih x _ n H zo dF.1 hex h zo) λH3 h3=>?_);refine Xi ?_;refine Ds ?_;refine oS (ff (H1:=H3) (F:=[_]) [_,_] rfl uf (qj h3 [[49],[60]] rfl (by simp only[Ga,Ma,qc];omega)) λH4 h4=>?_);refine Aa ?_;exact rO rfl rN Kq ⟨rfl,by rw[Yc] at h4;exact h4⟩;refine oC rfl (λhc=>absurd (zt hc) h6) λ_=>?_
  have y6:ug op=2:=by
   unfold ug at ld ⊢;rw[zn λh=>h.elim h1 h2,zn λh=>h.elim h3 λh=>h.elim h5 h6,zn (show ¬ op=tg from h4)] at ld ⊢;split;rfl
   rename_i hb;rw[zn hb] at ld;omega
  obtain⟨x,y,rfl⟩:=qxm ld y6;have ov:=qzi c num name x y h1 h2 h3 h4 h5 h6;rw[ov] at hr ⊢;simp only[vg] at Vi;simp only[ml] at dF;simp only[Vb] at Bh;have hex:=Tc.1 Vi;refine xa ?_;refine oS (ff (H1:=H) (F:=[_]) [_,_] rfl uf (u4 hG hk ih op num name x y ws n H zo zo dF.1 dF.2.1 hex.1 (Tc.1 hex.2).1 h hr) λH3 h3=>?_);refine Aa ?_;exact rO rfl rN Kq ⟨rfl,h3⟩
mutual
theorem qvM(c:CC):∀ (s:Sm) (n:Nat),(Ig c n s).2<=n+2 * Oq s
 |.mk kind name index value Ua Bb,n=>by
  have ht:=λn=>QQ c Ua n;have he:=λn=>QQ c Bb n;rw[Oq];unfold Ig
  by_cases k1:kind=1;rw[zp k1];simp only;omega;rw[zn k1];by_cases k2:kind=2;rw[zp k2];simp only;omega;rw[zn k2];by_cases k3:kind=3;rw[zp k3];cases Bb with
  |nil=>have:=ht (n+1);simp only;omega
  |cons a r=>have h1:=ht (n+2);have h2:=he (Pa c (n+2) Ua).2;simp only;omega
  rw[zn k3];by_cases k4:kind=4;have h1:=ht (n+2);rw[zp k4];simp only;omega;rw[zn k4];by_cases k5:kind=5;rw[zp k5];simp only;omega;rw[zn k5];by_cases k6:kind=6;rw[zp k6];simp only;omega;rw[zn k6];by_cases k7:kind=7;rw[zp k7];simp only;omega;rw[zn k7];simp only;omega
theorem QQ(c:CC):∀ (l:List Sm) (n:Nat),(Pa c n l).2<=n+2 * Td l
 |[],n=>by rw[Pa,Td];simp
 |s::l,n=>by have h1:=qvM c s n;have h2:=QQ c l (Ig c n s).2;rw[Pa,Td];simp only;omega
end
theorem qvr(c:CC)(n:Nat)(s:Sm)(l:List Sm):Pa c n (s::l)=((Ig c n s).1++(Pa c (Ig c n s).2 l).1,(Pa c (Ig c n s).2 l).2):=by rw[Pa]
theorem P0(c:CC)(n:Nat):Pa c n []=([],n):=by rw[Pa]
theorem W2(x:Ex):([x]:List Ex).headD default=x:=rfl
theorem qq8:∀ {l:List Sm} {x:Sm},x∈l->Oq x<=Td l
 |g::l,f,h=>by rw[Td];rcases Dc.1 h with rfl|h;omega;have:=qq8 h;omega
abbrev J9(b:Nat)(kind:Int)(name:Nm)(index value:List Ex)(Ua Bb:List Sm):Nat×ja:=(b,.cells 216 [int .i64 kind,str name,.list (index.map Ab),.list (value.map Ab),.list (Ua.map uc),.list (Bb.map uc)])
def RY(B0:Nat)(w0:World)(k:TB)(own:Nm)(c:CC)(env:Cb)(m:Nat):Prop:=∀ (l:List Sm) (ws:List Wd) (n:Nat) (H:Heap),Td l<=m->Bj l->mi env l=0->Bk k own ws n H->ws.length+(Pa c n l).1.length<=1000000000->n+2 * Td l<=1000000000->ca (KC B0 w0) 93 [ptr k.tb 0,.list (l.map uc)] H (Jz (Bk k own (ws++(Pa c n l).1) (Pa c n l).2))
theorem qpy(hG:GW B0 w0){k:TB}(hX:uK B0 w0 k own c env 2000000)(ih:RY B0 w0 k own c env m)(name:Nm)(index:List Ex)(v:Ex)(Ua Bb:List Sm)(ws:List Wd)(n:Nat)(H:Heap)(hv:Zl v<=2000000)(hm:Td Ua+Td Bb<=m)(h2m:Bb.length<=2000000)
  (nv:fj v) (nt:Bj Ua) (ne:Bj Bb) (ev:Gf env v=0) (et:mi env Ua=0) (ee:mi env Bb=0) (h:Bk k own ws n H) (hr:ws.length+(Ig c n (.mk 3 name index [v] Ua Bb)).1.length<=1000000000) (hN:n+2+2 * (Td Ua+Td Bb)<=1000000000) :
  ca (KC B0 w0) 159 [ptr k.tb 0,uc (.mk 3 name index [v] Ua Bb)] H (Jz (Bk k own (ws++(Ig c n (.mk 3 name index [v] Ua Bb)).1) (Ig c n (.mk 3 name index [v] Ua Bb)).2)):=by
 have Ka:=QQ c Ua (n+2);have vH:∀ i:Nat,i<=1000000001->(za i).length<=11:=λi hi=>xN zo;have hle:(Bb.map uc).length=Bb.length:=Mb _;rw[Kw];refine jb Tryz.func159 rfl (n:=65) rfl rfl rfl ?_;refine Xe ?_;refine oS (sB rfl λb3=>?_);refine Xi ?_;refine oS (S.lk (H1:=H) (F:=[_]) [_] rfl uf (IW hG h zo) λH1 h1=>?_);have LB:=vH n zo;refine xa ?_
 cases Bb with
 |nil=>
  have hS:Ig c n (.mk 3 name index [v] Ua [])=(Qb c v++([38::za n,[63]]++((Pa c (n+1) Ua).1++[za n++[58]])),(Pa c (n+1) Ua).2):=by unfold Ig;rw[zn ea,zn ea,zp rfl];simp only[W2,Yc]
  rw[hS] at hr ⊢;simp only[Ga,Ma,qc] at hr;refine oC rfl (λ_=>?_) (λhc=>by cases hc);refine XJ ?_;refine oS (ff (H1:=H1) (F:=[_]) [_,_] rfl uf (hX v ws (n+1) H1 hv nv ev h1 zo) λH2 h2=>?_);refine xa ?_;refine Ds ?_;refine oS (ff (H1:=H2) (F:=[_]) [_,_] rfl uf (qj h2 [38::za n,[63]] rfl (by simp only[Ga,Ma,qc];omega)) λH3 h3=>?_);refine xa ?_;refine oS (ff (H1:=H3) (F:=[_]) [_,_] rfl uf (ih Ua _ (n+1) H3 zo nt et h3 (by simp only[Ga,Ma,qc];omega) zo) λH4 h4=>?_);refine xa ?_;refine Zm ?_;refine oS (ff (H1:=H4) (F:=[_]) [_,_] rfl uf (qj h4 [za n++[58]] rfl (by simp only[Ga,Ma,qc];omega)) λH5 h5=>?_);refine Aa ?_
  exact rR rfl rN Kq ⟨rfl,by simp only[Yc] at h5 ⊢;exact h5⟩
 |cons s0 r0=>
  have hS:Ig c n (.mk 3 name index [v] Ua (s0::r0))=(Qb c v++([38::za n,[63]]++((Pa c (n+2) Ua).1++([[48],38::za (n+1),[63],za n++[58]]++((Pa c (Pa c (n+2) Ua).2 (s0::r0)).1++[za (n+1)++[58]])))),(Pa c (Pa c (n+2) Ua).2 (s0::r0)).2):=by unfold Ig;rw[zn ea,zn ea,zp rfl];simp only[W2,Yc]
  rw[hS] at hr ⊢;simp only[Ga,Ma,qc] at hr;have EA:=vH (n+1) zo;generalize O7:s0::r0=Bb at *;have xb:¬ ((Bb.map uc).length:Int)=0:=by rw[<-O7];simp only[Mb,Ma];omega
  refine oC rfl (λhc=>absurd (zt hc) xb) λ_=>?_;refine wa ?_;refine oS (S.lk (H1:=H1) (F:=[_]) [_] rfl uf (IW hG h1 zo) λH1 h1=>?_);refine XJ ?_;refine oS (ff (H1:=H1) (F:=[_]) [_,_] rfl uf (hX v ws (n+1+1) H1 hv nv ev h1 zo) λH2 h2=>?_);refine xa ?_;refine Ds ?_;refine oS (ff (H1:=H2) (F:=[_]) [_,_] rfl uf (qj h2 [38::za n,[63]] rfl (by simp only[Ga,Ma,qc];omega)) λH3 h3=>?_);refine xa ?_;refine oS (ff (H1:=H3) (F:=[_]) [_,_] rfl uf (ih Ua _ (n+2) H3 zo nt et h3 (by simp only[Ga,Ma,qc];omega) zo) λH4 h4=>?_);refine xa ?_;refine oS (sL [_,_,_,_] rfl (Zv [_,_,_,_]) rfl rfl rfl<|oS (ff (H1:=H4) (F:=[_]) [_,_] rfl uf (qj h4 [[48],38::za (n+1),[63],za n++[58]] rfl (by simp only[Ga,Ma,qc];omega)) λH5 h5=>?_));refine xa ?_;refine oS (ff (H1:=H5) (F:=[_]) [_,_] rfl uf (ih Bb _ _ H5 zo ne ee h5 (by simp only[Ga,Ma,qc];omega) zo) λH6 h6=>?_);refine xa ?_;refine Zm ?_;refine oS (ff (H1:=H6) (F:=[_]) [_,_] rfl uf (qj h6 [za (n+1)++[58]] rfl (by simp only[Ga,Ma,qc];omega)) λH7 h7=>?_);refine Ad ?_;exact rO rfl rN Kq ⟨rfl,by simp only[Yc] at h7 ⊢;exact h7⟩
theorem qvp(hG:GW B0 w0){k:TB}(hX:uK B0 w0 k own c env 2000000)(ih:RY B0 w0 k own c env m)(name:Nm)(index:List Ex)(v:Ex)(Ua Bb:List Sm)(ws:List Wd)(n:Nat)(H:Heap)(hv:Zl v<=2000000)(hm:Td Ua<=m)
  (nv:fj v) (nt:Bj Ua) (ev:Gf env v=0) (et:mi env Ua=0) (h:Bk k own ws n H) (hr:ws.length+(Ig c n (.mk 4 name index [v] Ua Bb)).1.length<=1000000000) (hN:n+2+2 * Td Ua<=1000000000) :
  ca (KC B0 w0) 160 [ptr k.tb 0,uc (.mk 4 name index [v] Ua Bb)] H (Jz (Bk k own (ws++(Ig c n (.mk 4 name index [v] Ua Bb)).1) (Ig c n (.mk 4 name index [v] Ua Bb)).2)):=by
 have LB:(za n).length<=11:=xN zo;have EA:(za (n+1)).length<=11:=xN zo;have hS:Ig c n (.mk 4 name index [v] Ua Bb)=([za n++[58]]++(Qb c v++([38::za (n+1),[63]]++((Pa c (n+2) Ua).1++[[48],38::za n,[63],za (n+1)++[58]]))),(Pa c (n+2) Ua).2):=by unfold Ig;rw[zn ea,zn ea,zn ea,zp rfl];simp only[W2,Yc]
 rw[hS] at hr ⊢;simp only[Ga,Ma,qc] at hr;rw[Kw];refine jb Tryz.func160 rfl (n:=37) rfl rfl rfl ?_;refine Xe ?_;refine oS (sB rfl λb3=>?_);refine Xi ?_;refine oS (S.lk (H1:=H) (F:=[_]) [_] rfl uf (IW hG h zo) λH1 h1=>?_);refine Aa ?_;refine oS (S.lk (H1:=H1) (F:=[_]) [_] rfl uf (IW hG h1 zo) λH1 h1=>?_);refine xa ?_;refine Zm ?_;refine oS (ff (H1:=H1) (F:=[_]) [_,_] rfl uf (qj h1 [za n++[58]] rfl (by simp only[Ga,Ma,qc];omega)) λH2 h2=>?_);refine XJ ?_;refine oS (ff (H1:=H2) (F:=[_]) [_,_] rfl uf (hX v _ (n+1+1) H2 hv nv ev h2 (by simp only[Ga,Ma,qc];omega)) λH3 h3=>?_);refine xa ?_;refine Ds ?_;refine oS (ff (H1:=H3) (F:=[_]) [_,_] rfl uf (qj h3 [38::za (n+1),[63]] rfl (by simp only[Ga,Ma,qc];omega)) λH4 h4=>?_);refine xa ?_;refine oS (ff (H1:=H4) (F:=[_]) [_,_] rfl uf (ih Ua _ (n+2) H4 zo nt et h4 (by simp only[Ga,Ma,qc];omega) zo) λH5 h5=>?_);refine xa ?_;refine oS (sL [_,_,_,_] rfl (Zv [_,_,_,_]) rfl rfl rfl<|oS (ff (H1:=H5) (F:=[_]) [_,_] rfl uf (qj h5 [[48],38::za n,[63],za (n+1)++[58]] rfl (by simp only[Ga,Ma,qc];omega)) λH6 h6=>?_));refine Ad ?_;exact rO rfl rN Kq ⟨rfl,by simp only[Yc] at h6 ⊢;exact h6⟩
theorem qtp{name:List UInt8}{index value:List Ex}{Ua Bb:List Sm}(h:Zh (.mk 2 name index value Ua Bb)=true):∃ x,index=[x]:=by
 have h1:index.length=1:=by
  simp only[Zh] at h;repeat' (split at h)
  all_goals first
   |(simp only[Rg] at h;omega)
   |cases h
   |contradiction
 exact nw h1
theorem qvx{kind:Int}{name:List UInt8}{index value:List Ex}{Ua Bb:List Sm}(h:Zh (.mk kind name index value Ua Bb)=true):kind=1∨kind=2∨kind=3∨kind=4∨kind=5∨kind=6∨kind=7:=by
 simp only[Zh] at h;repeat' (split at h)
 all_goals first
  |omega
  |cases h
theorem JW(hG:GW B0 w0){k:TB}{own:Nm}{c:CC}(hk:Zt k c own){env:Cb}(hE:Zr env):∀ m:Nat,m<=2000000->RY B0 w0 k own c env m
 |0,_=>λl ws n H hm lc tm h hr hN=>by
  have:l=[]:=by
   cases l with
   |nil=>rfl
   |cons s r=>have:=NZ s;rw[Td] at hm;omega
  subst this;rw[P0];refine jb Tryz.func93 rfl (n:=97) rfl rfl rfl ?_;refine wa ?_;refine oL (λkk ls H'=>kk=0/\ls=[(0,ptr k.tb 0),(6,.list []),(7,int .i64 0),(8,int .i64 0)]/\H'=H) ⟨0,_,_,⟨rfl,rfl,rfl⟩,Kb,bc _⟩ ?_;rintro kk ls H' ⟨rfl,rfl,rfl⟩ j hj;refine wh ?_;refine oC rfl (λhc=>by cases hc) λhc=>?_;refine Aa ?_
  exact rO hj rN ob ⟨rfl,by rw[ue];exact h⟩
 |m+1,hm6=>by
  have ih:=JW hG hk hE m zo;have hX:uK B0 w0 k own c env 2000000:=QK hG hk hE 2000000 (Pb _);intro l ws n H hm lc tm h hr hN;have TD:=KK l;generalize hT:Pa c n l=T at hr ⊢;refine jb Tryz.func93 rfl (n:=97) rfl rfl rfl ?_;refine wa ?_;refine oL (λkk ls H'=>∃ (pre l1:List Sm) (Pn:List Wd) (n':Nat),l=pre++l1/\kk=l1.length/\ls=[(0,ptr k.tb 0),(6,.list (l.map uc)),(7,int .i64 ((l.map uc).length:Int)),(8,int .i64 (pre.length:Int))]/\Bk k own Pn n' H'/\Pn++(Pa c n' l1).1=ws++T.1/\(Pa c n' l1).2=T.2/\n'+2 * Td l1<=1000000000/\mi env l1=0/\Bj l1)
   ⟨l.length,_,_,⟨[],l,ws,n,rfl,rfl,rfl,h,by rw[hT],by rw[hT],hN,tm,lc⟩,Kb,bc _⟩ ?_
  rintro kk ls H' ⟨pre,l1,Pn,n',ec,rfl,rfl,IA,hW,hL,WD,Vi,zx⟩ j hj;have oo:pre.length<=2000000:=by have:=congrArg List.length ec;rw[Ga] at this;omega
  refine wh ?_;refine Oa (λhc=>?_) λhc=>?_;rotate_left;have ma:=zf hc;rw[Mb,ec,Ga] at ma
  obtain rfl:l1=[]:=by
   cases l1 with
   |nil=>rfl
   |cons a l2=>simp at ma;omega
  rw[P0,ue] at hW;rw[P0] at hL;simp only at hL;refine Aa ?_;exact rO hj rN ob ⟨rfl,by rw[<-hW,<-hL];exact IA⟩;have ma:=zt hc;rw[Mb,ec,Ga] at ma;obtain⟨s,l2,rfl⟩:∃ a l2,l1=a::l2:=by
   cases l1 with
   |nil=>simp at ma
   |cons a l2=>exact⟨a,l2,rfl⟩
  have SD:Oq s<=Td l:=qq8 (by rw[ec];exact mem_append_right _ Qe);have gr:=qvM c s n';rw[mi] at Vi;rw[Bj] at zx;rw[Td] at WD;obtain⟨VL,CD⟩:=zx;obtain⟨Fx,OB⟩:=Tc.1 Vi;rw[qvr] at hW hL;simp only at hW hL;rw[<-Yc] at hW;have Um:=congrArg List.length hW;rw[Ga,Ga,Ga] at Um;obtain⟨kind,name,index,value,Ua,Bb⟩:=s;rw[Dl] at Fx;by_cases hf:Zh (.mk kind name index value Ua Bb)=false;rw[zp hf] at Fx;cases Fx;rw[zn hf] at Fx;rw[Bool.not_eq_false] at hf;obtain⟨e1,Fx⟩:=Tc.1 Fx;obtain⟨e2,Fx⟩:=Tc.1 Fx;obtain⟨e3,Fx⟩:=Tc.1 Fx;obtain⟨e4,e5⟩:=Tc.1 Fx;rw[aq] at VL;obtain⟨n1,n2,n3,n4⟩:=VL;rw[Oq] at SD WD gr;have um:=KK Bb;refine Zi ?_;refine qa (xR (Ud:=.agg [int .i64 kind,str name,.list (index.map Ab),.list (value.map Ab),.list (Ua.map uc),.list (Bb.map uc)]) (cs:=[_,_,_,_,_,_]) rfl rfl zo (by
   have h9:=sk.de uc pre (Sm.mk kind name index value Ua Bb) l2;rw[Kw] at h9;rw[ec];exact h9) rfl rfl) ?_
  refine Ra ?_;refine oS (Sd λb5=>?_);refine xa ?_;have fin:∀ {e:Env} {Hx:Heap} (W:List Wd) (nx:Nat) (H2:Heap),Ig c n' (.mk kind name index value Ua Bb)=(W,nx)->Bk k own (Pn++W) nx H2->HSub H2 Hx->e.ds=j.ds ->
    (e.s 0=ptr k.tb 0/\e.s 6=.list (l.map uc)/\e.s 7=int .i64 ((l.map uc).length:Int)/\e.s 8=int .i64 ((pre.length:Int)+1)) ->
    ∃ k' ls' H3,k'<(Sm.mk kind name index value Ua Bb::l2).length/\(∃ (pre l1:List Sm) (Pn:List Wd) (n':Nat),l=pre++l1/\k'=l1.length/\ls'=[(0,ptr k.tb 0),(6,.list (l.map uc)),(7,int .i64 ((l.map uc).length:Int)),(8,int .i64 (pre.length:Int))]/\Bk k own Pn n' H3/\Pn++(Pa c n' l1).1=ws++T.1/\(Pa c n' l1).2=T.2/\n'+2 * Td l1<=1000000000/\mi env l1=0/\Bj l1)/\Jy e ls'/\HSub H3 Hx/\e.ds=[]:=by
   intro e Hx W nx H2 hS DT uD hd hv;rw[hS] at hW hL gr;simp only at hW hL gr;exact⟨l2.length,_,H2,lt_succ_self _,⟨pre++[Sm.mk kind name index value Ua Bb],l2,Pn++W,nx,by rw[ec];simp,rfl,rfl,DT,hW,hL,by omega,OB,CD⟩,⟨hv.1,hv.2.1,hv.2.2.1,by rw[hv.2.2.2];exact qf (by simp),trivial⟩,uD,hd.trans hj⟩
  by_cases k1:kind=1;subst k1;obtain⟨x,rfl⟩:=nj.bf hf ea;rw[vg] at e1;rw[ml] at n2;rw[Vb,Vb] at SD WD gr;have hex:=(Tc.1 e1).1;have RL:du env name=0:=by rw[zp rfl] at e3;exact e3
  have Ir:=hE.sc name RL;have hS:Ig c n' (.mk 1 name index [x] Ua Bb)=(Qb c x++[c.sc name,[33]],n'):=by unfold Ig;rw[zp rfl];rfl
  have Zy:=Um;rw[hS] at Zy;simp only[Ga,Ma,qc] at Zy;refine oC rfl (λ_=>?_) (λhc=>by cases hc);refine uw ?_;refine oS (ff (H1:=H') (F:=[_]) [_,_] rfl uf (hX x Pn n' H' zo n2.1 hex IA zo) λH2 h2=>?_);refine wa ?_;refine oS (S.lk (H1:=H2) (F:=[_]) [_,_] rfl uf (UN hG hk h2 name zo) λH3 h3=>?_);refine Ds ?_;refine oS (ff (H1:=H3) (F:=[_]) [_,_] rfl uf (qj h3 [c.sc name,[33]] rfl (by simp only[Ga,Ma,qc];omega)) λH4 h4=>?_);refine zm ?_;exact fin _ _ H4 hS (by rw[<-Yc];exact h4) Kq rfl ⟨rfl,rfl,rfl,rfl⟩;refine oC rfl (λhc=>absurd (zt hc) k1) λ_=>?_;refine Pj ?_
  by_cases k2:kind=2;subst k2;obtain⟨x,rfl⟩:=nj.bf hf ea;obtain⟨y,rfl⟩:=qtp hf;rw[vg] at e1 e2;rw[ml] at n1 n2;rw[Vb,Vb,Vb,Vb] at SD WD gr;have hex:=(Tc.1 e1).1;have hey:=(Tc.1 e2).1;obtain⟨a,QB,Nr,Lx⟩:=hk.ar name;have hS:Ig c n' (.mk 2 name [y] [x] Ua Bb)=(Qb c x++([c.ar name]++(Qb c y++[[43],[33]])),n'):=by unfold Ig;rw[zn ea,zp rfl];rfl
  have Zy:=Um;rw[hS] at Zy;simp only[Ga,Ma,qc] at Zy;refine oC rfl (λ_=>?_) (λhc=>by cases hc);refine uw ?_;refine oS (ff (H1:=H') (F:=[_]) [_,_] rfl uf (hX x Pn n' H' zo n2.1 hex IA zo) λH2 h2=>?_);refine Aa ?_;have h0:=h2;obtain⟨v,Hv,Eb,rfl⟩:=h2;refine cD (m:=11) rfl [J9 b5 2 name [y] [x] Ua Bb]<|VJ ?_;refine aL ?_ NY;refine lO 4 (lH rfl rfl (pL (c:=.atom _) rfl Xh rfl) ?_);refine lO 7 (lH rfl rfl (Pure.EL rfl rfl VO Lx) ?_);refine lO 8 (lS (H1:=[]) rfl (.inl rfl) rfl dc NY (sF [_] rfl (KI hG a zo) ?_));rw[<-Nr];refine lO 9 (lS (H1:=[]) rfl (.inl rfl) rfl dc NY (sL [_] rfl (Zv [_]) rfl rfl rfl ?_));refine lO 10 (lS (F:=[J9 b5 2 name [y] [x] Ua Bb]) rfl (.inl rfl) rfl uf ob (ab.nz [_,_] rfl (qj h0 [c.ar name] rfl (by simp only[Ga,Ma,qc];omega)) λH2 h2=>?_));refine lD zk ?_;refine qN ?_;refine cW qpR ?_;refine xa ?_;refine qa (xR (Ud:=Ab y) (cs:=[_,_,_,_]) rfl rfl ea rfl rfl rfl)<|Ra ?_;refine oS (ff (H1:=H2) (F:=[_]) [_,_] rfl uf (hX y _ n' H2 zo n1.1 hey h2 (by simp only[Ga,Ma,qc];omega)) λH3 h3=>?_);refine Xi ?_;refine Ds ?_;refine oS (ff (H1:=H3) (F:=[_]) [_,_] rfl uf (qj h3 [[43],[33]] rfl (by simp only[Ga,Ma,qc];omega)) λH4 h4=>?_);refine zm ?_;exact fin _ _ H4 hS (by simp only[Yc] at h4 ⊢;exact h4) Kq rfl ⟨rfl,rfl,rfl,rfl⟩;refine oC rfl (λhc=>absurd (zt hc) k2) λ_=>?_;refine Pj ?_
  by_cases k3:kind=3;subst k3;obtain⟨x,rfl⟩:=nj.bf hf ea;rw[vg] at e1;rw[ml] at n2;rw[Vb,Vb] at SD WD gr;have hex:=(Tc.1 e1).1;refine oC rfl (λ_=>?_) (λhc=>by cases hc);refine xa ?_;refine oS (ff (H1:=H') (F:=[_]) [_,_] (by show [ptr k.tb 0,_]=_;rw[Kw];rfl) uf (qpy hG hX ih name index x Ua Bb Pn n' H' zo zo zo n2.1 n3 n4 hex e4 e5 IA zo zo) λH2 h2=>?_);refine zm ?_;exact fin _ _ H2 rfl h2 Kq rfl ⟨rfl,rfl,rfl,rfl⟩;refine oC rfl (λhc=>absurd (zt hc) k3) λ_=>?_;refine Pj ?_
  by_cases k4:kind=4;subst k4;obtain⟨x,rfl⟩:=nj.bf hf ea;rw[vg] at e1;rw[ml] at n2;rw[Vb,Vb] at SD WD gr;have hex:=(Tc.1 e1).1;refine oC rfl (λ_=>?_) (λhc=>by cases hc);refine xa ?_;refine oS (ff (H1:=H') (F:=[_]) [_,_] (by show [ptr k.tb 0,_]=_;rw[Kw];rfl) uf (qvp hG hX ih name index x Ua Bb Pn n' H' zo zo n2.1 n3 hex e4 IA zo zo) λH2 h2=>?_);refine zm ?_;exact fin _ _ H2 rfl h2 Kq rfl ⟨rfl,rfl,rfl,rfl⟩;refine oC rfl (λhc=>absurd (zt hc) k4) λ_=>?_;refine Pj ?_
  by_cases k5:kind=5;subst k5;obtain⟨x,rfl⟩:=nj.bf hf ea;rw[vg] at e1;rw[ml] at n2;rw[Vb,Vb] at SD WD gr;have hex:=(Tc.1 e1).1;have hS:Ig c n' (.mk 5 name index [x] Ua Bb)=(Qb c x++[[59]],n'):=by unfold Ig;rw[zn ea,zn ea,zn ea,zn ea,zp rfl];rfl
  have Zy:=Um;rw[hS] at Zy;simp only[Ga,Ma,qc] at Zy;refine oC rfl (λ_=>?_) (λhc=>by cases hc);refine uw ?_;refine oS (ff (H1:=H') (F:=[_]) [_,_] rfl uf (hX x Pn n' H' zo n2.1 hex IA zo) λH2 h2=>?_);refine Xi ?_;refine Zm ?_;refine oS (ff (H1:=H2) (F:=[_]) [_,_] rfl uf (qj h2 [[59]] rfl (by simp only[Ga,Ma,qc];omega)) λH4 h4=>?_);refine zm ?_;exact fin _ _ H4 hS (by rw[<-Yc];exact h4) Kq rfl ⟨rfl,rfl,rfl,rfl⟩;refine oC rfl (λhc=>absurd (zt hc) k5) λ_=>?_;refine Pj ?_
  by_cases k6:kind=6;subst k6;obtain⟨x,rfl⟩:=nj.bf hf ea;rw[vg] at e1;rw[ml] at n2;rw[Vb,Vb] at SD WD gr;have hex:=(Tc.1 e1).1;have hS:Ig c n' (.mk 6 name index [x] Ua Bb)=(Qb c x++[c.t0,[33]],n'):=by unfold Ig;rw[zn ea,zn ea,zn ea,zn ea,zn ea,zp rfl];rfl
  have Zy:=Um;rw[hS] at Zy;simp only[Ga,Ma,qc] at Zy;refine oC rfl (λ_=>?_) (λhc=>by cases hc);refine uw ?_;refine oS (ff (H1:=H') (F:=[_]) [_,_] rfl uf (hX x Pn n' H' zo n2.1 hex IA zo) λH2 h2=>?_);refine Xi ?_
  refine oS (S.lk (H1:=H2) (F:=[_]) [_,_] rfl uf (by
   have h9:=VW hG hk h2 0 ea;rw[add_zero,<-hk.t0] at h9;exact h9) λH3 h3=>?_)
  refine Ds ?_;refine oS (ff (H1:=H3) (F:=[_]) [_,_] rfl uf (qj h3 [c.t0,[33]] rfl (by simp only[Ga,Ma,qc];omega)) λH4 h4=>?_);refine zm ?_;exact fin _ _ H4 hS (by rw[<-Yc];exact h4) Kq rfl ⟨rfl,rfl,rfl,rfl⟩;refine oC rfl (λhc=>absurd (zt hc) k6) λ_=>?_;refine Pj ?_;have k7:kind=7:=by have:=qvx hf;omega
  subst k7;have hS:Ig c n' (.mk 7 name index value Ua Bb)=([[36]],n'):=by unfold Ig;rw[zn ea,zn ea,zn ea,zn ea,zn ea,zn ea,zp rfl]
  have Zy:=Um;rw[hS] at Zy;simp only[Ga,Ma,qc] at Zy;refine oC rfl (λ_=>?_) (λhc=>by cases hc);refine Yd ?_;refine Zm ?_;refine oS (ff (H1:=H') (F:=[_]) [_,_] rfl uf (qj IA [[36]] rfl (by simp only[Ga,Ma,qc];omega)) λH4 h4=>?_);refine zm ?_;exact fin _ _ H4 hS h4 Kq rfl ⟨rfl,rfl,rfl,rfl⟩
abbrev Iu(c:CC)(l:List Nm):List Wd:=l.flatMap λp=>[c.sc p,[33]]
theorem qta(c:CC)(p:Nm)(l:List Nm):Iu c (p::l)=[c.sc p,[33]]++Iu c l:=by unfold Iu;rw[List.flatMap_cons]
theorem qwS(cc:Nm->CC)(n:Nat):Rc cc n []=([],n):=by rw[Rc]
theorem qvb(cc:Nm->CC)(n:Nat)(f:yb)(l:List yb):Rc cc n (f::l)=((Sk (cc f.name) n f).1++(Rc cc (Sk (cc f.name) n f).2 l).1,(Rc cc (Sk (cc f.name) n f).2 l).2):=by rw[Rc]
theorem qA7(c:CC)(n:Nat)(f:yb):Sk c n f=([[102,95]++f.name++[58]]++(Iu c f.params.reverse++((Pa c n f.body).1++[[48],[59]])),(Pa c n f.body).2):=by unfold Sk Iu;simp only[Yc]
theorem qxG{l:List Nm}(h:i<l.length):(l.take (i+1)).reverse=l[i]::(l.take i).reverse:=by rw[take_succ_eq_append_getElem h,List.reverse_append];rfl
structure FnT(k:TB)(cc:Nm->CC)(f:yb):Prop where
 tb:Zt k (cc f.name) f.name
 name:f.name.length<=24
 params:∀ p∈f.params,p.length<=1000000
 num:Bj f.body
 env:∃ env,Zr env/\mi env f.body=0
theorem XK(hG:GW B0 w0){k:TB}{cc:Nm->CC}(kx:k.sc<=1000000000)(vars:List Nm)(ba:List (Nm×Int))(fs:List yb)(Bh:ze fs<=2000000)(hf:∀ f∈fs,FnT k cc f){own0:Nm}{c0:CC}(xH:Zt k c0 own0)(H:Heap)(h:Bk k own0 [] 0 H)
  (hr:5+(Rc cc 0 fs).1.length<=1000000000) :
  ca (KC B0 w0) 52 [ptr k.tb 0,sk.Fh vars ba fs] H (Jz λH'=>∃ own n,Bk k own ([[38,102,95,109,97,105,110],[58],decDigits k.sc,[33],[36]]++(Rc cc 0 fs).1) n H'):=by
 have TD:=OV fs;have Tf:(fs.map Eg).length=fs.length:=Mb _;refine jb Tryz.func52 rfl (n:=57) rfl rfl rfl ?_;refine Xe ?_;refine oS (sB rfl λb3=>?_);refine Xi ?_;refine oS (S.lk (H1:=H) (F:=[_]) [_,_] rfl uf (by
  have h9:=VW hG xH h 0 ea;rw[add_zero] at h9;exact h9) λH1 h1=>?_)
 refine oS (sL [_,_,_,_,_] rfl (Zv [_,_,_,_,_]) rfl rfl rfl<|oS (ff (H1:=H1) (F:=[_]) [_,_] rfl uf (qj h1 [[38,102,95,109,97,105,110],[58],decDigits k.sc,[33],[36]] rfl (by simp only[Ma,qc];omega)) λH2 h2=>?_));rw[List.nil_append] at h2;refine xa ?_;generalize hP:([[38,102,95,109,97,105,110],[58],decDigits k.sc,[33],[36]]:List Wd)=P5 at h2 ⊢;have hP5:P5.length=5:=by rw[<-hP];rfl
 clear hP;generalize hT:Rc cc 0 fs=T at hr ⊢;refine oL (λkk ls H'=>∃ (pre l1:List yb) (Pn:List Wd) (n':Nat) (own:Nm),fs=pre++l1/\kk=l1.length/\ls=[(0,ptr k.tb 0),(13,.list (fs.map Eg)),(14,int .i64 ((fs.map Eg).length:Int)),(15,int .i64 (pre.length:Int))]/\Bk k own Pn n' H'/\Pn++(Rc cc n' l1).1=P5++T.1/\n'+2 * ze l1<=1000000000)
  ⟨fs.length,_,_,⟨[],fs,P5,0,own0,rfl,rfl,rfl,h2,by rw[hT],by omega⟩,Kb,Kq⟩ ?_
 rintro kk ls H' ⟨pre,l1,Pn,n',own,ec,rfl,rfl,IA,hW,WD⟩ j hj;have oo:pre.length<=2000000:=by have:=congrArg List.length ec;rw[Ga] at this;omega
 refine wh ?_;refine Oa (λhc=>?_) λhc=>?_;rotate_left;have ma:=zf hc;rw[Mb,ec,Ga] at ma
 obtain rfl:l1=[]:=by
  cases l1 with
  |nil=>rfl
  |cons a l2=>simp at ma;omega
 rw[qwS,ue] at hW;refine Aa ?_;exact rO hj rN ob ⟨rfl,own,n',by rw[<-hW];exact IA⟩;have ma:=zt hc;rw[Mb,ec,Ga] at ma;obtain⟨f,l2,rfl⟩:∃ a l2,l1=a::l2:=by
  cases l1 with
  |nil=>simp at ma
  |cons a l2=>exact⟨a,l2,rfl⟩
 have BO:f∈fs:=by rw[ec];exact mem_append_right _ Qe
 have yO:=fW BO;obtain⟨hk,CA,hpm,lc,env,hE,tm⟩:=hf f BO;rw[ze] at WD;have uT:=QQ (cc f.name) f.body n';have Ct:(f.params.map str).length=f.params.length:=Mb _;unfold Dr at yO WD;rw[qvb] at hW;rw[qA7] at hW;simp only at hW;have Um:=congrArg List.length hW;simp only[Ga,Ma,qc] at Um;obtain⟨v,Hv,Eb,rfl⟩:=IA;refine Zi ?_;refine qa (xR (Ud:=Eg f) (cs:=[_,_,_,_]) rfl rfl zo (by rw[ec];exact sk.de Eg pre f l2) rfl rfl)<|Ra ?_;refine oS (Sd λb5=>?_);refine xa ?_;first|(refine oS (sS (Zb:=[_,_,_,_,_,_]) rfl Vd rfl rfl rfl rfl rfl ?_))|skip
 refine xa ?_;have h1:Bk k f.name Pn n' ((k.tb,.cells 126 [v,int .i64 (n':Nat),int .i64 (k.sc:Nat),.atom (.map (some k.sm)),.atom (.map (some k.am)),str f.name])::(k.sm,.map (Ve k.S) k.g1)::(k.am,.map (Ve k.A) k.g2)::Hv):=⟨v,Hv,Eb,rfl⟩;refine Ea.Yb (H':=(b5,.cells 167 [str f.name,.list (f.params.map str),.list (f.locals.map str),.list (f.body.map uc)])::(k.tb,.cells 126 [v,int .i64 (n':Nat),int .i64 (k.sc:Nat),.atom (.map (some k.sm)),.atom (.map (some k.am)),str f.name])::(k.sm,.map (Ve k.S) k.g1)::(k.am,.map (Ve k.A) k.g2)::Hv) ⟨[],by rw[ue];exact yq _ _ _⟩ ?_;generalize ((k.tb,.cells 126 [v,int .i64 (n':Nat),int .i64 (k.sc:Nat),.atom (.map (some k.sm)),.atom (.map (some k.am)),str f.name])::(k.sm,.map (Ve k.S) k.g1)::(k.am,.map (Ve k.A) k.g2)::Hv:Heap)=H1 at h1 ⊢;refine Zm ?_;refine oS (ff (H1:=H1) (F:=[_]) [_,_] rfl uf (qj h1 [[102,95]++f.name++[58]] rfl (by simp only[Ma,qc];omega)) λH2 h2=>?_);refine xa ?_
 refine oL (λkk ls H'=>∃ (i:Nat) (EU:List Wd) (H3:Heap),i<=f.params.length/\kk=i/\ls=[(0,ptr k.tb 0),(5,ptr b5 0),(6,int .i64 ((i:Int)-1)),(13,.list (fs.map Eg)),(14,int .i64 ((fs.map Eg).length:Int)),(15,int .i64 (pre.length:Int))]/\H'=(b5,.cells 167 [str f.name,.list (f.params.map str),.list (f.locals.map str),.list (f.body.map uc)])::H3/\Bk k f.name EU n' H3/\EU++Iu (cc f.name) (f.params.take i).reverse=Pn++[[102,95]++f.name++[58]]++Iu (cc f.name) f.params.reverse)
  ⟨f.params.length,_,_,⟨f.params.length,_,H2,Pb _,rfl,rfl,rfl,h2,by rw[take_length]⟩,⟨rfl,rfl,by rw[<-Ct];rfl,rfl,rfl,rfl,trivial⟩,bc _⟩ ?_
 rintro kk ls H' ⟨i,EU,H3,hi,rfl,rfl,rfl,h3,GO⟩ j2 Gc;refine xa ?_;refine Oa (λhc=>?_) λhc=>?_;have ku:=zt hc;obtain⟨i,rfl⟩:∃ i',kk=i'+1:=⟨kk-1,by omega⟩;have Ka:i<f.params.length:=by omega
 rw[qxG Ka,qta] at GO;have XL:=congrArg List.length GO;simp only[Ga,Ma,qc] at XL;have hpi:=hpm _ (getElem_mem Ka);refine xa ?_;refine qa (xR (Ud:=str f.params[i]) (cs:=[str f.params[i]]) rfl rfl zo (by rw[show(((i+1:Nat):Int)-1).toNat=i by omega,List.getElem?_map,Yh Ka];rfl) rfl rfl) ?_;refine Ra ?_;refine oS (S.lk (H1:=H3) (F:=[_]) [_,_] rfl uf (UN hG hk h3 f.params[i] zo) λH4 h4=>?_);refine Ds ?_;refine oS (ff (H1:=H4) (F:=[_]) [_,_] rfl uf (qj h4 [(cc f.name).sc f.params[i],[33]] rfl (by simp only[Ma,qc];omega)) λH5 h5=>?_);refine xa ?_;exact⟨i,_,_,lt_succ_self _,⟨i,_,H5,by omega,rfl,rfl,rfl,h5,by rw[Yc];exact GO⟩,Kb,bc _,Gc⟩;have Ka:=zf hc;obtain rfl:kk=0:=by omega
 rw[take_zero,List.reverse_nil,show Iu (cc f.name) []=[] from rfl,ue] at GO;have XL:=congrArg List.length GO;simp only[Ga,Ma,qc] at XL;refine xa ?_;refine oS (ff (H1:=H3) (F:=[_]) [_,_] rfl uf (JW hG hk hE (Td f.body) zo f.body EU n' H3 (Pb _) lc tm h3 zo zo) λH4 h4=>?_);refine Xi ?_;refine Ds ?_;refine oS (ff (H1:=H4) (F:=[_]) [_,_] rfl uf (qj h4 [[48],[59]] rfl (by simp only[Ga,Ma,qc];omega)) λH5 h5=>?_);refine zm ?_
 exact⟨l2.length,_,_,lt_succ_self _,⟨pre++[f],l2,_,_,f.name,by rw[ec];simp,rfl,rfl,h5,by
  rw[GO];simp only[Yc] at hW ⊢;exact hW,by omega⟩,⟨rfl,rfl,rfl,qf (by simp),trivial⟩,Kq,Gc.trans hj⟩
def Ns(r:Int×Int):LV:=.agg [int .i64 r.1,int .i64 r.2]
def BC(o:il):LV:=.agg [int .i64 o.code,int .i64 o.scalars,int .i64 o.ba]
def XM(p:Nm×Int):LV:=.agg [str p.1,int .i64 p.2]
def fy(n:Int):Prop := -9223372036854775808<=n/\n<9223372036854775808
def UB(n:Int):Prop := -1000000000000<=n/\n<=1000000000000
theorem qpZ{l:List Int}(h:i<l.length):(l.take (i+1)).sum=(l.take i).sum+l[i]:=by rw[take_succ_eq_append_getElem h,List.sum_append];simp
theorem WN:∀ (l:List Int) (i:Nat),(∀ n∈l,0<n)->0<=(l.take i).sum/\(l.take i).sum<=l.sum
 |[],i,_=>by simp
 |a::l,0,h=>by
  have:=WN l l.length λn hn=>h n (Oc _ hn);have h1:=h a Qe;rw[take_length] at this;rw[take_zero,List.sum_nil,sum_cons]
  omega
 |a::l,i+1,h=>by have:=WN l i λn hn=>h n (Oc _ hn);have h1:=h a Qe;rw[List.take_succ_cons,sum_cons,sum_cons];omega
theorem qvJ{l:List (Nm×Int)}(h:i<l.length)(a:Int):Hg a (l.take (i+1))=Hg a (l.take i)++[(l[i].1,a+((l.map (·.2)).take i).sum)]:=by rw[take_succ_eq_append_getElem h,qqA,<-List.map_take];rfl
theorem qpN(r:Int×Int)(h2:UB r.2):ca (KC B0 w0) 86 [Ns r] [] (Ub (bool (vI r))):=by
 obtain⟨a,n⟩:=r;unfold UB at h2;simp only at h2;have hI:vI (a,n)=decide (0<=a/\a<=262144-n):=rfl;unfold Ns;refine jb Tryz.func86 rfl (n:=14) rfl rfl rfl ?_;refine Xe ?_;refine oS (sB rfl λb1=>?_);refine xa ?_;refine oB 6 rfl (λh=>?_) λh=>?_;have h1:a ≥ 0:=zt h;refine Ra ?_
 exact qb rfl (eb rfl) (Re (by
  rw[hI,Bool.eq_iff_iff,decide_eq_true_iff,decide_eq_true_iff];omega))
 have h1:¬ a ≥ 0:=zf h;refine Aa ?_;exact qb rfl (eb rfl) (Re (by
  rw[hI]
  symm
  exact decide_eq_false zo))
theorem qrw(r s:Int×Int)(h1:UB r.1)(h2:UB r.2)(h3:UB s.1)(h4:UB s.2):ca (KC B0 w0) 87 [Ns r,Ns s] [] (Ub (bool (yK r s))):=by
 obtain⟨a,n⟩:=r;obtain⟨b,m⟩:=s;unfold UB at h1 h2 h3 h4;simp only at h1 h2 h3 h4;have hI:yK (a,n) (b,m)=decide (0<n/\0<m/\a<b+m/\b<a+n):=rfl;unfold Ns;refine jb Tryz.func87 rfl (n:=33) rfl rfl rfl ?_;refine Xe ?_;refine oS (sB rfl λb1=>oS (sB rfl λb2=>?_));refine xa ?_;refine oB 8 rfl (λg1=>?_) λg1=>?_;rotate_left;have oF:¬ n > 0:=zf g1;refine Aa ?_;exact qb rfl (eb rfl) (Re (by rw[hI];symm;exact decide_eq_false zo));have oF:n > 0:=zt g1;refine Ra ?_;refine oB 13 rfl (λg2=>?_) λg2=>?_;rotate_left;have aE:¬ m > 0:=zf g2;refine Aa ?_;exact qb rfl (eb rfl) (Re (by rw[hI];symm;exact decide_eq_false zo));have aE:m > 0:=zt g2;refine Ra ?_;refine oB 23 rfl (λg3=>?_) λg3=>?_;rotate_left;have H8:¬ a<b+m:=zf g3;refine Aa ?_;exact qb rfl (eb rfl) (Re (by rw[hI];symm;exact decide_eq_false zo));have H8:a<b+m:=zt g3;refine Ra ?_
 exact qb rfl (eb rfl) (Re (by
  rw[hI,Bool.eq_iff_iff,decide_eq_true_iff,decide_eq_true_iff];omega))
theorem qoP(vars:List Nm)(ba:List (Nm×Int))(fs:List yb)(o:il)(hl:ba.length<=2000000)(hp:∀ a∈ba,0<a.2)(h0:0<=o.ba)(h1:o.ba+(ba.map (·.2)).sum<=262144):ca (KC B0 w0) 51 [sk.Fh vars ba fs,BC o] [] (Ub (.tuple [.list ((Hg o.ba ba).map XM),int .i64 0])):=by
 have TD:(ba.map sk.wc).length=ba.length:=Mb _;have IB:(ba.map (·.2)).length=ba.length:=Mb _;have jo:∀ n∈ba.map (·.2),0<n:=λn hn=>by obtain⟨a,ha,rfl⟩:=Ni hn;exact hp a ha
 unfold sk.Fh BC;refine jb Tryz.func51 rfl (n:=50) rfl rfl rfl ?_;refine Xe ?_;refine oS (sB rfl λb2=>oS (sB rfl λb3=>?_));refine xa ?_
 refine oL (λkk ls H'=>∃ (i:Nat) (v:LV),i<=ba.length/\kk=ba.length-i/\ls=[(6,v),(7,int .i64 (o.ba+((ba.map (·.2)).take i).sum)),(13,.list (ba.map sk.wc)),(14,int .i64 ba.length),(15,int .i64 (i:Nat))]/\GL.Acc 2 v ((Hg o.ba (ba.take i)).map XM) H' [])
  ⟨_,_,_,⟨0,fc,zero_le _,rfl,rfl,Acc.nil⟩,⟨rfl,qf (by simp),rfl,qf zo,rfl,trivial⟩,HSub.nil _⟩ ?_
 rintro kk ls H' ⟨i,v,hi,rfl,rfl,Eb⟩ j hj;have dr:=WN (ba.map (·.2)) i jo;refine wh ?_;refine Oa (λhc=>?_) λhc=>?_;have Ka:i<ba.length:=by have:=zt hc;omega
 have hpi:=hp _ (getElem_mem Ka);have gk:=qpZ (l:=ba.map (·.2)) (i:=i) zo;rw[List.getElem_map] at gk;have mS:=WN (ba.map (·.2)) (i+1) jo;have ma:((Hg o.ba (ba.take i)).map XM).length=i:=by rw[Mb,VZ,length_take];omega
 generalize EB:((ba.map (·.2)).take i).sum=si at dr gk;have hsy:=qvJ Ka o.ba;rw[EB] at hsy;refine Zi ?_;refine qa (xR (Ud:=sk.wc ba[i]) (cs:=[_,_]) rfl rfl zo (Mo _ _ _ Ka) rfl rfl)<|Ra ?_;refine oS (Sd λb9=>?_);refine xa ?_;refine oB 21 rfl (λh=>?_) λ_=>?_;have:=zt h;omega;refine Ra ?_;refine oB 25 rfl (λh=>?_) λ_=>?_;have:=zt h;omega;refine Ra ?_;refine oB 30 rfl (λh=>?_) λ_=>?_;have:=zt h;omega;refine Ra ?_;refine Oa (λh=>?_) λ_=>?_;have:=zt h;omega;refine Zi ?_;refine qu ?_;refine Ra ?_;refine Kj ?_;refine oS (S.Yx rfl Eb rfl (by simp;rfl) rfl (by rw[ma];simp;omega) λv' H2 Ob=>?_);refine Ql ?_;refine wa ?_;exact⟨_,_,_,by omega,⟨i+1,v',by omega,rfl,rfl,by rw[hsy,Te];exact Ob⟩,⟨rfl,qf (by rw[gk];omega),rfl,rfl,qf zo,trivial⟩,Yg ob,hj⟩;have Wg:i=ba.length:=by have:=zf hc;omega
 subst Wg;rw[take_length] at Eb;refine kb.sub (d:=6) (v:=v) rfl Eb.sub ?_;refine cW sd ?_;refine xa ?_;exact qb hj (rC (rT (v:=.list _) rfl ie) (eb rfl)) rfl
theorem qsE(vars:List Nm)(ba:List (Nm×Int))(fs:List yb)(o:il)(qD:vars.length<=2000000)(dM:fs.length<=2000000)(hl:ba.length<=2000000)(kx:∀ f∈fs,tU f)(hn:∀ f∈fs,f.name.length<=1000/\∀ x∈f.params++f.locals,x.length<=1000)
  (hp:∀ a∈ba,0<a.2) (ht:(ba.map (·.2)).sum<=150000) (RL:(je vars fs).length<=8000) (o1:fy o.code) (o2:fy o.scalars) (o3:fy o.ba) :
  ca (KC B0 w0) 49 [sk.Fh vars ba fs,BC o] [] (Ub (bool (Ls vars ba fs o))):=by
 have TD:(ba.map sk.wc).length=ba.length:=Mb _;have IB:(ba.map (·.2)).length=ba.length:=Mb _;have jo:∀ n∈ba.map (·.2),0<n:=λn hn=>by obtain⟨a,ha,rfl⟩:=Ni hn;exact hp a ha
 have rS:((je vars fs).map str).length=(je vars fs).length:=Mb _;have hS:=sk.ji (B0:=B0) (w0:=w0) (vars:=vars) (fs:=fs) (.list (ba.map sk.wc)) qD dM kx hn;rw[qzN];unfold sk.Fh BC;refine jb Tryz.func49 rfl (n:=63) rfl rfl rfl ?_;refine Xe ?_;refine oS (sB rfl λb2=>oS (sB rfl λb3=>?_));refine xa ?_
 refine oL (λkk ls H'=>∃ (i:Nat),i<=ba.length/\kk=ba.length-i/\ls=[(2,ptr b2 0),(3,ptr b3 0),(5,int .i64 (((ba.map (·.2)).take i).sum)),(14,.list (ba.map sk.wc)),(15,int .i64 ba.length),(16,int .i64 (i:Nat))]/\H'=[(b3,.cells 48 [int .i64 o.code,int .i64 o.scalars,int .i64 o.ba]),(b2,.cells 71 [.list (vars.map str),.list (ba.map sk.wc),.list (fs.map Eg)])])
  ⟨_,_,_,⟨0,zero_le _,rfl,rfl,rfl⟩,Kb,bc _⟩ ?_
 rintro kk ls H' ⟨i,hi,rfl,rfl,rfl⟩ j hj;have dr:=WN (ba.map (·.2)) i jo;refine wh ?_;refine Oa (λhc=>?_) λhc=>?_;have Ka:i<ba.length:=by have:=zt hc;omega
 have hpi:=hp _ (getElem_mem Ka);have gk:=qpZ (l:=ba.map (·.2)) (i:=i) zo;rw[List.getElem_map] at gk;have mS:=WN (ba.map (·.2)) (i+1) jo;generalize EB:((ba.map (·.2)).take i).sum=si at dr gk;refine Zi ?_;refine qa (xR (Ud:=sk.wc ba[i]) (cs:=[_,_]) rfl rfl zo (Mo _ _ _ Ka) rfl rfl)<|Ra ?_;refine oS (Sd λb7=>?_);refine xa ?_;exact⟨_,_,_,by omega,⟨i+1,by omega,rfl,rfl,rfl⟩,⟨rfl,rfl,qf (by rw[gk]),rfl,rfl,qf zo,trivial⟩,Yg ob,hj⟩;have Wg:i=ba.length:=by have:=zf hc;omega
 subst Wg;rw[<-IB,take_length] at dr ⊢;generalize (ba.map (·.2)).sum=total at dr ht ⊢;generalize (je vars fs).length=ns at RL rS ⊢;refine Aa ?_;refine cD (m:=16) rfl [(b3,.cells 48 [int .i64 o.code,int .i64 o.scalars,int .i64 o.ba]),(b2,.cells 71 [.list (vars.map str),.list (ba.map sk.wc),.list (fs.map Eg)])]<|aT 0 rfl rfl (pF rfl)<|aT 1 rfl rfl (pL (c:=.atom _) rfl xc rfl)<|aT 2 rfl rfl (pG (Zb:=[_,_,_]) rfl Xh rfl rfl)<|aT 7 rfl rfl (pF rfl)<|aT 8 rfl rfl (pL (c:=.atom _) rfl xc rfl)<|aT 9 rfl rfl (pB _ (cs:=[_,_]) rfl)<|aT 10 rfl rfl (pF rfl)<|aT 11 rfl rfl (pL (c:=.atom _) rfl xc rfl)<|aT 12 rfl rfl (Cc (lv:=.atom _) rfl)<|aT 13 rfl rfl (pB _ (cs:=[_,_]) rfl)<|aL ?_ ob;refine lO 3 (lS (H1:=[]) rfl (.inl rfl) rfl dc ob (sF [_] rfl hS ?_));refine lO 4 (lH rfl rfl (Pure.Ro rfl) ?_);refine lO 5 (lH rfl rfl (Pure.add rfl rfl zo) ?_);refine lO 6 (lH rfl rfl (pB _ (cs:=[_,_]) rfl) ?_);refine lO 14 (lS (H1:=[]) rfl (.inl rfl) rfl dc ob (sL (es:=[LV.agg [int .i64 o.scalars,int .i64 (3+(((je vars fs).map str).length:Int))],.agg [int .i64 o.code,int .i64 40000],.agg [int .i64 o.ba,int .i64 total]]) [_,_,_] rfl (Qd rfl rfl (Qd rfl rfl (Qd rfl rfl pj))) rfl rfl rfl ?_));refine lO 15 (lH rfl rfl (pA (lv:=.list _) rfl) ?_);refine lD zk ?_;have e3:(3:Int)+(((je vars fs).map str).length:Int)=3+(ns:Nat):=by rw[rS]
 rw[e3];generalize Pq:[(o.scalars,(3:Int)+(ns:Nat)),(o.code,(40000:Int)),(o.ba,total)]=rs;have Tm:([LV.agg [int .i64 o.scalars,int .i64 (3+(ns:Int))],.agg [int .i64 o.code,int .i64 40000],.agg [int .i64 o.ba,int .i64 total]]:List LV)=rs.map Ns:=by rw[<-Pq];rfl
 rw[Tm];have hlr:rs.length=3:=by rw[<-Pq];rfl
 have ae:∀ r∈rs,UB r.2/\0<=r.2:=by rw[<-Pq];intro r hr;simp only[Dc,not_mem_nil,or_false] at hr;unfold UB;rcases hr with rfl|rfl|rfl <;> simp only <;> omega
 have hrm:(rs.map Ns).length=rs.length:=Mb _;clear Tm Pq;generalize hR:ZD [] rs=R;refine qN ?_;refine cW sd ?_;refine wa ?_;refine oL (λkk ls H'=>∃ (i:Nat),i<=rs.length/\kk=rs.length-i/\ls=[(8,.list (rs.map Ns)),(40,.list (rs.map Ns)),(41,int .i64 rs.length),(42,int .i64 (i:Nat))]/\H'=[]/\ZD (rs.take i) (rs.drop i)=R/\∀ r∈rs.take i,vI r=true)
  ⟨_,_,_,⟨0,zero_le _,rfl,rfl,rfl,hR,λr hr=>by cases hr⟩,Kb,bc _⟩ ?_
 rintro kk ls H' ⟨i,hi,rfl,rfl,rfl,tJ,YS⟩ j1 Me;refine wh ?_;refine Oa (λhc=>?_) λhc=>?_;rotate_left;have Wg:i=rs.length:=by have:=zf hc;omega
 subst Wg;rw[List.drop_length,ZD] at tJ;refine wa ?_;exact qb (Me.trans hj) (eb rfl) (Re tJ);have Ka:i<rs.length:=by have:=zt hc;omega
 have EB:=ae _ (getElem_mem Ka);rw[List.drop_eq_getElem_cons Ka,ZD,<-take_succ_eq_append_getElem Ka] at tJ;generalize hgr:rs[i]=r at tJ EB;refine wa ?_;refine qa (xR (Ud:=Ns r) (cs:=[_,_]) rfl rfl zo (by rw[<-hgr];exact Mo _ _ _ Ka) rfl rfl)<|Ra ?_;refine oS (Sd λT8=>?_);refine xa ?_;refine oS (sF [_] rfl (qpN r EB.1) ?_);refine Ra ?_;refine Oa (λh=>?_) λh=>?_;have h':vI r=false:=by simpa using h
 rw[h',wj,wj] at tJ;refine wa ?_;exact qb (Me.trans hj) (eb rfl) (Re tJ);have h':vI r=true:=by simpa using h
 rw[h',Bool.true_and] at tJ;have inb:∀ r:Int×Int,UB r.2/\0<=r.2->vI r=true->UB r.1:=λr h1 h2=>by have:0<=r.1/\r.1<=262144-r.2:=zt h2;unfold UB at h1 ⊢;omega
 have hri:=inb r EB h';have sD:(rs.take i).length=i:=by rw[length_take];omega
 have htm:((rs.take i).map Ns).length=i:=by rw[Mb,sD]
 have qX:((rs.map Ns).take i)=(rs.take i).map Ns:=List.map_take.symm;refine wa ?_;refine qa (Pure.Qy (i:=0) (j:=(i:Nat)) (es:=rs.map Ns) (ms:=(rs.take i).map Ns) rfl rfl ⟨_,rfl⟩ zo zo zo (λv hv=>by obtain⟨r,_,rfl⟩:=Ni hv;rfl) (by rw[Int.toNat_natCast,<-qX];rfl))<|Aa ?_;refine oL (λkk ls H'=>∃ (x:Nat),x<=i/\kk=i-x/\ls=[(8,.list (rs.map Ns)),(10,ptr T8 0),(40,.list (rs.map Ns)),(41,int .i64 rs.length),(42,int .i64 (i:Nat)),(52,.list ((rs.take i).map Ns)),(53,int .i64 i),(54,int .i64 (x:Nat))]/\H'=[(T8,.cells 176 [int .i64 r.1,int .i64 r.2])]/\((((rs.take i).drop x).all λs=>!yK r s) && ZD (rs.take (i+1)) (rs.drop (i+1)))=R)
  ⟨_,_,_,⟨0,zero_le _,rfl,rfl,rfl,by rw[List.drop_zero];exact tJ⟩,Kb,bc _⟩ ?_
 rintro kk ls H' ⟨x,hx,rfl,rfl,rfl,Tf⟩ j2 Gc;refine wh ?_;refine Oa (λhc=>?_) λhc=>?_;have pJ:x<(rs.take i).length:=by have:=zt hc;omega
 have DA:=getElem_mem pJ;have nS:=ae _ (List.mem_of_mem_take DA);have hsn:=inb _ nS (YS _ DA);rw[List.drop_eq_getElem_cons pJ,List.all_cons] at Tf;generalize L7:(rs.take i)[x]=s at Tf nS hsn;refine Zi ?_;refine qa (xR (Ud:=Ns s) (cs:=[_,_]) rfl rfl zo (by rw[<-L7];exact Mo _ _ _ pJ) rfl rfl)<|Ra ?_;refine oS (Sd λCM=>?_);refine xa ?_;refine oS (sF [_,_] rfl (qrw r s hri EB.1 hsn nS.1) ?_);refine Ad ?_;refine Oa (λh=>?_) λh=>?_;have h2:yK r s=true:=h;rw[h2] at Tf;refine wa ?_;exact qb (Gc.trans (Me.trans hj)) (eb rfl) (Re (by rw[<-Tf];rfl));have h2:yK r s=false:=h;rw[h2] at Tf;refine wa ?_;exact⟨_,_,_,by omega,⟨x+1,by omega,rfl,rfl,rfl,Tf⟩,Kb,Yg ob,Gc⟩;have To:x=i:=by have:=zf hc;omega
 subst To;rw[List.drop_eq_nil_of_le (by rw[sD];exact Pb _)] at Tf;refine wa ?_;exact⟨_,_,_,by omega,⟨x+1,by omega,rfl,rfl,rfl,Tf,λq hq=>by
  rw[take_succ_eq_append_getElem Ka,hgr] at hq;rcases xj hq with hq|hq;exact YS q hq;rw[aj hq];exact h'⟩,Kb,HSub.nil _,Gc.trans Me⟩
def yh(S:Int):Nat->List Nm->KV
 |_,[]=>[]
 |i,x::r=>(x,int .i64 (S+3+(i:Nat)))::yh S (i+1) r
theorem qp4(S:Int):∀ (l m:List Nm) (i:Nat),yh S i (l++m)=yh S i l++yh S (i+l.length) m
 |[],m,i=>by simp[yh]
 |x::r,m,i=>by rw[cons_append,yh,qp4 S r m,yh,cons_append,Ma,Nat.add_right_comm,Nat.add_assoc]
theorem qoa(S:Int):∀ (l:List Nm) (i:Nat),(yh S i l).map (·.1)=l
 |[],i=>rfl
 |x::r,i=>by rw[yh,yd,qoa S r]
theorem qs3{S:Int}{l:List Nm}(h:i<l.length)(hn:l.Nodup):GL.Nc (yh S 0 (l.take i)) l[i] (int .i64 (S+3+(i:Nat)))=yh S 0 (l.take (i+1)):=by rw[take_succ_eq_append_getElem h,qp4,length_take,Nat.zero_add,Nat.min_eq_left zo];refine lV ?_;rw[qoa];intro hm;rw[<-List.take_append_drop i l,List.drop_eq_getElem_cons h,List.nodup_append] at hn;exact hn.2.2 _ hm _ Qe rfl
theorem Q0(S:Int)(k:Nm):∀ (l:List Nm) (i:Nat),GL.wb (yh S i l) k=if k∈l then some (int .i64 (S+3+((i+l.idxOf k:Nat):Int))) else none
 |[],i=>rfl
 |x::r,i=>by rw[yh,GL.wb];by_cases h:x=k;rw[zp h,zp (by rw[h];exact List.mem_cons_self ..),List.idxOf_cons,h];simp;rw[zn h,Q0 S k r (i+1)];by_cases hm:k∈r;rw[zp hm,zp (Oc _ hm),List.idxOf_cons,cond_eq_ite,zn (by simpa using h)];congr 4;omega;rw[zn hm,zn (by rw[Dc];exact λg=>g.elim (λe=>h e.symm) hm)]
def Zo(l:List (Nm×Int)):KV:=l.map λp=>(p.1,int .i64 p.2)
theorem qsL{l:List (Nm×Int)}(h:i<l.length)(hn:(l.map (·.1)).Nodup):GL.Nc (Zo (l.take i)) l[i].1 (int .i64 l[i].2)=Zo (l.take (i+1)):=by
 unfold Zo;rw[take_succ_eq_append_getElem h,Te];refine lV ?_;rw[map_map];intro hm;have e1:l.map (·.1)=(l.take i).map (·.1)++l[i].1::(l.drop (i+1)).map (·.1):=by
  conv=>lhs;rw[<-List.take_append_drop i l,List.drop_eq_getElem_cons h]
  rw[Te,yd]
 rw[e1,List.nodup_append] at hn;exact hn.2.2 _ hm _ Qe rfl
theorem qqi(name:Nm):∀ (l:List (Nm×Int)) (a:Int),(GL.wb (Zo (Hg a l)) name).getD (int .i64 0)=int .i64 (Jj a l name)
 |[],a=>rfl
 |(x,n)::r,a=>by rw[Hg,Jj];show(GL.wb ((x,int .i64 a)::Zo (Hg (a+n) r)) name).getD (int .i64 0)=_;rw[GL.wb];simp only;by_cases h:x=name;rw[zp h,zp h];rfl;rw[zn h,zn h];exact qqi name r (a+n)
def OM:Except Int Wd->LV
 |.error e=>.tuple [str [],int .i64 e]
 |.ok t=>.tuple [str t,int .i64 0]
theorem NP{P:Pr}{o:il}(hF:iy P o)(own:Nm)(ho:own.length<=1000000)(b1 b2 b3 g1 g2:Nat):Zt ⟨b1,b2,b3,yh o.scalars 0 (je P.vars P.funcs),Zo (Hg o.ba (vf P)),g1,g2,o.scalars.toNat⟩ (Rq P.vars (vf P) P.funcs o own) own:=by
 have s0:=hF.s0;have s1:=hF.s1;have a0:=hF.a0;have a1:=hF.a1;have hp:∀ p∈vf P,0<=p.2:=λp hp=>by obtain⟨a,_,rfl⟩:=Ni hp;exact Int.natCast_nonneg _
 have Ct:∀ k,0<=Gy (je P.vars P.funcs) o.scalars k/\Gy (je P.vars P.funcs) o.scalars k<=262144/\(k∈je P.vars P.funcs->int .i64 (o.scalars+3+((0+(je P.vars P.funcs).idxOf k:Nat):Int))=int .i64 (((Gy (je P.vars P.funcs) o.scalars k).toNat:Nat):Int)):=λk=>by unfold Gy;by_cases h:k∈je P.vars P.funcs;have:=List.idxOf_lt_length_of_mem h;rw[zp h];exact⟨by omega,by omega,λ_=>qf zo⟩;rw[zn h];exact⟨by omega,by omega,λh2=>absurd h2 h⟩
 refine⟨λname=>?_,λname=>?_,?_,?_,?_,?_,ho⟩;refine⟨(Gy (je P.vars P.funcs) o.scalars (Vu (je P.vars P.funcs) own name)).toNat,?_,?_,?_⟩;have:=Ct (Vu (je P.vars P.funcs) own name);omega;exact Iw (Ct _).1;show(∃ v,GL.wb (yh o.scalars 0 (je P.vars P.funcs)) (own++[46]++name)=some v/\_)∨(GL.wb (yh o.scalars 0 (je P.vars P.funcs)) (own++[46]++name)=none/\(GL.wb (yh o.scalars 0 (je P.vars P.funcs)) name).getD _=_);rw[Q0,Q0];unfold Vu
 by_cases h:own++[46]++name∈je P.vars P.funcs;left;rw[zp h,zp h];exact⟨_,rfl,(Ct _).2.2 h⟩;right;rw[zn h,zn h];refine⟨rfl,?_⟩;by_cases h2:name∈je P.vars P.funcs;rw[zp h2];exact(Ct _).2.2 h2;rw[zn h2];unfold Gy;rw[zn h2];rfl;have h1:=RQ (vf P) o.ba a0 hp name;have h2:=tN (vf P) o.ba a0 hp name;have h3:((vf P).map (·.2)).sum=((Dk P.ba:Nat):Int):=NQ P.ba;rw[h3] at h2;refine⟨(Jj o.ba (vf P) name).toNat,by omega,Iw h1,?_⟩;show(GL.wb (Zo (Hg o.ba (vf P))) name).getD _=_;rw[qqi];exact qf zo;exact Iw s0;show itoa (o.scalars+1)=_;rw[Iw zo];congr 1;show _=o.scalars.toNat+1;omega;show itoa (o.scalars+2)=_;rw[Iw zo];congr 1;show _=o.scalars.toNat+2;omega;show o.scalars.toNat<=_;omega
theorem pV{s:Nm}(h:kf s=true):s.length<=24:=by unfold kf at h;rw[Ed,Ed,Rg] at h;exact h.1.1
theorem qBd{P:Pr}(hv:Valid P){f:yb}(hf:f∈P.funcs)(qx:∀ x∈f.params++f.locals,x.length<=24){kn:List ye}(hk:nK P.funcs kn):Zr (Bg P.vars (P.ba.map (·.name)) (P.funcs.map (·.name)) kn f):=by
 have Vm:=Nw _ _ hv.names;refine⟨λs hs=>?_,λk Dp=>?_⟩;unfold du at hs;split at hs
 rename_i h;rcases h with h|h;exact pV (Vm.2 s (List.mem_append_left _ (List.mem_append_left _ h))).2;exact qx s h;split at hs <;> cases hs;obtain⟨g,g1,g2,_⟩:=hk k Dp;rw[<-g2];exact pV (Vm.2 _ (mem_append_right _ (List.mem_map_of_mem g1))).2
theorem qnX:∀ (vars ba later:List Nm) (known:List ye) (fs:List yb),cu vars ba later known fs=0->∀ f∈fs,∀ x∈f.params++f.locals,x.length<=24
 |_,_,_,_,[],_,f,hf=>(not_mem_nil hf).elim
 |vars,ba,later,known,g::l,h,f,hf=>by rw[cu] at h;obtain⟨h1,h2⟩:=Tc.1 h;rcases Dc.1 hf with rfl|hf;unfold Bv at h1;intro x hx;exact pV ((Nw _ _ (Tc.1 h1).1).2 x hx).2;exact qnX vars ba later _ l h2 f hf
theorem qB2{t s a b3 b2:Nat×ja}:[t,b3,s,a,b2].Perm ([t,s,a]++[b3,b2]):=au _ ((yq _ _ _).trans (au _ (yq _ _ _)))
theorem qnH(hG:GW B0 w0)(hM:As.GM w0)(vars:List Nm)(ba:List (Nm×Int))(fs:List yb)(o:il)(qD:vars.length<=2000000)(FO:ba.length<=2000000)(mM:∀ a∈ba,fy a.2)(Bh:ze fs<=2000000)(lc:∀ f∈fs,Bj f.body)(o1:fy o.code)(o2:fy o.scalars)(o3:fy o.ba) :
  ca (KC B0 w0) 28 [sk.Fh vars ba fs,BC o] [] (Ub (OM (Uk vars ba fs o))):=by
 have lu:=sk.fg (B0:=B0) (w0:=w0) vars ba fs qD FO mM Bh;have dM:=OV fs;have kx:∀ f∈fs,tU f:=λf hf=>LY (by have:=fW hf;omega);generalize hC:Uk vars ba fs o=R;unfold Uk at hC;have TX:sk.Fh vars ba fs=.agg [.list (vars.map str),.list (ba.map sk.wc),.list (fs.map Eg)]:=rfl;have K8:BC o=.agg [int .i64 o.code,int .i64 o.scalars,int .i64 o.ba]:=rfl;rw[TX,K8];refine jb Tryz.func28 rfl (n:=102) rfl rfl rfl ?_;refine Xe ?_;refine oS (sB rfl λb2=>oS (sB rfl λb3=>?_));refine xa ?_;refine oS (S.Uc (H1:=[]) (F:=[_,_]) [_] rfl dc lu ?_ (by rintro ch H' ⟨_,nm,h⟩;cases h));rintro lv H' ⟨rfl,nm,h⟩;cases h;refine xa ?_
 by_cases iM:Ws vars ba fs=0;rotate_left;rw[zp iM] at hC;subst hC;refine Oa (λ_=>?_) λhc=>?_;refine wa ?_;exact qb rfl (rC (Xc rfl) (eb rfl)) rfl;have h2:(!decide (Ws vars ba fs=0))=false:=hc;simp at h2;exact absurd h2 iM;refine Oa (λhc=>?_) λ_=>?_;have h2:(!decide (Ws vars ba fs=0))=true:=hc;simp[iM] at h2;rw[zn (by simpa using iM)] at hC;obtain⟨ht,hp,ET,hPc,hV⟩:=qoY iM
 have qx:∀ f∈fs,∀ x∈f.params++f.locals,x.length<=24:=by have h:=iM;unfold Ws at h;exact qnX _ _ _ _ _ (Tc.1 (Tc.1 (Tc.1 h).2).2).1
 have Vm:=Nw _ _ hV.names;have ed:∀ f∈fs,f.name.length<=24:=λf hf=>pV (Vm.2 _ (mem_append_right _ (List.mem_map_of_mem hf))).2;have hn:∀ f∈fs,f.name.length<=1000/\∀ x∈f.params++f.locals,x.length<=1000:=λf hf=>⟨by have:=ed f hf;omega,λx hx=>by have:=qx f hf x hx;omega⟩;have K6:(je vars fs).length<=8000:=hV.LA;have FX:=qsE (B0:=B0) (w0:=w0) vars ba fs o qD zo FO kx hn hp ht K6 o1 o2 o3;rw[TX,K8] at FX;refine xa ?_;refine oS (sF [_,_] rfl FX ?_);refine Ra ?_
 by_cases Ge:Ls vars ba fs o=true;rotate_left;rw[zp (by simpa using Ge)] at hC;subst hC;refine Oa (λ_=>?_) λhc=>?_;refine Ak ?_;exact qb rfl (rC (Xc rfl) (eb rfl)) rfl;have h2:(!Ls vars ba fs o)=false:=hc;simp at h2;exact absurd h2 Ge;refine Oa (λhc=>?_) λ_=>?_;have h2:(!Ls vars ba fs o)=true:=hc;rw[Ge] at h2;cases h2;rw[zn (by rw[Ge];decide)] at hC;have vJ:Ls (Ei vars ba fs).vars (vf (Ei vars ba fs)) (Ei vars ba fs).funcs o=true:=by rw[ET];exact Ge
 have hF:=NE vJ;have hS:=sk.ji (B0:=B0) (w0:=w0) (vars:=vars) (fs:=fs) (.list (ba.map sk.wc)) qD zo kx hn;have hT:=hF.s1;have hS0:=hF.s0;have OT:=hF.a1;have QX:=hF.a0;have VS:(je vars fs).Nodup:=hV.keys;have PL:(ba.map (·.2)).sum=((Dk (Ei vars ba fs).ba:Nat):Int):=by have:=NQ (Ei vars ba fs).ba;rw[<-this];congr 2;exact ET.symm
 have hAs:=qoP (B0:=B0) (w0:=w0) vars ba fs o FO hp QX (by rw[PL];omega);rw[TX,K8] at hAs;have DT:o.scalars.toNat+3+(je vars fs).length<=262144:=hT;refine wa ?_;refine oS (S.im λsm=>oS (S.im λam=>?_));refine Ra ?_;refine oS (sB rfl λtb=>?_);refine xa ?_;refine oS (sF [_] rfl hS ?_);have gr:((je vars fs).map str).length=(je vars fs).length:=Mb _;refine Aa ?_;generalize qS:je vars fs=sl at *
 refine oL (λkk ls H'=>∃ (i g1:Nat),i<=sl.length/\kk=sl.length-i/\ls=[(2,ptr b2 0),(3,ptr b3 0),(8,ptr tb 0),(39,.list (sl.map str)),(40,int .i64 sl.length),(41,int .i64 (i:Nat))]/\H'=[(tb,.cells 126 [fc,int .i64 0,int .i64 o.scalars,.atom (.map (some sm)),.atom (.map (some am)),str []]),(b3,.cells 48 [int .i64 o.code,int .i64 o.scalars,int .i64 o.ba]),(sm,.map (Ve (yh o.scalars 0 (sl.take i))) g1),(am,.map (Ve []) 0),(b2,.cells 71 [.list (vars.map str),.list (ba.map sk.wc),.list (fs.map Eg)])])
  ⟨_,_,_,⟨0,0,zero_le _,rfl,rfl,rfl⟩,Kb,Fc pH (Fc Hl (Fc Vd ob))⟩ ?_
 rintro kk ls H' ⟨i,g1,hi,rfl,rfl,rfl⟩ j hj;refine wh ?_;refine Oa (λhc=>?_) λhc=>?_;have Ka:i<sl.length:=by have:=zt hc;omega
 have gH:=qs3 (S:=o.scalars) Ka VS;refine wa ?_;refine qa (xR (Ud:=str sl[i]) (cs:=[str sl[i]]) rfl rfl zo (Mo _ _ _ Ka) rfl rfl)<|Ra ?_;refine cD (m:=11) rfl [(tb,.cells 126 [fc,int .i64 0,int .i64 o.scalars,.atom (.map (some sm)),.atom (.map (some am)),str []]),(b3,.cells 48 [int .i64 o.code,int .i64 o.scalars,int .i64 o.ba])]<|JM ?_;refine aT 3 rfl rfl (pL (c:=.atom _) rfl xc rfl)<|aT 4 rfl rfl (Cc (lv:=.atom _) rfl)<|aT 5 rfl rfl (pF rfl)<|aT 6 rfl rfl (pL (c:=.atom _) rfl Xh rfl)<|aT 7 rfl rfl (Pure.add rfl rfl zo)<|aT 8 rfl rfl (Cc (lv:=.atom _) rfl)<|aT 9 rfl rfl (Pure.add rfl rfl zo)<|aL ?_ fI;refine lO 10 (lS (H1:=[(sm,.map (Ve (yh o.scalars 0 (sl.take i))) g1)]) rfl (.inl rfl) rfl (show xd _ _ _ from pT Vd) fI (S.ao (k:=sl[i]) (lv:=int .i64 (o.scalars+3+(i:Nat))) rfl rfl rfl pH λoF=>?_));rw[gH];refine lD zk ?_;refine zm ?_;exact⟨_,_,_,by omega,⟨i+1,oF,by omega,rfl,rfl,rfl⟩,Kb,Fc Vd (Fc Vd ob),hj⟩;have Wg:i=sl.length:=by have:=zf hc;omega
 subst Wg;rw[take_length];have bH:=VZ ba o.ba;have hyn:((Hg o.ba ba).map (·.1)).Nodup:=by
  rw[qlK];have h1:=(On (On Vm.1).1).2.1;have e1:(Ei vars ba fs).ba.map (·.name)=ba.map (·.1):=by unfold Ei;rw[map_map];rfl
  rw[e1] at h1;exact h1
 have hym:((Hg o.ba ba).map XM).length=(Hg o.ba ba).length:=Mb _;refine xa ?_;refine oS (sF [_,_] rfl hAs ?_);refine xa ?_;generalize hyy:Hg o.ba ba=ys at *;refine oC rfl (λh=>by cases h) λ_=>?_;refine wa ?_
 refine oL (λkk ls H'=>∃ (i g2:Nat),i<=ys.length/\kk=ys.length-i/\ls=[(2,ptr b2 0),(3,ptr b3 0),(8,ptr tb 0),(66,.list (ys.map XM)),(67,int .i64 ys.length),(68,int .i64 (i:Nat))]/\H'=[(tb,.cells 126 [fc,int .i64 0,int .i64 o.scalars,.atom (.map (some sm)),.atom (.map (some am)),str []]),(b3,.cells 48 [int .i64 o.code,int .i64 o.scalars,int .i64 o.ba]),(sm,.map (Ve (yh o.scalars 0 sl)) g1),(am,.map (Ve (Zo (ys.take i))) g2),(b2,.cells 71 [.list (vars.map str),.list (ba.map sk.wc),.list (fs.map Eg)])])
  ⟨_,_,_,⟨0,0,zero_le _,rfl,rfl,rfl⟩,Kb,bc _⟩ ?_
 rintro kk ls H' ⟨i,g2,hi,rfl,rfl,rfl⟩ j2 Gc;refine wh ?_;refine Oa (λhc=>?_) λhc=>?_;have Ka:i<ys.length:=by have:=zt hc;omega
 have gH:=qsL Ka hyn;refine Zi ?_;refine qa (xR (Ud:=XM ys[i]) (cs:=[_,_]) rfl rfl zo (Mo _ _ _ Ka) rfl rfl)<|Ra ?_;refine oS (Sd λQO=>?_);refine Ra ?_;refine cD (m:=9) rfl [(QO,.cells 131 [str ys[i].1,int .i64 ys[i].2]),(tb,.cells 126 [fc,int .i64 0,int .i64 o.scalars,.atom (.map (some sm)),.atom (.map (some am)),str []])]<|mP ?_;refine aT 6 rfl rfl (pF rfl)<|aT 7 rfl rfl (pL (c:=.atom _) rfl xc rfl)<|aL ?_ fI;refine lO 8 (lS (H1:=[(am,.map (Ve (Zo (ys.take i))) g2)]) rfl (.inl rfl) rfl (show xd _ _ _ from pT XB) fI (S.ao (k:=ys[i].1) (lv:=int .i64 ys[i].2) rfl rfl rfl pH λaE=>?_));rw[gH];refine lD zk ?_;refine zm ?_;exact⟨_,_,_,by omega,⟨i+1,aE,by omega,rfl,rfl,rfl⟩,Kb,Fc Hl (Fc Hl (Fc Hl (Fc pH (Yg ob)))),Gc⟩;have Wg:i=ys.length:=by have:=zf hc;omega
 subst Wg;rw[take_length];have B6:=λown ho=>NP (P:=Ei vars ba fs) hF own ho tb sm am g1 g2;rw[ET] at B6;have hW:=EZ hPc lc vJ Bh;have hjt:=BN (fh (Ei vars ba fs) o)
 have hwc:fh (Ei vars ba fs) o=PC vars ba fs o:=by unfold fh;rw[ET];rfl
 rw[hwc] at hW hjt;have fv:Rq (Ei vars ba fs).vars ba (Ei vars ba fs).funcs o=Rq vars ba fs o:=rfl;rw[ET,fv] at hW;have sO:=tV (PC vars ba fs o);have yO:ze (Ei vars ba fs).funcs=ze fs:=rfl;rw[yO] at hW;have hpw:PC vars ba fs o=[[38,102,95,109,97,105,110],[58],decDigits o.scalars.toNat,[33],[36]]++(Rc (Rq vars ba fs o) 0 fs).1:=by unfold PC;rw[Iw hS0]
 have Ct:(PC vars ba fs o).length=5+(Rc (Rq vars ba fs o) 0 fs).1.length:=by rw[hpw,Ga];rfl
 have IA:Bk ⟨tb,sm,am,yh o.scalars 0 sl,Zo ys,g1,g2,o.scalars.toNat⟩ [] [] 0 [(tb,.cells 126 [fc,int .i64 0,int .i64 o.scalars,.atom (.map (some sm)),.atom (.map (some am)),str []]),(sm,.map (Ve (yh o.scalars 0 sl)) g1),(am,.map (Ve (Zo ys)) g2)]:=⟨fc,[],Acc.nil,by
  simp only;rw[Int.toNat_of_nonneg hS0];rfl⟩
 have hpg:=XK hG (k:=⟨tb,sm,am,yh o.scalars 0 sl,Zo ys,g1,g2,o.scalars.toNat⟩) (cc:=Rq vars ba fs o) (by show o.scalars.toNat<=_;omega) vars ba fs Bh (λf hf=>by
  obtain⟨kn,k1,k2⟩:=hV.Rx f hf;refine⟨?_,ed f hf,λp hp=>by have:=qx f hf p (List.mem_append_left _ hp);omega,lc f hf,_,qBd hV hf (qx f hf) k2,k1⟩;have:=B6 f.name (by have:=ed f hf;omega);rw[<-qS,<-hyy];exact this) (own0:=[]) (c0:=Rq vars ba fs o []) (by
  have:=B6 [] ea;rw[<-qS,<-hyy];exact this) _ IA zo
 rw[TX] at hpg;refine xa ?_;refine oS (ff (F:=[_,_]) [_,_] rfl qB2 hpg λH2 h2=>?_);obtain⟨own,n,h2⟩:=h2;rw[<-hpw] at h2;generalize PC vars ba fs o=W at *;obtain⟨v,Hv,Eb,rfl⟩:=h2;have j0:=As.Ah (B0:=B0) (w0:=w0) [32] W zo zo;have Rk:=As.fl hG hM (join W [32]) o.code zo;refine wa ?_;refine qa (pL (c:=v) rfl YB rfl)<|Ea.sub 87 rfl Eb.sub ?_;refine oS (sF [_,_] rfl j0 ?_);refine wa ?_
 cases hx:Th (join W [32]) o.code with
 |error e=>
  rw[hx] at Rk hC;simp only at hC;subst hC;refine oS (sF [_,_] rfl Rk ?_);unfold As.Iv;refine xa ?_;have he:¬ (e.2:Int)=0:=by have h3:=hF.c1;have h4:=hF.c0;have:=qwq zo hx;omega
  refine Oa (λ_=>?_) λhc=>?_;refine wa ?_;exact qb (Gc.trans hj) (rC (Xc rfl) (eb rfl)) rfl;have h2:(!decide ((e.2:Int)=0))=false:=hc;simp at h2
  omega
 |ok x=>rw[hx] at Rk hC;simp only at hC;subst hC;refine oS (sF [_,_] rfl Rk ?_);unfold As.Iv;refine xa ?_;refine oC rfl (λhc=>by cases hc) λ_=>?_;refine wa ?_;exact qb (Gc.trans hj) (rC (Xc rfl) (eb rfl)) rfl
end Go.Proofs.Y.TO
namespace Go.Proofs.Y.nj
open Go.GL Go.RowKit Go.ia
theorem Cv(p:Pr):Cw p=sk.Fh p.vars (p.ba.map λa=>(a.name,(a.size:Int))) p.funcs:=by unfold Cw sk.Fh;rw[map_map];rfl
attribute [local irreducible] Ea kb ab ca Go.GL.Pure Ie pf ke LQ Rb oi Nj LS
variable{B0:Nat}{w0:World}
theorem Bm{p:Pr}{n:Nat}(h:OH p n)(hn:n<=2000000):ca (KC B0 w0) 27 [Cw p] [] (λr H=>H=[]/\∃ nm,r=.ret (.tuple [str nm,int .i64 (Lq p)])):=by
 rw[Cv];exact sk.fg _ _ _ (Xf h.vars hn) (by rw[Mb];exact Xf h.ba hn) (λa ha=>by
  obtain⟨x,hx,rfl⟩:=Ni ha;have:=h.size x hx;constructor;show(-9223372036854775808:Int)<=(x.size:Int);omega;show(x.size:Int)<9223372036854775808;omega) (Xf h.funcs hn)
end Go.Proofs.Y.nj
namespace Go.Proofs.Y.nj
open Go.GL Go.RowKit Go.ia
@[reducible] def Same(v:LV)(H:Heap):Pe->Heap->Prop:=λr H'=>r=.ret v/\H'=H
section steps
variable{C:Ctx}{n:Nat}{e:Env}{H:Heap}{dst:Option Nat}{ty:TypeId}{ra:String}{ua:Array Edge}{g:Option (Nat×Bool)}{K:LV->Heap->Prop}{X:List PanicEntry->Heap->Prop}
theorem Rp{rs:List ResultVar}{vs:List LV}{lv:LV}{H0:Heap}(hd:e.ds=[])(h:tn C n e H rs vs)(hv:Oh vs=lv)(hH:HSub H0 H):ke C n rs (Same lv H0) .ret e H:=
 rR hd h hH ⟨by rw[hv],rfl⟩
end steps
theorem Vq(n:Int):IntKind.u32.wrap n=n % 4294967296:=by simp only[IntKind.wrap,IntKind.bits,IntKind.signed,wj];rfl
theorem rB{a:Int}{b:Nat}(h:a=b):int .u32 a=u32 b:=by rw[h]
section
variable{a b:Nat}
theorem JZ(ha:a<4294967296)(hb:b<4294967296):IntKind.u32.wrap ((BitVec.ofInt IntKind.u32.bits a ^^^ BitVec.ofInt IntKind.u32.bits b).toNat:Nat)=((a ^^^ b:Nat):Int):=by
 rw[Vq,BitVec.toNat_xor];have h1:∀ n:Nat,n<4294967296->(BitVec.ofInt IntKind.u32.bits (n:Int)).toNat=n:=λn hn=>by rw[BitVec.ofInt_natCast,BitVec.toNat_ofNat];exact Nat.mod_eq_of_lt hn
 rw[h1 a ha,h1 b hb];have:a ^^^ b<4294967296:=Nat.xor_lt_two_pow (n:=32) ha hb;omega
end
section
variable{C:Ctx}{e:Env}{H:Heap}{dst:Option Nat}{ty:TypeId}{ra:String}{ua:Array Edge}{g:Option (Nat×Bool)}{x:Operand}
end
theorem AV(n:Nat):IntKind.u8.wrap (n:Int)=((UInt8.ofNat n).toNat:Int):=by
 have h:IntKind.u8.wrap (n:Int)=(n:Int) % 256:=by simp only[IntKind.wrap,IntKind.bits,IntKind.signed,wj];rfl
 rw[h];have h2:(UInt8.ofNat n).toNat=n % 256:=by simp
 rw[h2];omega
theorem zZ{s:Nat}{v:LV}{es:List LV}{H F:Heap}(h:GL.Acc s v es H F):v.cells? = some [v]/\([v].all Vs)=true:=by cases h <;> exact⟨rfl,rfl⟩
end Go.Proofs.Y.nj
namespace Go.Proofs.Y.XX
open Go.GL Go.RowKit Go.ia
open nj (u32)
variable{H:Heap}{nh:Array TypeId}{el:Nat}
def us(l:List Nat):List LV:=l.map u32
theorem FC(l:List Nat):(us l).length=l.length:=Mb _
theorem qtv(l:List Nat):∀ v∈us l,v.cells.length=1:=λv hv=>by obtain⟨a,_,rfl⟩:=Ni hv;rfl
theorem HQ:∀ l:List Nat,(us l).flatMap LV.cells=us l
 |[]=>rfl
 |a::l=>by show(u32 a::us l).flatMap LV.cells=u32 a::us l;rw[List.flatMap_cons,HQ l];rfl
theorem gG(l m:List Nat):us (l++m)=us l++us m:=Te
theorem jZ{b m cap:Nat}{l:List Nat}{spare:List LV}(hm:l.length=m)(hc:m<=cap)(hl:m+spare.length=cap):Lf el 1 (.slice (some ⟨b,0,none⟩) m cap) (us l) [(b,.cells el (us l++spare))]:=
 Lf.Gi (qtv l) (HQ l) (by rw[FC];exact hm) hc hl
theorem DV{s:Nat}{v:Value}{es:List LV}(h:Lf el s v es H):(LV.atom v).cells? = some [LV.atom v]/\([LV.atom v].all Vs)=true:=by cases h <;> exact⟨rfl,rfl⟩
theorem quU{v:Value}{l:List Nat}(h:Lf el 1 v (us l) H)(xb:l≠[]):∃ b cap spare,v=.slice (some ⟨b,0,none⟩) l.length cap/\H=[(b,.cells el (us l++spare))]/\l.length<=cap/\l.length+spare.length=cap:=by obtain⟨b,cap,spare,h1,h2,h3,h4⟩:=h.addr (by intro e;exact xb (List.map_eq_nil_iff.1 e));rw[FC] at h1 h3 h4;rw[HQ] at h2;exact⟨b,cap,spare,h1,h2,h3,by omega⟩
structure MF where
 mb:Nat
 vm:Value
 pc:Nat
 vc:Value
 Ia:List Nat
 vo:LV
 digit:Bool
 st:Nat
 stop:Bool
 bm:Nat
def MF.cells(f:MF)(vd:Value):List LV:=[.atom f.vm,u32 f.pc,.atom vd,.atom f.vc,.list (us f.Ia),f.vo,bool f.digit,int .i64 (f.st:Nat),bool f.stop,.atom (.map (some f.bm))]
def DH(f:MF)(data:List Nat)(H:Heap):Prop:=∃ vd HD,Lf 24 1 vd (us data.reverse) HD/\H=(f.mb,.cells 84 (f.cells vd))::HD
def vy:List PanicEntry:=[{ v:=.iface 144 (.agg #[]),recovered:=false }]
def lZ(f:MF)(data:List Nat):Pe->Heap->Prop:=λr H=>match data with
 |[]=>r=.panic vy/\DH f [] H
 |v::d=>r=.ret (u32 v)/\DH f d H
def dW(f:MF)(data:List Nat)(v:Nat):Pe->Heap->Prop:=λr H=>if data.length<256 then r=.ret (.tuple [])/\DH f (v::data) H else r=.panic vy/\DH f data H
def YV(f:MF)(data:List Nat):Pe->Heap->Prop:=λr H=>match data with
 |[]=>r=.panic vy/\DH f [] H
 |v::d=>if v<262144 then r=.ret (u32 v)/\DH f d H else r=.panic vy/\DH f d H
attribute [local irreducible] Ea kb ab ca Go.GL.Pure Ie pf ke LQ Rb oi Nj LS
variable{B0:Nat}{w0:World}
theorem fg(b:Bool):ca (KC B0 w0) 63 [bool b] [] (λr H'=>H'=[]/\r=if b=true then .ret (.tuple []) else .panic vy):=by
 refine jb Tryz.func63 rfl (n:=6) rfl rfl rfl ?_;refine xa ?_;refine Oa (λhc=>?_) λhc=>?_;have hb:b=false:=by simpa using hc
 subst hb;refine xa ?_;refine oS (ab.panic rfl λe' Na=>?_);exact ke.panic (Na.trans rfl) ob ⟨rfl,rfl⟩;have hb:b=true:=by simpa using hc
 subst hb;refine Aa ?_;exact rO rfl rN ob ⟨rfl,rfl⟩
section
variable{B0:Nat}{w0:World}{e:Env}{H:Heap}{dst:Option Nat}{ty:TypeId}{ra:String}{ua:Array Edge}{g:Option (Nat×Bool)}{K:LV->Heap->Prop}{X:List PanicEntry->Heap->Prop}
theorem S.check{b:Bool}{o:Operand}(hx:e.ev o=bool b)(hk:b=true->K (.tuple []) H)(hn:b=false->X vy H):ab (KC B0 w0) ⟨dst,.call { callee:=.value (.func 63),args:=#[o],argTypes:=nh },ty,ra,ua,g⟩ e H K X:=by
 refine S.Uc (H1:=[]) (F:=H) [o] (by simp only[yd,List.map_nil,hx]) dc (fg b) ?_ ?_;rintro v H' ⟨rfl,h⟩;cases b with
 |true=>cases h;exact hk rfl
 |false=>cases h
 rintro ch H' ⟨rfl,h⟩;cases b with
 |true=>cases h
 |false=>cases h;exact hn rfl
end
section
variable{B0:Nat}{w0:World}{f:MF}{data:List Nat}{H:Heap}
theorem qt3(h:DH f data H)(hf:data.length<=256)(v:Nat):ca (KC B0 w0) 114 [ptr f.mb 0,u32 v] H (dW f data v):=by
 obtain⟨vd,HD,hm,rfl⟩:=h;have hl:(us data.reverse).length=data.length:=by rw[FC,length_reverse]
 unfold dW;refine jb Tryz.func114 rfl (n:=21) rfl rfl rfl ?_;refine wa ?_;refine qa (Pure.ZC rfl hm)<|Aa ?_;refine oS (S.check rfl (λhb=>?_) λhb e' Na=>?_);have Ka:data.length<256:=by have:=zt hb;omega
 simp only[zp Ka];refine wa ?_;refine Kj ?_;refine oS (S.MH (HM:=HD) (F:=[_]) rfl (List.perm_append_singleton _ _).symm hm rfl (by simp;rfl) rfl (by simp;omega) λv' H' eF=>?_);refine Aa ?_;refine oS (sS (n:=1) (vs:=[LV.atom v']) (Zb:=[_,_,_,_,_,_,_,_,_,_]) rfl pH (DV eF).1 rfl rfl (DV eF).2 rfl ?_);refine Ad ?_
 exact rO rfl rN ob ⟨rfl,v',H',by
  rw[reverse_cons,gG];exact eF,rfl⟩
 have Ka:¬ data.length<256:=by have:=zf hb;omega
 simp only[zn Ka];refine Yi ?_;exact ke.panic (Na.trans rfl) ob ⟨rfl,vd,HD,hm,rfl⟩
theorem qqa(h:DH f data H)(hf:data.length<=256):ca (KC B0 w0) 116 [ptr f.mb 0] H (lZ f data):=by
 obtain⟨vd,HD,hm,rfl⟩:=h;have hl:(us data.reverse).length=data.length:=by rw[FC,length_reverse]
 unfold lZ;refine jb Tryz.func116 rfl (n:=32) rfl rfl rfl ?_;refine wa ?_;refine qa (Pure.ZC rfl hm)<|xa ?_;cases data with
 |nil=>
  refine oS (S.check rfl (λhb=>?_) λhb e' Na=>?_);cases hb;refine Yi ?_
  exact ke.panic (Na.trans rfl) ob ⟨rfl,vd,HD,hm,rfl⟩
 |cons a r=>
  refine oS (S.check rfl (λhb=>?_) λhb=>?_);rotate_left;have:=zf hb;rw[hl,Ma] at this;omega;obtain⟨b,cap,spare,rfl,rfl,hc,ri⟩:=quU hm (by rw[reverse_cons];simp);rw[reverse_cons,gG,Yc] at *;rw[Ga,length_reverse,List.length_singleton] at hc ri;have ae:(us r.reverse).length=r.length:=by rw[FC,length_reverse]
  have um:(r.reverse++[a]).length=r.length+1:=by simp
  rw[Ma] at hl hf;refine xa ?_;refine qa (Pure.cg (o:=r.length) rfl rfl zo zo zo)<|qa (pL (c:=u32 a) rfl Xh (by rw[List.getElem?_append_right zo,ae,sub_self];rfl)) ?_;refine xa ?_;refine qa (Pure.Ul (n:=r.length) rfl (by exact qf zo) zo)<|xa ?_;exact rR rfl (eb rfl) ob ⟨rfl,_,_,jZ (l:=r.reverse) (spare:=us [a]++spare) (by rw[length_reverse]) zo (by rw[Ga,FC];simp only[List.length_singleton];omega),rfl⟩
theorem N4(h:DH f data H)(hf:data.length<=256):ca (KC B0 w0) 115 [ptr f.mb 0] H (YV f data):=by
 have hp:=qqa (B0:=B0) (w0:=w0) h hf;unfold lZ at hp;unfold YV;refine jb Tryz.func115 rfl (n:=10) rfl rfl rfl ?_;refine cl ?_;cases data with
 |nil=>refine oS (S.Uc (H1:=H) (F:=[]) [_] rfl (by rw[ue]) hp ?_ ?_);rintro v H' ⟨h1,_⟩;cases h1;rintro ch H' ⟨h1,h2⟩ e' Na;cases h1;refine Yi ?_;exact ke.panic (Na.trans rfl) ob ⟨rfl,by rw[ue];exact h2⟩
 |cons a r=>
  refine oS (S.Uc (H1:=H) (F:=[]) [_] rfl (by rw[ue]) hp ?_ ?_);rotate_left;rintro ch H' ⟨h1,_⟩;cases h1;rintro v H' ⟨h1,h2⟩;cases h1;rw[ue];refine wa ?_;refine oS (S.check rfl (λhb=>?_) λhb e' Na=>?_);have Ka:a<262144:=by have:(a:Int)<262144:=zt hb;omega
  simp only[zp Ka];refine wa ?_;exact rR rfl (eb rfl) ob ⟨rfl,h2⟩;have Ka:¬ a<262144:=by have:¬ (a:Int)<262144:=zf hb;omega
  simp only[zn Ka];refine Yi ?_;exact ke.panic (Na.trans rfl) ob ⟨rfl,h2⟩
end
open nj (u32 Same Rp Vq rB JZ)
variable{c:Nat}{s:MS}
def dm(f:Nat->Nat):List LV:=(List.range 262144).map λi=>u32 (f i)
theorem UQ(f:Nat->Nat):(dm f).length=262144:=by unfold dm;rw[Mb,List.length_range]
theorem VQ(f:Nat->Nat){a:Nat}(h:a<262144):(dm f)[a]? = some (u32 (f a)):=by unfold dm;rw[List.getElem?_map,List.getElem?_range h];rfl
theorem qnV(l:List LV):Mh l 0 []=l:=by cases l <;> rfl
theorem qqr:∀ (l:List LV) (a:Nat) (v:LV),Mh l a [v]=l.set a v
 |[],a,v=>by cases a <;> rfl
 |x::xs,0,v=>by show v::Mh xs 0 []=_;rw[qnV];rfl
 |x::xs,a+1,v=>by show x::Mh xs a [v]=_;rw[qqr xs a v];rfl
theorem WZ(f:Nat->Nat)(a v:Nat):Mh (dm f) a [u32 v]=dm (λi=>if i=a then v else f i):=by
 rw[qqr];refine List.ext_getElem? λi=>?_;rw[List.getElem?_set,UQ]
 by_cases h2:i<262144;rw[VQ (λi=>if i=a then v else f i) h2,VQ f h2];by_cases h:a=i;subst h;simp[h2];have h3:¬ i=a:=λe=>h e.symm;simp[h,h3];have n1:∀ f,(dm f)[i]? = none:=λf=>List.getElem?_eq_none (by rw[UQ];omega);rw[n1 f,n1 (λi=>if i=a then v else f i)]
 by_cases h:a=i;subst h;simp[h2];simp[h]
theorem qng:List.replicate 262144 (LV.atom (.int .u32 0))=dm (λ_=>0):=by unfold dm;rw[List.map_const',List.length_range];rfl
attribute [irreducible] dm
theorem qz3{s':MS}(h:fe c s=.run s')(hc:Io c=true):s'.data≠[]:=by unfold fe at h;rw[zp hc] at h;unfold bG at h;split at h;split at h;exact ou;cases h;unfold np at h;split at h;exact ou;cases h
def IJ(k:Int)(f:FuncId)(n:Nat):MapEntry:={ key:=.int .u32 k,val:=.func (.func f) #[] #[],born:=n }
def jQ:Array MapEntry:=#[IJ 43 59 0,IJ 45 60 1,IJ 42 61 2,IJ 47 62 3,IJ 37 64 4,IJ 94 65 5,IJ 60 66 6]
theorem qvg(h:¬ (c=43∨c=45∨c=42∨c=47∨c=37∨c=94∨c=60)):Instr.findNow (.int .u32) (.int .u32 (c:Int)) jQ.toList 0=some none:=by
 have key:∀ k:Nat,c≠k->((c:Int) == (k:Int))=false:=λk hk=>by rw[beq_eq_false_iff_ne];omega
 have k1:=key 43 zo;have k2:=key 45 zo;have k3:=key 42 zo;have k4:=key 47 zo;have k5:=key 37 zo;have k6:=key 94 zo;have k7:=key 60 zo;simp only[jQ,IJ,Instr.findNow,Instr.sameNow,if_true];simp only[Int.cast_ofNat_Int] at k1 k2 k3 k4 k5 k6 k7;simp only[k1,k2,k3,k4,k5,k6,k7]
def iK(o:Option Nat):Pe:=match o with
 |some v=>.ret (u32 v)
 |none=>.panic vy
section
variable{B0:Nat}{w0:World}{H:Heap}{a b:Nat}
theorem qhE:ca (KC B0 w0) 31 [] [] (λr H=>∃ om,r=.ret (.atom (.map (some om)))/\H=[(om,.obj (.map jQ 7))]):=by refine jb Tryz.func31 rfl (n:=3) rfl rfl rfl ?_;refine Ep ?_;refine oS (S.makeMap λom=>?_);refine zQ3 ?_;refine bY ?_;refine oS (S.di (kt:=24) (el:=141) (kd:=.u32) zk zk rfl rfl rfl pH rfl rfl ?_);refine Aa ?_;exact rR rfl (eb rfl) ob ⟨om,rfl,rfl⟩
theorem qyQ(ha:a<4294967296)(hb:b<4294967296):ca (KC B0 w0) 59 [u32 a,u32 b] H (Same (u32 ((a+b) % 4294967296)) H):=by refine jb Tryz.func59 rfl (n:=8) rfl rfl rfl ?_;refine cl ?_;refine qa (Pure.CE rfl rfl)<|Ad ?_;exact Rp rfl (eb rfl) (rB (by rw[Vq];omega)) ob
theorem qy8(ha:a<4294967296)(hb:b<4294967296):ca (KC B0 w0) 60 [u32 a,u32 b] H (Same (u32 ((a+4294967296-b) % 4294967296)) H):=by refine jb Tryz.func60 rfl (n:=8) rfl rfl rfl ?_;refine cl ?_;refine qa (Pure.kC rfl rfl)<|Ad ?_;exact Rp rfl (eb rfl) (rB (by rw[Vq];omega)) ob
theorem qz5(ha:a<4294967296)(hb:b<4294967296):ca (KC B0 w0) 61 [u32 a,u32 b] H (Same (u32 (a * b % 4294967296)) H):=by refine jb Tryz.func61 rfl (n:=8) rfl rfl rfl ?_;refine cl ?_;refine qa (Pure.xL rfl rfl)<|Ad ?_;exact Rp rfl (eb rfl) (rB (by rw[Vq,<-Int.natCast_mul];generalize a * b=q;omega)) ob
theorem qzY(ha:a<4294967296)(hb:b<4294967296):ca (KC B0 w0) 65 [u32 a,u32 b] H (Same (u32 (a ^^^ b)) H):=by refine jb Tryz.func65 rfl (n:=8) rfl rfl rfl ?_;refine cl ?_;refine qa (Pure.vw rfl rfl)<|Ad ?_;exact Rp rfl (eb rfl) (rB (JZ ha hb)) ob
theorem qz4:ca (KC B0 w0) 66 [u32 a,u32 b] H (Same (u32 (if a<b then 1 else 0)) H):=by
 refine jb Tryz.func66 rfl (n:=8) rfl rfl rfl ?_;refine wa ?_;refine Oa (λhc=>?_) λhc=>?_;have h1:a<b:=by have:=zt hc;omega
 refine Ak ?_;exact Rp rfl (eb rfl) (by rw[zp h1];rfl) ob;have h1:¬ a<b:=by have:=zf hc;omega
 refine wa ?_;exact Rp rfl (eb rfl) (by rw[zn h1];rfl) ob
theorem qz6(ha:a<4294967296):ca (KC B0 w0) 62 [u32 a,u32 b] H (λr H'=>H'=H/\r=iK (if b=0 then none else some (a / b))):=by refine jb Tryz.func62 rfl (n:=11) rfl rfl rfl ?_;refine xa ?_;by_cases h0:b=0;refine oS (S.check rfl (λhb=>?_) λhb e' Na=>?_);simp[h0] at hb;refine Yi ?_;exact ke.panic (Na.trans rfl) ob ⟨rfl,by rw[zp h0];rfl⟩;refine oS (S.check rfl (λhb=>?_) λhb e' Na=>?_);rotate_left;simp[h0] at hb;refine Xi ?_;refine qa (Pure.eQ rfl rfl zo)<|Ad ?_;refine rR rfl (eb rfl) ob ⟨rfl,?_⟩;rw[zn h0];exact congrArg Pe.ret (rB (by rw[Vq,Int.tdiv_eq_ediv_of_nonneg zo,<-Int.natCast_ediv];have hq:a / b<4294967296:=Nat.lt_of_le_of_lt (Nat.div_le_self a b) ha;generalize a / b=q at hq ⊢;omega))
theorem qzT(ha:a<4294967296):ca (KC B0 w0) 64 [u32 a,u32 b] H (λr H'=>H'=H/\r=iK (if b=0 then none else some (a % b))):=by refine jb Tryz.func64 rfl (n:=11) rfl rfl rfl ?_;refine xa ?_;by_cases h0:b=0;refine oS (S.check rfl (λhb=>?_) λhb e' Na=>?_);simp[h0] at hb;refine Yi ?_;exact ke.panic (Na.trans rfl) ob ⟨rfl,by rw[zp h0];rfl⟩;refine oS (S.check rfl (λhb=>?_) λhb e' Na=>?_);rotate_left;simp[h0] at hb;refine Xi ?_;refine qa (Pure.kK rfl rfl zo)<|Ad ?_;refine rR rfl (eb rfl) ob ⟨rfl,?_⟩;rw[zn h0];exact congrArg Pe.ret (rB (by rw[Int.tmod_eq_emod_of_nonneg zo,<-Int.natCast_emod]))
theorem qnp(hc:c=43∨c=45∨c=42∨c=47∨c=37∨c=94∨c=60)(ha:a<4294967296)(hb:b<4294967296):∃ (j:Nat) (f:FuncId),Instr.findNow (.int .u32) (.int .u32 (c:Int)) jQ.toList 0=some (some (j,.func (.func f) #[] #[]))/\Wb Tryz.prog f /\
  ∀ H,ca (KC B0 w0) f [u32 a,u32 b] H (λr H'=>H'=H/\r=iK (Hd c a b)):=by
 rcases hc with rfl|rfl|rfl|rfl|rfl|rfl|rfl;exact⟨0,59,rfl,inferInstance,λH=>ca.mono (qyQ ha hb) λr H' ⟨h1,h2⟩=>⟨h2,h1⟩⟩;exact⟨1,60,rfl,inferInstance,λH=>ca.mono (qy8 ha hb) λr H' ⟨h1,h2⟩=>⟨h2,h1⟩⟩;exact⟨2,61,rfl,inferInstance,λH=>ca.mono (qz5 ha hb) λr H' ⟨h1,h2⟩=>⟨h2,h1⟩⟩;exact⟨3,62,rfl,inferInstance,λH=>qz6 ha⟩;exact⟨4,64,rfl,inferInstance,λH=>qzT ha⟩;exact⟨5,65,rfl,inferInstance,λH=>ca.mono (qzY ha hb) λr H' ⟨h1,h2⟩=>⟨h2,h1⟩⟩;exact⟨6,66,rfl,inferInstance,λH=>ca.mono (qz4) λr H' ⟨h1,h2⟩=>⟨h2,h1⟩⟩
end
open nj (u32 Same Rp Vq rB AV zZ)
variable{F HD:Heap}{a:Operand}{data:List Nat}{st:Nat}
structure MK where
 mb:Nat
 mm:Nat
 bm:Nat
@[reducible] def aD(k:MK):Value:=.slice (some ⟨k.mm,0,none⟩) 262144 262144
@[reducible] def MK.mf(k:MK)(s:MS)(st:Nat)(stop:Bool)(vc:Value)(vo:LV):MF:=⟨k.mb,aD k,s.pc,vc,s.Ia,vo,s.digit,st,stop,k.bm⟩
@[reducible] def MK.kh(k:MK)(f:Nat->Nat):Nat×ja:=(k.mm,.cells 24 (dm f))
@[reducible] def MK.mh(k:MK):Nat×ja:=(k.bm,.obj (.map jQ 7))
def sz(k:MK)(s:MS)(st:Nat)(stop:Bool)(H:Heap):Prop:=∃ vc HC vo HO HD,Lf 24 1 vc (us s.calls.reverse) HC/\Acc 1 vo (ig s.out) HO []/\DH (k.mf s st stop vc vo) s.data HD/\H=HD++(k.kh s.mem::k.mh::(HC++HO))
def IE(k:MK)(st:Nat)(R:MR)(r:Pe)(H:Heap):Prop:=match R with
 |.run s=>r=.ret (.tuple [])/\sz k s st false H
 |.stop e o=>∃ s,s.out=o/\if e=0 then r=.ret (.tuple [])/\sz k s st true H else e=12/\r=.panic vy/\sz k s st false H
theorem qBY{k:MK}{o:Wd}(hs:s.out=o)(h:sz k s st false H):IE k st (.stop 12 o) (.panic vy) H:=⟨s,hs,by rw[zn ea];exact⟨rfl,rfl,h⟩⟩
theorem cU{k:Int}(h:(c:Int)=k)(hk:48<=k/\k<=57):true=Io c:=by unfold Io;rw[Dg (by omega:48<=c),Dg (by omega:c<=57)];rfl
theorem qAO{x m b:Nat×ja}{A B C:Heap}:(x::(A++(m::b::(B++C)))).Perm (B++(x::(A++(m::b::C)))):=by have:=List.perm_append_comm_assoc (x::(A++[m,b])) B C;simpa using this
theorem WM{x m b:Nat×ja}{A B C:Heap}:(x::(A++(m::b::(B++C)))).Perm (C++(x::(A++(m::b::B)))):=by have:=Lh (l₁:=x::(A++(m::b::B))) (l₂:=C);simpa using this
section
variable{B0:Nat}{w0:World}{e:Env}{H:Heap}{dst:Option Nat}{ty:TypeId}{ra:String}{ua:Array Edge}{g:Option (Nat×Bool)}{K:LV->Heap->Prop}{X:List PanicEntry->Heap->Prop}
theorem S.push{f:MF}{v:Nat}{b:Operand}(hx:[e.ev a,e.ev b]=[ptr f.mb 0,u32 v])(hp:H.Perm (HD++F))(hD:DH f data HD)(hf:data.length<=256)
  (hk:data.length<256->∀ pg,DH f (v::data) pg->K (.tuple []) (pg++F)) (hn:¬ data.length<256->∀ pg,DH f data pg->X vy (pg++F)) :
  ab (KC B0 w0) ⟨dst,.call { callee:=.value (.func 114),args:=#[a,b],argTypes:=nh },ty,ra,ua,g⟩ e H K X:=by
 refine S.Uc (H1:=HD) (F:=F) [a,b] hx hp (qt3 hD hf v) ?_ ?_;intro r H' h;unfold dW at h;split at h;rename_i hl;obtain⟨h1,h2⟩:=h;cases h1;exact hk hl H' h2;obtain⟨h1,_⟩:=h;cases h1;intro ch H' h;unfold dW at h;split at h;obtain⟨h1,_⟩:=h;cases h1;rename_i hl;obtain⟨h1,h2⟩:=h;cases h1;exact hn hl H' h2
theorem S.pop{f:MF}(hx:[e.ev a]=[ptr f.mb 0])(hp:H.Perm (HD++F))(hD:DH f data HD)(hf:data.length<=256)
  (hk:∀ x r,data=x::r->∀ pg,DH f r pg->K (u32 x) (pg++F)) (hn:data=[]->∀ pg,DH f [] pg->X vy (pg++F)) :
  ab (KC B0 w0) ⟨dst,.call { callee:=.value (.func 116),args:=#[a],argTypes:=nh },ty,ra,ua,g⟩ e H K X:=by
 refine S.Uc (H1:=HD) (F:=F) [a] hx hp (qqa hD hf) ?_ ?_;intro r H' h;cases data with
 |nil=>obtain⟨h1,_⟩:=h;cases h1
 |cons x d=>obtain⟨h1,h2⟩:=h;cases h1;exact hk x d rfl H' h2
 intro ch H' h;cases data with
 |nil=>obtain⟨h1,h2⟩:=h;cases h1;exact hn rfl H' h2
 |cons x d=>obtain⟨h1,_⟩:=h;cases h1
theorem S.address{f:MF}(hx:[e.ev a]=[ptr f.mb 0])(hp:H.Perm (HD++F))(hD:DH f data HD)(hf:data.length<=256)
  (hk:∀ x r,data=x::r->x<262144->∀ pg,DH f r pg->K (u32 x) (pg++F)) (hn:(∀ x r,data=x::r->¬ x<262144)->∀ d pg,DH f d pg->X vy (pg++F)) :
  ab (KC B0 w0) ⟨dst,.call { callee:=.value (.func 115),args:=#[a],argTypes:=nh },ty,ra,ua,g⟩ e H K X:=by
 refine S.Uc (H1:=HD) (F:=F) [a] hx hp (N4 hD hf) ?_ ?_;intro r H' h;cases data with
 |nil=>obtain⟨h1,_⟩:=h;cases h1
 |cons x d=>unfold YV at h;simp only at h;split at h;rename_i hl;obtain⟨h1,h2⟩:=h;cases h1;exact hk x d rfl hl H' h2;obtain⟨h1,_⟩:=h;cases h1
 intro ch H' h;cases data with
 |nil=>obtain⟨h1,h2⟩:=h;cases h1;exact hn (λx r X5=>by cases X5) _ H' h2
 |cons x d=>
  unfold YV at h;simp only at h;split at h;obtain⟨h1,_⟩:=h;cases h1;rename_i hl;obtain⟨h1,h2⟩:=h;cases h1;exact hn (λy r X5=>by
   injection X5 with e1 e2;rw[<-e1];exact hl) _ H' h2
end
theorem qtl(k:MK)(Kc:Gl s)(cf:c<4294967296)(eM:s.digit=true->s.data≠[])(zg:s.out.length<=100000000000)(h:sz k s st false H) :
  ca (KC B0 w0) 68 [ptr k.mb 0,u32 c] H (IE k st (fe c s)):=by
 generalize hR:fe c s=R;obtain⟨vc,HC,vo,HO,HD,hC,hO,hD,rfl⟩:=h;have Qk:=Kc.LA;have aae:=Kc.deep;have hl:(us s.data.reverse).length=s.data.length:=by rw[FC,length_reverse]
 have hlc:(us s.calls.reverse).length=s.calls.length:=by rw[FC,length_reverse]
 have mk:∀ (d:List Nat) (pg:Heap),DH (k.mf s st false vc vo) d pg->sz k { s with data:=d } st false (pg++(k.kh s.mem::k.mh::(HC++HO))):=λd pg h=>⟨vc,HC,vo,HO,pg,hC,hO,h,rfl⟩;have Gr:∀ (d:List Nat) (pg:Heap),DH (k.mf s st false vc vo) d pg->IE k st (MR.Be s) (.panic vy) (pg++(k.kh s.mem::k.mh::(HC++HO))):=λd pg h=>qBY (s:={ s with data:=d }) rfl (mk d pg h);have Oj:=hD;obtain⟨vd,uz,hm,rfl⟩:=hD;rw[cons_append];refine jb Tryz.func68 rfl (n:=219) rfl rfl rfl ?_;refine wa ?_;refine ZB [(0,ptr k.mb 0),(1,u32 c),(14,u32 c),(36,bool (Io c))] ?_ λj hj=>?_;refine Pj ?_;refine Oa (λhc=>?_) λc0=>?_;exact BF;refine Pj ?_;refine Oa (λhc=>?_) λc1=>?_;exact BF;refine Pj ?_;refine Oa (λhc=>?_) λc2=>?_;exact BF;refine Pj ?_;refine Oa (λhc=>?_) λc3=>?_;exact BF;refine Pj ?_;refine Oa (λhc=>?_) λc4=>?_;exact BF;refine Pj ?_;refine Oa (λhc=>?_) λc5=>?_;exact BF;refine Pj ?_;refine Oa (λhc=>?_) λc6=>?_;exact BF;refine Pj ?_;refine Oa (λhc=>?_) λc7=>?_;exact BF;refine Pj ?_;refine Oa (λhc=>?_) λc8=>?_;exact BF;refine Pj ?_
 exact⟨⟨rfl,rfl,rfl,Re (by
  have d0:=zf c0;have d1:=zf c1;have d2:=zf c2;have d3:=zf c3;have d4:=zf c4;have d5:=zf c5;have d6:=zf c6;have d7:=zf c7;have d8:=zf c8;unfold Io;rw[<-Bool.decide_and,decide_eq_decide];omega),trivial⟩,rfl,rfl⟩
 refine Oa (λhc=>?_) λBh=>?_
 ·have It:48<=c/\c<=57:=by
   unfold Io at hc;rw[Ed,Rg,Rg] at hc;exact hc
  have lh:bG c s=R:=by rw[<-hR];unfold fe;rw[zp hc]
  refine wa ?_;refine qa (Pure.ZC rfl hm)<|xa ?_;refine Oa (λQq=>?_) λQq=>?_
  ·obtain⟨d,r,vi⟩:∃ d r,s.data=d::r:=by
    cases hd:s.data with
    |nil=>exact absurd hd (eM Qq)
    |cons d r=>exact⟨d,r,rfl⟩
   have wi:R=.run { s with data:=((d * 10+c-48) % 4294967296)::r }:=by rw[<-lh];unfold bG;rw[zp Qq,vi]
   subst wi;have z7:s.data.length=r.length+1:=by rw[vi];rfl
   have Tm:(us r.reverse).length=r.length:=by rw[FC,length_reverse]
   have gS:us s.data.reverse=us r.reverse++us [d]:=by rw[vi,reverse_cons,gG]
   rw[gS] at hm;obtain⟨b,cap,spare,h1,h2,ko,We⟩:=Lf.addr hm (by simp[us]);have um:(us r.reverse++us [d]).length=r.length+1:=by rw[Ga,Tm];rfl
   have yl:(us r.reverse++us [d]).flatMap LV.cells=us r.reverse++us [d]:=by rw[<-gG];exact HQ _
   rw[yl,Yc] at h2;rw[um] at h1 ko We;subst h1 h2;have Pk:IntKind.u32.wrap (IntKind.u32.wrap (IntKind.u32.wrap ((d:Int) * 10)+(c:Int))-48)=(((d * 10+c-48) % 4294967296:Nat):Int):=by rw[Vq,Vq,Vq];omega
   refine cD (m:=18) rfl [(k.mb,ja.cells 84 ((k.mf s st false vc vo).cells (.slice (some ⟨b,0,none⟩) (r.length+1) cap)))]<|JM ?_;refine aT 3 rfl rfl (pL (c:=.atom _) rfl xc rfl)<|aT 4 rfl rfl (Cc (lv:=.atom _) rfl)<|aT 5 rfl rfl (Cc (lv:=.atom _) rfl)<|aT 6 rfl rfl (pN rfl)<|aT 7 rfl rfl (pF rfl)<|aT 8 rfl rfl (pL (c:=.atom _) rfl xc rfl)<|aT 9 rfl rfl (Cc (lv:=.atom _) rfl)<|aT 10 rfl rfl (Pure.cg (o:=r.length) rfl rfl zo zo zo)<|aT 13 rfl rfl (Cc (lv:=.atom _) rfl)<|aL ?_ Gd;refine lO 11 (lH rfl rfl (pL (c:=u32 d) rfl Xh (by rw[List.getElem?_append_right zo,Tm,sub_self];rfl)) ?_);refine lO 12 (lH rfl rfl (Pure.xL rfl rfl) ?_);refine lO 14 (lH rfl rfl (Pure.CE rfl rfl) ?_);refine lO 15 (lH rfl rfl (Pure.kC rfl rfl) ?_);refine lO 16 (lH rfl rfl (Pure.cg (o:=r.length) rfl rfl zo zo zo) ?_);refine Ck (i:=17) zk ?_;refine lS (H1:=[_]) (F:=_::(k.kh s.mem::k.mh::(HC++HO))) rfl (.inl rfl) rfl Vd Gd ?_;refine(sS (vs:=[u32 ((d * 10+c-48) % 4294967296)]) (Zb:=us r.reverse++(u32 ((d * 10+c-48) % 4294967296)::spare)) rfl pH (by show some [int .u32 _]=some [int .u32 _];rw[<-Pk]) rfl (by rw[ble_eq,Ga,Tm,Ga];show r.length+1<=r.length+(1+spare.length);omega) rfl (by
    have:=qv2 (us r.reverse) (us [d]++spare) 0 [u32 ((d * 10+c-48) % 4294967296)];rw[Tm,add_zero] at this;rw[this];show us r.reverse++(u32 _::Mh spare 0 [])=_;rw[qnV]) ?_)
   refine lD zk ?_;refine Aa ?_;have gk:sz k { s with data:=((d * 10+c-48) % 4294967296)::r } st false (((k.mb,.cells 84 ((k.mf s st false vc vo).cells (.slice (some ⟨b,0,none⟩) (r.length+1) cap)))::[(b,.cells 24 (us r.reverse++(u32 ((d * 10+c-48) % 4294967296)::spare)))])++(k.kh s.mem::k.mh::(HC++HO))):=
    mk _ _ ⟨_,_,by
     have:=jZ (el:=24) (b:=b) (m:=r.length+1) (cap:=cap) (l:=(((d * 10+c-48) % 4294967296)::r).reverse) (spare:=spare) (by simp) zo zo;rw[reverse_cons,gG,Yc] at this;rw[reverse_cons,gG];exact this,rfl⟩
   exact rO hj rN ⟨[],by rw[ue];exact yq _ _ _⟩ ⟨rfl,gk⟩
  have uD:IntKind.u32.wrap ((c:Int)-48)=((c-48:Nat):Int):=by rw[Vq];omega
  have wi:np (c-48) s=R:=by rw[<-lh];unfold bG;have Q7:s.digit=false:=Qq;rw[zn (by rw[Q7];decide)]
  unfold np at wi;refine Yd ?_;refine qa (Pure.kC rfl rfl)<|oS (S.push (v:=c-48) (by show [_,int .u32 _]=[_,int .u32 _];rw[<-uD];rfl) dc Oj Qk (λKa pg Eh=>?_) λKa pg Eh e' Na=>?_);rw[zp Ka] at wi;subst wi;refine Aa ?_;exact rO hj rN ob ⟨rfl,mk _ _ Eh⟩;rw[zn Ka] at wi;subst wi;refine Zd ?_;exact ke.panic (Na.trans hj) ob (Gr _ _ Eh)
 have KS:¬ Io c=true:=by rw[Bh];decide
 refine kb.seq ?_;refine ZB [(0,ptr k.mb 0),(1,u32 c),(14,u32 c),(78,bool (decide (c=32∨c=10)))] ?_ λj2 Gc=>?_;refine Pj ?_;refine Oa (λhc=>?_) λc0=>?_;refine Aa ?_;exact⟨⟨rfl,rfl,rfl,Re (hc.trans (Dg (by have:=zt hc;omega)).symm),trivial⟩,rfl,rfl⟩;refine Pj ?_;exact⟨⟨rfl,rfl,rfl,Re (by have:=zf c0;rw[decide_eq_decide];omega),trivial⟩,rfl,rfl⟩;have tj:=Gc.trans hj;refine Oa (λhc=>?_) λc0=>?_;have hcw:=zt hc
 have wi:R=.run s:=by rw[<-hR];unfold fe;rw[zn KS,zp hcw]
 subst wi;refine Aa ?_;exact rO tj rN ob ⟨rfl,mk _ _ Oj⟩;have nX:=zf c0;refine Pj ?_;refine Oa (λhc=>?_) λc1=>?_
 ·obtain rfl:c=64:=by have:=zt hc;omega
  have lh:XI s=R:=hR;refine cD (m:=10) rfl []<|BU ?_;refine aT 5 rfl rfl (Cc (lv:=.atom _) rfl)<|aL ?_ sd;refine wq (i:=4) (j:=6) zk ?_ ?_
  ·refine lH rfl rfl (pL (c:=.atom (aD k)) rfl xc rfl) ?_;refine Ck (i:=6) zk ?_;refine lW rfl (.inl rfl) rfl (S.address rfl dc Oj Qk (λa r vi ha pg Eh=>?_) λhb d pg Eh e' Na=>?_);rotate_left;exact ZO
   have wi:np (s.mem a) { s with data:=r }=R:=by rw[<-lh];unfold XI;rw[vi];simp only;rw[zp ha]
   unfold np at wi;simp only at wi;have Tm:r.length<=256:=by rw[vi,Ma] at Qk;omega
   have uM:=Eh;obtain⟨D9,HD1,eF,rfl⟩:=uM;refine JF ?_;refine lO 8 (lH rfl rfl (pL (c:=u32 (s.mem a)) rfl (mem_append_right _ xc) (VQ _ ha)) ?_);refine lO 9 (lW rfl (.inl rfl) rfl (S.push (v:=s.mem a) rfl dc Eh Tm (λKa tz mj=>?_) λKa tz mj e' Na=>?_));rw[zp Ka] at wi;subst wi;refine lD zk ?_;refine Aa ?_;exact rO tj rN ob ⟨rfl,mk _ _ mj⟩;rw[zn Ka] at wi;subst wi;refine Zd ?_;exact ke.panic (Na.trans tj) ob (Gr _ _ mj)
  refine lW rfl (.inl rfl) rfl (S.address rfl dc Oj Qk (λa r vi ha pg Eh=>?_) λhb d pg Eh e' Na=>?_);rotate_left;exact ZO
  have wi:np (s.mem a) { s with data:=r }=R:=by rw[<-lh];unfold XI;rw[vi];simp only;rw[zp ha]
  unfold np at wi;simp only at wi;have Tm:r.length<=256:=by rw[vi,Ma] at Qk;omega
  have uM:=Eh;obtain⟨D9,HD1,eF,rfl⟩:=uM;refine lO 4 (lH rfl rfl (pL (c:=.atom (aD k)) rfl xc rfl) ?_);refine JF ?_;refine lO 8 (lH rfl rfl (pL (c:=u32 (s.mem a)) rfl (mem_append_right _ xc) (VQ _ ha)) ?_);refine lO 9 (lW rfl (.inl rfl) rfl (S.push (v:=s.mem a) rfl dc Eh Tm (λKa tz mj=>?_) λKa tz mj e' Na=>?_));rw[zp Ka] at wi;subst wi;refine lD zk ?_;refine Aa ?_;exact rO tj rN ob ⟨rfl,mk _ _ mj⟩;rw[zn Ka] at wi;subst wi;refine Zd ?_;exact ke.panic (Na.trans tj) ob (Gr _ _ mj)
 have n64:=zf c1;refine Pj ?_;refine Oa (λhc=>?_) λc2=>?_
 ·obtain rfl:c=33:=by have:=zt hc;omega
  have lh:Uq s=R:=hR;refine Yd ?_;refine oS (S.address rfl dc Oj Qk (λa r vi ha pg Eh=>?_) λhb d pg Eh e' Na=>?_);rotate_left
  have Kn:R=.Be s:=by
   rw[<-lh];unfold Uq;cases hd:s.data with
   |nil=>rfl
   |cons x r=>
    cases r with
    |nil=>rfl
    |cons y r=>simp only;rw[zn (hb x _ hd)]
  subst Kn;refine Zd ?_;exact ke.panic (Na.trans tj) ob (Gr _ _ Eh);have Tm:r.length<=256:=by rw[vi,Ma] at Qk;omega
  have tM:=Eh;obtain⟨D9,HD1,eF,rfl⟩:=tM;refine Ad ?_;refine cD (m:=9) rfl []<|JM ?_;refine aT 4 rfl rfl (Cc (lv:=.atom _) rfl)<|aT 5 rfl rfl (Cc (lv:=.atom _) rfl)<|aL ?_ sd;refine wq (i:=3) (j:=6) zk ?_ ?_
  ·refine lH rfl rfl (pL (c:=.atom (aD k)) rfl xc rfl) ?_;refine Ck (i:=6) zk ?_;refine lW rfl (.inl rfl) rfl (S.pop rfl dc Eh Tm (λv r2 Gt tz mj=>?_) λhb tz mj e' Na=>?_);rotate_left
   have Kn:R=.Be s:=by rw[<-lh];unfold Uq;rw[vi,hb]
   subst Kn;refine Zd ?_;exact ke.panic (Na.trans tj) ob (Gr _ _ mj);have wi:R=.run { s with data:=r2,mem:=λi=>if i=a then v else s.mem i }:=by rw[<-lh];unfold Uq;rw[vi,Gt];simp only;rw[zp ha]
   subst wi;have KT:=mj;obtain⟨ru,Xm,dw,rfl⟩:=KT;refine JF ?_;refine lO 8 (lW rfl (.inl rfl) rfl (sS (n:=1) (vs:=[u32 v]) (Zb:=dm λi=>if i=a then v else s.mem i) rfl (show xd _ _ _ from List.perm_middle) rfl rfl (by rw[ble_eq,UQ];omega) rfl (WZ _ _ _) ?_));refine lD zk ?_;refine Aa ?_;exact rO tj rN ⟨[],by rw[ue];exact List.perm_middle.symm⟩ ⟨rfl,vc,HC,vo,HO,_,hC,hO,mj,rfl⟩
  refine lW rfl (.inl rfl) rfl (S.pop rfl dc Eh Tm (λv r2 Gt tz mj=>?_) λhb tz mj e' Na=>?_);rotate_left
  have Kn:R=.Be s:=by rw[<-lh];unfold Uq;rw[vi,hb]
  subst Kn;refine Zd ?_;exact ke.panic (Na.trans tj) ob (Gr _ _ mj);have wi:R=.run { s with data:=r2,mem:=λi=>if i=a then v else s.mem i }:=by rw[<-lh];unfold Uq;rw[vi,Gt];simp only;rw[zp ha]
  subst wi;have KT:=mj;obtain⟨ru,Xm,dw,rfl⟩:=KT;refine lO 3 (lH rfl rfl (pL (c:=.atom (aD k)) rfl xc rfl) ?_);refine JF ?_;refine lO 8 (lW rfl (.inl rfl) rfl (sS (n:=1) (vs:=[u32 v]) (Zb:=dm λi=>if i=a then v else s.mem i) rfl (show xd _ _ _ from List.perm_middle) rfl rfl (by rw[ble_eq,UQ];omega) rfl (WZ _ _ _) ?_));refine lD zk ?_;refine Aa ?_;exact rO tj rN ⟨[],by rw[ue];exact List.perm_middle.symm⟩ ⟨rfl,vc,HC,vo,HO,_,hC,hO,mj,rfl⟩
 have n33:=zf c2;refine Pj ?_;refine Oa (λhc=>?_) λc3=>?_
 ·obtain rfl:c=63:=by have:=zt hc;omega
  have lh:Wu s=R:=hR;refine Yd ?_;refine oS (S.pop rfl dc Oj Qk (λt r vi pg Eh=>?_) λhb pg Eh e' Na=>?_);rotate_left
  have Kn:R=.Be s:=by rw[<-lh];unfold Wu;rw[hb]
  subst Kn;refine Zd ?_;exact ke.panic (Na.trans tj) ob (Gr _ _ Eh);have Tm:r.length<=256:=by rw[vi,Ma] at Qk;omega
  refine cl ?_;refine oS (S.pop rfl dc Eh Tm (λv r2 Gt tz mj=>?_) λhb tz mj e' Na=>?_);rotate_left
  have Kn:R=.Be s:=by rw[<-lh];unfold Wu;rw[vi,hb]
  subst Kn;refine Zd ?_;exact ke.panic (Na.trans tj) ob (Gr _ _ mj);have wi:R=.run { s with data:=r2,pc:=if v=0 then t else s.pc }:=by rw[<-lh];unfold Wu;rw[vi,Gt]
  obtain⟨ru,Xm,dw,rfl⟩:=mj;refine Aa ?_;refine Oa (λhv=>?_) λhv=>?_;have eH:v=0:=by have:=zt hv;omega
  rw[zp eH] at wi;subst wi;refine xa ?_;exact rO tj rN ob ⟨rfl,vc,HC,vo,HO,_::Xm,hC,hO,⟨ru,Xm,dw,rfl⟩,rfl⟩;have eH:¬ v=0:=by have:=zf hv;omega
  rw[zn eH] at wi;subst wi;refine Aa ?_;exact rO tj rN ob ⟨rfl,mk _ _ ⟨ru,Xm,dw,rfl⟩⟩
 have n63:=zf c3;refine Pj ?_;refine Oa (λhc=>?_) λc4=>?_
 ·obtain rfl:c=58:=by have:=zt hc;omega
  have lh:YH s=R:=hR;refine Yd ?_;refine oS (S.pop rfl dc Oj Qk (λt r vi pg Eh=>?_) λhb pg Eh e' Na=>?_);rotate_left
  have Kn:R=.Be s:=by rw[<-lh];unfold YH;rw[hb]
  subst Kn;refine Zd ?_;exact ke.panic (Na.trans tj) ob (Gr _ _ Eh);have tM:=Eh;obtain⟨ru,Xm,dw,rfl⟩:=tM;refine wa ?_;refine qa (Pure.ZC rfl hC)<|Aa ?_;refine oS (S.check rfl (λhb=>?_) λhb e' Na=>?_);rotate_left;have Ka:¬ s.calls.length<64:=by have:=zf hb;omega
  have Kn:R=.Be s:=by rw[<-lh];unfold YH;rw[vi];simp only;rw[zn Ka]
  subst Kn;refine Zd ?_;exact ke.panic (Na.trans tj) ob (Gr _ _ Eh);have Ka:s.calls.length<64:=by have:=zt hb;omega
  have wi:R=.run { s with data:=r,calls:=s.pc::s.calls,pc:=t }:=by rw[<-lh];unfold YH;rw[vi];simp only;rw[zp Ka]
  subst wi;refine Aa ?_;refine cD (m:=14) rfl []<|BU ?_;refine aT 5 rfl rfl (Cc (lv:=.atom _) rfl)<|aT 6 rfl rfl (pN rfl)<|aT 7 rfl rfl (pF rfl)<|aL ?_ sd;refine wq (i:=4) (j:=8) zk ?_ ?_;refine lH rfl rfl (pL (c:=.atom vc) rfl xc rfl)<|Ck (i:=8) zk ?_;refine lH rfl rfl (pL (c:=u32 s.pc) rfl xc rfl)<|Ck (i:=9) zk ?_;refine iC ?_;exact aY;refine lH rfl rfl (pL (c:=u32 s.pc) rfl xc rfl)<|wq (i:=4) (j:=9) zk ?_ ?_;refine lH rfl rfl (pL (c:=.atom vc) rfl xc rfl)<|Ck (i:=9) zk ?_;refine iC ?_;exact aY;refine iC ?_;refine Ck (i:=4) zk ?_;refine lH rfl rfl (pL (c:=.atom vc) rfl xc rfl) ?_;exact aY
 have n58:=zf c4;refine Pj ?_;refine Oa (λhc=>?_) λc5=>?_
 ·obtain rfl:c=59:=by have:=zt hc;omega
  have lh:Vx s=R:=hR;refine wa ?_;refine qa (Pure.ZC rfl hC)<|xa ?_;refine oS (S.check rfl (λhb=>?_) λhb e' Na=>?_);rotate_left
  have xx:s.calls=[]:=by have:=zf hb;exact List.length_eq_zero_iff.1 zo
  have Kn:R=.Be s:=by rw[<-lh];unfold Vx;rw[xx]
  subst Kn;refine Zd ?_;exact ke.panic (Na.trans tj) ob (Gr _ _ Oj);obtain⟨t,r,vi⟩:∃ t r,s.calls=t::r:=by
   cases hd:s.calls with
   |nil=>have:=zt hb;rw[hlc,hd] at this;simp at this
   |cons t r=>exact⟨t,r,rfl⟩
  have wi:R=.run { s with calls:=r,pc:=t }:=by rw[<-lh];unfold Vx;rw[vi]
  subst wi;have z7:s.calls.length=r.length+1:=by rw[vi];rfl
  have Tm:(us r.reverse).length=r.length:=by rw[FC,length_reverse]
  have gS:us s.calls.reverse=us r.reverse++us [t]:=by rw[vi,reverse_cons,gG]
  have hC0:=hC;rw[gS] at hC0;obtain⟨b,cap,spare,h1,h2,ko,We⟩:=Lf.addr hC0 (by simp[us]);have um:(us r.reverse++us [t]).length=r.length+1:=by rw[Ga,Tm];rfl
  have yl:(us r.reverse++us [t]).flatMap LV.cells=us r.reverse++us [t]:=by rw[<-gG];exact HQ _
  rw[yl,Yc] at h2;rw[um] at h1 ko We;subst h1 h2;refine xa ?_;refine qa (Pure.cg (o:=r.length) rfl rfl zo zo zo)<|qa (pL (c:=u32 t) rfl (pd (mem_append_right _ YB)) (by rw[List.getElem?_append_right zo,Tm,sub_self];rfl)) ?_;refine xa ?_;refine qa (Pure.Ul (n:=r.length) rfl (by exact qf zo) zo)<|Ra ?_;exact rO tj rN ob ⟨rfl,_,_,vo,HO,_::uz,jZ (l:=r.reverse) (spare:=us [t]++spare) (by rw[length_reverse]) zo (by rw[Ga,FC];simp only[List.length_singleton];omega),hO,⟨vd,uz,hm,rfl⟩,rfl⟩
 have n59:=zf c5;refine Pj ?_;refine Oa (λhc=>?_) λc6=>?_
 ·obtain rfl:c=44:=by have:=zt hc;omega
  have lh:NM s=R:=hR;unfold NM at lh;refine xa ?_;cases hi:s.Ia with
  |nil=>
   rw[hi] at lh;unfold np at lh;have e0:(us (k.mf s st false vc vo).Ia).length=0:=by show(us s.Ia).length=0;rw[hi];rfl
   refine Oa (λhc=>?_) λ_=>?_;have:=zt hc;omega;refine wa ?_;refine oS (S.push (v:=4294967295) rfl dc Oj Qk (λKa pg Eh=>?_) λKa pg Eh e' Na=>?_);rw[zp Ka] at lh;subst lh;refine Aa ?_;exact rO tj rN ob ⟨rfl,mk _ _ Eh⟩;rw[zn Ka] at lh;subst lh;refine Zd ?_
   exact ke.panic (Na.trans tj) ob (Gr _ _ Eh)
  |cons v r=>
   rw[hi] at lh;unfold np at lh;simp only at lh;have aat:(us (k.mf s st false vc vo).Ia).length=r.length+1:=by show(us s.Ia).length=_;rw[hi];simp[us]
   refine Oa (λ_=>?_) λhc=>?_;rotate_left;have:=zf hc;omega;refine xa ?_;refine qa (xR (Ud:=u32 v) (cs:=[u32 v]) rfl rfl ea (by show(us s.Ia)[0]? = _;rw[hi];rfl) rfl rfl) ?_;refine xa ?_;refine qa (Pure.Qy (ms:=us r) rfl ⟨_,rfl⟩ rfl zo zo zo (qtv _) (by show List.drop _ (List.take ((us s.Ia).length:Int).toNat (us s.Ia))=us r;rw[hi];simp[us,List.take_of_length_le])) ?_;refine xa ?_;have hD5:DH (k.mf { s with Ia:=r } st false vc vo) s.data ((k.mb,.cells 84 ((k.mf { s with Ia:=r } st false vc vo).cells vd))::uz):=⟨vd,uz,hm,rfl⟩;have mk5:∀ (d:List Nat) (pg:Heap),DH (k.mf { s with Ia:=r } st false vc vo) d pg->sz k { s with Ia:=r,data:=d } st false (pg++(k.kh s.mem::k.mh::(HC++HO))):=λd pg h=>⟨vc,HC,vo,HO,pg,hC,hO,h,rfl⟩;refine oS (S.push (v:=v) rfl dc hD5 Qk (λKa pg Eh=>?_) λKa pg Eh e' Na=>?_);rw[zp Ka] at lh;subst lh;refine Aa ?_;exact rO tj rN ob ⟨rfl,mk5 _ _ Eh⟩;rw[zn Ka] at lh;subst lh;refine Zd ?_;exact ke.panic (Na.trans tj) ob (qBY (s:={ s with Ia:=r,data:=s.data }) rfl (mk5 _ _ Eh))
 have n44:=zf c6;refine Pj ?_;refine Oa (λhc=>?_) λc7=>?_
 ·obtain rfl:c=46:=by have:=zt hc;omega
  have lh:RF s=R:=hR;refine cD (m:=13) rfl []<|BU ?_;refine aT 5 rfl rfl (Cc (lv:=.atom _) rfl)<|aL ?_ sd;refine wq (i:=4) (j:=6) zk ?_ ?_
  ·refine lH rfl rfl (pL (c:=vo) rfl xc rfl) ?_;refine Ck (i:=6) zk ?_;refine lW rfl (.inl rfl) rfl (S.pop rfl dc Oj Qk (λv r vi pg Eh=>?_) λhb pg Eh e' Na=>?_);rotate_left
   have Kn:R=.Be s:=by rw[<-lh];unfold RF;rw[hb]
   subst Kn;refine Zd ?_;exact ke.panic (Na.trans tj) ob (Gr _ _ Eh);have wi:R=.run { s with data:=r,out:=s.out++[UInt8.ofNat v] }:=by rw[<-lh];unfold RF;rw[vi]
   subst wi;obtain⟨ru,Xm,dw,rfl⟩:=Eh;have e1:ig s.out++[int .u8 (IntKind.u8.wrap (v:Int))]=ig (s.out++[UInt8.ofNat v]):=by rw[qqW,AV];rfl
   have Bt:((ig s.out).length+[int .u8 (IntKind.u8.wrap (v:Int))].length) * 1<=140737488355328:=by simp only[XV,Ma,qc];omega
   exact jP
  refine lW rfl (.inl rfl) rfl (S.pop rfl dc Oj Qk (λv r vi pg Eh=>?_) λhb pg Eh e' Na=>?_);rotate_left
  have Kn:R=.Be s:=by rw[<-lh];unfold RF;rw[hb]
  subst Kn;refine Zd ?_;exact ke.panic (Na.trans tj) ob (Gr _ _ Eh);have wi:R=.run { s with data:=r,out:=s.out++[UInt8.ofNat v] }:=by rw[<-lh];unfold RF;rw[vi]
  subst wi;obtain⟨ru,Xm,dw,rfl⟩:=Eh;have e1:ig s.out++[int .u8 (IntKind.u8.wrap (v:Int))]=ig (s.out++[UInt8.ofNat v]):=by rw[qqW,AV];rfl
  have Bt:((ig s.out).length+[int .u8 (IntKind.u8.wrap (v:Int))].length) * 1<=140737488355328:=by simp only[XV,Ma,qc];omega
  refine wq (i:=4) (j:=7) zk ?_ ?_;refine lH rfl rfl (pL (c:=vo) rfl xc rfl) ?_;exact jP;refine lH rfl rfl (Pure.nE rfl)<|wq (i:=4) (j:=8) zk ?_ ?_;refine lH rfl rfl (pL (c:=vo) rfl xc rfl)<|xP ?_;refine lW rfl (.inl rfl) rfl (sG (A:=_::(Xm++(k.kh s.mem::k.mh::HC))) WM rfl hO rfl (λv hv=>by rw[aj hv];rfl) rfl Bt λv' H' Ob=>?_);rw[e1] at Ob;refine dY ?_;exact rO tj rN ⟨[],by rw[ue];exact Lh.trans WM.symm⟩ ⟨rfl,vc,HC,v',H',_::Xm,hC,Ob,⟨ru,Xm,dw,rfl⟩,rfl⟩;refine lW rfl (.inl rfl) rfl (sL (es:=[int .u8 (IntKind.u8.wrap (v:Int))]) [_] rfl (Qd rfl rfl pj) rfl rfl rfl ?_);refine Ck (i:=4) zk ?_;refine lH rfl rfl (pL (c:=vo) rfl xc rfl)<|Ck (i:=9) zk ?_;refine lW rfl (.inl rfl) rfl (sG (A:=_::(Xm++(k.kh s.mem::k.mh::HC))) WM rfl hO rfl (λv hv=>by rw[aj hv];rfl) rfl Bt λv' H' Ob=>?_);rw[e1] at Ob;refine dY ?_;exact rO tj rN ⟨[],by rw[ue];exact Lh.trans WM.symm⟩ ⟨rfl,vc,HC,v',H',_::Xm,hC,Ob,⟨ru,Xm,dw,rfl⟩,rfl⟩
 have n46:=zf c7;refine Pj ?_;refine Oa (λhc=>?_) λc8=>?_
 ·obtain rfl:c=36:=by have:=zt hc;omega
  have wi:R=.stop 0 s.out:=hR.symm;subst wi;refine xa ?_;exact rO tj rN ob ⟨s,rfl,by rw[zp rfl];exact⟨rfl,vc,HC,vo,HO,_::uz,hC,hO,⟨vd,uz,hm,rfl⟩,rfl⟩⟩
 have n36:=zf c8;have jJ:∀ r,(if c=43∨c=45∨c=42∨c=47∨c=37∨c=94∨c=60 then YE c s else MR.Be s)=r->R=r:=λr hr=>by rw[<-hR,<-hr];unfold fe;rw[zn KS,zn nX,zn zo,zn zo,zn zo,zn zo,zn zo,zn zo,zn zo,zn zo]
 by_cases ld:c=43∨c=45∨c=42∨c=47∨c=37∨c=94∨c=60;rotate_left;have Kn:=jJ _ (zn ld);subst Kn;refine wa ?_;refine qa (Pure.Ku (zv:=.nilFunc) (kt:=24) (el:=141) (kd:=.u32) zk zk (λw=>(Go.zero_of_info (P:=Tryz.prog) (n:=1) zk).1 w) rfl rfl (pd (mem_append_right _ Xh)) (qvg ld))<|wa ?_;refine oS (S.check rfl (λhb=>?_) λhb e' Na=>?_);cases hb;refine Zd ?_;exact ke.panic (Na.trans tj) ob (Gr _ _ Oj);have lh:=jJ _ (zp ld)
 have Pk:∀ (a b:Nat) (r:List Nat),s.data=b::a::r->a<4294967296/\b<4294967296:=λa b r hd=>by have h1:=Kc.data;rw[hd] at h1;exact⟨h1 a (Oc _ Qe),h1 b Qe⟩
 obtain⟨jj,f,fT,xJ,_⟩:=qnp (B0:=B0) (w0:=w0) ld (a:=0) (b:=0) ea ea;refine wa ?_;refine qa (Pure.Yw (kt:=24) (el:=141) (kd:=.u32) zk zk rfl rfl (pd (mem_append_right _ Xh)) fT)<|wa ?_;refine oS (S.check rfl (λhb=>?_) λhb e' Na=>?_);rotate_left;cases hb;refine Xi ?_;refine oS (S.pop rfl dc Oj Qk (λb r vi pg Eh=>?_) λhb pg Eh e' Na=>?_);rotate_left
 have Kn:R=.Be s:=by rw[lh];unfold YE;rw[hb]
 subst Kn;refine Zd ?_;exact ke.panic (Na.trans tj) ob (Gr _ _ Eh);have Tm:r.length<=256:=by rw[vi,Ma] at Qk;omega
 refine cl ?_;refine oS (S.pop rfl dc Eh Tm (λa r2 Gt tz mj=>?_) λhb tz mj e' Na=>?_);rotate_left
 have Kn:R=.Be s:=by rw[lh];unfold YE;rw[vi,hb]
 subst Kn;refine Zd ?_;exact ke.panic (Na.trans tj) ob (Gr _ _ mj);have L6:r2.length<=256:=by rw[Gt,Ma] at Tm;omega
 obtain⟨ha,hb4⟩:=Pk a b r2 (by rw[vi,Gt]);obtain⟨jj2,f2,hf3,hf4,pS⟩:=qnp (B0:=B0) (w0:=w0) ld ha hb4;obtain rfl:f=f2:=by rw[fT] at hf3;injection hf3 with h1;injection h1 with h1;injection h1 with h1 h2;injection h2 with h2;injection h2
 have VD:(match Hd c a b with
   |some v=>np v { s with data:=r2 }
   |none=>MR.Be s)=R:=by
  rw[lh];unfold YE;rw[vi,Gt];rfl
 refine cl ?_;refine oS (S.Cm (f:=f) (first:=#[]) (db:=#[]) (H1:=tz++(k.kh s.mem::k.mh::(HC++HO))) (F:=[]) [_,_] rfl rfl (by rw[ue]) (pS _) ?_ ?_);rintro v H' ⟨rfl,h⟩;cases qT:Hd c a b with
 |none=>rw[qT] at h;cases h
 |some w=>rw[qT] at h VD;cases h;simp only at VD;unfold np at VD;simp only at VD;rw[ue];refine oS (S.push (v:=w) rfl dc mj L6 (λKa Xm tM=>?_) λKa Xm tM e' Na=>?_);rw[zp Ka] at VD;subst VD;refine Aa ?_;exact rO tj rN ob ⟨rfl,mk _ _ tM⟩;rw[zn Ka] at VD;subst VD;refine Zd ?_;exact ke.panic (Na.trans tj) ob (Gr _ _ tM)
 rintro ch H' ⟨rfl,h⟩ e' Na;cases qT:Hd c a b with
 |some w=>rw[qT] at h;cases h
 |none=>rw[qT] at h VD;cases h;simp only at VD;subst VD;rw[ue];refine Zd ?_;exact ke.panic (Na.trans tj) ob (Gr _ _ mj)
open nj (u32 Same Rp Vq rB)
variable{og:Nat}
theorem qtK(w:World):(zeroValue 144).run Tryz.prog w=.ok (.agg ([]:List Value).toArray) w:=
 (Go.zero_of_info (P:=Tryz.prog) (n:=0) zk).1 w
theorem qzw{s':MS}(h:fe c s=.run s'):s'.out.length<=s.out.length+1:=by
 have push:∀ (v:Nat) (t:MS),np v t=.run s'->t.out=s.out->s'.out.length<=s.out.length+1:=λv t h ht=>by unfold np at h;split at h;injection h with h;subst h;show t.out.length<=_;rw[ht];omega;cases h
 unfold fe at h;split at h;unfold bG at h;split at h;split at h;exact ou;cases h;exact push _ _ h rfl;split at h;injection h with h;subst h;omega;split at h;unfold XI at h;split at h;split at h;exact push _ _ h rfl;cases h;cases h;split at h;unfold Uq at h;split at h;split at h;exact ou;cases h;cases h;split at h;unfold Wu at h;split at h;exact ou;cases h;split at h;unfold YH at h;split at h;split at h;exact ou;cases h;cases h;split at h;unfold Vx at h;split at h;exact ou;cases h;split at h;unfold NM at h;split at h;exact push _ _ h rfl;exact push _ _ h rfl;split at h;unfold RF at h;split at h;exact ou;cases h;split at h;cases h;split at h;unfold YE at h;split at h;split at h;exact push _ _ h rfl;cases h;cases h;cases h
theorem jw.exit{Q:Vc}{e:Env}{H:Heap}{id:Nat}(h:Q (.exit id) e H):jw Q (.exit id) e H:=h
attribute [local irreducible] Cj Kg Gw Ko
theorem uV(b:Nat)(d:LV):Ko (KC B0 w0) 67 [ptr b 0] .returning [(b,.cells 30 [d])]
  (λu H=>u=.returning/\H=[(b,.cells 30 [d])]):=by
 refine Ko.intro Tryz.func67 rfl (n:=14) rfl rfl rfl ?_;refine xz ?_;refine Yd ?_;refine qa (sk.Pure.Yr qtK rfl)<|Ra ?_;refine oS (Sd λb5=>?_);refine xa ?_;refine Oa (λhc=>?_) λhc=>?_;cases hc;refine xa ?_;refine Oa (λhc=>?_) λhc=>?_;cases hc;refine Aa ?_;exact⟨rfl,_,Yg ob,rfl,rfl⟩
theorem qV(b:Nat)(d:LV):Ko (KC B0 w0) 67 [ptr b 0] (.panicking vy) [(b,.cells 30 [d])]
  (λu H=>settle u=.returning/\H=[(b,.cells 30 [int .i64 12])]):=by
 refine Ko.intro Tryz.func67 rfl (n:=14) rfl rfl rfl ?_;refine xz ?_;refine Yd ?_;refine qa (Pure.tq (vs:=[]) rfl)<|Ra ?_;refine oS (Sd λb5=>?_);refine xa ?_;refine Oa (λhc=>?_) λhc=>?_;refine xa ?_;exact⟨rfl,_,Fc pH sd,rfl,rfl⟩;cases hc
def yU(k:MK)(st:Nat)(o:Wd)(H:Heap):Prop:=∃ s stop,s.out=o/\sz k s st stop H
theorem DN(k:MK){Ca:Nat}(Kc:Gl s)(eM:s.digit=true->s.data≠[])(gk:st<=Ca)(uH:Ca<=100000000)(zg:s.out.length<=st)(h:sz k s st false H) :
  ca (KC B0 w0) 32 [ptr k.mb 0,int .i64 (Ca:Nat)] H (λr H'=>yU k (st+(runM (Ca-st) s).2.2) (runM (Ca-st) s).2.1 H'/\r=.ret (int .i64 ((runM (Ca-st) s).1:Nat))):=by
 generalize hR:runM (Ca-st) s=R;refine ca.dx Tryz.func32 rfl (n:=59) rfl rfl rfl ?_;refine Bo ?_;refine Xe ?_;refine oS (Sd λb4=>?_);refine Ad ?_;refine sw ?_;refine Cj.defer rfl rfl ?_;refine Es ?_;refine Kg.seq ?_;refine Kg.block ?_;refine Kg.UR (λkk ls H'=>∃ (i:Nat) (s1:MS) (H1:Heap),i<=Ca/\st<=i/\kk=Ca-i/\ls=[(0,ptr k.mb 0),(1,int .i64 (Ca:Nat)),(4,ptr b4 0)]/\H'=(b4,.cells 30 [int .i64 0])::H1/\sz k s1 i false H1/\Gl s1/\(s1.digit=true->s1.data≠[])/\s1.out.length<=i/\(runM (Ca-i) s1).1=R.1/\(runM (Ca-i) s1).2.1=R.2.1/\i+(runM (Ca-i) s1).2.2=st+R.2.2)
  ⟨_,_,_,⟨st,s,H,gk,Pb _,rfl,rfl,rfl,h,Kc,eM,zg,by rw[hR],by rw[hR],by rw[hR]⟩,Kb,bc _⟩ ?_
 rintro kk ls H' ⟨i,s1,H1,hi,EB,rfl,rfl,rfl,hS,ux,kT,aaa,e1,e2,e3⟩ j hj;obtain⟨vc,HC,vo,HO,HD,hC,hO,hD,rfl⟩:=hS;have Oj:=hD;obtain⟨vd,uz,hm,rfl⟩:=hD;rw[cons_append];have aap:(k.mf s1 i false vc vo).st=i:=rfl;have aaq:(k.mf s1 i false vc vo).pc=s1.pc:=rfl;refine Bo ?_;refine xa ?_;refine Oa (λhc=>?_) λhc=>?_;rotate_left
 ·have hil:i=Ca:=by have:=zf hc;omega
  subst hil;rw[sub_self,runM] at e1 e2 e3;simp only at e1 e2 e3;refine kb.exit ?_;refine jw.exit ?_;refine Aa ?_;refine Kg.of ?_;refine xa ?_;first|refine jw.ret ?_|skip
  exact Jw.Ek (vs:=[int .i64 13]) (H2:=[(b4,.cells 30 [int .i64 13])]) hj dc (uV b4 _)
   (rC (pn.Ic rfl xc rfl ie) rN) (Yg ob) ⟨⟨s1,false,e2,by rw[<-e3,add_zero];exact⟨vc,HC,vo,HO,_,hC,hO,Oj,rfl⟩⟩,by rw[<-e1];rfl⟩
 have hil:i<Ca:=by have:=zt hc;omega
 have hn:Ca-i=(Ca-(i+1))+1:=by omega
 rw[hn,runM] at e1 e2 e3;refine kb.skip ?_;first|refine jw.normal ?_|skip
 refine Kg.block ?_;refine Bo ?_;refine xa ?_;first|refine jw.normal ?_|skip
 refine Kg.Yb (H':=(b4,.cells 30 [int .i64 0])::(k.mb,.cells 84 ((k.mf s1 (i+1) false vc vo).cells vd))::(uz++(k.kh s1.mem::k.mh::(HC++HO)))) ⟨[],by rw[ue];exact yq _ _ _⟩ ?_;have F6:sz k s1 (i+1) false (((k.mb,.cells 84 ((k.mf s1 (i+1) false vc vo).cells vd))::uz)++(k.kh s1.mem::k.mh::(HC++HO))):=⟨vc,HC,vo,HO,_,hC,hO,⟨vd,uz,hm,rfl⟩,rfl⟩;have aac:(k.mf s1 (i+1) false vc vo).pc=s1.pc:=rfl;refine sw ?_;refine Cj.step (S.check rfl (λhb=>?_) λhb=>?_) rfl;rotate_left
 ·have ir:¬ s1.pc<262144:=by have:=zf hb;omega
  have hs:Za s1=.stop 12 s1.out:=by unfold Za;rw[zn ir];rfl
  rw[hs] at e1 e2 e3;simp only at e1 e2 e3;refine Zd ?_;exact Jw.Zs (H1:=[(b4,.cells 30 [int .i64 0])]) (vs:=[int .i64 12]) (H2:=[(b4,.cells 30 [int .i64 12])]) hj dc (qV b4 _)
   (rC (pn.Ic rfl xc rfl ie) rN) (Yg ob) ⟨⟨s1,false,e2,by rw[<-e3];exact F6⟩,by rw[<-e1];rfl⟩
 have ir:s1.pc<262144:=by have:=zt hb;omega
 refine Es ?_;refine Bo ?_;refine Tq ?_;refine qP (Pure.cg (o:=s1.pc) rfl rfl zo zo zo) rfl ?_;refine qP (pL (c:=u32 (s1.mem s1.pc)) rfl (pd (pd (mem_append_right _ xc))) (VQ _ ir)) rfl ?_;refine Ra ?_;first|refine jw.normal ?_|skip
 refine Bo ?_;refine xa ?_;refine qa (Pure.CE rfl rfl)<|Aa ?_;have hw:IntKind.u32.wrap ((s1.pc:Int)+1)=((s1.pc+1:Nat):Int):=by rw[Vq];omega
 refine oS (sS (n:=1) (vs:=[u32 (s1.pc+1)]) (Zb:=[_,_,_,_,_,_,_,_,_,_]) rfl Vd (by show some [int .u32 _]=some [int .u32 _];rw[<-hw]) rfl rfl rfl rfl ?_);refine Ad ?_;first|refine jw.normal ?_|skip
 generalize It:s1.mem s1.pc=c at *;have cf:c<4294967296:=by rw[<-It];exact ux.mem _
 have oH:Gl { s1 with pc:=s1.pc+1 }:=⟨ux.mem,by show s1.pc+1<_;omega,ux.data,ux.calls,ux.Ia,ux.LA,ux.deep⟩;have hex:=qtl (B0:=B0) (w0:=w0) k (s:={ s1 with pc:=s1.pc+1 }) (st:=i+1) (c:=c) oH cf kT (by show s1.out.length<=_;omega) (H:=((k.mb,.cells 84 ((k.mf { s1 with pc:=s1.pc+1 } (i+1) false vc vo).cells vd))::uz)++(k.kh s1.mem::k.mh::(HC++HO))) ⟨vc,HC,vo,HO,_,hC,hO,⟨vd,uz,hm,rfl⟩,rfl⟩;refine sw ?_;refine Cj.step (S.Uc (F:=[(b4,.cells 30 [int .i64 0])]) [_,_] rfl (au _ (List.perm_append_singleton _ _).symm) hex ?_ ?_) rfl
 ·intro v H2 hP
  cases hx:fe c { s1 with pc:=s1.pc+1 } with
  |run s2=>
   rw[hx] at hP;obtain⟨hv,JO⟩:=hP;cases hv;have hs:Za s1=.run { s2 with digit:=Io c }:=by unfold Za;rw[zp ir,It,hx]
   rw[hs] at e1 e2 e3;simp only at e1 e2 e3;have sx:=qAU oH cf hx;have ma:=qzw hx;have jT:Io c=true->s2.data≠[]:=qz3 hx;have rm:s2.out.length<=i+1:=by have:s2.out.length<=s1.out.length+1:=ma;omega
   obtain⟨GP,wU,FP,vU,tz,MX,hO2,mj,rfl⟩:=JO;obtain⟨ru,Xm,dw,rfl⟩:=mj;refine Es ?_;refine Kg.Yb (H':=(b4,.cells 30 [int .i64 0])::(k.mb,.cells 84 ((k.mf s2 (i+1) false GP FP).cells ru))::(Xm++(k.kh s2.mem::k.mh::(wU++vU)))) ⟨[],by rw[ue];exact Lh⟩ ?_;refine Kg.of ?_;refine xa ?_;refine oC rfl (λhc=>by cases hc) λ_=>?_;refine xa ?_;have fin:∀ (dg:Bool),Io c=dg->sz k { s2 with digit:=dg } (i+1) false (((k.mb,.cells 84 ((k.mf { s2 with digit:=dg } (i+1) false GP FP).cells ru))::Xm)++(k.kh s2.mem::k.mh::(wU++vU)))/\Gl { s2 with digit:=dg }/\(dg=true->s2.data≠[]):=λdg hd=>⟨⟨GP,wU,FP,vU,_,MX,hO2,⟨ru,Xm,dw,rfl⟩,rfl⟩,⟨sx.mem,sx.pc,sx.data,sx.calls,sx.Ia,sx.LA,sx.deep⟩,λh=>jT (hd.trans h)⟩;refine oB 53 rfl (λh=>?_) λh=>?_
   ·have Qq:Io c=decide ((c:Int)<=57):=by
     have:=zt h;unfold Io;rw[Dg (by omega:48<=c),Bool.true_and,decide_eq_decide];omega
    obtain⟨f1,f2,f3⟩:=fin _ Qq;rw[Qq] at e1 e2 e3;refine Ra ?_;first|refine jw.norm ?_|skip
    first|refine pf.normal ?_|skip
    first|refine qN ?_|skip
    exact⟨Ca-(i+1),_,_,by omega,⟨i+1,_,_,by omega,by omega,rfl,rfl,rfl,f1,f2,f3,rm,e1,e2,by omega⟩,Kb,⟨[],by rw[ue];exact yq _ _ _⟩,hj⟩
   have Qq:Io c=false:=by have:=zf h;unfold Io;rw[decide_eq_false (by omega:¬ 48<=c)];rfl
   obtain⟨f1,f2,f3⟩:=fin _ Qq;rw[Qq] at e1 e2 e3;refine Ra ?_;first|refine jw.norm ?_|skip
   first|refine pf.normal ?_|skip
   first|refine qN ?_|skip
   exact⟨Ca-(i+1),_,_,by omega,⟨i+1,_,_,by omega,by omega,rfl,rfl,rfl,f1,f2,f3,rm,e1,e2,by omega⟩,Kb,⟨[],by rw[ue];exact yq _ _ _⟩,hj⟩
  |stop er o=>
   rw[hx] at hP;obtain⟨s2,ho,hP⟩:=hP;by_cases he:er=0;rotate_left;rw[zn he] at hP;obtain⟨_,hv,_⟩:=hP;cases hv;rw[zp he] at hP;obtain⟨hv,JO⟩:=hP;cases hv;subst he;have hs:Za s1=.stop 0 o:=by unfold Za;rw[zp ir,It,hx]
   rw[hs] at e1 e2 e3;simp only at e1 e2 e3;have mq:yU k (st+R.2.2) R.2.1 H2:=⟨s2,true,ho.trans e2,by rw[<-e3];exact JO⟩;obtain⟨GP,wU,FP,vU,tz,MX,hO2,mj,rfl⟩:=JO;obtain⟨ru,Xm,dw,rfl⟩:=mj;refine Es ?_;refine Kg.Yb (H':=(b4,.cells 30 [int .i64 0])::(k.mb,.cells 84 ((k.mf s2 (i+1) true GP FP).cells ru))::(Xm++(k.kh s2.mem::k.mh::(wU++vU)))) ⟨[],by rw[ue];exact Lh⟩ ?_;refine Kg.of ?_;refine xa ?_;refine oC rfl (λ_=>?_) (λhc=>by cases hc);refine xa ?_;first|refine jw.ret ?_|skip
   first|refine Ie.ret ?_|skip
   first|refine pf.ret ?_|skip
   first|refine Ie.ret ?_|skip
   first|refine pf.ret ?_|skip
   first|refine Ie.ret ?_|skip
   exact Jw.Ek (vs:=[int .i64 0]) (H2:=[(b4,.cells 30 [int .i64 0])]) hj dc (uV b4 _)
    (rC (pn.Ic rfl xc rfl ie) rN) (Yg ob) ⟨mq,by rw[<-e1];rfl⟩
 intro ch H2 hP;cases hx:fe c { s1 with pc:=s1.pc+1 } with
 |run s2=>rw[hx] at hP;obtain⟨hv,_⟩:=hP;cases hv
 |stop er o=>
  rw[hx] at hP;obtain⟨s2,ho,hP⟩:=hP;by_cases he:er=0;rw[zp he] at hP;obtain⟨hv,_⟩:=hP;cases hv;rw[zn he] at hP;obtain⟨h12,hv,JO⟩:=hP;cases hv;subst h12;have hs:Za s1=.stop 12 o:=by unfold Za;rw[zp ir,It,hx]
  rw[hs] at e1 e2 e3;simp only at e1 e2 e3;refine Zd ?_;exact Jw.Zs (H1:=[(b4,.cells 30 [int .i64 0])]) (vs:=[int .i64 12]) (H2:=[(b4,.cells 30 [int .i64 12])]) hj Lh (qV b4 _)
   (rC (pn.Ic rfl xc rfl ie) rN) (Yg ob) ⟨⟨s2,false,ho.trans e2,by rw[<-e3];exact JO⟩,by rw[<-e1];rfl⟩
def TU(og:Nat)(code:Wd):LV:=.agg [int .i64 (og:Nat),str code]
def dQ(r:Nat×Wd×Nat):LV:=.agg [str r.2.1,int .i64 (r.1:Nat),int .i64 (r.2.2:Nat)]
theorem qub{code:Wd}{n:Nat}(h:n<code.length):(λi=>if i=og+n then (code[n]).toNat else bu (code.take n) og i)=bu (code.take (n+1)) og:=by funext i;unfold bu;rw[List.getElem?_take,List.getElem?_take];by_cases h1:i=og+n;subst h1;rw[zp rfl,zp zo,show og+n-og=n by omega,zp zo,Yh h];rw[zn h1];by_cases h2:og<=i;rw[zp h2,zp h2];by_cases h3:i-og<n;rw[zp h3,zp zo];rw[zn h3,zn zo];rw[zn h2,zn h2]
theorem qtV(og:Nat):bu [] og=λ_=>0:=by funext i;unfold bu;split;rw[List.getElem?_nil];rfl
theorem qwA(code:Wd){Ia:List Nat}(h:og<262144)(hi:∀ v∈Ia,v<4294967296):Gl (Ew code og Ia):=
 ⟨λi=>qAg code og i,by show og<_;omega,λv hv=>(not_mem_nil hv).elim,λv hv=>(not_mem_nil hv).elim,hi,by show 0<=_;omega,by show 0<=_;omega⟩
@[reducible] def Bq(k:MK)(og:Nat)(Ia:List Nat):Nat×ja:=(k.mb,.cells 84 ((k.mf (Ew [] og Ia) 0 false (.slice none 0 0) fc).cells (.slice none 0 0)))
@[reducible] def qL(b:Nat):Nat×ja:=(b,.cells 34 [str [],int .i64 0,int .i64 0])
theorem qoh{code:Wd}{Ia:List Nat}{steps:Nat}(ES:og+code.length<=262144)(X6:og<262144)(Og:∀ v∈Ia,v<4294967296)(kH:0<steps)(bF:steps<=100000000) :
  ca (KC B0 w0) 15 [.list [TU og code],int .i64 (og:Nat),.list (us Ia),int .i64 (steps:Nat)] [] (Ub (dQ (runM steps (Ew code og Ia)))):=by
 have eX:TU og code=.agg [int .i64 (og:Nat),str code]:=rfl;rw[eX];refine jb Tryz.func15 rfl (n:=106) rfl rfl rfl ?_;refine Xe ?_;refine oS (Sd λb8=>?_);refine xa ?_;refine oL (λkk ls H'=>∃ i:Nat,i<=1/\kk=1-i/\ls=[(0,.list [.agg [int .i64 (og:Nat),str code]]),(1,int .i64 (og:Nat)),(2,.list (us Ia)),(3,int .i64 (steps:Nat)),(8,ptr b8 0),(9,bool true),(23,.list [.agg [int .i64 (og:Nat),str code]]),(24,int .i64 1),(25,int .i64 (i:Nat))]/\H'=[qL b8])
  ⟨_,_,_,⟨0,by omega,rfl,rfl,rfl⟩,⟨rfl,rfl,rfl,rfl,rfl,Re (Dg zo),rfl,rfl,rfl,trivial⟩,bc _⟩ ?_
 rintro kk ls H' ⟨i,hi,rfl,rfl,rfl⟩ j hj;refine wh ?_;refine Oa (λhc=>?_) λhc=>?_;obtain rfl:i=0:=by have:=zt hc;omega
 refine Zi ?_;refine qa (xR (Ud:=.agg [int .i64 (og:Nat),str code]) (cs:=[_,_]) rfl rfl ea rfl rfl rfl)<|Ra ?_;refine oS (Sd λb11=>?_);refine xa ?_;exact⟨_,_,_,by omega,⟨1,by omega,rfl,rfl,rfl⟩,⟨rfl,rfl,rfl,rfl,rfl,Re (Dg zo),rfl,rfl,rfl,trivial⟩,Yg ob,hj⟩;obtain rfl:i=1:=by have:=zf hc;omega
 clear hc hi;refine xa ?_;refine oC rfl (λhc=>by cases hc) λ_=>?_;refine xa ?_;refine Oa (λhc=>?_) λ_=>?_;have:=zt hc;omega;refine xa ?_;refine Oa (λhc=>?_) λ_=>?_;have:=zt hc;omega
 have hwo:IntKind.u32.wrap (og:Int)=(og:Int):=by rw[Vq];omega
 refine Aa ?_;refine cM (A:=MK) (λk=>[(0,.list [.agg [int .i64 (og:Nat),str code]]),(3,int .i64 (steps:Nat)),(8,ptr b8 0),(12,ptr k.mb 0)]) (λk=>[Bq k og Ia,k.kh λ_=>0,k.mh,qL b8]) (λ_=>True) ?_ λk _ j2 Gc=>?_;refine cD (m:=8) rfl []<|aT 1 rfl rfl (Cc (lv:=.atom _) rfl)<|aT 2 rfl rfl (Pure.nE rfl)<|aT 3 rfl rfl (Cc (lv:=.list _) rfl) ?_;rw[hwo];refine aL ?_ sd;refine wq (i:=0) (j:=4) zk ?_ ?_;refine lW rfl (.inl rfl) rfl (S.dt (n:=262144) rfl rfl ea ea λmm=>?_);rw[qng];refine Ck (i:=4) zk ?_;refine lW rfl (.inl rfl) rfl (S.Uc (H1:=[]) [] rfl dc qhE ?_ (by rintro ch H' ⟨_,h,_⟩;cases h));rintro lv H' ⟨bm,h,rfl⟩;cases h;exact cP;refine lW rfl (.inl rfl) rfl (S.Uc (H1:=[]) [] rfl dc qhE ?_ (by rintro ch H' ⟨_,h,_⟩;cases h));rintro lv H' ⟨bm,h,rfl⟩;cases h;refine Ck (i:=0) zk ?_;refine lW rfl (.inl rfl) rfl (S.dt (n:=262144) rfl rfl ea ea λmm=>?_);rw[qng];exact cP;have tj:j2.ds=[]:=Gc.trans hj;refine wa ?_
 refine oL (λkk ls H'=>∃ i:Nat,i<=1/\kk=1-i/\ls=[(3,int .i64 (steps:Nat)),(8,ptr b8 0),(12,ptr k.mb 0),(64,.list [.agg [int .i64 (og:Nat),str code]]),(65,int .i64 1),(66,int .i64 (i:Nat))]/\H'=[Bq k og Ia,k.kh (bu (code.take (i * code.length)) og),k.mh,qL b8])
  ⟨_,_,_,⟨0,by omega,rfl,rfl,rfl⟩,Kb,by rw[Nat.zero_mul,take_zero,qtV];exact bc _⟩ ?_
 rintro kk ls H' ⟨i,hi,rfl,rfl,rfl⟩ j3 Uo;refine wh ?_;refine Oa (λhc=>?_) λhc=>?_;obtain rfl:i=0:=by have:=zt hc;omega
 refine Zi ?_;refine qa (xR (Ud:=.agg [int .i64 (og:Nat),str code]) (cs:=[_,_]) rfl rfl ea rfl rfl rfl)<|Ra ?_;refine oS (Sd λQO=>?_);refine xa ?_;refine oL (λkk ls H'=>∃ n:Nat,n<=code.length/\kk=code.length-n/\ls=[(3,int .i64 (steps:Nat)),(8,ptr b8 0),(12,ptr k.mb 0),(14,ptr QO 0),(64,.list [.agg [int .i64 (og:Nat),str code]]),(65,int .i64 1),(66,int .i64 0),(72,int .i64 code.length),(73,int .i64 (n:Nat))]/\H'=[Bq k og Ia,(QO,.cells 52 [int .i64 (og:Nat),str code]),k.kh (bu (code.take n) og),k.mh,qL b8])
  ⟨_,_,_,⟨0,zero_le _,rfl,rfl,rfl⟩,Kb,by rw[Nat.zero_mul];exact Fc Vd ob⟩ ?_
 rintro kk ls H' ⟨n,hn,rfl,rfl,rfl⟩ j4 KD;refine wh ?_;refine Oa (λhd=>?_) λhd=>?_;have Ka:n<code.length:=by have:=zt hd;omega
 have lq:code[((n:Nat):Int).toNat]? = some code[n]:=by rw[Int.toNat_natCast,Yh Ka]
 have FB:=qub (og:=og) Ka;generalize code[n]=ch at lq FB;have u6:IntKind.u32.wrap ((ch.toNat:Nat):Int)=((ch.toNat:Nat):Int):=by rw[Vq];have:=ch.toNat_lt;omega
 refine wa ?_;refine cD (m:=15) rfl [Bq k og Ia,(QO,ja.cells 52 [int .i64 (og:Nat),str code])]<|JM ?_;refine aT 3 rfl rfl (pL (c:=.atom _) rfl xc rfl)<|aT 4 rfl rfl (pF rfl)<|aT 5 rfl rfl (pL (c:=.atom _) rfl Xh rfl)<|aT 6 rfl rfl (Cc (lv:=.atom _) rfl)<|aT 7 rfl rfl (Pure.add rfl rfl zo)<|aT 8 rfl rfl (pF rfl)<|aT 9 rfl rfl (pL (c:=.atom _) rfl Xh rfl)<|aT 10 rfl rfl (Cc (lv:=.atom _) rfl)<|aT 11 rfl rfl (pI (c:=ch) rfl rfl zo lq)<|aT 12 rfl rfl (Pure.nE rfl)<|aT 13 rfl rfl (Pure.cg (o:=og+n) rfl rfl zo zo zo)<|aL ?_ ⟨_,List.Perm.refl _⟩;refine Ck (i:=14) zk ?_;refine lS (H1:=[k.kh (bu (code.take n) og)]) (F:=[Bq k og Ia,(QO,ja.cells 52 [int .i64 (og:Nat),str code]),k.mh,qL b8]) rfl (.inl rfl) rfl Hl ⟨_,List.Perm.refl _⟩ ?_;refine sS (n:=1) (vs:=[u32 ch.toNat]) (Zb:=dm (bu (code.take (n+1)) og)) rfl pH (congrArg (λz=>some [int .u32 z]) u6) rfl (by rw[ble_eq,UQ];omega) rfl (by rw[<-FB];exact WZ _ _ _) ?_;refine lD zk ?_;refine zm ?_;exact⟨code.length-(n+1),_,_,by omega,⟨n+1,by omega,rfl,rfl,rfl⟩,Kb,Fc Vd (Fc Vd ob),KD⟩;obtain rfl:n=code.length:=by have:=zf hd;omega
 refine wa ?_;exact⟨0,_,_,by omega,⟨1,by omega,rfl,rfl,rfl⟩,Kb,by rw[Nat.one_mul];exact Fc pH (Yg ob),KD.trans Uo⟩;obtain rfl:i=1:=by have:=zf hc;omega
 rw[Nat.one_mul,take_length];have hS:sz k (Ew code og Ia) 0 false [Bq k og Ia,k.kh (bu code og),k.mh]:=⟨.slice none 0 0,[],fc,[],[Bq k og Ia],Lf.nil,Acc.nil,⟨.slice none 0 0,[],Lf.nil,rfl⟩,rfl⟩;have Cf:=DN (B0:=B0) (w0:=w0) k (qwA code X6 Og) (λh=>by cases h) (zero_le steps) bF (Pb 0) hS;rw[Nat.sub_zero] at Cf;generalize runM steps (Ew code og Ia)=R at Cf ⊢;rw[Nat.zero_add] at Cf;refine wa ?_;refine oS (S.Uc (H1:=[Bq k og Ia,k.kh (bu code og),k.mh]) (F:=[qL b8]) [_,_] rfl dc Cf ?_ (by rintro ch H' ⟨_,h⟩;cases h));rintro v H' ⟨hE,hv⟩;cases hv;obtain⟨s2,stop,ho,vc,HC,vo,HO,HD,hC,hO,hD,rfl⟩:=hE;obtain⟨vd,uz,hm,rfl⟩:=hD;refine Ea.Yb (H':=qL b8::(k.mb,.cells 84 ((k.mf s2 R.2.2 stop vc vo).cells vd))::(uz++(k.kh s2.mem::k.mh::(HC++HO)))) ⟨[],by rw[ue];exact Lh⟩ ?_;refine Aa ?_;refine kb.tail 11 zk ?_;refine Ra ?_;refine lP (pL (c:=vo) rfl Xh rfl) rfl ?_;refine lP (Pure.Xr (l:=s2.out) (by exact hO.elems)) rfl ?_;refine Ra ?_;exact qb (Uo.trans tj) (rC (rA (k:=3) rfl xc rfl ie) rN) (by rw[ho];rfl)
end Go.Proofs.Y.XX
namespace Go.Proofs.Y.TO
open Go.GL Go.RowKit Go.ia
open Go.Lib (decDigits itoa join)
attribute [local irreducible] Ea kb ab ca Go.GL.Pure Ie pf ke LQ Rb oi Nj LS
variable{B0:Nat}{w0:World}
theorem qlM(hG:GW B0 w0)(hM:As.GM w0){p:Pr}{n:Nat}(h:OH p n)(hn:n<=2000000)(o:il)(o1:fy o.code)(o2:fy o.scalars)(o3:fy o.ba):ca (KC B0 w0) 28 [Cw p,BC o] [] (Ub (OM (Uk p.vars (vf p) p.funcs o))):=by
 rw[nj.Cv];exact qnH hG hM _ _ _ o (Xf h.vars hn) (by rw[Mb];exact Xf h.ba hn) (λa ha=>by
  obtain⟨x,hx,rfl⟩:=Ni ha;have:=h.size x hx;constructor;show(-9223372036854775808:Int)<=(x.size:Int);omega;show(x.size:Int)<9223372036854775808;omega) (Xf h.funcs hn) h.jA o1 o2 o3
def Yo:il:=⟨10000,0,100000⟩
theorem L4:ca (KC B0 w0) 14 [] [] (Ub (BC Yo)):=by refine jb Tryz.func14 rfl (n:=2) rfl rfl rfl ?_;refine Xe ?_;refine oS (Sd λb=>?_);refine xa ?_;exact qb rfl (rC (rA rfl xc rfl ie) rN) rfl
