import Derived.Lib.SplitLaws
import Derived.Shelf.Strings.SlTrimAscii
import Derived.Test.YtmnjklgnhpnckaaGreatDoorBRowLB10
set_option linter.unusedVariables false
set_option linter.unusedSimpArgs false
set_option maxRecDepth 100000
set_option maxHeartbeats 4000000
open Go.GL (zk)
open List (map_map all_reverse take_length getElem_mem drop_length foldl_cons)
open Nat (max_zero zero_le)
open Option (getD_some)
namespace Go.Proofs.YtmnjklgnhpnckaaGreatDoor.Ti
open Go.GL Go.RowKit Go.ea
variable{A B H':Heap}{c:gb}{fb Ka:List Sm}{err:Int}{index value:List Ex}{lv:LV}{name:List UInt8}{rs:List ResultVar}
structure KB where
 cb:Nat
 gm:Nat
 vm:Nat
 am:Nat
 fm:Nat
 om:Nat
 G:KV
 V:KV
 A:KV
 F:KV
 O:KV
 g1:Nat
 g2:Nat
 g3:Nat
 g4:Nat
 g5:Nat
 name:List UInt8
def TI(f:Nd):LV:=.agg [int .i64 (f.params:Int),int .i64 (f.need:Int),int .i64 (f.depth:Int)]
structure nz(k:KB)(c:gb):Prop where
 G:Sn k.G c.globals
 V:Sn k.V c.vars
 A:Sn k.A c.ba
 O:Sn k.O c.own
 F:∀ n,GL.db k.F n=(c.fn n).map TI
def Ef(k:KB)(d:Nat):Heap:=[(k.cb,.cells 115 [.atom (.map (some k.gm)),.atom (.map (some k.vm)),.atom (.map (some k.am)),.atom (.map (some k.fm)),str k.name,.atom (.map (some k.om)),int .i64 (d:Int)]),(k.gm,.map (ye k.G) k.g1),(k.vm,.map (ye k.V) k.g2),(k.am,.map (ye k.A) k.g3),(k.fm,.map (ye k.F) k.g4),(k.om,.map (ye k.O) k.g5)]
def ly(err:Int)(lv:LV)(H':Heap)(r:re)(H:Heap):Prop:=(err=0/\r=.ret lv/\H=H')∨(err≠0/\(∃ nm,r=.panic (LD nm err))/\H=[])
section
variable{C:Ctx}{n:Nat}{e:Env}{H:Heap}{dst:Option Nat}{ty:TypeId}{pos:String}{ka:Array Edge}{g:Option (Nat×Bool)}{K:LV->Heap->Prop}{X:List PanicEntry->Heap->Prop}
theorem sK{H1 F:Heap}{f:FuncId} [Gb C.P f](args:List Operand){yg:Array TypeId}{av:List LV}(has:args.map e.ev=av)(hp:H.Perm (H1++F))
  (hc:ca C f av H1 (ly err lv H')) (hk:err=0->K lv (H'++F)) (hx:∀ nm,err≠0->X (LD nm err) F):Ra C ⟨dst,.call { callee:=.value (.func f),args:=args.toArray,argTypes:=yg },ty,pos,ka,g⟩ e H K X:=by
 refine S.Ec args has hp hc ?_ ?_;rintro v H2 (⟨h1,h2,rfl⟩|⟨_,⟨nm,h2⟩,_⟩);cases h2;exact hk h1;cases h2;rintro ch H2 (⟨_,h2,_⟩|⟨h1,⟨nm,h2⟩,rfl⟩);cases h2;cases h2;exact hx nm h1
theorem Ra.Al{f:FuncId} [Gb C.P f](args:List Operand){yg:Array TypeId}{av:List LV}(has:args.map e.ev=av)
  (hc:ca C f av H (ly err lv H')) (hk:err=0->K lv H') (hx:∀ nm,err≠0->X (LD nm err) []):Ra C ⟨dst,.call { callee:=.value (.func f),args:=args.toArray,argTypes:=yg },ty,pos,ka,g⟩ e H K X:=by
 refine Ra.Oc (sK (F:=[]) (K:=λlv H'=>K lv H') (X:=X) args has (by rw[Jd]) hc (λh=>by rw[Jd];exact hk h) hx) λlv H' h=>⟨lv,H',vR _,Tb _,h⟩
theorem Ul{vs:List LV}(hd:e.ds=[])(h:Zl C n e H rs vs)(he:err=0)(hv:qh vs=lv)(hH:HSub H' H):od C n rs (ly err lv H') .ret e H:=
 rR hd h hH (.inl ⟨he,by rw[hv],rfl⟩)
theorem RW{vs:List LV}(hd:e.ds=[])(h:Zl C n e H rs vs)(he:err=0)(hv:qh vs=lv)(hH:HSub H' H):od C n rs (ly err lv H') .normal e H:=
 rO hd h hH (.inl ⟨he,by rw[hv],rfl⟩)
theorem Af{er:Int}{nm:List UInt8}(hd:e.ds=[])(he:err=er)(h0:er≠0):od C n rs (ly err lv H') (.panic (LD nm er)) e H:=
 od.panic hd Vc (.inr ⟨by rw[he];exact h0,⟨nm,by rw[he]⟩,rfl⟩)
end
attribute [local irreducible] wa Qa Ra ca Go.GL.Pure Ud xe od LQ Eb Tf Rh LS
variable{B0:Nat}{w0:World}
theorem Cg(b:Bool)(nm:List UInt8)(er:Int)(h0:er≠0):ca (KC B0 w0) 83 [bool b,str nm,int .i64 er] [] (ly (if b=true then 0 else er) (.tuple []) []):=
 ca.mono (qn0 b nm er) λr H ⟨h1,h2⟩=>by
  cases b with
  |true=>exact .inl ⟨rfl,h2,h1⟩
  |false=>exact .inr ⟨h0,⟨nm,h2⟩,h1⟩
theorem gM{k:KB}(hk:nz k c)(d:Nat)(name:List UInt8):ca (KC B0 w0) 230 [ptr k.cb 0,str name] (Ef k d) (ly (Vr c name) (.tuple []) (Ef k d)):=by generalize hI:Vr c name=E;unfold Vr at hI;refine Xa Tryz.func230 rfl (n:=34) rfl rfl rfl ?_;refine oa ?_;refine ia (Pure.lg rfl rfl Vz hk.V) ?_;have both:∀ {e:Env} {Q:uc} {ops:Array Oper} {rest:List Oper} {n:Nat},True:=λ{_ _ _ _ _}=>trivial;refine oB 10 rfl (λh1=>?_) λh1=>?_;have fg:name∈c.vars∨name∈c.own:=.inl (zt h1);refine oa ?_;refine oS (sK (H1:=[]) (F:=Ef k d) [_,_,_] rfl Kb (Cg true name 10 da) (λ_=>?_) λnm h=>absurd rfl h);refine Xh ?_;refine oS (sK (H1:=[]) (F:=Ef k d) [_,_,_] rfl Kb (Cg true name 7 da) (λ_=>?_) λnm h=>absurd rfl h);refine Qc ?_;exact RW rfl rN (by rw[<-hI,zp fg]) rfl Ya;have hv:name ∉ c.vars:=zf h1;refine qa ?_;refine ia (Pure.lg rfl rfl yS hk.O)<|oB 17 rfl (λh2=>?_) λh2=>?_;have fg:name∈c.vars∨name∈c.own:=.inr (zt h2);refine oa ?_;refine oS (sK (H1:=[]) (F:=Ef k d) [_,_,_] rfl Kb (Cg true name 10 da) (λ_=>?_) λnm h=>absurd rfl h);refine Xh ?_;refine oS (sK (H1:=[]) (F:=Ef k d) [_,_,_] rfl Kb (Cg true name 7 da) (λ_=>?_) λnm h=>absurd rfl h);refine Qc ?_;exact RW rfl rN (by rw[<-hI,zp fg]) rfl Ya;have ho:name ∉ c.own:=zf h2;rw[zn (λh=>h.elim hv ho)] at hI;refine oa ?_;refine ia (Pure.lg rfl rfl xf hk.G)<|oB 26 rfl (λh3=>?_) λh3=>?_;rw[zp (zt h3)] at hI;refine Ga ?_;refine oS (sK (H1:=[]) (F:=Ef k d) [_,_,_] rfl Kb (Cg false name 10 da) (λh=>absurd h da) λnm _ e' Aa=>?_);refine oi ?_;exact Af (Aa.trans rfl) (by rw[<-hI];rfl) da;rw[zn (zf h3)] at hI;refine Ga ?_;refine oS (sK (H1:=[]) (F:=Ef k d) [_,_,_] rfl Kb (Cg true name 10 da) (λ_=>?_) λnm h=>absurd rfl h);refine Xh ?_;refine oS (sK (H1:=[]) (F:=Ef k d) [_,_,_] rfl Kb (Cg false name 7 da) (λh=>absurd h da) λnm _ e' Aa=>?_);exact Af (Aa.trans rfl) (by rw[<-hI];rfl) da
theorem UP{k:KB}(hk:nz k c)(d:Nat)(name:List UInt8):ca (KC B0 w0) 231 [ptr k.cb 0,str name] (Ef k d) (ly (qy c name) (.tuple []) (Ef k d)):=by generalize hI:qy c name=E;unfold qy at hI;refine Xa Tryz.func231 rfl (n:=35) rfl rfl rfl ?_;refine oa ?_;refine ia (Pure.lg rfl rfl dN hk.A)<|oB 10 rfl (λh1=>?_) λh1=>?_;refine ja ?_;refine oS (sK (H1:=[]) (F:=Ef k d) [_,_,_] rfl Kb (Cg true name 10 da) (λ_=>?_) λnm h=>absurd rfl h);refine Xh ?_;refine oS (sK (H1:=[]) (F:=Ef k d) [_,_,_] rfl Kb (Cg true name 7 da) (λ_=>?_) λnm h=>absurd rfl h);refine Qc ?_;exact RW rfl rN (by rw[<-hI,zp (zt h1)]) rfl Ya;rw[zn (zf h1)] at hI;refine oa ?_;refine ia (Pure.lg rfl rfl xf hk.G)<|oB 18 rfl (λh2=>?_) λh2=>?_;have fg:name∈c.globals∨name∈c.own:=.inl (zt h2);refine Ga ?_;refine oS (sK (H1:=[]) (F:=Ef k d) [_,_,_] rfl Kb (Cg false name 10 da) (λh=>absurd h da) λnm _ e' Aa=>?_);refine oi ?_;exact Af (Aa.trans rfl) (by rw[<-hI,zp fg];rfl) da;refine Ga ?_;refine ia (Pure.lg rfl rfl yS hk.O)<|oB 26 rfl (λh3=>?_) λh3=>?_;have fg:name∈c.globals∨name∈c.own:=.inr (zt h3);refine Ga ?_;refine oS (sK (H1:=[]) (F:=Ef k d) [_,_,_] rfl Kb (Cg false name 10 da) (λh=>absurd h da) λnm _ e' Aa=>?_);refine oi ?_;exact Af (Aa.trans rfl) (by rw[<-hI,zp fg];rfl) da;rw[zn (λh=>h.elim (zf h2) (zf h3))] at hI;refine Ga ?_;refine oS (sK (H1:=[]) (F:=Ef k d) [_,_,_] rfl Kb (Cg true name 10 da) (λ_=>?_) λnm h=>absurd rfl h);refine Xh ?_;refine oS (sK (H1:=[]) (F:=Ef k d) [_,_,_] rfl Kb (Cg false name 7 da) (λh=>absurd h da) λnm _ e' Aa=>?_);exact Af (Aa.trans rfl) (by rw[<-hI];rfl) da
@[reducible] def iv(n:Nat):LV:=int .i64 (n:Int)
theorem qsj{k:KB}(hk:nz k c){B D:Nat}(hB:Hs B D c.funcs)(AK:B<=100000000)(QB:D<=100000000)(d:Nat)(hd:d<=1000000000)(name:List UInt8)(ns:List Nat)(hl:ns.length<=2000000)(dK:∀ n∈ns,n<=1000000000) :
  ca (KC B0 w0) 259 [ptr k.cb 0,str name,.list (ns.map iv)] (Ef k d) (ly (yc c name ns.length) (iv (qz c name ns)) (Ef k (max d (pu c Of name)))):=by
 generalize hI:yc c name ns.length=E;generalize hN:qz c name ns=N;generalize Yi:pu c Of name=DD;unfold yc at hI;unfold qz at hN;unfold pu at Yi;have YC:(ns.map iv).length=ns.length:=ab _;refine Xa Tryz.func259 rfl (n:=110) rfl rfl rfl ?_;refine oa ?_;by_cases fg:name=[105,110];rw[zp fg] at hI hN;rw[zn (λh=>h.2.1 fg)] at Yi;subst Yi;refine oC rfl (λ_=>?_) λhc=>absurd fg (zf hc);refine ja ?_;refine oS (sK (H1:=[]) (F:=Ef k d) [_,_,_] rfl Kb (Cg (decide (((ns.map iv).length:Int)=0)) name 1 da) (λh=>?_) λnm h e' Aa=>?_)
 have h0:ns.length=0:=by by_cases h1:((ns.map iv).length:Int)=0;omega;rw[decide_eq_false h1] at h;cases h
 refine oa ?_;exact Ul rfl (Oa rfl) (by rw[<-hI,zp h0]) (by rw[<-hN];rfl) (by rw[max_zero];exact Tb _);have h0:¬ ns.length=0:=by intro h1;rw[Vg (show((ns.map iv).length:Int)=0 by omega)] at h;exact h rfl
 rw[show(if decide (((ns.map iv).length:Int)=0)=true then (0:Int) else 1)=1 by rw[zn];simp only[Mf];omega];refine qd ?_;exact Af (Aa.trans rfl) (by rw[<-hI,zn h0]) da;rw[zn fg] at hI hN;refine oC rfl (λhc=>absurd (zt hc) fg) λ_=>?_;refine Am ?_
 by_cases Me:name=[111,117,116];rw[zp Me] at hI hN;rw[zn (λh=>h.2.2 Me)] at Yi;subst Yi;refine oC rfl (λ_=>?_) λhc=>absurd Me (zf hc);refine ja ?_;refine oS (sK (H1:=[]) (F:=Ef k d) [_,_,_] rfl Kb (Cg (decide (((ns.map iv).length:Int)=1)) name 1 da) (λh=>?_) λnm h e' Aa=>?_)
 have h0:ns.length=1:=by by_cases h1:((ns.map iv).length:Int)=1;omega;rw[decide_eq_false h1] at h;cases h
 obtain⟨a,l,rfl⟩:∃ a l,ns=a::l:=by
  cases ns with
  |nil=>simp at h0
  |cons a l=>exact⟨a,l,rfl⟩
 refine oa ?_;refine ia (xR (ve:=iv a) (cs:=[iv a]) rfl rfl zo rfl rfl rfl)<|Ga ?_;exact Ul rfl (Oa rfl) (by rw[<-hI,zp h0]) (by rw[<-hN];rfl) (by rw[max_zero];exact Tb _);have h0:¬ ns.length=1:=by intro h1;rw[Vg (show((ns.map iv).length:Int)=1 by omega)] at h;exact h rfl
 rw[show(if decide (((ns.map iv).length:Int)=1)=true then (0:Int) else 1)=1 by rw[zn];simp only[Mf];omega];refine qd ?_;exact Af (Aa.trans rfl) (by rw[<-hI,zn h0]) da;rw[zn Me] at hI hN;rw[zp ⟨rfl,fg,Me⟩] at Yi;refine oC rfl (λhc=>absurd (zt hc) Me) λ_=>?_;refine oa ?_;have hF:=hk.F name
 cases Kc:c.fn name with
 |none=>
  rw[Kc] at hI hF;refine ia (Pure.jr rfl rfl cN hF)<|Ga ?_;refine oS (Rc λb7=>?_);refine ja ?_;refine ia (Pure.lg rfl rfl dN hk.V)<|oB 46 rfl (λh2=>?_) λh2=>?_;have Po:name∈c.vars∨name∈c.ba∨name∈c.own:=.inl (zt h2);refine Ga ?_;refine oS (sK (H1:=[]) (F:=_::Ef k d) [_,_,_] rfl Kb (Cg false name 10 da) (λh=>absurd h da) λnm _ e' Aa=>?_);refine oi ?_;exact Af (Aa.trans rfl) (by rw[<-hI];exact zp Po) da;refine Ga ?_;refine ia (Pure.lg rfl rfl cN hk.A)<|oB 54 rfl (λh3=>?_) λh3=>?_;have Po:name∈c.vars∨name∈c.ba∨name∈c.own:=.inr (.inl (zt h3));refine Ga ?_;refine oS (sK (H1:=[]) (F:=_::Ef k d) [_,_,_] rfl Kb (Cg false name 10 da) (λh=>absurd h da) λnm _ e' Aa=>?_);refine oi ?_;exact Af (Aa.trans rfl) (by rw[<-hI];exact zp Po) da;refine Ga ?_;refine ia (Pure.lg rfl rfl x7 hk.O)<|oB 63 rfl (λh4=>?_) λh4=>?_;have Po:name∈c.vars∨name∈c.ba∨name∈c.own:=.inr (.inr (zt h4));refine Ga ?_;refine oS (sK (H1:=[]) (F:=_::Ef k d) [_,_,_] rfl Kb (Cg false name 10 da) (λh=>absurd h da) λnm _ e' Aa=>?_);refine oi ?_;exact Af (Aa.trans rfl) (by rw[<-hI];exact zp Po) da;refine Ga ?_;refine oS (sK (H1:=[]) (F:=_::Ef k d) [_,_,_] rfl Kb (Cg true name 10 da) (λ_=>?_) λnm h=>absurd rfl h);refine Xh ?_;refine oS (sK (H1:=[]) (F:=_::Ef k d) [_,_,_] rfl Kb (Cg false name 7 da) (λh=>absurd h da) λnm _ e' Aa=>?_);refine oi ?_
  exact Af (Aa.trans rfl) (by rw[<-hI];exact zn λh=>h.elim (zf h2) λh=>h.elim (zf h3) (zf h4)) da
 |some f=>
  rw[Kc] at hI hF hN Yi;have P3:=hB f (List.mem_of_find?_eq_some Kc);refine ia (Pure.Lv rfl rfl cN hF)<|Ga ?_;refine oS (Rc λb7=>?_);refine ja ?_;refine oS (sK (H1:=[]) (F:=_::Ef k d) [_,_,_] rfl Kb (Cg true name 10 da) (λ_=>?_) λnm h=>absurd rfl h);refine Xh ?_;refine oS (sK (H1:=[]) (F:=_::Ef k d) [_,_,_] rfl Kb (Cg true name 7 da) (λ_=>?_) λnm h=>absurd rfl h);refine ja ?_
  by_cases h0:ns.length=f.params;rotate_left;have FK:¬ ((ns.map iv).length:Int)=(f.params:Int):=by omega
  refine oB 76 rfl (λh=>absurd (zt h) FK) λ_=>?_;refine oS (sK (H1:=[]) (F:=_::Ef k d) [_,_,_] rfl Kb (Cg false name 1 da) (λh=>absurd h da) λnm _ e' Aa=>?_);refine oi ?_;exact Af (Aa.trans rfl) (by rw[<-hI];exact zn h0) da;have FK:((ns.map iv).length:Int)=(f.params:Int):=by omega
  refine oB 76 rfl (λ_=>?_) λh=>absurd FK (zf h);have hI0:E=0:=by rw[<-hI];exact zp h0
  refine oS (sK (H1:=[]) (F:=_::Ef k d) [_,_,_] rfl Kb (Cg true name 1 da) (λ_=>?_) λnm h=>absurd rfl h);refine qa ?_;refine bj (m:=12) rfl [(b7,.cells 175 [iv f.params,iv f.need,iv f.depth])] ?_;refine nI ?_;refine aT 7 rfl rfl (Pure.add rfl rfl zo)<|aL ?_ Xc;refine lO 4 (lH rfl rfl (pL (c:=iv d) rfl xf rfl) ?_);refine lO 8 (lH rfl rfl (Pure.pj d (f.depth+1) rfl rfl zo zo) ?_);refine lO 9 (lH rfl rfl (pN rfl) ?_);refine lO 10 (lH rfl rfl (pF rfl) ?_);refine lO 11 (lS (H1:=[(k.cb,.cells 115 [.atom (.map (some k.gm)),.atom (.map (some k.vm)),.atom (.map (some k.am)),.atom (.map (some k.fm)),str k.name,.atom (.map (some k.om)),int .i64 (d:Int)])]) rfl (.inl rfl) rfl (show zd _ _ _ from fc pH) Xc (sS (n:=1) (Ab:=[_,_,_,_,_,_,iv (max d (f.depth+1))]) rfl pH rfl rfl rfl rfl rfl ?_));refine lD zk ?_;have nK:max d DD=max d (f.depth+1):=by rw[<-Yi]
  rw[nK];refine qN ?_;refine Qa.perm (H':=(b7,.cells 175 [iv f.params,iv f.need,iv f.depth])::Ef k (max d (f.depth+1))) (Vp _ _ _) ?_;refine oa ?_;refine ia (Pure.pj (f.params+1) f.need rfl rfl zo zo)<|ja ?_;refine oL (λkk ls H'=>∃ (pre l1:List Nat) (m:Nat),ns=pre++l1/\kk=l1.length/\ls=[(9,iv m),(96,.list (ns.map iv)),(97,int .i64 ((ns.map iv).length:Int)),(98,iv pre.length)]/\H'=Ef k (max d (f.depth+1))/\gy pre.length l1 m=N)
   ⟨ns.length,_,_,⟨[],ns,max (f.params+1) f.need,rfl,rfl,rfl,rfl,hN⟩,jb,Gg Ya⟩ ?_
  rintro kk ls H' ⟨pre,l1,m,Mb,rfl,rfl,rfl,hS⟩ j hj;have Qm:pre.length<=2000000:=by rw[Mb,ya] at hl;omega
  refine wg ?_;refine Ca (λhc=>?_) λhc=>?_;have hlen:=zt hc;rw[ab,Mb,ya] at hlen
  obtain⟨a,l2,rfl⟩:∃ a l2,l1=a::l2:=by
   cases l1 with
   |nil=>simp at hlen
   |cons a l2=>exact⟨a,l2,rfl⟩
  have ha:a<=1000000000:=dK a (by rw[Mb];exact List.mem_append_right _ Ce);rw[gy] at hS;refine oa ?_;refine ia (xR (ve:=iv a) (cs:=[iv a]) rfl rfl zo (by rw[Mb];exact xd iv pre a l2) rfl rfl)<|ja ?_;refine ia (Pure.pj m (pre.length+a) rfl rfl zo zo)<|oa ?_;exact⟨l2.length,_,_,Nat.lt_succ_self _,⟨pre++[a],l2,max m (pre.length+a),by rw[Mb];simp,rfl,rfl,rfl,by rw[ya];exact hS⟩,⟨rfl,rfl,rfl,lh (by simp),trivial⟩,Tb _,hj⟩;have hlen:=zf hc;rw[ab,Mb,ya] at hlen;obtain rfl:l1=[]:=by
   cases l1 with
   |nil=>rfl
   |cons a l2=>simp at hlen;omega
  rw[gy] at hS;refine oa ?_;exact Ul hj (Oa rfl) hI0 (by rw[<-hS];rfl) Ya
theorem qqZ{x y:Nat×ga}:List.Perm (x::y::(A++B)) (A++(x::y::B)):=by have h:List.Perm (([x,y]++A)++B) ((A++[x,y])++B):=Nh.append_right B;rw[Pc A] at h;exact h
theorem UY{x:Nat×ga}:List.Perm (x::(A++B)) (A++(x::B)):=by have h:List.Perm (([x]++A)++B) ((A++[x])++B):=Nh.append_right B;rw[Pc A] at h;exact h
theorem qy1{x y:Nat×ga}:List.Perm (A++(x::y::B)) (B++(x::y::A)):=by refine qqZ.symm.trans ?_;exact(Nh (l₁:=x::y::A) (l₂:=B))
theorem qzy(n:Nat):∀ v∈[iv n],v.cells.length=1:=λv hv=>by rw[cj hv];rfl
theorem dZ(c:gb):∀ l:List Ex,(Yg c l).length=l.length
 |[]=>rfl
 |x::l=>by rw[Yg,Ba,Ba,dZ c l]
theorem qlF(c:gb)(x:Ex):∀ l:List Ex,Yg c (l++[x])=Yg c l++[tf c x]
 |[]=>rfl
 |y::l=>by show Yg c (y::(l++[x]))=_;rw[Yg,qlF c x l,Yg];rfl
theorem qoi(c:gb)(x:Ex):∀ l:List Ex,gi c (l++[x])=max (gi c l) (Oi c x)
 |[]=>by show max (Oi c x) 0=max 0 (Oi c x);omega
 |y::l=>by show gi c (y::(l++[x]))=_;rw[gi,qoi c x l,gi,Nat.max_assoc]
theorem qlo{c:gb}{B D:Nat}(hB:Hs B D c.funcs):∀ {l:List Ex} {n:Nat},n∈Yg c l->n<=4 * Fb l+B
 |[],n,h=>by rw[Yg] at h;cases h
 |x::l,n,h=>by rw[Yg] at h;rw[Fb];rcases lc.1 h with rfl|h;have:=XL B D c hB x;omega;have:=qlo hB h;omega
def q8(B0:Nat)(w0:World)(k:KB)(c:gb)(n:Nat):Prop:=∀ (x:Ex) (d:Nat),Zk x<=n->d<=200000000->ca (KC B0 w0) 229 [ptr k.cb 0,eb x] (Ef k d) (ly (bf c x) (iv (tf c x)) (Ef k (max d (Oi c x))))
theorem iJ{k:KB}{c:gb}(hk:nz k c){B D:Nat}(hB:Hs B D c.funcs)(AK:B<=100000000)(QB:D<=100000000):∀ n:Nat,n<=2000000->q8 B0 w0 k c n
 |0,_=>λx d h _=>by have:=NT x;omega
 |n+1,hn6=>by
  have ih:=iJ hk hB AK QB n zo;intro x d dh hd;obtain⟨op,num,name,args⟩:=x;rw[Zk] at dh;have LB:=WL args;have ug:(args.map eb).length=args.length:=ab _;generalize hI:bf c (Ex.mk op num name args)=E;rw[bf] at hI;rw[tf,Oi];rw[BA];refine Xa Tryz.func229 rfl (n:=121) rfl rfl rfl ?_;refine Xd ?_;refine oS (sB rfl λb3=>?_);refine oa ?_;refine oS (sF [_] rfl (qmo op) ?_);refine qa ?_;refine cM (A:=Unit) (λ_=>[(0,ptr k.cb 0),(3,ptr b3 0)]) (λ_=>(b3,.cells 220 [str op,int .u32 (num:Int),str name,.list (args.map eb)])::Ef k d) (λ_=>Qf op = -1∨Qf op=args.length) ?_ λ_ Lc j hj=>?_;refine bj (m:=14) rfl [(b3,.cells 220 [str op,int .u32 (num:Int),str name,.list (args.map eb)]),(k.cb,.cells 115 [.atom (.map (some k.gm)),.atom (.map (some k.vm)),.atom (.map (some k.am)),.atom (.map (some k.fm)),str k.name,.atom (.map (some k.om)),int .i64 (d:Int)])] ?_;refine aT 0 rfl rfl (pM (lv:=.atom _) rfl) ?_
  by_cases h1:Qf op = -1;refine Eb.take (i:=1) (Pb pH Xc) rfl zk zk zk rfl (Pure.RR h1 rfl rfl)<|Ju ?_;refine FN ?_;refine Eb.Oh (i:=7) rfl rfl rfl rfl zk zk zk rfl<|aT 8 rfl rfl (Pure.Jm (lv:=.atom _) rfl rfl)<|uI ?_;refine lO 13 (lS (H1:=[]) rfl (.inl rfl) rfl Kb (Pb pH Xc) (Ra.Al [_,_,_] rfl (Cg true k.name 3 da) (λ_=>?_) λnm h=>absurd rfl h));refine Xm ?_;exact⟨(),.inl h1,jb,Tb _,rfl⟩;refine Eb.take (i:=1) (Pb pH Xc) rfl zk zk zk rfl (Pure.SR h1 rfl rfl)<|Ju ?_;refine Eb.MD 3 rfl rfl rfl rfl (pM (lv:=.atom _) rfl)<|Eb.MD 4 rfl rfl rfl rfl (pF rfl)<|Eb.MD 5 rfl rfl rfl rfl (pL (c:=.list _) rfl Bb rfl)<|Eb.MD 6 rfl rfl rfl rfl (Pure.pt rfl) ?_
  by_cases h2:Qf op=args.length;refine Eb.po (i:=7) (Pb pH Xc) rfl rfl rfl zk zk zk rfl (Pure.RR (show Qf op=((args.map eb).length:Int) by rw[ug];exact h2) rfl rfl)<|aT 8 rfl rfl (Pure.Km (lv:=.atom _) rfl rfl)<|uI ?_;refine lO 13 (lS (H1:=[]) rfl (.inl rfl) rfl Kb (Pb pH Xc) (Ra.Al [_,_,_] rfl (Cg true k.name 3 da) (λ_=>?_) λnm h=>absurd rfl h));refine Xm ?_;exact⟨(),.inr h2,jb,Tb _,rfl⟩;refine Eb.po (i:=7) (Pb pH Xc) rfl rfl rfl zk zk zk rfl (Pure.SR (show ¬ Qf op=((args.map eb).length:Int) by rw[ug];exact h2) rfl rfl)<|aT 8 rfl rfl (Pure.Km (lv:=.atom _) rfl rfl)<|uI ?_;refine lO 13 (lS (H1:=[]) rfl (.inl rfl) rfl Kb (Pb pH Xc) (Ra.Al [_,_,_] rfl (Cg false k.name 3 da) (λh=>absurd h da) λnm _ e' Aa=>?_));refine oi ?_;exact Af (Aa.trans rfl) (by rw[<-hI,zn (λh=>h.elim h1 h2)];rfl) da;rw[zp Lc] at hI;refine ja ?_
  refine oL (λkk ls H'=>∃ (pre l1:List Ex) (v:LV) (Ha:Heap),args=pre++l1/\kk=l1.length/\ls=[(0,ptr k.cb 0),(3,ptr b3 0),(6,v),(29,.list (args.map eb)),(30,int .i64 ((args.map eb).length:Int)),(31,int .i64 (pre.length:Int))] /\
    H'=(b3,.cells 220 [str op,int .u32 (num:Int),str name,.list (args.map eb)])::(Ef k (max d (gi c pre))++Ha)/\GL.Acc 1 v ((Yg c pre).map iv) Ha []/\ui (Sf c l1) (Px c op name args.length)=E)
   ⟨args.length,_,_,⟨[],args,Ob,[],rfl,rfl,rfl,rfl,Acc.nil,hI⟩,jb,⟨[],by
    rw[Jd,Jd,gi,max_zero]⟩⟩ ?_
  rintro kk ls H' ⟨pre,l1,v,Ha,Mb,rfl,rfl,rfl,kb,wF⟩ j2 tc;have Qm:pre.length<=2000000:=by have:=congrArg List.length Mb;rw[ya] at this;omega
  have hdp:max d (gi c pre)<=200000000:=by have:=nP B D c hB pre;omega
  refine wg ?_;refine Ca (λhc=>?_) λhc=>?_;have hlen:=zt hc;rw[ab,Mb,ya] at hlen
  obtain⟨a,l2,rfl⟩:∃ a l2,l1=a::l2:=by
   cases l1 with
   |nil=>simp at hlen
   |cons a l2=>exact⟨a,l2,rfl⟩
  have JB:Zk a<=Fb args:=sY (by rw[Mb];exact List.mem_append_right _ Ce);rw[Sf] at wF;refine Zi ?_;refine ia (xR (ve:=eb a) (cs:=[_,_,_,_]) rfl rfl zo (by rw[Mb];exact xd eb pre a l2) rfl rfl)<|Ga ?_;refine oS (Rc λb8=>?_);refine ja ?_;refine Zm ?_;refine Ga ?_;refine oS (sK [_,_] rfl qqZ (ih a _ zo hdp) (λh0=>?_) λnm h0 e' Aa=>?_);rw[h0] at wF;refine oS (sL (es:=[iv (tf c a)]) [_] rfl (Hd rfl rfl Ek) rfl rfl rfl<|oS (sG qy1 rfl kb rfl (qzy _) rfl (by rw[ab,dZ,Ba,dc];omega) λv' Ha' qb=>?_));refine ik ?_;refine rl ?_
  exact⟨l2.length,_,_,Nat.lt_succ_self _,⟨pre++[a],l2,v',Ha',by rw[Mb];simp,rfl,rfl,rfl,by rw[qlF,Lf];exact qb,by rw[<-wF];rfl⟩,⟨rfl,rfl,rfl,rfl,rfl,lh (by simp),trivial⟩,by
   rw[qoi,<-Nat.max_assoc];exact Gg Ya,tc⟩
  refine qd ?_;exact Af ((Aa.trans tc).trans hj) (by rw[<-wF];unfold ui;rw[zp h0,zp h0]) h0;have hlen:=zf hc;rw[ab,Mb,ya] at hlen;obtain rfl:l1=[]:=by
   cases l1 with
   |nil=>rfl
   |cons a l2=>simp at hlen;omega
  rw[Jd] at Mb;subst Mb;have vK:Px c op name args.length=E:=by rw[<-wF];rfl
  have rr:j2.ds=[]:=tc.trans hj;generalize xm:max d (gi c args)=d1 at hdp ⊢;have nK:max d (max (gi c args) (pu c op name))=max d1 (pu c op name):=by rw[<-xm,Nat.max_assoc]
  rw[nK];generalize dK:Yg c args=ns at kb ⊢;have nq:ns.length=args.length:=by rw[<-dK,dZ]
  have eK:∀ m∈ns,m<=1000000000:=λm hm=>by rw[<-dK] at hm;have:=qlo hB hm;omega
  have Ot:=kb.elems;refine oa ?_;have Gj:∀ (nd:LV) {e:Env} {H:Heap},E=0->e.ds=[]->e.s 4=nd->HSub (Ef k d1) H->pu c op name=0->iv (NA c op name ns)=nd->od (KC B0 w0) 121 [ResultVar.tmp 4] (ly E (iv (NA c op name ns)) (Ef k (max d1 (pu c op name)))) .ret e H:=λnd {e H} h0 hd he hH Br hn=>by rw[Br,max_zero];exact Ul hd (rC (Gd he ld) rN) h0 hn.symm hH
  have Cr:¬ op=Of->pu c op name=0:=λh=>by unfold pu;rw[zn (λh2=>h h2.1)]
  have xK:¬ op=Bf->¬ op=ij->¬ op=Of->E=0:=λa1 a2 a3=>by rw[<-vK];unfold Px;rw[zn a1,zn a2,zn a3]
  have HS:HSub (Ef k d1) ((b3,.cells 220 [str op,int .u32 (num:Int),str name,.list (args.map eb)])::(Ef k d1++Ha)):=Gg mE;by_cases h1:op=[110,117,109];refine oC rfl (λ_=>?_) λhc=>absurd h1 (zf hc);refine oa ?_;refine Gj (iv 1) ?_ ?_ ?_ ?_ ?_ ?_;subst h1;exact xK da da da;exact rr;rfl;exact HS;subst h1;exact Cr da;subst h1;rfl;refine oC rfl (λhc=>absurd (zt hc) h1) λ_=>?_;refine Am ?_
  by_cases h2:op=[118,97,114];refine oC rfl (λ_=>?_) λhc=>absurd h2 (zf hc);have Du:Vr c name=E:=by rw[<-vK];subst h2;rfl
  refine oa ?_;refine oS (sK [_,_] rfl UY (gM hk d1 name) (λh0=>?_) λnm h0 e' Aa=>?_);rw[Du] at h0;refine oa ?_;refine Gj (iv 1) h0 ?_ ?_ ?_ ?_ ?_;exact rr;rfl;exact mE;subst h2;exact Cr da;subst h2;rfl;refine qd ?_;exact Af (Aa.trans rr) Du.symm h0;refine oC rfl (λhc=>absurd (zt hc) h2) λ_=>?_;refine Am ?_
  by_cases h3:op=[101,108,101,109];refine oC rfl (λ_=>?_) λhc=>absurd h3 (zf hc);have Du:qy c name=E:=by rw[<-vK];subst h3;rfl
  obtain⟨n0,rfl⟩:∃ n0,ns=[n0]:=by
   have h9:ns.length=1:=by rcases Lc with h|h;subst h3;exact absurd h da;subst h3;have h9:(1:Int)=(args.length:Int):=h;omega
   cases ns with
   |nil=>cases h9
   |cons a l=>
    cases l with
    |nil=>exact⟨a,rfl⟩
    |cons b l=>simp at h9
  have Mt:=eK n0 Ce;refine oa ?_;refine oS (sK [_,_] rfl UY (UP hk d1 name) (λh0=>?_) λnm h0 e' Aa=>?_);rw[Du] at h0;refine wg ?_;refine oI ?_;refine Gj (int .i64 (1+(n0:Int))) h0 ?_ ?_ ?_ ?_ ?_;exact rr;rfl;exact mE;subst h3;exact Cr da;subst h3;exact lh (show((1+n0:Nat):Int)=_ by omega);refine qd ?_;exact Af (Aa.trans rr) Du.symm h0;refine oC rfl (λhc=>absurd (zt hc) h3) λ_=>?_;refine Am ?_
  by_cases h4:op=[99,97,108,108];refine oC rfl (λ_=>?_) λhc=>absurd h4 (zf hc);have Du:yc c name ns.length=E:=by rw[<-vK,nq];subst h4;rfl
  have hN4:NA c op name ns=qz c name ns:=by subst h4;rfl
  have ER:pu c op name=pu c Of name:=by subst h4;rfl
  refine oa ?_;refine Zm ?_;refine wa.sub 67 rfl kb.sub ?_;refine oS (sK [_,_,_] rfl UY (qsj hk hB AK QB d1 zo name ns zo eK) (λh0=>?_) λnm h0 e' Aa=>?_);rw[Du] at h0;refine qa ?_;rw[hN4,ER];exact Ul rr (Oa rfl) h0 rfl mE;refine qd ?_;exact Af (Aa.trans rr) Du.symm h0;refine oC rfl (λhc=>absurd (zt hc) h4) λ_=>?_;have Xt:=xK h2 h3 h4;have Br:=Cr h4;refine Am ?_
  by_cases h5:op=[110,101,103];refine oC rfl (λ_=>?_) λhc=>absurd h5 (zf hc)
  obtain⟨n0,rfl⟩:∃ n0,ns=[n0]:=by
   have h9:ns.length=1:=by rcases Lc with h|h;subst h5;exact absurd h da;subst h5;have h9:(1:Int)=(args.length:Int):=h;omega
   cases ns with
   |nil=>cases h9
   |cons a l=>
    cases l with
    |nil=>exact⟨a,rfl⟩
    |cons b l=>simp at h9
  have Mt:=eK n0 Ce;refine Xd ?_;refine oI ?_;refine Gj (int .i64 (1+(n0:Int))) Xt ?_ ?_ ?_ Br ?_;exact rr;rfl;exact HS;subst h5;exact lh (show((1+n0:Nat):Int)=_ by omega);refine oC rfl (λhc=>absurd (zt hc) h5) λ_=>?_;have h5n:=h5;clear h5;refine Am ?_
  by_cases h5:op=[110,111,116];refine oC rfl (λ_=>?_) λhc=>absurd h5 (zf hc)
  obtain⟨n0,rfl⟩:∃ n0,ns=[n0]:=by
   have h9:ns.length=1:=by rcases Lc with h|h;subst h5;exact absurd h da;subst h5;have h9:(1:Int)=(args.length:Int):=h;omega
   cases ns with
   |nil=>cases h9
   |cons a l=>
    cases l with
    |nil=>exact⟨a,rfl⟩
    |cons b l=>simp at h9
  have Mt:=eK n0 Ce;refine Xd ?_;refine oI ?_;refine ia (Pure.pj 2 n0 rfl rfl rfl rfl)<|qa ?_;refine Gj (iv (max 2 n0)) Xt ?_ ?_ ?_ Br ?_;exact rr;rfl;exact HS;subst h5;rfl;refine oC rfl (λhc=>absurd (zt hc) h5) λ_=>?_
  have Qt:ns.length=2:=by unfold Qf at Lc;rw[zn λh=>h.elim h1 h2,zn λh=>h.elim h3 λh=>h.elim h5n h5,zn (show ¬ op=Of from h4)] at Lc;split at Lc;rcases Lc with h|h <;> omega;rcases Lc with h|h <;> omega
  obtain⟨a,b,rfl⟩:∃ a b,ns=[a,b]:=by
   match ns,Qt with
   |[a,b],_=>exact⟨a,b,rfl⟩
  have ha:=eK a Ce;have hb:=eK b (Gc _ Ce);refine qa ?_;refine Qa.quiet zk ?_;refine qP (pM (lv:=v) rfl) rfl ?_;refine qP (xR (ve:=iv a) (cs:=[iv a]) Ot rfl zo rfl rfl rfl) rfl ?_;refine Ga ?_;refine qP (pM (lv:=v) rfl) rfl ?_;refine qP (xR (ve:=iv b) (cs:=[iv b]) Ot rfl zo rfl rfl rfl) rfl ?_;refine ja ?_;by_cases h6:op=[62];refine oC rfl (λ_=>?_) λhc=>absurd h6 (zf hc);refine qa ?_;refine oC rfl (λ_=>?_) λhc=>absurd h6 (zf hc);refine oa ?_;refine ia (Pure.mq 3 a (1+b) rfl rfl rfl rfl rfl zo)<|qa ?_;refine Gj (iv (max (max 3 a) (1+b))) Xt ?_ ?_ ?_ Br ?_;exact rr;rfl;exact HS;subst h6;rfl;refine oC rfl (λhc=>absurd (zt hc) h6) λ_=>?_;have h6n:=h6;clear h6;refine Am ?_
  by_cases h6:op=[60,61];refine oC rfl (λ_=>?_) λhc=>absurd h6 (zf hc);refine oa ?_;refine ia (Pure.mq 3 a (1+b) rfl rfl rfl rfl rfl zo)<|qa ?_;refine Gj (iv (max (max 3 a) (1+b))) Xt ?_ ?_ ?_ Br ?_;exact rr;rfl;exact HS;subst h6;rfl;refine oC rfl (λhc=>absurd (zt hc) h6) λ_=>?_;refine Am ?_
  by_cases h7:op=[33,61];refine oC rfl (λ_=>?_) λhc=>absurd h7 (zf hc);refine oa ?_;refine ia (Pure.mq 3 (1+a) (2+b) rfl rfl rfl rfl zo zo)<|qa ?_;refine Gj (iv (max (max 3 (1+a)) (2+b))) Xt ?_ ?_ ?_ Br ?_;exact rr;rfl;exact HS;subst h7;rfl;refine oC rfl (λhc=>absurd (zt hc) h7) λ_=>?_;refine Am ?_
  by_cases h8:op=[38,38];refine oC rfl (λ_=>?_) λhc=>absurd h8 (zf hc);refine oa ?_;refine ia (Pure.pj (1+a) (2+b) rfl rfl zo zo)<|qa ?_;refine Gj (iv (max (1+a) (2+b))) Xt ?_ ?_ ?_ Br ?_;exact rr;rfl;exact HS;subst h8;rfl;refine oC rfl (λhc=>absurd (zt hc) h8) λ_=>?_;refine Am ?_
  by_cases h9:op=[124,124];refine oC rfl (λ_=>?_) λhc=>absurd h9 (zf hc);refine oa ?_;refine ia (Pure.pj (2+a) (3+b) rfl rfl zo zo)<|qa ?_;refine Gj (iv (max (2+a) (3+b))) Xt ?_ ?_ ?_ Br ?_;exact rr;rfl;exact HS;subst h9;rfl;refine oC rfl (λhc=>absurd (zt hc) h9) λ_=>?_;refine oa ?_;refine ia (Pure.mq 2 a (1+b) rfl rfl rfl rfl rfl zo)<|Qc ?_;refine Gj (iv (max (max 2 a) (1+b))) Xt ?_ ?_ ?_ Br ?_;exact rr;rfl;exact HS;unfold NA;rw[zn λh=>h.elim h1 h2,zn λh=>h.elim h3 h5n,zn (show ¬ op=Of from h4),zn (show ¬ op=Uf from h5),zn λh=>h.elim h6n h6,zn h7,zn h8,zn h9];rfl
theorem qz2:yh (.mk 1 name index value Ka fb)=((!decide (name=[])) && decide (((index.map eb).length:Int)=0) && decide (((value.map eb).length:Int)=1) && decide (((Ka.map Yb).length:Int)=0) && decide (((fb.map Yb).length:Int)=0)):=by rw[Bool.eq_iff_iff];simp only[yh,Yc,Mf,Bool.not_eq_true',decide_eq_false_iff_not,ab];constructor;exact yD;exact xD
theorem qzG:yh (.mk 2 name index value Ka fb)=((!decide (name=[])) && decide (((index.map eb).length:Int)=1) && decide (((value.map eb).length:Int)=1) && decide (((Ka.map Yb).length:Int)=0) && decide (((fb.map Yb).length:Int)=0)):=by rw[Bool.eq_iff_iff];simp only[yh,Yc,Mf,Bool.not_eq_true',decide_eq_false_iff_not,ab];constructor;exact yD;exact xD
theorem qAw:yh (.mk 3 name index value Ka fb)=((!!decide (name=[])) && decide (((index.map eb).length:Int)=0) && decide (((value.map eb).length:Int)=1)):=by rw[Bool.eq_iff_iff];simp only[yh,Yc,Mf,Bool.not_eq_true',decide_eq_false_iff_not,ab];constructor;intro h;have h':_:=zt h;obtain⟨a1,a2,a3⟩:=h';exact⟨⟨by simpa using a1,by omega⟩,by omega⟩;rintro⟨⟨a1,a2⟩,a3⟩;exact Vg ⟨by simpa using a1,by omega,by omega⟩
theorem qzC:yh (.mk 4 name index value Ka fb)=((!!decide (name=[])) && decide (((index.map eb).length:Int)=0) && decide (((value.map eb).length:Int)=1) && decide (((fb.map Yb).length:Int)=0)):=by rw[Bool.eq_iff_iff];simp only[yh,Yc,Mf,Bool.not_eq_true',decide_eq_false_iff_not,ab];constructor;intro h;have h':_:=zt h;obtain⟨a1,a2,a3,a4⟩:=h';exact⟨⟨⟨by simpa using a1,by omega⟩,by omega⟩,by omega⟩;rintro⟨⟨⟨a1,a2⟩,a3⟩,a4⟩;exact Vg ⟨by simpa using a1,by omega,by omega,by omega⟩
theorem qz7:yh (.mk 5 name index value Ka fb)=((!!decide (name=[])) && decide (((index.map eb).length:Int)=0) && decide (((value.map eb).length:Int)=1) && decide (((Ka.map Yb).length:Int)=0) && decide (((fb.map Yb).length:Int)=0)):=by rw[Bool.eq_iff_iff];simp only[yh,Yc,Mf,Bool.not_eq_true',decide_eq_false_iff_not,ab];constructor;exact yD;exact xD
theorem qAg:yh (.mk 6 name index value Ka fb)=((!!decide (name=[])) && decide (((index.map eb).length:Int)=0) && decide (((value.map eb).length:Int)=1) && decide (((Ka.map Yb).length:Int)=0) && decide (((fb.map Yb).length:Int)=0) && decide (Zh (value.headD default)=[99,97,108,108])):=by rw[Bool.eq_iff_iff];simp only[yh,Yc,Mf,Bool.not_eq_true',decide_eq_false_iff_not,ab];constructor;intro h;have h':_:=zt h;obtain⟨a1,a2,a3,a4,a5,a6⟩:=h';exact⟨⟨⟨⟨⟨by simpa using a1,by omega⟩,by omega⟩,by omega⟩,by omega⟩,a6⟩;rintro⟨⟨⟨⟨⟨a1,a2⟩,a3⟩,a4⟩,a5⟩,a6⟩;exact Vg ⟨by simpa using a1,by omega,by omega,by omega,by omega,a6⟩
theorem qz6:yh (.mk 7 name index value Ka fb)=((!!decide (name=[])) && decide (((index.map eb).length:Int)=0) && decide (((value.map eb).length:Int)=0) && decide (((Ka.map Yb).length:Int)=0) && decide (((fb.map Yb).length:Int)=0)):=by rw[Bool.eq_iff_iff];simp only[yh,Yc,Mf,Bool.not_eq_true',decide_eq_false_iff_not,ab];constructor;exact yD;exact xD
theorem qoT(s:Sm):ca (KC B0 w0) 228 [Yb s] [] (Hb (bool (yh s))):=by
 obtain⟨kind,name,index,value,Ka,fb⟩:=s;rw[rv];refine Xa Tryz.func228 rfl (n:=159) rfl rfl rfl ?_;refine Xd ?_;refine oS (sB rfl λb1=>?_);refine qa ?_;refine Qa.quiet zk ?_;refine ja ?_;by_cases Ds:kind=1
 ·subst Ds;refine oC rfl (λ_=>?_) (λhc=>by cases hc);rw[qz2];refine Bd ?_;refine oB 28 rfl (λq1=>?_) λq1=>?_;rotate_left;exact fI;refine qa ?_;refine oB 32 rfl (λq2=>?_) λq2=>?_;rotate_left;exact iI;refine qa ?_;refine oB 36 rfl (λq3=>?_) λq3=>?_;rotate_left;exact Jx;refine qa ?_;refine oB 40 rfl (λq4=>?_) λq4=>?_;rotate_left;exact Yz;refine fA ?_;simp only[q1,q2,q3,q4,Bool.true_and];rfl
 refine oC rfl (λhc=>absurd (zt hc) Ds) λ_=>?_;refine Ch ?_
 by_cases Ah:kind=2
 ·subst Ah;refine oC rfl (λ_=>?_) (λhc=>by cases hc);rw[qzG];refine Bd ?_;refine oB 47 rfl (λq1=>?_) λq1=>?_;rotate_left;exact fI;refine qa ?_;refine oB 51 rfl (λq2=>?_) λq2=>?_;rotate_left;exact iI;refine qa ?_;refine oB 55 rfl (λq3=>?_) λq3=>?_;rotate_left;exact Jx;refine qa ?_;refine oB 59 rfl (λq4=>?_) λq4=>?_;rotate_left;exact Yz;refine fA ?_;simp only[q1,q2,q3,q4,Bool.true_and];rfl
 refine oC rfl (λhc=>absurd (zt hc) Ah) λ_=>?_;refine Ch ?_
 by_cases aD:kind=3
 ·subst aD;refine oC rfl (λ_=>?_) (λhc=>by cases hc);rw[qAw];refine ja ?_;refine oB 67 rfl (λq1=>?_) λq1=>?_;rotate_left;exact fI;refine qa ?_;refine oB 71 rfl (λq2=>?_) λq2=>?_;rotate_left;exact iI;refine fA ?_;simp only[q1,q2,Bool.true_and];rfl
 refine oC rfl (λhc=>absurd (zt hc) aD) λ_=>?_;refine Ch ?_
 by_cases mF:kind=4
 ·subst mF;refine oC rfl (λ_=>?_) (λhc=>by cases hc);rw[qzC];refine ja ?_;refine oB 79 rfl (λq1=>?_) λq1=>?_;rotate_left;exact fI;refine qa ?_;refine oB 83 rfl (λq2=>?_) λq2=>?_;rotate_left;exact iI;refine qa ?_;refine oB 87 rfl (λq3=>?_) λq3=>?_;rotate_left;exact Jx;refine fA ?_;simp only[q1,q2,q3,Bool.true_and];rfl
 refine oC rfl (λhc=>absurd (zt hc) mF) λ_=>?_;refine Ch ?_
 by_cases iK:kind=5
 ·subst iK;refine oC rfl (λ_=>?_) (λhc=>by cases hc);rw[qz7];refine ja ?_;refine oB 95 rfl (λq1=>?_) λq1=>?_;rotate_left;exact fI;refine qa ?_;refine oB 99 rfl (λq2=>?_) λq2=>?_;rotate_left;exact iI;refine qa ?_;refine oB 103 rfl (λq3=>?_) λq3=>?_;rotate_left;exact Jx;refine qa ?_;refine oB 107 rfl (λq4=>?_) λq4=>?_;rotate_left;exact Yz;refine fA ?_;simp only[q1,q2,q3,q4,Bool.true_and];rfl
 refine oC rfl (λhc=>absurd (zt hc) iK) λ_=>?_;refine Ch ?_
 by_cases JM:kind=6
 ·subst JM;refine oC rfl (λ_=>?_) (λhc=>by cases hc);rw[qAg];refine ja ?_;refine oB 115 rfl (λq1=>?_) λq1=>?_;rotate_left;exact fI;refine qa ?_;refine oB 119 rfl (λq2=>?_) λq2=>?_;rotate_left;exact iI;refine qa ?_;refine oB 123 rfl (λq3=>?_) λq3=>?_;rotate_left;exact Jx;refine qa ?_;refine oB 127 rfl (λq4=>?_) λq4=>?_;rotate_left;exact Yz;refine qa ?_;refine oB 131 rfl (λq5=>?_) λq5=>?_;rotate_left;refine fA ?_;simp only[q1,q2,q3,q4,q5,Di,Bool.and_false,Bool.true_and];rfl;refine Ga ?_
  obtain⟨x0,rfl⟩:∃ x,value=[x]:=by
   have h1:((value.map eb).length:Int)=1:=zt q3;rw[ab] at h1;cases value with
   |nil=>simp at h1
   |cons x l=>
    cases l with
    |nil=>exact⟨x,rfl⟩
    |cons y l=>simp at h1;omega
  first|refine wa.want rfl rfl ?_|skip
  refine ia (xR (ve:=eb x0) (cs:=[_,_,_,_]) rfl rfl zo rfl rfl rfl)<|Ga ?_;refine rR rfl (Oa rfl) Vc ⟨?_,rfl⟩;simp only[q1,q2,q3,q4,q5,Bool.true_and];rfl
 refine oC rfl (λhc=>absurd (zt hc) JM) λ_=>?_;refine Ch ?_
 by_cases R3:kind=7
 ·subst R3;refine oC rfl (λ_=>?_) (λhc=>by cases hc);rw[qz6];refine ja ?_;refine oB 143 rfl (λq1=>?_) λq1=>?_;rotate_left;exact fI;refine qa ?_;refine oB 147 rfl (λq2=>?_) λq2=>?_;rotate_left;exact iI;refine qa ?_;refine oB 151 rfl (λq3=>?_) λq3=>?_;rotate_left;exact Jx;refine qa ?_;refine oB 155 rfl (λq4=>?_) λq4=>?_;rotate_left;exact Yz;refine fA ?_;simp only[q1,q2,q3,q4,Bool.true_and];rfl
 refine oC rfl (λhc=>absurd (zt hc) R3) λ_=>?_;refine oa ?_;refine rR rfl (Oa rfl) Vc ⟨?_,rfl⟩
 have hf:yh (.mk kind name index value Ka fb)=false:=by simp only[yh];rw[zn Ds,zn Ah,zn aD,zn mF,zn iK,zn JM,zn R3]
 rw[hf];rfl
end Go.Proofs.YtmnjklgnhpnckaaGreatDoor.Ti
namespace Go.GL
open Go.RowKit
theorem bt:∀ l:List (List UInt8),yz 1 (l.map str)
 |[]=>Ek
 |a::l=>Hd rfl rfl (bt l)
theorem ca.nA{C:Ctx}{f:FuncId}{vs:List Value}{l:List (List UInt8)}{t:TypeId}
  (h:∀ w,Below C.B0 C.w0 w->Calls C.P f vs.toArray w λe w'=>e=.returned (.slice (some ⟨w.heap.size,0,none⟩) l.length l.length)/\w'=w.alloc (.cells (l.map λs=>Value.string ⟨s.toArray⟩).toArray t)):ca C f (vs.map .atom) [] (Hb (.list (l.map str))):=λxs w L hv hH=>by
 have hx:xs=vs:=by
  clear h hH;induction vs generalizing xs with
  |nil=>simpa [la] using hv
  |cons v vs ih=>simp only[jd,la,wb] at hv;obtain⟨y,ys,rfl,rfl,hv⟩:=hv;rw[ih _ hv]
 subst hx;refine(h w hH.base).mono λe w' he=>?_;obtain⟨rfl,rfl⟩:=he
 have hr:la w L (l.map str) (l.map λs=>Value.string ⟨s.toArray⟩):=by have:=Wq (w:=w) (L:=L) (l.map λs=>Value.string ⟨s.toArray⟩);rw[map_map] at this;exact this
 have xc:yz 1 (l.map str):=bt l;have hl:(l.map str).length=l.length:=ab _;have:=qkh (K:=λlv H=>∃ b,lv=.app b l.length 1 (l.map str)) (t:=t) (cap:=l.length) (rest:=[]) hH hr xc zo (by simp) λb=>⟨b,rfl⟩
 have e1:((l.map λs=>Value.string ⟨s.toArray⟩).flatMap λv=>v.cells.toList)++[]=l.map λs=>Value.string ⟨s.toArray⟩:=by
  rw[Jd];clear this xc hr h hv hl;induction l with
  |nil=>rfl
  |cons a l ih=>rw[jd,List.flatMap_cons,ih];try rfl
 rw[e1,hl] at this;obtain⟨lv,H',L',r1,r2,r3,b,rfl⟩:=this;exact⟨.list (l.map str),[],L',r1.Zb Vc,r2.Zb Vc,LV.Sub.app _ _ _ _ _ _ _ r3,rfl,rfl⟩
end Go.GL
namespace Go.Proofs.YtmnjklgnhpnckaaGreatDoor
open Go.GL Go.RowKit Go.ea
namespace Sp
def GM(w0:World):Prop:=∃ m,w0.cell? ⟨0,0,none⟩=some (.int .i64 m)
theorem qlI{w:World}{L:Live}{b:Nat}:∀ (k off:Nat) (ws:List (List UInt8)),cd w L b k off (ws.map str)->∀ (j:Nat) x,(ws.map λl=>(⟨l.toArray⟩:ByteArray))[j]? = some x->k=1/\w.cell? ⟨b,off+j,none⟩=some (.string x)
 |k,off,[],_,j,x,h=>by simp at h
 |k,off,s::ws,h,0,x,hx=>by simp only[jd,cd] at h;obtain⟨⟨hk,_,y,hy,hr⟩,_⟩:=h;simp only[wb] at hr;simp at hx;rw[<-hx,Nat.add_zero,hy,hr];exact⟨hk.symm,rfl⟩
 |k,off,s::ws,h,j+1,x,hx=>by simp only[jd,cd] at h;obtain⟨⟨hk,_⟩,h2⟩:=h;have:=qlI k (off+k) ws h2 j x (by simpa using hx);refine⟨hk.symm,?_⟩;rw[<-this.2,<-hk,Nat.add_assoc,Nat.add_comm 1 j]
variable{B0:Nat}{w0:World}
theorem ef(s p:List UInt8):ca (KC B0 w0) 162 [str s,str p] [] (Hb (.tuple [str (Go.Lib.trimPrefix s p),bool (Go.Lib.hasPrefix s p)])):=by refine ca.mono (ca.Tg (vs:=[.string ⟨s.toArray⟩,.string ⟨p.toArray⟩]) (p:=λus=>us=[.string ⟨(Go.Lib.trimPrefix s p).toArray⟩,.bool (Go.Lib.hasPrefix s p)]) λw hw=>?_) ?_;refine(Tryz.strings_CutPrefix ⟨s.toArray⟩ ⟨p.toArray⟩ w).mono λe w' he=>⟨_,he.1,rfl,by rw[he.2];exact Below.refl _ _⟩;rintro r H ⟨v,rfl,⟨us,rfl,rfl⟩,rfl⟩;exact⟨rfl,rfl⟩
theorem cf(s p:List UInt8)(hs:s.length<=1000000000):ca (KC B0 w0) 172 [str s,str p] [] (Hb (.tuple [str (Go.Lib.trimSuffix s p),bool (Go.Lib.hasSuffix s p)])):=by refine ca.mono (ca.Tg (vs:=[.string ⟨s.toArray⟩,.string ⟨p.toArray⟩]) (p:=λus=>us=[.string ⟨(Go.Lib.trimSuffix s p).toArray⟩,.bool (Go.Lib.hasSuffix s p)]) λw hw=>?_) ?_;refine(Tryz.strings_CutSuffix ⟨s.toArray⟩ ⟨p.toArray⟩ w (by show s.toArray.size<=_;simp;omega)).mono λe w' he=>⟨_,he.1,rfl,by rw[he.2];exact Below.refl _ _⟩;rintro r H ⟨v,rfl,⟨us,rfl,rfl⟩,rfl⟩;exact⟨rfl,rfl⟩
theorem ah(sep:List UInt8)(ws:List (List UInt8))(hn:ws.length<=1000000000)(hl:(Go.Lib.join ws sep).length<=1000000000):ca (KC B0 w0) 49 [.list (ws.map str),str sep] [] (Hb (str (Go.Lib.join ws sep))):=λxs w L hv hH=>by
 simp only[la] at hv;obtain⟨y,ys,rfl,hy,z,zs,rfl,hz,rfl⟩:=hv;simp only[wb] at hy hz;obtain⟨a,cap,rfl,Jh,DQ⟩:=hy;subst hz;rw[ab] at Jh;have jF:(ws.map λl=>(⟨l.toArray⟩:ByteArray)).map (·.data.toList)=ws:=by
  rw[map_map]
  conv=>rhs;rw[<-List.map_id ws]
  rfl
 have hc:Calls Tryz.prog 49 #[.slice a ws.length cap,.string ⟨sep.toArray⟩] w λe w'=>e=.returned (.string ⟨(Go.Lib.join ws sep).toArray⟩)/\Below w.heap.size w w':=by
  by_cases ub:ws=[]
  ·subst ub;exact(Tryz.strings_Join_none a cap ⟨sep.toArray⟩ w).mono λe w' he=>⟨by rw[he.1];try rfl,by rw[he.2];exact Below.refl _ _⟩
  obtain⟨b,off,k,rfl,hr⟩:=DQ (by simpa using ub);have zr:=λj x hx=>(qlI k off ws hr j x hx).2
  have hb:b<w.heap.size:=by obtain⟨s,r,rfl⟩:=List.exists_cons_of_ne_nil ub;have:=zr 0 _ rfl;exact World.block_lt_of_cell? _ _ this
  have:=Tryz.strings_Join b off cap (ws.map λl=>(⟨l.toArray⟩:ByteArray)) ⟨sep.toArray⟩ w zr hb (by rw[ab];omega) (by rw[ab];exact Jh) (by rw[jF];show(Go.Lib.join ws sep).length<=_;omega);rw[ab,jF] at this;exact this
 rw[ab];refine hc.mono λe w' he=>?_;obtain⟨rfl,hb⟩:=he;obtain⟨h1,h2⟩:=iU hH hb;exact⟨str (Go.Lib.join ws sep),[],L,h1,h2,Zc,rfl,rfl⟩
theorem GM.at(hG:GW B0 w0)(h:GM w0){w:World}(hb:Below B0 w0 w):∃ m,w.cell? ⟨0,0,none⟩=some (.int .i64 m):=by obtain⟨m,hm⟩:=h;exact⟨m,(cell_of_heap (hb.block 0 (Nat.lt_of_lt_of_le da hG.WV)) 0).trans hm⟩
theorem qlE(hG:GW B0 w0)(hM:GM w0)(s:List UInt8)(c:UInt8)(hs:s.length<=1000000000):ca (KC B0 w0) 104 [str s,str [c]] [] (Hb (.list ((eg c s).map str))):=by
 rw[<-qsf];refine ca.nA (vs:=[.string ⟨s.toArray⟩,.string ⟨#[c]⟩]) (t:=9) λw hw=>?_;obtain⟨m,hm⟩:=GM.at hG hM hw;have h1:=Tryz.strings_Split ⟨s.toArray⟩ ⟨#[c]⟩ m w (by show s.toArray.size<_;simp;omega) hm (Nb 1)
 have e1:(Go.Lib.splitB ⟨#[c]⟩ 0 (Go.Lib.countB ⟨s.toArray⟩ ⟨#[c]⟩) ⟨s.toArray⟩).map Value.string=(Go.Lib.split s [c]).map λs=>Value.string ⟨s.toArray⟩:=by have:=Go.Lib.splitB_data ⟨#[c]⟩ 0 (Go.Lib.countB ⟨s.toArray⟩ ⟨#[c]⟩) ⟨s.toArray⟩;have e2:Go.Lib.split s [c]=Go.Lib.splitK (⟨#[c]⟩:ByteArray).data.toList 0 (Go.Lib.countB ⟨s.toArray⟩ ⟨#[c]⟩) (⟨s.toArray⟩:ByteArray).data.toList:=rfl;rw[e2,<-this,map_map];try rfl
 have e3:(Go.Lib.split s [c]).length=Go.Lib.countB ⟨s.toArray⟩ ⟨#[c]⟩+1:=by have:=congrArg List.length e1;rw[ab,ab,Go.Lib.splitB_all ⟨#[c]⟩ (Nb 1) 0 _ _ rfl] at this;exact this.symm
 rw[e1] at h1;rw[e3];exact h1
theorem qwk(hG:GW B0 w0)(hM:GM w0)(s:List UInt8)(c:UInt8)(hs:s.length<=1000000000):ca (KC B0 w0) 105 [str s,str [c]] [] (Dw λlv=>∃ a b,lv=.tuple [str (s.takeWhile λd=>decide (d≠c)),str a,bool b]):=by rw[<-qxJ];refine ca.mono (ca.Tg (vs:=[.string ⟨s.toArray⟩,.string ⟨#[c]⟩]) (p:=λus=>us=[.string ⟨(Go.Lib.cut s [c]).1.toArray⟩,.string ⟨(Go.Lib.cut s [c]).2.1.toArray⟩,.bool (Go.Lib.cut s [c]).2.2]) λw hw=>?_) ?_;obtain⟨m,hm⟩:=GM.at hG hM hw;refine(Tryz.strings_Cut ⟨s.toArray⟩ ⟨#[c]⟩ m w (by show s.toArray.size<_;simp;omega) hm).mono λe w' he=>?_;obtain⟨rfl,n,rfl⟩:=he;exact⟨_,rfl,rfl,below_drewN (Below.refl _ _) n⟩;rintro r H ⟨v,rfl,⟨us,rfl,rfl⟩,rfl⟩;exact⟨_,rfl,⟨_,_,rfl⟩,rfl⟩
def Vi(p:Wd×Nat):LV:=.agg [str p.1,int .i64 p.2]
def wY:List UInt8:=[97,98,99,100,101,102,103,104,105,106,107,108,109,110,111,112,113,114,115,116,117,118,119,120,121,122,95,48,49,50,51,52,53,54,55,56,57]
theorem qrU(c:UInt8):wY.contains c=yi c:=by
 have:∀ n:Nat,n<256->wY.contains (UInt8.ofNat n)=yi (UInt8.ofNat n):=by decide +kernel
 have h:=this c.toNat c.toNat_lt;rwa [UInt8.ofNat_toNat] at h
theorem qqa{st:List UInt8}{p:UInt8->Bool}(he:∀ c,st.contains c=p c)(s:List UInt8):(Go.Lib.trimS s st=[]) ↔ s.all p=true:=by
 have he:(λc=>st.contains c)=p:=funext he;unfold Go.Lib.trimS Go.Lib.trimLeftS Go.Lib.trimRightS;rw[he,sJ];constructor;intro h;by_cases h2:s.reverse.dropWhile p=[];rw[sJ] at h2;rw[all_reverse] at h2;exact h2;exfalso;obtain⟨c,r,NH⟩:=List.exists_cons_of_ne_nil h2;have h3:p c=false:=by have:=List.head?_dropWhile_not p s.reverse;rw[NH] at this;simpa using this
 rw[NH,all_reverse,List.all_cons,h3] at h;cases h;intro h;have h2:s.reverse.dropWhile p=[]:=by rw[sJ,all_reverse];exact h
 rw[h2];try rfl
def Xk(o:Option Wd)(lv:LV):Prop:=∃ s,lv=.tuple [str s,bool o.isSome]/\∀ l,o=some l->s=l
theorem Xk.mk{o:Option Wd}{s:Wd}{b:Bool}(hb:o.isSome=b)(hs:∀ l,o=some l->s=l):Xk o (.tuple [str s,bool b]):=⟨s,by rw[hb],hs⟩
theorem rp{p q:Bool}{s:Wd}{o:Option Wd}(h:o=if p=true/\q=true then some s else none):o.isSome=(p && q)/\∀ l,o=some l->s=l:=by subst h;cases p <;> cases q <;> simp
attribute [local irreducible] wa Qa Ra ca Go.GL.Pure Ud xe od LQ Eb Tf Rh
theorem qqO(s st:List UInt8)(hs:s.length<=1000000000)(h1:st.length<=100)(h3:st.all (λb=>decide (b.toNat<128))=true):ca (KC B0 w0) 174 [str s,str st] [] (Hb (str (Go.Lib.trimS s st))):=
 ca.Tl (vs:=[.string ⟨s.toArray⟩,.string ⟨st.toArray⟩]) λw hw=>(Go.Proofs.Any.strings_Trim_laid Tryz.Xw zk ⟨s.toArray⟩ ⟨st.toArray⟩ w (by show s.toArray.size<=_;simp;omega) (by show st.toArray.size<_;simp;omega) (Go.Proofs.ascii_of_all h3))
theorem qne(s:List UInt8)(hs:s.length<=1000000000):ca (KC B0 w0) 173 [str s] [] (Hb (bool (mu s))):=by
 have hT:=qqO (B0:=B0) (w0:=w0) s wY hs da da;have Wv:=qqa qrU s;refine Xa Tryz.func173 rfl (n:=23) rfl rfl rfl ?_;refine oa ?_;refine oB 5 rfl (λh1=>?_) λh1=>?_;have e:s=[]:=Hg h1;subst e;refine qa ?_;refine oC rfl (λh=>?_) (λh=>by cases h);refine Qj ?_;exact Wa rfl (rC (Gd (v:=.atom _) rfl (vR _)) rN) rfl;have TV:¬ s=[]:=of_decide_eq_false h1
 obtain⟨c,r,rfl⟩:∃ c r,s=c::r:=by
  cases s with
  |nil=>exact absurd rfl TV
  |cons c r=>exact⟨c,r,rfl⟩
 have hN:=qpR c r;refine Ga ?_;refine oB 10 rfl (λh2=>?_) λh2=>?_;have Pz:¬ (c::r).length<=40:=by have:=Hg h2;omega
 rw[decide_eq_false Pz,Di,Di] at hN;refine qa ?_;refine oC rfl (λh=>?_) (λh=>by cases h);refine Qj ?_;exact Wa rfl (rC (Gd (v:=.atom _) rfl (vR _)) rN) (Ae hN.symm);have Pz:(c::r).length<=40:=by have:=of_decide_eq_false h2;omega
 rw[Vg Pz,Bool.true_and] at hN;refine qa ?_;refine ia (pI (c:=c) rfl rfl (by omega) rfl)<|qa ?_;refine oB 15 rfl (λh3=>?_) λh3=>?_
 have Gr:Yk c=false:=by unfold Yk;rw[decide_eq_false (by have:cv c<97:=Hg h3;omega),Di]
 rw[Gr,Di] at hN;refine qa ?_;refine oC rfl (λh=>?_) (λh=>by cases h);refine Qj ?_;exact Wa rfl (rC (Gd (v:=.atom _) rfl (vR _)) rN) (Ae hN.symm);refine qa ?_;refine ia (pI (c:=c) rfl rfl (by omega) rfl)<|Ga ?_;refine Ca (λh=>?_) λh=>?_
 have Gr:Yk c=false:=by unfold Yk;rw[decide_eq_false (p:=cv c<=122) (by have:cv c > 122:=Hg h;omega),Bool.and_false]
 rw[Gr,Di] at hN;refine Qj ?_;exact Wa rfl (rC (Gd (v:=.atom _) rfl (vR _)) rN) (Ae hN.symm);have Gr:Yk c=true:=by unfold Yk;rw[Vg (by have:¬ cv c<97:=of_decide_eq_false h3;omega),Vg (by have:¬ cv c > 122:=of_decide_eq_false h;omega)];try rfl
 rw[Gr,Bool.true_and] at hN;refine oa ?_;refine oS (sF [_,_] rfl hT ?_);refine qa ?_;exact Wa rfl (rC (Gd (v:=.atom _) rfl (vR _)) rN) (Ae (by
  rw[hN,Bool.eq_iff_iff,decide_eq_true_iff];exact Wv))
theorem JZ(p:Wd×Nat)(hs:p.1.length<=1000000000):ca (KC B0 w0) 106 [Vi p] [] (Dw (Xk (ma p.1))):=by
 obtain⟨w,ln⟩:=p;simp only at hs ⊢;obtain⟨r1,r2⟩:=rp (r9 w);have hlen:(Go.Lib.trimSuffix w [58]).length<=1000000000:=by unfold Go.Lib.trimSuffix;split;rw[List.length_take];omega;exact hs
 unfold Vi;refine Xa Tryz.func106 rfl (n:=18) rfl rfl rfl ?_;refine Xd ?_;refine oS (sB (cs:=[str w,int .i64 ln]) rfl λb1=>?_);refine oa ?_;refine oS (sF [_,_] rfl (cf w [58] hs) ?_);refine oa ?_;refine oB 14 rfl (λh=>?_) λh=>?_;exact kN;rw[h,Di] at r1;refine qa ?_;exact Ow rfl (rC (Gd (v:=.atom _) rfl (vR _)) (rC (Gd (v:=.atom _) rfl (vR _)) rN)) (Xk.mk r1 r2)
theorem qky(p:Wd×Nat)(hs:p.1.length<=1000000000):ca (KC B0 w0) 107 [Vi p] [] (Dw (Xk (La p.1))):=by
 obtain⟨w,ln⟩:=p;simp only at hs ⊢;obtain⟨r1,r2⟩:=rp (D8 w);have hlen:(Go.Lib.trimPrefix w [38]).length<=1000000000:=by unfold Go.Lib.trimPrefix;split;rw[List.length_drop];omega;exact hs
 unfold Vi;refine Xa Tryz.func107 rfl (n:=18) rfl rfl rfl ?_;refine Xd ?_;refine oS (sB (cs:=[str w,int .i64 ln]) rfl λb1=>?_);refine oa ?_;refine oS (sF [_,_] rfl (ef w [38]) ?_);refine oa ?_;refine oB 14 rfl (λh=>?_) λh=>?_;exact kN;rw[h,Di] at r1;refine qa ?_;exact Ow rfl (rC (Gd (v:=.atom _) rfl (vR _)) (rC (Gd (v:=.atom _) rfl (vR _)) rN)) (Xk.mk r1 r2)
theorem qn4(p:Wd×Nat)(hs:p.1.length<=1000000000):ca (KC B0 w0) 108 [Vi p] [] (Hb (bool (Hw p.1))):=by
 obtain⟨w,ln⟩:=p;simp only at hs ⊢;have hT:=qqO (B0:=B0) (w0:=w0) w xz hs da da;have Wv:(Go.Lib.trimS w xz=[]) ↔ Hw w=true:=qqa (p:=λc=>xz.contains c) (λc=>rfl) w;unfold Vi;refine Xa Tryz.func108 rfl (n:=7) rfl rfl rfl ?_;refine Xd ?_;refine oS (sB (cs:=[str w,int .i64 ln]) rfl λb1=>?_);refine oa ?_;refine oS (sF [_,_] rfl hT ?_);refine qa ?_
 exact Wa rfl (rC (Gd (v:=.atom _) rfl (vR _)) rN) (Ae (by
  rw[Bool.eq_iff_iff,decide_eq_true_iff];exact Wv))
theorem qhr(c:UInt8):ca (KC B0 w0) 111 [int .u8 c.toNat] [] (Hb (bool (Rd c))):=by have hD:Rd c=(decide (48<=cv c) && decide (cv c<=57)):=rfl;refine Xa Tryz.func111 rfl (n:=9) rfl rfl rfl ?_;refine ja ?_;refine oB 5 rfl (λh=>?_) λh=>?_;have h':cv c ≥ 48:=Hg h;rw[Vg (show 48<=cv c from h'),Bool.true_and] at hD;refine Ga ?_;exact Wa rfl (rC (Gd (v:=.atom _) rfl (vR _)) rN) (Ae hD.symm);have h':¬ cv c ≥ 48:=of_decide_eq_false h;rw[decide_eq_false (show ¬ 48<=cv c from h'),Di] at hD;refine qa ?_;exact Wa rfl (rC (Gd (v:=.atom _) rfl (vR _)) rN) (Ae hD.symm)
theorem OZ(hG:GW B0 w0)(n:Nat)(hn:n<=1000000000000):ca (KC B0 w0) 110 [int .i64 n] [] (Hb (str (ep n))):=by
 have hi:=TG hG n (by omega);have ub:=qJ n;have hl:(Go.Lib.decDigits n).length<=20:=by rw[Go.Lib.decDigits_length];exact Se (XU 12 n (by omega)) da
 have hA:ep n=([48,48,48,48,48]++Go.Lib.decDigits n).drop (([48,48,48,48,48]++Go.Lib.decDigits n).length-6):=rfl;generalize Go.Lib.decDigits n=d at hi ub hl hA;have Py:=List.length_pos_iff.2 ub;have lr:([48,48,48,48,48]++d:List UInt8).length=d.length+5:=by simp
 refine Xa Tryz.func110 rfl (n:=12) rfl rfl rfl ?_;refine Pj ?_;refine oS (sF [_] rfl hi ?_);refine ja ?_;refine ia (Pure.gj (l:=[48,48,48,48,48]++d) (i:=(([48,48,48,48,48]++d:List UInt8).length:Int)-6) (j:=(([48,48,48,48,48]++d:List UInt8).length:Int)) rfl ⟨_,rfl⟩ rfl (by omega) (by omega) (by omega))<|Qc ?_;exact Wa rfl (rC (Gd (v:=.atom _) rfl (vR _)) rN) (by
  rw[hA];have e1:(((([48,48,48,48,48]++d:List UInt8).length:Nat):Int)-6).toNat=([48,48,48,48,48]++d:List UInt8).length-6:=by omega
  show str (List.drop (((([48,48,48,48,48]++d:List UInt8).length:Nat):Int)-6).toNat (List.take ((([48,48,48,48,48]++d:List UInt8).length:Nat):Int).toNat ([48,48,48,48,48]++d)))=_;rw[e1,Int.toNat_natCast,take_length])
theorem qkM(b:Nat)(l:List UInt8)(H:Heap)(hB:BH b l H):ca (KC B0 w0) 109 [ptr b 0] H (λr H'=>r=.ret (int .i64 l.length)/\H'=H):=by obtain⟨p,v,Hv,hp,kb,rfl⟩:=hB;refine Xa Tryz.func109 rfl (n:=8) rfl rfl rfl ?_;refine oa ?_;refine ia (Pure.M6 rfl kb)<|Qc ?_;exact rR rfl (rC (Gd (v:=.atom _) rfl (vR _)) rN) (Tb _) ⟨rfl,rfl⟩
theorem qk2(b:Nat)(l:List UInt8)(c:UInt8)(H:Heap)(hB:BH b l H)(hlen:l.length<=10000000000):ca (KC B0 w0) 112 [ptr b 0,int .u8 c.toNat] H (λr H'=>(∃ x,r=.ret x)/\BH b (l++[c]) H'):=by
 obtain⟨p,v,Hv,hp,kb,rfl⟩:=hB;refine Xa Tryz.func112 rfl (n:=17) rfl rfl rfl ?_;refine Pj ?_;refine oS (S.Ec (H1:=[(b,_)]) (F:=Hv) [_] rfl (List.Perm.refl _) (qgF b p (.atom v) hp) (λx H' h=>?_) λch H' h=>?_);obtain⟨⟨x',Cn⟩,rfl⟩:=h;cases Cn;refine oa ?_;refine Ui ?_;refine oS (S.NK (q:=(b,.cells 92 [ptr b 0,.atom v])) (l:=l) (m:=[c]) rfl kb rfl (by simp) (by simp;omega) λv' H' qb=>?_);refine qa ?_;have Od:=qb;generalize l++[c]=lm at qb Od ⊢
 cases qb with
 |nil=>refine ja ?_;exact rR rfl (rC (Gd (v:=.atom _) rfl (vR _)) rN) (Tb _) ⟨⟨_,rfl⟩,ptr b 0,_,_,.inr rfl,Od,rfl⟩
 |row h0 h1 h2=>refine ja ?_;exact rR rfl (rC (Gd (v:=.atom _) rfl (vR _)) rN) (Tb _) ⟨⟨_,rfl⟩,ptr b 0,_,_,.inr rfl,Od,rfl⟩
 obtain⟨⟨x',Cn⟩,_⟩:=h;cases Cn
end Sp
end Go.Proofs.YtmnjklgnhpnckaaGreatDoor
namespace Go.Proofs.YtmnjklgnhpnckaaGreatDoor.Sp
open Go.GL Go.RowKit Go.ea
variable{a b:Heap}{all met:List Wd}
abbrev Wb(l:List (Wd×Nat)):List Wd:=l.map (·.1)
theorem qqA{l:List (Wd×Nat)}{i:Nat}(h:i<l.length):Wb (l.take (i+1))=Wb (l.take i)++[l[i].1]:=by unfold Wb;rw[List.take_succ_eq_append_getElem h,Lf];rfl
theorem KY{a:List Wd}{w d:Wd}(h:ma w=some d):yb (a++[w])=yb a++[d]:=by rw[Az,AE,h];rfl
theorem XO{a:List Wd}{w:Wd}(h:ma w=none):yb (a++[w])=yb a:=by rw[Az,Zj h];simp[yb]
theorem set_nil:qe #[] (λs=>decide (s∈([]:List Wd))):=⟨λe he=>by simp at he,λs h=>by simp at h⟩
theorem qqe{es:Array MapEntry}{ds:List Wd}{d:Wd}(h:qe es λs=>decide (s∈ds) || decide (s=d)):qe es (λs=>decide (s∈ds++[d])):=
 cast (congrArg (qe es) (funext λs=>by simp)) h
attribute [local irreducible] wa Qa Ra ca Go.GL.Pure Ud xe od LQ Eb Tf Rh
variable{B0:Nat}{w0:World}
theorem Fm(hG:GW B0 w0)(hM:GM w0)(s:List UInt8)(hs:s.length<=400000000):ca (KC B0 w0) 52 [str s] [] (Hb (.list ((nu s).map Vi))):=by
 have hP:nu s=pC 0 (eg 10 s):=rfl;have yp:=uZ 10 s;have hpa:((eg 10 s).map str).length=(eg 10 s).length:=ab _;have jB:(nu s).length<=s.length+1:=by have h1:=oZ s;rw[<-lJ,ab] at h1;exact h1
 have Iz:=qlE hG hM s 10 zo;refine Xa Tryz.func52 rfl (n:=41) rfl rfl rfl ?_;refine Pj ?_;refine oS (sF [_,_] rfl Iz ?_);refine Ga ?_;refine oL (λk ls H=>∃ (i:Nat) (out:List (Wd×Nat)) (v:LV),i<=(eg 10 s).length/\k=(eg 10 s).length-i/\ls=[(3,v),(9,.list ((eg 10 s).map str)),(10,int .i64 (eg 10 s).length),(11,int .i64 (i:Nat))]/\Acc 2 v (out.map Vi) H []/\out++pC i ((eg 10 s).drop i)=nu s)
  ⟨_,_,_,⟨0,[],Ob,zero_le _,rfl,rfl,Acc.nil,rfl⟩,jb,Tb _⟩ ?_
 rintro k ls H ⟨i,out,v,hi,rfl,rfl,kb,hE⟩ j hj;refine wg ?_;refine Ca (λhc=>?_) λhc=>?_
 ·have za:i<(eg 10 s).length:=by have:=zt hc;omega
  have Qp:out.length<=(nu s).length:=by rw[<-hE,ya];omega
  rw[qq8 za] at hE;have YC:=iV (getElem_mem za);have Pm:=qwk hG hM (eg 10 s)[i] 35 zo;have hW:Rs (eg 10 s)[i]=full (eg 32 ((eg 10 s)[i].takeWhile λd=>decide (d≠35))):=rfl;have htw:((eg 10 s)[i].takeWhile λd=>decide (d≠35)).length<=(eg 10 s)[i].length:=(List.takeWhile_prefix _).length_le;have Jk:=qlE hG hM ((eg 10 s)[i].takeWhile λd=>decide (d≠35)) 32 zo;have hql:=uZ 32 ((eg 10 s)[i].takeWhile λd=>decide (d≠35));generalize (eg 10 s)[i].takeWhile (λd=>decide (d≠35))=line at Pm hW htw Jk hql;generalize hq:eg 32 line=q at hW Jk hql;have hqa:(q.map str).length=q.length:=ab _
  repeat (first|refine wa.nil ?_|refine qN ?_|refine Qa.skip ?_)
  refine Qa.seq ?_;refine cM (A:=List (Wd×Nat)×LV×Heap) (λa=>[(3,a.2.1),(9,.list ((eg 10 s).map str)),(10,int .i64 (eg 10 s).length),(11,int .i64 (i:Nat))]) (λa=>a.2.2) (λa=>a.1=out++(full q).map (λw=>(w,i+1))/\Acc 2 a.2.1 (a.1.map Vi) a.2.2 []) ?_ ?_;refine oa ?_;refine ia (xR (ve:=str (eg 10 s)[i]) (cs:=[str (eg 10 s)[i]]) rfl rfl zo (rn _ _ _ za) rfl rfl)<|ja ?_;refine oS (S.Yh [_,_] rfl Pm ?_);rintro lv ⟨a,b,rfl⟩;refine oa ?_;refine oS (sF [_,_] rfl Jk ?_);refine Ga ?_
  refine oL (λk ls H=>∃ (x:Nat) (Ho:List (Wd×Nat)) (v:LV),x<=q.length/\k=q.length-x/\ls=[(3,v),(4,int .i64 (i:Nat)),(9,.list ((eg 10 s).map str)),(10,int .i64 (eg 10 s).length),(11,int .i64 (i:Nat)),(23,.list (q.map str)),(24,int .i64 q.length),(25,int .i64 (x:Nat))]/\Acc 2 v (Ho.map Vi) H []/\Ho.length<=out.length+x/\Ho++(full (q.drop x)).map (λw=>(w,i+1))=out++(full q).map λw=>(w,i+1))
   ⟨_,_,_,⟨0,out,v,zero_le _,rfl,rfl,kb,by omega,rfl⟩,jb,Tb _⟩ ?_
  rintro k ls H ⟨x,Ho,v2,hx,rfl,rfl,Od,kl,Er⟩ j2 tc;have aal:(Ho.map Vi).length=Ho.length:=ab _;refine wg ?_;refine Ca (λhc=>?_) λhc=>?_;have Xv:x<q.length:=by have:=zt hc;omega
  rw[qsy Xv] at Er;refine Zi ?_;refine ia (xR (ve:=str q[x]) (cs:=[str q[x]]) rfl rfl zo (rn _ _ _ Xv) rfl rfl)<|ja ?_;refine Ca (λhn=>?_) λhn=>?_;have ub:¬ q[x]=[]:=by simpa using hn
  rw[zn ub] at Er;refine Xd ?_;refine ia (pM (lv:=v2) rfl)<|Ga ?_;refine Ui ?_;refine oS (S.acc rfl Od rfl (by simp;rfl) rfl (by simp;omega) λv3 H3 qx=>ia (pA (lv:=v3) rfl) ?_);refine rl ?_;exact⟨_,_,_,by omega,⟨x+1,Ho++[(q[x],i+1)],v3,by omega,rfl,rfl,by rw[Lf];exact qx,by simp;omega,by rw[Pc];exact Er⟩,jb,Tb _,tc⟩;have ub:q[x]=[]:=by simpa using hn
  rw[zp ub] at Er;refine oa ?_;exact⟨_,_,_,by omega,⟨x+1,Ho,v2,by omega,rfl,rfl,Od,by omega,Er⟩,jb,Tb _,tc⟩;have Cn:x=q.length:=by have:=zf hc;omega
  subst Cn;rw[drop_length] at Er;refine qa ?_;exact⟨(Ho,v2,H),⟨by simpa [full] using Er,Od⟩,jb,Tb _,tc⟩;rintro⟨Ho,v2,H2⟩ ⟨ho,Od⟩ j3 Om;simp only at ho Od;rw[hW,<-Pc,<-ho] at hE;refine rl ?_;exact⟨_,_,_,by omega,⟨i+1,Ho,v2,by omega,rfl,rfl,Od,by rw[<-hE]⟩,jb,Tb _,Om.trans hj⟩
 have xi:i=(eg 10 s).length:=by have:=zf hc;omega
 subst xi;rw[drop_length,pC,Jd] at hE;subst hE;refine Qa.sub (d:=3) (v:=v) rfl kb.sub ?_;refine cW Vc ?_;refine ja ?_;exact Wa hj (rC (Gd (v:=.list _) rfl ld) rN) rfl
theorem qpU{p:Wd×Nat}{x:Wd}{r:List (Wd×Nat)}(h:ma p.1=some x):ze all met (p::r)=if x∈met then (p.2,8) else ze all (met++[x]) r:=by obtain⟨w,ln⟩:=p;simp only at h;rw[ze,h]
theorem qqW{p:Wd×Nat}{x:Wd}{r:List (Wd×Nat)}(h:ma p.1=none)(h2:La p.1=some x):ze all met (p::r)=if x∈all then ze all met r else (p.2,7):=by obtain⟨w,ln⟩:=p;simp only at h h2;rw[ze,h,h2]
theorem qoe{p:Wd×Nat}{r:List (Wd×Nat)}(h:ma p.1=none)(h2:La p.1=none):ze all met (p::r)=if Hw p.1=true then ze all met r else (p.2,3):=by obtain⟨w,ln⟩:=p;simp only at h h2;rw[ze,h,h2]
theorem Ff(l:List (Wd×Nat))(hl:l.length<=1000000000)(hs:∀ p∈l,p.1.length<=1000000000):ca (KC B0 w0) 53 [.list (l.map Vi)] [] (Hb (.tuple [int .i64 ((ze (yb (Wb l)) [] l).1:Nat),int .i64 ((ze (yb (Wb l)) [] l).2:Nat)])):=by
 have BB:(l.map Vi).length=l.length:=ab _;have zb:∀ w,(zeroValue 4).run (KC B0 w0).P w=.ok (.bool false) w:=λw=>(Go.zero_of_info (P:=Tryz.prog) (n:=1) zk).1 w;generalize hR:ze (yb (Wb l)) [] l=R;refine Xa Tryz.func53 rfl (n:=70) rfl rfl rfl ?_;refine Ln ?_;refine oS (S.makeMap λm=>?_);refine ja ?_
 refine oL (λk ls H=>∃ (i:Nat) (es:Array MapEntry) (clock:Nat),i<=l.length/\k=l.length-i/\ls=[(0,.list (l.map Vi)),(4,.atom (.map (some m))),(17,.list (l.map Vi)),(18,int .i64 l.length),(19,int .i64 (i:Nat))]/\H=[(m,.obj (.map es clock))]/\qe es λs=>decide (s∈yb (Wb (l.take i))))
  ⟨_,_,_,⟨0,#[],0,zero_le _,rfl,rfl,rfl,set_nil⟩,jb,Tb _⟩ ?_
 rintro k ls H ⟨i,es,clock,hi,rfl,rfl,rfl,hM⟩ j1 Vf;refine wg ?_;refine Ca (λhc=>?_) λhc=>?_;have za:i<l.length:=by have:=zt hc;omega
 have kd:=JZ (B0:=B0) (w0:=w0) l[i] (by have:=hs _ (getElem_mem za);omega);have XE:=qqA za;refine ID ?_;refine oS (Rc λb6=>?_);refine ja ?_;refine oS (S.Yh [_] rfl kd ?_);rintro lv ⟨s,rfl,Jk⟩;refine oa ?_;refine Ca (λh=>?_) λh=>?_;obtain⟨d,hd⟩:=zR h;obtain rfl:=Jk d hd;refine Bd ?_;refine oS (S.Ou (t:=112) (kt:=9) (el:=4) zk zk rfl rfl rfl Fc hM λRo mc BR=>?_);refine rl ?_;exact⟨_,_,_,by omega,⟨i+1,Ro,mc,by omega,rfl,rfl,rfl,by rw[XE,KY hd];exact qqe BR⟩,jb,⟨[_],List.Perm.refl _⟩,Vf⟩
 have hn:ma l[i].1=none:=by
  cases ho:ma l[i].1 with
  |none=>rfl
  |some d=>rw[ho] at h;cases h
 refine oa ?_;exact⟨_,_,_,by omega,⟨i+1,es,clock,by omega,rfl,rfl,rfl,by rw[XE,XO hn];exact hM⟩,jb,Gg Ya,Vf⟩;have xi:i=l.length:=by have:=zf hc;omega
 subst xi;rw[take_length] at hM;refine oa ?_;refine oS (S.makeMap λm2=>?_);refine ja ?_;refine oL (λk ls H=>∃ (i:Nat) (QR:Array MapEntry) (Kr:Nat),i<=l.length/\k=l.length-i/\ls=[(4,.atom (.map (some m))),(9,.atom (.map (some m2))),(33,.list (l.map Vi)),(34,int .i64 l.length),(35,int .i64 (i:Nat))]/\H=[(m2,.obj (.map QR Kr)),(m,.obj (.map es clock))]/\qe QR (λs=>decide (s∈yb (Wb (l.take i))))/\ze (yb (Wb l)) (yb (Wb (l.take i))) (l.drop i)=R)
  ⟨_,_,_,⟨0,#[],0,zero_le _,rfl,rfl,rfl,set_nil,hR⟩,jb,Tb _⟩ ?_
 rintro k ls H ⟨i,QR,Kr,hi,rfl,rfl,rfl,NV,hE⟩ j2 tc;refine wg ?_;refine Ca (λhc=>?_) λhc=>?_
 ·have za:i<l.length:=by have:=zt hc;omega
  have lr:=hs _ (getElem_mem za);have kd:=JZ (B0:=B0) (w0:=w0) l[i] zo;have kr:=qky (B0:=B0) (w0:=w0) l[i] zo;have kc:=qn4 (B0:=B0) (w0:=w0) l[i] zo;have XE:=qqA za;rw[List.drop_eq_getElem_cons za] at hE;refine ID ?_;refine oS (Rc λb11=>?_);refine ja ?_;refine oS (S.Yh [_] rfl kd ?_);rintro lv ⟨s,rfl,Jk⟩;refine oa ?_;refine Ca (λh=>?_) λh=>?_
  ·obtain⟨d,hd⟩:=zR h;obtain rfl:=Jk d hd;refine Bd ?_;refine ia (Pure.Qu (t:=112) (kt:=9) (el:=4) zk zk zb rfl rfl xf NV)<|Qc ?_;refine Ca (λh3=>?_) λh3=>?_;have fg:=zt h3;refine oa ?_;rw[qpU hd,zp fg] at hE;exact Wa (tc.trans Vf) (rC (Ic rfl) (Oa rfl)) (by rw[<-hE];rfl);have fg:=zf h3;refine oa ?_;refine oS (S.Ou (t:=112) (kt:=9) (el:=4) zk zk rfl rfl rfl Fc NV λRo mc BR=>?_);refine rl ?_;exact⟨_,_,_,by omega,⟨i+1,Ro,mc,by omega,rfl,rfl,rfl,by rw[XE,KY hd];exact qqe BR,by rw[XE,KY hd,<-hE,qpU hd,zn fg]⟩,jb,⟨[_],Sr _ (Vp ..)⟩,tc⟩
  have hn:ma l[i].1=none:=by
   cases ho:ma l[i].1 with
   |none=>rfl
   |some d=>rw[ho] at h;cases h
  refine ja ?_;refine oS (S.Yh [_] rfl kr ?_);rintro lv ⟨s,rfl,CM⟩;refine oa ?_;refine Ca (λh3=>?_) λh3=>?_;obtain⟨d,hd⟩:=zR h3;obtain rfl:=CM d hd;refine Bd ?_;refine ia (Pure.Qu (t:=112) (kt:=9) (el:=4) zk zk zb rfl rfl Vz hM)<|Ga ?_;refine Ca (λh4=>?_) λh4=>?_;have fg:¬ s∈yb (Wb l):=by simpa using h4
  refine oa ?_;rw[qqW hn hd,zn fg] at hE;exact Wa (tc.trans Vf) (rC (Ic rfl) (Oa rfl)) (by rw[<-hE];rfl);have fg:s∈yb (Wb l):=by simpa using h4
  refine oa ?_;exact⟨_,_,_,by omega,⟨i+1,QR,Kr,by omega,rfl,rfl,rfl,by rw[XE,XO hn];exact NV,by rw[XE,XO hn,<-hE,qqW hn hd,zp fg]⟩,jb,Gg Ya,tc⟩;have uV:La l[i].1=none:=by
   cases ho:La l[i].1 with
   |none=>rfl
   |some d=>rw[ho] at h3;cases h3
  refine ja ?_;refine oS (sF [_] rfl kc ?_);refine Ga ?_;refine Ca (λh4=>?_) λh4=>?_;have fg:¬ Hw l[i].1=true:=by simpa using h4
  refine oa ?_;rw[qoe hn uV,zn fg] at hE;exact Wa (tc.trans Vf) (rC (Ic rfl) (Oa rfl)) (by rw[<-hE];rfl);have fg:Hw l[i].1=true:=by simpa using h4
  refine oa ?_;exact⟨_,_,_,by omega,⟨i+1,QR,Kr,by omega,rfl,rfl,rfl,by rw[XE,XO hn];exact NV,by rw[XE,XO hn,<-hE,qoe hn uV,zp fg]⟩,jb,Gg Ya,tc⟩
 have xi:i=l.length:=by have:=zf hc;omega
 subst xi;rw[drop_length,ze] at hE;refine oa ?_;exact Wa (tc.trans Vf) (rC (Ic rfl) (Oa rfl)) (by rw[<-hE];rfl)
def DI(km:Option Nat)(Hk:Heap)(kn:Wd->Nat):Prop:=(km=none/\Hk=[]/\∀ x,kn x=0)∨∃ b m clock,km=some b/\Hk=[(b,.map (ye m) clock)]/\∀ x,(GL.db m x).getD (int .i64 0)=int .i64 (kn x:Nat)
section
variable{C:Ctx}{e:Env}{H:Heap}{dst:Option Nat}{ty:TypeId}{pos:String}{ka:Array Edge}{g:Option (Nat×Bool)}{K:LV->Heap->Prop}{X:List PanicEntry->Heap->Prop}{x y:Operand}
theorem S.known{t kt el:TypeId}(ht:C.P.underlying t=some (.map kt el))(mh:C.P.underlying kt=some .string)(hz:∀ w,(zeroValue el).run C.P w=.ok (.int .i64 0) w){km:Option Nat}{Hk:Heap}{kn:Wd->Nat}{k:List UInt8}(hK:DI km Hk kn)(hm:e.ev x=.atom (.map km))(hx:e.ev y=str k)
  (hb:∀ q∈Hk,q∈H) (hk:K (int .i64 (kn k:Nat)) H):Ra C ⟨dst,.lookup t x y false,ty,pos,ka,g⟩ e H K X:=by
 rcases hK with⟨rfl,rfl,h0⟩|⟨b,m,clock,rfl,rfl,hI⟩;refine Pure.step (Pure.FJ ht mh hz hm hx) ?_;rw[h0 k] at hk;exact hk;refine Pure.step (Pure.db ht mh hz (zl:=int .i64 0) (λ_ _=>Zc) hm hx (hb _ (Cp rfl))) ?_;rw[hI k];exact hk
end
theorem CX{q:Nat×ga}:HSub (a++b) (a++q::b):=⟨[q],List.perm_middle.trans (List.perm_append_singleton _ _).symm⟩
theorem qvX{q:Nat×ga}:HSub (a++b) ((a++[q])++b):=by rw[Pc];exact CX
theorem qyQ(a b:Nat):int .i64 ((a+b:Nat):Int)=int .i64 ((a:Int)+(b:Nat)):=lh zo
theorem qwM{q:Nat×ga}:(a++q::b).Perm (b++(a++[q])):=by have h:=Nh (l₁:=a++[q]) (l₂:=b);rw[Pc] at h;exact h
theorem qy0{s:Nat}{v:LV}{es:List LV}{H F:Heap}(h:Acc s v es H F):HSub (a++F) (a++H):=by
 cases h with
 |nil=>exact Tb _
 |row=>exact CX
theorem IX(kn:Wd->Nat)(og:Nat)(l:List Wd)(t:Wd)(Za:List (Wd×Nat))(h:∀ w∈l,w≠[]):t.length<=(l.foldl (Lg kn og) (t,Za)).1.length:=by rw[EU,SY kn l t h];omega
theorem qnB(kn:Wd->Nat)(og:Nat):∀ (l:List Wd) (s:Wd×List (Wd×Nat)),s.2.length<=((l.foldl (Lg kn og) s).2).length/\((l.foldl (Lg kn og) s).2).length<=s.2.length+l.length
 |[],s=>by simp
 |w::r,s=>by
  rw[foldl_cons];have:=qnB kn og r (Lg kn og s w);have h2:s.2.length<=(Lg kn og s w).2.length/\(Lg kn og s w).2.length<=s.2.length+1:=by
   unfold Lg;cases ma w with
   |some x=>simp
   |none=>simp
  simp only[Ba];omega
theorem qvF:sf []=Rd 32:=by decide
theorem qtj(hG:GW B0 w0)(l:List (Wd×Nat))(og:Nat)(MQ:og<=1000000)(hl:l.length<=1000000000)(hs:∀ p∈l,p.1≠[]/\p.1.length<=1000000000)(kn:Wd->Nat)(ZC:∀ x,kn x<=1000000000000)(hL:((Wb l).foldl (Lg kn og) ([],[])).1.length<=2000000000)(km:Option Nat)(Hk:Heap)(hK:DI km Hk kn) :
  ca (KC B0 w0) 54 [.list (l.map Vi),int .i64 (og:Nat),.atom (.map km)] Hk (λr H'=>r=.ret (.tuple [str ((Wb l).foldl (Lg kn og) ([],[])).1,.list (((Wb l).foldl (Lg kn og) ([],[])).2.map Vi)])/\H'=Hk):=by
 have BB:(l.map Vi).length=l.length:=ab _;have zi:∀ w,(zeroValue 3).run (KC B0 w0).P w=.ok (.int .i64 0) w:=λw=>(Go.zero_of_info (P:=Tryz.prog) (n:=1) zk).1 w
 have OQ:∀ i,∀ w∈Wb (l.drop i),w≠[]:=λi w hw=>by obtain⟨p,hp,rfl⟩:=Ei hw;exact(hs p (List.mem_of_mem_drop hp)).1
 generalize hR:(Wb l).foldl (Lg kn og) ([],[])=R at hL ⊢;refine Xa Tryz.func54 rfl (n:=68) rfl rfl rfl ?_;refine Ln ?_;refine oS (Rc λbb=>?_);refine ja ?_;refine oL (λk ls H=>∃ (i:Nat) (t:List UInt8) (Za:List (Wd×Nat)) (v:LV) (last:UInt8) (HB HL:Heap),i<=l.length/\k=l.length-i/\ls=[(1,int .i64 (og:Nat)),(2,.atom (.map km)),(8,ptr bb 0),(9,v),(10,int .u8 last.toNat),(18,.list (l.map Vi)),(19,int .i64 l.length),(20,int .i64 (i:Nat))]/\H=HB++HL/\BH bb t HB/\Acc 2 v (Za.map Vi) HL Hk/\sf t=Rd last/\Za.length<=i/\(Wb (l.drop i)).foldl (Lg kn og) (t,Za)=R)
  ⟨_,_,_,⟨0,[],[],Ob,32,[(bb,.cells 92 [.atom (.pointer none),.atom (.slice none 0 0)])],Hk,zero_le _,rfl,rfl,rfl,⟨_,_,[],.inl rfl,Qg.nil,rfl⟩,Acc.nil,qvF,zero_le _,hR⟩,jb,Tb _⟩ ?_
 rintro k ls H ⟨i,t,Za,v,last,HB,HL,hi,rfl,rfl,rfl,hB,kb,XQ,YC,hE⟩ j hj;have FM:(Za.map Vi).length=Za.length:=ab _;have htR:=IX kn og (Wb (l.drop i)) t Za (OQ i);rw[hE] at htR;refine wg ?_;refine Ca (λhc=>?_) λhc=>?_;have za:i<l.length:=by have:=zt hc;omega
 obtain⟨ub,lr⟩:=hs _ (getElem_mem za);have kd:=JZ (B0:=B0) (w0:=w0) l[i] zo;have kr:=qky (B0:=B0) (w0:=w0) l[i] zo;have Lh:Wb (l.drop i)=l[i].1::Wb (l.drop (i+1)):=by unfold Wb;rw[List.drop_eq_getElem_cons za,jd]
 rw[Lh,foldl_cons] at hE;refine ID ?_;refine oS (Rc λJF=>?_);refine ja ?_;refine oS (S.Yh [_] rfl kd ?_);rintro lv ⟨s,rfl,Jk⟩;refine oa ?_;refine Ca (λh=>?_) λh=>?_;obtain⟨d,hd⟩:=zR h;obtain rfl:=Jk d hd;have gl:Lg kn og (t,Za) l[i].1=(t,Za++[(s,og+t.length)]):=by unfold Lg;rw[hd]
 rw[gl] at hE;refine Xd ?_;refine Zm ?_;refine qa ?_;refine oS (S.Ec (H1:=HB) (F:=(JF,.cells 185 [str l[i].1,int .i64 l[i].2])::HL) [_] rfl List.perm_middle.symm (qkM bb t HB hB) (λv' H' h=>?_) (λch H' h=>by obtain⟨h,_⟩:=h;cases h));obtain⟨hv,rfl⟩:=h;cases hv;refine Ga ?_;refine Ui ?_;refine oS (sG (H1:=HL) (A:=H'++[(JF,.cells 185 [str l[i].1,int .i64 l[i].2])]) qwM rfl kb rfl (by simp;rfl) rfl (by simp;omega) λv' H2 qb=>?_);refine ik ?_;refine oa ?_
 exact⟨_,_,_,by omega,⟨i+1,t,Za++[(s,og+t.length)],v',last,H',H2,by omega,rfl,rfl,rfl,hB,by
  rw[Lf];have e1:[Vi (s,og+t.length)]=[LV.agg [str s,int .i64 ((og:Int)+(t.length:Nat))]]:=by unfold Vi;rw[qyQ]
  rw[List.map_singleton,e1];exact qb,XQ,by simp;omega,hE⟩,jb,qvX,hj⟩
 have hn:ma l[i].1=none:=by
  cases ho:ma l[i].1 with
  |none=>rfl
  |some d=>rw[ho] at h;cases h
 have gl:Lg kn og (t,Za) l[i].1=(Yd kn t l[i].1,Za):=by unfold Lg;rw[hn]
 obtain⟨VC,DM,xV⟩:=zP kn t l[i].1 hn ub;have rK:Yd kn t l[i].1=t++(if sf t && Jl (Ke kn l[i].1) then [32] else [])++Ke kn l[i].1:=by unfold Yd;rw[hn]
 have S1:=IX kn og (Wb (l.drop (i+1))) (Yd kn t l[i].1) Za (OQ (i+1));rw[gl] at hE;rw[hE] at S1;refine cM (A:=Wd) (λs=>[(1,int .i64 (og:Nat)),(2,.atom (.map km)),(8,ptr bb 0),(9,v),(10,int .u8 last.toNat),(13,str s),(18,.list (l.map Vi)),(19,int .i64 l.length),(20,int .i64 (i:Nat))]) (λ_=>(JF,.cells 185 [str l[i].1,int .i64 l[i].2])::(HB++HL)) (λs=>s=Ke kn l[i].1) ?_ ?_;refine ja ?_;refine oS (S.Yh [_] rfl kr ?_);rintro lv ⟨s,rfl,CM⟩;refine oa ?_;refine Ca (λh3=>?_) λh3=>?_;obtain⟨d,hd⟩:=zR h3;obtain rfl:=CM d hd;refine Bd ?_;refine oS (S.known (t:=119) (kt:=9) (el:=3) zk zk zi hK rfl rfl (λq hq=>Gc _ (List.mem_append_right _ (kb.Oy.mem q hq)))<|oS (sF [_] rfl (OZ hG (kn s) (ZC s)) ?_));refine Qc ?_;exact⟨ep (kn s),(by unfold Ke;rw[hd]),jb,Tb _,rfl⟩
 have uV:La l[i].1=none:=by
  cases ho:La l[i].1 with
  |none=>rfl
  |some d=>rw[ho] at h3;cases h3
 refine qa ?_;exact⟨l[i].1,(by unfold Ke;rw[uV]),jb,Tb _,rfl⟩;rintro s Np j2 tc;rw[<-Np] at VC DM xV rK;have cF:=VC;have Ry:=one_le (Rd last && Jl s);obtain⟨c,r,NH⟩:=List.exists_cons_of_ne_nil cF;have hfc:Jl s=Rd c:=by rw[NH];rfl
 rw[XQ] at rK xV;refine Qa.seq ?_;refine cM (A:=Heap) (λ_=>[(1,int .i64 (og:Nat)),(2,.atom (.map km)),(8,ptr bb 0),(9,v),(10,int .u8 last.toNat),(13,str s),(18,.list (l.map Vi)),(19,int .i64 l.length),(20,int .i64 (i:Nat))]) (λZM=>ZM++(JF,.cells 185 [str l[i].1,int .i64 l[i].2])::HL) (λZM=>BH bb (t++if (Rd last && Jl s)=true then [32] else []) ZM) ?_ ?_;refine Bd ?_;refine oS (sF [_] rfl (qhr last) ?_);refine qa ?_;refine oB 52 rfl (λh4=>?_) λh4=>?_;have yF:Rd last=true:=h4;rw[yF,Bool.true_and,hfc];refine qa ?_;refine ia (pI (c:=c) rfl rfl zo (by rw[NH];rfl))<|qa ?_;refine oS (sF [_] rfl (qhr c) ?_);refine qa ?_;refine Ca (λh5=>?_) λh5=>?_;refine Xd ?_;refine oS (S.Ec (H1:=HB) (F:=(JF,.cells 185 [str l[i].1,int .i64 l[i].2])::HL) [_,_] rfl List.perm_middle.symm (qk2 bb t 32 HB hB zo) (λv' H' h=>?_) (λch H' h=>by obtain⟨⟨x,h⟩,_⟩:=h;cases h));refine Qc ?_;exact⟨H',by rw[zp h5];exact h.2,jb,Tb _,rfl⟩;refine qa ?_;exact⟨HB,by rw[zn (by rw[h5];decide),Jd];exact hB,jb,⟨[],by simpa using List.perm_middle.symm⟩,rfl⟩;have yF:Rd last=false:=h4;rw[yF,Di];refine qa ?_;refine oC rfl (λh5=>by cases h5) λh5=>?_;refine qa ?_;exact⟨HB,by rw[zn da,Jd];exact hB,jb,⟨[],by simpa using List.perm_middle.symm⟩,rfl⟩;rintro ZM QV j3 Om;have aaj:=List.length_pos_iff.2 cF
 have wm:s[((s.length:Int)-1).toNat]? = some (s.getLast cF):=by rw[show((s.length:Int)-1).toNat=s.length-1 by omega,List.getLast_eq_getElem,di zo]
 have fx:sf s=Rd (s.getLast cF):=by unfold sf;rw[List.getLast?_eq_some_getLast cF]
 have jB:(t++if (Rd last && Jl s)=true then [32] else []).length+s.length<=2000000000:=by
  have:(t++if (Rd last && Jl s)=true then [32] else []).length=t.length+one (Rd last && Jl s):=by rw[ya];unfold one;split <;> rfl
  omega
 rw[rK] at hE DM;generalize (t++if (Rd last && Jl s)=true then [32] else [])=t2 at QV jB hE DM;refine Bd ?_;refine oS (S.Ec (H1:=ZM) (F:=(JF,.cells 185 [str l[i].1,int .i64 l[i].2])::HL) [_,_] rfl Kb (qfA bb t2 s ZM QV zo) (λv' H' h=>?_) (λch H' h=>by obtain⟨⟨x,h⟩,_⟩:=h;cases h));obtain⟨⟨x,hx⟩,GR⟩:=h;refine ja ?_;refine ia (pI (c:=s.getLast cF) rfl rfl zo wm)<|oa ?_;exact⟨_,_,_,by omega,⟨i+1,t2++s,Za,v,s.getLast cF,H',HL,by omega,rfl,rfl,rfl,GR,kb,by rw[DM,fx],by omega,hE⟩,jb,CX,Om.trans (tc.trans hj)⟩;have xi:i=l.length:=by have:=zf hc;omega
 subst xi;rw[drop_length] at hE;have G5:(t,Za)=R:=hE;subst G5;refine Qa.sub (d:=9) (v:=v) rfl kb.sub ?_;refine cW (qy0 kb) ?_;refine oa ?_;refine oS (S.Ec (H1:=HB) (F:=Hk) [_] rfl Kb (MZ bb t HB hB zo) (λv' H' h=>?_) (λch H' h=>by obtain⟨h,_⟩:=h;cases h));obtain⟨hv,rfl⟩:=h;cases hv;refine Ga ?_;exact rR hj (rC (Ic rfl) (rC (Gd (v:=.list _) rfl ld) rN)) Ya ⟨rfl,by simp⟩
theorem OT:∀ (l:List Wd) (d:Bool),Sb d l<=3 * kf l
 |[],d=>zero_le _
 |w::r,d=>by
  have h1:=one_le d;have h2:=one_le (d && Jl w);rw[Sb,Jj];cases ma w with
  |some l=>have:=OT r d;simp only;omega
  |none=>
   cases hr:La w with
   |some l=>
    have:=OT r true;have hlen:2<=w.length:=by unfold La at hr;split at hr;cases hr;rename_i c q;split at hr;rename_i hc;have:=List.length_pos_iff.2 (qwJ hc.2);simp only[Ba];omega;cases hr
    simp only;omega
   |none=>have:=OT r (sf w);simp only;omega
theorem P9(kn:Wd->Nat)(og M:Nat):∀ (l:List Wd) (s:Wd×List (Wd×Nat)),(∀ w∈l,w≠[])->((l.foldl (Lg kn og) s).1).length<=M->(∀ p∈s.2,p.2<=og+M)->∀ p∈(l.foldl (Lg kn og) s).2,p.2<=og+M
 |[],s,_,_,h=>h
 |w::r,s,hw,hM,h=>by
  rw[foldl_cons] at hM ⊢;refine P9 kn og M r _ (λx hx=>hw x (Gc w hx)) hM ?_;have h1:=IX kn og r (Lg kn og s w).1 (Lg kn og s w).2 λx hx=>hw x (Gc w hx);intro p hp;unfold Lg at hp h1 hM
  cases hd:ma w with
  |none=>rw[hd] at hp;exact h p hp
  |some x=>rw[hd] at hp h1 hM;simp only at hp h1 hM;rcases vj hp with hp|hp;exact h p hp;rw[cj hp];simp only;omega
def XD(Za:List (Wd×Nat)):KV:=Za.map λp=>(p.1,int .i64 (p.2:Nat))
theorem qnh:∀ (Za:List (Wd×Nat)) (x:Wd),(GL.db (XD Za) x).getD (int .i64 0)=int .i64 (Un Za x:Nat)
 |[],x=>rfl
 |p::r,x=>by unfold XD Un;rw[jd,GL.db,List.find?_cons];by_cases h:p.1=x;rw[zp h,Vg h];rfl;rw[zn h,decide_eq_false h];exact qnh r x
theorem qrj{Za:List (Wd×Nat)}{i:Nat}(h:i<Za.length)(hn:(Za.map (·.1)).Nodup):GL.rc (XD (Za.take i)) Za[i].1 (int .i64 (Za[i].2:Nat))=XD (Za.take (i+1)):=by
 unfold XD;rw[List.take_succ_eq_append_getElem h,Lf];refine dT ?_;rw[map_map];intro hm;have e1:Za.map (·.1)=(Za.take i).map (·.1)++Za[i].1::(Za.drop (i+1)).map (·.1):=by
  conv=>lhs;rw[<-List.take_append_drop i Za,List.drop_eq_getElem_cons h]
  rw[Lf,jd]
 rw[e1,List.nodup_append] at hn;exact hn.2.2 _ hm _ Ce rfl
theorem qwF{Za:List (Wd×Nat)}{M:Nat}(h:∀ p∈Za,p.2<=M)(x:Wd):Un Za x<=M:=by
 unfold Un;cases hf:Za.find? λp=>decide (p.1=x) with
 |none=>exact zero_le _
 |some p=>exact h p (List.mem_of_find?_eq_some hf)
def cu:Except (Nat×Nat) (Wd×List (Wd×Nat))->LV
 |.error e=>.tuple [str [],.list [],int .i64 (e.1:Nat),int .i64 (e.2:Nat)]
 |.ok x=>.tuple [str x.1,.list (x.2.map Vi),int .i64 0,int .i64 0]
theorem ek(hG:GW B0 w0)(hM:GM w0)(src:List UInt8)(og:Int)(hs:src.length<=300000000):ca (KC B0 w0) 30 [str src,int .i64 og] [] (Hb (cu (vh src og))):=by
 have hA:vh src og=vh src og:=rfl
 conv at hA=>rhs;unfold vh
 generalize hR:vh src og=R at hA ⊢;refine ca.QJ Tryz.func30 rfl (n:=65) rfl rfl rfl ?_;refine oa ?_;refine oB 19 rfl (λh1=>?_) λh1=>?_;have TV:og<0:=zt h1;rw[zp (.inl TV)] at hA;subst hA;refine qa ?_;refine oC rfl (λh=>?_) (λh=>by cases h);refine Qj ?_;exact Wa rfl (rC (Ic rfl) (rC (Gd (v:=Ob) rfl vN) (rC (Ic rfl) (Oa rfl)))) rfl;have TV:¬ og<0:=zf h1;refine Ga ?_;refine Ca (λh2=>?_) λh2=>?_;have Pz:og ≥ 262144:=zt h2;rw[zp (.inr Pz)] at hA;subst hA;refine Qj ?_;exact Wa rfl (rC (Ic rfl) (rC (Gd (v:=Ob) rfl vN) (rC (Ic rfl) (Oa rfl)))) rfl;have Pz:¬ og ≥ 262144:=zf h2;rw[zn zo] at hA;obtain⟨o,rfl⟩:∃ o:Nat,og=(o:Int):=⟨og.toNat,by omega⟩;rw[Int.toNat_natCast] at hA;have MV:=@gT src;have IV:=lJ src;have hwt:=IU src;have zM:=oZ src;have oe:=qiW src;have Ml:=OT (xj src) false;have YE:=Fm hG hM src zo;rw[<-IV] at hwt zM oe Ml hA MV;rw[ab] at zM;generalize nu src=l at hwt zM oe Ml YE hA MV;have ub:∀ w∈Wb l,w≠[]:=λw hw=>(oe w hw).1
 have gd:∀ p∈l,p.1≠[]/\p.1.length<=1000000000:=λp hp=>by have hm:p.1∈l.map (·.1):=List.mem_map_of_mem hp;have:=qsq hm;exact⟨(oe _ hm).1,by omega⟩
 have Fs:=Ff (B0:=B0) (w0:=w0) l zo λp hp=>(gd p hp).2
 have hlen:∀ kn,((Wb l).foldl (Lg kn o) ([],[])).1.length=Sb false (Wb l):=λkn=>by rw[EU];exact AY kn _ ub
 have hjo:=λkn ZC km Hk hK=>qtj hG l o zo zo gd kn ZC (by rw[hlen kn];show Sb false (l.map (·.1))<=_;omega) km Hk hK;generalize hE:ze (yb (Wb l)) [] l=E at Fs hA MV;have Er:E=(E.1,E.2):=rfl;refine oa ?_;refine oS (sF [_] rfl YE ?_);refine ja ?_;refine oS (sF [_] rfl Fs ?_);refine ja ?_;refine Ca (λh1=>?_) λh1=>?_;have h3:¬ E.2=0:=by simpa using h1
 rw[zp h3] at hA;subst hA;refine oa ?_;exact Wa rfl (rC (Ic rfl) (rC (Gd (v:=Ob) rfl vN) (rC (Ic rfl) (Oa rfl)))) rfl;have h3:E.2=0:=by simpa using h1
 rw[zn zo] at hA;have dh:=(MV h3).1;refine oa ?_;refine oS (S.Ec (H1:=[]) (F:=[]) [_,_,.const (.map none)] rfl Kb (hjo (λ_=>0) (λ_=>zero_le _) none [] (.inl ⟨rfl,rfl,λ_=>rfl⟩)) (λv' H' hh=>?_) (λch H' hh=>by obtain⟨h,_⟩:=hh;cases h));obtain⟨hv,rfl⟩:=hh;cases hv;have AB:((Wb l).foldl (Lg (λ_=>0) o) ([],[])).2=cp (λ_=>0) o (l.map (·.1)):=rfl;have hle:∀ p∈((Wb l).foldl (Lg (λ_=>0) o) ([],[])).2,p.2<=1000000000000:=λp hp=>by have:=P9 (λ_=>0) o (Sb false (Wb l)) (Wb l) ([],[]) ub (by rw[hlen];exact Nb _) (λp hp=>by cases hp) p hp;have h5:Sb false (Wb l)<=3 * kf (l.map (·.1)):=Ml;omega
 have nq:(((Wb l).foldl (Lg (λ_=>0) o) ([],[])).2.map (·.1)).Nodup:=by rw[DZ];exact dh
 have YC:=(qnB (λ_=>0) o (Wb l) ([],[])).2;rw[AB] at hle nq YC;generalize hLB:cp (λ_=>0) o (l.map (·.1))=Za at hle nq YC hA AB;rw[AB];have aas:Za.length<=l.length:=by have:(Wb l).length=l.length:=ab _;simp only[dc] at YC;omega
 have lF:(Za.map Vi).length=Za.length:=ab _;refine ja ?_;refine oS (S.fl λm=>?_);refine ja ?_;refine oL (λk ls H=>∃ (i:Nat) (clock:Nat),i<=Za.length/\k=Za.length-i/\ls=[(1,int .i64 (o:Nat)),(8,.list (l.map Vi)),(13,.atom (.map (some m))),(41,.list (Za.map Vi)),(42,int .i64 Za.length),(43,int .i64 (i:Nat))]/\H=[(m,.map (ye (XD (Za.take i))) clock)])
  ⟨_,_,_,⟨0,0,zero_le _,rfl,rfl,rfl⟩,jb,Tb _⟩ ?_
 rintro k ls H ⟨i,clock,hi,rfl,rfl,rfl⟩ j hj;refine wg ?_;refine Ca (λhc=>?_) λhc=>?_;have za:i<Za.length:=by have:=zt hc;omega
 refine Zi ?_;refine ia (xR (ve:=Vi Za[i]) (cs:=[_,_]) rfl rfl zo (rn _ _ _ za) rfl rfl)<|Ga ?_;refine oS (Rc λb15=>?_);refine ja ?_;refine oS (S.rc (t:=119) (kt:=9) (el:=3) (m:=XD (Za.take i)) (k:=Za[i].1) (lv:=int .i64 (Za[i].2:Nat)) zk zk rfl rfl rfl Fc λmc=>?_);rw[qrj za nq];refine rl ?_;exact⟨_,_,_,by omega,⟨i+1,mc,by omega,rfl,rfl,rfl⟩,jb,⟨[_],List.Perm.refl _⟩,hj⟩;have xi:i=Za.length:=by have:=zf hc;omega
 subst xi;rw[take_length];have ZC:=qwF hle;refine oa ?_;refine oS (S.Ec (H1:=[(m,.map (ye (XD Za)) clock)]) (F:=[]) [_,_,_] rfl Kb (hjo (Un Za) ZC (some m) _ (.inr ⟨m,XD Za,clock,rfl,rfl,qnh Za⟩)) (λv' H' hh=>?_) (λch H' hh=>by obtain⟨h,_⟩:=hh;cases h));obtain⟨hv,rfl⟩:=hh;cases hv;have e1:((Wb l).foldl (Lg (Un Za) o) ([],[])).1=Uk (Un Za) (l.map (·.1)):=EU _ _ _ _;have e2:((Wb l).foldl (Lg (Un Za) o) ([],[])).2=Za:=by show cp (Un Za) o (l.map (·.1))=Za;rw[qn9 (Un Za) (λ_=>0) o (l.map (·.1)) ub];exact hLB
 rw[e1,e2];generalize Uk (Un Za) (l.map (·.1))=tx at hA;refine ja ?_;refine Ca (λh2=>?_) λh2=>?_;have h5:40000<tx.length:=by have:=zt h2;omega
 rw[zp h5] at hA;subst hA;refine Qj ?_;exact Wa hj (rC (Ic rfl) (rC (Gd (v:=Ob) rfl vN) (rC (Ic rfl) (Oa rfl)))) rfl;have h5:¬ 40000<tx.length:=by have:=zf h2;omega
 rw[zn h5] at hA;subst hA;refine ja ?_;exact Wa hj (rC (Ic rfl) (rC (Gd (v:=.list _) rfl ld) (rC (Ic rfl) (Oa rfl)))) rfl
end Go.Proofs.YtmnjklgnhpnckaaGreatDoor.Sp
namespace Go.Proofs.YtmnjklgnhpnckaaGreatDoor.Pp
open Go.GL Go.RowKit Go.ea
open Sp (Xk Xk.mk rp)
variable{n:Int}
attribute [local irreducible] wa Qa Ra ca Go.GL.Pure Ud xe od LQ Eb Tf Rh
structure GW(B0:Nat)(w0:World):Prop where
 base:Go.Proofs.YtmnjklgnhpnckaaGreatDoor.GW B0 w0
 mx:Sp.GM w0
 bz : ∃ tp p, w0.var? Tryz.prog "strconv.ErrSyntax" = some #[.iface tp p]
variable{B0:Nat}{w0:World}
theorem GW.syn (h : GW B0 w0) {w : World} (hb : Below B0 w0 w) : ∃ tp p, w.var? Tryz.prog "strconv.ErrSyntax" = some #[.iface tp p] := by
 have hg : Tryz.prog.globalNamed "strconv.ErrSyntax" = some 1 := by kernel_rfl
 obtain⟨tp,p,hv⟩:=h.bz;exact⟨tp,p,var?_below hb hg (Nat.lt_of_lt_of_le da h.base.WV) hv⟩
theorem GW.range (h : GW B0 w0) {w : World} (hb : Below B0 w0 w) : ∃ tp p, w.var? Tryz.prog "strconv.ErrRange" = some #[.iface tp p] := h.base.err hb
theorem fe(hG:GW B0 w0)(u:Nat)(hu:u<18446744073709551616):ca (KC B0 w0) 195 [int .u64 u,int .i64 10] [] (Hb (str (Go.Lib.decDigits u))):=Go.Proofs.YtmnjklgnhpnckaaGreatDoor.fe hG.base u hu
theorem ef(s p:List UInt8):ca (KC B0 w0) 162 [str s,str p] [] (Hb (.tuple [str (Go.Lib.trimPrefix s p),bool (Go.Lib.hasPrefix s p)])):=Sp.ef s p
theorem cf(s p:List UInt8)(hs:s.length<=1000000000):ca (KC B0 w0) 172 [str s,str p] [] (Hb (.tuple [str (Go.Lib.trimSuffix s p),bool (Go.Lib.hasSuffix s p)])):=Sp.cf s p hs
theorem qmg(hG:GW B0 w0)(s:List UInt8)(hs:s.length<=1000000000):ca (KC B0 w0) 194 [str s,int .i64 10,int .i64 32] []
  (Dw λlv=>(∃ u,Go.Lib.parseUintB 32 s=.ok u/\lv=.tuple [int .u64 u,.atom .nilIface])∨((∀ u,Go.Lib.parseUintB 32 s≠.ok u)/\∃ v t p,lv=.tuple [int .u64 v,.atom (.iface t p)])):=by
 have gd:∀ k,1000000000<=k->s.toArray.size<=k:=λk hk=>by simp;omega
 refine ca.mono (ca.Tg (vs:=[.string ⟨s.toArray⟩,.int .i64 10,.int .i64 32]) (p:=λus=>(∃ u,Go.Lib.parseUintB 32 s=.ok u/\us=[.int .u64 u,.nilIface])∨((∀ u,Go.Lib.parseUintB 32 s≠.ok u)/\∃ v t p,us=[.int .u64 v,.iface t p])) λw hw=>?_) ?_
 cases h:Go.Lib.parseUintB 32 s with
 |ok u=>
  refine(Tryz.strconv_ParseUint_10_at32_ok ⟨s.toArray⟩ (gd _ da) u (by simpa using h) w).mono λe w' he=>⟨_,he.1,.inl ⟨u,rfl,rfl⟩,?_⟩;rcases he.2 with h2|h2;rw[h2];exact Below.refl _ _;rw[h2]
  exact⟨rfl,rfl,rfl,by rw[Go.Lib.bytesWorld_size];omega,λk hk=>Go.Lib.bytesWorld_at_old w 5 _ k hk⟩
 |range=>
  obtain⟨tp,p,hv⟩:=hG.range hw;refine(Tryz.strconv_ParseUint_10_at32_range_var ⟨s.toArray⟩ (gd _ da) (by simpa using h) tp p w hv).mono λe w' he=>?_;obtain⟨N,h1,_,_,h4⟩:=he
  exact⟨_,h1,.inr ⟨(λu hu=>by cases hu),_,_,_,rfl⟩,h4⟩
 |_=>obtain⟨tp,p,hv⟩:=hG.syn hw;refine(Tryz.strconv_ParseUint_10_at32_syntax_var ⟨s.toArray⟩ (gd _ da) ⟨λu hu=>(by rw[h] at hu;cases hu),λhu=>(by rw[h] at hu;cases hu)⟩ tp p w hv).mono λe w' he=>?_;obtain⟨N,h1,_,_,h4⟩:=he;exact⟨_,h1,.inr ⟨(λu hu=>by cases hu),_,_,_,rfl⟩,h4⟩
 rintro r H ⟨v,rfl,⟨us,uQ,rfl⟩,rfl⟩;refine⟨_,rfl,?_,rfl⟩;rcases uQ with⟨u,h1,rfl⟩|⟨h1,v,t,p,rfl⟩;exact .inl ⟨u,h1,rfl⟩;exact .inr ⟨h1,v,t,p,rfl⟩
theorem quY(s:List UInt8)(hs:s.length<=1000000000):ca (KC B0 w0) 174 [str s,str wG] [] (Hb (str (Go.Lib.trimS s wG))):=
 ca.Tl (vs:=[.string ⟨s.toArray⟩,.string ⟨wG.toArray⟩]) λw hw=>(Go.Proofs.Any.strings_Trim_laid Tryz.Xw zk ⟨s.toArray⟩ ⟨wG.toArray⟩ w (by show s.toArray.size<=_;simp;omega) da (Go.Proofs.ascii_of_all da))
theorem LX(h:0<=n/\n<=4294967295):IntKind.u32.wrap n=n:=by simp only[IntKind.wrap,IntKind.bits,IntKind.signed,Di];simp;omega
theorem qxP(h:0<=n/\n<=4294967295):IntKind.u64.wrap n=n:=by simp only[IntKind.wrap,IntKind.bits,IntKind.signed,Di];simp;omega
theorem vY(n:Int):IntKind.u32.wrap n=n % 4294967296:=by simp only[IntKind.wrap,IntKind.bits,IntKind.signed,Di];simp
instance:jh Uj 94:=.of zk
theorem ZU(s:List UInt8)(hs:s.length<=1000000000):ca (KC B0 w0) 163 [str s] [] (Hb (bool (mu s))):=by
 have hT:=quY (B0:=B0) (w0:=w0) s hs;have Wv:=qv8 s;cases s with
 |nil=>refine Xa Tryz.func163 rfl (n:=25) rfl rfl rfl ?_;refine ja ?_;exact Wa rfl (Oa rfl) rfl
 |cons c r=>
  have hN:mu (c::r)=(decide ((c::r).length<=40) && Yk c && (c::r).all yi):=rfl;rw[Yk] at hN;refine Xa Tryz.func163 rfl (n:=25) rfl rfl rfl ?_;refine ja ?_;refine oB 5 rfl (λh1=>?_) (λh1=>absurd h1 (by simp));refine oB 10 rfl (λh2=>?_) λh2=>?_;have Pz:(c::r).length<=40:=by have:=zt h2;omega
  rw[Vg Pz,Bool.true_and] at hN;refine qa ?_;refine ia (pI (c:=c) rfl rfl zo rfl)<|Ga ?_;refine oB 15 rfl (λh3=>?_) λh3=>?_;have Gr:decide (97<=cv c)=true:=h3;rw[Gr,Bool.true_and] at hN;refine qa ?_;refine ia (pI (c:=c) rfl rfl zo rfl)<|Ga ?_;refine oB 20 rfl (λh4=>?_) λh4=>?_;have yF:decide (cv c<=122)=true:=h4;rw[yF,Bool.true_and] at hN;refine qa ?_;refine oS (sF [_,_] rfl hT ?_);refine qa ?_
  exact Wa rfl (Oa rfl) (Ae (by
   rw[hN,Bool.eq_iff_iff,decide_eq_true_iff];exact Wv))
  have yF:decide (cv c<=122)=false:=h4;rw[yF,Di] at hN;refine qa ?_;exact Wa rfl (Oa rfl) (Ae hN.symm);have Gr:decide (97<=cv c)=false:=h3;rw[Gr,Di,Di] at hN;refine qa ?_;exact Wa rfl (Oa rfl) (Ae hN.symm);have Pz:¬ (c::r).length<=40:=by have:=zf h2;omega
  rw[decide_eq_false Pz,Di,Di] at hN;refine qa ?_;exact Wa rfl (Oa rfl) (Ae hN.symm)
theorem fM(hG:GW B0 w0)(w:Wd)(hs:w.length<=1000000000):ca (KC B0 w0) 166 [str w] [] (Hb (.tuple [int .u32 ((ib w).getD 0:Nat),bool (ib w).isSome])):=by
 have hP:=qmg hG w hs;refine Xa Tryz.func166 rfl (n:=21) rfl rfl rfl ?_;refine Pj ?_;refine oS (S.Yh [_,_,_] rfl hP ?_);rintro lv (⟨u,hu,rfl⟩|⟨AH,v,t,p,rfl⟩);have za:=GX hu;refine ja ?_;refine oS (sF [_,_] rfl (fe hG u zo) ?_);refine Ga ?_;refine Ca (λh=>?_) λh=>?_;have ub:¬ Go.Lib.decDigits u=w:=by simpa using h
 have hn:ib w=none:=by unfold ib;rw[hu];exact zn ub
 refine Qj ?_;exact Wa rfl (rC (Ic rfl) (Oa rfl)) (by rw[hn];rfl);have he:Go.Lib.decDigits u=w:=by simpa using h
 have hn:ib w=some u:=by unfold ib;rw[hu];exact zp he
 refine ja ?_;exact Wa rfl (rC (Ic rfl) (Oa rfl)) (by
  rw[hn,LX zo];rfl)
 have hn:ib w=none:=by unfold ib;split;rename_i u hu;exact absurd hu (AH u);rfl
 refine ja ?_;refine Ca (λh=>?_) λh=>?_;refine Qj ?_;exact Wa rfl (rC (Ic rfl) (Oa rfl)) (by rw[hn];rfl);cases h
theorem qgK(w:Wd)(hs:w.length<=1000000000):ca (KC B0 w0) 94 [str w] [] (Dw (Xk (La w))):=by
 obtain⟨r1,r2⟩:=rp (D8 w);have hlen:(Go.Lib.trimPrefix w [38]).length<=1000000000:=by unfold Go.Lib.trimPrefix;split;rw[List.length_drop];omega;exact hs
 refine Xa Tryz.func94 rfl (n:=17) rfl rfl rfl ?_;refine Pj ?_;refine oS (sF [_,_] rfl (ef w [38]) ?_);refine oa ?_;refine oB 13 rfl (λh=>?_) λh=>?_;exact fN;rw[h,Di] at r1;refine qa ?_;exact Ow rfl (rC (Ic rfl) (Oa rfl)) (Xk.mk r1 r2)
theorem VZ(w:Wd)(hs:w.length<=1000000000):ca (KC B0 w0) 169 [str w] [] (Dw (Xk (ma w))):=by
 obtain⟨r1,r2⟩:=rp (r9 w);have hlen:(Go.Lib.trimSuffix w [58]).length<=1000000000:=by unfold Go.Lib.trimSuffix;split;rw[List.length_take];omega;exact hs
 refine Xa Tryz.func169 rfl (n:=17) rfl rfl rfl ?_;refine Pj ?_;refine oS (sF [_,_] rfl (cf w [58] hs) ?_);refine oa ?_;refine oB 13 rfl (λh=>?_) λh=>?_;exact fN;rw[h,Di] at r1;refine qa ?_;exact Ow rfl (rC (Ic rfl) (Oa rfl)) (Xk.mk r1 r2)
def Hm(v:List Wd)(m:Nat):LV:=.agg [.list (v.map str),.atom (.map (some m))]
theorem Im(v:List Wd)(m i:Nat)(hv:v.length<=1000000000):ca (KC B0 w0) 165 [Hm v m,int .i64 i] [] (Hb (str (fa v i))):=by
 have BB:(v.map str).length=v.length:=ab _;unfold Hm;refine Xa Tryz.func165 rfl (n:=15) rfl rfl rfl ?_;refine Xd ?_;refine oS (sB (cs:=[.list (v.map str),.atom (.map (some m))]) rfl λb2=>?_);refine ja ?_;refine Ca (λh=>?_) λh=>?_;have za:i<v.length:=by have:=zt h;omega
 have hw:fa v i=v[i]:=by unfold fa;rw[di za];rfl
 refine ja ?_;refine ia (xR (ve:=str v[i]) (cs:=[str v[i]]) rfl rfl zo (rn _ _ _ za) rfl rfl)<|Ga ?_;exact Wa rfl (Oa rfl) (LO hw.symm);have Es:v.length<=i:=by have:=zf h;omega
 have hw:fa v i=[]:=by unfold fa;rw[List.getElem?_eq_none Es];rfl
 refine oa ?_;exact Wa rfl (Oa rfl) (LO hw.symm)
def Small(v:List Wd):Prop:=v.length<=1000000/\∀ w∈v,w.length<=1000000
theorem Small.at{v:List Wd}(h:Small v)(i:Nat):(fa v i).length<=1000000:=by
 unfold fa;cases hi:v[i]? with
 |none=>exact zero_le _
 |some w=>exact h.2 w (List.mem_of_getElem? hi)
theorem FU(v:List Wd)(m i:Nat)(hv:Small v)(hi:i<=1000):ca (KC B0 w0) 168 [Hm v m,int .i64 i] [] (Dw (Xk (Wl v i))):=by
 have h1:=Im (B0:=B0) (w0:=w0) v m i (by have:=hv.1;omega);have h2:=Im (B0:=B0) (w0:=w0) v m (i+1) (by have:=hv.1;omega);have e2:int .i64 ((i:Int)+1)=int .i64 ((i+1:Nat):Int):=lh zo;rw[<-e2] at h2;have hl:=hv.at i;have hJ:Wl v i=match La (fa v i) with
  |some l=>if fa v (i+1)=[63] then some l else none
  |none=>none:=rfl
 unfold Hm at h1 h2 ⊢;refine Xa Tryz.func168 rfl (n:=24) rfl rfl rfl ?_;refine Xd ?_;refine oS (sB (cs:=[.list (v.map str),.atom (.map (some m))]) rfl λb2=>?_);refine ja ?_;refine oS (sF [_,_] rfl h1<|oS (S.Yh [_] rfl (qgK _ zo) ?_));rintro lv ⟨s,rfl,hs⟩;refine oa ?_;refine oB 17 rfl (λh=>?_) λh=>?_;obtain⟨l,Cs⟩:=zR h;have lr:=hs l Cs;rw[Cs] at hJ;refine Ga ?_;refine oS (sF [_,_] rfl h2 ?_);refine qa ?_
 exact Ow rfl (rC (Ic rfl) (Oa rfl)) (Xk.mk (by rw[hJ];simp only;split <;> simp_all) (by
  intro l' h';rw[hJ] at h';simp only at h';split at h';injection h' with h';rw[lr,h'];cases h'))
 have hn:La (fa v i)=none:=by
  cases h3:La (fa v i) with
  |none=>rfl
  |some l=>rw[h3] at h;cases h
 rw[hn] at hJ;refine qa ?_;exact Ow rfl (rC (Ic rfl) (Oa rfl)) (Xk.mk (by rw[hJ];rfl) (by
  intro l' h';rw[hJ] at h';cases h'))
theorem ON{a b:Nat}(ha:a<4294967296)(hb:b<4294967296):IntKind.u32.wrap (((BitVec.ofInt IntKind.u32.bits (a:Int) ^^^ BitVec.ofInt IntKind.u32.bits (b:Int)).toNat:Nat):Int)=((a ^^^ b:Nat):Int):=by
 have h1:(BitVec.ofInt 32 (a:Int) ^^^ BitVec.ofInt 32 (b:Int)).toNat=a ^^^ b:=by rw[BitVec.ofInt_natCast,BitVec.ofInt_natCast,BitVec.toNat_xor,BitVec.toNat_ofNat,BitVec.toNat_ofNat,Nat.mod_eq_of_lt ha,Nat.mod_eq_of_lt hb]
 have h2:a ^^^ b<4294967296:=Nat.xor_lt_two_pow (n:=32) ha hb;show IntKind.u32.wrap (((BitVec.ofInt 32 (a:Int) ^^^ BitVec.ofInt 32 (b:Int)).toNat:Nat):Int)=_;rw[h1,LX zo]
theorem Ta(a b:Nat):IntKind.u32.wrap ((a:Int)+b)=(((a+b) % 4294967296:Nat):Int):=by rw[vY];omega
theorem Nx{a b:Nat}(hb:b<4294967296):IntKind.u32.wrap ((a:Int)-b)=(((a+4294967296-b) % 4294967296:Nat):Int):=by rw[vY];omega
theorem Ac(a b:Nat):IntKind.u32.wrap ((a:Int) * b)=((a * b % 4294967296:Nat):Int):=by rw[vY,Int.natCast_emod,Int.natCast_mul];rfl
theorem Xx{m:Nat}{o:Option Nat}(ho:o=some m)(h:n=(m:Int)):qh [int .u32 n,bool true]=LV.tuple [int .u32 ((o.getD 0:Nat):Int),bool o.isSome]:=by subst h;subst ho;rfl
theorem qni(a b:Nat)(op:Wd)(ha:a<4294967296)(hb:b<4294967296):ca (KC B0 w0) 208 [int .u32 a,str op,int .u32 b] [] (Hb (.tuple [int .u32 ((Bo a op b).getD 0:Nat),bool (Bo a op b).isSome])):=by
 have hC:Bo a op b=Bo a op b:=rfl
 conv at hC=>rhs;unfold Bo
 refine Xa Tryz.func208 rfl (n:=47) rfl rfl rfl ?_;refine oa ?_;refine Ca (λh1=>?_) λh1=>?_;rw[zp (zt h1)] at hC;refine Bd ?_;refine ia (Pure.Vo rfl rfl)<|qa ?_;exact Wa rfl (rC (Ic rfl) (Oa rfl)) (Xx hC (Ta a b));rw[zn (zf h1)] at hC;refine Am ?_;refine Ca (λh2=>?_) λh2=>?_;rw[zp (zt h2)] at hC;refine Bd ?_;refine ia (Pure.Tx rfl rfl)<|qa ?_;exact Wa rfl (rC (Ic rfl) (Oa rfl)) (Xx hC (Nx hb));rw[zn (zf h2)] at hC;refine Am ?_;refine Ca (λh3=>?_) λh3=>?_;rw[zp (zt h3)] at hC;refine Bd ?_;refine ia (Pure.Fv rfl rfl)<|qa ?_;exact Wa rfl (rC (Ic rfl) (Oa rfl)) (Xx hC (Ac a b));rw[zn (zf h3)] at hC;refine Am ?_;refine Ca (λh4=>?_) λh4=>?_;rw[zp (zt h4)] at hC;refine Bd ?_;refine ia (Pure.oo rfl rfl)<|qa ?_;exact Wa rfl (rC (Ic rfl) (Oa rfl)) (Xx hC (ON ha hb));rw[zn (zf h4)] at hC;refine Am ?_;refine Ca (λh5=>?_) λh5=>?_;rw[zp (zt h5)] at hC;refine oa ?_;refine Ca (λh6=>?_) λh6=>?_;have za:a<b:=by have:=zt h6;omega
 refine oa ?_;exact Wa rfl (rC (Ic rfl) (Oa rfl)) (by rw[hC,zp za];rfl);have za:¬ a<b:=by have:=zf h6;omega
 refine oa ?_;exact Wa rfl (rC (Ic rfl) (Oa rfl)) (by rw[hC,zn za];rfl);rw[zn (zf h5)] at hC;refine Am ?_;refine Wz [(0,int .u32 a),(1,str op),(2,int .u32 b),(34,bool (decide (op=[47]∨op=[37])))] ?_ λj hj=>?_;refine Ca (λh6=>?_) λh6=>?_;refine qa ?_;exact⟨⟨rfl,rfl,rfl,Ae (by simp[zt h6]),trivial⟩,rfl,rfl⟩;refine Am ?_;exact⟨⟨rfl,rfl,rfl,Ae (by simp[zf h6]),trivial⟩,rfl,rfl⟩;refine Ca (λh6=>?_) λh6=>?_;have JR:op=[47]∨op=[37]:=zt h6;refine oa ?_;refine Ca (λh7=>?_) λh7=>?_;have Ze:b=0:=by have:=zt h7;omega
 have I5:Bo a op b=none:=by rw[hC];rcases JR with h|h;rw[zp h,zp Ze];rw[zn (by rw[h];decide),zp h,zp Ze]
 refine oa ?_;exact Wa hj (rC (Ic rfl) (Oa rfl)) (by rw[I5];rfl);have Ze:¬ b=0:=by have:=zf h7;omega
 refine oa ?_;refine Ca (λh8=>?_) λh8=>?_;rw[zp (zt h8),zn Ze] at hC;have hle:a / b<=a:=Nat.div_le_self _ _
 have e1:IntKind.u32.wrap ((a:Int).tdiv (b:Int))=((a / b:Nat):Int):=by rw[Int.tdiv_eq_ediv_of_nonneg zo,<-Int.natCast_ediv];exact LX ⟨Int.natCast_nonneg _,Int.ofNat_le.2 (show a / b<=4294967295 by omega)⟩
 refine Bd ?_;refine ia (Pure.sO rfl rfl zo)<|qa ?_;exact Wa hj (rC (Ic rfl) (Oa rfl)) (Xx hC e1);have h9:op=[37]:=by rcases JR with h|h;exact absurd h (zf h8);exact h
 rw[zn (zf h8),zp h9,zn Ze] at hC;have e1:(a:Int).tmod (b:Int)=((a % b:Nat):Int):=by rw[Int.tmod_eq_emod_of_nonneg zo,<-Int.natCast_emod]
 refine oa ?_;refine ia (Pure.oO rfl rfl zo)<|qa ?_;exact Wa hj (rC (Ic rfl) (Oa rfl)) (Xx hC e1);have JR:¬ (op=[47]∨op=[37]):=zf h6;have I5:Bo a op b=none:=by rw[hC,zn λh=>JR (.inl h),zn (λh=>JR (.inr h))]
 refine oa ?_;exact Wa hj (rC (Ic rfl) (Oa rfl)) (by rw[I5];rfl)
theorem qjT(hG:GW B0 w0)(x op y:Wd)(hx:x.length<=1000000)(hy:y.length<=1000000):ca (KC B0 w0) 164 [str x,str op,str y] [] (Dw (Xk (Kj x op y))):=by
 have n1:=fM hG x zo;have n2:=fM hG y zo;have hJ:Kj x op y=match ib x,ib y with
  |some a,some b=>match Bo a op b with
   |some c=>if (Go.Lib.decDigits c).length<=x.length+y.length+1 then some (Go.Lib.decDigits c) else none
   |none=>none
  |_,_=>none:=rfl
 have ha:(ib x).getD 0<4294967296:=by
  cases h:ib x with
  |none=>decide
  |some u=>exact ZO h
 have hb:(ib y).getD 0<4294967296:=by
  cases h:ib y with
  |none=>decide
  |some u=>exact ZO h
 have n3:=qni (B0:=B0) (w0:=w0) _ _ op ha hb;have hc:(Bo ((ib x).getD 0) op ((ib y).getD 0)).getD 0<4294967296:=by
  cases h:Bo ((ib x).getD 0) op ((ib y).getD 0) with
  |none=>decide
  |some u=>exact UO ha hb h
 have qF:=yL hc;refine Xa Tryz.func164 rfl (n:=54) rfl rfl rfl ?_;refine Pj ?_;refine oS (sF [_] rfl n1 ?_);refine oa ?_;refine oS (sF [_] rfl n2 ?_);refine oa ?_;refine oS (sF [_,_,_] rfl n3 ?_);refine ja ?_;refine oS (sF [_,_] (show _=[int .u64 (IntKind.u64.wrap (((Bo ((ib x).getD 0) op ((ib y).getD 0)).getD 0:Nat):Int)),int .i64 10] from rfl) (by rw[qxP zo];exact fe hG _ zo) ?_);refine Pj ?_;refine oB 37 rfl (λh1=>?_) λh1=>?_;obtain⟨a,sq⟩:=zR h1;refine qa ?_;refine oB 40 rfl (λh2=>?_) λh2=>?_;obtain⟨b,Qm⟩:=zR h2;rw[sq,Qm] at hJ;rw[sq,Qm];simp only at hJ;simp only[getD_some];refine qa ?_;refine oB 43 rfl (λh3=>?_) λh3=>?_;obtain⟨c,Oe⟩:=zR h3;rw[sq,Qm] at qF;simp only[getD_some] at qF;rw[Oe] at hJ qF;rw[Oe];simp only[getD_some] at hJ qF ⊢;refine Ga ?_
 exact Ow rfl (rC (Ic rfl) (Oa rfl)) (Xk.mk (by
  rw[hJ];by_cases hle:(Go.Lib.decDigits c).length<=x.length+y.length+1;rw[zp hle,Vg zo];rfl;rw[zn hle,decide_eq_false zo];rfl) (by
  intro l' h';rw[hJ] at h';split at h';injection h';cases h'))
 have hn:Bo a op b=none:=by
  cases h4:Bo a op b with
  |none=>rfl
  |some l=>rw[h4] at h3;cases h3
 rw[hn] at hJ;refine qa ?_;exact Ow rfl (rC (Ic rfl) (Oa rfl)) (Xk.mk (by rw[hJ];rfl) (by
  intro l' h';rw[hJ] at h';cases h'))
 have hn:ib y=none:=by
  cases h3:ib y with
  |none=>rfl
  |some l=>rw[h3] at h2;cases h2
 rw[sq,hn] at hJ;refine qa ?_;exact Ow rfl (rC (Ic rfl) (Oa rfl)) (Xk.mk (by rw[hJ];rfl) (by
  intro l' h';rw[hJ] at h';cases h'))
 have hn:ib x=none:=by
  cases h3:ib x with
  |none=>rfl
  |some l=>rw[h3] at h1;cases h1
 rw[hn] at hJ;refine qa ?_;exact Ow rfl (rC (Ic rfl) (Oa rfl)) (Xk.mk (by rw[hJ];rfl) (by
  intro l' h';rw[hJ] at h';cases h'))
end Go.Proofs.YtmnjklgnhpnckaaGreatDoor.Pp
