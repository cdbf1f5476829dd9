import Derived.Lib.SplitLaws
import Derived.Shelf.Strings.SlTrimAscii
import Derived.Test.YtjolancjacdeaaaGreatDoorBRowRM6
set_option linter.unusedVariables false
set_option linter.unusedSimpArgs false
set_option maxRecDepth 100000
set_option maxHeartbeats 4000000
open Go.GL (zk)
open List (map_map all_reverse take_length getElem_mem drop_length foldl_cons)
open Nat (max_zero zero_le)
open Option (getD_some)
namespace Go.Proofs.YtjolancjacdeaaaGreatDoor.Zg
open Go.GL Go.RowKit Go.Ba
variable{A B H':Heap}{c:wb}{Db lb:List Sm}{err:Int}{index value:List Ex}{lv:LV}{name:List UInt8}{rs:List ResultVar}
structure KB where
 cb:Nat
 gm:Nat
 vm:Nat
 am:Nat
 fm:Nat
 om:Nat
 G:KV
 V:KV
 A:KV
 F:KV
 O:KV
 g1:Nat
 g2:Nat
 g3:Nat
 g4:Nat
 g5:Nat
 name:List UInt8
def vC(f:De):LV:=.agg [int .i64 (f.params:Int),int .i64 (f.need:Int),int .i64 (f.depth:Int)]
structure ou(k:KB)(c:wb):Prop where
 G:Ik k.G c.globals
 V:Ik k.V c.vars
 A:Ik k.A c.ba
 O:Ik k.O c.own
 F:∀ n,GL.Sa k.F n=(c.fn n).map vC
def Be(k:KB)(d:Nat):Heap:=[(k.cb,.cells 159 [.atom (.map (some k.gm)),.atom (.map (some k.vm)),.atom (.map (some k.am)),.atom (.map (some k.fm)),str k.name,.atom (.map (some k.om)),int .i64 (d:Int)]),(k.gm,.map (Gd k.G) k.g1),(k.vm,.map (Gd k.V) k.g2),(k.am,.map (Gd k.A) k.g3),(k.fm,.map (Gd k.F) k.g4),(k.om,.map (Gd k.O) k.g5)]
def tt(err:Int)(lv:LV)(H':Heap)(r:Lc)(H:Heap):Prop:=(err=0/\r=.ret lv/\H=H')∨(err≠0/\(∃ nm,r=.panic (ly nm err))/\H=[])
section
variable{C:Ctx}{n:Nat}{e:Env}{H:Heap}{dst:Option Nat}{ty:TypeId}{la:String}{ma:Array Edge}{g:Option (Nat×Bool)}{K:LV->Heap->Prop}{X:List PanicEntry->Heap->Prop}
theorem sK{H1 F:Heap}{f:FuncId} [fb C.P f](args:List Operand){xe:Array TypeId}{av:List LV}(has:args.map e.ev=av)(hp:H.Perm (H1++F))
  (hc:aa C f av H1 (tt err lv H')) (hk:err=0->K lv (H'++F)) (hx:∀ nm,err≠0->X (ly nm err) F):Ja C ⟨dst,.call { callee:=.value (.func f),args:=args.toArray,argTypes:=xe },ty,la,ma,g⟩ e H K X:=by
 refine S.Bb args has hp hc ?_ ?_;rintro v H2 (⟨h1,h2,rfl⟩|⟨_,⟨nm,h2⟩,_⟩);cases h2;exact hk h1;cases h2;rintro ch H2 (⟨_,h2,_⟩|⟨h1,⟨nm,h2⟩,rfl⟩);cases h2;cases h2;exact hx nm h1
theorem Ja.Si{f:FuncId} [fb C.P f](args:List Operand){xe:Array TypeId}{av:List LV}(has:args.map e.ev=av)
  (hc:aa C f av H (tt err lv H')) (hk:err=0->K lv H') (hx:∀ nm,err≠0->X (ly nm err) []):Ja C ⟨dst,.call { callee:=.value (.func f),args:=args.toArray,argTypes:=xe },ty,la,ma,g⟩ e H K X:=by
 refine Ja.qc (sK (F:=[]) (K:=λlv H'=>K lv H') (X:=X) args has (by rw[Qb]) hc (λh=>by rw[Qb];exact hk h) hx) λlv H' h=>⟨lv,H',vR _,kb _,h⟩
theorem mj{vs:List LV}(hd:e.ds=[])(h:Eh C n e H rs vs)(he:err=0)(hv:Ge vs=lv)(hH:HSub H' H):oc C n rs (tt err lv H') .ret e H:=
 rR hd h hH (.inl ⟨he,by rw[hv],rfl⟩)
theorem SN{vs:List LV}(hd:e.ds=[])(h:Eh C n e H rs vs)(he:err=0)(hv:Ge vs=lv)(hH:HSub H' H):oc C n rs (tt err lv H') .normal e H:=
 rO hd h hH (.inl ⟨he,by rw[hv],rfl⟩)
theorem Ae{er:Int}{nm:List UInt8}(hd:e.ds=[])(he:err=er)(h0:er≠0):oc C n rs (tt err lv H') (.panic (ly nm er)) e H:=
 oc.panic hd Fc (.inr ⟨by rw[he];exact h0,⟨nm,by rw[he]⟩,rfl⟩)
end
attribute [local irreducible] ea Ga Ja aa Go.GL.Pure Bc Tc oc LQ Pa Td Lf LS
variable{B0:Nat}{w0:World}
theorem Xe(b:Bool)(nm:List UInt8)(er:Int)(h0:er≠0):aa (KC B0 w0) 152 [bool b,str nm,int .i64 er] [] (tt (if b=true then 0 else er) (.tuple []) []):=
 aa.mono (qmj b nm er) λr H ⟨h1,h2⟩=>by
  cases b with
  |true=>exact .inl ⟨rfl,h2,h1⟩
  |false=>exact .inr ⟨h0,⟨nm,h2⟩,h1⟩
theorem EF{k:KB}(hk:ou k c)(d:Nat)(name:List UInt8):aa (KC B0 w0) 273 [ptr k.cb 0,str name] (Be k d) (tt (wu c name) (.tuple []) (Be k d)):=by generalize hI:wu c name=E;unfold wu at hI;refine cJ Tryz.func273 (n:=34) ?_;refine ia ?_;refine ca (Pure.Qe rfl rfl Hr hk.V) ?_;have both:∀ {e:Env} {Q:Ob} {xa:Array Oper} {rest:List Oper} {n:Nat},True:=λ{_ _ _ _ _}=>trivial;refine oB 10 rfl (λh1=>?_) λh1=>?_;have Je:name∈c.vars∨name∈c.own:=.inl (zt h1);refine ia ?_;refine oS (sK (H1:=[]) (F:=Be k d) [_,_,_] rfl qb (Xe true name 10 ra) (λ_=>?_) λnm h=>absurd rfl h);refine qg ?_;refine oS (sK (H1:=[]) (F:=Be k d) [_,_,_] rfl qb (Xe true name 7 ra) (λ_=>?_) λnm h=>absurd rfl h);refine ig ?_;exact SN rfl rN (by rw[<-hI,zp Je]) rfl Ma;have hv:name ∉ c.vars:=zf h1;refine oa ?_;refine ca (Pure.Qe rfl rfl wK hk.O)<|oB 17 rfl (λh2=>?_) λh2=>?_;have Je:name∈c.vars∨name∈c.own:=.inr (zt h2);refine ia ?_;refine oS (sK (H1:=[]) (F:=Be k d) [_,_,_] rfl qb (Xe true name 10 ra) (λ_=>?_) λnm h=>absurd rfl h);refine qg ?_;refine oS (sK (H1:=[]) (F:=Be k d) [_,_,_] rfl qb (Xe true name 7 ra) (λ_=>?_) λnm h=>absurd rfl h);refine ig ?_;exact SN rfl rN (by rw[<-hI,zp Je]) rfl Ma;have ho:name ∉ c.own:=zf h2;rw[zn (λh=>h.elim hv ho)] at hI;refine ia ?_;refine ca (Pure.Qe rfl rfl Ff hk.G)<|oB 26 rfl (λh3=>?_) λh3=>?_;rw[zp (zt h3)] at hI;refine za ?_;refine oS (sK (H1:=[]) (F:=Be k d) [_,_,_] rfl qb (Xe false name 10 ra) (λh=>absurd h ra) λnm _ e' ya=>?_);refine zg ?_;exact Ae (ya.trans rfl) (by rw[<-hI];rfl) ra;rw[zn (zf h3)] at hI;refine za ?_;refine oS (sK (H1:=[]) (F:=Be k d) [_,_,_] rfl qb (Xe true name 10 ra) (λ_=>?_) λnm h=>absurd rfl h);refine qg ?_;refine oS (sK (H1:=[]) (F:=Be k d) [_,_,_] rfl qb (Xe false name 7 ra) (λh=>absurd h ra) λnm _ e' ya=>?_);exact Ae (ya.trans rfl) (by rw[<-hI];rfl) ra
theorem dI{k:KB}(hk:ou k c)(d:Nat)(name:List UInt8):aa (KC B0 w0) 274 [ptr k.cb 0,str name] (Be k d) (tt (nA c name) (.tuple []) (Be k d)):=by generalize hI:nA c name=E;unfold nA at hI;refine cJ Tryz.func274 (n:=35) ?_;refine ia ?_;refine ca (Pure.Qe rfl rfl Ru hk.A)<|oB 10 rfl (λh1=>?_) λh1=>?_;refine ja ?_;refine oS (sK (H1:=[]) (F:=Be k d) [_,_,_] rfl qb (Xe true name 10 ra) (λ_=>?_) λnm h=>absurd rfl h);refine qg ?_;refine oS (sK (H1:=[]) (F:=Be k d) [_,_,_] rfl qb (Xe true name 7 ra) (λ_=>?_) λnm h=>absurd rfl h);refine ig ?_;exact SN rfl rN (by rw[<-hI,zp (zt h1)]) rfl Ma;rw[zn (zf h1)] at hI;refine ia ?_;refine ca (Pure.Qe rfl rfl Ff hk.G)<|oB 18 rfl (λh2=>?_) λh2=>?_;have Je:name∈c.globals∨name∈c.own:=.inl (zt h2);refine za ?_;refine oS (sK (H1:=[]) (F:=Be k d) [_,_,_] rfl qb (Xe false name 10 ra) (λh=>absurd h ra) λnm _ e' ya=>?_);refine zg ?_;exact Ae (ya.trans rfl) (by rw[<-hI,zp Je];rfl) ra;refine za ?_;refine ca (Pure.Qe rfl rfl wK hk.O)<|oB 26 rfl (λh3=>?_) λh3=>?_;have Je:name∈c.globals∨name∈c.own:=.inr (zt h3);refine za ?_;refine oS (sK (H1:=[]) (F:=Be k d) [_,_,_] rfl qb (Xe false name 10 ra) (λh=>absurd h ra) λnm _ e' ya=>?_);refine zg ?_;exact Ae (ya.trans rfl) (by rw[<-hI,zp Je];rfl) ra;rw[zn (λh=>h.elim (zf h2) (zf h3))] at hI;refine za ?_;refine oS (sK (H1:=[]) (F:=Be k d) [_,_,_] rfl qb (Xe true name 10 ra) (λ_=>?_) λnm h=>absurd rfl h);refine qg ?_;refine oS (sK (H1:=[]) (F:=Be k d) [_,_,_] rfl qb (Xe false name 7 ra) (λh=>absurd h ra) λnm _ e' ya=>?_);exact Ae (ya.trans rfl) (by rw[<-hI];rfl) ra
@[reducible] def iv(n:Nat):LV:=int .i64 (n:Int)
theorem qqv{k:KB}(hk:ou k c){B D:Nat}(hB:so B D c.funcs)(oE:B<=100000000)(Ew:D<=100000000)(d:Nat)(hd:d<=1000000000)(name:List UInt8)(ns:List Nat)(hl:ns.length<=2000000)(ND:∀ n∈ns,n<=1000000000) :
  aa (KC B0 w0) 287 [ptr k.cb 0,str name,.list (ns.map iv)] (Be k d) (tt (Df c name ns.length) (iv (kC c name ns)) (Be k (max d (Lr c Ek name)))):=by
 generalize hI:Df c name ns.length=E;generalize hN:kC c name ns=N;generalize Xg:Lr c Ek name=DD;unfold Df at hI;unfold kC at hN;unfold Lr at Xg;have vx:(ns.map iv).length=ns.length:=Ua _;refine cJ Tryz.func287 (n:=110) ?_;refine ia ?_;by_cases Je:name=[105,110];rw[zp Je] at hI hN;rw[zn (λh=>h.2.1 Je)] at Xg;subst Xg;refine oC rfl (λ_=>?_) λhc=>absurd Je (zf hc);refine ia ?_;refine oS (sK (H1:=[]) (F:=Be k d) [_,_,_] rfl qb (Xe (decide (((ns.map iv).length:Int)=0)) name 1 ra) (λh=>?_) λnm h e' ya=>?_)
 have h0:ns.length=0:=by by_cases h1:((ns.map iv).length:Int)=0;omega;rw[decide_eq_false h1] at h;cases h
 refine Hj ?_;exact mj rfl (va rfl) (by rw[<-hI,zp h0]) (by rw[<-hN];rfl) (by rw[max_zero];exact kb _);have h0:¬ ns.length=0:=by intro h1;rw[Eg (show((ns.map iv).length:Int)=0 by omega)] at h;exact h rfl
 rw[show(if decide (((ns.map iv).length:Int)=0)=true then (0:Int) else 1)=1 by rw[zn];simp only[sf];omega];refine Rc ?_;exact Ae (ya.trans rfl) (by rw[<-hI,zn h0]) ra;rw[zn Je] at hI hN;refine oC rfl (λhc=>absurd (zt hc) Je) λ_=>?_;refine Gj ?_
 by_cases Dn:name=[111,117,116];rw[zp Dn] at hI hN;rw[zn (λh=>h.2.2 Dn)] at Xg;subst Xg;refine oC rfl (λ_=>?_) λhc=>absurd Dn (zf hc);refine ia ?_;refine oS (sK (H1:=[]) (F:=Be k d) [_,_,_] rfl qb (Xe (decide (((ns.map iv).length:Int)=1)) name 1 ra) (λh=>?_) λnm h e' ya=>?_)
 have h0:ns.length=1:=by by_cases h1:((ns.map iv).length:Int)=1;omega;rw[decide_eq_false h1] at h;cases h
 obtain⟨a,l,rfl⟩:∃ a l,ns=a::l:=by
  cases ns with
  |nil=>simp at h0
  |cons a l=>exact⟨a,l,rfl⟩
 refine ia ?_;refine ca (xR (ad:=iv a) (cs:=[iv a]) rfl rfl zo rfl rfl rfl)<|za ?_;exact mj rfl (va rfl) (by rw[<-hI,zp h0]) (by rw[<-hN];rfl) (by rw[max_zero];exact kb _);have h0:¬ ns.length=1:=by intro h1;rw[Eg (show((ns.map iv).length:Int)=1 by omega)] at h;exact h rfl
 rw[show(if decide (((ns.map iv).length:Int)=1)=true then (0:Int) else 1)=1 by rw[zn];simp only[sf];omega];refine Rc ?_;exact Ae (ya.trans rfl) (by rw[<-hI,zn h0]) ra;rw[zn Dn] at hI hN;rw[zp ⟨rfl,Je,Dn⟩] at Xg;refine oC rfl (λhc=>absurd (zt hc) Dn) λ_=>?_;refine ia ?_;have hF:=hk.F name
 cases Ni:c.fn name with
 |none=>
  rw[Ni] at hI hF;refine ca (Pure.Bn rfl rfl FE hF)<|za ?_;refine oS (yc λb7=>?_);refine ja ?_;refine ca (Pure.Qe rfl rfl Ru hk.V)<|oB 46 rfl (λh2=>?_) λh2=>?_;have tl:name∈c.vars∨name∈c.ba∨name∈c.own:=.inl (zt h2);refine za ?_;refine oS (sK (H1:=[]) (F:=_::Be k d) [_,_,_] rfl qb (Xe false name 10 ra) (λh=>absurd h ra) λnm _ e' ya=>?_);refine zg ?_;exact Ae (ya.trans rfl) (by rw[<-hI];exact zp tl) ra;refine za ?_;refine ca (Pure.Qe rfl rfl FE hk.A)<|oB 54 rfl (λh3=>?_) λh3=>?_;have tl:name∈c.vars∨name∈c.ba∨name∈c.own:=.inr (.inl (zt h3));refine za ?_;refine oS (sK (H1:=[]) (F:=_::Be k d) [_,_,_] rfl qb (Xe false name 10 ra) (λh=>absurd h ra) λnm _ e' ya=>?_);refine zg ?_;exact Ae (ya.trans rfl) (by rw[<-hI];exact zp tl) ra;refine za ?_;refine ca (Pure.Qe rfl rfl eU hk.O)<|oB 63 rfl (λh4=>?_) λh4=>?_;have tl:name∈c.vars∨name∈c.ba∨name∈c.own:=.inr (.inr (zt h4));refine za ?_;refine oS (sK (H1:=[]) (F:=_::Be k d) [_,_,_] rfl qb (Xe false name 10 ra) (λh=>absurd h ra) λnm _ e' ya=>?_);refine zg ?_;exact Ae (ya.trans rfl) (by rw[<-hI];exact zp tl) ra;refine za ?_;refine oS (sK (H1:=[]) (F:=_::Be k d) [_,_,_] rfl qb (Xe true name 10 ra) (λ_=>?_) λnm h=>absurd rfl h);refine qg ?_;refine oS (sK (H1:=[]) (F:=_::Be k d) [_,_,_] rfl qb (Xe false name 7 ra) (λh=>absurd h ra) λnm _ e' ya=>?_);refine zg ?_
  exact Ae (ya.trans rfl) (by rw[<-hI];exact zn λh=>h.elim (zf h2) λh=>h.elim (zf h3) (zf h4)) ra
 |some f=>
  rw[Ni] at hI hF hN Xg;have OS:=hB f (List.mem_of_find?_eq_some Ni);refine ca (Pure.Sq rfl rfl FE hF)<|za ?_;refine oS (yc λb7=>?_);refine ja ?_;refine oS (sK (H1:=[]) (F:=_::Be k d) [_,_,_] rfl qb (Xe true name 10 ra) (λ_=>?_) λnm h=>absurd rfl h);refine qg ?_;refine oS (sK (H1:=[]) (F:=_::Be k d) [_,_,_] rfl qb (Xe true name 7 ra) (λ_=>?_) λnm h=>absurd rfl h);refine ia ?_
  by_cases h0:ns.length=f.params;rotate_left;have wE:¬ ((ns.map iv).length:Int)=(f.params:Int):=by omega
  refine oB 76 rfl (λh=>absurd (zt h) wE) λ_=>?_;refine oS (sK (H1:=[]) (F:=_::Be k d) [_,_,_] rfl qb (Xe false name 1 ra) (λh=>absurd h ra) λnm _ e' ya=>?_);refine zg ?_;exact Ae (ya.trans rfl) (by rw[<-hI];exact zn h0) ra;have wE:((ns.map iv).length:Int)=(f.params:Int):=by omega
  refine oB 76 rfl (λ_=>?_) λh=>absurd wE (zf h);have hI0:E=0:=by rw[<-hI];exact zp h0
  refine oS (sK (H1:=[]) (F:=_::Be k d) [_,_,_] rfl qb (Xe true name 1 ra) (λ_=>?_) λnm h=>absurd rfl h);refine oa ?_;refine cD (m:=12) rfl [(b7,.cells 209 [iv f.params,iv f.need,iv f.depth])]<|Sz ?_;refine dy ?_;refine aT 7 rfl rfl (Pure.add rfl rfl zo)<|aL ?_ dc;refine lO 4 (lH rfl rfl (pL (c:=iv d) rfl Ff rfl) ?_);refine lO 8 (lH rfl rfl (Pure.vf d (f.depth+1) rfl rfl zo zo) ?_);refine lO 9 (lH rfl rfl (pN rfl) ?_);refine lO 10 (lH rfl rfl (pF rfl) ?_);refine lO 11 (lS (H1:=[(k.cb,.cells 159 [.atom (.map (some k.gm)),.atom (.map (some k.vm)),.atom (.map (some k.am)),.atom (.map (some k.fm)),str k.name,.atom (.map (some k.om)),int .i64 (d:Int)])]) rfl (.inl rfl) rfl (show Ec _ _ _ from pT pH) dc (sS (n:=1) (Ya:=[_,_,_,_,_,_,iv (max d (f.depth+1))]) rfl pH rfl rfl rfl rfl rfl ?_));refine lD zk ?_;have bT:max d DD=max d (f.depth+1):=by rw[<-Xg]
  rw[bT];refine qN ?_;refine Ga.perm (H':=(b7,.cells 209 [iv f.params,iv f.need,iv f.depth])::Be k (max d (f.depth+1))) (Km _ _ _) ?_;refine ia ?_;refine ca (Pure.vf (f.params+1) f.need rfl rfl zo zo)<|ia ?_;refine oL (λkk ls H'=>∃ (pre l1:List Nat) (m:Nat),ns=pre++l1/\kk=l1.length/\ls=[(9,iv m),(96,.list (ns.map iv)),(97,int .i64 ((ns.map iv).length:Int)),(98,iv pre.length)]/\H'=Be k (max d (f.depth+1))/\cA pre.length l1 m=N)
   ⟨ns.length,_,_,⟨[],ns,max (f.params+1) f.need,rfl,rfl,rfl,rfl,hN⟩,Qa,fe Ma⟩ ?_
  rintro kk ls H' ⟨pre,l1,m,xb,rfl,rfl,rfl,hS⟩ j hj;have Dj:pre.length<=2000000:=by rw[xb,ua] at hl;omega
  refine Nd ?_;refine sa (λhc=>?_) λhc=>?_;have fa:=zt hc;rw[Ua,xb,ua] at fa
  obtain⟨a,l2,rfl⟩:∃ a l2,l1=a::l2:=by
   cases l1 with
   |nil=>simp at fa
   |cons a l2=>exact⟨a,l2,rfl⟩
  have ha:a<=1000000000:=ND a (by rw[xb];exact List.mem_append_right _ rf);rw[cA] at hS;refine ia ?_;refine ca (xR (ad:=iv a) (cs:=[iv a]) rfl rfl zo (by rw[xb];exact Wc iv pre a l2) rfl rfl)<|ja ?_;refine ca (Pure.vf m (pre.length+a) rfl rfl zo zo)<|ia ?_;exact⟨l2.length,_,_,Nat.lt_succ_self _,⟨pre++[a],l2,max m (pre.length+a),by rw[xb];simp,rfl,rfl,rfl,by rw[ua];exact hS⟩,⟨rfl,rfl,rfl,bf (by simp),trivial⟩,kb _,hj⟩;have fa:=zf hc;rw[Ua,xb,ua] at fa;obtain rfl:l1=[]:=by
   cases l1 with
   |nil=>rfl
   |cons a l2=>simp at fa;omega
  rw[cA] at hS;refine ia ?_;exact mj hj (va rfl) hI0 (by rw[<-hS];rfl) Ma
theorem iX{x y:Nat×da}:List.Perm (x::y::(A++B)) (A++(x::y::B)):=by have h:List.Perm (([x,y]++A)++B) ((A++[x,y])++B):=dd.append_right B;rw[Xc A] at h;exact h
theorem UP{x:Nat×da}:List.Perm (x::(A++B)) (A++(x::B)):=by have h:List.Perm (([x]++A)++B) ((A++[x])++B):=dd.append_right B;rw[Xc A] at h;exact h
theorem X5{x y:Nat×da}:List.Perm (A++(x::y::B)) (B++(x::y::A)):=by refine iX.symm.trans ?_;exact(dd (l₁:=x::y::A) (l₂:=B))
theorem D6(n:Nat):∀ v∈[iv n],v.cells.length=1:=λv hv=>by rw[wh hv];rfl
theorem FQ(c:wb):∀ l:List Ex,(sj c l).length=l.length
 |[]=>rfl
 |x::l=>by rw[sj,Oa,Oa,FQ c l]
theorem YY(c:wb)(x:Ex):∀ l:List Ex,sj c (l++[x])=sj c l++[gk c x]
 |[]=>rfl
 |y::l=>by show sj c (y::(l++[x]))=_;rw[sj,YY c x l,sj];rfl
theorem LX(c:wb)(x:Ex):∀ l:List Ex,Nj c (l++[x])=max (Nj c l) (Jj c x)
 |[]=>by show max (Jj c x) 0=max 0 (Jj c x);omega
 |y::l=>by show Nj c (y::(l++[x]))=_;rw[Nj,LX c x l,Nj,Nat.max_assoc]
theorem MY{c:wb}{B D:Nat}(hB:so B D c.funcs):∀ {l:List Ex} {n:Nat},n∈sj c l->n<=4 * ob l+B
 |[],n,h=>by rw[sj] at h;cases h
 |x::l,n,h=>by rw[sj] at h;rw[ob];rcases Mc.1 h with rfl|h;have:=kF B D c hB x;omega;have:=MY hB h;omega
def BU(B0:Nat)(w0:World)(k:KB)(c:wb)(n:Nat):Prop:=∀ (x:Ex) (d:Nat),Hi x<=n->d<=200000000->aa (KC B0 w0) 272 [ptr k.cb 0,Va x] (Be k d) (tt (Og c x) (iv (gk c x)) (Be k (max d (Jj c x))))
theorem PC{k:KB}{c:wb}(hk:ou k c){B D:Nat}(hB:so B D c.funcs)(oE:B<=100000000)(Ew:D<=100000000):∀ n:Nat,n<=2000000->BU B0 w0 k c n
 |0,_=>λx d h _=>by have:=bL x;omega
 |n+1,D1=>by
  have ih:=PC hk hB oE Ew n zo;intro x d Vg hd;obtain⟨op,num,name,args⟩:=x;rw[Hi] at Vg;have zw:=jF args;have bc:(args.map Va).length=args.length:=Ua _;generalize hI:Og c (Ex.mk op num name args)=E;rw[Og] at hI;rw[gk,Jj];rw[Av];refine cJ Tryz.func272 (n:=121) ?_;refine Pc ?_;refine oS (sB rfl λb3=>?_);refine ia ?_;refine oS (sF [_] rfl (qkI op) ?_);refine oa ?_;refine cM (A:=Unit) (λ_=>[(0,ptr k.cb 0),(3,ptr b3 0)]) (λ_=>(b3,.cells 217 [str op,int .u32 (num:Int),str name,.list (args.map Va)])::Be k d) (λ_=>Xh op = -1∨Xh op=args.length) ?_ λ_ Zf j hj=>?_;refine cD (m:=14) rfl [(b3,.cells 217 [str op,int .u32 (num:Int),str name,.list (args.map Va)]),(k.cb,.cells 159 [.atom (.map (some k.gm)),.atom (.map (some k.vm)),.atom (.map (some k.am)),.atom (.map (some k.fm)),str k.name,.atom (.map (some k.om)),int .i64 (d:Int)])]<|aT 0 rfl rfl (pM (lv:=.atom _) rfl) ?_
  by_cases h1:Xh op = -1;refine Pa.take (i:=1) (Ab pH dc) rfl zk zk zk rfl (Pure.eK h1 rfl rfl)<|Qm ?_;refine UB ?_;refine Pa.Ic (i:=7) rfl rfl rfl rfl zk zk zk rfl<|aT 8 rfl rfl (Pure.Gi (lv:=.atom _) rfl rfl)<|SB ?_;refine lO 13 (lS (H1:=[]) rfl (.inl rfl) rfl qb (Ab pH dc) (Ja.Si [_,_,_] rfl (Xe true k.name 3 ra) (λ_=>?_) λnm h=>absurd rfl h));refine Zj ?_;exact⟨(),.inl h1,Qa,kb _,rfl⟩;refine Pa.take (i:=1) (Ab pH dc) rfl zk zk zk rfl (Pure.fK h1 rfl rfl)<|Qm ?_;refine Pa.Ao 3 rfl rfl rfl rfl (pM (lv:=.atom _) rfl)<|Pa.Ao 4 rfl rfl rfl rfl (pF rfl)<|Pa.Ao 5 rfl rfl rfl rfl (pL (c:=.list _) rfl yb rfl)<|Pa.Ao 6 rfl rfl rfl rfl (Pure.jl rfl) ?_
  by_cases h2:Xh op=args.length;refine Pa.Tk (i:=7) (Ab pH dc) rfl rfl rfl zk zk zk rfl (Pure.eK (show Xh op=((args.map Va).length:Int) by rw[bc];exact h2) rfl rfl)<|aT 8 rfl rfl (Pure.nh (lv:=.atom _) rfl rfl)<|SB ?_;refine lO 13 (lS (H1:=[]) rfl (.inl rfl) rfl qb (Ab pH dc) (Ja.Si [_,_,_] rfl (Xe true k.name 3 ra) (λ_=>?_) λnm h=>absurd rfl h));refine Zj ?_;exact⟨(),.inr h2,Qa,kb _,rfl⟩;refine Pa.Tk (i:=7) (Ab pH dc) rfl rfl rfl zk zk zk rfl (Pure.fK (show ¬ Xh op=((args.map Va).length:Int) by rw[bc];exact h2) rfl rfl)<|aT 8 rfl rfl (Pure.nh (lv:=.atom _) rfl rfl)<|SB ?_;refine lO 13 (lS (H1:=[]) rfl (.inl rfl) rfl qb (Ab pH dc) (Ja.Si [_,_,_] rfl (Xe false k.name 3 ra) (λh=>absurd h ra) λnm _ e' ya=>?_));refine zg ?_;exact Ae (ya.trans rfl) (by rw[<-hI,zn (λh=>h.elim h1 h2)];rfl) ra;rw[zp Zf] at hI;refine ja ?_
  refine oL (λkk ls H'=>∃ (pre l1:List Ex) (v:LV) (Ha:Heap),args=pre++l1/\kk=l1.length/\ls=[(0,ptr k.cb 0),(3,ptr b3 0),(6,v),(29,.list (args.map Va)),(30,int .i64 ((args.map Va).length:Int)),(31,int .i64 (pre.length:Int))] /\
    H'=(b3,.cells 217 [str op,int .u32 (num:Int),str name,.list (args.map Va)])::(Be k (max d (Nj c pre))++Ha)/\GL.Acc 1 v ((sj c pre).map iv) Ha []/\Cg (Bi c l1) (Yu c op name args.length)=E)
   ⟨args.length,_,_,⟨[],args,Ea,[],rfl,rfl,rfl,rfl,Acc.nil,hI⟩,Qa,⟨[],by
    rw[Qb,Qb,Nj,max_zero]⟩⟩ ?_
  rintro kk ls H' ⟨pre,l1,v,Ha,xb,rfl,rfl,rfl,Ta,Hz⟩ j2 Ub;have Dj:pre.length<=2000000:=by have:=congrArg List.length xb;rw[ua] at this;omega
  have Z1:max d (Nj c pre)<=200000000:=by have:=SH B D c hB pre;omega
  refine Nd ?_;refine sa (λhc=>?_) λhc=>?_;have fa:=zt hc;rw[Ua,xb,ua] at fa
  obtain⟨a,l2,rfl⟩:∃ a l2,l1=a::l2:=by
   cases l1 with
   |nil=>simp at fa
   |cons a l2=>exact⟨a,l2,rfl⟩
  have yw:Hi a<=ob args:=ZO (by rw[xb];exact List.mem_append_right _ rf);rw[Bi] at Hz;refine Af ?_;refine ca (xR (ad:=Va a) (cs:=[_,_,_,_]) rfl rfl zo (by rw[xb];exact Wc Va pre a l2) rfl rfl)<|za ?_;refine oS (yc λb8=>?_);refine ja ?_;refine eh ?_;refine za ?_;refine oS (sK [_,_] rfl iX (ih a _ zo Z1) (λh0=>?_) λnm h0 e' ya=>?_);rw[h0] at Hz;refine oS (sL (es:=[iv (gk c a)]) [_] rfl (rc rfl rfl Tf) rfl rfl rfl<|oS (sG X5 rfl Ta rfl (D6 _) rfl (by rw[Ua,FQ,Oa,Eb];omega) λv' Ha' Ra=>?_));refine Wh ?_;refine Mh ?_
  exact⟨l2.length,_,_,Nat.lt_succ_self _,⟨pre++[a],l2,v',Ha',by rw[xb];simp,rfl,rfl,rfl,by rw[YY,Od];exact Ra,by rw[<-Hz];rfl⟩,⟨rfl,rfl,rfl,rfl,rfl,bf (by simp),trivial⟩,by
   rw[LX,<-Nat.max_assoc];exact fe Ma,Ub⟩
  refine Rc ?_;exact Ae ((ya.trans Ub).trans hj) (by rw[<-Hz];unfold Cg;rw[zp h0,zp h0]) h0;have fa:=zf hc;rw[Ua,xb,ua] at fa;obtain rfl:l1=[]:=by
   cases l1 with
   |nil=>rfl
   |cons a l2=>simp at fa;omega
  rw[Qb] at xb;subst xb;have kE:Yu c op name args.length=E:=by rw[<-Hz];rfl
  have Mn:j2.ds=[]:=Ub.trans hj;generalize Cx:max d (Nj c args)=d1 at Z1 ⊢;have bT:max d (max (Nj c args) (Lr c op name))=max d1 (Lr c op name):=by rw[<-Cx,Nat.max_assoc]
  rw[bT];generalize ND:sj c args=ns at Ta ⊢;have ir:ns.length=args.length:=by rw[<-ND,FQ]
  have OD:∀ m∈ns,m<=1000000000:=λm hm=>by rw[<-ND] at hm;have:=MY hB hm;omega
  have nr:=Ta.elems;refine ia ?_;have Ag:∀ (nd:LV) {e:Env} {H:Heap},E=0->e.ds=[]->e.s 4=nd->HSub (Be k d1) H->Lr c op name=0->iv (KF c op name ns)=nd->oc (KC B0 w0) 121 [ResultVar.tmp 4] (tt E (iv (KF c op name ns)) (Be k (max d1 (Lr c op name)))) .ret e H:=λnd {e H} h0 hd he hH Fp hn=>by rw[Fp,max_zero];exact mj hd (rC (rT he fc) rN) h0 hn.symm hH
  have On:¬ op=Ek->Lr c op name=0:=λh=>by unfold Lr;rw[zn (λh2=>h h2.1)]
  have YM:¬ op=pn->¬ op=Dy->¬ op=Ek->E=0:=λa1 a2 a3=>by rw[<-kE];unfold Yu;rw[zn a1,zn a2,zn a3]
  have HS:HSub (Be k d1) ((b3,.cells 217 [str op,int .u32 (num:Int),str name,.list (args.map Va)])::(Be k d1++Ha)):=fe Uy;by_cases h1:op=[110,117,109];refine oC rfl (λ_=>?_) λhc=>absurd h1 (zf hc);refine Hj ?_;refine Ag (iv 1) ?_ ?_ ?_ ?_ ?_ ?_;subst h1;exact YM ra ra ra;exact Mn;rfl;exact HS;subst h1;exact On ra;subst h1;rfl;refine oC rfl (λhc=>absurd (zt hc) h1) λ_=>?_;refine Gj ?_
  by_cases h2:op=[118,97,114];refine oC rfl (λ_=>?_) λhc=>absurd h2 (zf hc);have kq:wu c name=E:=by rw[<-kE];subst h2;rfl
  refine ia ?_;refine oS (sK [_,_] rfl UP (EF hk d1 name) (λh0=>?_) λnm h0 e' ya=>?_);rw[kq] at h0;refine Hj ?_;refine Ag (iv 1) h0 ?_ ?_ ?_ ?_ ?_;exact Mn;rfl;exact Uy;subst h2;exact On ra;subst h2;rfl;refine Rc ?_;exact Ae (ya.trans Mn) kq.symm h0;refine oC rfl (λhc=>absurd (zt hc) h2) λ_=>?_;refine Gj ?_
  by_cases h3:op=[101,108,101,109];refine oC rfl (λ_=>?_) λhc=>absurd h3 (zf hc);have kq:nA c name=E:=by rw[<-kE];subst h3;rfl
  obtain⟨n0,rfl⟩:∃ n0,ns=[n0]:=by
   have h9:ns.length=1:=by rcases Zf with h|h;subst h3;exact absurd h ra;subst h3;have h9:(1:Int)=(args.length:Int):=h;omega
   cases ns with
   |nil=>cases h9
   |cons a l=>
    cases l with
    |nil=>exact⟨a,rfl⟩
    |cons b l=>simp at h9
  have Gn:=OD n0 rf;refine ia ?_;refine oS (sK [_,_] rfl UP (dI hk d1 name) (λh0=>?_) λnm h0 e' ya=>?_);rw[kq] at h0;refine Nd ?_;refine OB ?_;refine Ag (int .i64 (1+(n0:Int))) h0 ?_ ?_ ?_ ?_ ?_;exact Mn;rfl;exact Uy;subst h3;exact On ra;subst h3;exact bf (show((1+n0:Nat):Int)=_ by omega);refine Rc ?_;exact Ae (ya.trans Mn) kq.symm h0;refine oC rfl (λhc=>absurd (zt hc) h3) λ_=>?_;refine Gj ?_
  by_cases h4:op=[99,97,108,108];refine oC rfl (λ_=>?_) λhc=>absurd h4 (zf hc);have kq:Df c name ns.length=E:=by rw[<-kE,ir];subst h4;rfl
  have hN4:KF c op name ns=kC c name ns:=by subst h4;rfl
  have WJ:Lr c op name=Lr c Ek name:=by subst h4;rfl
  refine ia ?_;refine eh ?_;refine ea.sub 67 rfl Ta.sub ?_;refine oS (sK [_,_,_] rfl UP (qqv hk hB oE Ew d1 zo name ns zo OD) (λh0=>?_) λnm h0 e' ya=>?_);rw[kq] at h0;refine oa ?_;rw[hN4,WJ];exact mj Mn (va rfl) h0 rfl Uy;refine Rc ?_;exact Ae (ya.trans Mn) kq.symm h0;refine oC rfl (λhc=>absurd (zt hc) h4) λ_=>?_;have Kp:=YM h2 h3 h4;have Fp:=On h4;refine Gj ?_
  by_cases h5:op=[110,101,103];refine oC rfl (λ_=>?_) λhc=>absurd h5 (zf hc)
  obtain⟨n0,rfl⟩:∃ n0,ns=[n0]:=by
   have h9:ns.length=1:=by rcases Zf with h|h;subst h5;exact absurd h ra;subst h5;have h9:(1:Int)=(args.length:Int):=h;omega
   cases ns with
   |nil=>cases h9
   |cons a l=>
    cases l with
    |nil=>exact⟨a,rfl⟩
    |cons b l=>simp at h9
  have Gn:=OD n0 rf;refine Pc ?_;refine OB ?_;refine Ag (int .i64 (1+(n0:Int))) Kp ?_ ?_ ?_ Fp ?_;exact Mn;rfl;exact HS;subst h5;exact bf (show((1+n0:Nat):Int)=_ by omega);refine oC rfl (λhc=>absurd (zt hc) h5) λ_=>?_;have W2:=h5;clear h5;refine Gj ?_
  by_cases h5:op=[110,111,116];refine oC rfl (λ_=>?_) λhc=>absurd h5 (zf hc)
  obtain⟨n0,rfl⟩:∃ n0,ns=[n0]:=by
   have h9:ns.length=1:=by rcases Zf with h|h;subst h5;exact absurd h ra;subst h5;have h9:(1:Int)=(args.length:Int):=h;omega
   cases ns with
   |nil=>cases h9
   |cons a l=>
    cases l with
    |nil=>exact⟨a,rfl⟩
    |cons b l=>simp at h9
  have Gn:=OD n0 rf;refine Pc ?_;refine OB ?_;refine ca (Pure.vf 2 n0 rfl rfl rfl rfl)<|oa ?_;refine Ag (iv (max 2 n0)) Kp ?_ ?_ ?_ Fp ?_;exact Mn;rfl;exact HS;subst h5;rfl;refine oC rfl (λhc=>absurd (zt hc) h5) λ_=>?_
  have fE:ns.length=2:=by unfold Xh at Zf;rw[zn λh=>h.elim h1 h2,zn λh=>h.elim h3 λh=>h.elim W2 h5,zn (show ¬ op=Ek from h4)] at Zf;split at Zf;rcases Zf with h|h <;> omega;rcases Zf with h|h <;> omega
  obtain⟨a,b,rfl⟩:∃ a b,ns=[a,b]:=by
   match ns,fE with
   |[a,b],_=>exact⟨a,b,rfl⟩
  have ha:=OD a rf;have hb:=OD b (Sc _ rf);refine oa ?_;refine Ga.quiet zk ?_;refine qP (pM (lv:=v) rfl) rfl ?_;refine qP (xR (ad:=iv a) (cs:=[iv a]) nr rfl zo rfl rfl rfl) rfl ?_;refine Oi ?_;refine qP (pM (lv:=v) rfl) rfl ?_;refine qP (xR (ad:=iv b) (cs:=[iv b]) nr rfl zo rfl rfl rfl) rfl ?_;refine ja ?_;by_cases h6:op=[62];refine oC rfl (λ_=>?_) λhc=>absurd h6 (zf hc);refine oa ?_;refine oC rfl (λ_=>?_) λhc=>absurd h6 (zf hc);refine ia ?_;refine ca (Pure.Bm 3 a (1+b) rfl rfl rfl rfl rfl zo)<|oa ?_;refine Ag (iv (max (max 3 a) (1+b))) Kp ?_ ?_ ?_ Fp ?_;exact Mn;rfl;exact HS;subst h6;rfl;refine oC rfl (λhc=>absurd (zt hc) h6) λ_=>?_;have h6n:=h6;clear h6;refine Gj ?_
  by_cases h6:op=[60,61];refine oC rfl (λ_=>?_) λhc=>absurd h6 (zf hc);refine ia ?_;refine ca (Pure.Bm 3 a (1+b) rfl rfl rfl rfl rfl zo)<|oa ?_;refine Ag (iv (max (max 3 a) (1+b))) Kp ?_ ?_ ?_ Fp ?_;exact Mn;rfl;exact HS;subst h6;rfl;refine oC rfl (λhc=>absurd (zt hc) h6) λ_=>?_;refine Gj ?_
  by_cases h7:op=[33,61];refine oC rfl (λ_=>?_) λhc=>absurd h7 (zf hc);refine ia ?_;refine ca (Pure.Bm 3 (1+a) (2+b) rfl rfl rfl rfl zo zo)<|oa ?_;refine Ag (iv (max (max 3 (1+a)) (2+b))) Kp ?_ ?_ ?_ Fp ?_;exact Mn;rfl;exact HS;subst h7;rfl;refine oC rfl (λhc=>absurd (zt hc) h7) λ_=>?_;refine Gj ?_
  by_cases h8:op=[38,38];refine oC rfl (λ_=>?_) λhc=>absurd h8 (zf hc);refine ia ?_;refine ca (Pure.vf (1+a) (2+b) rfl rfl zo zo)<|oa ?_;refine Ag (iv (max (1+a) (2+b))) Kp ?_ ?_ ?_ Fp ?_;exact Mn;rfl;exact HS;subst h8;rfl;refine oC rfl (λhc=>absurd (zt hc) h8) λ_=>?_;refine Gj ?_
  by_cases h9:op=[124,124];refine oC rfl (λ_=>?_) λhc=>absurd h9 (zf hc);refine ia ?_;refine ca (Pure.vf (2+a) (3+b) rfl rfl zo zo)<|oa ?_;refine Ag (iv (max (2+a) (3+b))) Kp ?_ ?_ ?_ Fp ?_;exact Mn;rfl;exact HS;subst h9;rfl;refine oC rfl (λhc=>absurd (zt hc) h9) λ_=>?_;refine ia ?_;refine ca (Pure.Bm 2 a (1+b) rfl rfl rfl rfl rfl zo)<|qh ?_;refine Ag (iv (max (max 2 a) (1+b))) Kp ?_ ?_ ?_ Fp ?_;exact Mn;rfl;exact HS;unfold KF;rw[zn λh=>h.elim h1 h2,zn λh=>h.elim h3 W2,zn (show ¬ op=Ek from h4),zn (show ¬ op=Yo from h5),zn λh=>h.elim h6n h6,zn h7,zn h8,zn h9];rfl
theorem O4:Kg (.mk 1 name index value lb Db)=((!decide (name=[])) && decide (((index.map Va).length:Int)=0) && decide (((value.map Va).length:Int)=1) && decide (((lb.map Hb).length:Int)=0) && decide (((Db.map Hb).length:Int)=0)):=by rw[Bool.eq_iff_iff];simp only[Kg,Le,sf,Bool.not_eq_true',decide_eq_false_iff_not,Ua];constructor;exact Tx;exact Sx
theorem s4:Kg (.mk 2 name index value lb Db)=((!decide (name=[])) && decide (((index.map Va).length:Int)=1) && decide (((value.map Va).length:Int)=1) && decide (((lb.map Hb).length:Int)=0) && decide (((Db.map Hb).length:Int)=0)):=by rw[Bool.eq_iff_iff];simp only[Kg,Le,sf,Bool.not_eq_true',decide_eq_false_iff_not,Ua];constructor;exact Tx;exact Sx
theorem T4:Kg (.mk 3 name index value lb Db)=((!!decide (name=[])) && decide (((index.map Va).length:Int)=0) && decide (((value.map Va).length:Int)=1)):=by rw[Bool.eq_iff_iff];simp only[Kg,Le,sf,Bool.not_eq_true',decide_eq_false_iff_not,Ua];constructor;intro h;have h':_:=zt h;obtain⟨a1,a2,a3⟩:=h';exact⟨⟨by simpa using a1,by omega⟩,by omega⟩;rintro⟨⟨a1,a2⟩,a3⟩;exact Eg ⟨by simpa using a1,by omega,by omega⟩
theorem z6:Kg (.mk 4 name index value lb Db)=((!!decide (name=[])) && decide (((index.map Va).length:Int)=0) && decide (((value.map Va).length:Int)=1) && decide (((Db.map Hb).length:Int)=0)):=by rw[Bool.eq_iff_iff];simp only[Kg,Le,sf,Bool.not_eq_true',decide_eq_false_iff_not,Ua];constructor;intro h;have h':_:=zt h;obtain⟨a1,a2,a3,a4⟩:=h';exact⟨⟨⟨by simpa using a1,by omega⟩,by omega⟩,by omega⟩;rintro⟨⟨⟨a1,a2⟩,a3⟩,a4⟩;exact Eg ⟨by simpa using a1,by omega,by omega,by omega⟩
theorem K4:Kg (.mk 5 name index value lb Db)=((!!decide (name=[])) && decide (((index.map Va).length:Int)=0) && decide (((value.map Va).length:Int)=1) && decide (((lb.map Hb).length:Int)=0) && decide (((Db.map Hb).length:Int)=0)):=by rw[Bool.eq_iff_iff];simp only[Kg,Le,sf,Bool.not_eq_true',decide_eq_false_iff_not,Ua];constructor;exact Tx;exact Sx
theorem G4:Kg (.mk 6 name index value lb Db)=((!!decide (name=[])) && decide (((index.map Va).length:Int)=0) && decide (((value.map Va).length:Int)=1) && decide (((lb.map Hb).length:Int)=0) && decide (((Db.map Hb).length:Int)=0) && decide (ug (value.headD default)=[99,97,108,108])):=by rw[Bool.eq_iff_iff];simp only[Kg,Le,sf,Bool.not_eq_true',decide_eq_false_iff_not,Ua];constructor;intro h;have h':_:=zt h;obtain⟨a1,a2,a3,a4,a5,a6⟩:=h';exact⟨⟨⟨⟨⟨by simpa using a1,by omega⟩,by omega⟩,by omega⟩,by omega⟩,a6⟩;rintro⟨⟨⟨⟨⟨a1,a2⟩,a3⟩,a4⟩,a5⟩,a6⟩;exact Eg ⟨by simpa using a1,by omega,by omega,by omega,by omega,a6⟩
theorem M4:Kg (.mk 7 name index value lb Db)=((!!decide (name=[])) && decide (((index.map Va).length:Int)=0) && decide (((value.map Va).length:Int)=0) && decide (((lb.map Hb).length:Int)=0) && decide (((Db.map Hb).length:Int)=0)):=by rw[Bool.eq_iff_iff];simp only[Kg,Le,sf,Bool.not_eq_true',decide_eq_false_iff_not,Ua];constructor;exact Tx;exact Sx
theorem qna(s:Sm):aa (KC B0 w0) 271 [Hb s] [] (gb (bool (Kg s))):=by
 obtain⟨kind,name,index,value,lb,Db⟩:=s;rw[Iq];refine cJ Tryz.func271 (n:=159) ?_;refine Pc ?_;refine oS (sB rfl λb1=>?_);refine oa ?_;refine Ga.quiet zk ?_;refine ja ?_;by_cases Xt:kind=1
 ·subst Xt;refine oC rfl (λ_=>?_) (λhc=>by cases hc);rw[O4];refine Dc ?_;refine oB 28 rfl (λq1=>?_) λq1=>?_;rotate_left;exact pq;refine oa ?_;refine oB 32 rfl (λq2=>?_) λq2=>?_;rotate_left;exact FB;refine oa ?_;refine oB 36 rfl (λq3=>?_) λq3=>?_;rotate_left;exact Ys;refine oa ?_;refine oB 40 rfl (λq4=>?_) λq4=>?_;rotate_left;exact Tu;refine Wu ?_;simp only[q1,q2,q3,q4,Bool.true_and];rfl
 refine oC rfl (λhc=>absurd (zt hc) Xt) λ_=>?_;refine Yg ?_
 by_cases Em:kind=2
 ·subst Em;refine oC rfl (λ_=>?_) (λhc=>by cases hc);rw[s4];refine Dc ?_;refine oB 47 rfl (λq1=>?_) λq1=>?_;rotate_left;exact pq;refine oa ?_;refine oB 51 rfl (λq2=>?_) λq2=>?_;rotate_left;exact FB;refine oa ?_;refine oB 55 rfl (λq3=>?_) λq3=>?_;rotate_left;exact Ys;refine oa ?_;refine oB 59 rfl (λq4=>?_) λq4=>?_;rotate_left;exact Tu;refine Wu ?_;simp only[q1,q2,q3,q4,Bool.true_and];rfl
 refine oC rfl (λhc=>absurd (zt hc) Em) λ_=>?_;refine Yg ?_
 by_cases zx:kind=3
 ·subst zx;refine oC rfl (λ_=>?_) (λhc=>by cases hc);rw[T4];refine ja ?_;refine oB 67 rfl (λq1=>?_) λq1=>?_;rotate_left;exact pq;refine oa ?_;refine oB 71 rfl (λq2=>?_) λq2=>?_;rotate_left;exact FB;refine Wu ?_;simp only[q1,q2,Bool.true_and];rfl
 refine oC rfl (λhc=>absurd (zt hc) zx) λ_=>?_;refine Yg ?_
 by_cases Bz:kind=4
 ·subst Bz;refine oC rfl (λ_=>?_) (λhc=>by cases hc);rw[z6];refine ja ?_;refine oB 79 rfl (λq1=>?_) λq1=>?_;rotate_left;exact pq;refine oa ?_;refine oB 83 rfl (λq2=>?_) λq2=>?_;rotate_left;exact FB;refine oa ?_;refine oB 87 rfl (λq3=>?_) λq3=>?_;rotate_left;exact Ys;refine Wu ?_;simp only[q1,q2,q3,Bool.true_and];rfl
 refine oC rfl (λhc=>absurd (zt hc) Bz) λ_=>?_;refine Yg ?_
 by_cases SD:kind=5
 ·subst SD;refine oC rfl (λ_=>?_) (λhc=>by cases hc);rw[K4];refine ja ?_;refine oB 95 rfl (λq1=>?_) λq1=>?_;rotate_left;exact pq;refine oa ?_;refine oB 99 rfl (λq2=>?_) λq2=>?_;rotate_left;exact FB;refine oa ?_;refine oB 103 rfl (λq3=>?_) λq3=>?_;rotate_left;exact Ys;refine oa ?_;refine oB 107 rfl (λq4=>?_) λq4=>?_;rotate_left;exact Tu;refine Wu ?_;simp only[q1,q2,q3,q4,Bool.true_and];rfl
 refine oC rfl (λhc=>absurd (zt hc) SD) λ_=>?_;refine Yg ?_
 by_cases XF:kind=6
 ·subst XF;refine oC rfl (λ_=>?_) (λhc=>by cases hc);rw[G4];refine ja ?_;refine oB 115 rfl (λq1=>?_) λq1=>?_;rotate_left;exact pq;refine oa ?_;refine oB 119 rfl (λq2=>?_) λq2=>?_;rotate_left;exact FB;refine oa ?_;refine oB 123 rfl (λq3=>?_) λq3=>?_;rotate_left;exact Ys;refine oa ?_;refine oB 127 rfl (λq4=>?_) λq4=>?_;rotate_left;exact Tu;refine oa ?_;refine oB 131 rfl (λq5=>?_) λq5=>?_;rotate_left;refine Wu ?_;simp only[q1,q2,q3,q4,q5,Pg,Bool.and_false,Bool.true_and];rfl;refine Oi ?_
  obtain⟨x0,rfl⟩:∃ x,value=[x]:=by
   have h1:((value.map Va).length:Int)=1:=zt q3;rw[Ua] at h1;cases value with
   |nil=>simp at h1
   |cons x l=>
    cases l with
    |nil=>exact⟨x,rfl⟩
    |cons y l=>simp at h1;omega
  first|refine ea.want rfl rfl ?_|skip
  refine ca (xR (ad:=Va x0) (cs:=[_,_,_,_]) rfl rfl zo rfl rfl rfl)<|za ?_;refine rR rfl (va rfl) Fc ⟨?_,rfl⟩;simp only[q1,q2,q3,q4,q5,Bool.true_and];rfl
 refine oC rfl (λhc=>absurd (zt hc) XF) λ_=>?_;refine Yg ?_
 by_cases PS:kind=7
 ·subst PS;refine oC rfl (λ_=>?_) (λhc=>by cases hc);rw[M4];refine ja ?_;refine oB 143 rfl (λq1=>?_) λq1=>?_;rotate_left;exact pq;refine oa ?_;refine oB 147 rfl (λq2=>?_) λq2=>?_;rotate_left;exact FB;refine oa ?_;refine oB 151 rfl (λq3=>?_) λq3=>?_;rotate_left;exact Ys;refine oa ?_;refine oB 155 rfl (λq4=>?_) λq4=>?_;rotate_left;exact Tu;refine Wu ?_;simp only[q1,q2,q3,q4,Bool.true_and];rfl
 refine oC rfl (λhc=>absurd (zt hc) PS) λ_=>?_;refine ia ?_;refine rR rfl (va rfl) Fc ⟨?_,rfl⟩
 have hf:Kg (.mk kind name index value lb Db)=false:=by simp only[Kg];rw[zn Xt,zn Em,zn zx,zn Bz,zn SD,zn XF,zn PS]
 rw[hf];rfl
end Go.Proofs.YtjolancjacdeaaaGreatDoor.Zg
namespace Go.GL
open Go.RowKit
theorem Lq:∀ l:List (List UInt8),vu 1 (l.map str)
 |[]=>Tf
 |a::l=>rc rfl rfl (Lq l)
theorem aa.ov{C:Ctx}{f:FuncId}{vs:List Value}{l:List (List UInt8)}{t:TypeId}
  (h:∀ w,Below C.B0 C.w0 w->Calls C.P f vs.toArray w λe w'=>e=.returned (.slice (some ⟨w.heap.size,0,none⟩) l.length l.length)/\w'=w.alloc (.cells (l.map λs=>Value.string ⟨s.toArray⟩).toArray t)):aa C f (vs.map .atom) [] (gb (.list (l.map str))):=λxs w L hv hH=>by
 have hx:xs=vs:=by
  clear h hH;induction vs generalizing xs with
  |nil=>simpa [na] using hv
  |cons v vs ih=>simp only[Tb,na,Wa] at hv;obtain⟨y,ys,rfl,rfl,hv⟩:=hv;rw[ih _ hv]
 subst hx;refine(h w hH.base).mono λe w' he=>?_;obtain⟨rfl,rfl⟩:=he
 have hr:na w L (l.map str) (l.map λs=>Value.string ⟨s.toArray⟩):=by have:=Jl (w:=w) (L:=L) (l.map λs=>Value.string ⟨s.toArray⟩);rw[map_map] at this;exact this
 have He:vu 1 (l.map str):=Lq l;have hl:(l.map str).length=l.length:=Ua _;have:=jZ (K:=λlv H=>∃ b,lv=.app b l.length 1 (l.map str)) (t:=t) (cap:=l.length) (rest:=[]) hH hr He zo (by simp) λb=>⟨b,rfl⟩
 have e1:((l.map λs=>Value.string ⟨s.toArray⟩).flatMap λv=>v.cells.toList)++[]=l.map λs=>Value.string ⟨s.toArray⟩:=by
  rw[Qb];clear this He hr h hv hl;induction l with
  |nil=>rfl
  |cons a l ih=>rw[Tb,List.flatMap_cons,ih];try rfl
 rw[e1,hl] at this;obtain⟨lv,H',L',r1,r2,r3,b,rfl⟩:=this;exact⟨.list (l.map str),[],L',r1.db Fc,r2.db Fc,LV.Sub.app _ _ _ _ _ _ _ r3,rfl,rfl⟩
end Go.GL
namespace Go.Proofs.YtjolancjacdeaaaGreatDoor
open Go.GL Go.RowKit Go.Ba
namespace Rk
def GM(w0:World):Prop:=∃ m,w0.cell? ⟨0,0,none⟩=some (.int .i64 m)
theorem VY{w:World}{L:Live}{b:Nat}:∀ (k off:Nat) (ws:List (List UInt8)),Cc w L b k off (ws.map str)->∀ (j:Nat) x,(ws.map λl=>(⟨l.toArray⟩:ByteArray))[j]? = some x->k=1/\w.cell? ⟨b,off+j,none⟩=some (.string x)
 |k,off,[],_,j,x,h=>by simp at h
 |k,off,s::ws,h,0,x,hx=>by simp only[Tb,Cc] at h;obtain⟨⟨hk,_,y,hy,hr⟩,_⟩:=h;simp only[Wa] at hr;simp at hx;rw[<-hx,Nat.add_zero,hy,hr];exact⟨hk.symm,rfl⟩
 |k,off,s::ws,h,j+1,x,hx=>by simp only[Tb,Cc] at h;obtain⟨⟨hk,_⟩,h2⟩:=h;have:=VY k (off+k) ws h2 j x (by simpa using hx);refine⟨hk.symm,?_⟩;rw[<-this.2,<-hk,Nat.add_assoc,Nat.add_comm 1 j]
variable{B0:Nat}{w0:World}
theorem qe(s p:List UInt8):aa (KC B0 w0) 160 [str s,str p] [] (gb (.tuple [str (Go.Lib.trimPrefix s p),bool (Go.Lib.hasPrefix s p)])):=by refine aa.mono (aa.Ud (vs:=[.string ⟨s.toArray⟩,.string ⟨p.toArray⟩]) (p:=λus=>us=[.string ⟨(Go.Lib.trimPrefix s p).toArray⟩,.bool (Go.Lib.hasPrefix s p)]) λw hw=>?_) ?_;refine(Tryz.strings_CutPrefix ⟨s.toArray⟩ ⟨p.toArray⟩ w).mono λe w' he=>⟨_,he.1,rfl,by rw[he.2];exact Below.refl _ _⟩;rintro r H ⟨v,rfl,⟨us,rfl,rfl⟩,rfl⟩;exact⟨rfl,rfl⟩
theorem oe(s p:List UInt8)(hs:s.length<=1000000000):aa (KC B0 w0) 169 [str s,str p] [] (gb (.tuple [str (Go.Lib.trimSuffix s p),bool (Go.Lib.hasSuffix s p)])):=by refine aa.mono (aa.Ud (vs:=[.string ⟨s.toArray⟩,.string ⟨p.toArray⟩]) (p:=λus=>us=[.string ⟨(Go.Lib.trimSuffix s p).toArray⟩,.bool (Go.Lib.hasSuffix s p)]) λw hw=>?_) ?_;refine(Tryz.strings_CutSuffix ⟨s.toArray⟩ ⟨p.toArray⟩ w (by show s.toArray.size<=_;simp;omega)).mono λe w' he=>⟨_,he.1,rfl,by rw[he.2];exact Below.refl _ _⟩;rintro r H ⟨v,rfl,⟨us,rfl,rfl⟩,rfl⟩;exact⟨rfl,rfl⟩
theorem xf(sep:List UInt8)(ws:List (List UInt8))(hn:ws.length<=1000000000)(hl:(Go.Lib.join ws sep).length<=1000000000):aa (KC B0 w0) 33 [.list (ws.map str),str sep] [] (gb (str (Go.Lib.join ws sep))):=λxs w L hv hH=>by
 simp only[na] at hv;obtain⟨y,ys,rfl,hy,z,zs,rfl,hz,rfl⟩:=hv;simp only[Wa] at hy hz;obtain⟨a,cap,rfl,Kc,aJ⟩:=hy;subst hz;rw[Ua] at Kc;have Az:(ws.map λl=>(⟨l.toArray⟩:ByteArray)).map (·.data.toList)=ws:=by
  rw[map_map]
  conv=>rhs;rw[<-List.map_id ws]
  rfl
 have hc:Calls Tryz.prog 33 #[.slice a ws.length cap,.string ⟨sep.toArray⟩] w λe w'=>e=.returned (.string ⟨(Go.Lib.join ws sep).toArray⟩)/\Below w.heap.size w w':=by
  by_cases eb:ws=[]
  ·subst eb;exact(Tryz.strings_Join_none a cap ⟨sep.toArray⟩ w).mono λe w' he=>⟨by rw[he.1];try rfl,by rw[he.2];exact Below.refl _ _⟩
  obtain⟨b,off,k,rfl,hr⟩:=aJ (by simpa using eb);have Cj:=λj x hx=>(VY k off ws hr j x hx).2
  have hb:b<w.heap.size:=by obtain⟨s,r,rfl⟩:=List.exists_cons_of_ne_nil eb;have:=Cj 0 _ rfl;exact World.block_lt_of_cell? _ _ this
  have:=Tryz.strings_Join b off cap (ws.map λl=>(⟨l.toArray⟩:ByteArray)) ⟨sep.toArray⟩ w Cj hb (by rw[Ua];omega) (by rw[Ua];exact Kc) (by rw[Az];show(Go.Lib.join ws sep).length<=_;omega);rw[Ua,Az] at this;exact this
 rw[Ua];refine hc.mono λe w' he=>?_;obtain⟨rfl,hb⟩:=he;obtain⟨h1,h2⟩:=QH hH hb;exact⟨str (Go.Lib.join ws sep),[],L,h1,h2,xc,rfl,rfl⟩
theorem GM.at(hG:GW B0 w0)(h:GM w0){w:World}(hb:Below B0 w0 w):∃ m,w.cell? ⟨0,0,none⟩=some (.int .i64 m):=by obtain⟨m,hm⟩:=h;exact⟨m,(cell_of_heap (hb.block 0 (Nat.lt_of_lt_of_le ra hG.Jx)) 0).trans hm⟩
theorem xF(hG:GW B0 w0)(hM:GM w0)(s:List UInt8)(c:UInt8)(hs:s.length<=1000000000):aa (KC B0 w0) 51 [str s,str [c]] [] (gb (.list ((Yc c s).map str))):=by
 rw[<-ZX];refine aa.ov (vs:=[.string ⟨s.toArray⟩,.string ⟨#[c]⟩]) (t:=9) λw hw=>?_;obtain⟨m,hm⟩:=GM.at hG hM hw;have h1:=Tryz.strings_Split ⟨s.toArray⟩ ⟨#[c]⟩ m w (by show s.toArray.size<_;simp;omega) hm (mc 1)
 have e1:(Go.Lib.splitB ⟨#[c]⟩ 0 (Go.Lib.countB ⟨s.toArray⟩ ⟨#[c]⟩) ⟨s.toArray⟩).map Value.string=(Go.Lib.split s [c]).map λs=>Value.string ⟨s.toArray⟩:=by have:=Go.Lib.splitB_data ⟨#[c]⟩ 0 (Go.Lib.countB ⟨s.toArray⟩ ⟨#[c]⟩) ⟨s.toArray⟩;have e2:Go.Lib.split s [c]=Go.Lib.splitK (⟨#[c]⟩:ByteArray).data.toList 0 (Go.Lib.countB ⟨s.toArray⟩ ⟨#[c]⟩) (⟨s.toArray⟩:ByteArray).data.toList:=rfl;rw[e2,<-this,map_map];try rfl
 have e3:(Go.Lib.split s [c]).length=Go.Lib.countB ⟨s.toArray⟩ ⟨#[c]⟩+1:=by have:=congrArg List.length e1;rw[Ua,Ua,Go.Lib.splitB_all ⟨#[c]⟩ (mc 1) 0 _ _ rfl] at this;exact this.symm
 rw[e1] at h1;rw[e3];exact h1
theorem uP(hG:GW B0 w0)(hM:GM w0)(s:List UInt8)(c:UInt8)(hs:s.length<=1000000000):aa (KC B0 w0) 95 [str s,str [c]] [] (Ko λlv=>∃ a b,lv=.tuple [str (s.takeWhile λd=>decide (d≠c)),str a,bool b]):=by rw[<-bW];refine aa.mono (aa.Ud (vs:=[.string ⟨s.toArray⟩,.string ⟨#[c]⟩]) (p:=λus=>us=[.string ⟨(Go.Lib.cut s [c]).1.toArray⟩,.string ⟨(Go.Lib.cut s [c]).2.1.toArray⟩,.bool (Go.Lib.cut s [c]).2.2]) λw hw=>?_) ?_;obtain⟨m,hm⟩:=GM.at hG hM hw;refine(Tryz.strings_Cut ⟨s.toArray⟩ ⟨#[c]⟩ m w (by show s.toArray.size<_;simp;omega) hm).mono λe w' he=>?_;obtain⟨rfl,n,rfl⟩:=he;exact⟨_,rfl,rfl,below_drewN (Below.refl _ _) n⟩;rintro r H ⟨v,rfl,⟨us,rfl,rfl⟩,rfl⟩;exact⟨_,rfl,⟨_,_,rfl⟩,rfl⟩
def Rg(p:Wd×Nat):LV:=.agg [str p.1,int .i64 p.2]
def fP:List UInt8:=[97,98,99,100,101,102,103,104,105,106,107,108,109,110,111,112,113,114,115,116,117,118,119,120,121,122,95,48,49,50,51,52,53,54,55,56,57]
theorem qp4(c:UInt8):fP.contains c=Gh c:=by
 have:∀ n:Nat,n<256->fP.contains (UInt8.ofNat n)=Gh (UInt8.ofNat n):=by decide +kernel
 have h:=this c.toNat c.toNat_lt;rwa [UInt8.ofNat_toNat] at h
theorem qW{st:List UInt8}{p:UInt8->Bool}(he:∀ c,st.contains c=p c)(s:List UInt8):(Go.Lib.trimS s st=[]) ↔ s.all p=true:=by
 have he:(λc=>st.contains c)=p:=funext he;unfold Go.Lib.trimS Go.Lib.trimLeftS Go.Lib.trimRightS;rw[he,bD];constructor;intro h;by_cases h2:s.reverse.dropWhile p=[];rw[bD] at h2;rw[all_reverse] at h2;exact h2;exfalso;obtain⟨c,r,Ku⟩:=List.exists_cons_of_ne_nil h2;have h3:p c=false:=by have:=List.head?_dropWhile_not p s.reverse;rw[Ku] at this;simpa using this
 rw[Ku,all_reverse,List.all_cons,h3] at h;cases h;intro h;have h2:s.reverse.dropWhile p=[]:=by rw[bD,all_reverse];exact h
 rw[h2];try rfl
def Ei(o:Option Wd)(lv:LV):Prop:=∃ s,lv=.tuple [str s,bool o.isSome]/\∀ l,o=some l->s=l
theorem Ei.mk{o:Option Wd}{s:Wd}{b:Bool}(hb:o.isSome=b)(hs:∀ l,o=some l->s=l):Ei o (.tuple [str s,bool b]):=⟨s,by rw[hb],hs⟩
theorem OA{p q:Bool}{s:Wd}{o:Option Wd}(h:o=if p=true/\q=true then some s else none):o.isSome=(p && q)/\∀ l,o=some l->s=l:=by subst h;cases p <;> cases q <;> simp
attribute [local irreducible] ea Ga Ja aa Go.GL.Pure Bc Tc oc LQ Pa Td Lf
theorem KW(s st:List UInt8)(hs:s.length<=1000000000)(h1:st.length<=100)(h3:st.all (λb=>decide (b.toNat<128))=true):aa (KC B0 w0) 171 [str s,str st] [] (gb (str (Go.Lib.trimS s st))):=
 aa.ye (vs:=[.string ⟨s.toArray⟩,.string ⟨st.toArray⟩]) λw hw=>(Go.Proofs.Any.strings_Trim_laid Tryz.An zk ⟨s.toArray⟩ ⟨st.toArray⟩ w (by show s.toArray.size<=_;simp;omega) (by show st.toArray.size<_;simp;omega) (Go.Proofs.ascii_of_all h3))
theorem qly(s:List UInt8)(hs:s.length<=1000000000):aa (KC B0 w0) 170 [str s] [] (gb (bool (Ay s))):=by
 have hT:=KW (B0:=B0) (w0:=w0) s fP hs ra ra;have Vl:=qW qp4 s;refine cJ Tryz.func170 (n:=23) ?_;refine ia ?_;refine oB 5 rfl (λh1=>?_) λh1=>?_;have e:s=[]:=Ck h1;subst e;refine oa ?_;refine oC rfl (λh=>?_) (λh=>by cases h);refine Oe ?_;exact Na rfl (rC (rT (v:=.atom _) rfl (vR _)) rN) rfl;have dN:¬ s=[]:=of_decide_eq_false h1
 obtain⟨c,r,rfl⟩:∃ c r,s=c::r:=by
  cases s with
  |nil=>exact absurd rfl dN
  |cons c r=>exact⟨c,r,rfl⟩
 have hN:=U9 c r;refine za ?_;refine oB 10 rfl (λh2=>?_) λh2=>?_;have lq:¬ (c::r).length<=40:=by have:=Ck h2;omega
 rw[decide_eq_false lq,Pg,Pg] at hN;refine oa ?_;refine oC rfl (λh=>?_) (λh=>by cases h);refine Oe ?_;exact Na rfl (rC (rT (v:=.atom _) rfl (vR _)) rN) (Ed hN.symm);have lq:(c::r).length<=40:=by have:=of_decide_eq_false h2;omega
 rw[Eg lq,Bool.true_and] at hN;refine Dg ?_;refine ca (pI (c:=c) rfl rfl Ia rfl)<|oa ?_;refine oB 15 rfl (λh3=>?_) λh3=>?_
 have Pk:jk c=false:=by unfold jk;rw[decide_eq_false (by have:cv c<97:=Ck h3;omega),Pg]
 rw[Pk,Pg] at hN;refine oa ?_;refine oC rfl (λh=>?_) (λh=>by cases h);refine Oe ?_;exact Na rfl (rC (rT (v:=.atom _) rfl (vR _)) rN) (Ed hN.symm);refine Dg ?_;refine ca (pI (c:=c) rfl rfl Ia rfl)<|za ?_;refine sa (λh=>?_) λh=>?_
 have Pk:jk c=false:=by unfold jk;rw[decide_eq_false (p:=cv c<=122) (by have:cv c > 122:=Ck h;omega),Bool.and_false]
 rw[Pk,Pg] at hN;refine Oe ?_;exact Na rfl (rC (rT (v:=.atom _) rfl (vR _)) rN) (Ed hN.symm);have Pk:jk c=true:=by unfold jk;rw[Eg (by have:¬ cv c<97:=of_decide_eq_false h3;omega),Eg (by have:¬ cv c > 122:=of_decide_eq_false h;omega)];try rfl
 rw[Pk,Bool.true_and] at hN;refine ia ?_;refine oS (sF [_,_] rfl hT ?_);refine oa ?_;exact Na rfl (rC (rT (v:=.atom _) rfl (vR _)) rN) (Ed (by
  rw[hN,Bool.eq_iff_iff,decide_eq_true_iff];exact Vl))
theorem WQ(p:Wd×Nat)(hs:p.1.length<=1000000000):aa (KC B0 w0) 96 [Rg p] [] (Ko (Ei (Ib p.1))):=by
 obtain⟨w,ln⟩:=p;simp only at hs ⊢;obtain⟨r1,r2⟩:=OA (sV w);have fa:(Go.Lib.trimSuffix w [58]).length<=1000000000:=by unfold Go.Lib.trimSuffix;split;rw[List.length_take];omega;exact hs
 unfold Rg;refine cJ Tryz.func96 (n:=18) ?_;refine Pc ?_;refine oS (sB (cs:=[str w,int .i64 ln]) rfl λb1=>?_);refine ia ?_;refine oS (sF [_,_] rfl (oe w [58] hs) ?_);refine ia ?_;refine oB 14 rfl (λh=>?_) λh=>?_;exact oG;rw[h,Pg] at r1;refine oa ?_;exact tj rfl (rC (rT (v:=.atom _) rfl (vR _)) (rC (rT (v:=.atom _) rfl (vR _)) rN)) (Ei.mk r1 r2)
theorem qZ(p:Wd×Nat)(hs:p.1.length<=1000000000):aa (KC B0 w0) 97 [Rg p] [] (Ko (Ei (td p.1))):=by
 obtain⟨w,ln⟩:=p;simp only at hs ⊢;obtain⟨r1,r2⟩:=OA (aV w);have fa:(Go.Lib.trimPrefix w [38]).length<=1000000000:=by unfold Go.Lib.trimPrefix;split;rw[List.length_drop];omega;exact hs
 unfold Rg;refine cJ Tryz.func97 (n:=18) ?_;refine Pc ?_;refine oS (sB (cs:=[str w,int .i64 ln]) rfl λb1=>?_);refine ia ?_;refine oS (sF [_,_] rfl (qe w [38]) ?_);refine ia ?_;refine oB 14 rfl (λh=>?_) λh=>?_;exact oG;rw[h,Pg] at r1;refine oa ?_;exact tj rfl (rC (rT (v:=.atom _) rfl (vR _)) (rC (rT (v:=.atom _) rfl (vR _)) rN)) (Ei.mk r1 r2)
theorem qmq(p:Wd×Nat)(hs:p.1.length<=1000000000):aa (KC B0 w0) 98 [Rg p] [] (gb (bool (Wz p.1))):=by
 obtain⟨w,ln⟩:=p;simp only at hs ⊢;have hT:=KW (B0:=B0) (w0:=w0) w fx hs ra ra;have Vl:(Go.Lib.trimS w fx=[]) ↔ Wz w=true:=qW (p:=λc=>fx.contains c) (λc=>rfl) w;unfold Rg;refine cJ Tryz.func98 (n:=7) ?_;refine Pc ?_;refine oS (sB (cs:=[str w,int .i64 ln]) rfl λb1=>?_);refine ia ?_;refine oS (sF [_,_] rfl hT ?_);refine oa ?_
 exact Na rfl (rC (rT (v:=.atom _) rfl (vR _)) rN) (Ed (by
  rw[Bool.eq_iff_iff,decide_eq_true_iff];exact Vl))
theorem KZ(c:UInt8):aa (KC B0 w0) 100 [int .u8 c.toNat] [] (gb (bool (ze c))):=by have hD:ze c=(decide (48<=cv c) && decide (cv c<=57)):=rfl;refine cJ Tryz.func100 (n:=9) ?_;refine ja ?_;refine oB 5 rfl (λh=>?_) λh=>?_;have h':cv c ≥ 48:=Ck h;rw[Eg (show 48<=cv c from h'),Bool.true_and] at hD;refine Oi ?_;exact Na rfl (rC (rT (v:=.atom _) rfl (vR _)) rN) (Ed hD.symm);have h':¬ cv c ≥ 48:=of_decide_eq_false h;rw[decide_eq_false (show ¬ 48<=cv c from h'),Pg] at hD;refine oa ?_;exact Na rfl (rC (rT (v:=.atom _) rfl (vR _)) rN) (Ed hD.symm)
theorem dR(hG:GW B0 w0)(n:Nat)(hn:n<=1000000000000):aa (KC B0 w0) 99 [int .i64 n] [] (gb (str (Zn n))):=by
 have hi:=Iv hG n Ia;have eb:=xI n;have hl:(Go.Lib.decDigits n).length<=20:=by rw[Go.Lib.decDigits_length];exact Uf (mI 12 n Ia) ra
 have hA:Zn n=([48,48,48,48,48]++Go.Lib.decDigits n).drop (([48,48,48,48,48]++Go.Lib.decDigits n).length-6):=rfl;generalize Go.Lib.decDigits n=d at hi eb hl hA;have Qd:=List.length_pos_iff.2 eb;have Mk:([48,48,48,48,48]++d:List UInt8).length=d.length+5:=by simp
 refine cJ Tryz.func99 (n:=12) ?_;refine fg ?_;refine oS (sF [_] rfl hi ?_);refine ja ?_;refine ca (Pure.jh (l:=[48,48,48,48,48]++d) (i:=(([48,48,48,48,48]++d:List UInt8).length:Int)-6) (j:=(([48,48,48,48,48]++d:List UInt8).length:Int)) rfl ⟨_,rfl⟩ rfl Ia Ia Ia)<|qh ?_;exact Na rfl (rC (rT (v:=.atom _) rfl (vR _)) rN) (by
  rw[hA];have e1:(((([48,48,48,48,48]++d:List UInt8).length:Nat):Int)-6).toNat=([48,48,48,48,48]++d:List UInt8).length-6:=by omega
  show str (List.drop (((([48,48,48,48,48]++d:List UInt8).length:Nat):Int)-6).toNat (List.take ((([48,48,48,48,48]++d:List UInt8).length:Nat):Int).toNat ([48,48,48,48,48]++d)))=_;rw[e1,Int.toNat_natCast,take_length])
theorem qjk(b:Nat)(l:List UInt8)(H:Heap)(hB:BH b l H):aa (KC B0 w0) 22 [ptr b 0] H (λr H'=>r=.ret (int .i64 l.length)/\H'=H):=by obtain⟨p,v,Hv,hp,Ta,rfl⟩:=hB;refine cJ Tryz.func22 (n:=8) ?_;refine ia ?_;refine ca (Pure.mK rfl Ta)<|qh ?_;exact rR rfl (rC (rT (v:=.atom _) rfl (vR _)) rN) (kb _) ⟨rfl,rfl⟩
theorem fR(b:Nat)(l:List UInt8)(c:UInt8)(H:Heap)(hB:BH b l H)(fa:l.length<=10000000000):aa (KC B0 w0) 101 [ptr b 0,int .u8 c.toNat] H (λr H'=>(∃ x,r=.ret x)/\BH b (l++[c]) H'):=by
 obtain⟨p,v,Hv,hp,Ta,rfl⟩:=hB;refine cJ Tryz.func101 (n:=17) ?_;refine fg ?_;refine oS (S.Bb (H1:=[(b,_)]) (F:=Hv) [_] rfl (List.Perm.refl _) (zI b p (.atom v) hp) (λx H' h=>?_) λch H' h=>?_);obtain⟨⟨x',Kh⟩,rfl⟩:=h;cases Kh;refine ia ?_;refine fh ?_;refine oS (S.Sw (q:=(b,.cells 71 [ptr b 0,.atom v])) (l:=l) (m:=[c]) rfl Ta rfl (by simp) (by simp;omega) λv' H' Ra=>?_);refine oa ?_;have Ac:=Ra;generalize l++[c]=lm at Ra Ac ⊢
 cases Ra with
 |nil=>refine ja ?_;exact rR rfl (rC (rT (v:=.atom _) rfl (vR _)) rN) (kb _) ⟨⟨_,rfl⟩,ptr b 0,_,_,.inr rfl,Ac,rfl⟩
 |row h0 h1 h2=>refine ja ?_;exact rR rfl (rC (rT (v:=.atom _) rfl (vR _)) rN) (kb _) ⟨⟨_,rfl⟩,ptr b 0,_,_,.inr rfl,Ac,rfl⟩
 obtain⟨⟨x',Kh⟩,_⟩:=h;cases Kh
end Rk
end Go.Proofs.YtjolancjacdeaaaGreatDoor
namespace Go.Proofs.YtjolancjacdeaaaGreatDoor.Rk
open Go.GL Go.RowKit Go.Ba
variable{a b:Heap}{all met:List Wd}
abbrev Fb(l:List (Wd×Nat)):List Wd:=l.map (·.1)
theorem VW{l:List (Wd×Nat)}{i:Nat}(h:i<l.length):Fb (l.take (i+1))=Fb (l.take i)++[l[i].1]:=by unfold Fb;rw[List.take_succ_eq_append_getElem h,Od];rfl
theorem JP{a:List Wd}{w d:Wd}(h:Ib w=some d):cd (a++[w])=cd a++[d]:=by rw[nW,VL,h];rfl
theorem FH{a:List Wd}{w:Wd}(h:Ib w=none):cd (a++[w])=cd a:=by rw[nW,qr3 h];simp[cd]
theorem set_nil:Dd #[] (λs=>decide (s∈([]:List Wd))):=⟨λe he=>by simp at he,λs h=>by simp at h⟩
theorem oW{es:Array MapEntry}{ds:List Wd}{d:Wd}(h:Dd es λs=>decide (s∈ds) || decide (s=d)):Dd es (λs=>decide (s∈ds++[d])):=
 cast (congrArg (Dd es) (funext λs=>by simp)) h
attribute [local irreducible] ea Ga Ja aa Go.GL.Pure Bc Tc oc LQ Pa Td Lf
variable{B0:Nat}{w0:World}
theorem Mj(hG:GW B0 w0)(hM:GM w0)(s:List UInt8)(hs:s.length<=400000000):aa (KC B0 w0) 36 [str s] [] (gb (.list ((bq s).map Rg))):=by
 have hP:bq s=Yw 0 (Yc 10 s):=rfl;have Ul:=wQ 10 s;have gJ:((Yc 10 s).map str).length=(Yc 10 s).length:=Ua _;have Cm:(bq s).length<=s.length+1:=by have h1:=qQ s;rw[<-MC,Ua] at h1;exact h1
 have DM:=xF hG hM s 10 zo;refine cJ Tryz.func36 (n:=41) ?_;refine fg ?_;refine oS (sF [_,_] rfl DM ?_);refine oa ?_;refine oL (λk ls H=>∃ (i:Nat) (out:List (Wd×Nat)) (v:LV),i<=(Yc 10 s).length/\k=(Yc 10 s).length-i/\ls=[(3,v),(9,.list ((Yc 10 s).map str)),(10,int .i64 (Yc 10 s).length),(11,int .i64 (i:Nat))]/\Acc 2 v (out.map Rg) H []/\out++Yw i ((Yc 10 s).drop i)=bq s)
  ⟨_,_,_,⟨0,[],Ea,zero_le _,rfl,rfl,Acc.nil,rfl⟩,Qa,kb _⟩ ?_
 rintro k ls H ⟨i,out,v,hi,rfl,rfl,Ta,hE⟩ j hj;refine Nd ?_;refine sa (λhc=>?_) λhc=>?_
 ·have wa:i<(Yc 10 s).length:=by have:=zt hc;omega
  have Wj:out.length<=(bq s).length:=by rw[<-hE,ua];omega
  rw[qpd wa] at hE;have vx:=vM (getElem_mem wa);have Ez:=uP hG hM (Yc 10 s)[i] 35 zo;have hW:Mo (Yc 10 s)[i]=full (Yc 32 ((Yc 10 s)[i].takeWhile λd=>decide (d≠35))):=rfl;have htw:((Yc 10 s)[i].takeWhile λd=>decide (d≠35)).length<=(Yc 10 s)[i].length:=(List.takeWhile_prefix _).length_le;have Hu:=xF hG hM ((Yc 10 s)[i].takeWhile λd=>decide (d≠35)) 32 zo;have Zq:=wQ 32 ((Yc 10 s)[i].takeWhile λd=>decide (d≠35));generalize (Yc 10 s)[i].takeWhile (λd=>decide (d≠35))=line at Ez hW htw Hu Zq;generalize hq:Yc 32 line=q at hW Hu Zq;have hqa:(q.map str).length=q.length:=Ua _
  repeat (first|refine ea.nil ?_|refine qN ?_|refine Ga.skip ?_)
  refine Ga.seq ?_;refine cM (A:=List (Wd×Nat)×LV×Heap) (λa=>[(3,a.2.1),(9,.list ((Yc 10 s).map str)),(10,int .i64 (Yc 10 s).length),(11,int .i64 (i:Nat))]) (λa=>a.2.2) (λa=>a.1=out++(full q).map (λw=>(w,i+1))/\Acc 2 a.2.1 (a.1.map Rg) a.2.2 []) ?_ ?_;refine ia ?_;refine ca (xR (ad:=str (Yc 10 s)[i]) (cs:=[str (Yc 10 s)[i]]) rfl rfl zo (Hh _ _ _ wa) rfl rfl)<|ja ?_;refine oS (S.ff [_,_] rfl Ez ?_);rintro lv ⟨a,b,rfl⟩;refine ia ?_;refine oS (sF [_,_] rfl Hu ?_);refine oa ?_
  refine oL (λk ls H=>∃ (x:Nat) (fl:List (Wd×Nat)) (v:LV),x<=q.length/\k=q.length-x/\ls=[(3,v),(4,int .i64 (i:Nat)),(9,.list ((Yc 10 s).map str)),(10,int .i64 (Yc 10 s).length),(11,int .i64 (i:Nat)),(23,.list (q.map str)),(24,int .i64 q.length),(25,int .i64 (x:Nat))]/\Acc 2 v (fl.map Rg) H []/\fl.length<=out.length+x/\fl++(full (q.drop x)).map (λw=>(w,i+1))=out++(full q).map λw=>(w,i+1))
   ⟨_,_,_,⟨0,out,v,zero_le _,rfl,rfl,Ta,by omega,rfl⟩,Qa,kb _⟩ ?_
  rintro k ls H ⟨x,fl,v2,hx,rfl,rfl,Ac,Mi,Ls⟩ j2 Ub;have aac:(fl.map Rg).length=fl.length:=Ua _;refine Nd ?_;refine sa (λhc=>?_) λhc=>?_;have lr:x<q.length:=by have:=zt hc;omega
  rw[qqL lr] at Ls;refine Af ?_;refine ca (xR (ad:=str q[x]) (cs:=[str q[x]]) rfl rfl zo (Hh _ _ _ lr) rfl rfl)<|ja ?_;refine sa (λhn=>?_) λhn=>?_;have eb:¬ q[x]=[]:=by simpa using hn
  rw[zn eb] at Ls;refine Pc ?_;refine ca (pM (lv:=v2) rfl)<|za ?_;refine fh ?_;refine oS (S.acc rfl Ac rfl (by simp;rfl) rfl (by simp;omega) λv3 H3 Ks=>ca (pA (lv:=v3) rfl) ?_);refine Mh ?_;exact⟨_,_,_,by omega,⟨x+1,fl++[(q[x],i+1)],v3,by omega,rfl,rfl,by rw[Od];exact Ks,by simp;omega,by rw[Xc];exact Ls⟩,Qa,kb _,Ub⟩;have eb:q[x]=[]:=by simpa using hn
  rw[zp eb] at Ls;refine ia ?_;exact⟨_,_,_,by omega,⟨x+1,fl,v2,by omega,rfl,rfl,Ac,by omega,Ls⟩,Qa,kb _,Ub⟩;have Kh:x=q.length:=by have:=zf hc;omega
  subst Kh;rw[drop_length] at Ls;refine oa ?_;exact⟨(fl,v2,H),⟨by simpa [full] using Ls,Ac⟩,Qa,kb _,Ub⟩;rintro⟨fl,v2,H2⟩ ⟨ho,Ac⟩ j3 qi;simp only at ho Ac;rw[hW,<-Xc,<-ho] at hE;refine Mh ?_;exact⟨_,_,_,by omega,⟨i+1,fl,v2,by omega,rfl,rfl,Ac,by rw[<-hE]⟩,Qa,kb _,qi.trans hj⟩
 have ae:i=(Yc 10 s).length:=by have:=zf hc;omega
 subst ae;rw[drop_length,Yw,Qb] at hE;subst hE;refine Ga.sub (d:=3) (v:=v) rfl Ta.sub ?_;refine cW Fc ?_;refine ia ?_;exact Na hj (rC (rT (v:=.list _) rfl fc) rN) rfl
theorem IW{p:Wd×Nat}{x:Wd}{r:List (Wd×Nat)}(h:Ib p.1=some x):Kd all met (p::r)=if x∈met then (p.2,8) else Kd all (met++[x]) r:=by obtain⟨w,ln⟩:=p;simp only at h;rw[Kd,h]
theorem lX{p:Wd×Nat}{x:Wd}{r:List (Wd×Nat)}(h:Ib p.1=none)(h2:td p.1=some x):Kd all met (p::r)=if x∈all then Kd all met r else (p.2,7):=by obtain⟨w,ln⟩:=p;simp only at h h2;rw[Kd,h,h2]
theorem QX{p:Wd×Nat}{r:List (Wd×Nat)}(h:Ib p.1=none)(h2:td p.1=none):Kd all met (p::r)=if Wz p.1=true then Kd all met r else (p.2,3):=by obtain⟨w,ln⟩:=p;simp only at h h2;rw[Kd,h,h2]
theorem Cf(l:List (Wd×Nat))(hl:l.length<=1000000000)(hs:∀ p∈l,p.1.length<=1000000000):aa (KC B0 w0) 37 [.list (l.map Rg)] [] (gb (.tuple [int .i64 ((Kd (cd (Fb l)) [] l).1:Nat),int .i64 ((Kd (cd (Fb l)) [] l).2:Nat)])):=by
 have Kn:(l.map Rg).length=l.length:=Ua _;have zb:∀ w,(zeroValue 4).run (KC B0 w0).P w=.ok (.bool false) w:=λw=>(Go.zero_of_info (P:=Tryz.prog) (n:=1) zk).1 w;generalize hR:Kd (cd (Fb l)) [] l=R;refine cJ Tryz.func37 (n:=70) ?_;refine Xj ?_;refine oS (S.makeMap λm=>?_);refine ia ?_
 refine oL (λk ls H=>∃ (i:Nat) (es:Array MapEntry) (ga:Nat),i<=l.length/\k=l.length-i/\ls=[(0,.list (l.map Rg)),(4,.atom (.map (some m))),(17,.list (l.map Rg)),(18,int .i64 l.length),(19,int .i64 (i:Nat))]/\H=[(m,.obj (.map es ga))]/\Dd es λs=>decide (s∈cd (Fb (l.take i))))
  ⟨_,_,_,⟨0,#[],0,zero_le _,rfl,rfl,rfl,set_nil⟩,Qa,kb _⟩ ?_
 rintro k ls H ⟨i,es,ga,hi,rfl,rfl,rfl,hM⟩ j1 Pb;refine Nd ?_;refine sa (λhc=>?_) λhc=>?_;have wa:i<l.length:=by have:=zt hc;omega
 have kd:=WQ (B0:=B0) (w0:=w0) l[i] (by have:=hs _ (getElem_mem wa);omega);have oz:=VW wa;refine jy ?_;refine oS (yc λb6=>?_);refine ja ?_;refine oS (S.ff [_] rfl kd ?_);rintro lv ⟨s,rfl,Hu⟩;refine ia ?_;refine sa (λh=>?_) λh=>?_;obtain⟨d,hd⟩:=zR h;obtain rfl:=Hu d hd;refine Dc ?_;refine oS (S.vq (t:=156) (kt:=9) (el:=4) zk zk rfl rfl rfl uc hM λrh Vb UJ=>?_);refine Mh ?_;exact⟨_,_,_,by omega,⟨i+1,rh,Vb,by omega,rfl,rfl,rfl,by rw[oz,JP hd];exact oW UJ⟩,Qa,⟨[_],List.Perm.refl _⟩,Pb⟩
 have hn:Ib l[i].1=none:=by
  cases ho:Ib l[i].1 with
  |none=>rfl
  |some d=>rw[ho] at h;cases h
 refine ia ?_;exact⟨_,_,_,by omega,⟨i+1,es,ga,by omega,rfl,rfl,rfl,by rw[oz,FH hn];exact hM⟩,Qa,fe Ma,Pb⟩;have ae:i=l.length:=by have:=zf hc;omega
 subst ae;rw[take_length] at hM;refine ia ?_;refine oS (S.makeMap λm2=>?_);refine ia ?_;refine oL (λk ls H=>∃ (i:Nat) (dK:Array MapEntry) (Sn:Nat),i<=l.length/\k=l.length-i/\ls=[(4,.atom (.map (some m))),(9,.atom (.map (some m2))),(33,.list (l.map Rg)),(34,int .i64 l.length),(35,int .i64 (i:Nat))]/\H=[(m2,.obj (.map dK Sn)),(m,.obj (.map es ga))]/\Dd dK (λs=>decide (s∈cd (Fb (l.take i))))/\Kd (cd (Fb l)) (cd (Fb (l.take i))) (l.drop i)=R)
  ⟨_,_,_,⟨0,#[],0,zero_le _,rfl,rfl,rfl,set_nil,hR⟩,Qa,kb _⟩ ?_
 rintro k ls H ⟨i,dK,Sn,hi,rfl,rfl,rfl,WM,hE⟩ j2 Ub;refine Nd ?_;refine sa (λhc=>?_) λhc=>?_
 ·have wa:i<l.length:=by have:=zt hc;omega
  have Mk:=hs _ (getElem_mem wa);have kd:=WQ (B0:=B0) (w0:=w0) l[i] zo;have kr:=qZ (B0:=B0) (w0:=w0) l[i] zo;have kc:=qmq (B0:=B0) (w0:=w0) l[i] zo;have oz:=VW wa;rw[List.drop_eq_getElem_cons wa] at hE;refine jy ?_;refine oS (yc λVs=>?_);refine ja ?_;refine oS (S.ff [_] rfl kd ?_);rintro lv ⟨s,rfl,Hu⟩;refine ia ?_;refine sa (λh=>?_) λh=>?_
  ·obtain⟨d,hd⟩:=zR h;obtain rfl:=Hu d hd;refine Dc ?_;refine ca (Pure.wq (t:=156) (kt:=9) (el:=4) zk zk zb rfl rfl Ff WM)<|ig ?_;refine sa (λh3=>?_) λh3=>?_;have Je:=zt h3;refine ia ?_;rw[IW hd,zp Je] at hE;exact Na (Ub.trans Pb) (rC (ib rfl) (va rfl)) (by rw[<-hE];rfl);have Je:=zf h3;refine ia ?_;refine oS (S.vq (t:=156) (kt:=9) (el:=4) zk zk rfl rfl rfl uc WM λrh Vb UJ=>?_);refine Mh ?_;exact⟨_,_,_,by omega,⟨i+1,rh,Vb,by omega,rfl,rfl,rfl,by rw[oz,JP hd];exact oW UJ,by rw[oz,JP hd,<-hE,IW hd,zn Je]⟩,Qa,⟨[_],dm _ (Km ..)⟩,Ub⟩
  have hn:Ib l[i].1=none:=by
   cases ho:Ib l[i].1 with
   |none=>rfl
   |some d=>rw[ho] at h;cases h
  refine ja ?_;refine oS (S.ff [_] rfl kr ?_);rintro lv ⟨s,rfl,SF⟩;refine ia ?_;refine sa (λh3=>?_) λh3=>?_;obtain⟨d,hd⟩:=zR h3;obtain rfl:=SF d hd;refine Dc ?_;refine ca (Pure.wq (t:=156) (kt:=9) (el:=4) zk zk zb rfl rfl Hr hM)<|za ?_;refine sa (λh4=>?_) λh4=>?_;have Je:¬ s∈cd (Fb l):=by simpa using h4
  refine ia ?_;rw[lX hn hd,zn Je] at hE;exact Na (Ub.trans Pb) (rC (ib rfl) (va rfl)) (by rw[<-hE];rfl);have Je:s∈cd (Fb l):=by simpa using h4
  refine ia ?_;exact⟨_,_,_,by omega,⟨i+1,dK,Sn,by omega,rfl,rfl,rfl,by rw[oz,FH hn];exact WM,by rw[oz,FH hn,<-hE,lX hn hd,zp Je]⟩,Qa,fe Ma,Ub⟩;have TF:td l[i].1=none:=by
   cases ho:td l[i].1 with
   |none=>rfl
   |some d=>rw[ho] at h3;cases h3
  refine ja ?_;refine oS (sF [_] rfl kc ?_);refine za ?_;refine sa (λh4=>?_) λh4=>?_;have Je:¬ Wz l[i].1=true:=by simpa using h4
  refine ia ?_;rw[QX hn TF,zn Je] at hE;exact Na (Ub.trans Pb) (rC (ib rfl) (va rfl)) (by rw[<-hE];rfl);have Je:Wz l[i].1=true:=by simpa using h4
  refine ia ?_;exact⟨_,_,_,by omega,⟨i+1,dK,Sn,by omega,rfl,rfl,rfl,by rw[oz,FH hn];exact WM,by rw[oz,FH hn,<-hE,QX hn TF,zp Je]⟩,Qa,fe Ma,Ub⟩
 have ae:i=l.length:=by have:=zf hc;omega
 subst ae;rw[drop_length,Kd] at hE;refine ia ?_;exact Na (Ub.trans Pb) (rC (ib rfl) (va rfl)) (by rw[<-hE];rfl)
def dC(km:Option Nat)(Hk:Heap)(kn:Wd->Nat):Prop:=(km=none/\Hk=[]/\∀ x,kn x=0)∨∃ b m ga,km=some b/\Hk=[(b,.map (Gd m) ga)]/\∀ x,(GL.Sa m x).getD (int .i64 0)=int .i64 (kn x:Nat)
section
variable{C:Ctx}{e:Env}{H:Heap}{dst:Option Nat}{ty:TypeId}{la:String}{ma:Array Edge}{g:Option (Nat×Bool)}{K:LV->Heap->Prop}{X:List PanicEntry->Heap->Prop}{x y:Operand}
theorem S.known{t kt el:TypeId}(ht:C.P.underlying t=some (.map kt el))(df:C.P.underlying kt=some .string)(hz:∀ w,(zeroValue el).run C.P w=.ok (.int .i64 0) w){km:Option Nat}{Hk:Heap}{kn:Wd->Nat}{k:List UInt8}(hK:dC km Hk kn)(hm:e.ev x=.atom (.map km))(hx:e.ev y=str k)
  (hb:∀ q∈Hk,q∈H) (hk:K (int .i64 (kn k:Nat)) H):Ja C ⟨dst,.lookup t x y false,ty,la,ma,g⟩ e H K X:=by
 rcases hK with⟨rfl,rfl,h0⟩|⟨b,m,ga,rfl,rfl,hI⟩;refine Pure.step (Pure.mD ht df hz hm hx) ?_;rw[h0 k] at hk;exact hk;refine Pure.step (Pure.Sa ht df hz (zl:=int .i64 0) (λ_ _=>xc) hm hx (hb _ (Ll rfl))) ?_;rw[hI k];exact hk
end
theorem QO{q:Nat×da}:HSub (a++b) (a++q::b):=⟨[q],List.perm_middle.trans (List.perm_append_singleton _ _).symm⟩
theorem D7{q:Nat×da}:HSub (a++b) ((a++[q])++b):=by rw[Xc];exact QO
theorem u6(a b:Nat):int .i64 ((a+b:Nat):Int)=int .i64 ((a:Int)+(b:Nat)):=bf zo
theorem Q8{q:Nat×da}:(a++q::b).Perm (b++(a++[q])):=by have h:=dd (l₁:=a++[q]) (l₂:=b);rw[Xc] at h;exact h
theorem Y5{s:Nat}{v:LV}{es:List LV}{H F:Heap}(h:Acc s v es H F):HSub (a++F) (a++H):=by
 cases h with
 |nil=>exact kb _
 |row=>exact QO
theorem oO(kn:Wd->Nat)(og:Nat)(l:List Wd)(t:Wd)(nb:List (Wd×Nat))(h:∀ w∈l,w≠[]):t.length<=(l.foldl (Kf kn og) (t,nb)).1.length:=by rw[TL,oQ kn l t h];omega
theorem dY(kn:Wd->Nat)(og:Nat):∀ (l:List Wd) (s:Wd×List (Wd×Nat)),s.2.length<=((l.foldl (Kf kn og) s).2).length/\((l.foldl (Kf kn og) s).2).length<=s.2.length+l.length
 |[],s=>by simp
 |w::r,s=>by
  rw[foldl_cons];have:=dY kn og r (Kf kn og s w);have h2:s.2.length<=(Kf kn og s w).2.length/\(Kf kn og s w).2.length<=s.2.length+1:=by
   unfold Kf;cases Ib w with
   |some x=>simp
   |none=>simp
  simp only[Oa];omega
theorem Q7:Fh []=ze 32:=by decide
theorem N'(hG:GW B0 w0)(l:List (Wd×Nat))(og:Nat)(hog:og<=1000000)(hl:l.length<=1000000000)(hs:∀ p∈l,p.1≠[]/\p.1.length<=1000000000)(kn:Wd->Nat)(uB:∀ x,kn x<=1000000000000)(hL:((Fb l).foldl (Kf kn og) ([],[])).1.length<=2000000000)(km:Option Nat)(Hk:Heap)(hK:dC km Hk kn) :
  aa (KC B0 w0) 38 [.list (l.map Rg),int .i64 (og:Nat),.atom (.map km)] Hk (λr H'=>r=.ret (.tuple [str ((Fb l).foldl (Kf kn og) ([],[])).1,.list (((Fb l).foldl (Kf kn og) ([],[])).2.map Rg)])/\H'=Hk):=by
 have Kn:(l.map Rg).length=l.length:=Ua _;have zi:∀ w,(zeroValue 3).run (KC B0 w0).P w=.ok (.int .i64 0) w:=λw=>(Go.zero_of_info (P:=Tryz.prog) (n:=1) zk).1 w
 have lJ:∀ i,∀ w∈Fb (l.drop i),w≠[]:=λi w hw=>by obtain⟨p,hp,rfl⟩:=vi hw;exact(hs p (List.mem_of_mem_drop hp)).1
 generalize hR:(Fb l).foldl (Kf kn og) ([],[])=R at hL ⊢;refine cJ Tryz.func38 (n:=68) ?_;refine Xj ?_;refine oS (yc λbb=>?_);refine ia ?_;refine oL (λk ls H=>∃ (i:Nat) (t:List UInt8) (nb:List (Wd×Nat)) (v:LV) (last:UInt8) (HB HL:Heap),i<=l.length/\k=l.length-i/\ls=[(1,int .i64 (og:Nat)),(2,.atom (.map km)),(8,ptr bb 0),(9,v),(10,int .u8 last.toNat),(18,.list (l.map Rg)),(19,int .i64 l.length),(20,int .i64 (i:Nat))]/\H=HB++HL/\BH bb t HB/\Acc 2 v (nb.map Rg) HL Hk/\Fh t=ze last/\nb.length<=i/\(Fb (l.drop i)).foldl (Kf kn og) (t,nb)=R)
  ⟨_,_,_,⟨0,[],[],Ea,32,[(bb,.cells 71 [.atom (.pointer none),.atom (.slice none 0 0)])],Hk,zero_le _,rfl,rfl,rfl,⟨_,_,[],.inl rfl,Ee.nil,rfl⟩,Acc.nil,Q7,zero_le _,hR⟩,Qa,kb _⟩ ?_
 rintro k ls H ⟨i,t,nb,v,last,HB,HL,hi,rfl,rfl,rfl,hB,Ta,tJ,vx,hE⟩ j hj;have tS:(nb.map Rg).length=nb.length:=Ua _;have htR:=oO kn og (Fb (l.drop i)) t nb (lJ i);rw[hE] at htR;refine Nd ?_;refine sa (λhc=>?_) λhc=>?_;have wa:i<l.length:=by have:=zt hc;omega
 obtain⟨eb,Mk⟩:=hs _ (getElem_mem wa);have kd:=WQ (B0:=B0) (w0:=w0) l[i] zo;have kr:=qZ (B0:=B0) (w0:=w0) l[i] zo;have Ad:Fb (l.drop i)=l[i].1::Fb (l.drop (i+1)):=by unfold Fb;rw[List.drop_eq_getElem_cons wa,Tb]
 rw[Ad,foldl_cons] at hE;refine jy ?_;refine oS (yc λzE=>?_);refine ja ?_;refine oS (S.ff [_] rfl kd ?_);rintro lv ⟨s,rfl,Hu⟩;refine ia ?_;refine sa (λh=>?_) λh=>?_;obtain⟨d,hd⟩:=zR h;obtain rfl:=Hu d hd;have Ug:Kf kn og (t,nb) l[i].1=(t,nb++[(s,og+t.length)]):=by unfold Kf;rw[hd]
 rw[Ug] at hE;refine Pc ?_;refine eh ?_;refine Dg ?_;refine oS (S.Bb (H1:=HB) (F:=(zE,.cells 171 [str l[i].1,int .i64 l[i].2])::HL) [_] rfl List.perm_middle.symm (qjk bb t HB hB) (λv' H' h=>?_) (λch H' h=>by obtain⟨h,_⟩:=h;cases h));obtain⟨hv,rfl⟩:=h;cases hv;refine za ?_;refine fh ?_;refine oS (sG (H1:=HL) (A:=H'++[(zE,.cells 171 [str l[i].1,int .i64 l[i].2])]) Q8 rfl Ta rfl (by simp;rfl) rfl (by simp;omega) λv' H2 Ra=>?_);refine Wh ?_;refine ia ?_
 exact⟨_,_,_,by omega,⟨i+1,t,nb++[(s,og+t.length)],v',last,H',H2,by omega,rfl,rfl,rfl,hB,by
  rw[Od];have e1:[Rg (s,og+t.length)]=[LV.agg [str s,int .i64 ((og:Int)+(t.length:Nat))]]:=by unfold Rg;rw[u6]
  rw[List.map_singleton,e1];exact Ra,tJ,by simp;omega,hE⟩,Qa,D7,hj⟩
 have hn:Ib l[i].1=none:=by
  cases ho:Ib l[i].1 with
  |none=>rfl
  |some d=>rw[ho] at h;cases h
 have Ug:Kf kn og (t,nb) l[i].1=(ag kn t l[i].1,nb):=by unfold Kf;rw[hn]
 obtain⟨sx,iJ,rS⟩:=lL kn t l[i].1 hn eb;have gE:ag kn t l[i].1=t++(if Fh t && wm (oi kn l[i].1) then [32] else [])++oi kn l[i].1:=by unfold ag;rw[hn]
 have VR:=oO kn og (Fb (l.drop (i+1))) (ag kn t l[i].1) nb (lJ (i+1));rw[Ug] at hE;rw[hE] at VR;refine cM (A:=Wd) (λs=>[(1,int .i64 (og:Nat)),(2,.atom (.map km)),(8,ptr bb 0),(9,v),(10,int .u8 last.toNat),(13,str s),(18,.list (l.map Rg)),(19,int .i64 l.length),(20,int .i64 (i:Nat))]) (λ_=>(zE,.cells 171 [str l[i].1,int .i64 l[i].2])::(HB++HL)) (λs=>s=oi kn l[i].1) ?_ ?_;refine ja ?_;refine oS (S.ff [_] rfl kr ?_);rintro lv ⟨s,rfl,SF⟩;refine ia ?_;refine sa (λh3=>?_) λh3=>?_;obtain⟨d,hd⟩:=zR h3;obtain rfl:=SF d hd;refine Dc ?_;refine oS (S.known (t:=95) (kt:=9) (el:=3) zk zk zi hK rfl rfl (λq hq=>Sc _ (List.mem_append_right _ (Ta.xp.mem q hq)))<|oS (sF [_] rfl (dR hG (kn s) (uB s)) ?_));refine fj ?_;exact⟨Zn (kn s),(by unfold oi;rw[hd]),Qa,kb _,rfl⟩
 have TF:td l[i].1=none:=by
  cases ho:td l[i].1 with
  |none=>rfl
  |some d=>rw[ho] at h3;cases h3
 refine oa ?_;exact⟨l[i].1,(by unfold oi;rw[TF]),Qa,kb _,rfl⟩;rintro s uz j2 Ub;rw[<-uz] at sx iJ rS gE;have qz:=sx;have vz:=cO (ze last && wm s);obtain⟨c,r,Ku⟩:=List.exists_cons_of_ne_nil qz;have hfc:wm s=ze c:=by rw[Ku];rfl
 rw[tJ] at gE rS;refine Ga.seq ?_;refine cM (A:=Heap) (λ_=>[(1,int .i64 (og:Nat)),(2,.atom (.map km)),(8,ptr bb 0),(9,v),(10,int .u8 last.toNat),(13,str s),(18,.list (l.map Rg)),(19,int .i64 l.length),(20,int .i64 (i:Nat))]) (λjG=>jG++(zE,.cells 171 [str l[i].1,int .i64 l[i].2])::HL) (λjG=>BH bb (t++if (ze last && wm s)=true then [32] else []) jG) ?_ ?_;refine Dc ?_;refine oS (sF [_] rfl (KZ last) ?_);refine Dg ?_;refine oB 52 rfl (λh4=>?_) λh4=>?_;have Gw:ze last=true:=h4;rw[Gw,Bool.true_and,hfc];refine Dg ?_;refine ca (pI (c:=c) rfl rfl zo (by rw[Ku];rfl))<|Dg ?_;refine oS (sF [_] rfl (KZ c) ?_);refine oa ?_;refine sa (λh5=>?_) λh5=>?_;refine Pc ?_;refine oS (S.Bb (H1:=HB) (F:=(zE,.cells 171 [str l[i].1,int .i64 l[i].2])::HL) [_,_] rfl List.perm_middle.symm (fR bb t 32 HB hB zo) (λv' H' h=>?_) (λch H' h=>by obtain⟨⟨x,h⟩,_⟩:=h;cases h));refine ig ?_;exact⟨H',by rw[zp h5];exact h.2,Qa,kb _,rfl⟩;refine oa ?_;exact⟨HB,by rw[zn (by rw[h5];decide),Qb];exact hB,Qa,⟨[],by simpa using List.perm_middle.symm⟩,rfl⟩;have Gw:ze last=false:=h4;rw[Gw,Pg];refine oa ?_;refine oC rfl (λh5=>by cases h5) λh5=>?_;refine oa ?_;exact⟨HB,by rw[zn ra,Qb];exact hB,Qa,⟨[],by simpa using List.perm_middle.symm⟩,rfl⟩;rintro jG aN j3 qi;have aaa:=List.length_pos_iff.2 qz
 have rl:s[((s.length:Int)-1).toNat]? = some (s.getLast qz):=by rw[show((s.length:Int)-1).toNat=s.length-1 by omega,List.getLast_eq_getElem,dh zo]
 have sJ:Fh s=ze (s.getLast qz):=by unfold Fh;rw[List.getLast?_eq_some_getLast qz]
 have Cm:(t++if (ze last && wm s)=true then [32] else []).length+s.length<=2000000000:=by
  have:(t++if (ze last && wm s)=true then [32] else []).length=t.length+one (ze last && wm s):=by rw[ua];unfold one;split <;> rfl
  omega
 rw[gE] at hE iJ;generalize (t++if (ze last && wm s)=true then [32] else [])=t2 at aN Cm hE iJ;refine Dc ?_;refine oS (S.Bb (H1:=jG) (F:=(zE,.cells 171 [str l[i].1,int .i64 l[i].2])::HL) [_,_] rfl qb (ZC bb t2 s jG aN zo) (λv' H' h=>?_) (λch H' h=>by obtain⟨⟨x,h⟩,_⟩:=h;cases h));obtain⟨⟨x,hx⟩,Iz⟩:=h;refine ja ?_;refine ca (pI (c:=s.getLast qz) rfl rfl zo rl)<|ia ?_;exact⟨_,_,_,by omega,⟨i+1,t2++s,nb,v,s.getLast qz,H',HL,by omega,rfl,rfl,rfl,Iz,Ta,by rw[iJ,sJ],by omega,hE⟩,Qa,QO,qi.trans (Ub.trans hj)⟩;have ae:i=l.length:=by have:=zf hc;omega
 subst ae;rw[drop_length] at hE;have oT:(t,nb)=R:=hE;subst oT;refine Ga.sub (d:=9) (v:=v) rfl Ta.sub ?_;refine cW (Y5 Ta) ?_;refine ia ?_;refine oS (S.Bb (H1:=HB) (F:=Hk) [_] rfl qb (FF bb t HB hB zo) (λv' H' h=>?_) (λch H' h=>by obtain⟨h,_⟩:=h;cases h));obtain⟨hv,rfl⟩:=h;cases hv;refine oa ?_;exact rR hj (rC (ib rfl) (rC (rT (v:=.list _) rfl fc) rN)) Ma ⟨rfl,by simp⟩
theorem dL:∀ (l:List Wd) (d:Bool),fi d l<=3 * ve l
 |[],d=>zero_le _
 |w::r,d=>by
  have h1:=cO d;have h2:=cO (d && wm w);rw[fi,Ih];cases Ib w with
  |some l=>have:=dL r d;simp only;omega
  |none=>
   cases hr:td w with
   |some l=>
    have:=dL r true;have fa:2<=w.length:=by unfold td at hr;split at hr;cases hr;rename_i c q;split at hr;rename_i hc;have:=List.length_pos_iff.2 (W7 hc.2);simp only[Oa];omega;cases hr
    simp only;omega
   |none=>have:=dL r (Fh w);simp only;omega
theorem SV(kn:Wd->Nat)(og M:Nat):∀ (l:List Wd) (s:Wd×List (Wd×Nat)),(∀ w∈l,w≠[])->((l.foldl (Kf kn og) s).1).length<=M->(∀ p∈s.2,p.2<=og+M)->∀ p∈(l.foldl (Kf kn og) s).2,p.2<=og+M
 |[],s,_,_,h=>h
 |w::r,s,hw,hM,h=>by
  rw[foldl_cons] at hM ⊢;refine SV kn og M r _ (λx hx=>hw x (Sc w hx)) hM ?_;have h1:=oO kn og r (Kf kn og s w).1 (Kf kn og s w).2 λx hx=>hw x (Sc w hx);intro p hp;unfold Kf at hp h1 hM
  cases hd:Ib w with
  |none=>rw[hd] at hp;exact h p hp
  |some x=>rw[hd] at hp h1 hM;simp only at hp h1 hM;rcases Kj hp with hp|hp;exact h p hp;rw[wh hp];simp only;omega
def Gy(nb:List (Wd×Nat)):KV:=nb.map λp=>(p.1,int .i64 (p.2:Nat))
theorem nY:∀ (nb:List (Wd×Nat)) (x:Wd),(GL.Sa (Gy nb) x).getD (int .i64 0)=int .i64 (Wm nb x:Nat)
 |[],x=>rfl
 |p::r,x=>by unfold Gy Wm;rw[Tb,GL.Sa,List.find?_cons];by_cases h:p.1=x;rw[zp h,Eg h];rfl;rw[zn h,decide_eq_false h];exact nY r x
theorem qpp{nb:List (Wd×Nat)}{i:Nat}(h:i<nb.length)(hn:(nb.map (·.1)).Nodup):GL.Zb (Gy (nb.take i)) nb[i].1 (int .i64 (nb[i].2:Nat))=Gy (nb.take (i+1)):=by
 unfold Gy;rw[List.take_succ_eq_append_getElem h,Od];refine KK ?_;rw[map_map];intro hm;have e1:nb.map (·.1)=(nb.take i).map (·.1)++nb[i].1::(nb.drop (i+1)).map (·.1):=by
  conv=>lhs;rw[<-List.take_append_drop i nb,List.drop_eq_getElem_cons h]
  rw[Od,Tb]
 rw[e1,List.nodup_append] at hn;exact hn.2.2 _ hm _ rf rfl
theorem l8{nb:List (Wd×Nat)}{M:Nat}(h:∀ p∈nb,p.2<=M)(x:Wd):Wm nb x<=M:=by
 unfold Wm;cases hf:nb.find? λp=>decide (p.1=x) with
 |none=>exact zero_le _
 |some p=>exact h p (List.mem_of_find?_eq_some hf)
def Vp:Except (Nat×Nat) (Wd×List (Wd×Nat))->LV
 |.error e=>.tuple [str [],.list [],int .i64 (e.1:Nat),int .i64 (e.2:Nat)]
 |.ok x=>.tuple [str x.1,.list (x.2.map Rg),int .i64 0,int .i64 0]
theorem Uh(hG:GW B0 w0)(hM:GM w0)(src:List UInt8)(og:Int)(hs:src.length<=300000000):aa (KC B0 w0) 15 [str src,int .i64 og] [] (gb (Vp (Ti src og))):=by
 have hA:Ti src og=Ti src og:=rfl
 conv at hA=>rhs;unfold Ti
 generalize hR:Ti src og=R at hA ⊢;refine aa.AD Tryz.func15 rfl (n:=65) rfl rfl rfl ?_;refine ia ?_;refine oB 19 rfl (λh1=>?_) λh1=>?_;have dN:og<0:=zt h1;rw[zp (.inl dN)] at hA;subst hA;refine oa ?_;refine oC rfl (λh=>?_) (λh=>by cases h);refine Oe ?_;exact Na rfl (rC (ib rfl) (rC (rT (v:=Ea) rfl vN) (rC (ib rfl) (va rfl)))) rfl;have dN:¬ og<0:=zf h1;refine za ?_;refine sa (λh2=>?_) λh2=>?_;have lq:og ≥ 262144:=zt h2;rw[zp (.inr lq)] at hA;subst hA;refine Oe ?_;exact Na rfl (rC (ib rfl) (rC (rT (v:=Ea) rfl vN) (rC (ib rfl) (va rfl)))) rfl;have lq:¬ og ≥ 262144:=zf h2;rw[zn zo] at hA;obtain⟨o,rfl⟩:∃ o:Nat,og=(o:Int):=⟨og.toNat,by omega⟩;rw[Int.toNat_natCast] at hA;have VM:=@O3 src;have RM:=MC src;have P0:=dQ src;have QF:=qQ src;have Qf:=wZ src;have Vj:=dL (Oj src) false;have Hs:=Mj hG hM src zo;rw[<-RM] at P0 QF Qf Vj hA VM;rw[Ua] at QF;generalize bq src=l at P0 QF Qf Vj Hs hA VM;have eb:∀ w∈Fb l,w≠[]:=λw hw=>(Qf w hw).1
 have ld:∀ p∈l,p.1≠[]/\p.1.length<=1000000000:=λp hp=>by have hm:p.1∈l.map (·.1):=List.mem_map_of_mem hp;have:=aW hm;exact⟨(Qf _ hm).1,by omega⟩
 have Lu:=Cf (B0:=B0) (w0:=w0) l zo λp hp=>(ld p hp).2
 have fa:∀ kn,((Fb l).foldl (Kf kn o) ([],[])).1.length=fi false (Fb l):=λkn=>by rw[TL];exact FX kn _ eb
 have N1:=λkn uB km Hk hK=>N' hG l o zo zo ld kn uB (by rw[fa kn];show fi false (l.map (·.1))<=_;omega) km Hk hK;generalize hE:Kd (cd (Fb l)) [] l=E at Lu hA VM;have Ls:E=(E.1,E.2):=rfl;refine ia ?_;refine oS (sF [_] rfl Hs ?_);refine ia ?_;refine oS (sF [_] rfl Lu ?_);refine ja ?_;refine sa (λh1=>?_) λh1=>?_;have h3:¬ E.2=0:=by simpa using h1
 rw[zp h3] at hA;subst hA;refine ia ?_;exact Na rfl (rC (ib rfl) (rC (rT (v:=Ea) rfl vN) (rC (ib rfl) (va rfl)))) rfl;have h3:E.2=0:=by simpa using h1
 rw[zn zo] at hA;have Vg:=(VM h3).1;refine ia ?_;refine oS (S.Bb (H1:=[]) (F:=[]) [_,_,.const (.map none)] rfl qb (N1 (λ_=>0) (λ_=>zero_le _) none [] (.inl ⟨rfl,rfl,λ_=>rfl⟩)) (λv' H' hh=>?_) (λch H' hh=>by obtain⟨h,_⟩:=hh;cases h));obtain⟨hv,rfl⟩:=hh;cases hv;have nw:((Fb l).foldl (Kf (λ_=>0) o) ([],[])).2=Io (λ_=>0) o (l.map (·.1)):=rfl;have hle:∀ p∈((Fb l).foldl (Kf (λ_=>0) o) ([],[])).2,p.2<=1000000000000:=λp hp=>by have:=SV (λ_=>0) o (fi false (Fb l)) (Fb l) ([],[]) eb (by rw[fa];exact mc _) (λp hp=>by cases hp) p hp;have h5:fi false (Fb l)<=3 * ve (l.map (·.1)):=Vj;omega
 have ir:(((Fb l).foldl (Kf (λ_=>0) o) ([],[])).2.map (·.1)).Nodup:=by rw[eZ];exact Vg
 have vx:=(dY (λ_=>0) o (Fb l) ([],[])).2;rw[nw] at hle ir vx;generalize hLB:Io (λ_=>0) o (l.map (·.1))=nb at hle ir vx hA nw;rw[nw];have aaj:nb.length<=l.length:=by have:(Fb l).length=l.length:=Ua _;simp only[Eb] at vx;omega
 have RD:(nb.map Rg).length=nb.length:=Ua _;refine ja ?_;refine oS (S.Ji λm=>?_);refine ia ?_;refine oL (λk ls H=>∃ (i:Nat) (ga:Nat),i<=nb.length/\k=nb.length-i/\ls=[(1,int .i64 (o:Nat)),(8,.list (l.map Rg)),(13,.atom (.map (some m))),(41,.list (nb.map Rg)),(42,int .i64 nb.length),(43,int .i64 (i:Nat))]/\H=[(m,.map (Gd (Gy (nb.take i))) ga)])
  ⟨_,_,_,⟨0,0,zero_le _,rfl,rfl,rfl⟩,Qa,kb _⟩ ?_
 rintro k ls H ⟨i,ga,hi,rfl,rfl,rfl⟩ j hj;refine Nd ?_;refine sa (λhc=>?_) λhc=>?_;have wa:i<nb.length:=by have:=zt hc;omega
 refine Af ?_;refine ca (xR (ad:=Rg nb[i]) (cs:=[_,_]) rfl rfl zo (Hh _ _ _ wa) rfl rfl)<|za ?_;refine oS (yc λb15=>?_);refine ja ?_;refine oS (S.Zb (t:=95) (kt:=9) (el:=3) (m:=Gy (nb.take i)) (k:=nb[i].1) (lv:=int .i64 (nb[i].2:Nat)) zk zk rfl rfl rfl uc λVb=>?_);rw[qpp wa ir];refine Mh ?_;exact⟨_,_,_,by omega,⟨i+1,Vb,by omega,rfl,rfl,rfl⟩,Qa,⟨[_],List.Perm.refl _⟩,hj⟩;have ae:i=nb.length:=by have:=zf hc;omega
 subst ae;rw[take_length];have uB:=l8 hle;refine ia ?_;refine oS (S.Bb (H1:=[(m,.map (Gd (Gy nb)) ga)]) (F:=[]) [_,_,_] rfl qb (N1 (Wm nb) uB (some m) _ (.inr ⟨m,Gy nb,ga,rfl,rfl,nY nb⟩)) (λv' H' hh=>?_) (λch H' hh=>by obtain⟨h,_⟩:=hh;cases h));obtain⟨hv,rfl⟩:=hh;cases hv;have e1:((Fb l).foldl (Kf (Wm nb) o) ([],[])).1=Xw (Wm nb) (l.map (·.1)):=TL _ _ _ _;have e2:((Fb l).foldl (Kf (Wm nb) o) ([],[])).2=nb:=by show Io (Wm nb) o (l.map (·.1))=nb;rw[qr9 (Wm nb) (λ_=>0) o (l.map (·.1)) eb];exact hLB
 rw[e1,e2];generalize Xw (Wm nb) (l.map (·.1))=tx at hA;refine ja ?_;refine sa (λh2=>?_) λh2=>?_;have h5:40000<tx.length:=by have:=zt h2;omega
 rw[zp h5] at hA;subst hA;refine Oe ?_;exact Na hj (rC (ib rfl) (rC (rT (v:=Ea) rfl vN) (rC (ib rfl) (va rfl)))) rfl;have h5:¬ 40000<tx.length:=by have:=zf h2;omega
 rw[zn h5] at hA;subst hA;refine ia ?_;exact Na hj (rC (ib rfl) (rC (rT (v:=.list _) rfl fc) (rC (ib rfl) (va rfl)))) rfl
end Go.Proofs.YtjolancjacdeaaaGreatDoor.Rk
namespace Go.Proofs.YtjolancjacdeaaaGreatDoor.Pp
open Go.GL Go.RowKit Go.Ba
open Rk (Ei Ei.mk OA)
variable{n:Int}
attribute [local irreducible] ea Ga Ja aa Go.GL.Pure Bc Tc oc LQ Pa Td Lf
structure GW(B0:Nat)(w0:World):Prop where
 base:Go.Proofs.YtjolancjacdeaaaGreatDoor.GW B0 w0
 mx:Rk.GM w0
 Bh : ∃ tp p, w0.var? Tryz.prog "strconv.ErrSyntax" = some #[.iface tp p]
variable{B0:Nat}{w0:World}
theorem GW.EN (h : GW B0 w0) {w : World} (hb : Below B0 w0 w) : ∃ tp p, w.var? Tryz.prog "strconv.ErrSyntax" = some #[.iface tp p] := by
 have hg : Tryz.prog.globalNamed "strconv.ErrSyntax" = some 3 := by kernel_rfl
 obtain⟨tp,p,hv⟩:=h.Bh;exact⟨tp,p,var?_below hb hg (Nat.lt_of_lt_of_le ra h.base.Jx) hv⟩
theorem GW.range (h : GW B0 w0) {w : World} (hb : Below B0 w0 w) : ∃ tp p, w.var? Tryz.prog "strconv.ErrRange" = some #[.iface tp p] := h.base.err hb
theorem yd(hG:GW B0 w0)(u:Nat)(hu:u<18446744073709551616):aa (KC B0 w0) 205 [int .u64 u,int .i64 10] [] (gb (str (Go.Lib.decDigits u))):=Go.Proofs.YtjolancjacdeaaaGreatDoor.yd hG.base u hu
theorem qe(s p:List UInt8):aa (KC B0 w0) 160 [str s,str p] [] (gb (.tuple [str (Go.Lib.trimPrefix s p),bool (Go.Lib.hasPrefix s p)])):=Rk.qe s p
theorem oe(s p:List UInt8)(hs:s.length<=1000000000):aa (KC B0 w0) 169 [str s,str p] [] (gb (.tuple [str (Go.Lib.trimSuffix s p),bool (Go.Lib.hasSuffix s p)])):=Rk.oe s p hs
theorem qkD(hG:GW B0 w0)(s:List UInt8)(hs:s.length<=1000000000):aa (KC B0 w0) 204 [str s,int .i64 10,int .i64 32] []
  (Ko λlv=>(∃ u,Go.Lib.parseUintB 32 s=.ok u/\lv=.tuple [int .u64 u,.atom .nilIface])∨((∀ u,Go.Lib.parseUintB 32 s≠.ok u)/\∃ v t p,lv=.tuple [int .u64 v,.atom (.iface t p)])):=by
 have ld:∀ k,1000000000<=k->s.toArray.size<=k:=λk hk=>by simp;omega
 refine aa.mono (aa.Ud (vs:=[.string ⟨s.toArray⟩,.int .i64 10,.int .i64 32]) (p:=λus=>(∃ u,Go.Lib.parseUintB 32 s=.ok u/\us=[.int .u64 u,.nilIface])∨((∀ u,Go.Lib.parseUintB 32 s≠.ok u)/\∃ v t p,us=[.int .u64 v,.iface t p])) λw hw=>?_) ?_
 cases h:Go.Lib.parseUintB 32 s with
 |ok u=>
  refine(Tryz.strconv_ParseUint_10_at32_ok ⟨s.toArray⟩ (ld _ ra) u (by simpa using h) w).mono λe w' he=>⟨_,he.1,.inl ⟨u,rfl,rfl⟩,?_⟩;rcases he.2 with h2|h2;rw[h2];exact Below.refl _ _
  exact IB
 |range=>
  obtain⟨tp,p,hv⟩:=hG.range hw;refine(Tryz.strconv_ParseUint_10_at32_range_var ⟨s.toArray⟩ (ld _ ra) (by simpa using h) tp p w hv).mono λe w' he=>?_;obtain⟨N,h1,_,_,h4⟩:=he
  exact⟨_,h1,.inr ⟨(λu hu=>by cases hu),_,_,_,rfl⟩,h4⟩
 |_=>obtain⟨tp,p,hv⟩:=hG.EN hw;refine(Tryz.strconv_ParseUint_10_at32_syntax_var ⟨s.toArray⟩ (ld _ ra) ⟨λu hu=>(by rw[h] at hu;cases hu),λhu=>(by rw[h] at hu;cases hu)⟩ tp p w hv).mono λe w' he=>?_;obtain⟨N,h1,_,_,h4⟩:=he;exact⟨_,h1,.inr ⟨(λu hu=>by cases hu),_,_,_,rfl⟩,h4⟩
 rintro r H ⟨v,rfl,⟨us,GD,rfl⟩,rfl⟩;refine⟨_,rfl,?_,rfl⟩;rcases GD with⟨u,h1,rfl⟩|⟨h1,v,t,p,rfl⟩;exact .inl ⟨u,h1,rfl⟩;exact .inr ⟨h1,v,t,p,rfl⟩
theorem IP(s:List UInt8)(hs:s.length<=1000000000):aa (KC B0 w0) 171 [str s,str AA] [] (gb (str (Go.Lib.trimS s AA))):=
 aa.ye (vs:=[.string ⟨s.toArray⟩,.string ⟨AA.toArray⟩]) λw hw=>(Go.Proofs.Any.strings_Trim_laid Tryz.An zk ⟨s.toArray⟩ ⟨AA.toArray⟩ w (by show s.toArray.size<=_;simp;omega) ra (Go.Proofs.ascii_of_all ra))
theorem tO(h:0<=n/\n<=4294967295):IntKind.u32.wrap n=n:=by simp only[IntKind.wrap,IntKind.bits,IntKind.signed,Pg];simp;omega
theorem Q6(h:0<=n/\n<=4294967295):IntKind.u64.wrap n=n:=by simp only[IntKind.wrap,IntKind.bits,IntKind.signed,Pg];simp;omega
theorem dP(n:Int):IntKind.u32.wrap n=n % 4294967296:=by simp only[IntKind.wrap,IntKind.bits,IntKind.signed,Pg];simp
instance:Ve ui 78:=.of zk
theorem jM(s:List UInt8)(hs:s.length<=1000000000):aa (KC B0 w0) 161 [str s] [] (gb (bool (Ay s))):=by
 have hT:=IP (B0:=B0) (w0:=w0) s hs;have Vl:=w7 s;cases s with
 |nil=>refine cJ Tryz.func161 (n:=25) ?_;refine ja ?_;exact Na rfl (va rfl) rfl
 |cons c r=>
  have hN:Ay (c::r)=(decide ((c::r).length<=40) && jk c && (c::r).all Gh):=rfl;rw[jk] at hN;refine cJ Tryz.func161 (n:=25) ?_;refine ja ?_;refine oB 5 rfl (λh1=>?_) (λh1=>absurd h1 (by simp));refine oB 10 rfl (λh2=>?_) λh2=>?_;have lq:(c::r).length<=40:=by have:=zt h2;omega
  rw[Eg lq,Bool.true_and] at hN;refine Dg ?_;refine ca (pI (c:=c) rfl rfl zo rfl)<|za ?_;refine oB 15 rfl (λh3=>?_) λh3=>?_;have Pk:decide (97<=cv c)=true:=h3;rw[Pk,Bool.true_and] at hN;refine Dg ?_;refine ca (pI (c:=c) rfl rfl zo rfl)<|Oi ?_;refine oB 20 rfl (λh4=>?_) λh4=>?_;have Gw:decide (cv c<=122)=true:=h4;rw[Gw,Bool.true_and] at hN;refine Dg ?_;refine oS (sF [_,_] rfl hT ?_);refine oa ?_
  exact Na rfl (va rfl) (Ed (by
   rw[hN,Bool.eq_iff_iff,decide_eq_true_iff];exact Vl))
  have Gw:decide (cv c<=122)=false:=h4;rw[Gw,Pg] at hN;refine oa ?_;exact Na rfl (va rfl) (Ed hN.symm);have Pk:decide (97<=cv c)=false:=h3;rw[Pk,Pg,Pg] at hN;refine oa ?_;exact Na rfl (va rfl) (Ed hN.symm);have lq:¬ (c::r).length<=40:=by have:=zf h2;omega
  rw[decide_eq_false lq,Pg,Pg] at hN;refine oa ?_;exact Na rfl (va rfl) (Ed hN.symm)
theorem DF(hG:GW B0 w0)(w:Wd)(hs:w.length<=1000000000):aa (KC B0 w0) 164 [str w] [] (gb (.tuple [int .u32 ((Vc w).getD 0:Nat),bool (Vc w).isSome])):=by
 have hP:=qkD hG w hs;refine cJ Tryz.func164 (n:=21) ?_;refine fg ?_;refine oS (S.ff [_,_,_] rfl hP ?_);rintro lv (⟨u,hu,rfl⟩|⟨Iu,v,t,p,rfl⟩);have wa:=MO hu;refine ja ?_;refine oS (sF [_,_] rfl (yd hG u zo) ?_);refine za ?_;refine sa (λh=>?_) λh=>?_;have eb:¬ Go.Lib.decDigits u=w:=by simpa using h
 have hn:Vc w=none:=by unfold Vc;rw[hu];exact zn eb
 refine Oe ?_;exact Na rfl (rC (ib rfl) (va rfl)) (by rw[hn];rfl);have he:Go.Lib.decDigits u=w:=by simpa using h
 have hn:Vc w=some u:=by unfold Vc;rw[hu];exact zp he
 refine ja ?_;exact Na rfl (rC (ib rfl) (va rfl)) (by
  rw[hn,tO zo];rfl)
 have hn:Vc w=none:=by unfold Vc;split;rename_i u hu;exact absurd hu (Iu u);rfl
 refine ja ?_;refine sa (λh=>?_) λh=>?_;refine Oe ?_;exact Na rfl (rC (ib rfl) (va rfl)) (by rw[hn];rfl);cases h
theorem UZ(w:Wd)(hs:w.length<=1000000000):aa (KC B0 w0) 85 [str w] [] (Ko (Ei (td w))):=by
 obtain⟨r1,r2⟩:=OA (aV w);have fa:(Go.Lib.trimPrefix w [38]).length<=1000000000:=by unfold Go.Lib.trimPrefix;split;rw[List.length_drop];omega;exact hs
 refine cJ Tryz.func85 (n:=17) ?_;refine fg ?_;refine oS (sF [_,_] rfl (qe w [38]) ?_);refine ia ?_;refine oB 13 rfl (λh=>?_) λh=>?_;exact kG;rw[h,Pg] at r1;refine oa ?_;exact tj rfl (rC (ib rfl) (va rfl)) (Ei.mk r1 r2)
theorem gR(w:Wd)(hs:w.length<=1000000000):aa (KC B0 w0) 167 [str w] [] (Ko (Ei (Ib w))):=by
 obtain⟨r1,r2⟩:=OA (sV w);have fa:(Go.Lib.trimSuffix w [58]).length<=1000000000:=by unfold Go.Lib.trimSuffix;split;rw[List.length_take];omega;exact hs
 refine cJ Tryz.func167 (n:=17) ?_;refine fg ?_;refine oS (sF [_,_] rfl (oe w [58] hs) ?_);refine ia ?_;refine oB 13 rfl (λh=>?_) λh=>?_;exact kG;rw[h,Pg] at r1;refine oa ?_;exact tj rfl (rC (ib rfl) (va rfl)) (Ei.mk r1 r2)
def Pj(v:List Wd)(m:Nat):LV:=.agg [.list (v.map str),.atom (.map (some m))]
theorem Qj(v:List Wd)(m i:Nat)(hv:v.length<=1000000000):aa (KC B0 w0) 163 [Pj v m,int .i64 i] [] (gb (str (ka v i))):=by
 have Kn:(v.map str).length=v.length:=Ua _;unfold Pj;refine cJ Tryz.func163 (n:=15) ?_;refine Pc ?_;refine oS (sB (cs:=[.list (v.map str),.atom (.map (some m))]) rfl λb2=>?_);refine ja ?_;refine sa (λh=>?_) λh=>?_;have wa:i<v.length:=by have:=zt h;omega
 have hw:ka v i=v[i]:=by unfold ka;rw[dh wa];rfl
 refine ja ?_;refine ca (xR (ad:=str v[i]) (cs:=[str v[i]]) rfl rfl zo (Hh _ _ _ wa) rfl rfl)<|za ?_;exact Na rfl (va rfl) (uC hw.symm);have Fm:v.length<=i:=by have:=zf h;omega
 have hw:ka v i=[]:=by unfold ka;rw[List.getElem?_eq_none Fm];rfl
 refine ia ?_;exact Na rfl (va rfl) (uC hw.symm)
def Small(v:List Wd):Prop:=v.length<=1000000/\∀ w∈v,w.length<=1000000
theorem Small.at{v:List Wd}(h:Small v)(i:Nat):(ka v i).length<=1000000:=by
 unfold ka;cases hi:v[i]? with
 |none=>exact zero_le _
 |some w=>exact h.2 w (List.mem_of_getElem? hi)
theorem UL(v:List Wd)(m i:Nat)(hv:Small v)(hi:i<=1000):aa (KC B0 w0) 166 [Pj v m,int .i64 i] [] (Ko (Ei (jm v i))):=by
 have h1:=Qj (B0:=B0) (w0:=w0) v m i (by have:=hv.1;omega);have h2:=Qj (B0:=B0) (w0:=w0) v m (i+1) (by have:=hv.1;omega);have e2:int .i64 ((i:Int)+1)=int .i64 ((i+1:Nat):Int):=bf zo;rw[<-e2] at h2;have hl:=hv.at i;have hJ:jm v i=match td (ka v i) with
  |some l=>if ka v (i+1)=[63] then some l else none
  |none=>none:=rfl
 unfold Pj at h1 h2 ⊢;refine cJ Tryz.func166 (n:=24) ?_;refine Pc ?_;refine oS (sB (cs:=[.list (v.map str),.atom (.map (some m))]) rfl λb2=>?_);refine ja ?_;refine oS (sF [_,_] rfl h1<|oS (S.ff [_] rfl (UZ _ zo) ?_));rintro lv ⟨s,rfl,hs⟩;refine ia ?_;refine oB 17 rfl (λh=>?_) λh=>?_;obtain⟨l,yx⟩:=zR h;have Mk:=hs l yx;rw[yx] at hJ;refine za ?_;refine oS (sF [_,_] rfl h2 ?_);refine oa ?_
 exact tj rfl (rC (ib rfl) (va rfl)) (Ei.mk (by rw[hJ];simp only;split <;> simp_all) (by
  intro l' h';rw[hJ] at h';simp only at h';split at h';injection h' with h';rw[Mk,h'];cases h'))
 have hn:td (ka v i)=none:=by
  cases h3:td (ka v i) with
  |none=>rfl
  |some l=>rw[h3] at h;cases h
 rw[hn] at hJ;refine oa ?_;exact tj rfl (rC (ib rfl) (va rfl)) (Ei.mk (by rw[hJ];rfl) (by
  intro l' h';rw[hJ] at h';cases h'))
theorem TG{a b:Nat}(ha:a<4294967296)(hb:b<4294967296):IntKind.u32.wrap (((BitVec.ofInt IntKind.u32.bits (a:Int) ^^^ BitVec.ofInt IntKind.u32.bits (b:Int)).toNat:Nat):Int)=((a ^^^ b:Nat):Int):=by
 have h1:(BitVec.ofInt 32 (a:Int) ^^^ BitVec.ofInt 32 (b:Int)).toNat=a ^^^ b:=by rw[BitVec.ofInt_natCast,BitVec.ofInt_natCast,BitVec.toNat_xor,BitVec.toNat_ofNat,BitVec.toNat_ofNat,Nat.mod_eq_of_lt ha,Nat.mod_eq_of_lt hb]
 have h2:a ^^^ b<4294967296:=Nat.xor_lt_two_pow (n:=32) ha hb;show IntKind.u32.wrap (((BitVec.ofInt 32 (a:Int) ^^^ BitVec.ofInt 32 (b:Int)).toNat:Nat):Int)=_;rw[h1,tO zo]
theorem BN(a b:Nat):IntKind.u32.wrap ((a:Int)+b)=(((a+b) % 4294967296:Nat):Int):=by rw[dP];omega
theorem zN{a b:Nat}(hb:b<4294967296):IntKind.u32.wrap ((a:Int)-b)=(((a+4294967296-b) % 4294967296:Nat):Int):=by rw[dP];omega
theorem AN(a b:Nat):IntKind.u32.wrap ((a:Int) * b)=((a * b % 4294967296:Nat):Int):=by rw[dP,Int.natCast_emod,Int.natCast_mul];rfl
theorem pt{m:Nat}{o:Option Nat}(ho:o=some m)(h:n=(m:Int)):Ge [int .u32 n,bool true]=LV.tuple [int .u32 ((o.getD 0:Nat):Int),bool o.isSome]:=by subst h;subst ho;rfl
theorem qlF(a b:Nat)(op:Wd)(ha:a<4294967296)(hb:b<4294967296):aa (KC B0 w0) 218 [int .u32 a,str op,int .u32 b] [] (gb (.tuple [int .u32 ((Yn a op b).getD 0:Nat),bool (Yn a op b).isSome])):=by
 have hC:Yn a op b=Yn a op b:=rfl
 conv at hC=>rhs;unfold Yn
 refine cJ Tryz.func218 (n:=47) ?_;refine ia ?_;refine sa (λh1=>?_) λh1=>?_;rw[zp (zt h1)] at hC;refine Dc ?_;refine ca (Pure.Tw rfl rfl)<|oa ?_;exact Na rfl (rC (ib rfl) (va rfl)) (pt hC (BN a b));rw[zn (zf h1)] at hC;refine Gj ?_;refine sa (λh2=>?_) λh2=>?_;rw[zp (zt h2)] at hC;refine Dc ?_;refine ca (Pure.Zu rfl rfl)<|oa ?_;exact Na rfl (rC (ib rfl) (va rfl)) (pt hC (zN hb));rw[zn (zf h2)] at hC;refine Gj ?_;refine sa (λh3=>?_) λh3=>?_;rw[zp (zt h3)] at hC;refine Dc ?_;refine ca (Pure.pD rfl rfl)<|oa ?_;exact Na rfl (rC (ib rfl) (va rfl)) (pt hC (AN a b));rw[zn (zf h3)] at hC;refine Gj ?_;refine sa (λh4=>?_) λh4=>?_;rw[zp (zt h4)] at hC;refine Dc ?_;refine ca (Pure.SG rfl rfl)<|oa ?_;exact Na rfl (rC (ib rfl) (va rfl)) (pt hC (TG ha hb));rw[zn (zf h4)] at hC;refine Gj ?_;refine sa (λh5=>?_) λh5=>?_;rw[zp (zt h5)] at hC;refine ia ?_;refine sa (λh6=>?_) λh6=>?_;have wa:a<b:=by have:=zt h6;omega
 refine Hj ?_;exact Na rfl (rC (ib rfl) (va rfl)) (by rw[hC,zp wa];rfl);have wa:¬ a<b:=by have:=zf h6;omega
 refine ia ?_;exact Na rfl (rC (ib rfl) (va rfl)) (by rw[hC,zn wa];rfl);rw[zn (zf h5)] at hC;refine Gj ?_;refine cC [(0,int .u32 a),(1,str op),(2,int .u32 b),(34,bool (decide (op=[47]∨op=[37])))] ?_ λj hj=>?_;refine sa (λh6=>?_) λh6=>?_;refine oa ?_;exact⟨⟨rfl,rfl,rfl,Ed (by simp[zt h6]),trivial⟩,rfl,rfl⟩;refine Gj ?_;exact⟨⟨rfl,rfl,rfl,Ed (by simp[zf h6]),trivial⟩,rfl,rfl⟩;refine sa (λh6=>?_) λh6=>?_;have XJ:op=[47]∨op=[37]:=zt h6;refine ia ?_;refine sa (λh7=>?_) λh7=>?_;have Jd:b=0:=by have:=zt h7;omega
 have qT:Yn a op b=none:=by rw[hC];rcases XJ with h|h;rw[zp h,zp Jd];rw[zn (by rw[h];decide),zp h,zp Jd]
 refine Hj ?_;exact Na hj (rC (ib rfl) (va rfl)) (by rw[qT];rfl);have Jd:¬ b=0:=by have:=zf h7;omega
 refine ia ?_;refine sa (λh8=>?_) λh8=>?_;rw[zp (zt h8),zn Jd] at hC;have hle:a / b<=a:=Nat.div_le_self _ _
 have e1:IntKind.u32.wrap ((a:Int).tdiv (b:Int))=((a / b:Nat):Int):=by rw[Int.tdiv_eq_ediv_of_nonneg zo,<-Int.natCast_ediv];exact tO ⟨Int.natCast_nonneg _,Int.ofNat_le.2 (show a / b<=4294967295 by omega)⟩
 refine Dc ?_;refine ca (Pure.kH rfl rfl zo)<|oa ?_;exact Na hj (rC (ib rfl) (va rfl)) (pt hC e1);have h9:op=[37]:=by rcases XJ with h|h;exact absurd h (zf h8);exact h
 rw[zn (zf h8),zp h9,zn Jd] at hC;have e1:(a:Int).tmod (b:Int)=((a % b:Nat):Int):=by rw[Int.tmod_eq_emod_of_nonneg zo,<-Int.natCast_emod]
 refine ia ?_;refine ca (Pure.iH rfl rfl zo)<|oa ?_;exact Na hj (rC (ib rfl) (va rfl)) (pt hC e1);have XJ:¬ (op=[47]∨op=[37]):=zf h6;have qT:Yn a op b=none:=by rw[hC,zn λh=>XJ (.inl h),zn (λh=>XJ (.inr h))]
 refine ia ?_;exact Na hj (rC (ib rfl) (va rfl)) (by rw[qT];rfl)
theorem cZ(hG:GW B0 w0)(x op y:Wd)(hx:x.length<=1000000)(hy:y.length<=1000000):aa (KC B0 w0) 162 [str x,str op,str y] [] (Ko (Ei (gq x op y))):=by
 have n1:=DF hG x zo;have n2:=DF hG y zo;have hJ:gq x op y=match Vc x,Vc y with
  |some a,some b=>match Yn a op b with
   |some c=>if (Go.Lib.decDigits c).length<=x.length+y.length+1 then some (Go.Lib.decDigits c) else none
   |none=>none
  |_,_=>none:=rfl
 have ha:(Vc x).getD 0<4294967296:=by
  cases h:Vc x with
  |none=>decide
  |some u=>exact SK h
 have hb:(Vc y).getD 0<4294967296:=by
  cases h:Vc y with
  |none=>decide
  |some u=>exact SK h
 have n3:=qlF (B0:=B0) (w0:=w0) _ _ op ha hb;have hc:(Yn ((Vc x).getD 0) op ((Vc y).getD 0)).getD 0<4294967296:=by
  cases h:Yn ((Vc x).getD 0) op ((Vc y).getD 0) with
  |none=>decide
  |some u=>exact GV ha hb h
 have IJ:=cF hc;refine cJ Tryz.func162 (n:=54) ?_;refine fg ?_;refine oS (sF [_] rfl n1 ?_);refine ia ?_;refine oS (sF [_] rfl n2 ?_);refine ia ?_;refine oS (sF [_,_,_] rfl n3 ?_);refine ja ?_;refine oS (sF [_,_] (show _=[int .u64 (IntKind.u64.wrap (((Yn ((Vc x).getD 0) op ((Vc y).getD 0)).getD 0:Nat):Int)),int .i64 10] from rfl) (by rw[Q6 zo];exact yd hG _ zo) ?_);refine fg ?_;refine oB 37 rfl (λh1=>?_) λh1=>?_;obtain⟨a,Gm⟩:=zR h1;refine oa ?_;refine oB 40 rfl (λh2=>?_) λh2=>?_;obtain⟨b,Dj⟩:=zR h2;rw[Gm,Dj] at hJ;rw[Gm,Dj];simp only at hJ;simp only[getD_some];refine oa ?_;refine oB 43 rfl (λh3=>?_) λh3=>?_;obtain⟨c,Th⟩:=zR h3;rw[Gm,Dj] at IJ;simp only[getD_some] at IJ;rw[Th] at hJ IJ;rw[Th];simp only[getD_some] at hJ IJ ⊢;refine za ?_
 exact tj rfl (rC (ib rfl) (va rfl)) (Ei.mk (by
  rw[hJ];by_cases hle:(Go.Lib.decDigits c).length<=x.length+y.length+1;rw[zp hle,Eg zo];rfl;rw[zn hle,decide_eq_false zo];rfl) (by
  intro l' h';rw[hJ] at h';split at h';injection h';cases h'))
 have hn:Yn a op b=none:=by
  cases h4:Yn a op b with
  |none=>rfl
  |some l=>rw[h4] at h3;cases h3
 rw[hn] at hJ;refine oa ?_;exact tj rfl (rC (ib rfl) (va rfl)) (Ei.mk (by rw[hJ];rfl) (by
  intro l' h';rw[hJ] at h';cases h'))
 have hn:Vc y=none:=by
  cases h3:Vc y with
  |none=>rfl
  |some l=>rw[h3] at h2;cases h2
 rw[Gm,hn] at hJ;refine oa ?_;exact tj rfl (rC (ib rfl) (va rfl)) (Ei.mk (by rw[hJ];rfl) (by
  intro l' h';rw[hJ] at h';cases h'))
 have hn:Vc x=none:=by
  cases h3:Vc x with
  |none=>rfl
  |some l=>rw[h3] at h1;cases h1
 rw[hn] at hJ;refine oa ?_;exact tj rfl (rC (ib rfl) (va rfl)) (Ei.mk (by rw[hJ];rfl) (by
  intro l' h';rw[hJ] at h';cases h'))
end Go.Proofs.YtjolancjacdeaaaGreatDoor.Pp
