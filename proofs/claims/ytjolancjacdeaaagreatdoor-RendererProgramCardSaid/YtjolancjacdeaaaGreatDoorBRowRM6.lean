import Derived.Deep.WholeRow
import Derived.Test.YtjolancjacdeaaaGreatDoorBRowRM5
set_option linter.unusedVariables false
set_option linter.unusedSimpArgs false
set_option maxRecDepth 100000
set_option maxHeartbeats 4000000
open Go.GL (zk)
open List (perm_append_singleton not_mem_nil length_singleton)
open Nat (zero_le)
namespace Go.Proofs.YtjolancjacdeaaaGreatDoor
open Go.GL Go.RowKit Go.Ba
variable{Hc:Heap}{T:List Tok}{La first:Array Value}{f:FuncId}{i sb:Nat}
attribute [local irreducible] ea Ga Ja aa Go.GL.Pure Bc Tc oc LQ Pa Td Lf
def iK(l:List Ex):LV:=.list (l.map Va)
variable{B0:Nat}{w0:World}
theorem jY(sb:Nat)(T:List Tok)(hT:Vn T)(f:Nat)(hE:∀ g,g<f->Fy B0 w0 sb T g)(i op:Nat)(r:vh (List Ex))(hi:i<=T.length)(ho:op<=100)(hr:Vw T f i op=some r) :
  aa (KC B0 w0) 269 [ptr sb 0] [Za sb T i op] (fk sb T iK r):=by
 have hl:=hT.len;obtain⟨f,rfl⟩:∃ g,f=g+1:=by
  cases f with
  |zero=>rw[Vw] at hr;cases hr
  |succ g=>exact⟨g,rfl⟩
 rw[Vw] at hr;refine cJ Tryz.func269 (n:=23) ?_;refine fg ?_;refine oS (sP [_,_] rfl pH (Xy sb T i op [40] hl zo zo) (λv i1 ec h1=>?_) λl er i1 ec h1 e' ya=>?_);rw[h1,Bd] at hr;obtain⟨rfl,rfl,gr,Ax⟩:=Jq h1;refine ia ?_;obtain⟨r1,xd⟩:=Zh hr
 refine oL (λk ls H=>∃ (v:LV) (l:List Ex) (i2:Nat) (Ha:Heap),k<=f/\ls=[(0,ptr sb 0),(3,v)]/\H=Za sb T i2 (op+1)::Ha/\Acc 4 v (l.map Va) Ha []/\i2<=T.length/\l.length<=i2+1/\Jv T k l i2 (op+1)=some r1)
  ⟨f,_,Za sb T (i+1) (op+1)::[],⟨Ea,[],i+1,_,mc _,rfl,rfl,Acc.nil,by omega,by simp,xd⟩,Qa,kb _⟩ ?_
 rintro k ls H ⟨v,l,i2,Ha,KS,rfl,rfl,Ta,Cp,vx,hI⟩ j hj;obtain⟨k,rfl⟩:∃ k',k=k'+1:=by
  cases k with
  |zero=>rw[Jv] at hI;cases hI
  |succ k=>exact⟨k,rfl⟩
 rw[Jv] at hI;refine Dc ?_;refine fh ?_;refine oS (sH [_,_] rfl pH (To sb T i2 (op+1) [[41]] hl zo (by simp)) ?_);refine za ?_;refine sa (λhc=>?_) λhc=>?_;have uk:ie T i2 [[41]]=false:=by simpa using hc
 rw[zn (by rw[uk];decide)] at hI;refine Af ?_;refine eh ?_;refine ca (Pure.jl Ta.elems)<|za ?_;refine sa (λhd=>?_) λhd=>?_
 have Ju:¬ l=[]:=by rintro rfl;have:=zt hd;simp at this
 rw[zn Ju] at hI;refine Dc ?_;refine oS (sP [_,_] rfl pH (NC sb T i2 (op+1) [44] hl zo) (λu i3 Se h3=>?_) λl er i3 Se h3 e' ya=>?_);rw[h3,Bd] at hI
 obtain⟨q1,q2,q3,rfl⟩:i2<=i3/\(true=true->i2<i3)/\(i2<=T.length->i3<=T.length)/\Se=op+1:=by have:=Bs T [44] i2 (op+1);rw[h3] at this;exact this
 have q4:=q3 Cp;refine Nd ?_;refine eh ?_;refine Dg ?_;obtain⟨r2,sd⟩:=Zh hI;refine oS (sP [_] rfl pH (hE k zo _ _ r2 zo zo sd) (λe2 i4 Rj h4=>?_) λl er i4 Rj h4 e' ya=>?_);exact BG;rw[sd,h4,Hf] at hI;rw[xd] at hr;cases hI;rw[Hf] at hr;refine Rc ?_;exact Yb (ya.trans hj) (by cases hr;rfl) dc;rw[h3,Hf] at hI;rw[xd] at hr;cases hI;rw[Hf] at hr;refine Rc ?_;exact Yb (ya.trans hj) (by cases hr;rfl) dc
 have Ju:l=[]:=by have:=zf hd;simp at this;exact this
 rw[zp Ju,Bd] at hI;refine Af ?_;refine eh ?_;refine Dg ?_;obtain⟨r2,sd⟩:=Zh hI;refine oS (sP [_] rfl pH (hE k zo _ _ r2 zo zo sd) (λe2 i4 Rj h4=>?_) λl er i4 Rj h4 e' ya=>?_);exact BG;rw[sd,h4,Hf] at hI;rw[xd] at hr;cases hI;rw[Hf] at hr;refine Rc ?_;exact Yb (ya.trans hj) (by cases hr;rfl) dc;have uk:ie T i2 [[41]]=true:=by simpa using hc
 rw[zp uk] at hI;refine ia ?_;rw[xd] at hr;cases hI;rw[Bd] at hr;refine oS (sP [_,_] rfl pH (GC sb T i2 (op+1) [41] hl zo zo zo) (λu i3 Se h3=>?_) λl er i3 Se h3 e' ya=>?_);rw[h3,Bd] at hr;refine Nd ?_;refine Uu ?_;exact ue (v:=l) hj (rC (rT (v:=v) rfl Ta.sub) rN) (by cases hr;rfl) rfl dc;rw[h3,Hf] at hr;refine zg ?_;exact Yb (ya.trans hj) (by cases hr;rfl) dc;exact Qx
theorem bZ(sb:Nat)(T:List Tok)(hT:Vn T)(f:Nat)(hE:∀ g,g<f->Fy B0 w0 sb T g)(i op:Nat)(r:vh Ex)(hi:i<=T.length)(ho:op<=100)(hr:vv T f i op=some r) :
  aa (KC B0 w0) 270 [ptr sb 0] [Za sb T i op] (fk sb T Va r):=by
 cases f with
 |zero=>rw[vv] at hr;cases hr
 |succ f=>exact uQ sb T hT f (hE f zo) i op r hi ho hr
theorem K9(hG:GW B0 w0)(sb:Nat)(T:List Tok)(hT:Vn T)(f:Nat)(hE:∀ g,g<f->Fy B0 w0 sb T g)(i op:Nat)(r:vh Ex)(hi:i<=T.length)(ho:op<=100)(hr:Cy T f i op=some r) :
  aa (KC B0 w0) 283 [ptr sb 0] [Za sb T i op] (fk sb T Va r):=by
 have hl:=hT.len;have Hn:(T.map Oo).length=T.length:=Ua _;obtain⟨f,rfl⟩:∃ g,f=g+1:=by
  cases f with
  |zero=>rw[Cy] at hr;cases hr
  |succ g=>exact⟨g,rfl⟩
 rw[Cy] at hr;refine cJ Tryz.func283 (n:=63) ?_;refine Pc ?_;refine oS (yc λb=>?_);refine qg ?_;refine fh ?_;refine oS (sH [_,_] rfl uc (To sb T i op [[40]] hl zo (by simp)) ?_);refine ig ?_;refine sa (λhp=>?_) λhp=>?_;rw[zp hp] at hr;refine Dc ?_;refine oS (sP [_,_] rfl pH (Xy sb T i op [40] hl zo zo) (λv i1 ec h1=>?_) λl er i1 ec h1 e' ya=>?_);rw[h1,Bd] at hr;obtain⟨rfl,rfl,gr,Ax⟩:=Jq h1;refine qg ?_;obtain⟨r1,xd⟩:=Zh hr;refine oS (sP [_] rfl pH (hE f zo _ _ r1 zo zo xd) (λv i2 Ye h2=>?_) λl er i2 Ye h2 e' ya=>?_);rw[xd,h2,Bd] at hr;obtain⟨g1,_,g3,rfl⟩:=(Xr T f).1 0 _ _ _ (xd.trans (congrArg some h2));have g4:=g3 zo;refine oS (yc λb2=>?_);refine ja ?_;refine oS (sP [_,_] rfl uc (GC sb T i2 (op+1) [41] hl zo zo zo) (λu i3 Se h3=>?_) λl er i3 Se h3 e' ya=>?_);rw[h3,Bd] at hr;refine ja ?_;exact ue rfl (rC (rA rfl yb rfl fc) rN) (by cases hr;rfl) rfl (fe dc);rw[h3,Hf] at hr;refine zg ?_;exact Yb (ya.trans rfl) (by cases hr;rfl) dc;rw[xd,h2,Hf] at hr;refine zg ?_;exact Yb (ya.trans rfl) (by cases hr;rfl) dc;exact Qx;have sk:ie T i [[40]]=false:=hp;rw[zn (by rw[sk];decide)] at hr;refine oa ?_;refine cC [(0,ptr sb 0),(2,ptr b 0),(38,bool (decide (IK T i=1)))] ?_ λj hj=>?_;refine Pm ?_;refine LQ.Up 25 rfl (λh=>?_) λh=>?_;have wa:i<T.length:=by have:=zt h;omega
 refine Oi ?_;refine qP (xR (ad:=Oo T[i]) (cs:=[_,_,_]) rfl rfl zo (Hh _ _ _ wa) rfl rfl) rfl ?_;refine za ?_;exact⟨⟨rfl,rfl,Ed (by rw[IK,dh wa]),trivial⟩,rfl,rfl⟩;have Fm:T.length<=i:=by have:=zf h;omega
 refine za ?_;exact⟨⟨rfl,rfl,Ed (by rw[IK,List.getElem?_eq_none Fm];rfl),trivial⟩,rfl,rfl⟩
 skip
 refine sa (λhk=>?_) λhk=>?_;rw[zp (zt hk)] at hr;refine Dc ?_;refine oS (sP [_] rfl pH (GZ hG sb T hT i op zo) (λn i1 ec h1=>?_) λl er i1 ec h1 e' ya=>?_);rw[h1,Bd] at hr;refine za ?_;exact ue (v:=.mk Mq n [] []) hj (rC (rA (k:=4) rfl yb rfl (vA (bs:=[_,_,_,.list []]) ⟨vR _,vR _,vR _,vN,trivial⟩)) rN) (by cases hr;rfl) (by rw[Av];rfl) (Ab uc Fc);rw[h1,Hf] at hr;refine zg ?_;exact Yb (ya.trans hj) (by cases hr;rfl) dc;rw[zn (zf hk)] at hr;refine ia ?_;refine oS (sP [_,_] rfl pH (Qj sb T i op 2 hl zo) (λs i1 ec h1=>?_) λl er i1 ec h1 e' ya=>?_);rw[h1,Bd] at hr;obtain⟨rfl,rfl,t,ht,_,_⟩:=Ry h1;have:=tC ht;refine ia ?_;refine fh ?_;refine oS (sH [_,_] rfl pH (To sb T (i+1) ec [[91]] hl zo (by simp)) ?_);refine fj ?_;refine sa (λhx=>?_) λhx=>?_;rw[zp hx] at hr;obtain⟨r1,xd⟩:=Zh hr;refine Dc ?_;refine oS (sP [_] rfl pH (bZ sb T hT f (λg hg=>hE g zo) (i+1) ec r1 zo zo xd) (λe2 i2 Ye h2=>?_) λl er i2 Ye h2 e' ya=>?_);rw[xd,h2,Bd] at hr;refine fh ?_;refine za ?_;exact ue (v:=.mk Dy 0 s [e2]) hj (rC (rA rfl yb rfl fc) rN) (by cases hr;rfl) (by rw[Av];rfl) (Ab uc Fc);exact Rx;have Kh:ie T (i+1) [[91]]=false:=hx;rw[zn (by rw[Kh];decide)] at hr;refine Dc ?_;refine fh ?_;refine oS (sH [_,_] rfl pH (To sb T (i+1) ec [[40]] hl zo (by simp)) ?_);refine fj ?_;refine sa (λhy=>?_) λhy=>?_;rw[zp hy] at hr;obtain⟨r1,xd⟩:=Zh hr;refine Dc ?_;refine oS (sP [_] rfl pH (jY sb T hT f (λg hg=>hE g zo) (i+1) ec r1 zo zo xd) (λe2 i2 Ye h2=>?_) λl er i2 Ye h2 e' ya=>?_);rw[xd,h2,Bd] at hr;refine za ?_;exact ue (v:=.mk Ek 0 s e2) hj (rC (rA rfl yb rfl fc) rN) (by cases hr;rfl) (by rw[Av];rfl) (Ab uc Fc);exact Rx;have nz:ie T (i+1) [[40]]=false:=hy;rw[zn (by rw[nz];decide)] at hr;refine ja ?_;exact ue (v:=.mk pn 0 s []) hj (rC (rA (k:=4) rfl yb rfl (vA (bs:=[_,_,_,.list []]) ⟨vR _,vR _,vR _,vN,trivial⟩)) rN) (by cases hr;rfl) (by rw[Av];rfl) (Ab uc Fc);rw[h1,Hf] at hr;refine zg ?_;exact Yb (ya.trans hj) (by cases hr;rfl) dc
def Nu:MapEntry:={ key:=.string ⟨#[45]⟩,val:=.string ⟨#[110,101,103]⟩,born:=0 }
def Mw:MapEntry:={ key:=.string ⟨#[33]⟩,val:=.string ⟨#[110,111,116]⟩,born:=1 }
def V3(B0:Nat)(w0:World)(sb:Nat)(T:List Tok)(f:Nat):Prop:=
 ∀ i op r,i<=T.length->op<=100->Dt T f i op=some r->aa (KC B0 w0) 265 [ptr sb 0] [Za sb T i op] (fk sb T Va r)
def zH(T:List Tok)(i:Nat)(seen:Array Nat):Prop:=
 seen=#[]∨(seen=#[0]/\ie T i [[45]]=false)∨(seen=#[1]/\ie T i [[33]]=false)∨((seen=#[0,1]∨seen=#[1,0])/\ie T i [[45]]=false/\ie T i [[33]]=false)
theorem qqt{seen:Array Nat}(h:zH T i seen)(ho:#[Nu,Mw].filter (λe=>!seen.contains e.born)=#[]):ie T i [[45]]=false/\ie T i [[33]]=false:=by have h1:=Array.filter_eq_empty_iff.1 ho Nu (by simp);have h2:=Array.filter_eq_empty_iff.1 ho Mw (by simp);rcases h with rfl|⟨rfl,_⟩|⟨rfl,_⟩|⟨_,h3,h4⟩;simp[Nu] at h1;simp[Mw] at h2;simp[Nu] at h1;exact⟨h3,h4⟩
theorem qqy{seen:Array Nat}{e:MapEntry}(h:zH T i seen)(he:e∈(#[Nu,Mw].filter λe=>!seen.contains e.born).toList) :
  seen.size<2/\((e=Nu/\(ie T i [[45]]=false->zH T i (seen.push 0)))∨(e=Mw/\(ie T i [[33]]=false->zH T i (seen.push 1)))):=by
 have ya:=Array.mem_filter.1 (Array.mem_toList_iff.1 he);have MD:e=Nu∨e=Mw:=by simpa using ya.1
 have Iu:=ya.2;rcases h with rfl|⟨rfl,h1⟩|⟨rfl,h1⟩|⟨rfl|rfl,_,_⟩;rcases MD with rfl|rfl;exact⟨by decide,.inl ⟨rfl,λh=>.inr (.inl ⟨rfl,h⟩)⟩⟩;exact⟨by decide,.inr ⟨rfl,λh=>.inr (.inr (.inl ⟨rfl,h⟩))⟩⟩;rcases MD with rfl|rfl;simp[Nu] at Iu;exact⟨by decide,.inr ⟨rfl,λh=>.inr (.inr (.inr ⟨.inl rfl,h1,h⟩))⟩⟩;rcases MD with rfl|rfl;exact⟨by decide,.inl ⟨rfl,λh=>.inr (.inr (.inr ⟨.inr rfl,h,h1⟩))⟩⟩;simp[Mw] at Iu;rcases MD with rfl|rfl;simp[Nu] at Iu;simp[Mw] at Iu;rcases MD with rfl|rfl;simp[Nu] at Iu;simp[Mw] at Iu
theorem qpo(h:ie T i [[33]]=true):ie T i [[45]]=false:=by
 unfold ie at h ⊢;split at h;rename_i t ht;simp only[Le] at h;have h2:t.text=[33]:=by simpa using h.2
 rw[h2];simp;cases h
theorem qpE(hG:GW B0 w0)(sb:Nat)(T:List Tok)(hT:Vn T):∀ f:Nat,(∀ g,g<f->Fy B0 w0 sb T g)->V3 B0 w0 sb T f:=by
 intro f;induction f with
 |zero=>intro _ i op r _ _ hr;rw[Dt] at hr;cases hr
 |succ f ih=>
  intro hE i op r hi ho hr;have hl:=hT.len;rw[Dt] at hr;refine cJ Tryz.func265 (n:=36) ?_;refine Pc ?_;refine oS (yc λb=>?_);refine Nd ?_;refine oS (S.makeMap λmb=>oS (S.insert (k:=⟨#[45]⟩) (v:=.string ⟨#[110,101,103]⟩) (kt:=9) (el:=9) zk zk rfl rfl rfl pH (by simp) ?_));refine oS (S.insert (k:=⟨#[33]⟩) (v:=.string ⟨#[110,111,116]⟩) (kt:=9) (el:=9) zk zk rfl rfl rfl pH (λe he=>⟨⟨#[45]⟩,by simp at he;rw[he],by decide⟩)<|ca (pM (lv:=.atom _) rfl)<|oS (S.range (kt:=9) (el:=9) zk rfl yb λrb=>?_));refine oa ?_
  refine oL (λk ls H=>∃ seen:Array Nat,k=2-seen.size/\ls=[(0,ptr sb 0),(2,ptr b 0),(8,ptr rb 0)]/\H=[(rb,.obj (.mapIter (some mb) 2 seen 2)),(mb,.obj (.map #[Nu,Mw] 2)),(b,.cells 217 [str [],int .u32 0,str [],Ea]),Za sb T i op]/\zH T i seen)
   ⟨_,_,_,⟨#[],rfl,rfl,rfl,.inl rfl⟩,Qa,kb _⟩ ?_
  rintro k ls H ⟨seen,rfl,rfl,rfl,hS⟩ j hj;refine Pc ?_;refine oS (S.next (F:=[(b,.cells 217 [str [],int .u32 0,str [],Ea]),Za sb T i op]) rfl qb ra (λhov=>?_) λen zB=>?_);obtain⟨Ap,qB⟩:=qqt hS hov;rw[zn (by rw[Ap];decide),zn (by rw[qB];decide)] at hr;refine oa ?_;refine sa (λji=>?_) λji=>?_;cases ji;refine ia ?_;refine oS (sP [_] rfl pu (K9 hG sb T hT f (λg hg=>hE g zo) i op r hi ho hr) (λv i1 ec h1=>?_) λl er i1 ec h1 e' ya=>?_);refine za ?_;exact ue (v:=v) hj (rC (rA rfl yb rfl fc) rN) h1 rfl (Ab uc Fc);refine zg ?_;exact Yb (ya.trans hj) h1 dc;obtain⟨ld,⟨rfl,jw⟩|⟨rfl,jw⟩⟩:=qqy hS zB;refine oa ?_;refine sa (λji=>?_) λji=>?_;refine Af ?_;refine ca (Pure.entry (en:=Nu) (stamp:=0) rfl yb Ff rfl (by show(seen.push 0).back? = _;simp) rfl) ?_;refine ia ?_;refine fh ?_;refine oS (sH [_,_] rfl pu (To sb T i op [[45]] hl zo (by simp)) ?_);refine ig ?_;refine sa (λhc=>?_) λhc=>?_;rw[zp hc] at hr;refine Dc ?_;refine oS (sP [_,_] rfl pH (Xy sb T i op [45] hl zo zo) (λv i1 ec h1=>?_) λl er i1 ec h1 e' ya=>?_);rw[h1,Bd] at hr;obtain⟨rfl,rfl,gr,Ax⟩:=Jq h1;refine qg ?_;obtain⟨r1,xd⟩:=Zh hr;refine oS (sP [_] rfl pH (ih (λg hg=>hE g zo) _ _ r1 zo zo xd) (λe2 i2 Ye h2=>?_) λl er i2 Ye h2 e' ya=>?_);rw[xd,h2,Bd] at hr;obtain⟨g1,_,g3,rfl⟩:=(Xr T f).2.2.1 _ _ _ (xd.trans (congrArg some h2));have g4:=g3 zo;refine fh ?_;refine za ?_;refine oS (yc λb2=>?_);refine ja ?_
  exact ue (v:=.mk Nq 0 [] [e2]) hj (rC (rA rfl yb rfl fc) rN) (by cases hr;rfl) (by rw[Av];rfl) (by
   rw[show(((op+1:Nat):Int)-1)=((op+1-1:Nat):Int) by omega];exact Ab uc Fc)
  exact Rx;rw[h1,Hf] at hr;refine Rc ?_;exact Yb (ya.trans hj) (by cases hr;rfl) dc;refine oa ?_;exact⟨_,_,_,by have:=ld;simp;omega,⟨seen.push 0,rfl,rfl,rfl,jw hc⟩,Qa,Ab uc (Ab uc (Ab uc dc)),hj⟩;cases ji;refine oa ?_;refine sa (λji=>?_) λji=>?_;refine Af ?_;refine ca (Pure.entry (en:=Mw) (stamp:=1) rfl yb Ff rfl (by show(seen.push 1).back? = _;simp) rfl) ?_;refine ia ?_;refine fh ?_;refine oS (sH [_,_] rfl pu (To sb T i op [[33]] hl zo (by simp)) ?_);refine ig ?_;refine sa (λhc=>?_) λhc=>?_;rw[zn (by rw[qpo hc];decide),zp hc] at hr;refine Dc ?_;refine oS (sP [_,_] rfl pH (Xy sb T i op [33] hl zo zo) (λv i1 ec h1=>?_) λl er i1 ec h1 e' ya=>?_);rw[h1,Bd] at hr;obtain⟨rfl,rfl,gr,Ax⟩:=Jq h1;refine qg ?_;obtain⟨r1,xd⟩:=Zh hr;refine oS (sP [_] rfl pH (ih (λg hg=>hE g zo) _ _ r1 zo zo xd) (λe2 i2 Ye h2=>?_) λl er i2 Ye h2 e' ya=>?_);rw[xd,h2,Bd] at hr;obtain⟨g1,_,g3,rfl⟩:=(Xr T f).2.2.1 _ _ _ (xd.trans (congrArg some h2));have g4:=g3 zo;refine fh ?_;refine za ?_;refine oS (yc λb2=>?_);refine ja ?_
  exact ue (v:=.mk Yo 0 [] [e2]) hj (rC (rA rfl yb rfl fc) rN) (by cases hr;rfl) (by rw[Av];rfl) (by
   rw[show(((op+1:Nat):Int)-1)=((op+1-1:Nat):Int) by omega];exact Ab uc Fc)
  exact Rx;rw[h1,Hf] at hr;refine Rc ?_;exact Yb (ya.trans hj) (by cases hr;rfl) dc;refine oa ?_;exact⟨_,_,_,by have:=ld;simp;omega,⟨seen.push 1,rfl,rfl,rfl,jw hc⟩,Qa,Ab uc (Ab uc (Ab uc dc)),hj⟩;cases ji
inductive Qu (sb:Nat):Nat->FuncId->Array Value->Array Value->Heap->Prop
 |un:Qu sb 6 265 #[.pointer (some ⟨sb,0,none⟩)] #[] []
 |bin {k bo bs bp bn:Nat} {f:FuncId} {first La:Array Value} {H:Heap} (h:Qu sb (k+1) f first La H):Qu sb k 285 #[] #[.pointer (some ⟨bo,0,none⟩),.pointer (some ⟨bs,0,none⟩),.pointer (some ⟨bp,0,none⟩),.pointer (some ⟨bn,0,none⟩)]
   ((bo,.cells 264 [.atom (.func (.func f) first La)])::(bs,.cells 88 [ptr sb 0])::(bp,.cells 41 [.list ((yg k).map str)])::(bn,.cells 4 [bool (decide ((k:Int)=2))])::H)
def NN{A:Type}(sb:Nat)(T:List Tok)(enc:A->LV)(Hc:Heap)(ck:vh A)(r:Lc)(H:Heap):Prop:=match ck with
 |.ok v i op=>r=.ret (enc v)/\H=Za sb T i op::Hc
 |.err l e=>r=.panic (JF l e)/\∃ i op:Nat,H=Za sb T i op::Hc
def Rz(B0:Nat)(w0:World)(sb:Nat)(T:List Tok)(f:Nat):Prop:=
 ∀ k fn first La Hc i op r,Qu sb k fn first La Hc->i<=T.length->op<=100->Ue T f k i op=some r ->
  aa (KC B0 w0) fn (first.toList.map .atom++La.toList.map .atom) (Za sb T i op::Hc) (NN sb T Va Hc r)
section steps
variable{C:Ctx}{e:Env}{H:Heap}{dst:Option Nat}{ty:TypeId}{la:String}{ma:Array Edge}{g:Option (Nat×Bool)}{K:LV->Heap->Prop}{X:List PanicEntry->Heap->Prop}
theorem P3(a b:List LV){e:Env}:a++([]:List Operand).map e.ev++b=a++b:=by simp
theorem S.Qk{A:Type}{enc:A->LV}{ck:vh A}{sb i op:Nat}{T:List Tok}{fo:Operand}{f:FuncId} [fb C.P f]{first La:Array Value}{xe:Array TypeId}{Hc F:Heap}(hf:e.ev fo=.atom (.func (.func f) first La))(hp:Ec (Za sb T i op) H (F++Hc))
  (hc:aa C f (first.toList.map .atom++La.toList.map .atom) (Za sb T i op::Hc) (NN sb T enc Hc ck)) (hk:∀ v i' Da,ck=.ok v i' Da->K (enc v) (Za sb T i' Da::(F++Hc))) (hx:∀ l er i' Da,ck=.err l er->X (JF l er) (Za sb T i' Da::Hc++F)) :
  Ja C ⟨dst,.call { callee:=.value fo,args:=#[],argTypes:=xe },ty,la,ma,g⟩ e H K X:=by
 have sk:H.Perm ((Za sb T i op::Hc)++F):=hp.trans (dm _ dd);refine Ja.qc (K:=λv H'=>∃ u i' Da,ck=.ok u i' Da/\v=enc u/\H'=Za sb T i' Da::Hc++F) (S.Rf (H1:=Za sb T i op::Hc) (F:=F) [] hf (P3 _ _) sk hc ?_ ?_) ?_;intro v H' h;cases hr:ck with
 |ok u i' Da=>rw[hr] at h;obtain⟨h1,rfl⟩:=h;cases h1;exact⟨u,i',Da,rfl,rfl,rfl⟩
 |err l er=>rw[hr] at h;obtain⟨h1,_⟩:=h;cases h1
 intro ch H' h;cases hr:ck with
 |ok u i' Da=>rw[hr] at h;obtain⟨h1,_⟩:=h;cases h1
 |err l er=>rw[hr] at h;obtain⟨h1,i',Da,rfl⟩:=h;cases h1;exact hx _ _ _ _ hr
 rintro v H' ⟨u,i',Da,h1,rfl,rfl⟩;exact⟨_,_,vR _,⟨[],by simpa using dd⟩,hk u i' Da h1⟩
end steps
theorem Qu.enter{k:Nat}{H:Heap}(h:Qu sb k f first La H):fb Tryz.prog f:=by cases h <;> infer_instance
theorem Qu.le{k:Nat}{H:Heap}(h:Qu sb k f first La H):k<=6:=by
 induction h with
 |un=>exact mc _
 |bin _ ih=>omega
theorem P7{s:Nat×da}{A B:Heap}:HSub (s::(B++Hc)) ((s::Hc++[])++(A++B)):=by refine⟨A,?_⟩;have h1:(Hc++(A++B)).Perm ((B++Hc)++A):=dd.trans (by rw[Xc];exact dd);simpa using dm s h1
theorem vX{s u:Nat×da}{A:Heap}:HSub (u::s::(A++Hc)) (u::((s::([]++Hc))++A)):=by refine⟨[],?_⟩;have h1:(Hc++A).Perm (A++Hc):=dd;simpa using dm u (dm s h1)
theorem HSub.Mz{H' l1 l2:Heap}(h:HSub H' l2):HSub H' (l1++l2):=by obtain⟨G,hG⟩:=h;refine⟨G++l1,?_⟩;have h1:(l1++l2).Perm (l2++l1):=dd;have h2:(l2++l1).Perm ((H'++G)++l1):=hG.append_right l1;simpa using h1.trans h2
theorem yW{a:Nat×da}{l1 l2:Heap}:([]++(l1++a::l2)).Perm ([a]++(l1++l2)):=by exact(List.nil_append _).symm▸List.perm_middle
theorem q8(k:Nat):(yg k).length<=1000:=by unfold yg;split <;> simp
theorem Y8(h:i<T.length):tA T i=T[i].text:=by rw[tA,dh h]
variable{B0:Nat}{w0:World}
theorem J8(hG:GW B0 w0)(sb:Nat)(T:List Tok)(hT:Vn T)(f:Nat)(hC:∀ g,g<f->Rz B0 w0 sb T g)(k bo bs bp bn:Nat)(fn:FuncId)(first La:Array Value)(Hc:Heap)(tk:Qu sb (k+1) fn first La Hc)(i op:Nat)(r:vh Ex)
  (hi:i<=T.length) (ho:op<=100) (hr:Ue T f k i op=some r) :
  aa (KC B0 w0) 285 [ptr bo 0,ptr bs 0,ptr bp 0,ptr bn 0] (Za sb T i op::(bo,.cells 264 [.atom (.func (.func fn) first La)])::(bs,.cells 88 [ptr sb 0])::(bp,.cells 41 [.list ((yg k).map str)])::(bn,.cells 4 [bool (decide ((k:Int)=2))])::Hc)
   (NN sb T Va ((bo,.cells 264 [.atom (.func (.func fn) first La)])::(bs,.cells 88 [ptr sb 0])::(bp,.cells 41 [.list ((yg k).map str)])::(bn,.cells 4 [bool (decide ((k:Int)=2))])::Hc) r):=by
 have hl:=hT.len;have XF:=tk.le;have zB:=tk.enter;obtain⟨f,rfl⟩:∃ g,f=g+1:=by
  cases f with
  |zero=>rw[Ue] at hr;cases hr
  |succ g=>exact⟨g,rfl⟩
 rw[Ue,zn zo] at hr;obtain⟨r1,xd⟩:=Zh hr;refine cJ Tryz.func285 (n:=38) ?_;refine Pc ?_;refine oS (yc λb=>?_);refine ja ?_;refine oS (S.Qk (F:=[(b,_),(bo,_),(bs,_),(bp,_),(bn,_)]) (Hc:=Hc) rfl uc (hC f zo _ _ _ _ _ _ _ r1 tk hi ho xd) (λv i1 ec h1=>?_) λl er i1 ec h1 e' ya=>?_);rw[xd,h1,Bd] at hr;obtain⟨g1,_,g3,rfl⟩:=(Xr T f).1 _ _ _ _ (xd.trans (congrArg some h1));have g4:=g3 hi;refine oS (yc λb5=>?_);refine za ?_
 refine oL (λq ls H=>∃ (ex:Ex) (i2:Nat),q<=f/\ls=[(0,ptr bo 0),(1,ptr bs 0),(2,ptr bp 0),(3,ptr bn 0),(4,ptr b 0),(5,ptr b5 0)] /\
   H=(b5,.cells 217 [str (ug ex),int .u32 (Ym ex),str (jn ex),.list (Ml ex)])::Za sb T i2 ec::(b,.cells 217 [str [],int .u32 0,str [],Ea])::([(bo,.cells 264 [.atom (.func (.func fn) first La)]),(bs,.cells 88 [ptr sb 0]),(bp,.cells 41 [.list ((yg k).map str)]),(bn,.cells 4 [bool (decide ((k:Int)=2))])]++Hc)/\i2<=T.length/\cx T q k ex i2 ec=some r)
  ⟨f,_,_,⟨v,i1,mc _,rfl,rfl,g4,hr⟩,Qa,kb _⟩ ?_
 rintro q ls H ⟨ex,i2,hqf,rfl,rfl,Cp,hI⟩ j hj;obtain⟨q,rfl⟩:∃ q',q=q'+1:=by
  cases q with
  |zero=>rw[cx] at hI;cases hI
  |succ q=>exact⟨q,rfl⟩
 rw[cx] at hI;refine ja ?_;refine oS (sH [_,_] rfl uc (To sb T i2 ec (yg k) hl zo (q8 k)) ?_);refine ig ?_;refine sa (λhc=>?_) λhc=>?_;have wa:=Yh hc;rw[zp hc] at hI;refine oa ?_;refine cC [(0,ptr bo 0),(1,ptr bs 0),(2,ptr bp 0),(3,ptr bn 0),(4,ptr b 0),(5,ptr b5 0),(6,str (tA T i2))] ?_ λj2 Ub=>?_;refine Pm ?_;refine qP (xR (ad:=Oo T[i2]) (cs:=[_,_,_]) rfl rfl zo (Hh _ _ _ wa) rfl rfl) rfl ?_;refine za ?_;exact⟨⟨rfl,rfl,rfl,rfl,rfl,rfl,uC (Y8 wa).symm,trivial⟩,rfl,rfl⟩;obtain⟨r2,sd⟩:=Zh hI;refine ja ?_;refine cD (m:=7) rfl [(bo,.cells 264 [.atom (.func (.func fn) first La)])] ?_;have Jp:HSub [(bo,.cells 264 [.atom (.func (.func fn) first La)])] (Za sb T (i2+1) ec::(b5,.cells 217 [str (ug ex),int .u32 (Ym ex),str (jn ex),.list (Ml ex)])::(b,.cells 217 [str [],int .u32 0,str [],Ea])::(bo,.cells 264 [.atom (.func (.func fn) first La)])::[(bs,.cells 88 [ptr sb 0]),(bp,.cells 41 [.list ((yg k).map str)]),(bn,.cells 4 [bool (decide ((k:Int)=2))])]++Hc):=Ab pu Fc;refine Pa.take (i:=0) Jp rfl zk zk zk rfl (pM (lv:=.atom _) rfl)<|Pa.take (i:=2) Jp rfl zk zk zk rfl (pL (c:=.atom _) rfl yb rfl)<|aL ?_ Jp;refine cm (i:=1) (j:=3) zk ?_ ?_;have iw:(Za sb T (i2+1) ec::(b5,da.cells 217 [str (ug ex),int .u32 (Ym ex),str (jn ex),.list (Ml ex)])::(b,da.cells 217 [str [],int .u32 0,str [],Ea])::([(bo,da.cells 264 [.atom (.func (.func fn) first La)]),(bs,da.cells 88 [ptr sb 0]),(bp,da.cells 41 [.list ((yg k).map str)]),(bn,da.cells 4 [bool (decide ((k:Int)=2))])]++Hc)).Perm ((Za sb T (i2+1) ec::Hc)++[(b5,da.cells 217 [str (ug ex),int .u32 (Ym ex),str (jn ex),.list (Ml ex)]),(b,da.cells 217 [str [],int .u32 0,str [],Ea]),(bo,da.cells 264 [.atom (.func (.func fn) first La)]),(bs,da.cells 88 [ptr sb 0]),(bp,da.cells 41 [.list ((yg k).map str)]),(bn,da.cells 4 [bool (decide ((k:Int)=2))])]):=dm _ (show([(b5,da.cells 217 [str (ug ex),int .u32 (Ym ex),str (jn ex),.list (Ml ex)]),(b,da.cells 217 [str [],int .u32 0,str [],Ea]),(bo,da.cells 264 [.atom (.func (.func fn) first La)]),(bs,da.cells 88 [ptr sb 0]),(bp,da.cells 41 [.list ((yg k).map str)]),(bn,da.cells 4 [bool (decide ((k:Int)=2))])]++Hc).Perm (Hc++[(b5,da.cells 217 [str (ug ex),int .u32 (Ym ex),str (jn ex),.list (Ml ex)]),(b,da.cells 217 [str [],int .u32 0,str [],Ea]),(bo,da.cells 264 [.atom (.func (.func fn) first La)]),(bs,da.cells 88 [ptr sb 0]),(bp,da.cells 41 [.list ((yg k).map str)]),(bn,da.cells 4 [bool (decide ((k:Int)=2))])]) from dd);refine lH rfl rfl (pG (Ya:=[_,_,_,_]) rfl Ff rfl rfl)<|lO 3 (lS (H1:=Za sb T (i2+1) ec::Hc) (F:=[(b5,da.cells 217 [str (ug ex),int .u32 (Ym ex),str (jn ex),.list (Ml ex)]),(b,da.cells 217 [str [],int .u32 0,str [],Ea]),(bo,da.cells 264 [.atom (.func (.func fn) first La)]),(bs,da.cells 88 [ptr sb 0]),(bp,da.cells 41 [.list ((yg k).map str)]),(bn,da.cells 4 [bool (decide ((k:Int)=2))])]) rfl (.inl rfl) rfl (iw) (Ab Ig Fc) (S.Qk (F:=[]) (Hc:=Hc) rfl pH (hC q zo _ _ _ _ _ _ _ r2 tk zo ho sd) (λe2 i3 Se h3=>?_) λl er i3 Se h3 e' ya=>?_));rw[sd,h3,Bd] at hI;obtain⟨q1,q2,q3,rfl⟩:=(Xr T q).1 _ _ _ _ (sd.trans (congrArg some h3));have q4:=q3 zo;refine lO 4 (lS (H1:=[]) (F:=(Za sb T i3 Se::([]++Hc))++[(b5,da.cells 217 [str (ug ex),int .u32 (Ym ex),str (jn ex),.list (Ml ex)]),(b,da.cells 217 [str [],int .u32 0,str [],Ea]),(bo,da.cells 264 [.atom (.func (.func fn) first La)]),(bs,da.cells 88 [ptr sb 0]),(bp,da.cells 41 [.list ((yg k).map str)]),(bn,da.cells 4 [bool (decide ((k:Int)=2))])]) rfl (.inl rfl) rfl qb (HSub.Mz (Ab Ig Fc)) (sL (es:=[Va ex,Va e2]) [_,_] rfl (rc rfl rfl (rc rfl rfl Tf)) rfl rfl rfl ?_))
 refine lO 5 (lH rfl rfl (pB _ (cs:=[_,_,_,_]) rfl) ?_);refine lO 6 (lS (H1:=[(b5,da.cells 217 [str (ug ex),int .u32 (Ym ex),str (jn ex),.list (Ml ex)])]) (F:=(Za sb T i3 Se::([]++Hc))++[(b,da.cells 217 [str [],int .u32 0,str [],Ea]),(bo,da.cells 264 [.atom (.func (.func fn) first La)]),(bs,da.cells 88 [ptr sb 0]),(bp,da.cells 41 [.list ((yg k).map str)]),(bn,da.cells 4 [bool (decide ((k:Int)=2))])]) rfl (.inl rfl) rfl yW (HSub.Mz (Ab uc Fc)) (sS (Ya:=[_,_,_,_]) rfl pH rfl rfl rfl rfl rfl ?_));refine Zj ?_;refine cW (H':=(b5,da.cells 217 [str (tA T i2),int .u32 0,str [],.list [Va ex,Va e2]])::Za sb T i3 Se::(b,da.cells 217 [str [],int .u32 0,str [],Ea])::([(bo,da.cells 264 [.atom (.func (.func fn) first La)]),(bs,da.cells 88 [ptr sb 0]),(bp,da.cells 41 [.list ((yg k).map str)]),(bn,da.cells 4 [bool (decide ((k:Int)=2))])]++Hc)) (vX (A:=[(b,da.cells 217 [str [],int .u32 0,str [],Ea]),(bo,da.cells 264 [.atom (.func (.func fn) first La)]),(bs,da.cells 88 [ptr sb 0]),(bp,da.cells 41 [.list ((yg k).map str)]),(bn,da.cells 4 [bool (decide ((k:Int)=2))])])) ?_;refine ja ?_;refine sa (λEm=>?_) λEm=>?_;exact mG;exact qG;exact iU;have iw:(Za sb T (i2+1) ec::(b5,da.cells 217 [str (ug ex),int .u32 (Ym ex),str (jn ex),.list (Ml ex)])::(b,da.cells 217 [str [],int .u32 0,str [],Ea])::([(bo,da.cells 264 [.atom (.func (.func fn) first La)]),(bs,da.cells 88 [ptr sb 0]),(bp,da.cells 41 [.list ((yg k).map str)]),(bn,da.cells 4 [bool (decide ((k:Int)=2))])]++Hc)).Perm ((Za sb T (i2+1) ec::Hc)++[(b5,da.cells 217 [str (ug ex),int .u32 (Ym ex),str (jn ex),.list (Ml ex)]),(b,da.cells 217 [str [],int .u32 0,str [],Ea]),(bo,da.cells 264 [.atom (.func (.func fn) first La)]),(bs,da.cells 88 [ptr sb 0]),(bp,da.cells 41 [.list ((yg k).map str)]),(bn,da.cells 4 [bool (decide ((k:Int)=2))])]):=dm _ (show([(b5,da.cells 217 [str (ug ex),int .u32 (Ym ex),str (jn ex),.list (Ml ex)]),(b,da.cells 217 [str [],int .u32 0,str [],Ea]),(bo,da.cells 264 [.atom (.func (.func fn) first La)]),(bs,da.cells 88 [ptr sb 0]),(bp,da.cells 41 [.list ((yg k).map str)]),(bn,da.cells 4 [bool (decide ((k:Int)=2))])]++Hc).Perm (Hc++[(b5,da.cells 217 [str (ug ex),int .u32 (Ym ex),str (jn ex),.list (Ml ex)]),(b,da.cells 217 [str [],int .u32 0,str [],Ea]),(bo,da.cells 264 [.atom (.func (.func fn) first La)]),(bs,da.cells 88 [ptr sb 0]),(bp,da.cells 41 [.list ((yg k).map str)]),(bn,da.cells 4 [bool (decide ((k:Int)=2))])]) from dd);refine(lS (H1:=Za sb T (i2+1) ec::Hc) (F:=[(b5,da.cells 217 [str (ug ex),int .u32 (Ym ex),str (jn ex),.list (Ml ex)]),(b,da.cells 217 [str [],int .u32 0,str [],Ea]),(bo,da.cells 264 [.atom (.func (.func fn) first La)]),(bs,da.cells 88 [ptr sb 0]),(bp,da.cells 41 [.list ((yg k).map str)]),(bn,da.cells 4 [bool (decide ((k:Int)=2))])]) rfl (.inl rfl) rfl (iw) (Ab Ig Fc) (S.Qk (F:=[]) (Hc:=Hc) rfl pH (hC q zo _ _ _ _ _ _ _ r2 tk zo ho sd) (λe2 i3 Se h3=>?_) λl er i3 Se h3 e' ya=>?_));rw[sd,h3,Bd] at hI;obtain⟨q1,q2,q3,rfl⟩:=(Xr T q).1 _ _ _ _ (sd.trans (congrArg some h3));have q4:=q3 zo;refine lO 1 (lH rfl rfl (pG (Ya:=[_,_,_,_]) rfl (List.mem_append_right _ yb) rfl rfl) ?_);refine lO 4 (lS (H1:=[]) (F:=(Za sb T i3 Se::([]++Hc))++[(b5,da.cells 217 [str (ug ex),int .u32 (Ym ex),str (jn ex),.list (Ml ex)]),(b,da.cells 217 [str [],int .u32 0,str [],Ea]),(bo,da.cells 264 [.atom (.func (.func fn) first La)]),(bs,da.cells 88 [ptr sb 0]),(bp,da.cells 41 [.list ((yg k).map str)]),(bn,da.cells 4 [bool (decide ((k:Int)=2))])]) rfl (.inl rfl) rfl qb (HSub.Mz (Ab Ig Fc)) (sL (es:=[Va ex,Va e2]) [_,_] rfl (rc rfl rfl (rc rfl rfl Tf)) rfl rfl rfl ?_))
 refine lO 5 (lH rfl rfl (pB _ (cs:=[_,_,_,_]) rfl) ?_);refine lO 6 (lS (H1:=[(b5,da.cells 217 [str (ug ex),int .u32 (Ym ex),str (jn ex),.list (Ml ex)])]) (F:=(Za sb T i3 Se::([]++Hc))++[(b,da.cells 217 [str [],int .u32 0,str [],Ea]),(bo,da.cells 264 [.atom (.func (.func fn) first La)]),(bs,da.cells 88 [ptr sb 0]),(bp,da.cells 41 [.list ((yg k).map str)]),(bn,da.cells 4 [bool (decide ((k:Int)=2))])]) rfl (.inl rfl) rfl yW (HSub.Mz (Ab uc Fc)) (sS (Ya:=[_,_,_,_]) rfl pH rfl rfl rfl rfl rfl ?_));refine Zj ?_;refine cW (H':=(b5,da.cells 217 [str (tA T i2),int .u32 0,str [],.list [Va ex,Va e2]])::Za sb T i3 Se::(b,da.cells 217 [str [],int .u32 0,str [],Ea])::([(bo,da.cells 264 [.atom (.func (.func fn) first La)]),(bs,da.cells 88 [ptr sb 0]),(bp,da.cells 41 [.list ((yg k).map str)]),(bn,da.cells 4 [bool (decide ((k:Int)=2))])]++Hc)) (vX (A:=[(b,da.cells 217 [str [],int .u32 0,str [],Ea]),(bo,da.cells 264 [.atom (.func (.func fn) first La)]),(bs,da.cells 88 [ptr sb 0]),(bp,da.cells 41 [.list ((yg k).map str)]),(bn,da.cells 4 [bool (decide ((k:Int)=2))])])) ?_;refine ja ?_;refine sa (λEm=>?_) λEm=>?_;exact mG;exact qG;exact iU;have uk:ie T i2 (yg k)=false:=hc;rw[zn (by rw[uk];decide)] at hI;refine ja ?_;exact rR hj (rC (rA rfl yb rfl fc) rN) (fe (Ab pH (fe Ma))) (by cases hI;exact⟨rfl,rfl⟩);rw[xd,h1,Hf] at hr;refine zg ?_;refine oc.panic (ya.trans rfl) (H':=Za sb T i1 ec::(bo,.cells 264 [.atom (.func (.func fn) first La)])::(bs,.cells 88 [ptr sb 0])::(bp,.cells 41 [.list ((yg k).map str)])::(bn,.cells 4 [bool (decide ((k:Int)=2))])::Hc) ?_ (by cases hr;exact⟨rfl,i1,ec,rfl⟩);exact Ab pH ⟨[(b,_)],dd.trans (by exact List.Perm.refl _ |>.trans (perm_append_singleton _ _).symm)⟩
def Pt(k:Nat):LV:=.list ((yg k).map str)
def OH:List LV:=[Pt 0,Pt 1,Pt 2,Pt 3,Pt 4,Pt 5]
theorem qnC:aa (KC B0 w0) 267 [] [] (gb (.list OH)):=by refine cJ Tryz.func267 (n:=8) ?_;refine Xj ?_;refine oS (sL (es:=[str [124,124]]) [_] rfl (rc rfl rfl Tf) rfl rfl rfl<|oS (sL (es:=[str [38,38]]) [_] rfl (rc rfl rfl Tf) rfl rfl rfl ?_));refine oS (sL (es:=[str [61,61],str [33,61],str [60],str [62],str [60,61],str [62,61]]) [_,_,_,_,_,_] rfl (rc rfl rfl (rc rfl rfl (rc rfl rfl (rc rfl rfl (rc rfl rfl (rc rfl rfl Tf)))))) rfl rfl rfl<|oS (sL (es:=[str [94]]) [_] rfl (rc rfl rfl Tf) rfl rfl rfl ?_));refine oS (sL (es:=[str [43],str [45]]) [_,_] rfl (rc rfl rfl (rc rfl rfl Tf)) rfl rfl rfl<|oS (sL (es:=[str [42],str [47],str [37]]) [_,_,_] rfl (rc rfl rfl (rc rfl rfl (rc rfl rfl Tf))) rfl rfl rfl ?_));refine oS (sL (es:=OH) [_,_,_,_,_,_] rfl (rc rfl rfl (rc rfl rfl (rc rfl rfl (rc rfl rfl (rc rfl rfl (rc rfl rfl Tf)))))) rfl rfl rfl ?_);refine oa ?_;exact Na rfl (rC (rT (v:=.list _) rfl fc) rN) rfl
theorem OQ(sb:Nat)(xa:List LV)(once:Bool)(fn:FuncId)(first La:Array Value):aa (KC B0 w0) 268 [ptr sb 0,.list xa,bool once,.atom (.func (.func fn) first La)] []
  (λr H=>∃ bo bs bp bn:Nat,r=.ret (.atom (.func (.func 285) #[] #[.pointer (some ⟨bo,0,none⟩),.pointer (some ⟨bs,0,none⟩),.pointer (some ⟨bp,0,none⟩),.pointer (some ⟨bn,0,none⟩)])) /\
   H=[(bo,.cells 264 [.atom (.func (.func fn) first La)]),(bs,.cells 88 [ptr sb 0]),(bp,.cells 41 [.list xa]),(bn,.cells 4 [bool once])]):=by
 refine cJ Tryz.func268 (n:=10) ?_;refine Pc ?_;refine oS (sB rfl λbs=>oS (sB rfl λbp=>?_));refine oS (sB rfl λbn=>oS (sB rfl λbo=>?_));refine ja ?_;exact rR rfl (va rfl) (Ab pH (Ab Ig (Ab uc dc))) ⟨bo,bs,bp,bn,rfl,rfl⟩
theorem qks(es:List LV):aa (KC B0 w0) 266 [.list es] [] (λr H=>∃ b:Nat,r=.ret (.atom (.func (.func 284) #[] #[.pointer (some ⟨b,0,none⟩)]))/\H=[(b,.cells 72 [.list es])]):=by refine cJ Tryz.func266 (n:=4) ?_;refine Pc ?_;refine oS (sB rfl λb=>?_);refine ja ?_;exact rR rfl (va rfl) Ma ⟨b,rfl,rfl⟩
def UO(ls:List (List (List UInt8)))(q:Nat):List LV:=[int .i64 ((ls.length:Int)-1-q),.list (((ls[ls.length-1-q]?).getD []).map str)]
theorem qrI(b:Nat)(ls:List (List (List UInt8)))(hl:ls.length<=100000):Ww (KC B0 w0) 284 [ptr b 0] [(b,.cells 72 [.list (ls.map λl=>.list (l.map str))])] ls.length (UO ls):=by
 intro l J hY H0 h0;have Hn:(ls.map λl=>LV.list (l.map str)).length=ls.length:=Ua _;refine cJ Tryz.func284 (n:=19) ?_;refine Ga.perm (H':=(b,.cells 72 [.list (ls.map λl=>.list (l.map str))])::H0) (perm_append_singleton _ _) ?_;refine ja ?_
 refine oL (λk E0 H=>∃ (q:Nat) (Hq:Heap),q<=ls.length/\k=ls.length-q/\E0=[(0,.atom (.func (.yield l) #[] #[])),(1,ptr b 0),(3,int .i64 ((ls.length:Int)-1-q))]/\H=(b,.cells 72 [.list (ls.map λl=>.list (l.map str))])::Hq/\J q Hq)
  ⟨_,_,_,⟨0,H0,zero_le _,rfl,rfl,rfl,h0⟩,⟨rfl,rfl,bf (by simp),trivial⟩,kb _⟩ ?_
 rintro k E0 H ⟨q,Hq,hq,rfl,rfl,rfl,hJ⟩ j hj;refine ja ?_;refine sa (λhc=>?_) λhc=>?_;have wa:q<ls.length:=by have:=zt hc;omega
 have PM:((ls.length:Int)-1-q).toNat=ls.length-1-q:=by omega
 have lr:ls.length-1-q<ls.length:=by omega
 have nr:(ls.map λl=>LV.list (l.map str))[((ls.length:Int)-1-q).toNat]? = some (.list (((ls[ls.length-1-q]?).getD []).map str)):=by rw[PM,List.getElem?_map,dh lr];rfl
 refine oa ?_;refine Ga.Dk ?_;refine za ?_;refine rj.pure (xR (cs:=[_]) rfl rfl zo nr rfl rfl) rfl ?_;refine za ?_;refine rj.yield (H:=(b,.cells 72 [.list (ls.map λl=>.list (l.map str))])::Hq) (args:=[_,_]) rfl rfl (xm.frame (H:=Hq) (F:=[(b,.cells 72 [.list (ls.map λl=>.list (l.map str))])]) (perm_append_singleton _ _).symm (K:=λH'=>∃ H1,H'=H1++[(b,.cells 72 [.list (ls.map λl=>.list (l.map str))])]/\J (q+1) H1) (xm.mono (hY q Hq wa hJ) λH' h=>⟨H',rfl,h⟩)) rfl ?_;rintro H' ⟨H1,rfl,jE⟩;refine za ?_;refine rj.nil ?_;refine qN ?_;refine cW (H':=(b,.cells 72 [.list (ls.map λl=>.list (l.map str))])::H1) ⟨[],by rw[Qb];exact perm_append_singleton _ _⟩ ?_;refine sa (λji=>?_) λji=>?_;cases ji;refine ja ?_;exact⟨_,_,_,by omega,⟨q+1,H1,wa,rfl,rfl,rfl,jE⟩,Qa,kb _,hj⟩;have Fm:q=ls.length:=by have:=zf hc;omega
 subst Fm;refine oa ?_;exact rO hj rN ⟨[],by rw[Qb];exact(perm_append_singleton _ _).symm⟩ ⟨⟨_,rfl⟩,Hq,rfl,hJ⟩
end Go.Proofs.YtjolancjacdeaaaGreatDoor
namespace Go.Proofs.YtjolancjacdeaaaGreatDoor
open Go.GL Go.RowKit Go.Ba
def BH(b:Nat)(l:List UInt8)(H:Heap):Prop:=∃ p v Hv,(p=LV.atom (.pointer none)∨p=ptr b 0)/\Ee 5 v l Hv/\H=(b,.cells 71 [p,.atom v])::Hv
theorem LO:Lays.n240 Tryz.prog Tryz.Vd:={ Tryz.yh with }
section
variable{B0:Nat}{w0:World}
theorem zI(b:Nat)(p v:LV)(hp:p=LV.atom (.pointer none)∨p=ptr b 0):aa (KC B0 w0) 61 [ptr b 0] [(b,.cells 71 [p,v])]
  (λr H'=>(∃ x,r=.ret (.atom x))/\H'=[(b,.cells 71 [ptr b 0,v])]):=λxs w L hv hH=>by
 simp only[na] at hv;obtain⟨y,ys,rfl,hy,rfl⟩:=hv;simp only[Wa] at hy;subst hy;obtain⟨Jd,Rd,hl,zs,tc,zc⟩:=hH.Gb _ (Ll rfl);simp only at Jd Rd hl tc zc;have hz:=zc;simp only[na] at hz;obtain⟨a,QT,rfl,ha,c,PT,rfl,hc,rfl⟩:=hz;rcases hp with rfl|rfl;exact kU;exact xG
attribute [local irreducible] ea Ga Ja aa Go.GL.Pure Bc Tc oc LQ Pa Td Lf
theorem ZC(b:Nat)(l m:List UInt8)(H:Heap)(hB:BH b l H)(fa:l.length+m.length<=10000000000):aa (KC B0 w0) 21 [ptr b 0,str m] H (λr H'=>(∃ x,r=.ret x)/\BH b (l++m) H'):=by obtain⟨p,v,Hv,hp,Ta,rfl⟩:=hB;refine cJ Tryz.func21 (n:=19) ?_;refine fg ?_;refine oS (S.Bb (H1:=[(b,_)]) (F:=Hv) [_] rfl qb (zI b p (.atom v) hp) (λx H' h=>?_) λch H' h=>?_);exact jU;obtain⟨⟨x',Kh⟩,_⟩:=h;cases Kh
end
open Go Go.Shelf Go.RowKit
section
variable{P:Program}{ρ:Ren}
set_option maxHeartbeats 4000000 in
set_option maxRecDepth 100000 in
theorem iR(L:Lays.n169 P ρ)(X:Builder.Extra P ρ)(b g:Nat)(p:Value)(l:List UInt8)(cur:Array Value)(w:World)(NJ:w.heap[b]? = some (.cells #[p,.slice (some ⟨g,0,none⟩) l.length cur.size] (ρ.t 72) (0,0)))
  (hg:w.heap[g]? = some (.cells cur (ρ.t 5) (0,0))) (h0:l≠[]) (hn:l.length<=cur.size) (OJ:l.length<=9223372036854775807) (Sh:∀ (j:Nat) (x:UInt8),l[j]? = some x->cur[j]? = some (.int .u8 x.toNat)) :
  Calls P (ρ.f 169) #[.pointer (some ⟨b,0,none⟩)] w λe w'=>e=.returned (.string ⟨l.toArray⟩)/\w'=w.drew.freeze ⟨g,0,none⟩ l.length:=by
 have Ju:l.length≠0:=by simpa using h0
 have c1:w.drew.cell? ⟨b,1,none⟩=some (.slice (some ⟨g,0,none⟩) l.length cur.size):=by have:w.drew.heap[b]? = some (.cells #[p,.slice (some ⟨g,0,none⟩) l.length cur.size] (ρ.t 72) (0,0)):=NJ;rw[Lib.cell_of_heap this];rfl
 have hSD:(Builtin.unsafeSliceData_ #[(ρ.t 37)] (ρ.t 127) #[.slice (some ⟨g,0,none⟩) l.length cur.size]).run P w.drew=.ok (.pointer (some ⟨g,0,none⟩)) w.drew:=
  Lib.run_unsafeSliceData_row _ _ _ _ _ _ Ia
 have hUS:(Builtin.unsafeString_ #[(ρ.t 127),(ρ.t 3)] (ρ.t 9) #[.pointer (some ⟨g,0,none⟩),.int .i64 l.length]).run P w.drew=.ok (.string ⟨l.toArray⟩) (w.drew.freeze ⟨g,0,none⟩ l.length):=by refine JG ?_;intro j x hx;have Cz:w.drew.heap[g]? = some (.cells cur (ρ.t 5) (0,0)):=hg;have:=Sh j x hx;rw[Go.GL.re];simp[World.cell?,Cz,this]
 have mixed:=L.mixed;have t72:=L.t72;have a72:=L.a72;have z72:=L.z72;have v72:=L.v72;have I3:=run_underlying L.t72;have t70:=L.t70;have a70:=L.a70;have z70:=L.z70;have v70:=L.v70;have J3:=run_underlying L.t70;have t37:=L.t37;have a37:=L.a37;have z37:=L.z37;have v37:=L.v37;have K3:=run_underlying L.t37;have t127:=L.t127;have a127:=L.a127;have z127:=L.z127;have v127:=L.v127;have CN:=run_underlying L.t127;have t3:=L.t3;have a3:=L.a3;have z3:=L.z3;have v3:=L.v3;have u3:=run_underlying L.t3;have t9:=L.t9;have a9:=L.a9;have z9:=L.z9;have v9:=L.v9;have u9:=run_underlying L.t9;have t5:=X.t5;have a5:=X.a5;have z5:=X.z5;have v5:=X.v5;have u5:=run_underlying X.t5
 go_enter L.f169,Body.n169_ntmps ρ
 go_wp2
 go_region_o
 all_goals (go_wp2;go_ret;exact⟨rfl,rfl⟩)
end
open Go.GL Go.Ba
variable{C:Ctx}{F H H' X Y Z:Heap}{R:Lc->Heap->Prop}{e:Env}{n:Nat}{rs:List ResultVar}{vs:List LV}
theorem GH:Lays.n169 Tryz.prog Tryz.Vd:={ Tryz.yh with }
variable{B0:Nat}{w0:World}
theorem GP{w:World}{L:Live}(hH:Ca C w L H){g:Nat}(hm:g∈keys H)(hb:C.B0<=g):Fr (keys H) w L (w.drew.freeze ⟨g,0,none⟩ n) L []/\Ca C (w.drew.freeze ⟨g,0,none⟩ n) L []:=by
 have tw:∀ c,c≠g->(w.drew.freeze ⟨g,0,none⟩ n).heap[c]? = w.heap[c]? := λc hc=>by unfold World.freeze;split;rfl;simp only[Array.getElem?_modify];rw[zn (Ne.symm hc)];rfl
 have ld:(w.drew.freeze ⟨g,0,none⟩ n).heap.size=w.heap.size:=by unfold World.freeze;split;rfl;simp
 have XI:∀ c,(w.drew.freeze ⟨g,0,none⟩ n).shape? c=w.shape? c:=λc=>by by_cases hc:c=g;exact uG;exact Wy (tw c hc)
 have fT:∀ c i,(w.drew.freeze ⟨g,0,none⟩ n).cell? ⟨c,i,none⟩=w.cell? ⟨c,i,none⟩:=λc i=>by by_cases hc:c=g;exact tG;exact cell_of_heap (tw c hc) i
 have Tt:(w.drew.freeze ⟨g,0,none⟩ n).os=w.os/\(w.drew.freeze ⟨g,0,none⟩ n).tape=w.tape/\(w.drew.freeze ⟨g,0,none⟩ n).output=w.output:=by unfold World.freeze;split <;> exact⟨rfl,rfl,rfl⟩
 exact⟨⟨Tt.1,Tt.2.1,Tt.2.2,⟨Nat.le_of_eq ld.symm,λc _=>XI c,λc i _=>fT c i,λ_=>mc _⟩,λc _ hc=>tw c λh=>hc (h▸hm),λ_ _ _=>rfl,by simp⟩,
  ⟨hH.base.trans ⟨Tt.1,Tt.2.1,Tt.2.2,Nat.le_of_eq ld.symm,λc hc=>tw c zo⟩,hH.ng,by rw[ld];exact hH.b0,λc hc=>hH.wf c (by rw[ld] at hc;exact hc),List.nodup_nil,by simp⟩⟩
theorem FF(b:Nat)(l:List UInt8)(H:Heap)(hB:BH b l H)(fa:l.length<=10000000000):aa (KC B0 w0) 23 [ptr b 0] H (gb (str l)):=λxs w L hv hH=>by
 obtain⟨p,v,Hv,hp,Ta,rfl⟩:=hB;simp only[na] at hv;obtain⟨y,ys,rfl,hy,rfl⟩:=hv;simp only[Wa] at hy;subst hy;obtain⟨Jd,Rd,hl,zs,tc,zc⟩:=hH.Gb _ rf;simp only at Jd Rd hl tc zc;simp only[na] at zc;obtain⟨a,QT,rfl,ha,c,PT,rfl,hc,rfl⟩:=zc;simp only[Wa] at hc;subst hc;cases Ta with
 |nil=>
  refine(Any.Builder_String_nil (P:=Tryz.prog) GH Tryz.ub w.heap.size b a w tc).mono λe w' he=>?_;obtain⟨rfl,hb⟩:=he;obtain⟨h1,h2⟩:=QH (hH.sub (List.nil_sublist _)) hb
  exact⟨str [],[],L,h1.wide (by simp),h2,xc,rfl,rfl⟩
 |row h0 h1 h2=>
  rename_i g xs;obtain⟨VD,CJ,VS,ws,Gu,KR⟩:=hH.Gb _ (Sc _ (Ll rfl));simp only at VD CJ VS Gu;have:=aD KR;subst this;have Sh:∀ (j:Nat) (x:UInt8),l[j]? = some x->ws.toArray[j]? = some (Value.int .u8 x.toNat):=λj x hx=>by
   have hj:(Jb l)[j]? = some (Value.int .u8 x.toNat):=by simp[Jb,hx]
   rw[<-h2,List.getElem?_take] at hj;split at hj;simpa using hj;cases hj
  refine(iR (P:=Tryz.prog) GH Tryz.ub b g a l ws.toArray w tc Gu h0 (by simpa using h1) zo Sh).mono λe w' he=>?_;obtain⟨rfl,rfl⟩:=he;obtain⟨f1,f2⟩:=GP (n:=l.length) hH (g:=g) (by simp) VD;exact⟨str l,[],L,f1,f2,xc,rfl,rfl⟩
attribute [local irreducible] ea Ga Ja aa Go.GL.Pure Bc Tc oc LQ Pa Td Lf qf rj oo Ww xm
def Qv:List (List (List UInt8)):=[yg 0,yg 1,yg 2,yg 3,yg 4,yg 5]
theorem nV(q:Nat)(h:q<6):UO Qv q=[int .i64 (((5-q:Nat):Int)),.list ((yg (5-q)).map str)]:=by
 have:q=0∨q=1∨q=2∨q=3∨q=4∨q=5:=by omega
 rcases this with rfl|rfl|rfl|rfl|rfl|rfl <;> rfl
theorem oo.EI{D:Nat}(hd:e.ds=[{ target:=.collected D,args:=#[] }])(F:Heap)(hp:H.Perm ((D,.obj (.deferred (some [])))::F))(h:Eh C n e F rs vs)(hH:HSub H' F)(hR:R (.ret (Ge vs)) H') :
  oo C n rs R .ret e H:=by
 unfold oo;exact⟨D,F,hd,hp,vs,H',h,hH,hR⟩
theorem oo.Zy{ch:List PanicEntry}{D:Nat}(hd:e.ds=[{ target:=.collected D,args:=#[] }])(F:Heap)(hp:H.Perm ((D,.obj (.deferred (some [])))::F))(hH:HSub H' F)(hR:R (.panic ch) H') :
  oo C n rs R (.panic ch) e H:=by
 unfold oo;exact .inr ⟨D,F,hd,hp,H',hH,hR⟩
theorem PC(sb:Nat)(T:List Tok)(f:Nat)(hC:Rz B0 w0 sb T f):Fy B0 w0 sb T f:=by
 intro i op r hi ho hr;refine aa.zD Tryz.func241 rfl (n:=20) rfl rfl rfl ?_;refine Pc ?_;refine oS (sB rfl λb1=>oS (yc λb2=>?_));refine ja ?_;refine oS (yc λb3=>?_);refine ja ?_;refine oS (sF [] rfl qnC<|oS (S.Ef [_] rfl (qks OH) (λv H' h=>?_) λch H' h=>?_))
 ·obtain⟨bB,h,rfl⟩:=h;cases h;refine oa ?_;have GJ:∀ (first La:Array Value) (fn:FuncId) (Cl F:Heap),Qu sb 0 fn first La Cl->fb Tryz.prog fn:=λ_ _ _ _ _ h=>h.enter
  refine Ga.rangeFunc (g:=.tmp 9) (ps:=[10,11]) (La:=#[.pointer (some ⟨bB,0,none⟩)]) (by rfl) Qv.length (UO Qv)
   [(b3,.cells 264 [.atom (.func (.func 265) #[.pointer (some ⟨sb,0,none⟩)] #[])]),(b2,.cells 217 [str [],int .u32 0,str [],Ea]),(b1,.cells 88 [ptr sb 0]),Za sb T i op] [(bB,.cells 72 [.list OH])]
   (perm_append_singleton _ _).symm (qrI bB Qv ra) (λk hk=>by rw[nV k hk];rfl) (by rfl)
   (λq Hq=>∃ (fn:FuncId) (first La:Array Value) (Cl:Heap),Qu sb (6-q) fn first La Cl/\Hq=(b3,.cells 264 [.atom (.func (.func fn) first La)])::(b2,.cells 217 [str [],int .u32 0,str [],Ea])::(b1,.cells 88 [ptr sb 0])::Za sb T i op::Cl)
   ⟨_,_,_,[],.un,rfl⟩ ?_ ?_
  rintro q Hq hq ⟨fn,first,La,Cl,tk,rfl⟩ j wJ TD l D o oD;have gS:q<6:=hq;have Pb:j.s 1=ptr b1 0:=TD 1 _ rfl;have qi:j.s 3=ptr b3 0:=TD 3 _ rfl;rw[nV q gS,<-Env.wc (e:=j) (l:=[(1,ptr b1 0),(3,ptr b3 0)]) (by
   intro p hp;simp only[Mc,not_mem_nil,or_false] at hp;rcases hp with rfl|rfl;exact Pb;exact qi)]
  refine qf.seq ?_;refine qf.region rfl ?_;refine fj ?_;refine qf.region rfl ?_;refine oa ?_;refine⟨wJ,_,rfl,λo'=>?_⟩;refine qf.block ?_;refine xo ?_;refine oS (S.Ef [_,_,_,_] rfl (OQ sb ((yg (5-q)).map str) (decide (((5-q:Nat):Int)=2)) fn first La) (λv H' h=>?_) λch H' h=>?_);obtain⟨bo,bs,bp,bn,h,rfl⟩:=h;cases h;refine za ?_
  refine⟨(b3,.cells 264 [.atom (.func (.func 285) #[] #[.pointer (some ⟨bo,0,none⟩),.pointer (some ⟨bs,0,none⟩),.pointer (some ⟨bp,0,none⟩),.pointer (some ⟨bn,0,none⟩)])])::(b2,.cells 217 [str [],int .u32 0,str [],Ea])::(b1,.cells 88 [ptr sb 0])::Za sb T i op ::
   (bo,.cells 264 [.atom (.func (.func fn) first La)])::(bs,.cells 88 [ptr sb 0])::(bp,.cells 41 [.list ((yg (5-q)).map str)])::(bn,.cells 4 [bool (decide (((5-q:Nat):Int)=2))])::Cl,?_,_,_,_,_,?_,rfl⟩
  exact Ab lN (Ab lN (Ab pH (Ab EE (Ab EE (Ab EE Ma)))));have e1:6-(q+1)=5-q:=by omega
  have e2:6-q=5-q+1:=by omega
  rw[e1];rw[e2] at tk;exact .bin tk;obtain⟨_,_,_,_,h,_⟩:=h;cases h;rintro D H' ⟨fn,first,La,Cl,tk,rfl⟩;have AB:Qu sb 0 fn first La Cl:=tk
  have zB:=GJ _ _ _ _ [] AB;refine oa ?_;refine cW (H':=(D,.obj (.deferred (some [])))::(b3,.cells 264 [.atom (.func (.func fn) first La)])::(b2,.cells 217 [str [],int .u32 0,str [],Ea])::(b1,.cells 88 [ptr sb 0])::Za sb T i op::Cl) ⟨[(bB,.cells 72 [.list OH])],List.Perm.refl _⟩ ?_;refine ja ?_;refine oS (S.Qk (F:=[(D,.obj (.deferred (some []))),(b3,.cells 264 [.atom (.func (.func fn) first La)]),(b2,.cells 217 [str [],int .u32 0,str [],Ea]),(b1,.cells 88 [ptr sb 0])]) (Hc:=Cl) rfl EE (hC _ _ _ _ _ _ _ r AB hi ho hr) (λv i1 ec h1=>?_) λl er i1 ec h1 e' ya=>?_);refine za ?_;exact oo.EI rfl _ Ig (rC (rA rfl yb rfl fc) rN) (Ab uc Fc) (by rw[h1];exact⟨rfl,rfl⟩);refine zg ?_;refine oo.Zy (ya.trans rfl) (Za sb T i1 ec::(Cl++[(b3,.cells 264 [.atom (.func (.func fn) first La)]),(b2,.cells 217 [str [],int .u32 0,str [],Ea]),(b1,.cells 88 [ptr sb 0])])) ?_ dc (by rw[h1];exact⟨rfl,i1,ec,rfl⟩);exact(dm _ List.perm_middle).trans (Km _ _ _)
 obtain⟨bB,h,_⟩:=h;cases h
theorem YO(hG:GW B0 w0)(sb:Nat)(T:List Tok)(hT:Vn T):∀ f:Nat,Rz B0 w0 sb T f/\Fy B0 w0 sb T f:=by
 intro f;induction f using Nat.strongRecOn with
 |_ f ih=>
  have hC:Rz B0 w0 sb T f:=by
   intro k fn first La Hc i op r tk hi ho hr
   cases tk with
   |un=>
    obtain⟨f,rfl⟩:∃ g,f=g+1:=by
     cases f with
     |zero=>rw[Ue] at hr;cases hr
     |succ g=>exact⟨g,rfl⟩
    rw[Ue,zp rfl] at hr;refine aa.mono (qpE hG sb T hT f (λg hg=>(ih g zo).2) i op r hi ho hr) ?_;intro r' H h
    cases r with
    |ok v i' Da=>exact h
    |err l e=>exact h
   |bin h=>exact J8 hG sb T hT f (λg hg=>(ih g hg).1) _ _ _ _ _ _ _ _ _ h i op r hi ho hr
  exact⟨hC,PC sb T f hC⟩
def WU(l:List Sm):LV:=.list (l.map Hb)
def mO(B0:Nat)(w0:World)(sb:Nat)(T:List Tok)(f:Nat):Prop:=
 ∀ i op r,i<=T.length->op<=100->sv T f i op=some r->aa (KC B0 w0) 242 [ptr sb 0] [Za sb T i op] (fk sb T WU r)
def bO(B0:Nat)(w0:World)(sb:Nat)(T:List Tok)(f:Nat):Prop:=
 ∀ i op r,i<=T.length->op<=100->Et T f [] i op=some r->aa (KC B0 w0) 150 [ptr sb 0] [Za sb T i op] (fk sb T WU r)
def RN(B0:Nat)(w0:World)(sb:Nat)(T:List Tok)(f:Nat):Prop:=
 ∀ i op r,i<=T.length->op<=100->Ey T f i op=some r->aa (KC B0 w0) 209 [ptr sb 0] [Za sb T i op] (fk sb T Hb r)
def RO(B0:Nat)(w0:World)(sb:Nat)(T:List Tok)(f:Nat):Prop:=
 ∀ i op r,i<=T.length->op<=100->Qy T f i op=some r->aa (KC B0 w0) 243 [ptr sb 0] [Za sb T i op] (fk sb T Hb r)
theorem XL(sb:Nat)(T:List Tok)(hT:Vn T)(f:Nat)(hS:bO B0 w0 sb T f):mO B0 w0 sb T (f+1):=by intro i op r hi ho hr;have hl:=hT.len;rw[sv] at hr;refine cJ Tryz.func242 (n:=11) ?_;refine fg ?_;refine oS (sP [_,_] rfl pH (Xy sb T i op [123] hl zo zo) (λv i1 ec h1=>?_) λl er i1 ec h1 e9 Ng=>?_);rotate_left;exact Ox;rw[h1,Bd] at hr;obtain⟨rfl,rfl,gr,Ax⟩:=Jq h1;refine qg ?_;obtain⟨r1,xd⟩:=Zh hr;refine oS (sP [_] rfl pH (hS _ _ r1 zo zo xd) (λl i2 Ye h2=>?_) λl er i2 Ye h2 e9 Ng=>?_);rotate_left;rw[xd,h2,Hf] at hr;refine Rc ?_;exact Yb Ak (by cases hr;rfl) dc;rw[xd,h2,Bd] at hr;obtain⟨g1,_,g3,rfl⟩:=(xC T f).2.1 _ _ _ _ (xd.trans (congrArg some h2));have g4:=g3 zo;refine ia ?_;refine oS (sP [_,_] rfl pH (GC sb T i2 (op+1) [125] hl zo zo zo) (λu i3 Se h3=>?_) λl er i3 Se h3 e9 Ng=>?_);rotate_left;exact Nx;rw[h3,Bd] at hr;refine ia ?_;exact ue (v:=l) rfl (rC (rT (v:=.list _) rfl fc) rN) (by cases hr;rfl) rfl Ma
theorem vI(sb:Nat)(T:List Tok)(hT:Vn T)(f:Nat)(hS:∀ g,g<f->RN B0 w0 sb T g):bO B0 w0 sb T f:=by
 intro i op r hi ho hr;have hl:=hT.len;refine cJ Tryz.func150 (n:=14) ?_;refine ia ?_;refine oL (λk ls H=>∃ (v:LV) (l:List Sm) (i2:Nat) (Ha:Heap),k<=f/\ls=[(0,ptr sb 0),(3,v)]/\H=Za sb T i2 op::Ha/\Acc 6 v (l.map Hb) Ha []/\i2<=T.length/\l.length<=i2+1/\Et T k l i2 op=some r)
  ⟨f,_,Za sb T i op::[],⟨Ea,[],i,_,mc _,rfl,rfl,Acc.nil,by omega,by simp,hr⟩,Qa,kb _⟩ ?_
 rintro k ls H ⟨v,l,i2,Ha,KS,rfl,rfl,Ta,Cp,vx,hI⟩ j hj;obtain⟨k,rfl⟩:∃ k',k=k'+1:=by
  cases k with
  |zero=>rw[Et] at hI;cases hI
  |succ k=>exact⟨k,rfl⟩
 rw[Et] at hI;refine Dc ?_;refine fh ?_;refine oS (sH [_,_] rfl pH (To sb T i2 op [[125]] hl zo (by simp)) ?_);refine za ?_;refine sa (λhc=>?_) λhc=>?_
 ·have uk:ie T i2 [[125]]=false:=by simpa using hc
  rw[zn (by rw[uk];decide)] at hI;refine Af ?_;refine eh ?_;refine Dg ?_;obtain⟨r2,sd⟩:=Zh hI;refine oS (sP [_] rfl pH (hS k zo _ _ r2 zo zo sd) (λe2 i4 Rj h4=>?_) λl er i4 Rj h4 e9 Ng=>?_);rotate_left;rw[sd,h4,Hf] at hI;refine Rc ?_;exact Yb Ak (by cases hI;rfl) dc;rw[sd,h4,Bd] at hI;obtain⟨g1,g2,g3,rfl⟩:=(xC T k).2.2.1 _ _ _ (sd.trans (congrArg some h4));have g5:=g3 zo;have g6:=g2 rfl;refine fh ?_;refine oS (S.Cr rfl Ta rfl (by simp;rfl) rfl (by simp;omega) λv' H' Ra=>?_);refine Wh ?_;refine oa ?_;exact⟨k,_,_,by omega,⟨v',l++[e2],i4,H',by omega,rfl,rfl,by rw[Od];exact Ra,by omega,by simp;omega,hI⟩,Qa,kb _,hj⟩
 have uk:ie T i2 [[125]]=true:=by simpa using hc
 rw[zp uk] at hI;refine ia ?_;refine Uu ?_;exact ue (v:=l) hj (rC (rT (v:=v) rfl Ta.sub) rN) (by cases hI;rfl) rfl dc
theorem E5(s:List UInt8)(l:List Ex):Hb (.mk 6 [] [] [.mk Ek 0 s l] [] [])=.agg [int .i64 6,str [],.list [],.list [.agg [str Ek,int .u32 0,str s,.list (l.map Va)]],.list [],.list []]:=by rw[Iq,Tb,Av];rfl
theorem qmR(sb:Nat)(T:List Tok)(hT:Vn T)(f:Nat)(hE:∀ g,g<=f->Fy B0 w0 sb T g):RO B0 w0 sb T (f+1):=by
 intro i op r hi ho hr;have hl:=hT.len;obtain⟨gL,_,_,_,gI,gA,_⟩:=Xr T f;rw[Qy] at hr;refine cJ Tryz.func243 (n:=46) ?_;refine Pc ?_;refine oS (yc λb2=>?_);refine ia ?_;refine oS (sH [_,_] rfl uc (px sb T i op YW hl zo) ?_);refine fj ?_;refine sa (λhc=>?_) λhc=>?_
 ·have wa:=Yh hc;rw[zp hc] at hr;simp only[hc,if_true];refine Dc ?_;obtain⟨r1,xd⟩:=Zh hr;refine oS (sP [_] rfl pH (hE f zo _ _ r1 zo zo xd) (λv i1 ec h1=>?_) λl er i1 ec h1 e9 Ng=>?_);rotate_left;exact Px;rw[xd,h1,Bd] at hr;refine fh ?_;refine za ?_;exact ue (v:=.mk 5 [] [] [v] [] []) rfl (rC (rA (k:=6) rfl yb rfl (vA (bs:=[_,_,.list [],_,.list [],.list []]) ⟨vR _,vR _,vN,vR _,vN,vN,trivial⟩)) rN) (by cases hr;rfl) (by rw[Iq];rfl) (Ab uc Fc)
 rw[zn (by rw[hc];decide)] at hr;simp only[hc,Vh,if_false];refine Dc ?_;refine oS (sH [_,_] rfl pH (px sb T i op gV hl zo) ?_);refine fj ?_;refine sa (λTh=>?_) λTh=>?_;have wa:=Yh Th;rw[zp Th] at hr;simp only[Th,if_true];refine ja ?_;exact ue (v:=.mk 7 [] [] [] [] []) rfl (rC (rA (k:=6) rfl yb rfl (vA (bs:=[_,_,.list [],.list [],.list [],.list []]) ⟨vR _,vR _,vN,vN,vN,vN,trivial⟩)) rN) (by cases hr;rfl) (by rw[Iq];rfl) (Ab uc Fc);rw[zn (by rw[Th];decide)] at hr;simp only[Th,Vh,if_false];refine ia ?_;refine oS (sP [_,_] rfl pH (Qj sb T i op 2 hl zo) (λs i1 ec h1=>?_) λl er i1 ec h1 e9 Ng=>?_);rotate_left;exact Ox;rw[h1,Bd] at hr;obtain⟨rfl,rfl,t,ht,_,_⟩:=Ry h1;have:=tC ht;refine ja ?_;refine oS (yc λb4=>?_);refine ja ?_;refine fh ?_;refine oS (sH [_,_] rfl uc (To sb T (i+1) ec [[40]] hl zo (by simp)) ?_);refine fj ?_;refine sa (λiT=>?_) λiT=>?_
 ·rw[zp iT] at hr;refine Dc ?_;obtain⟨r1,xd⟩:=Zh hr;refine oS (sP [_] rfl pH (jY sb T hT f (λg hg=>hE g zo) (i+1) ec r1 zo zo xd) (λl i2 Ye h2=>?_) λl er i2 Ye h2 e9 Ng=>?_);rotate_left;rw[xd,h2,Hf] at hr;refine Rc ?_;exact Yb Ak (by cases hr;rfl) dc;rw[xd,h2,Bd] at hr;refine za ?_;refine fh ?_;refine za ?_;exact ue (v:=.mk 6 [] [] [.mk Ek 0 s l] [] []) rfl (rC (rA (k:=6) rfl yb rfl (vA (bs:=[_,_,.list [],_,.list [],.list []]) ⟨vR _,vR _,vN,vR _,vN,vN,trivial⟩)) rN) (by cases hr;rfl) (by rw[E5];rfl) (Ab uc Fc)
 rw[zn (by rw[iT];decide)] at hr;refine Dc ?_;refine fh ?_;refine oS (sH [_,_] rfl pH (To sb T (i+1) ec [[91]] hl zo (by simp)) ?_);refine fj ?_;refine sa (λgT=>?_) λgT=>?_
 ·rw[zp gT] at hr;refine Dc ?_;obtain⟨r1,xd⟩:=Zh hr;refine oS (sP [_] rfl pH (bZ sb T hT f (λg hg=>hE g zo) (i+1) ec r1 zo zo xd) (λx i2 Ye h2=>?_) λl er i2 Ye h2 e9 Ng=>?_);rotate_left;rw[xd,h2,Hf] at hr;refine Rc ?_;exact Yb Ak (by cases hr;rfl) dc;rw[xd,h2,Bd] at hr;obtain⟨q1,q2,q3,rfl⟩:=gI _ _ _ (xd.trans (congrArg some h2));have q4:=q3 zo;refine fh ?_;refine ja ?_;refine oS (sP [_,_] rfl uc (NC sb T i2 Ye [61] hl zo) (λu i3 Se h3=>?_) λl er i3 Se h3 e9 Ng=>?_);rotate_left;exact Nx;rw[h3,Bd] at hr;have wB:=Bs T [61] i2 Ye;rw[h3] at wB;obtain⟨k1,k2,k3,rfl⟩:=wB;have k4:=k3 q4;refine qg ?_;obtain⟨r2,sd⟩:=Zh hr;refine oS (sP [_] rfl pH (hE f zo _ _ r2 zo zo sd) (λv i4 Rj h4=>?_) λl er i4 Rj h4 e9 Ng=>?_);rotate_left;rw[sd,h4,Hf] at hr;refine Rc ?_;exact Yb Ak (by cases hr;rfl) dc;rw[sd,h4,Bd] at hr;refine fh ?_;refine ja ?_;exact ue (v:=.mk 2 s [x] [v] [] []) rfl (rC (rA (k:=6) rfl yb rfl (vA (bs:=[_,_,_,_,.list [],.list []]) ⟨vR _,vR _,vR _,vR _,vN,vN,trivial⟩)) rN) (by cases hr;rfl) (by rw[Iq];rfl) (Ab Ig Fc)
 rw[zn (by rw[gT];decide)] at hr;refine ia ?_;refine oS (sP [_,_] rfl pH (NC sb T (i+1) ec [61] hl zo) (λu i3 Se h3=>?_) λl er i3 Se h3 e9 Ng=>?_);rotate_left;exact Nx;rw[h3,Bd] at hr;have wB:=Bs T [61] (i+1) ec;rw[h3] at wB;obtain⟨k1,k2,k3,rfl⟩:=wB;have k4:=k3 zo;refine qg ?_;obtain⟨r2,sd⟩:=Zh hr;refine oS (sP [_] rfl pH (hE f zo _ _ r2 zo zo sd) (λv i4 Rj h4=>?_) λl er i4 Rj h4 e9 Ng=>?_);rotate_left;rw[sd,h4,Hf] at hr;refine Rc ?_;exact Yb Ak (by cases hr;rfl) dc;rw[sd,h4,Bd] at hr;refine fh ?_;refine ja ?_;exact ue (v:=.mk 1 s [] [v] [] []) rfl (rC (rA (k:=6) rfl yb rfl (vA (bs:=[_,_,.list [],_,.list [],.list []]) ⟨vR _,vR _,vN,vR _,vN,vN,trivial⟩)) rN) (by cases hr;rfl) (by rw[Iq];rfl) (Ab Ig Fc)
theorem RL(sb:Nat)(T:List Tok)(hT:Vn T)(f:Nat)(hE:∀ g,g<=f->Fy B0 w0 sb T g)(hB:mO B0 w0 sb T f)(hM:RO B0 w0 sb T f):RN B0 w0 sb T (f+1):=by
 intro i op r hi ho hr;have hl:=hT.len;obtain⟨gL,_,_,_,gI,gA,_⟩:=Xr T f;obtain⟨kB,kL,kS,kM⟩:=xC T f;rw[Ey] at hr;refine cJ Tryz.func209 (n:=38) ?_;refine Pc ?_;refine oS (yc λb2=>?_);refine ia ?_;refine oS (sH [_,_] rfl uc (px sb T i op II hl zo) ?_);refine fj ?_;refine sa (λhc=>?_) λhc=>?_
 ·have wa:=Yh hc;rw[zp hc] at hr;simp only[hc,if_true];refine Dc ?_;obtain⟨r1,xd⟩:=Zh hr;refine oS (sP [_] rfl pH (hE f zo _ _ r1 zo zo xd) (λv i1 ec h1=>?_) λl er i1 ec h1 e9 Ng=>?_);rotate_left;exact Px;rw[xd,h1,Bd] at hr;obtain⟨g1,g2,g3,rfl⟩:=gL 0 _ _ _ (xd.trans (congrArg some h1));have g4:=g3 zo;refine fh ?_;refine za ?_;refine oS (yc λb3=>?_);refine ja ?_;obtain⟨r2,sd⟩:=Zh hr;refine oS (sP [_] rfl uc (hB _ _ r2 zo zo sd) (λth i2 Ye h2=>?_) λl er i2 Ye h2 e9 Ng=>?_);rotate_left;rw[sd,h2,Hf] at hr;refine Rc ?_;exact Yb Ak (by cases hr;rfl) dc;rw[sd,h2,Bd] at hr;obtain⟨q1,q2,q3,rfl⟩:=kB _ _ _ (sd.trans (congrArg some h2));have q4:=q3 zo;refine ja ?_;refine oS (sH [_,_] rfl uc (px sb T i2 Ye qV hl zo) ?_);refine ig ?_;refine sa (λTh=>?_) λTh=>?_
  ·have lr:=Yh Th;rw[zp Th] at hr;simp only[Th,if_true];refine Dc ?_;obtain⟨r3,gw⟩:=Zh hr;refine oS (sP [_] rfl pH (hB _ _ r3 zo zo gw) (λel i3 Se h3=>?_) λl er i3 Se h3 e9 Ng=>?_);rotate_left;rw[gw,h3,Hf] at hr;refine Rc ?_;exact Yb Ak (by cases hr;rfl) dc;rw[gw,h3,Bd] at hr;refine ja ?_;exact ue (v:=.mk 3 [] [] [v] th el) rfl (rC (rA (k:=6) rfl yb rfl (vA (bs:=[_,_,.list [],_,_,_]) ⟨vR _,vR _,vN,vR _,vR _,vR _,trivial⟩)) rN) (by cases hr;rfl) (by rw[Iq];rfl) (Ab Ig Fc)
  rw[zn (by rw[Th];decide)] at hr;simp only[Th,Vh,if_false];refine ja ?_;exact ue (v:=.mk 3 [] [] [v] th []) rfl (rC (rA (k:=6) rfl yb rfl (vA (bs:=[_,_,.list [],_,_,.list []]) ⟨vR _,vR _,vN,vR _,vR _,vN,trivial⟩)) rN) (by cases hr;rfl) (by rw[Iq];rfl) (Ab uc Fc)
 rw[zn (by rw[hc];decide)] at hr;simp only[hc,Vh,if_false];refine Dc ?_;refine oS (sH [_,_] rfl pH (px sb T i op QV hl zo) ?_);refine fj ?_;refine sa (λTh=>?_) λTh=>?_
 ·have wa:=Yh Th;rw[zp Th] at hr;simp only[Th,if_true];refine Dc ?_;obtain⟨r1,xd⟩:=Zh hr;refine oS (sP [_] rfl pH (hE f zo _ _ r1 zo zo xd) (λv i1 ec h1=>?_) λl er i1 ec h1 e9 Ng=>?_);rotate_left;exact Px;rw[xd,h1,Bd] at hr;obtain⟨g1,g2,g3,rfl⟩:=gL 0 _ _ _ (xd.trans (congrArg some h1));have g4:=g3 zo;refine fh ?_;refine za ?_;refine oS (yc λb3=>?_);refine ja ?_;obtain⟨r2,sd⟩:=Zh hr;refine oS (sP [_] rfl uc (hB _ _ r2 zo zo sd) (λth i2 Ye h2=>?_) λl er i2 Ye h2 e9 Ng=>?_);rotate_left;rw[sd,h2,Hf] at hr;refine Rc ?_;exact Yb Ak (by cases hr;rfl) dc;rw[sd,h2,Bd] at hr;refine ja ?_;exact ue (v:=.mk 4 [] [] [v] th []) rfl (rC (rA (k:=6) rfl yb rfl (vA (bs:=[_,_,.list [],_,_,.list []]) ⟨vR _,vR _,vN,vR _,vR _,vN,trivial⟩)) rN) (by cases hr;rfl) (by rw[Iq];rfl) (Ab Ig Fc)
 rw[zn (by rw[Th];decide)] at hr;simp only[Th,Vh,if_false];refine ia ?_;obtain⟨r1,xd⟩:=Zh hr;refine oS (sP [_] rfl pH (hM _ _ r1 zo zo xd) (λv i1 ec h1=>?_) λl er i1 ec h1 e9 Ng=>?_);rotate_left;exact Px;rw[xd,h1,Bd] at hr;obtain⟨g1,g2,g3,rfl⟩:=kM _ _ _ (xd.trans (congrArg some h1));have g4:=g3 zo;refine oS (yc λb5=>?_);refine ja ?_;refine oS (sP [_,_] rfl uc (NC sb T i1 ec [59] hl zo) (λu i2 Ye h2=>?_) λl er i2 Ye h2 e9 Ng=>?_);rotate_left;rw[h2,Hf] at hr;refine Rc ?_;exact Yb Ak (by cases hr;rfl) dc;rw[h2,Bd] at hr;refine ja ?_;exact ue (v:=v) rfl (rC (rA rfl yb rfl fc) rN) (by cases hr;rfl) rfl (Ab uc Fc)
theorem B4(hG:GW B0 w0)(sb:Nat)(T:List Tok)(hT:Vn T):∀ f:Nat,mO B0 w0 sb T f/\bO B0 w0 sb T f/\RN B0 w0 sb T f/\RO B0 w0 sb T f:=by
 intro f;induction f using Nat.strongRecOn with
 |_ f ih=>
  have hE:=λg=>(YO (B0:=B0) (w0:=w0) hG sb T hT g).2
  cases f with
  |zero=>refine⟨?_,vI sb T hT 0 (λg hg=>by omega),?_,?_⟩;intro i op r _ _ hr;rw[sv] at hr;cases hr;intro i op r _ _ hr;rw[Ey] at hr;cases hr;intro i op r _ _ hr;rw[Qy] at hr;cases hr
  |succ f=>have h:=ih f zo;exact⟨XL sb T hT f h.2.1,vI sb T hT _ λg hg=>(ih g hg).2.2.1,RL sb T hT f (λg _=>hE g) h.1 h.2.2.2,qmR sb T hT f λg _=>hE g⟩
theorem LZ(T:List Tok):∀ (f:Nat) (acc:List (List UInt8)) (i op:Nat) (l:List (List UInt8)) (i' Da:Nat),Bu T f acc i op=some (.ok l i' Da)->l.length+i<=acc.length+i'
 |0,_,_,_,_,_,_,h=>by rw[Bu] at h;cases h
 |f+1,acc,i,op,l,i',Da,h=>by rw[Bu] at h;split at h;rcases cl h with⟨s,i1,ec,h1,h2⟩|⟨l,e,_,hh⟩;injection h1 with h1;obtain⟨rfl,rfl,_⟩:=Ry h1;have:=LZ T f _ _ _ _ _ _ h2;rw[ua,length_singleton] at this;omega;cases hh;cases h;omega
theorem WX{T:List Tok}{f i op:Nat}{l:List (List UInt8)}{i' Da:Nat}(h:kA T f i op=some (.ok l i' Da)):l.length+i<=i':=by unfold kA at h;rcases cl h with⟨s,i1,ec,h1,h2⟩|⟨l,e,_,hh⟩;injection h1 with h1;obtain⟨rfl,rfl,_⟩:=Ry h1;have:=LZ T f _ _ _ _ _ _ h2;rw[length_singleton] at this;omega;cases hh
theorem nP(T:List Tok):∀ (f:Nat) (acc:List (List UInt8)) (i op:Nat) (l:List (List UInt8)) (i' Da:Nat),yq T f acc i op=some (.ok l i' Da)->l.length+i<=acc.length+i'
 |0,_,_,_,_,_,_,h=>by rw[yq] at h;cases h
 |f+1,acc,i,op,l,i',Da,h=>by rw[yq] at h;split at h;rcases cl h with⟨s,i1,ec,h1,h2⟩|⟨l,e,_,hh⟩;have:=WX h1;rcases cl h2 with⟨u,i2,Ye,h3,h4⟩|⟨l,e,_,hh⟩;injection h3 with h3;have hg:=Bs T [59] i1 ec;rw[h3] at hg;have hv:=nP T f _ _ _ _ _ _ h4;have:=hg.1;rw[ua] at hv;omega;cases hh;cases hh;cases h;omega
theorem NP(sb:Nat)(T:List Tok)(hT:Vn T)(f i op:Nat)(r:vh (List (List UInt8)))(hi:i<=T.length)(hr:yq T f [] i op=some r) :
  aa (KC B0 w0) 69 [ptr sb 0] [Za sb T i op] (fk sb T CW r):=by
 have hl:=hT.len;refine cJ Tryz.func69 (n:=13) ?_;refine ia ?_;refine oL (λk ls H=>∃ (v:LV) (l:List (List UInt8)) (i2:Nat) (Ha:Heap),k<=f/\ls=[(0,ptr sb 0),(3,v)]/\H=Za sb T i2 op::Ha/\Acc 1 v (l.map str) Ha []/\i2<=T.length/\l.length<=i2/\yq T k l i2 op=some r)
  ⟨f,_,Za sb T i op::[],⟨Ea,[],i,_,mc _,rfl,rfl,Acc.nil,by omega,by simp,hr⟩,Qa,kb _⟩ ?_
 rintro k ls H ⟨v,l,i2,Ha,KS,rfl,rfl,Ta,Cp,vx,hI⟩ j hj;obtain⟨k,rfl⟩:∃ k',k=k'+1:=by
  cases k with
  |zero=>rw[yq] at hI;cases hI
  |succ k=>exact⟨k,rfl⟩
 rw[yq] at hI;refine Dc ?_;refine oS (sH [_,_] rfl pH (px sb T i2 op oH hl zo) ?_);refine ig ?_;refine sa (λhc=>?_) λhc=>?_
 ·have wa:=Yh hc;rw[zp hc] at hI;simp only[hc,if_true];refine Af ?_;refine eh ?_;refine Dg ?_;obtain⟨r2,sd⟩:=Zh hI;refine oS (sP [_] rfl pH (fZ sb T hT k (i2+1) op r2 zo sd) (λns i4 Rj h4=>?_) λl er i4 Rj h4 e9 Ng=>?_);rotate_left;rw[sd,h4,Hf] at hI;refine Rc ?_;exact Yb Ak (by cases hI;rfl) dc;rw[sd,h4,Bd] at hI;obtain⟨g1,g2,g3,rfl⟩:=fD T k _ _ _ (sd.trans (congrArg some h4));have g5:=g3 zo;have g6:=WX (sd.trans (congrArg some h4));refine oS (S.Cr (ms:=ns.map str) rfl Ta rfl (Ro ns) (CA ns) (by simp;omega) λv' H' Ra=>?_);refine Wh ?_;refine qg ?_;refine oS (sP [_,_] rfl pH (NC sb T i4 Rj [59] hl zo) (λu i5 jD h5=>?_) λl er i5 jD h5 e9 Ng=>?_);rotate_left;rw[h5,Hf] at hI;refine Rc ?_;exact Yb Ak (by cases hI;rfl) dc;rw[h5,Bd] at hI;have S1:=Bs T [59] i4 Rj;rw[h5] at S1;obtain⟨k1,k2,k3,rfl⟩:=S1;have k4:=k3 g5;refine oa ?_;exact⟨k,_,_,by omega,⟨v',l++ns,i5,H',by omega,rfl,rfl,by rw[Od];exact Ra,by omega,by rw[ua];omega,hI⟩,Qa,kb _,hj⟩
 rw[zn (by rw[hc];decide)] at hI;simp only[hc,Vh,if_false];refine ia ?_;refine Uu ?_;exact ue (v:=l) hj (rC (rT (v:=v) rfl Ta.sub) rN) (by cases hI;rfl) rfl dc
theorem dI(hG:GW B0 w0)(sb:Nat)(T:List Tok)(hT:Vn T)(i op:Nat)(r:vh Ar)(hi:i<=T.length)(ho:op<=100)(hr:sC T i op=some r) :
  aa (KC B0 w0) 71 [ptr sb 0] [Za sb T i op] (fk sb T bC r):=by
 have hl:=hT.len;unfold sC at hr;refine cJ Tryz.func71 (n:=18) ?_;refine Pc ?_;refine oS (yc λb2=>?_);refine qg ?_;refine oS (sP [_,_] rfl uc (Qj sb T i op 2 hl zo) (λs i1 ec h1=>?_) λl er i1 ec h1 e9 Ng=>?_);rotate_left;exact Ox;rw[h1,Bd] at hr;obtain⟨rfl,rfl,t,ht,_,_⟩:=Ry h1;have:=tC ht;refine za ?_;refine oS (yc λb3=>?_);refine ja ?_;refine oS (sP [_,_] rfl uc (Xy sb T (i+1) ec [91] hl zo zo) (λv i2 Ye h2=>?_) λl er i2 Ye h2 e9 Ng=>?_);rotate_left;rw[h2,Hf] at hr;refine Rc ?_;exact Yb Ak (by cases hr;rfl) dc;rw[h2,Bd] at hr;obtain⟨rfl,rfl,gr,Ax⟩:=Jq h2;refine qg ?_;refine oS (sP [_] rfl pH (GZ hG sb T hT (i+1+1) (ec+1) zo) (λm i3 Se h3=>?_) λl er i3 Se h3 e9 Ng=>?_);rotate_left;exact Nx;rw[h3,Bd] at hr;have wB:=KQ T (i+1+1) (ec+1);rw[h3] at wB;obtain⟨k1,k2,k3,rfl⟩:=wB;have k4:=k3 zo
 have hm:m<=4294967295:=by unfold EA at h3;unfold vh.bind at h3;split at h3;rename_i s2 i6 jR h6;cases h3;obtain⟨_,_,t6,ht6,XF,rfl⟩:=Ry h6;obtain⟨u,hu,hp⟩:=hT.num t6 (List.mem_of_getElem? ht6) XF;rw[vH,hp];simp only;omega;cases h3
 have hw:IntKind.i64.wrap (m:Int)=(m:Int):=GA zo;refine ja ?_;refine oS (sP [_,_] rfl uc (GC sb T i3 (ec+1) [93] hl zo zo zo) (λu i4 Rj h4=>?_) λl er i4 Rj h4 e9 Ng=>?_);rotate_left;rw[h4,Hf] at hr;refine Rc ?_;exact Yb Ak (by cases hr;rfl) dc;rw[h4,Bd] at hr;obtain⟨rfl,rfl,hi4⟩:=BC h4;refine qg ?_;refine oS (sP [_,_] rfl pH (NC sb T (i3+1) Rj [59] hl zo) (λu2 i5 jD h5=>?_) λl er i5 jD h5 e9 Ng=>?_);rotate_left;rw[h5,Hf] at hr;refine Rc ?_;exact Yb Ak (by cases hr;rfl) dc;rw[h5,Bd] at hr;refine ja ?_;exact ue (v:=⟨s,m⟩) rfl (rC (rA (k:=2) rfl yb rfl fc) rN) (by cases hr;rfl) (by show LV.agg [str s,int .i64 (IntKind.i64.wrap m)]=bC ⟨s,m⟩;rw[hw];rfl) (Ab uc Fc)
theorem sY(hG:GW B0 w0)(sb:Nat)(T:List Tok)(hT:Vn T)(f i op:Nat)(r:vh od)(hi:i<=T.length)(ho:op<=100)(hr:gC T f i op=some r) :
  aa (KC B0 w0) 72 [ptr sb 0] [Za sb T i op] (fk sb T Me r):=by
 have hl:=hT.len;unfold gC at hr;refine cJ Tryz.func72 (n:=29) ?_;refine Pc ?_;refine oS (yc λb2=>?_);refine qg ?_;refine oS (sP [_,_] rfl uc (Qj sb T i op 2 hl zo) (λs i1 ec h1=>?_) λl er i1 ec h1 e9 Ng=>?_);rotate_left;exact Ox;rw[h1,Bd] at hr;obtain⟨rfl,rfl,t,ht,_,_⟩:=Ry h1;have:=tC ht;refine za ?_;refine oS (yc λb3=>?_);refine ja ?_;refine oS (sP [_,_] rfl uc (Xy sb T (i+1) ec [40] hl zo zo) (λv i2 Ye h2=>?_) λl er i2 Ye h2 e9 Ng=>?_);rotate_left;rw[h2,Hf] at hr;refine Rc ?_;exact Yb Ak (by cases hr;rfl) dc;rw[h2,Bd] at hr;obtain⟨rfl,rfl,gr,Ax⟩:=Jq h2;refine qg ?_;refine fh ?_;refine oS (sH [_,_] rfl pH (To sb T (i+1+1) (ec+1) [[41]] hl zo (by simp)) ?_);refine za ?_;obtain⟨r3,gw⟩:=Zh hr
 refine Ga.mid (A:=List (List UInt8)×Nat) (λ_=>[(0,ptr sb 0),(2,ptr b2 0),(3,ptr b3 0)]) (λa=>(b3,.cells 149 [str s,.list (a.1.map str),Ea,Ea])::Za sb T a.2 (ec+1)::[(b2,.cells 149 [str [],Ea,Ea,Ea])])
  (λa=>i+1+1<=a.2/\a.2<=T.length/\r3=.ok a.1 a.2 (ec+1)) ?_ ?_
 refine sa (λhc=>?_) λhc=>?_;have uk:ie T (i+1+1) [[41]]=false:=by simpa using hc
 rw[zn (by rw[uk];decide)] at gw;refine Dc ?_;refine oS (sP [_] rfl pH (fZ sb T hT f (i+1+1) (ec+1) r3 zo gw) (λns i3 Se h3=>?_) λl er i3 Se h3 e9 Ng=>?_);obtain⟨g1,g2,g3,rfl⟩:=fD T f _ _ _ (gw.trans (congrArg some h3));have g5:=g3 zo;refine za ?_;exact⟨(ns,i3),⟨by omega,g5,h3⟩,Qa,rfl,rfl⟩;rw[zn (by rw[uk];decide),gw,h3,Hf] at hr;refine zg ?_;exact Yb (Ng.trans rfl) (by cases hr;rfl) dc;have uk:ie T (i+1+1) [[41]]=true:=by simpa using hc
 rw[zp uk] at gw;cases gw;refine Ga.Ss uc (Ya:=[str s,.list [],Ea,Ea]) ⟨vR _,vN,vR _,vR _,trivial⟩ ?_;refine oa ?_;exact⟨([],i+1+1),⟨mc _,by omega,rfl⟩,Qa,rfl,rfl⟩;rintro⟨ps,i3⟩ ⟨hi3,aam,rfl⟩ j hj;rw[gw,Bd] at hr;refine Dc ?_;refine oS (sP [_,_] rfl uc (GC sb T i3 (ec+1) [41] hl zo zo zo) (λu i4 Rj h4=>?_) λl er i4 Rj h4 e9 Ng=>?_);rotate_left;rw[h4,Hf] at hr;refine Rc ?_;exact Yb Ak (by cases hr;rfl) dc;rw[h4,Bd] at hr;obtain⟨rfl,rfl,hi4⟩:=BC h4;refine qg ?_;refine oS (sP [_,_] rfl pH (Xy sb T (i3+1) Rj [123] hl zo zo) (λu2 i5 jD h5=>?_) λl er i5 jD h5 e9 Ng=>?_);rotate_left;rw[h5,Hf] at hr;refine Rc ?_;exact Yb Ak (by cases hr;rfl) dc;rw[h5,Bd] at hr;obtain⟨rfl,rfl,ho5,hi5⟩:=Jq h5;refine qg ?_;obtain⟨r6,FM⟩:=Zh hr;refine oS (sP [_] rfl pH (NP sb T hT f (i3+1+1) (Rj+1) r6 zo FM) (λvs i6 jR h6=>?_) λl er i6 jR h6 e9 Ng=>?_);rotate_left;rw[FM,h6,Hf] at hr;refine Rc ?_;exact Yb Ak (by cases hr;rfl) dc;rw[FM,h6,Bd] at hr;obtain⟨g1,g2,g3,rfl⟩:=JA T f _ _ _ _ (FM.trans (congrArg some h6));have g4:=g3 zo;refine ja ?_;obtain⟨r7,EM⟩:=Zh hr;refine oS (sP [_] rfl uc ((B4 hG sb T hT f).2.1 i6 (Rj+1) r7 zo zo EM) (λss i7 C0 h7=>?_) λl er i7 C0 h7 e9 Ng=>?_);rotate_left;rw[EM,h7,Hf] at hr;refine Rc ?_;exact Yb Ak (by cases hr;rfl) dc;rw[EM,h7,Bd] at hr;obtain⟨q1,q2,q3,rfl⟩:=(xC T f).2.1 _ _ _ _ (EM.trans (congrArg some h7));have q4:=q3 zo;refine ja ?_;refine oS (sP [_,_] rfl uc (GC sb T i7 (Rj+1) [125] hl zo zo zo) (λu3 i8 A0 h8=>?_) λl er i8 A0 h8 e9 Ng=>?_);rotate_left;rw[h8,Hf] at hr;refine Rc ?_;exact Yb Ak (by cases hr;rfl) dc;rw[h8,Bd] at hr;refine ja ?_;exact ue (v:=⟨s,ps,vs,ss⟩) hj (rC (rA (k:=4) rfl yb rfl fc) rN) (by cases hr;rfl) rfl (Ab uc Fc)
theorem NU{a b c:Nat×da}:(a::b::c::(X++(Y++Z))).Perm (X++(a::b::c::(Y++Z))):=List.perm_append_comm_assoc [a,b,c] X (Y++Z)
theorem LN{a b c:Nat×da}:(a::b::c::(X++(Y++Z))).Perm (Y++(a::b::c::(X++Z))):=
 (((List.perm_append_comm_assoc X Y Z).cons c).cons b |>.cons a).trans (List.perm_append_comm_assoc [a,b,c] Y (X++Z))
theorem KN{a b c:Nat×da}:(a::b::c::(X++(Y++Z))).Perm (Z++(a::b::c::(X++Y))):=
 ((((show(X++(Y++Z)).Perm (Z++(X++Y)) from by rw[<-Xc];exact dd).cons c).cons b).cons a).trans (List.perm_append_comm_assoc [a,b,c] Z (X++Y))
theorem IU{a b c:Nat×da}:HSub (a::b::c::(X++(Y++Z))) (b::a::c::((Y++Z)++X)):=
 ⟨[],by rw[Qb];exact(Km _ _ _).trans ((((dd).cons c).cons b).cons a)⟩
theorem ON{a b c:Nat×da}:HSub (a::b::c::(X++(Y++Z))) (b::a::c::((X++Z)++Y)):=
 ⟨[],by rw[Qb];exact(Km _ _ _).trans ((((show((X++Z)++Y).Perm (X++(Y++Z)) from by rw[Xc];exact dd.append_left X).cons c).cons b).cons a)⟩
theorem YN{a b c:Nat×da}:HSub (a::b::c::(X++(Y++Z))) (b::a::c::((X++Y)++Z)):=
 ⟨[],by rw[Qb,Xc];exact Km _ _ _⟩
theorem Acc.cell{s:Nat}{v:LV}{es:List LV}(h:Acc s v es H F):v.cells? = some [v]/\[v].all bj=true:=by cases h <;> exact⟨rfl,rfl⟩
theorem yI(hG:GW B0 w0)(sb:Nat)(T:List Tok)(hT:Vn T)(f:Nat)(r:vh Pr)(hr:bx T f ⟨[],[],[]⟩ 0 0=some r) :
  aa (KC B0 w0) 27 [ptr sb 0] [Za sb T 0 0] (fk sb T Bt r):=by
 have hl:=hT.len;have Hn:(T.map Oo).length=T.length:=Ua _;refine cJ Tryz.func27 (n:=47) ?_;refine Pc ?_;refine oS (yc λb2=>?_);refine Nd ?_;refine oS (yc λb3=>?_);refine oa ?_;refine oL (λk ls H=>∃ (p:Pr) (v1 v2 v3:LV) (i2:Nat) (H1 H2 H3:Heap),k<=f/\ls=[(0,ptr sb 0),(2,ptr b2 0),(3,ptr b3 0)]/\H=Za sb T i2 0::(b3,.cells 45 [v1,v2,v3])::(b2,.cells 45 [Ea,Ea,Ea])::(H1++(H2++H3)) /\
   Acc 1 v1 (p.vars.map str) H1 []/\Acc 2 v2 (p.ba.map bC) H2 []/\Acc 4 v3 (p.funcs.map Me) H3 []/\i2<=T.length/\p.vars.length<=i2/\p.ba.length<=i2/\p.funcs.length<=i2/\bx T k p i2 0=some r)
  ⟨f,_,_,⟨⟨[],[],[]⟩,Ea,Ea,Ea,0,[],[],[],mc _,rfl,rfl,Acc.nil,Acc.nil,Acc.nil,zero_le _,zero_le _,zero_le _,zero_le _,hr⟩,Qa,Ab Ig Ma⟩ ?_
 rintro k ls H ⟨p,v1,v2,v3,i2,H1,H2,H3,KS,rfl,rfl,Mu,Gm,tr,Cp,Vt,yx,uJ,hI⟩ j hj;obtain⟨k,rfl⟩:∃ k',k=k'+1:=by
  cases k with
  |zero=>rw[bx] at hI;cases hI
  |succ k=>exact⟨k,rfl⟩
 rw[bx] at hI;refine oa ?_;refine cC [(0,ptr sb 0),(2,ptr b2 0),(3,ptr b3 0),(13,bool (decide (i2<T.length)))] ?_ λj2 Ub=>?_;refine Pm ?_;exact⟨⟨rfl,rfl,rfl,Ed (by rw[decide_eq_decide];simp),trivial⟩,rfl,rfl⟩
 skip
 refine sa (λhc=>?_) λhc=>?_;have wa:i2<T.length:=zt hc;rw[zn zo] at hI;refine ia ?_;refine fh ?_;refine oS (sH [_,_] rfl pH (To sb T i2 0 [oH] hl zo (by simp)) ?_);refine fj ?_;refine sa (λhv=>?_) λhv=>?_;rw[zp hv] at hI;obtain⟨r2,sd⟩:=Zh hI;refine cD (m:=7) rfl []<|aT 0 rfl rfl (pF rfl)<|Qm ?_;refine aL ?_ Fc;refine cm (i:=1) (j:=3) zk ?_ ?_;refine lH rfl rfl (pL (c:=v1) rfl Ff rfl)<|lO 3 (lW rfl (.inl rfl) rfl (sP [_] rfl pH (NP sb T hT k i2 0 r2 Cp sd) (λl i3 Se h3=>?_) λl er i3 Se h3 e' ya=>?_));obtain⟨g1,g2,g3,rfl⟩:=JA T k _ _ _ _ (sd.trans (congrArg some h3));have g4:=g3 Cp;have g5:=g2 hv;have g6:=nP T _ _ _ _ _ _ _ (sd.trans (congrArg some h3));rw[sd,h3,Bd] at hI;rw[Eb] at g6;refine lO 4 (lW rfl (.inl rfl) rfl (sG NU rfl Mu rfl (Ro l) (CA l) (by simp;omega) λv' H' Ah=>?_));refine GG ?_;exact⟨k,_,_,by omega,⟨{ p with vars:=p.vars++l },v',v2,v3,i3,H',H2,H3,by omega,rfl,rfl,by rw[Od];exact Ah,Gm,tr,g4,by rw[ua];omega,Uf yx zo,Uf uJ zo,hI⟩,Qa,IU,Ub.trans hj⟩;exact HE;refine lW rfl (.inl rfl) rfl (sP [_] rfl pH (NP sb T hT k i2 0 r2 Cp sd) (λl i3 Se h3=>?_) λl er i3 Se h3 e' ya=>?_);refine lO 1 (lH rfl rfl (pL (c:=v1) rfl Ff rfl) ?_);obtain⟨g1,g2,g3,rfl⟩:=JA T k _ _ _ _ (sd.trans (congrArg some h3));have g4:=g3 Cp;have g5:=g2 hv;have g6:=nP T _ _ _ _ _ _ _ (sd.trans (congrArg some h3));rw[sd,h3,Bd] at hI;rw[Eb] at g6;refine lO 4 (lW rfl (.inl rfl) rfl (sG NU rfl Mu rfl (Ro l) (CA l) (by simp;omega) λv' H' Ah=>?_));refine GG ?_;exact⟨k,_,_,by omega,⟨{ p with vars:=p.vars++l },v',v2,v3,i3,H',H2,H3,by omega,rfl,rfl,by rw[Od];exact Ah,Gm,tr,g4,by rw[ua];omega,Uf yx zo,Uf uJ zo,hI⟩,Qa,IU,Ub.trans hj⟩;exact HE;rw[zn (by rw[hv];decide)] at hI;refine Dc ?_;refine oS (sH [_,_] rfl pH (px sb T i2 0 WV hl zo) ?_);refine fj ?_;refine sa (λhw=>?_) λhw=>?_;have lr:=Yh hw;rw[zp hw] at hI;simp only[hw,if_true];obtain⟨r2,sd⟩:=Zh hI;refine cD (m:=8) rfl []<|aT 0 rfl rfl (pF rfl)<|Qm ?_;refine aL ?_ Fc;refine cm (i:=1) (j:=3) zk ?_ ?_;refine lH rfl rfl (pL (c:=v2) rfl Ff rfl)<|lO 3 (lW rfl (.inl rfl) rfl (sP [_] rfl pH (dI hG sb T hT (i2+1) 0 r2 zo zo sd) (λl i3 Se h3=>?_) λl er i3 Se h3 e' ya=>?_));obtain⟨g1,g2,g3,rfl⟩:=lM T _ _ _ (sd.trans (congrArg some h3));have g4:=g3 zo;rw[sd,h3,Bd] at hI;refine Yx ?_;refine lO 5 (lW rfl (.inl rfl) rfl (sG LN rfl Gm rfl (by simp;rfl) rfl (by simp;omega) λv' H' Ah=>?_));refine RB ?_;exact⟨k,_,_,by omega,⟨{ p with ba:=p.ba++[l] },v1,v',v3,i3,H1,H',H3,by omega,rfl,rfl,Mu,by rw[Od];exact Ah,tr,g4,Uf Vt zo,by rw[ua,length_singleton];omega,Uf uJ zo,hI⟩,Qa,ON,Ub.trans hj⟩;exact HE;refine lW rfl (.inl rfl) rfl (sP [_] rfl pH (dI hG sb T hT (i2+1) 0 r2 zo zo sd) (λl i3 Se h3=>?_) λl er i3 Se h3 e' ya=>?_);refine cm (i:=1) (j:=4) zk ?_ ?_;refine lH rfl rfl (pL (c:=v2) rfl Ff rfl) ?_;obtain⟨g1,g2,g3,rfl⟩:=lM T _ _ _ (sd.trans (congrArg some h3));have g4:=g3 zo;rw[sd,h3,Bd] at hI;refine Yx ?_;refine lO 5 (lW rfl (.inl rfl) rfl (sG LN rfl Gm rfl (by simp;rfl) rfl (by simp;omega) λv' H' Ah=>?_));refine RB ?_;exact⟨k,_,_,by omega,⟨{ p with ba:=p.ba++[l] },v1,v',v3,i3,H1,H',H3,by omega,rfl,rfl,Mu,by rw[Od];exact Ah,tr,g4,Uf Vt zo,by rw[ua,length_singleton];omega,Uf uJ zo,hI⟩,Qa,ON,Ub.trans hj⟩;obtain⟨g1,g2,g3,rfl⟩:=lM T _ _ _ (sd.trans (congrArg some h3));have g4:=g3 zo;rw[sd,h3,Bd] at hI;refine Vu ?_;refine lO 1 (lH rfl rfl (pL (c:=v2) rfl Ff rfl) ?_);refine lO 5 (lW rfl (.inl rfl) rfl (sG LN rfl Gm rfl (by simp;rfl) rfl (by simp;omega) λv' H' Ah=>?_))
 refine RB ?_;exact⟨k,_,_,by omega,⟨{ p with ba:=p.ba++[l] },v1,v',v3,i3,H1,H',H3,by omega,rfl,rfl,Mu,by rw[Od];exact Ah,tr,g4,Uf Vt zo,by rw[ua,length_singleton];omega,Uf uJ zo,hI⟩,Qa,ON,Ub.trans hj⟩;exact HE;rw[zn (by rw[hw];decide)] at hI;simp only[hw,Vh,if_false];refine Dc ?_;refine oS (sH [_,_] rfl pH (px sb T i2 0 xV hl zo) ?_);refine fj ?_;refine sa (λhu=>?_) λhu=>?_;have lr:=Yh hu;rw[zp hu] at hI;simp only[hu,if_true];obtain⟨r2,sd⟩:=Zh hI;refine cD (m:=8) rfl []<|aT 0 rfl rfl (pF rfl)<|Qm ?_;refine aL ?_ Fc;refine cm (i:=1) (j:=3) zk ?_ ?_;refine lH rfl rfl (pL (c:=v3) rfl Ff rfl)<|lO 3 (lW rfl (.inl rfl) rfl (sP [_] rfl pH (sY hG sb T hT k (i2+1) 0 r2 zo zo sd) (λl i3 Se h3=>?_) λl er i3 Se h3 e' ya=>?_));obtain⟨g1,g2,g3,rfl⟩:=ZL T k _ _ _ (sd.trans (congrArg some h3));have g4:=g3 zo;rw[sd,h3,Bd] at hI;refine Yx ?_;refine lO 5 (lW rfl (.inl rfl) rfl (sG KN rfl tr rfl (by simp;rfl) rfl (by simp;omega) λv' H' Ah=>?_));refine QB ?_;exact⟨k,_,_,by omega,⟨{ p with funcs:=p.funcs++[l] },v1,v2,v',i3,H1,H2,H',by omega,rfl,rfl,Mu,Gm,by rw[Od];exact Ah,g4,Uf Vt zo,Uf yx zo,by rw[ua,length_singleton];omega,hI⟩,Qa,YN,Ub.trans hj⟩;exact HE;refine lW rfl (.inl rfl) rfl (sP [_] rfl pH (sY hG sb T hT k (i2+1) 0 r2 zo zo sd) (λl i3 Se h3=>?_) λl er i3 Se h3 e' ya=>?_);refine cm (i:=1) (j:=4) zk ?_ ?_;refine lH rfl rfl (pL (c:=v3) rfl Ff rfl) ?_;obtain⟨g1,g2,g3,rfl⟩:=ZL T k _ _ _ (sd.trans (congrArg some h3));have g4:=g3 zo;rw[sd,h3,Bd] at hI;refine Yx ?_;refine lO 5 (lW rfl (.inl rfl) rfl (sG KN rfl tr rfl (by simp;rfl) rfl (by simp;omega) λv' H' Ah=>?_));refine QB ?_;exact⟨k,_,_,by omega,⟨{ p with funcs:=p.funcs++[l] },v1,v2,v',i3,H1,H2,H',by omega,rfl,rfl,Mu,Gm,by rw[Od];exact Ah,g4,Uf Vt zo,Uf yx zo,by rw[ua,length_singleton];omega,hI⟩,Qa,YN,Ub.trans hj⟩;obtain⟨g1,g2,g3,rfl⟩:=ZL T k _ _ _ (sd.trans (congrArg some h3));have g4:=g3 zo;rw[sd,h3,Bd] at hI;refine Vu ?_;refine lO 1 (lH rfl rfl (pL (c:=v3) rfl Ff rfl) ?_);refine lO 5 (lW rfl (.inl rfl) rfl (sG KN rfl tr rfl (by simp;rfl) rfl (by simp;omega) λv' H' Ah=>?_));refine QB ?_;exact⟨k,_,_,by omega,⟨{ p with funcs:=p.funcs++[l] },v1,v2,v',i3,H1,H2,H',by omega,rfl,rfl,Mu,Gm,by rw[Od];exact Ah,g4,Uf Vt zo,Uf yx zo,by rw[ua,length_singleton];omega,hI⟩,Qa,YN,Ub.trans hj⟩;exact HE;rw[zn (by rw[hu];decide)] at hI;simp only[hu,Vh,if_false];refine Dc ?_;refine oS (sP [_,_] rfl pH (WH Bt sb T i2 0 3 hl zo) (λ_ _ _ h=>by cases h) λl er i' Da h e' ya=>?_);cases h;refine Rc ?_;exact Yb (ya.trans (Ub.trans hj)) (by cases hI;rfl) dc;have Fm:T.length<=i2:=by have:=zf hc;omega
 rw[zp Fm] at hI;refine Ga.Ss uc (Ya:=[.list (p.vars.map str),.list (p.ba.map bC),.list (p.funcs.map Me)]) ⟨Mu.sub,Gm.sub,tr.sub,trivial⟩ ?_;refine ja ?_;exact ue (v:=p) (Ub.trans hj) (rC (rA (k:=3) rfl yb rfl fc) rN) (by cases hI;rfl) rfl (Ab Ig Fc)
theorem l7{s:List UInt8}{T:List Tok}(h:ix s=.ok T):Vn T:=by
 unfold ix at h;split at h;cases h;obtain⟨h1,h2⟩:=nO _ _ _ _ h;exact⟨by omega,λt ht=>by have:=(h2 t ht).1;omega,λt ht hk=>by
  obtain⟨u,h3,h4,_⟩:=(h2 t ht).2 hk;exact⟨u,h3,h4⟩⟩
instance:Ve ui 20:=.of zk
def bi:Pr:=⟨[],[],[]⟩
def Gt(s:List UInt8):Pr×Int×Int:=match ix s with
 |.error (l,e)=>(bi,l,e)
 |.ok T=>match bx T (10 * T.length+20) bi 0 0 with
  |some (.ok p _ _)=>(p,0,0)
  |some (.err l e)=>(bi,l,e)
  |none=>(bi,0,0)
def UW(r:Pr×Int×Int):LV:=.tuple [Bt r.1,int .i64 r.2.1,int .i64 r.2.2]
theorem Kq.Ag{H' H1 H2:Heap}{f:FuncId}{La:Array Value} [zB:fb C.P f](hd:e.ds=[{ target:=.fn (.func f) La,args:=#[] }])(hp:H.Perm (H1++F))
  (hc:lk C f (La.toList.map .atom) .returning H1 λu H'=>u=.returning/\H'=H2) (h:Eh C n e (H2++F) rs vs) (hH:HSub H' (H2++F)) (hR:R (.ret (Ge vs)) H'):Kq C n rs R .ret e H:=by
 unfold Kq;simp only[hd];refine⟨by simp,f,La,H1,F,rfl,zB,hp,lk.mono hc ?_⟩;rintro u se ⟨rfl,rfl⟩;exact⟨vs,H',h,hH,hR⟩
theorem Kq.nn{H' H1 H2:Heap}{f:FuncId}{La:Array Value}{ch:List PanicEntry} [zB:fb C.P f](hd:e.ds=[{ target:=.fn (.func f) La,args:=#[] }])(hp:H.Perm (H1++F))
  (hc:lk C f (La.toList.map .atom) (.panicking ch) H1 λu H'=>settle u=.returning/\H'=H2) (h:Eh C n e (H2++F) rs vs) (hH:HSub H' (H2++F)) (hR:R (.ret (Ge vs)) H'):Kq C n rs R (.panic ch) e H:=by
 unfold Kq;simp only[hd];refine⟨by simp,f,La,H1,F,rfl,zB,hp,lk.mono hc ?_⟩;rintro u se ⟨hu,rfl⟩;rw[hu];exact⟨vs,H',h,hH,hR⟩
def JN:vh Pr->Pr×Int×Int
 |.ok p _ _=>(p,0,0)
 |.err l e=>(bi,l,e)
theorem TO:∀ (f:Nat) (s:List UInt8) (line l e:Int),di f s line=.error (l,e)->¬ e=0
 |0,s,line,l,e,h=>by rw[di] at h;cases h
 |f+1,s,line,l,e,h=>by
  rw[di] at h;split at h;cases h;split at h;split at h;rename_i he;cases h;exact he;cases hx:di f (s.drop (Qh s).2.1) (line+((s.take (Qh s).2.1).count 10:Nat)) with
  |ok T=>rw[hx] at h;cases h
  |error p=>rw[hx] at h;cases h;exact TO f _ _ _ _ hx
  exact TO f _ _ _ _ h
theorem qnS{s:List UInt8}{l e:Int}(h:ix s=.error (l,e)):¬ e=0:=by unfold ix at h;split at h;cases h;decide;exact TO _ _ _ _ _ h
theorem qk{A:Type}{p:A}{H:List A}(h:p∈H:=by first|exact je|exact List.Mem.tail _ yb|exact List.Mem.tail _ Ff|exact List.Mem.tail _ Hr|exact List.Mem.tail _ Ru|exact List.Mem.tail _ FE|exact List.Mem.tail _ wK):p∈H:=h
attribute [local irreducible] Lg Re Dq lk
theorem YK(b2 b3 b4:Nat)(cs:List LV)(c d:LV):lk (KC B0 w0) 26 [ptr b2 0,ptr b3 0,ptr b4 0] .returning [(b2,.cells 45 cs),(b3,.cells 3 [c]),(b4,.cells 24 [d])]
  (λu H=>u=.returning/\H=[(b2,.cells 45 cs),(b3,.cells 3 [c]),(b4,.cells 24 [d])]):=by
 refine lk.intro Tryz.func26 rfl (n:=22) rfl rfl rfl ?_;refine dt ?_;refine ja ?_;refine sa (λhc=>?_) λhc=>?_;cases hc;refine oa ?_;exact⟨rfl,_,kb _,rfl,rfl⟩
theorem iL(b2 b3 b4:Nat)(c1 c2 c3 c d:LV)(l er:Int):lk (KC B0 w0) 26 [ptr b2 0,ptr b3 0,ptr b4 0] (.panicking (JF l er)) [(b2,.cells 45 [c1,c2,c3]),(b3,.cells 3 [c]),(b4,.cells 24 [d])]
  (λu H=>settle u=.returning/\H=[(b2,.cells 45 [Ea,Ea,Ea]),(b3,.cells 3 [int .i64 l]),(b4,.cells 24 [int .i64 er])]):=by
 refine lk.intro Tryz.func26 rfl (n:=22) rfl rfl rfl ?_;refine dt ?_;refine ja ?_;refine sa (λhc=>?_) λhc=>?_;refine Dc ?_;refine ca (Pure.xl (vs:=[.int .i64 l,.int .i64 er]) rfl)<|za ?_;refine oS (yc λb5=>?_);refine ja ?_;refine sa (λhd=>?_) λhd=>?_;cases hd;refine oa ?_;refine cD (m:=8) rfl [(b5,.cells 86 [int .i64 l,int .i64 er])]<|aT 0 rfl rfl (pB _ (cs:=[_,_,_]) rfl)<|aT 1 rfl rfl (pF rfl)<|aT 2 rfl rfl (pL (c:=.atom _) rfl yb rfl)<|aT 3 rfl rfl (pF rfl)<|aT 4 rfl rfl (pL (c:=.atom _) rfl yb rfl)<|aL ?_ dc;refine lO 5 (lS (H1:=[(b2,.cells 45 [c1,c2,c3])]) (F:=[(b5,.cells 86 [int .i64 l,int .i64 er]),(b3,.cells 3 [c]),(b4,.cells 24 [d])]) rfl (.inl rfl) rfl uc dc (sS (Ya:=[_,_,_]) rfl pH rfl rfl rfl rfl rfl ?_));refine lO 6 (lS (H1:=[(b3,.cells 3 [c])]) (F:=[(b2,.cells 45 [Ea,Ea,Ea]),(b5,.cells 86 [int .i64 l,int .i64 er]),(b4,.cells 24 [d])]) rfl (.inl rfl) rfl Ig (Ab uc Fc) (sS (Ya:=[_]) rfl pH rfl rfl rfl rfl rfl ?_));refine lO 7 (lS (H1:=[(b4,.cells 24 [d])]) (F:=[(b3,.cells 3 [int .i64 l]),(b2,.cells 45 [Ea,Ea,Ea]),(b5,.cells 86 [int .i64 l,int .i64 er])]) rfl (.inl rfl) rfl pu (Ab Ig Fc) (sS (Ya:=[_]) rfl pH rfl rfl rfl rfl rfl ?_));refine lD zk ?_;exact⟨rfl,_,Ab Ig (Ab uc dc),rfl,rfl⟩;cases hc
theorem qqZ(hG:GW B0 w0)(s:List UInt8):aa (KC B0 w0) 11 [str s] [] (gb (UW (Gt s))):=by
 refine aa.Uq Tryz.func11 rfl (n:=24) rfl rfl rfl ?_;refine ak ?_;refine Pc ?_;refine oS (yc λb2=>oS (yc λb3=>?_));refine oS (yc λb4=>?_);refine ig ?_;refine ak ?_;refine Dc ?_;refine oS (sF [_] rfl (qpb hG s) ?_)
 cases hL:ix s with
 |error le=>
  obtain⟨l,er⟩:=le;have Y1:¬ er=0:=qnS hL;simp only[HK];refine za ?_;refine ak ?_;refine ja ?_;refine sa (λhc=>?_) λhc=>?_;refine oa ?_;refine cD (m:=6) rfl []<|aT 0 rfl rfl (pB _ (cs:=[_,_,_]) rfl)<|aL ?_ Fc;refine Td.three (i:=1) (j:=2) (k:=3) zk ?_ ?_ ?_;refine Wx ?_;refine cm (i:=2) (j:=3) zk ?_ ?_;refine lH rfl rfl (pL (c:=.atom _) rfl yb rfl) ?_;exact CG;refine iy ?_;refine cm (i:=2) (j:=4) zk ?_ ?_;exact zG;exact yG;refine lH rfl rfl (pL (c:=.atom _) rfl yb rfl)<|cm (i:=1) (j:=3) zk ?_ ?_;refine Wx ?_;exact CG;refine iy ?_;exact fU;refine iy ?_;refine cm (i:=1) (j:=2) zk ?_ ?_;refine lH rfl rfl (pL (c:=.atom _) rfl Hr rfl)<|cm (i:=2) (j:=4) zk ?_ ?_;exact zG;exact yG;refine Wx ?_;exact fU;have:er=0:=by simpa using hc
  exact absurd this Y1
 |ok T=>
  have hT:=l7 hL;simp only[HK];refine za ?_;refine ak ?_;refine ja ?_;refine sa (λhc=>?_) λhc=>?_;cases hc;refine oa ?_;refine rq ?_;refine Lg.defer rfl rfl ?_;refine Om ?_;refine ak ?_;refine ja ?_;refine oS (sB rfl λsb=>?_);refine fj ?_;refine rq ?_;obtain⟨r,hr⟩:=fM T (10 * T.length+20) bi 0 0 (zero_le _) zo
  have hp:Gt s=JN r:=by rw[Gt,hL];simp only[hr];cases r <;> rfl
  rw[hp];refine Lg.step (sP (T:=T) (i:=0) (op:=0) [_] rfl pH (yI hG sb T hT _ r hr) (λv i1 ec h1=>?_) λl er i1 ec h1=>?_) rfl;subst h1;refine Lg.step (sS (Ya:=[_,_,_]) rfl pu rfl rfl rfl rfl rfl ?_) rfl;refine Lg.step (sS (Ya:=[_]) rfl pu rfl rfl rfl rfl rfl ?_) rfl;refine Lg.step (sS (Ya:=[_]) rfl pu rfl rfl rfl rfl rfl ?_) rfl;refine Om ?_;refine Re.ret ?_
  exact Kq.Ag (vs:=[Bt v,int .i64 0,int .i64 0]) (H2:=[(b2,.cells 45 [.list (v.vars.map str),.list (v.ba.map bC),.list (v.funcs.map Me)]),(b3,.cells 3 [int .i64 0]),(b4,.cells 24 [int .i64 0])]) rfl (Ig.trans (dm _ (uc.trans (dm _ qb)))) (YK b2 b3 b4 _ _ _)
   (rC (rA (k:=3) rfl yb rfl fc) (rC (qj.Rb rfl Ff rfl fc) (rC (qj.Rb rfl Hr rfl fc) rN))) Fc ⟨rfl,rfl⟩
  subst h1;refine Bc.panic ?_;exact Kq.nn (vs:=[Bt bi,int .i64 l,int .i64 er]) (H2:=[(b2,.cells 45 [Ea,Ea,Ea]),(b3,.cells 3 [int .i64 l]),(b4,.cells 24 [int .i64 er])]) rfl (pu.trans (dm _ (Ig.trans (dm _ (uc.trans qb))))) (iL b2 b3 b4 _ _ _ _ _ l er)
   (rC (rA (k:=3) rfl yb rfl (vA (bs:=[.list [],.list [],.list []]) ⟨vN,vN,vN,trivial⟩)) (rC (qj.Rb rfl Ff rfl fc) (rC (qj.Rb rfl Hr rfl fc) rN))) Fc ⟨rfl,rfl⟩
end Go.Proofs.YtjolancjacdeaaaGreatDoor
namespace Go.Proofs.YtjolancjacdeaaaGreatDoor.Zg
open Go.GL Go.RowKit Go.Ba
def ly(nm:List UInt8)(e:Int):List PanicEntry:=[{ v:=.iface 153 (.agg #[.string ⟨nm.toArray⟩,.int .i64 e]),recovered:=false }]
def Tp:Nat->List UInt8->Bool
 |_,[]=>true
 |i,c::r=>(if i=0 then jk c else Gh c) && Tp (i+1) r
theorem zY:∀ (r:List UInt8) (i:Nat),i≠0->Tp i r=r.all Gh
 |[],_,_=>rfl
 |c::r,i,h=>by rw[Tp,zn h,zY r (i+1) zo];rfl
theorem p6{s:List UInt8}(h0:s≠[])(h1:s.length<=24)(h2:xH.contains s=false):Mf s=Tp 0 s:=by
 unfold Mf;rw[Eg h1,h2];cases s with
 |nil=>exact absurd rfl h0
 |cons c r=>rw[Tp,zp rfl,zY r 1 ra];rfl
theorem A'(s:List UInt8):xH.contains s=(kx.contains s || decide (s=[105,110]) || decide (s=[111,117,116])):=by
 have h:xH.contains s=(kx.contains s || (decide (s=[105,110]) || decide (s=[111,117,116]))):=by unfold xH;rw[Bool.eq_iff_iff];simp
 rw[h,Bool.or_assoc]
instance:xk ui 95 3 (.int .i64 0) (int .i64 0):=⟨⟨9,zk,zk⟩,λw=>(Go.zero_of_info (P:=ui) (n:=1) zk).1 w,λ_ _=>xc⟩
instance:xk ui 156 4 (.bool false) (bool false):=⟨⟨9,zk,zk⟩,λw=>(Go.zero_of_info (P:=ui) (n:=1) zk).1 w,λ_ _=>xc⟩
instance:xk ui 157 209 (.agg [.int .i64 0,.int .i64 0,.int .i64 0].toArray) (.agg ([.int .i64 0,.int .i64 0,.int .i64 0].map .atom)):=⟨⟨9,zk,zk⟩,λw=>(Go.zero_of_info (P:=ui) (n:=3) zk).1 w,λw L=>L8 w L _⟩
def nc:KV:=[([110,117,109],int .i64 0),([118,97,114],int .i64 0),([101,108,101,109],int .i64 1),([110,101,103],int .i64 1),([110,111,116],int .i64 1),([99,97,108,108],int .i64 (-1)),([124,124],int .i64 2),([38,38],int .i64 2),([61,61],int .i64 2),([33,61],int .i64 2),([60],int .i64 2),([62],int .i64 2),([60,61],int .i64 2),([62,61],int .i64 2),([94],int .i64 2),([43],int .i64 2),([45],int .i64 2),([42],int .i64 2),([47],int .i64 2),([37],int .i64 2)]
theorem N8(op:List UInt8):GL.Sa nc op=if Xh op = -2 then none else some (int .i64 (Xh op)):=by
 have key:∀ x∈[[110,117,109],[118,97,114],[101,108,101,109],[110,101,103],[110,111,116],[99,97,108,108],[124,124],[38,38],[61,61],[33,61],[60],[62],[60,61],[62,61],[94],[43],[45],[42],[47],[37]],GL.Sa nc x=if Xh x = -2 then none else some (int .i64 (Xh x)):=by intro x hx;simp only[Mc,not_mem_nil,or_false] at hx;rcases hx with rfl|rfl|rfl|rfl|rfl|rfl|rfl|rfl|rfl|rfl|rfl|rfl|rfl|rfl|rfl|rfl|rfl|rfl|rfl|rfl <;> rfl
 by_cases h:op∈[[110,117,109],[118,97,114],[101,108,101,109],[110,101,103],[110,111,116],[99,97,108,108],[124,124],[38,38],[61,61],[33,61],[60],[62],[60,61],[62,61],[94],[43],[45],[42],[47],[37]];exact key op h;simp only[Mc,not_mem_nil,or_false,not_or] at h;have h2:Xh op = -2:=by obtain⟨a1,a2,a3,a4,a5,a6,a7,a8,a9,bU,aU,a12,ZT,YT,XT,WT,VT,UT,TT,a20⟩:=h;unfold Xh;rw[zn λh=>h.elim a1 a2,zn λh=>h.elim a3 λh=>h.elim a4 a5,zn (show ¬ op=Ek from a6),zn];unfold FK;simp only[Mc,not_mem_nil,or_false,not_or];exact⟨a7,a8,a9,bU,aU,a12,ZT,YT,XT,WT,VT,UT,TT,a20⟩
 rw[zp h2];obtain⟨a1,a2,a3,a4,a5,a6,a7,a8,a9,bU,aU,a12,ZT,YT,XT,WT,VT,UT,TT,a20⟩:=h;unfold nc;simp only[GL.Sa];rw[zn (Ne.symm a1),zn (Ne.symm a2),zn (Ne.symm a3),zn (Ne.symm a4),zn (Ne.symm a5),zn (Ne.symm a6),zn (Ne.symm a7),zn (Ne.symm a8),zn (Ne.symm a9),zn (Ne.symm bU),zn (Ne.symm aU),zn (Ne.symm a12),zn (Ne.symm ZT),zn (Ne.symm YT),zn (Ne.symm XT),zn (Ne.symm WT),zn (Ne.symm VT),zn (Ne.symm UT),zn (Ne.symm TT),zn (Ne.symm a20)]
attribute [local irreducible] ea Ga Ja aa Go.GL.Pure Bc Tc oc LQ Pa Td Lf LS
section
variable{B0:Nat}{w0:World}{H:Heap}
theorem qmj(b:Bool)(nm:List UInt8)(e:Int):aa (KC B0 w0) 152 [bool b,str nm,int .i64 e] H (λr H'=>H'=H/\r=if b=true then .ret (.tuple []) else .panic (ly nm e)):=by
 refine cJ Tryz.func152 (n:=12) ?_;refine ja ?_;refine sa (λhc=>?_) λhc=>?_;have hb:b=false:=by simpa using hc
 subst hb;refine ja ?_;refine oS (Ja.panic rfl λe' ya=>?_);exact oc.panic (ya.trans rfl) Ma ⟨rfl,rfl⟩;have hb:b=true:=by simpa using hc
 subst hb;refine oa ?_;exact rO rfl rN Ma ⟨rfl,rfl⟩
theorem qkI(op:List UInt8):aa (KC B0 w0) 286 [str op] [] (gb (int .i64 (Xh op))):=by
 refine cJ Tryz.func286 (n:=15) ?_;refine Xj ?_;refine oS (S.Ji λom=>oS (S.Jc (m:=nc.take 0) (k:=[110,117,109]) (lv:=int .i64 (0)) (nc.take 1) rfl rfl rfl pH zk λc0=>?_));refine oS (S.Jc (m:=nc.take 1) (k:=[118,97,114]) (lv:=int .i64 (0)) (nc.take 2) rfl rfl rfl pH zk λc1=>oS (S.Jc (m:=nc.take 2) (k:=[101,108,101,109]) (lv:=int .i64 (1)) (nc.take 3) rfl rfl rfl pH zk λc2=>?_));refine oS (S.Jc (m:=nc.take 3) (k:=[110,101,103]) (lv:=int .i64 (1)) (nc.take 4) rfl rfl rfl pH zk λc3=>oS (S.Jc (m:=nc.take 4) (k:=[110,111,116]) (lv:=int .i64 (1)) (nc.take 5) rfl rfl rfl pH zk λc4=>?_));refine oS (S.Jc (m:=nc.take 5) (k:=[99,97,108,108]) (lv:=int .i64 (-1)) (nc.take 6) rfl rfl rfl pH zk λc5=>oS (S.Jc (m:=nc.take 6) (k:=[124,124]) (lv:=int .i64 (2)) (nc.take 7) rfl rfl rfl pH zk λc6=>?_));refine oS (S.Jc (m:=nc.take 7) (k:=[38,38]) (lv:=int .i64 (2)) (nc.take 8) rfl rfl rfl pH zk λc7=>oS (S.Jc (m:=nc.take 8) (k:=[61,61]) (lv:=int .i64 (2)) (nc.take 9) rfl rfl rfl pH zk λc8=>?_));refine oS (S.Jc (m:=nc.take 9) (k:=[33,61]) (lv:=int .i64 (2)) (nc.take 10) rfl rfl rfl pH zk λc9=>oS (S.Jc (m:=nc.take 10) (k:=[60]) (lv:=int .i64 (2)) (nc.take 11) rfl rfl rfl pH zk λc10=>?_));refine oS (S.Jc (m:=nc.take 11) (k:=[62]) (lv:=int .i64 (2)) (nc.take 12) rfl rfl rfl pH zk λc11=>oS (S.Jc (m:=nc.take 12) (k:=[60,61]) (lv:=int .i64 (2)) (nc.take 13) rfl rfl rfl pH zk λc12=>?_));refine oS (S.Jc (m:=nc.take 13) (k:=[62,61]) (lv:=int .i64 (2)) (nc.take 14) rfl rfl rfl pH zk λc13=>oS (S.Jc (m:=nc.take 14) (k:=[94]) (lv:=int .i64 (2)) (nc.take 15) rfl rfl rfl pH zk λc14=>?_));refine oS (S.Jc (m:=nc.take 15) (k:=[43]) (lv:=int .i64 (2)) (nc.take 16) rfl rfl rfl pH zk λc15=>oS (S.Jc (m:=nc.take 16) (k:=[45]) (lv:=int .i64 (2)) (nc.take 17) rfl rfl rfl pH zk λc16=>?_));refine oS (S.Jc (m:=nc.take 17) (k:=[42]) (lv:=int .i64 (2)) (nc.take 18) rfl rfl rfl pH zk λc17=>oS (S.Jc (m:=nc.take 18) (k:=[47]) (lv:=int .i64 (2)) (nc.take 19) rfl rfl rfl pH zk λc18=>?_));refine oS (S.Jc (m:=nc.take 19) (k:=[37]) (lv:=int .i64 (2)) (nc.take 20) rfl rfl rfl pH zk λc19=>?_);refine ea.db (H':=[(om,.map (Gd nc) c19)]) Ma ?_;refine Dg ?_;have hg:=N8 op
 by_cases h0:Xh op = -2;rw[zp h0] at hg;refine ca (Pure.Bn rfl rfl yb (show GL.Sa nc op=none from hg))<|ja ?_;refine oC rfl (λ_=>?_) (λhc=>by cases hc);refine Oe ?_;exact rR rfl (va rfl) Fc ⟨by rw[h0];rfl,rfl⟩;rw[zn h0] at hg;refine ca (Pure.Sq rfl rfl yb (show GL.Sa nc op=some (int .i64 (Xh op)) from hg))<|ja ?_;refine oC rfl (λhc=>by cases hc) λ_=>?_;refine ia ?_;exact rR rfl (va rfl) Fc ⟨rfl,rfl⟩
theorem jM(s:List UInt8):aa (KC B0 w0) 210 [str s] [] (gb (bool (Mf s))):=by
 refine cJ Tryz.func210 (n:=65) ?_;refine ia ?_;have Ho:∀ (h:Mf s=false) {e:Env} {C:Ctx} {n:Nat},e.ds=[]->e.s 2=bool false->oc C n [ResultVar.tmp 2] (gb (bool (Mf s))) .ret e []:=λh {e C n} hd he=>by rw[h];exact Na hd (rC (rT he fc) rN) rfl
 refine oB 7 rfl (λh1=>?_) λh1=>?_;have h0:s=[]:=zt h1;refine oa ?_;refine oC rfl (λ_=>?_) (λhc=>by cases hc);refine Oe ?_;exact Ho (by rw[h0];rfl) rfl rfl;have h0:s≠[]:=zf h1;refine za ?_;refine oB 12 rfl (λh2=>?_) λh2=>?_
 have hl:24<s.length:=by have:=zt h2;omega
 refine oa ?_;refine oC rfl (λ_=>?_) (λhc=>by cases hc);refine Oe ?_;exact Ho (by unfold Mf;rw[decide_eq_false zo];rfl) rfl rfl;have hl:s.length<=24:=by have:=zf h2;omega
 refine oa ?_;refine oB 16 rfl (λh3=>?_) λh3=>?_;have h4:s=[105,110]:=zt h3;refine oa ?_;refine oC rfl (λ_=>?_) (λhc=>by cases hc);refine Oe ?_;exact Ho (by rw[h4];rfl) rfl rfl;refine oa ?_;refine oB 20 rfl (λh5=>?_) λh5=>?_;have h4:s=[111,117,116]:=zt h5;refine oa ?_;refine oC rfl (λ_=>?_) (λhc=>by cases hc);refine Oe ?_;exact Ho (by rw[h4];rfl) rfl rfl;refine Dg ?_;refine oS (sF [] rfl NZ ?_);refine Dg ?_;refine oS (sF [_,_] rfl (nM kx s ra) ?_);refine oa ?_;have UF:=A' s;rw[h3,h5,Bool.or_false,Bool.or_false] at UF;refine sa (λhk=>?_) λhk=>?_;have ow:kx.contains s=true:=hk;refine Oe ?_
 exact Ho (by
  unfold Mf;rw[UF,ow,Bool.not_true,Bool.and_false,Pg]) rfl rfl
 have ow:kx.contains s=false:=hk;rw[ow] at UF;have TM:=p6 h0 hl UF;refine ja ?_;refine oL (λk ls H'=>∃ pre l1,s=pre++l1/\k=l1.length/\ls=[(0,str s),(26,int .i64 (s.length:Int)),(27,int .i64 (pre.length:Int))]/\H'=[]/\Mf s=Tp pre.length l1)
  ⟨s.length,_,_,⟨[],s,rfl,rfl,rfl,rfl,TM⟩,Qa,kb _⟩ ?_
 rintro k ls H' ⟨pre,l1,xb,rfl,rfl,rfl,hI⟩ j hj;have Dj:pre.length<=24:=by rw[xb,ua] at hl;omega
 refine Nd ?_;refine sa (λhc=>?_) λhc=>?_;rotate_left;have fa:=zf hc;rw[xb,ua] at fa
 obtain rfl:l1=[]:=by
  cases l1 with
  |nil=>rfl
  |cons a l2=>simp at fa;omega
 refine ia ?_;exact Na hj (va rfl) (by rw[hI];rfl);have fa:=zt hc;rw[xb,ua] at fa;obtain⟨a,l2,rfl⟩:∃ a l2,l1=a::l2:=by
  cases l1 with
  |nil=>simp at fa
  |cons a l2=>exact⟨a,l2,rfl⟩
 have rl:s[((pre.length:Nat):Int).toNat]? = some a:=by rw[Int.toNat_natCast,xb,List.getElem?_append_right (mc _),Nat.sub_self];rfl
 rw[Tp] at hI;have next:∀ {e:Env} {ds:List Deferred} (h:(if pre.length=0 then jk a else Gh a)=true),e.ds=ds->e.s 0=str s->e.s 26=int .i64 (s.length:Int)->e.s 27=int .i64 ((pre.length:Int)+1)->TN (λk ls H'=>∃ pre l1,s=pre++l1/\k=l1.length/\ls=[(0,str s),(26,int .i64 (s.length:Int)),(27,int .i64 (pre.length:Int))]/\H'=[]/\Mf s=Tp pre.length l1) (a::l2).length ds e []:=λ{e ds} h hd e0 e26 e27=>by rw[h,Bool.true_and] at hI;exact⟨l2.length,_,_,Nat.lt_succ_self _,⟨pre++[a],l2,by rw[xb];simp,rfl,rfl,rfl,by rw[hI,ua];rfl⟩,⟨e0,e26,e27.trans (bf (by simp)),trivial⟩,kb _,hd⟩
 refine ia ?_;refine ca (pI (c:=a) rfl rfl zo rl)<|za ?_;refine ea.cut [(0,str s),(3,int .i64 (pre.length:Int)),(4,bool (jk a)),(26,int .i64 (s.length:Int)),(27,int .i64 (pre.length:Int))] ?_ λj2 Ub=>?_;refine oB 34 rfl (λh6=>?_) λh6=>?_;refine Ux ?_;refine Oi ?_;exact⟨⟨rfl,rfl,Ed (by unfold jk;rw[show decide (97<=cv a)=true from h6,Bool.true_and]),rfl,rfl,trivial⟩,rfl,rfl⟩;refine oa ?_;exact⟨⟨rfl,rfl,Ed (by unfold jk;rw[show decide (97<=cv a)=false from h6,Pg]),rfl,rfl,trivial⟩,rfl,rfl⟩;refine ja ?_;refine oB 42 rfl (λh7=>?_) λh7=>?_;rotate_left
 ·have Vt:jk a=true:=by simpa using h7
  refine za ?_;refine oC rfl (λhc=>by cases hc) λ_=>?_;refine ia ?_;refine next ?_ ?_ ?_ ?_ ?_
  rw[Vt];unfold Gh;rw[Vt];split <;> rfl;exact Ub.trans hj;rfl;rfl;rfl
 have Ju:jk a=false:=by simpa using h7
 refine oa ?_;refine oB 45 rfl (λh8=>?_) λh8=>?_;have sx:pre.length=0:=by have:=zt h8;omega
 refine za ?_;refine oC rfl (λ_=>?_) (λhc=>by cases hc);refine Hj ?_;exact Ho (by rw[hI,zp sx,Ju,Pg]) (Ub.trans hj) rfl;have sx:¬ pre.length=0:=by have:=zf h8;omega
 rw[zn sx] at hI;refine Ux ?_;refine za ?_;refine oB 50 rfl (λh9=>?_) λh9=>?_;rotate_left
 ·have cN:decide (cv a=95)=true:=by simpa using h9
  refine za ?_;refine oC rfl (λhc=>by cases hc) λ_=>?_;refine ia ?_;refine next ?_ ?_ ?_ ?_ ?_
  rw[zn sx];unfold Gh;rw[cN,Bool.or_true];exact Ub.trans hj;rfl;rfl;rfl
 have cN:decide (cv a=95)=false:=by simpa using h9
 refine Ux ?_;refine oa ?_;refine oB 55 rfl (λMs=>?_) λMs=>?_
 have wT:decide (48<=cv a)=false:=by have:cv a<48:=zt Ms;exact decide_eq_false zo
 refine oa ?_;refine oC rfl (λ_=>?_) (λhc=>by cases hc);refine Hj ?_;exact Ho (by rw[hI];unfold Gh ze;rw[Ju,cN,wT];rfl) (Ub.trans hj) rfl;have wT:decide (48<=cv a)=true:=by have:¬ cv a<48:=zf Ms;exact Eg zo
 refine Ux ?_;refine za ?_;refine sa (λzT=>?_) λzT=>?_
 have uT:decide (cv a<=57)=false:=by have:57<cv a:=zt zT;exact decide_eq_false zo
 refine Hj ?_;exact Ho (by rw[hI];unfold Gh ze;rw[Ju,cN,uT,Bool.and_false];rfl) (Ub.trans hj) rfl;have uT:decide (cv a<=57)=true:=by have:¬ 57<cv a:=zf zT;exact Eg zo
 refine ia ?_;refine next ?_ ?_ ?_ ?_ ?_;rw[zn sx];unfold Gh ze;rw[wT,uT];simp;exact Ub.trans hj;rfl;rfl;rfl
end
end Go.Proofs.YtjolancjacdeaaaGreatDoor.Zg
