import Derived.Deep.WholeRow
import Derived.Test.YtmnjklgnhpnckaaGreatDoorBRowLB9
set_option linter.unusedVariables false
set_option linter.unusedSimpArgs false
set_option maxRecDepth 100000
set_option maxHeartbeats 4000000
open Go.GL (zk)
open List (perm_append_singleton not_mem_nil length_singleton)
open Nat (zero_le)
namespace Go.Proofs.YtmnjklgnhpnckaaGreatDoor
open Go.GL Go.RowKit Go.ea
variable{Hc:Heap}{T:List Tok}{Ua first:Array Value}{f:FuncId}{i sb:Nat}
attribute [local irreducible] wa Qa Ra ca Go.GL.Pure Ud xe od LQ Eb Tf Rh
def UR(l:List Ex):LV:=.list (l.map eb)
variable{B0:Nat}{w0:World}
theorem qno(sb:Nat)(T:List Tok)(hT:Nr T)(f:Nat)(hE:∀ g,g<f->UD B0 w0 sb T g)(i op:Nat)(r:rj (List Ex))(hi:i<=T.length)(ho:op<=100)(hr:nC T f i op=some r) :
  ca (KC B0 w0) 256 [ptr sb 0] [lb sb T i op] (mn sb T UR r):=by
 have hl:=hT.len;obtain⟨f,rfl⟩:∃ g,f=g+1:=by
  cases f with
  |zero=>rw[nC] at hr;cases hr
  |succ g=>exact⟨g,rfl⟩
 rw[nC] at hr;refine Xa Tryz.func256 rfl (n:=23) rfl rfl rfl ?_;refine Pj ?_;refine oS (sP [_,_] rfl pH (zE sb T i op [40] hl zo zo) (λv i1 Bc h1=>?_) λl er i1 Bc h1 e' Aa=>?_);rw[h1,ke] at hr;obtain⟨rfl,rfl,Vv,Lz⟩:=uv h1;refine oa ?_;obtain⟨r1,Ld⟩:=qk hr
 refine oL (λk ls H=>∃ (v:LV) (l:List Ex) (i2:Nat) (Ha:Heap),k<=f/\ls=[(0,ptr sb 0),(3,v)]/\H=lb sb T i2 (op+1)::Ha/\Acc 4 v (l.map eb) Ha []/\i2<=T.length/\l.length<=i2+1/\EA T k l i2 (op+1)=some r1)
  ⟨f,_,lb sb T (i+1) (op+1)::[],⟨Ob,[],i+1,_,Nb _,rfl,rfl,Acc.nil,by omega,by simp,Ld⟩,jb,Tb _⟩ ?_
 rintro k ls H ⟨v,l,i2,Ha,O3,rfl,rfl,kb,Zv,YC,hI⟩ j hj;obtain⟨k,rfl⟩:∃ k',k=k'+1:=by
  cases k with
  |zero=>rw[EA] at hI;cases hI
  |succ k=>exact⟨k,rfl⟩
 rw[EA] at hI;refine Bd ?_;refine Ui ?_;refine oS (sH [_,_] rfl pH (Xs sb T i2 (op+1) [[41]] hl zo (by simp)) ?_);refine Ga ?_;refine Ca (λhc=>?_) λhc=>?_;have Kn:Re T i2 [[41]]=false:=by simpa using hc
 rw[zn (by rw[Kn];decide)] at hI;refine Zi ?_;refine Zm ?_;refine ia (Pure.pt kb.elems)<|Ga ?_;refine Ca (λhd=>?_) λhd=>?_
 have CB:¬ l=[]:=by rintro rfl;have:=zt hd;simp at this
 rw[zn CB] at hI;refine Bd ?_;refine oS (sP [_,_] rfl pH (mJ sb T i2 (op+1) [44] hl zo) (λu i3 pg h3=>?_) λl er i3 pg h3 e' Aa=>?_);rw[h3,ke] at hI
 obtain⟨q1,q2,q3,rfl⟩:i2<=i3/\(true=true->i2<i3)/\(i2<=T.length->i3<=T.length)/\pg=op+1:=by have:=Rw T [44] i2 (op+1);rw[h3] at this;exact this
 have q4:=q3 Zv;refine wg ?_;refine Zm ?_;refine qa ?_;obtain⟨r2,Vd⟩:=qk hI;refine oS (sP [_] rfl pH (hE k zo _ _ r2 zo zo Vd) (λe2 i4 Lm h4=>?_) λl er i4 Lm h4 e' Aa=>?_);exact y7;rw[Vd,h4,kh] at hI;rw[Ld] at hr;cases hI;rw[kh] at hr;refine qd ?_;exact oc (Aa.trans hj) (by cases hr;rfl) Xc;rw[h3,kh] at hI;rw[Ld] at hr;cases hI;rw[kh] at hr;refine qd ?_;exact oc (Aa.trans hj) (by cases hr;rfl) Xc
 have CB:l=[]:=by have:=zf hd;simp at this;exact this
 rw[zp CB,ke] at hI;refine Kx ?_;obtain⟨r2,Vd⟩:=qk hI;refine oS (sP [_] rfl pH (hE k zo _ _ r2 zo zo Vd) (λe2 i4 Lm h4=>?_) λl er i4 Lm h4 e' Aa=>?_);exact y7;rw[Vd,h4,kh] at hI;rw[Ld] at hr;cases hI;rw[kh] at hr;refine qd ?_;exact oc (Aa.trans hj) (by cases hr;rfl) Xc;have Kn:Re T i2 [[41]]=true:=by simpa using hc
 rw[zp Kn] at hI;refine oa ?_;rw[Ld] at hr;cases hI;rw[ke] at hr;refine oS (sP [_,_] rfl pH (uE sb T i2 (op+1) [41] hl zo zo zo) (λu i3 pg h3=>?_) λl er i3 pg h3 e' Aa=>?_);rw[h3,ke] at hr;refine wg ?_;refine bA ?_;exact qf (v:=l) hj (rC (Gd (v:=v) rfl kb.sub) rN) (by cases hr;rfl) rfl Xc;rw[h3,kh] at hr;refine oi ?_;exact oc (Aa.trans hj) (by cases hr;rfl) Xc;exact uD
theorem qj0(sb:Nat)(T:List Tok)(hT:Nr T)(f:Nat)(hE:∀ g,g<f->UD B0 w0 sb T g)(i op:Nat)(r:rj Ex)(hi:i<=T.length)(ho:op<=100)(hr:uA T f i op=some r) :
  ca (KC B0 w0) 257 [ptr sb 0] [lb sb T i op] (mn sb T eb r):=by
 cases f with
 |zero=>rw[uA] at hr;cases hr
 |succ f=>exact rZ sb T hT f (hE f zo) i op r hi ho hr
theorem quP(hG:GW B0 w0)(sb:Nat)(T:List Tok)(hT:Nr T)(f:Nat)(hE:∀ g,g<f->UD B0 w0 sb T g)(i op:Nat)(r:rj Ex)(hi:i<=T.length)(ho:op<=100)(hr:WD T f i op=some r) :
  ca (KC B0 w0) 270 [ptr sb 0] [lb sb T i op] (mn sb T eb r):=by
 have hl:=hT.len;have Bu:(T.map Ws).length=T.length:=ab _;obtain⟨f,rfl⟩:∃ g,f=g+1:=by
  cases f with
  |zero=>rw[WD] at hr;cases hr
  |succ g=>exact⟨g,rfl⟩
 rw[WD] at hr;refine Xa Tryz.func270 rfl (n:=63) rfl rfl rfl ?_;refine Xd ?_;refine oS (Rc λb=>?_);refine Xh ?_;refine Ui ?_;refine oS (sH [_,_] rfl Fc (Xs sb T i op [[40]] hl zo (by simp)) ?_);refine Qc ?_;refine Ca (λhp=>?_) λhp=>?_;rw[zp hp] at hr;refine Bd ?_;refine oS (sP [_,_] rfl pH (zE sb T i op [40] hl zo zo) (λv i1 Bc h1=>?_) λl er i1 Bc h1 e' Aa=>?_);rw[h1,ke] at hr;obtain⟨rfl,rfl,Vv,Lz⟩:=uv h1;refine Xh ?_;obtain⟨r1,Ld⟩:=qk hr;refine oS (sP [_] rfl pH (hE f zo _ _ r1 zo zo Ld) (λv i2 Dg h2=>?_) λl er i2 Dg h2 e' Aa=>?_);rw[Ld,h2,ke] at hr;obtain⟨g1,_,g3,rfl⟩:=(Pw T f).1 0 _ _ _ (Ld.trans (congrArg some h2));have g4:=g3 zo;refine oS (Rc λb2=>?_);refine ja ?_;refine oS (sP [_,_] rfl Fc (uE sb T i2 (op+1) [41] hl zo zo zo) (λu i3 pg h3=>?_) λl er i3 pg h3 e' Aa=>?_);rw[h3,ke] at hr;refine ja ?_;exact qf rfl (rC (rA rfl Bb rfl ld) rN) (by cases hr;rfl) rfl (Gg Xc);rw[h3,kh] at hr;refine oi ?_;exact oc (Aa.trans rfl) (by cases hr;rfl) Xc;rw[Ld,h2,kh] at hr;refine oi ?_;exact oc (Aa.trans rfl) (by cases hr;rfl) Xc;exact uD;have Jz:Re T i [[40]]=false:=hp;rw[zn (by rw[Jz];decide)] at hr;refine qa ?_;refine Wz [(0,ptr sb 0),(2,ptr b 0),(38,bool (decide (uT T i=1)))] ?_ λj hj=>?_;refine Aq ?_;refine LQ.aI 25 rfl (λh=>?_) λh=>?_;have za:i<T.length:=by have:=zt h;omega
 refine Ga ?_;refine qP (xR (ve:=Ws T[i]) (cs:=[_,_,_]) rfl rfl zo (rn _ _ _ za) rfl rfl) rfl ?_;refine Ga ?_;exact⟨⟨rfl,rfl,Ae (by rw[uT,di za]),trivial⟩,rfl,rfl⟩;have Es:T.length<=i:=by have:=zf h;omega
 refine Ga ?_;exact⟨⟨rfl,rfl,Ae (by rw[uT,List.getElem?_eq_none Es];rfl),trivial⟩,rfl,rfl⟩
 skip
 refine Ca (λhk=>?_) λhk=>?_;rw[zp (zt hk)] at hr;refine Bd ?_;refine oS (sP [_] rfl pH (qi4 hG sb T hT i op zo) (λn i1 Bc h1=>?_) λl er i1 Bc h1 e' Aa=>?_);rw[h1,ke] at hr;refine Ga ?_;exact qf (v:=.mk We n [] []) hj (rC (rA (k:=4) rfl Bb rfl (vA (bs:=[_,_,_,.list []]) ⟨vR _,vR _,vR _,vN,trivial⟩)) rN) (by cases hr;rfl) (by rw[BA];rfl) (Pb Fc Vc);rw[h1,kh] at hr;refine oi ?_;exact oc (Aa.trans hj) (by cases hr;rfl) Xc;rw[zn (zf hk)] at hr;refine oa ?_;refine oS (sP [_,_] rfl pH (Im sb T i op 2 hl zo) (λs i1 Bc h1=>?_) λl er i1 Bc h1 e' Aa=>?_);rw[h1,ke] at hr;obtain⟨rfl,rfl,t,ht,_,_⟩:=yE h1;have:=KI ht;refine oa ?_;refine Ui ?_;refine oS (sH [_,_] rfl pH (Xs sb T (i+1) Bc [[91]] hl zo (by simp)) ?_);refine Qc ?_;refine Ca (λhx=>?_) λhx=>?_;rw[zp hx] at hr;obtain⟨r1,Ld⟩:=qk hr;refine Bd ?_;refine oS (sP [_] rfl pH (qj0 sb T hT f (λg hg=>hE g zo) (i+1) Bc r1 zo zo Ld) (λe2 i2 Dg h2=>?_) λl er i2 Dg h2 e' Aa=>?_);rw[Ld,h2,ke] at hr;refine Ui ?_;refine Ga ?_;exact qf (v:=.mk ij 0 s [e2]) hj (rC (rA rfl Bb rfl ld) rN) (by cases hr;rfl) (by rw[BA];rfl) (Pb Fc Vc);exact wD;have Cn:Re T (i+1) [[91]]=false:=hx;rw[zn (by rw[Cn];decide)] at hr;refine Bd ?_;refine Ui ?_;refine oS (sH [_,_] rfl pH (Xs sb T (i+1) Bc [[40]] hl zo (by simp)) ?_);refine Qc ?_;refine Ca (λhy=>?_) λhy=>?_;rw[zp hy] at hr;obtain⟨r1,Ld⟩:=qk hr;refine Bd ?_;refine oS (sP [_] rfl pH (qno sb T hT f (λg hg=>hE g zo) (i+1) Bc r1 zo zo Ld) (λe2 i2 Dg h2=>?_) λl er i2 Dg h2 e' Aa=>?_);rw[Ld,h2,ke] at hr;refine Ga ?_;exact qf (v:=.mk Of 0 s e2) hj (rC (rA rfl Bb rfl ld) rN) (by cases hr;rfl) (by rw[BA];rfl) (Pb Fc Vc);exact wD;have hy':Re T (i+1) [[40]]=false:=hy;rw[zn (by rw[hy'];decide)] at hr;refine ja ?_;exact qf (v:=.mk Bf 0 s []) hj (rC (rA (k:=4) rfl Bb rfl (vA (bs:=[_,_,_,.list []]) ⟨vR _,vR _,vR _,vN,trivial⟩)) rN) (by cases hr;rfl) (by rw[BA];rfl) (Pb Fc Vc);rw[h1,kh] at hr;refine oi ?_;exact oc (Aa.trans hj) (by cases hr;rfl) Xc
def Qz:MapEntry:={ key:=.string ⟨#[45]⟩,val:=.string ⟨#[110,101,103]⟩,born:=0 }
def dz:MapEntry:={ key:=.string ⟨#[33]⟩,val:=.string ⟨#[110,111,116]⟩,born:=1 }
def qzN(B0:Nat)(w0:World)(sb:Nat)(T:List Tok)(f:Nat):Prop:=
 ∀ i op r,i<=T.length->op<=100->ry T f i op=some r->ca (KC B0 w0) 252 [ptr sb 0] [lb sb T i op] (mn sb T eb r)
def NO(T:List Tok)(i:Nat)(seen:Array Nat):Prop:=
 seen=#[]∨(seen=#[0]/\Re T i [[45]]=false)∨(seen=#[1]/\Re T i [[33]]=false)∨((seen=#[0,1]∨seen=#[1,0])/\Re T i [[45]]=false/\Re T i [[33]]=false)
theorem qsh{seen:Array Nat}(h:NO T i seen)(ho:#[Qz,dz].filter (λe=>!seen.contains e.born)=#[]):Re T i [[45]]=false/\Re T i [[33]]=false:=by have h1:=Array.filter_eq_empty_iff.1 ho Qz (by simp);have h2:=Array.filter_eq_empty_iff.1 ho dz (by simp);rcases h with rfl|⟨rfl,_⟩|⟨rfl,_⟩|⟨_,h3,h4⟩;simp[Qz] at h1;simp[dz] at h2;simp[Qz] at h1;exact⟨h3,h4⟩
theorem qsn{seen:Array Nat}{e:MapEntry}(h:NO T i seen)(he:e∈(#[Qz,dz].filter λe=>!seen.contains e.born).toList) :
  seen.size<2/\((e=Qz/\(Re T i [[45]]=false->NO T i (seen.push 0)))∨(e=dz/\(Re T i [[33]]=false->NO T i (seen.push 1)))):=by
 have Aa:=Array.mem_filter.1 (Array.mem_toList_iff.1 he);have cK:e=Qz∨e=dz:=by simpa using Aa.1
 have AH:=Aa.2;rcases h with rfl|⟨rfl,h1⟩|⟨rfl,h1⟩|⟨rfl|rfl,_,_⟩;rcases cK with rfl|rfl;exact⟨by decide,.inl ⟨rfl,λh=>.inr (.inl ⟨rfl,h⟩)⟩⟩;exact⟨by decide,.inr ⟨rfl,λh=>.inr (.inr (.inl ⟨rfl,h⟩))⟩⟩;rcases cK with rfl|rfl;simp[Qz] at AH;exact⟨by decide,.inr ⟨rfl,λh=>.inr (.inr (.inr ⟨.inl rfl,h1,h⟩))⟩⟩;rcases cK with rfl|rfl;exact⟨by decide,.inl ⟨rfl,λh=>.inr (.inr (.inr ⟨.inr rfl,h,h1⟩))⟩⟩;simp[dz] at AH;rcases cK with rfl|rfl;simp[Qz] at AH;simp[dz] at AH;rcases cK with rfl|rfl;simp[Qz] at AH;simp[dz] at AH
theorem qri(h:Re T i [[33]]=true):Re T i [[45]]=false:=by
 unfold Re at h ⊢;split at h;rename_i t ht;simp only[Yc] at h;have h2:t.text=[33]:=by simpa using h.2
 rw[h2];simp;cases h
theorem qrz(hG:GW B0 w0)(sb:Nat)(T:List Tok)(hT:Nr T):∀ f:Nat,(∀ g,g<f->UD B0 w0 sb T g)->qzN B0 w0 sb T f:=by
 intro f;induction f with
 |zero=>intro _ i op r _ _ hr;rw[ry] at hr;cases hr
 |succ f ih=>
  intro hE i op r hi ho hr;have hl:=hT.len;rw[ry] at hr;refine Xa Tryz.func252 rfl (n:=36) rfl rfl rfl ?_;refine Xd ?_;refine oS (Rc λb=>?_);refine wg ?_;refine oS (S.makeMap λmb=>oS (S.insert (k:=⟨#[45]⟩) (v:=.string ⟨#[110,101,103]⟩) (kt:=9) (el:=9) zk zk rfl rfl rfl pH (by simp) ?_));refine oS (S.insert (k:=⟨#[33]⟩) (v:=.string ⟨#[110,111,116]⟩) (kt:=9) (el:=9) zk zk rfl rfl rfl pH (λe he=>⟨⟨#[45]⟩,by simp at he;rw[he],by decide⟩)<|ia (pM (lv:=.atom _) rfl)<|oS (S.range (kt:=9) (el:=9) zk rfl Bb λrb=>?_));refine qa ?_
  refine oL (λk ls H=>∃ seen:Array Nat,k=2-seen.size/\ls=[(0,ptr sb 0),(2,ptr b 0),(8,ptr rb 0)]/\H=[(rb,.obj (.mapIter (some mb) 2 seen 2)),(mb,.obj (.map #[Qz,dz] 2)),(b,.cells 220 [str [],int .u32 0,str [],Ob]),lb sb T i op]/\NO T i seen)
   ⟨_,_,_,⟨#[],rfl,rfl,rfl,.inl rfl⟩,jb,Tb _⟩ ?_
  rintro k ls H ⟨seen,rfl,rfl,rfl,hS⟩ j hj;refine Xd ?_;refine oS (S.next (F:=[(b,.cells 220 [str [],int .u32 0,str [],Ob]),lb sb T i op]) rfl Kb da (λhov=>?_) λen MH=>?_);obtain⟨Kz,cx⟩:=qsh hS hov;rw[zn (by rw[Kz];decide),zn (by rw[cx];decide)] at hr;refine qa ?_;refine Ca (λPt=>?_) λPt=>?_;cases Pt;refine oa ?_;refine oS (sP [_] rfl Uz (quP hG sb T hT f (λg hg=>hE g zo) i op r hi ho hr) (λv i1 Bc h1=>?_) λl er i1 Bc h1 e' Aa=>?_);refine Ga ?_;exact qf (v:=v) hj (rC (rA rfl Bb rfl ld) rN) h1 rfl (Pb Fc Vc);refine oi ?_;exact oc (Aa.trans hj) h1 Xc;obtain⟨gd,⟨rfl,oq⟩|⟨rfl,oq⟩⟩:=qsn hS MH;refine qa ?_;refine Ca (λPt=>?_) λPt=>?_;refine Zi ?_;refine ia (Pure.entry (en:=Qz) (stamp:=0) rfl Bb xf rfl (by show(seen.push 0).back? = _;simp) rfl) ?_;refine oa ?_;refine Ui ?_;refine oS (sH [_,_] rfl Uz (Xs sb T i op [[45]] hl zo (by simp)) ?_);refine Qc ?_;refine Ca (λhc=>?_) λhc=>?_;rw[zp hc] at hr;refine Bd ?_;refine oS (sP [_,_] rfl pH (zE sb T i op [45] hl zo zo) (λv i1 Bc h1=>?_) λl er i1 Bc h1 e' Aa=>?_);rw[h1,ke] at hr;obtain⟨rfl,rfl,Vv,Lz⟩:=uv h1;refine Xh ?_;obtain⟨r1,Ld⟩:=qk hr;refine oS (sP [_] rfl pH (ih (λg hg=>hE g zo) _ _ r1 zo zo Ld) (λe2 i2 Dg h2=>?_) λl er i2 Dg h2 e' Aa=>?_);rw[Ld,h2,ke] at hr;obtain⟨g1,_,g3,rfl⟩:=(Pw T f).2.2.1 _ _ _ (Ld.trans (congrArg some h2));have g4:=g3 zo;refine Ui ?_;refine Ga ?_;refine oS (Rc λb2=>?_);refine ja ?_
  exact qf (v:=.mk tg 0 [] [e2]) hj (rC (rA rfl Bb rfl ld) rN) (by cases hr;rfl) (by rw[BA];rfl) (by
   rw[show(((op+1:Nat):Int)-1)=((op+1-1:Nat):Int) by omega];exact Pb Fc Vc)
  exact wD;rw[h1,kh] at hr;refine qd ?_;exact oc (Aa.trans hj) (by cases hr;rfl) Xc;refine qa ?_;exact⟨_,_,_,by have:=gd;simp;omega,⟨seen.push 0,rfl,rfl,rfl,oq hc⟩,jb,Pb Fc (Pb Fc (Pb Fc Xc)),hj⟩;cases Pt;refine qa ?_;refine Ca (λPt=>?_) λPt=>?_;refine Zi ?_;refine ia (Pure.entry (en:=dz) (stamp:=1) rfl Bb xf rfl (by show(seen.push 1).back? = _;simp) rfl) ?_;refine oa ?_;refine Ui ?_;refine oS (sH [_,_] rfl Uz (Xs sb T i op [[33]] hl zo (by simp)) ?_);refine Qc ?_;refine Ca (λhc=>?_) λhc=>?_;rw[zn (by rw[qri hc];decide),zp hc] at hr;refine Bd ?_;refine oS (sP [_,_] rfl pH (zE sb T i op [33] hl zo zo) (λv i1 Bc h1=>?_) λl er i1 Bc h1 e' Aa=>?_);rw[h1,ke] at hr;obtain⟨rfl,rfl,Vv,Lz⟩:=uv h1;refine Xh ?_;obtain⟨r1,Ld⟩:=qk hr;refine oS (sP [_] rfl pH (ih (λg hg=>hE g zo) _ _ r1 zo zo Ld) (λe2 i2 Dg h2=>?_) λl er i2 Dg h2 e' Aa=>?_);rw[Ld,h2,ke] at hr;obtain⟨g1,_,g3,rfl⟩:=(Pw T f).2.2.1 _ _ _ (Ld.trans (congrArg some h2));have g4:=g3 zo;refine Ui ?_;refine Ga ?_;refine oS (Rc λb2=>?_);refine ja ?_
  exact qf (v:=.mk Uf 0 [] [e2]) hj (rC (rA rfl Bb rfl ld) rN) (by cases hr;rfl) (by rw[BA];rfl) (by
   rw[show(((op+1:Nat):Int)-1)=((op+1-1:Nat):Int) by omega];exact Pb Fc Vc)
  exact wD;rw[h1,kh] at hr;refine qd ?_;exact oc (Aa.trans hj) (by cases hr;rfl) Xc;refine qa ?_;exact⟨_,_,_,by have:=gd;simp;omega,⟨seen.push 1,rfl,rfl,rfl,oq hc⟩,jb,Pb Fc (Pb Fc (Pb Fc Xc)),hj⟩;cases Pt
inductive Tz (sb:Nat):Nat->FuncId->Array Value->Array Value->Heap->Prop
 |un:Tz sb 6 252 #[.pointer (some ⟨sb,0,none⟩)] #[] []
 |bin {k bo bs bp bn:Nat} {f:FuncId} {first Ua:Array Value} {H:Heap} (h:Tz sb (k+1) f first Ua H):Tz sb k 272 #[] #[.pointer (some ⟨bo,0,none⟩),.pointer (some ⟨bs,0,none⟩),.pointer (some ⟨bp,0,none⟩),.pointer (some ⟨bn,0,none⟩)]
   ((bo,.cells 249 [.atom (.func (.func f) first Ua)])::(bs,.cells 104 [ptr sb 0])::(bp,.cells 30 [.list ((fi k).map str)])::(bn,.cells 4 [bool (decide ((k:Int)=2))])::H)
def AW{A:Type}(sb:Nat)(T:List Tok)(enc:A->LV)(Hc:Heap)(cn:rj A)(r:re)(H:Heap):Prop:=match cn with
 |.ok v i op=>r=.ret (enc v)/\H=lb sb T i op::Hc
 |.err l e=>r=.panic (wM l e)/\∃ i op:Nat,H=lb sb T i op::Hc
def XF(B0:Nat)(w0:World)(sb:Nat)(T:List Tok)(f:Nat):Prop:=
 ∀ k fn first Ua Hc i op r,Tz sb k fn first Ua Hc->i<=T.length->op<=100->xg T f k i op=some r ->
  ca (KC B0 w0) fn (first.toList.map .atom++Ua.toList.map .atom) (lb sb T i op::Hc) (AW sb T eb Hc r)
section steps
variable{C:Ctx}{e:Env}{H:Heap}{dst:Option Nat}{ty:TypeId}{pos:String}{ka:Array Edge}{g:Option (Nat×Bool)}{K:LV->Heap->Prop}{X:List PanicEntry->Heap->Prop}
theorem qzT(a b:List LV){e:Env}:a++([]:List Operand).map e.ev++b=a++b:=by simp
theorem S.jo{A:Type}{enc:A->LV}{cn:rj A}{sb i op:Nat}{T:List Tok}{fo:Operand}{f:FuncId} [Gb C.P f]{first Ua:Array Value}{yg:Array TypeId}{Hc F:Heap}(hf:e.ev fo=.atom (.func (.func f) first Ua))(hp:zd (lb sb T i op) H (F++Hc))
  (hc:ca C f (first.toList.map .atom++Ua.toList.map .atom) (lb sb T i op::Hc) (AW sb T enc Hc cn)) (hk:∀ v i' Ia,cn=.ok v i' Ia->K (enc v) (lb sb T i' Ia::(F++Hc))) (hx:∀ l er i' Ia,cn=.err l er->X (wM l er) (lb sb T i' Ia::Hc++F)) :
  Ra C ⟨dst,.call { callee:=.value fo,args:=#[],argTypes:=yg },ty,pos,ka,g⟩ e H K X:=by
 have Jz:H.Perm ((lb sb T i op::Hc)++F):=hp.trans (Sr _ Nh);refine Ra.Oc (K:=λv H'=>∃ u i' Ia,cn=.ok u i' Ia/\v=enc u/\H'=lb sb T i' Ia::Hc++F) (S.yl (H1:=lb sb T i op::Hc) (F:=F) [] hf (qzT _ _) Jz hc ?_ ?_) ?_;intro v H' h;cases hr:cn with
 |ok u i' Ia=>rw[hr] at h;obtain⟨h1,rfl⟩:=h;cases h1;exact⟨u,i',Ia,rfl,rfl,rfl⟩
 |err l er=>rw[hr] at h;obtain⟨h1,_⟩:=h;cases h1
 intro ch H' h;cases hr:cn with
 |ok u i' Ia=>rw[hr] at h;obtain⟨h1,_⟩:=h;cases h1
 |err l er=>rw[hr] at h;obtain⟨h1,i',Ia,rfl⟩:=h;cases h1;exact hx _ _ _ _ hr
 rintro v H' ⟨u,i',Ia,h1,rfl,rfl⟩;exact⟨_,_,vR _,⟨[],by simpa using Nh⟩,hk u i' Ia h1⟩
end steps
theorem Tz.enter{k:Nat}{H:Heap}(h:Tz sb k f first Ua H):Gb Tryz.prog f:=by cases h <;> infer_instance
theorem Tz.le{k:Nat}{H:Heap}(h:Tz sb k f first Ua H):k<=6:=by
 induction h with
 |un=>exact Nb _
 |bin _ ih=>omega
theorem qvH{s:Nat×ga}{A B:Heap}:HSub (s::(B++Hc)) ((s::Hc++[])++(A++B)):=by refine⟨A,?_⟩;have h1:(Hc++(A++B)).Perm ((B++Hc)++A):=Nh.trans (by rw[Pc];exact Nh);simpa using Sr s h1
theorem qob{s u:Nat×ga}{A:Heap}:HSub (u::s::(A++Hc)) (u::((s::([]++Hc))++A)):=by refine⟨[],?_⟩;have h1:(Hc++A).Perm (A++Hc):=Nh;simpa using Sr u (Sr s h1)
theorem HSub.LF{H' l1 l2:Heap}(h:HSub H' l2):HSub H' (l1++l2):=by obtain⟨G,hG⟩:=h;refine⟨G++l1,?_⟩;have h1:(l1++l2).Perm (l2++l1):=Nh;have h2:(l2++l1).Perm ((H'++G)++l1):=hG.append_right l1;simpa using h1.trans h2
theorem qp0{a:Nat×ga}{l1 l2:Heap}:([]++(l1++a::l2)).Perm ([a]++(l1++l2)):=by exact(List.nil_append _).symm▸List.perm_middle
theorem qwy(k:Nat):(fi k).length<=1000:=by unfold fi;split <;> simp
theorem quy(h:i<T.length):rG T i=T[i].text:=by rw[rG,di h]
variable{B0:Nat}{w0:World}
theorem qwW(hG:GW B0 w0)(sb:Nat)(T:List Tok)(hT:Nr T)(f:Nat)(hC:∀ g,g<f->XF B0 w0 sb T g)(k bo bs bp bn:Nat)(fn:FuncId)(first Ua:Array Value)(Hc:Heap)(Hn:Tz sb (k+1) fn first Ua Hc)(i op:Nat)(r:rj Ex)
  (hi:i<=T.length) (ho:op<=100) (hr:xg T f k i op=some r) :
  ca (KC B0 w0) 272 [ptr bo 0,ptr bs 0,ptr bp 0,ptr bn 0] (lb sb T i op::(bo,.cells 249 [.atom (.func (.func fn) first Ua)])::(bs,.cells 104 [ptr sb 0])::(bp,.cells 30 [.list ((fi k).map str)])::(bn,.cells 4 [bool (decide ((k:Int)=2))])::Hc)
   (AW sb T eb ((bo,.cells 249 [.atom (.func (.func fn) first Ua)])::(bs,.cells 104 [ptr sb 0])::(bp,.cells 30 [.list ((fi k).map str)])::(bn,.cells 4 [bool (decide ((k:Int)=2))])::Hc) r):=by
 have hl:=hT.len;have JM:=Hn.le;have MH:=Hn.enter;obtain⟨f,rfl⟩:∃ g,f=g+1:=by
  cases f with
  |zero=>rw[xg] at hr;cases hr
  |succ g=>exact⟨g,rfl⟩
 rw[xg,zn zo] at hr;obtain⟨r1,Ld⟩:=qk hr;refine Xa Tryz.func272 rfl (n:=38) rfl rfl rfl ?_;refine Xd ?_;refine oS (Rc λb=>?_);refine ja ?_;refine oS (S.jo (F:=[(b,_),(bo,_),(bs,_),(bp,_),(bn,_)]) (Hc:=Hc) rfl Fc (hC f zo _ _ _ _ _ _ _ r1 Hn hi ho Ld) (λv i1 Bc h1=>?_) λl er i1 Bc h1 e' Aa=>?_);rw[Ld,h1,ke] at hr;obtain⟨g1,_,g3,rfl⟩:=(Pw T f).1 _ _ _ _ (Ld.trans (congrArg some h1));have g4:=g3 hi;refine oS (Rc λb5=>?_);refine Ga ?_
 refine oL (λq ls H=>∃ (ex:Ex) (i2:Nat),q<=f/\ls=[(0,ptr bo 0),(1,ptr bs 0),(2,ptr bp 0),(3,ptr bn 0),(4,ptr b 0),(5,ptr b5 0)] /\
   H=(b5,.cells 220 [str (Zh ex),int .u32 (Mq ex),str (Pq ex),.list (Ip ex)])::lb sb T i2 Bc::(b,.cells 220 [str [],int .u32 0,str [],Ob])::([(bo,.cells 249 [.atom (.func (.func fn) first Ua)]),(bs,.cells 104 [ptr sb 0]),(bp,.cells 30 [.list ((fi k).map str)]),(bn,.cells 4 [bool (decide ((k:Int)=2))])]++Hc)/\i2<=T.length/\wC T q k ex i2 Bc=some r)
  ⟨f,_,_,⟨v,i1,Nb _,rfl,rfl,g4,hr⟩,jb,Tb _⟩ ?_
 rintro q ls H ⟨ex,i2,hqf,rfl,rfl,Zv,hI⟩ j hj;obtain⟨q,rfl⟩:∃ q',q=q'+1:=by
  cases q with
  |zero=>rw[wC] at hI;cases hI
  |succ q=>exact⟨q,rfl⟩
 rw[wC] at hI;refine ja ?_;refine oS (sH [_,_] rfl Fc (Xs sb T i2 Bc (fi k) hl zo (qwy k)) ?_);refine Qc ?_;refine Ca (λhc=>?_) λhc=>?_;have za:=nk hc;rw[zp hc] at hI;refine qa ?_;refine Wz [(0,ptr bo 0),(1,ptr bs 0),(2,ptr bp 0),(3,ptr bn 0),(4,ptr b 0),(5,ptr b5 0),(6,str (rG T i2))] ?_ λj2 tc=>?_;refine Aq ?_;refine qP (xR (ve:=Ws T[i2]) (cs:=[_,_,_]) rfl rfl zo (rn _ _ _ za) rfl rfl) rfl ?_;refine Ga ?_;exact⟨⟨rfl,rfl,rfl,rfl,rfl,rfl,LO (quy za).symm,trivial⟩,rfl,rfl⟩;obtain⟨r2,Vd⟩:=qk hI;refine ja ?_;refine bj (m:=7) rfl [(bo,.cells 249 [.atom (.func (.func fn) first Ua)])] ?_;have Bh:HSub [(bo,.cells 249 [.atom (.func (.func fn) first Ua)])] (lb sb T (i2+1) Bc::(b5,.cells 220 [str (Zh ex),int .u32 (Mq ex),str (Pq ex),.list (Ip ex)])::(b,.cells 220 [str [],int .u32 0,str [],Ob])::(bo,.cells 249 [.atom (.func (.func fn) first Ua)])::[(bs,.cells 104 [ptr sb 0]),(bp,.cells 30 [.list ((fi k).map str)]),(bn,.cells 4 [bool (decide ((k:Int)=2))])]++Hc):=Pb Uz Vc;refine Eb.take (i:=0) Bh rfl zk zk zk rfl (pM (lv:=.atom _) rfl)<|Eb.take (i:=2) Bh rfl zk zk zk rfl (pL (c:=.atom _) rfl Bb rfl)<|aL ?_ Bh;refine Tp (i:=1) (j:=3) zk ?_ ?_;have Kt:(lb sb T (i2+1) Bc::(b5,ga.cells 220 [str (Zh ex),int .u32 (Mq ex),str (Pq ex),.list (Ip ex)])::(b,ga.cells 220 [str [],int .u32 0,str [],Ob])::([(bo,ga.cells 249 [.atom (.func (.func fn) first Ua)]),(bs,ga.cells 104 [ptr sb 0]),(bp,ga.cells 30 [.list ((fi k).map str)]),(bn,ga.cells 4 [bool (decide ((k:Int)=2))])]++Hc)).Perm ((lb sb T (i2+1) Bc::Hc)++[(b5,ga.cells 220 [str (Zh ex),int .u32 (Mq ex),str (Pq ex),.list (Ip ex)]),(b,ga.cells 220 [str [],int .u32 0,str [],Ob]),(bo,ga.cells 249 [.atom (.func (.func fn) first Ua)]),(bs,ga.cells 104 [ptr sb 0]),(bp,ga.cells 30 [.list ((fi k).map str)]),(bn,ga.cells 4 [bool (decide ((k:Int)=2))])]):=Sr _ (show([(b5,ga.cells 220 [str (Zh ex),int .u32 (Mq ex),str (Pq ex),.list (Ip ex)]),(b,ga.cells 220 [str [],int .u32 0,str [],Ob]),(bo,ga.cells 249 [.atom (.func (.func fn) first Ua)]),(bs,ga.cells 104 [ptr sb 0]),(bp,ga.cells 30 [.list ((fi k).map str)]),(bn,ga.cells 4 [bool (decide ((k:Int)=2))])]++Hc).Perm (Hc++[(b5,ga.cells 220 [str (Zh ex),int .u32 (Mq ex),str (Pq ex),.list (Ip ex)]),(b,ga.cells 220 [str [],int .u32 0,str [],Ob]),(bo,ga.cells 249 [.atom (.func (.func fn) first Ua)]),(bs,ga.cells 104 [ptr sb 0]),(bp,ga.cells 30 [.list ((fi k).map str)]),(bn,ga.cells 4 [bool (decide ((k:Int)=2))])]) from Nh);refine lH rfl rfl (pG (Ab:=[_,_,_,_]) rfl xf rfl rfl)<|lO 3 (lS (H1:=lb sb T (i2+1) Bc::Hc) (F:=[(b5,ga.cells 220 [str (Zh ex),int .u32 (Mq ex),str (Pq ex),.list (Ip ex)]),(b,ga.cells 220 [str [],int .u32 0,str [],Ob]),(bo,ga.cells 249 [.atom (.func (.func fn) first Ua)]),(bs,ga.cells 104 [ptr sb 0]),(bp,ga.cells 30 [.list ((fi k).map str)]),(bn,ga.cells 4 [bool (decide ((k:Int)=2))])]) rfl (.inl rfl) rfl (Kt) (Pb Bj Vc) (S.jo (F:=[]) (Hc:=Hc) rfl pH (hC q zo _ _ _ _ _ _ _ r2 Hn zo ho Vd) (λe2 i3 pg h3=>?_) λl er i3 pg h3 e' Aa=>?_));rw[Vd,h3,ke] at hI;obtain⟨q1,q2,q3,rfl⟩:=(Pw T q).1 _ _ _ _ (Vd.trans (congrArg some h3));have q4:=q3 zo;refine lO 4 (lS (H1:=[]) (F:=(lb sb T i3 pg::([]++Hc))++[(b5,ga.cells 220 [str (Zh ex),int .u32 (Mq ex),str (Pq ex),.list (Ip ex)]),(b,ga.cells 220 [str [],int .u32 0,str [],Ob]),(bo,ga.cells 249 [.atom (.func (.func fn) first Ua)]),(bs,ga.cells 104 [ptr sb 0]),(bp,ga.cells 30 [.list ((fi k).map str)]),(bn,ga.cells 4 [bool (decide ((k:Int)=2))])]) rfl (.inl rfl) rfl Kb (HSub.LF (Pb Bj Vc)) (sL (es:=[eb ex,eb e2]) [_,_] rfl (Hd rfl rfl (Hd rfl rfl Ek)) rfl rfl rfl ?_))
 refine lO 5 (lH rfl rfl (pB _ (cs:=[_,_,_,_]) rfl) ?_);refine lO 6 (lS (H1:=[(b5,ga.cells 220 [str (Zh ex),int .u32 (Mq ex),str (Pq ex),.list (Ip ex)])]) (F:=(lb sb T i3 pg::([]++Hc))++[(b,ga.cells 220 [str [],int .u32 0,str [],Ob]),(bo,ga.cells 249 [.atom (.func (.func fn) first Ua)]),(bs,ga.cells 104 [ptr sb 0]),(bp,ga.cells 30 [.list ((fi k).map str)]),(bn,ga.cells 4 [bool (decide ((k:Int)=2))])]) rfl (.inl rfl) rfl qp0 (HSub.LF (Pb Fc Vc)) (sS (Ab:=[_,_,_,_]) rfl pH rfl rfl rfl rfl rfl ?_));refine Xm ?_;refine cW (H':=(b5,ga.cells 220 [str (rG T i2),int .u32 0,str [],.list [eb ex,eb e2]])::lb sb T i3 pg::(b,ga.cells 220 [str [],int .u32 0,str [],Ob])::([(bo,ga.cells 249 [.atom (.func (.func fn) first Ua)]),(bs,ga.cells 104 [ptr sb 0]),(bp,ga.cells 30 [.list ((fi k).map str)]),(bn,ga.cells 4 [bool (decide ((k:Int)=2))])]++Hc)) (qob (A:=[(b,ga.cells 220 [str [],int .u32 0,str [],Ob]),(bo,ga.cells 249 [.atom (.func (.func fn) first Ua)]),(bs,ga.cells 104 [ptr sb 0]),(bp,ga.cells 30 [.list ((fi k).map str)]),(bn,ga.cells 4 [bool (decide ((k:Int)=2))])])) ?_;refine ja ?_;refine Ca (λAh=>?_) λAh=>?_;exact iN;exact lN;exact B7;have Kt:(lb sb T (i2+1) Bc::(b5,ga.cells 220 [str (Zh ex),int .u32 (Mq ex),str (Pq ex),.list (Ip ex)])::(b,ga.cells 220 [str [],int .u32 0,str [],Ob])::([(bo,ga.cells 249 [.atom (.func (.func fn) first Ua)]),(bs,ga.cells 104 [ptr sb 0]),(bp,ga.cells 30 [.list ((fi k).map str)]),(bn,ga.cells 4 [bool (decide ((k:Int)=2))])]++Hc)).Perm ((lb sb T (i2+1) Bc::Hc)++[(b5,ga.cells 220 [str (Zh ex),int .u32 (Mq ex),str (Pq ex),.list (Ip ex)]),(b,ga.cells 220 [str [],int .u32 0,str [],Ob]),(bo,ga.cells 249 [.atom (.func (.func fn) first Ua)]),(bs,ga.cells 104 [ptr sb 0]),(bp,ga.cells 30 [.list ((fi k).map str)]),(bn,ga.cells 4 [bool (decide ((k:Int)=2))])]):=Sr _ (show([(b5,ga.cells 220 [str (Zh ex),int .u32 (Mq ex),str (Pq ex),.list (Ip ex)]),(b,ga.cells 220 [str [],int .u32 0,str [],Ob]),(bo,ga.cells 249 [.atom (.func (.func fn) first Ua)]),(bs,ga.cells 104 [ptr sb 0]),(bp,ga.cells 30 [.list ((fi k).map str)]),(bn,ga.cells 4 [bool (decide ((k:Int)=2))])]++Hc).Perm (Hc++[(b5,ga.cells 220 [str (Zh ex),int .u32 (Mq ex),str (Pq ex),.list (Ip ex)]),(b,ga.cells 220 [str [],int .u32 0,str [],Ob]),(bo,ga.cells 249 [.atom (.func (.func fn) first Ua)]),(bs,ga.cells 104 [ptr sb 0]),(bp,ga.cells 30 [.list ((fi k).map str)]),(bn,ga.cells 4 [bool (decide ((k:Int)=2))])]) from Nh);refine(lS (H1:=lb sb T (i2+1) Bc::Hc) (F:=[(b5,ga.cells 220 [str (Zh ex),int .u32 (Mq ex),str (Pq ex),.list (Ip ex)]),(b,ga.cells 220 [str [],int .u32 0,str [],Ob]),(bo,ga.cells 249 [.atom (.func (.func fn) first Ua)]),(bs,ga.cells 104 [ptr sb 0]),(bp,ga.cells 30 [.list ((fi k).map str)]),(bn,ga.cells 4 [bool (decide ((k:Int)=2))])]) rfl (.inl rfl) rfl (Kt) (Pb Bj Vc) (S.jo (F:=[]) (Hc:=Hc) rfl pH (hC q zo _ _ _ _ _ _ _ r2 Hn zo ho Vd) (λe2 i3 pg h3=>?_) λl er i3 pg h3 e' Aa=>?_));rw[Vd,h3,ke] at hI;obtain⟨q1,q2,q3,rfl⟩:=(Pw T q).1 _ _ _ _ (Vd.trans (congrArg some h3));have q4:=q3 zo;refine lO 1 (lH rfl rfl (pG (Ab:=[_,_,_,_]) rfl (List.mem_append_right _ Bb) rfl rfl) ?_);refine lO 4 (lS (H1:=[]) (F:=(lb sb T i3 pg::([]++Hc))++[(b5,ga.cells 220 [str (Zh ex),int .u32 (Mq ex),str (Pq ex),.list (Ip ex)]),(b,ga.cells 220 [str [],int .u32 0,str [],Ob]),(bo,ga.cells 249 [.atom (.func (.func fn) first Ua)]),(bs,ga.cells 104 [ptr sb 0]),(bp,ga.cells 30 [.list ((fi k).map str)]),(bn,ga.cells 4 [bool (decide ((k:Int)=2))])]) rfl (.inl rfl) rfl Kb (HSub.LF (Pb Bj Vc)) (sL (es:=[eb ex,eb e2]) [_,_] rfl (Hd rfl rfl (Hd rfl rfl Ek)) rfl rfl rfl ?_))
 refine lO 5 (lH rfl rfl (pB _ (cs:=[_,_,_,_]) rfl) ?_);refine lO 6 (lS (H1:=[(b5,ga.cells 220 [str (Zh ex),int .u32 (Mq ex),str (Pq ex),.list (Ip ex)])]) (F:=(lb sb T i3 pg::([]++Hc))++[(b,ga.cells 220 [str [],int .u32 0,str [],Ob]),(bo,ga.cells 249 [.atom (.func (.func fn) first Ua)]),(bs,ga.cells 104 [ptr sb 0]),(bp,ga.cells 30 [.list ((fi k).map str)]),(bn,ga.cells 4 [bool (decide ((k:Int)=2))])]) rfl (.inl rfl) rfl qp0 (HSub.LF (Pb Fc Vc)) (sS (Ab:=[_,_,_,_]) rfl pH rfl rfl rfl rfl rfl ?_));refine Xm ?_;refine cW (H':=(b5,ga.cells 220 [str (rG T i2),int .u32 0,str [],.list [eb ex,eb e2]])::lb sb T i3 pg::(b,ga.cells 220 [str [],int .u32 0,str [],Ob])::([(bo,ga.cells 249 [.atom (.func (.func fn) first Ua)]),(bs,ga.cells 104 [ptr sb 0]),(bp,ga.cells 30 [.list ((fi k).map str)]),(bn,ga.cells 4 [bool (decide ((k:Int)=2))])]++Hc)) (qob (A:=[(b,ga.cells 220 [str [],int .u32 0,str [],Ob]),(bo,ga.cells 249 [.atom (.func (.func fn) first Ua)]),(bs,ga.cells 104 [ptr sb 0]),(bp,ga.cells 30 [.list ((fi k).map str)]),(bn,ga.cells 4 [bool (decide ((k:Int)=2))])])) ?_;refine ja ?_;refine Ca (λAh=>?_) λAh=>?_;exact iN;exact lN;exact B7;have Kn:Re T i2 (fi k)=false:=hc;rw[zn (by rw[Kn];decide)] at hI;refine ja ?_;exact rR hj (rC (rA rfl Bb rfl ld) rN) (Gg (Pb pH (Gg Ya))) (by cases hI;exact⟨rfl,rfl⟩);rw[Ld,h1,kh] at hr;refine oi ?_;refine od.panic (Aa.trans rfl) (H':=lb sb T i1 Bc::(bo,.cells 249 [.atom (.func (.func fn) first Ua)])::(bs,.cells 104 [ptr sb 0])::(bp,.cells 30 [.list ((fi k).map str)])::(bn,.cells 4 [bool (decide ((k:Int)=2))])::Hc) ?_ (by cases hr;exact⟨rfl,i1,Bc,rfl⟩);exact Pb pH ⟨[(b,_)],Nh.trans (by exact List.Perm.refl _ |>.trans (perm_append_singleton _ _).symm)⟩
def Ky(k:Nat):LV:=.list ((fi k).map str)
def vP:List LV:=[Ky 0,Ky 1,Ky 2,Ky 3,Ky 4,Ky 5]
theorem qpi:ca (KC B0 w0) 254 [] [] (Hb (.list vP)):=by refine Xa Tryz.func254 rfl (n:=8) rfl rfl rfl ?_;refine Ln ?_;refine oS (sL (es:=[str [124,124]]) [_] rfl (Hd rfl rfl Ek) rfl rfl rfl<|oS (sL (es:=[str [38,38]]) [_] rfl (Hd rfl rfl Ek) rfl rfl rfl ?_));refine oS (sL (es:=[str [61,61],str [33,61],str [60],str [62],str [60,61],str [62,61]]) [_,_,_,_,_,_] rfl (Hd rfl rfl (Hd rfl rfl (Hd rfl rfl (Hd rfl rfl (Hd rfl rfl (Hd rfl rfl Ek)))))) rfl rfl rfl<|oS (sL (es:=[str [94]]) [_] rfl (Hd rfl rfl Ek) rfl rfl rfl ?_));refine oS (sL (es:=[str [43],str [45]]) [_,_] rfl (Hd rfl rfl (Hd rfl rfl Ek)) rfl rfl rfl<|oS (sL (es:=[str [42],str [47],str [37]]) [_,_,_] rfl (Hd rfl rfl (Hd rfl rfl (Hd rfl rfl Ek))) rfl rfl rfl ?_));refine oS (sL (es:=vP) [_,_,_,_,_,_] rfl (Hd rfl rfl (Hd rfl rfl (Hd rfl rfl (Hd rfl rfl (Hd rfl rfl (Hd rfl rfl Ek)))))) rfl rfl rfl ?_);refine Ga ?_;exact Wa rfl (rC (Gd (v:=.list _) rfl ld) rN) rfl
theorem AZ(sb:Nat)(ops:List LV)(once:Bool)(fn:FuncId)(first Ua:Array Value):ca (KC B0 w0) 255 [ptr sb 0,.list ops,bool once,.atom (.func (.func fn) first Ua)] []
  (λr H=>∃ bo bs bp bn:Nat,r=.ret (.atom (.func (.func 272) #[] #[.pointer (some ⟨bo,0,none⟩),.pointer (some ⟨bs,0,none⟩),.pointer (some ⟨bp,0,none⟩),.pointer (some ⟨bn,0,none⟩)])) /\
   H=[(bo,.cells 249 [.atom (.func (.func fn) first Ua)]),(bs,.cells 104 [ptr sb 0]),(bp,.cells 30 [.list ops]),(bn,.cells 4 [bool once])]):=by
 refine Xa Tryz.func255 rfl (n:=10) rfl rfl rfl ?_;refine Xd ?_;refine oS (sB rfl λbs=>oS (sB rfl λbp=>?_));refine oS (sB rfl λbn=>oS (sB rfl λbo=>?_));refine ja ?_;exact rR rfl (Oa rfl) (Pb pH (Pb Bj (Pb Fc Xc))) ⟨bo,bs,bp,bn,rfl,rfl⟩
theorem ql4(es:List LV):ca (KC B0 w0) 253 [.list es] [] (λr H=>∃ b:Nat,r=.ret (.atom (.func (.func 271) #[] #[.pointer (some ⟨b,0,none⟩)]))/\H=[(b,.cells 212 [.list es])]):=by refine Xa Tryz.func253 rfl (n:=4) rfl rfl rfl ?_;refine Xd ?_;refine oS (sB rfl λb=>?_);refine ja ?_;exact rR rfl (Oa rfl) Ya ⟨b,rfl,rfl⟩
def aY(ls:List (List (List UInt8)))(q:Nat):List LV:=[int .i64 ((ls.length:Int)-1-q),.list (((ls[ls.length-1-q]?).getD []).map str)]
theorem qtO(b:Nat)(ls:List (List (List UInt8)))(hl:ls.length<=100000):EW (KC B0 w0) 271 [ptr b 0] [(b,.cells 212 [.list (ls.map λl=>.list (l.map str))])] ls.length (aY ls):=by
 intro l J hY H0 h0;have Bu:(ls.map λl=>LV.list (l.map str)).length=ls.length:=ab _;refine Xa Tryz.func271 rfl (n:=19) rfl rfl rfl ?_;refine Qa.perm (H':=(b,.cells 212 [.list (ls.map λl=>.list (l.map str))])::H0) (perm_append_singleton _ _) ?_;refine ja ?_
 refine oL (λk lsl H=>∃ (q:Nat) (Hq:Heap),q<=ls.length/\k=ls.length-q/\lsl=[(0,.atom (.func (.yield l) #[] #[])),(1,ptr b 0),(3,int .i64 ((ls.length:Int)-1-q))]/\H=(b,.cells 212 [.list (ls.map λl=>.list (l.map str))])::Hq/\J q Hq)
  ⟨_,_,_,⟨0,H0,zero_le _,rfl,rfl,rfl,h0⟩,⟨rfl,rfl,lh (by simp),trivial⟩,Tb _⟩ ?_
 rintro k lsl H ⟨q,Hq,hq,rfl,rfl,rfl,hJ⟩ j hj;refine ja ?_;refine Ca (λhc=>?_) λhc=>?_;have za:q<ls.length:=by have:=zt hc;omega
 have FV:((ls.length:Int)-1-q).toNat=ls.length-1-q:=by omega
 have Xv:ls.length-1-q<ls.length:=by omega
 have Ot:(ls.map λl=>LV.list (l.map str))[((ls.length:Int)-1-q).toNat]? = some (.list (((ls[ls.length-1-q]?).getD []).map str)):=by rw[FV,List.getElem?_map,di Xv];rfl
 refine qa ?_;refine Qa.RD ?_;refine Ga ?_;refine Ss.pure (xR (cs:=[_]) rfl rfl zo Ot rfl rfl) rfl ?_;refine Ga ?_;refine Ss.yield (H:=(b,.cells 212 [.list (ls.map λl=>.list (l.map str))])::Hq) (args:=[_,_]) rfl rfl (xA.frame (H:=Hq) (F:=[(b,.cells 212 [.list (ls.map λl=>.list (l.map str))])]) (perm_append_singleton _ _).symm (K:=λH'=>∃ H1,H'=H1++[(b,.cells 212 [.list (ls.map λl=>.list (l.map str))])]/\J (q+1) H1) (xA.mono (hY q Hq za hJ) λH' h=>⟨H',rfl,h⟩)) rfl ?_;rintro H' ⟨H1,rfl,hJ1⟩;refine Ga ?_;refine Ss.nil ?_;refine qN ?_;refine cW (H':=(b,.cells 212 [.list (ls.map λl=>.list (l.map str))])::H1) ⟨[],by rw[Jd];exact perm_append_singleton _ _⟩ ?_;refine Ca (λPt=>?_) λPt=>?_;cases Pt;refine ja ?_;exact⟨_,_,_,by omega,⟨q+1,H1,za,rfl,rfl,rfl,hJ1⟩,jb,Tb _,hj⟩;have Es:q=ls.length:=by have:=zf hc;omega
 subst Es;refine qa ?_;exact rO hj rN ⟨[],by rw[Jd];exact(perm_append_singleton _ _).symm⟩ ⟨⟨_,rfl⟩,Hq,rfl,hJ⟩
end Go.Proofs.YtmnjklgnhpnckaaGreatDoor
namespace Go.Proofs.YtmnjklgnhpnckaaGreatDoor
open Go.GL Go.RowKit Go.ea
def BH(b:Nat)(l:List UInt8)(H:Heap):Prop:=∃ p v Hv,(p=LV.atom (.pointer none)∨p=ptr b 0)/\Qg 5 v l Hv/\H=(b,.cells 92 [p,.atom v])::Hv
theorem Z':Lays.n240 Tryz.prog Tryz.zh:={ Tryz.Xn with }
section
variable{B0:Nat}{w0:World}
theorem qgF(b:Nat)(p v:LV)(hp:p=LV.atom (.pointer none)∨p=ptr b 0):ca (KC B0 w0) 72 [ptr b 0] [(b,.cells 92 [p,v])]
  (λr H'=>(∃ x,r=.ret (.atom x))/\H'=[(b,.cells 92 [ptr b 0,v])]):=λxs w L hv hH=>by
 simp only[la] at hv;obtain⟨y,ys,rfl,hy,rfl⟩:=hv;simp only[wb] at hy;subst hy;obtain⟨Ze,nh,hl,zs,ae,je⟩:=hH.qc _ (Cp rfl);simp only at Ze nh hl ae je;have hz:=je;simp only[la] at hz;obtain⟨a,as1,rfl,ha,c,as2,rfl,hc,rfl⟩:=hz;rcases hp with rfl|rfl;simp only[wb] at ha;subst ha;have h0:w.cell? ⟨b,0,none⟩=some (.pointer none):=by simp[World.cell?,ae]
 have C2:w.shape? b=some (92,2):=by simp[World.shape?,ae]
 have hfz:w.frozen? ⟨b,0,none⟩=false:=Go.Lib.frozen_of_heap ae 0;refine(Any.Builder_copyCheck_fresh (P:=Tryz.prog) Z' Tryz.jc.toX72 b w h0 C2 hfz).mono λe w' he=>?_;obtain⟨rfl,rfl⟩:=he;refine SP (w:=w) (w':=w.setCell ⟨b,0,none⟩ (.pointer (some ⟨b,0,none⟩))) (NN:=[.pointer (some ⟨b,0,none⟩),c]) (Ab:=[ptr b 0,v]) (lv:=.atom (.tuple #[])) hH rfl rfl rfl (by simp[World.setCell]) (λd hd=>by simp[World.setCell,Array.getElem?_modify,Ne.symm hd]) (by rw[qiZ (xs:=[.pointer none,c]) ae];rfl) rfl ?_ Zc ⟨⟨_,rfl⟩,rfl⟩;simp only[la] at je ⊢;exact⟨_,_,rfl,Zc,c,[],rfl,hc,rfl⟩;simp only[wb] at ha;subst ha;have h0:w.cell? ⟨b,0,none⟩=some (.pointer (some ⟨b,0,none⟩)):=by simp[World.cell?,ae]
 refine(Any.Builder_copyCheck_used (P:=Tryz.prog) Z' Tryz.jc.toX72 b w h0).mono λe w' he=>?_;obtain⟨rfl,rfl⟩:=he;exact⟨.atom (.tuple #[]),_,L,Fr.refl _ _ _,hH,Zc,⟨_,rfl⟩,rfl⟩
attribute [local irreducible] wa Qa Ra ca Go.GL.Pure Ud xe od LQ Eb Tf Rh
theorem qfA(b:Nat)(l m:List UInt8)(H:Heap)(hB:BH b l H)(hlen:l.length+m.length<=10000000000):ca (KC B0 w0) 38 [ptr b 0,str m] H (λr H'=>(∃ x,r=.ret x)/\BH b (l++m) H'):=by
 obtain⟨p,v,Hv,hp,kb,rfl⟩:=hB;refine Xa Tryz.func38 rfl (n:=19) rfl rfl rfl ?_;refine Pj ?_;refine oS (S.Ec (H1:=[(b,_)]) (F:=Hv) [_] rfl Kb (qgF b p (.atom v) hp) (λx H' h=>?_) λch H' h=>?_);obtain⟨⟨x',Cn⟩,rfl⟩:=h;cases Cn;refine oa ?_;refine oS (S.gS (q:=(b,.cells 92 [ptr b 0,.atom v])) (l:=l) (m:=m) rfl kb rfl zo λv' H' qb=>?_);refine qa ?_;have Od:=qb;generalize l++m=lm at qb Od ⊢
 cases qb with
 |nil=>refine ja ?_;exact rR rfl (rC (Ic rfl) (Oa rfl)) Ya ⟨⟨_,rfl⟩,ptr b 0,_,_,.inr rfl,Od,rfl⟩
 |row h0 h1 h2=>refine ja ?_;exact rR rfl (rC (Ic rfl) (Oa rfl)) Ya ⟨⟨_,rfl⟩,ptr b 0,_,_,.inr rfl,Od,rfl⟩
 obtain⟨⟨x',Cn⟩,_⟩:=h;cases Cn
end
open Go Go.Shelf Go.RowKit
section
variable{P:Program}{ρ:Ren}
set_option maxHeartbeats 4000000 in
set_option maxRecDepth 100000 in
theorem qhb(L:Lays.n169 P ρ)(X:Builder.Extra P ρ)(b g:Nat)(p:Value)(l:List UInt8)(cur:Array Value)(w:World)(N4:w.heap[b]? = some (.cells #[p,.slice (some ⟨g,0,none⟩) l.length cur.size] (ρ.t 72) (0,0)))
  (hg:w.heap[g]? = some (.cells cur (ρ.t 5) (0,0))) (h0:l≠[]) (hn:l.length<=cur.size) (O4:l.length<=9223372036854775807) (FB:∀ (j:Nat) (x:UInt8),l[j]? = some x->cur[j]? = some (.int .u8 x.toNat)) :
  Calls P (ρ.f 169) #[.pointer (some ⟨b,0,none⟩)] w λe w'=>e=.returned (.string ⟨l.toArray⟩)/\w'=w.drew.freeze ⟨g,0,none⟩ l.length:=by
 have CB:l.length≠0:=by simpa using h0
 have c1:w.drew.cell? ⟨b,1,none⟩=some (.slice (some ⟨g,0,none⟩) l.length cur.size):=by have:w.drew.heap[b]? = some (.cells #[p,.slice (some ⟨g,0,none⟩) l.length cur.size] (ρ.t 72) (0,0)):=N4;rw[Lib.cell_of_heap this];rfl
 have hSD:(Builtin.unsafeSliceData_ #[(ρ.t 37)] (ρ.t 127) #[.slice (some ⟨g,0,none⟩) l.length cur.size]).run P w.drew=.ok (.pointer (some ⟨g,0,none⟩)) w.drew:=
  Lib.run_unsafeSliceData_row _ _ _ _ _ _ (by omega)
 have hUS:(Builtin.unsafeString_ #[(ρ.t 127),(ρ.t 3)] (ρ.t 9) #[.pointer (some ⟨g,0,none⟩),.int .i64 l.length]).run P w.drew=.ok (.string ⟨l.toArray⟩) (w.drew.freeze ⟨g,0,none⟩ l.length):=by refine Lib.run_unsafeString_row w.drew (ρ.t 127) (ρ.t 3) (ρ.t 9) (ρ.t 5) L.t127 X.cellsByte g cur.size (by have ox:w.drew.heap[g]? = some (.cells cur (ρ.t 5) (0,0)):=hg;simp[World.shape?,ox]) l h0 hn O4 ?_;intro j x hx;have ox:w.drew.heap[g]? = some (.cells cur (ρ.t 5) (0,0)):=hg;have:=FB j x hx;rw[Go.GL.Gf];simp[World.cell?,ox,this]
 have mixed:=L.mixed;have t72:=L.t72;have a72:=L.a72;have z72:=L.z72;have v72:=L.v72;have u72:=run_underlying L.t72;have t70:=L.t70;have a70:=L.a70;have z70:=L.z70;have v70:=L.v70;have u70:=run_underlying L.t70;have t37:=L.t37;have a37:=L.a37;have z37:=L.z37;have v37:=L.v37;have u37:=run_underlying L.t37;have t127:=L.t127;have a127:=L.a127;have z127:=L.z127;have v127:=L.v127;have aai:=run_underlying L.t127;have t3:=L.t3;have a3:=L.a3;have z3:=L.z3;have v3:=L.v3;have u3:=run_underlying L.t3;have t9:=L.t9;have a9:=L.a9;have z9:=L.z9;have v9:=L.v9;have u9:=run_underlying L.t9;have t5:=X.t5;have a5:=X.a5;have z5:=X.z5;have v5:=X.v5;have u5:=run_underlying X.t5
 go_enter L.f169,Body.n169_ntmps ρ
 go_wp2
 go_region_o
 all_goals (go_wp2;go_ret;exact⟨rfl,rfl⟩)
end
open Go.GL Go.ea
variable{C:Ctx}{F H H' X Y Z:Heap}{R:re->Heap->Prop}{e:Env}{n:Nat}{rs:List ResultVar}{vs:List LV}
theorem qs8:Lays.n169 Tryz.prog Tryz.zh:={ Tryz.Xn with }
variable{B0:Nat}{w0:World}
theorem qu9{w:World}{L:Live}(hH:Ma C w L H){g:Nat}(hm:g∈keys H)(hb:C.B0<=g):Fr (keys H) w L (w.drew.freeze ⟨g,0,none⟩ n) L []/\Ma C (w.drew.freeze ⟨g,0,none⟩ n) L []:=by
 have RH:∀ c,c≠g->(w.drew.freeze ⟨g,0,none⟩ n).heap[c]? = w.heap[c]? := λc hc=>by unfold World.freeze;split;rfl;simp only[Array.getElem?_modify];rw[zn (Ne.symm hc)];rfl
 have gd:(w.drew.freeze ⟨g,0,none⟩ n).heap.size=w.heap.size:=by unfold World.freeze;split;rfl;simp
 have C2:∀ c,(w.drew.freeze ⟨g,0,none⟩ n).shape? c=w.shape? c:=λc=>by
  by_cases hc:c=g;subst hc;unfold World.freeze;split;rfl;simp only[World.shape?,Array.getElem?_modify,if_true];show(match Option.map _ w.heap[c]? with|some (Obj.cells c e _)=>some (e,c.size)|_=>none)=_
  cases w.heap[c]? with
  |none=>rfl
  |some o=>cases o <;> rfl
  exact bH (RH c hc)
 have hce:∀ c i,(w.drew.freeze ⟨g,0,none⟩ n).cell? ⟨c,i,none⟩=w.cell? ⟨c,i,none⟩:=λc i=>by
  by_cases hc:c=g;subst hc;unfold World.freeze;split;rfl;simp only[World.cell?,Array.getElem?_modify,if_true];show(match Option.map _ w.heap[c]? with|some (Obj.cells c e _)=>_|_=>none)=_
  cases w.heap[c]? with
  |none=>rfl
  |some o=>cases o <;> rfl
  exact cell_of_heap (RH c hc) i
 have EM:(w.drew.freeze ⟨g,0,none⟩ n).os=w.os/\(w.drew.freeze ⟨g,0,none⟩ n).tape=w.tape/\(w.drew.freeze ⟨g,0,none⟩ n).output=w.output:=by unfold World.freeze;split <;> exact⟨rfl,rfl,rfl⟩
 exact⟨⟨EM.1,EM.2.1,EM.2.2,⟨Nat.le_of_eq gd.symm,λc _=>C2 c,λc i _=>hce c i,λ_=>Nb _⟩,λc _ hc=>RH c λh=>hc (h▸hm),λ_ _ _=>rfl,by simp⟩,
  ⟨hH.base.trans ⟨EM.1,EM.2.1,EM.2.2,Nat.le_of_eq gd.symm,λc hc=>RH c zo⟩,hH.Bi,by rw[gd];exact hH.b0,λc hc=>hH.wf c (by rw[gd] at hc;exact hc),List.nodup_nil,by simp⟩⟩
theorem MZ(b:Nat)(l:List UInt8)(H:Heap)(hB:BH b l H)(hlen:l.length<=10000000000):ca (KC B0 w0) 39 [ptr b 0] H (Hb (str l)):=λxs w L hv hH=>by
 obtain⟨p,v,Hv,hp,kb,rfl⟩:=hB;simp only[la] at hv;obtain⟨y,ys,rfl,hy,rfl⟩:=hv;simp only[wb] at hy;subst hy;obtain⟨Ze,nh,hl,zs,ae,je⟩:=hH.qc _ Ce;simp only at Ze nh hl ae je;simp only[la] at je;obtain⟨a,as1,rfl,ha,c,as2,rfl,hc,rfl⟩:=je;simp only[wb] at hc;subst hc;cases kb with
 |nil=>
  refine(Any.Builder_String_nil (P:=Tryz.prog) qs8 Tryz.jc w.heap.size b a w ae).mono λe w' he=>?_;obtain⟨rfl,hb⟩:=he;obtain⟨h1,h2⟩:=iU (hH.sub (List.nil_sublist _)) hb
  exact⟨str [],[],L,h1.wide (by simp),h2,Zc,rfl,rfl⟩
 |row h0 h1 h2=>
  rename_i g xs;obtain⟨hg0,A4,hgl,ws,ax,Zw⟩:=hH.qc _ (Gc _ (Cp rfl));simp only at hg0 A4 hgl ax;have:=tM Zw;subst this;have FB:∀ (j:Nat) (x:UInt8),l[j]? = some x->ws.toArray[j]? = some (Value.int .u8 x.toNat):=λj x hx=>by
   have hj:(ec l)[j]? = some (Value.int .u8 x.toNat):=by simp[ec,hx]
   rw[<-h2,List.getElem?_take] at hj;split at hj;simpa using hj;cases hj
  refine(qhb (P:=Tryz.prog) qs8 Tryz.jc b g a l ws.toArray w ae ax h0 (by simpa using h1) zo FB).mono λe w' he=>?_;obtain⟨rfl,rfl⟩:=he;obtain⟨f1,f2⟩:=qu9 (n:=l.length) hH (g:=g) (by simp) hg0;exact⟨str l,[],L,f1,f2,Zc,rfl,rfl⟩
attribute [local irreducible] wa Qa Ra ca Go.GL.Pure Ud xe od LQ Eb Tf Rh Vs Ss IC EW xA
def TA:List (List (List UInt8)):=[fi 0,fi 1,fi 2,fi 3,fi 4,fi 5]
theorem W8(q:Nat)(h:q<6):aY TA q=[int .i64 (((5-q:Nat):Int)),.list ((fi (5-q)).map str)]:=by
 have:q=0∨q=1∨q=2∨q=3∨q=4∨q=5:=by omega
 rcases this with rfl|rfl|rfl|rfl|rfl|rfl <;> rfl
theorem IC.fQ{D:Nat}(hd:e.ds=[{ target:=.collected D,args:=#[] }])(F:Heap)(hp:H.Perm ((D,.obj (.deferred (some [])))::F))(h:Zl C n e F rs vs)(hH:HSub H' F)(hR:R (.ret (qh vs)) H') :
  IC C n rs R .ret e H:=by
 unfold IC;exact⟨D,F,hd,hp,vs,H',h,hH,hR⟩
theorem IC.KE{ch:List PanicEntry}{D:Nat}(hd:e.ds=[{ target:=.collected D,args:=#[] }])(F:Heap)(hp:H.Perm ((D,.obj (.deferred (some [])))::F))(hH:HSub H' F)(hR:R (.panic ch) H') :
  IC C n rs R (.panic ch) e H:=by
 unfold IC;exact .inr ⟨D,F,hd,hp,H',hH,hR⟩
theorem iJ(sb:Nat)(T:List Tok)(f:Nat)(hC:XF B0 w0 sb T f):UD B0 w0 sb T f:=by
 intro i op r hi ho hr;refine ca.PJ Tryz.func225 rfl (n:=20) rfl rfl rfl ?_;refine Xd ?_;refine oS (sB rfl λb1=>oS (Rc λb2=>?_));refine ja ?_;refine oS (Rc λb3=>?_);refine ja ?_;refine oS (sF [] rfl qpi<|oS (S.uq [_] rfl (ql4 vP) (λv H' h=>?_) λch H' h=>?_))
 ·obtain⟨bB,h,rfl⟩:=h;cases h;refine qa ?_;have fR:∀ (first Ua:Array Value) (fn:FuncId) (Xo F:Heap),Tz sb 0 fn first Ua Xo->Gb Tryz.prog fn:=λ_ _ _ _ _ h=>h.enter
  refine Qa.rangeFunc (g:=.tmp 9) (ps:=[10,11]) (Ua:=#[.pointer (some ⟨bB,0,none⟩)]) (by rfl) TA.length (aY TA)
   [(b3,.cells 249 [.atom (.func (.func 252) #[.pointer (some ⟨sb,0,none⟩)] #[])]),(b2,.cells 220 [str [],int .u32 0,str [],Ob]),(b1,.cells 104 [ptr sb 0]),lb sb T i op] [(bB,.cells 212 [.list vP])]
   (perm_append_singleton _ _).symm (qtO bB TA da) (λk hk=>by rw[W8 k hk];rfl) (by rfl)
   (λq Hq=>∃ (fn:FuncId) (first Ua:Array Value) (Xo:Heap),Tz sb (6-q) fn first Ua Xo/\Hq=(b3,.cells 249 [.atom (.func (.func fn) first Ua)])::(b2,.cells 220 [str [],int .u32 0,str [],Ob])::(b1,.cells 104 [ptr sb 0])::lb sb T i op::Xo)
   ⟨_,_,_,[],.un,rfl⟩ ?_ ?_
  rintro q Hq hq ⟨fn,first,Ua,Xo,Hn,rfl⟩ j hjd hja l D o oD;have P2:q<6:=hq;have Vf:j.s 1=ptr b1 0:=hja 1 _ rfl;have Om:j.s 3=ptr b3 0:=hja 3 _ rfl;rw[W8 q P2,<-Env.sd (e:=j) (l:=[(1,ptr b1 0),(3,ptr b3 0)]) (by
   intro p hp;simp only[lc,not_mem_nil,or_false] at hp;rcases hp with rfl|rfl;exact Vf;exact Om)]
  refine Vs.seq ?_;refine Vs.region rfl ?_;refine Qc ?_;refine Vs.region rfl ?_;refine Ga ?_;refine⟨hjd,_,rfl,λo'=>?_⟩;refine Vs.block ?_;refine Vs.region rfl ?_;refine Ga ?_;refine oS (S.uq [_,_,_,_] rfl (AZ sb ((fi (5-q)).map str) (decide (((5-q:Nat):Int)=2)) fn first Ua) (λv H' h=>?_) λch H' h=>?_);obtain⟨bo,bs,bp,bn,h,rfl⟩:=h;cases h;refine Ga ?_
  refine⟨(b3,.cells 249 [.atom (.func (.func 272) #[] #[.pointer (some ⟨bo,0,none⟩),.pointer (some ⟨bs,0,none⟩),.pointer (some ⟨bp,0,none⟩),.pointer (some ⟨bn,0,none⟩)])])::(b2,.cells 220 [str [],int .u32 0,str [],Ob])::(b1,.cells 104 [ptr sb 0])::lb sb T i op ::
   (bo,.cells 249 [.atom (.func (.func fn) first Ua)])::(bs,.cells 104 [ptr sb 0])::(bp,.cells 30 [.list ((fi (5-q)).map str)])::(bn,.cells 4 [bool (decide (((5-q:Nat):Int)=2))])::Xo,?_,_,_,_,_,?_,rfl⟩
  exact Pb aW (Pb aW (Pb pH (Pb OK (Pb OK (Pb OK Ya)))));have e1:6-(q+1)=5-q:=by omega
  have e2:6-q=5-q+1:=by omega
  rw[e1];rw[e2] at Hn;exact .bin Hn;obtain⟨_,_,_,_,h,_⟩:=h;cases h;rintro D H' ⟨fn,first,Ua,Xo,Hn,rfl⟩;have QH:Tz sb 0 fn first Ua Xo:=Hn
  have MH:=fR _ _ _ _ [] QH;refine qa ?_;refine cW (H':=(D,.obj (.deferred (some [])))::(b3,.cells 249 [.atom (.func (.func fn) first Ua)])::(b2,.cells 220 [str [],int .u32 0,str [],Ob])::(b1,.cells 104 [ptr sb 0])::lb sb T i op::Xo) ⟨[(bB,.cells 212 [.list vP])],List.Perm.refl _⟩ ?_;refine ja ?_;refine oS (S.jo (F:=[(D,.obj (.deferred (some []))),(b3,.cells 249 [.atom (.func (.func fn) first Ua)]),(b2,.cells 220 [str [],int .u32 0,str [],Ob]),(b1,.cells 104 [ptr sb 0])]) (Hc:=Xo) rfl OK (hC _ _ _ _ _ _ _ r QH hi ho hr) (λv i1 Bc h1=>?_) λl er i1 Bc h1 e' Aa=>?_);refine Ga ?_;exact IC.fQ rfl _ Bj (rC (rA rfl Bb rfl ld) rN) (Pb Fc Vc) (by rw[h1];exact⟨rfl,rfl⟩);refine oi ?_;refine IC.KE (Aa.trans rfl) (lb sb T i1 Bc::(Xo++[(b3,.cells 249 [.atom (.func (.func fn) first Ua)]),(b2,.cells 220 [str [],int .u32 0,str [],Ob]),(b1,.cells 104 [ptr sb 0])])) ?_ Xc (by rw[h1];exact⟨rfl,i1,Bc,rfl⟩);exact(Sr _ List.perm_middle).trans (Vp _ _ _)
 obtain⟨bB,h,_⟩:=h;cases h
theorem rY(hG:GW B0 w0)(sb:Nat)(T:List Tok)(hT:Nr T):∀ f:Nat,XF B0 w0 sb T f/\UD B0 w0 sb T f:=by
 intro f;induction f using Nat.strongRecOn with
 |_ f ih=>
  have hC:XF B0 w0 sb T f:=by
   intro k fn first Ua Hc i op r Hn hi ho hr
   cases Hn with
   |un=>
    obtain⟨f,rfl⟩:∃ g,f=g+1:=by
     cases f with
     |zero=>rw[xg] at hr;cases hr
     |succ g=>exact⟨g,rfl⟩
    rw[xg,zp rfl] at hr;refine ca.mono (qrz hG sb T hT f (λg hg=>(ih g zo).2) i op r hi ho hr) ?_;intro r' H h
    cases r with
    |ok v i' Ia=>exact h
    |err l e=>exact h
   |bin h=>exact qwW hG sb T hT f (λg hg=>(ih g hg).1) _ _ _ _ _ _ _ _ _ h i op r hi ho hr
  exact⟨hC,iJ sb T f hC⟩
def Q7(l:List Sm):LV:=.list (l.map Yb)
def bX(B0:Nat)(w0:World)(sb:Nat)(T:List Tok)(f:Nat):Prop:=
 ∀ i op r,i<=T.length->op<=100->zA T f i op=some r->ca (KC B0 w0) 226 [ptr sb 0] [lb sb T i op] (mn sb T Q7 r)
def UW(B0:Nat)(w0:World)(sb:Nat)(T:List Tok)(f:Nat):Prop:=
 ∀ i op r,i<=T.length->op<=100->sy T f [] i op=some r->ca (KC B0 w0) 153 [ptr sb 0] [lb sb T i op] (mn sb T Q7 r)
def QW(B0:Nat)(w0:World)(sb:Nat)(T:List Tok)(f:Nat):Prop:=
 ∀ i op r,i<=T.length->op<=100->SD T f i op=some r->ca (KC B0 w0) 200 [ptr sb 0] [lb sb T i op] (mn sb T Yb r)
def EX(B0:Nat)(w0:World)(sb:Nat)(T:List Tok)(f:Nat):Prop:=
 ∀ i op r,i<=T.length->op<=100->lE T f i op=some r->ca (KC B0 w0) 227 [ptr sb 0] [lb sb T i op] (mn sb T Yb r)
theorem UU(sb:Nat)(T:List Tok)(hT:Nr T)(f:Nat)(hS:UW B0 w0 sb T f):bX B0 w0 sb T (f+1):=by intro i op r hi ho hr;have hl:=hT.len;rw[zA] at hr;refine Xa Tryz.func226 rfl (n:=11) rfl rfl rfl ?_;refine Pj ?_;refine oS (sP [_,_] rfl pH (zE sb T i op [123] hl zo zo) (λv i1 Bc h1=>?_) λl er i1 Bc h1 e9 Li=>?_);rotate_left;exact rD;rw[h1,ke] at hr;obtain⟨rfl,rfl,Vv,Lz⟩:=uv h1;refine Xh ?_;obtain⟨r1,Ld⟩:=qk hr;refine oS (sP [_] rfl pH (hS _ _ r1 zo zo Ld) (λl i2 Dg h2=>?_) λl er i2 Dg h2 e9 Li=>?_);rotate_left;rw[Ld,h2,kh] at hr;refine qd ?_;exact oc Rn (by cases hr;rfl) Xc;rw[Ld,h2,ke] at hr;obtain⟨g1,_,g3,rfl⟩:=(VI T f).2.1 _ _ _ _ (Ld.trans (congrArg some h2));have g4:=g3 zo;refine ja ?_;refine oS (sP [_,_] rfl pH (uE sb T i2 (op+1) [125] hl zo zo zo) (λu i3 pg h3=>?_) λl er i3 pg h3 e9 Li=>?_);rotate_left;exact qD;rw[h3,ke] at hr;refine ja ?_;exact qf (v:=l) rfl (rC (Gd (v:=.list _) rfl ld) rN) (by cases hr;rfl) rfl Ya
theorem QP(sb:Nat)(T:List Tok)(hT:Nr T)(f:Nat)(hS:∀ g,g<f->QW B0 w0 sb T g):UW B0 w0 sb T f:=by
 intro i op r hi ho hr;have hl:=hT.len;refine Xa Tryz.func153 rfl (n:=14) rfl rfl rfl ?_;refine oa ?_;refine oL (λk ls H=>∃ (v:LV) (l:List Sm) (i2:Nat) (Ha:Heap),k<=f/\ls=[(0,ptr sb 0),(3,v)]/\H=lb sb T i2 op::Ha/\Acc 6 v (l.map Yb) Ha []/\i2<=T.length/\l.length<=i2+1/\sy T k l i2 op=some r)
  ⟨f,_,lb sb T i op::[],⟨Ob,[],i,_,Nb _,rfl,rfl,Acc.nil,by omega,by simp,hr⟩,jb,Tb _⟩ ?_
 rintro k ls H ⟨v,l,i2,Ha,O3,rfl,rfl,kb,Zv,YC,hI⟩ j hj;obtain⟨k,rfl⟩:∃ k',k=k'+1:=by
  cases k with
  |zero=>rw[sy] at hI;cases hI
  |succ k=>exact⟨k,rfl⟩
 rw[sy] at hI;refine Bd ?_;refine Ui ?_;refine oS (sH [_,_] rfl pH (Xs sb T i2 op [[125]] hl zo (by simp)) ?_);refine Ga ?_;refine Ca (λhc=>?_) λhc=>?_
 ·have Kn:Re T i2 [[125]]=false:=by simpa using hc
  rw[zn (by rw[Kn];decide)] at hI;refine Kx ?_;obtain⟨r2,Vd⟩:=qk hI;refine oS (sP [_] rfl pH (hS k zo _ _ r2 zo zo Vd) (λe2 i4 Lm h4=>?_) λl er i4 Lm h4 e9 Li=>?_);rotate_left;rw[Vd,h4,kh] at hI;refine qd ?_;exact oc Rn (by cases hI;rfl) Xc;rw[Vd,h4,ke] at hI;obtain⟨g1,g2,g3,rfl⟩:=(VI T k).2.2.1 _ _ _ (Vd.trans (congrArg some h4));have g5:=g3 zo;have g6:=g2 rfl;refine Ui ?_;refine oS (S.nw rfl kb rfl (by simp;rfl) rfl (by simp;omega) λv' H' qb=>?_);refine ik ?_;refine qa ?_;exact⟨k,_,_,by omega,⟨v',l++[e2],i4,H',by omega,rfl,rfl,by rw[Lf];exact qb,by omega,by simp;omega,hI⟩,jb,Tb _,hj⟩
 have Kn:Re T i2 [[125]]=true:=by simpa using hc
 rw[zp Kn] at hI;refine oa ?_;refine bA ?_;exact qf (v:=l) hj (rC (Gd (v:=v) rfl kb.sub) rN) (by cases hI;rfl) rfl Xc
theorem qyz(s:List UInt8)(l:List Ex):Yb (.mk 6 [] [] [.mk Of 0 s l] [] [])=.agg [int .i64 6,str [],.list [],.list [.agg [str Of,int .u32 0,str s,.list (l.map eb)]],.list [],.list []]:=by rw[rv,jd,BA];rfl
theorem qoz(sb:Nat)(T:List Tok)(hT:Nr T)(f:Nat)(hE:∀ g,g<=f->UD B0 w0 sb T g):EX B0 w0 sb T (f+1):=by
 intro i op r hi ho hr;have hl:=hT.len;obtain⟨gL,_,_,_,gI,gA,_⟩:=Pw T f;rw[lE] at hr;refine Xa Tryz.func227 rfl (n:=46) rfl rfl rfl ?_;refine Xd ?_;refine oS (Rc λb2=>?_);refine oa ?_;refine oS (sH [_,_] rfl Fc (MC sb T i op qqv hl zo) ?_);refine Qc ?_;refine Ca (λhc=>?_) λhc=>?_
 ·have za:=nk hc;rw[zp hc] at hr;simp only[hc,if_true];refine Bd ?_;obtain⟨r1,Ld⟩:=qk hr;refine oS (sP [_] rfl pH (hE f zo _ _ r1 zo zo Ld) (λv i1 Bc h1=>?_) λl er i1 Bc h1 e9 Li=>?_);rotate_left;exact tD;rw[Ld,h1,ke] at hr;refine Ui ?_;refine Ga ?_;exact qf (v:=.mk 5 [] [] [v] [] []) rfl (rC (rA (k:=6) rfl Bb rfl (vA (bs:=[_,_,.list [],_,.list [],.list []]) ⟨vR _,vR _,vN,vR _,vN,vN,trivial⟩)) rN) (by cases hr;rfl) (by rw[rv];rfl) (Pb Fc Vc)
 rw[zn (by rw[hc];decide)] at hr;simp only[hc,gk,if_false];refine Bd ?_;refine oS (sH [_,_] rfl pH (MC sb T i op O8 hl zo) ?_);refine Qc ?_;refine Ca (λOe=>?_) λOe=>?_;have za:=nk Oe;rw[zp Oe] at hr;simp only[Oe,if_true];refine ja ?_;exact qf (v:=.mk 7 [] [] [] [] []) rfl (rC (rA (k:=6) rfl Bb rfl (vA (bs:=[_,_,.list [],.list [],.list [],.list []]) ⟨vR _,vR _,vN,vN,vN,vN,trivial⟩)) rN) (by cases hr;rfl) (by rw[rv];rfl) (Pb Fc Vc);rw[zn (by rw[Oe];decide)] at hr;simp only[Oe,gk,if_false];refine oa ?_;refine oS (sP [_,_] rfl pH (Im sb T i op 2 hl zo) (λs i1 Bc h1=>?_) λl er i1 Bc h1 e9 Li=>?_);rotate_left;exact rD;rw[h1,ke] at hr;obtain⟨rfl,rfl,t,ht,_,_⟩:=yE h1;have:=KI ht;refine ja ?_;refine oS (Rc λb4=>?_);refine ja ?_;refine Ui ?_;refine oS (sH [_,_] rfl Fc (Xs sb T (i+1) Bc [[40]] hl zo (by simp)) ?_);refine Qc ?_;refine Ca (λql=>?_) λql=>?_
 ·rw[zp ql] at hr;refine Bd ?_;obtain⟨r1,Ld⟩:=qk hr;refine oS (sP [_] rfl pH (qno sb T hT f (λg hg=>hE g zo) (i+1) Bc r1 zo zo Ld) (λl i2 Dg h2=>?_) λl er i2 Dg h2 e9 Li=>?_);rotate_left;rw[Ld,h2,kh] at hr;refine qd ?_;exact oc Rn (by cases hr;rfl) Xc;rw[Ld,h2,ke] at hr;refine Ga ?_;refine Ui ?_;refine Ga ?_;exact qf (v:=.mk 6 [] [] [.mk Of 0 s l] [] []) rfl (rC (rA (k:=6) rfl Bb rfl (vA (bs:=[_,_,.list [],_,.list [],.list []]) ⟨vR _,vR _,vN,vR _,vN,vN,trivial⟩)) rN) (by cases hr;rfl) (by rw[qyz];rfl) (Pb Fc Vc)
 rw[zn (by rw[ql];decide)] at hr;refine Bd ?_;refine Ui ?_;refine oS (sH [_,_] rfl pH (Xs sb T (i+1) Bc [[91]] hl zo (by simp)) ?_);refine Qc ?_;refine Ca (λml=>?_) λml=>?_
 ·rw[zp ml] at hr;refine Bd ?_;obtain⟨r1,Ld⟩:=qk hr;refine oS (sP [_] rfl pH (qj0 sb T hT f (λg hg=>hE g zo) (i+1) Bc r1 zo zo Ld) (λx i2 Dg h2=>?_) λl er i2 Dg h2 e9 Li=>?_);rotate_left;rw[Ld,h2,kh] at hr;refine qd ?_;exact oc Rn (by cases hr;rfl) Xc;rw[Ld,h2,ke] at hr;obtain⟨q1,q2,q3,rfl⟩:=gI _ _ _ (Ld.trans (congrArg some h2));have q4:=q3 zo;refine Ui ?_;refine ja ?_;refine oS (sP [_,_] rfl Fc (mJ sb T i2 Dg [61] hl zo) (λu i3 pg h3=>?_) λl er i3 pg h3 e9 Li=>?_);rotate_left;exact qD;rw[h3,ke] at hr;have JH:=Rw T [61] i2 Dg;rw[h3] at JH;obtain⟨k1,k2,k3,rfl⟩:=JH;have k4:=k3 q4;refine Xh ?_;obtain⟨r2,Vd⟩:=qk hr;refine oS (sP [_] rfl pH (hE f zo _ _ r2 zo zo Vd) (λv i4 Lm h4=>?_) λl er i4 Lm h4 e9 Li=>?_);rotate_left;rw[Vd,h4,kh] at hr;refine qd ?_;exact oc Rn (by cases hr;rfl) Xc;rw[Vd,h4,ke] at hr;refine Ui ?_;refine ja ?_;exact qf (v:=.mk 2 s [x] [v] [] []) rfl (rC (rA (k:=6) rfl Bb rfl (vA (bs:=[_,_,_,_,.list [],.list []]) ⟨vR _,vR _,vR _,vR _,vN,vN,trivial⟩)) rN) (by cases hr;rfl) (by rw[rv];rfl) (Pb Bj Vc)
 rw[zn (by rw[ml];decide)] at hr;refine oa ?_;refine oS (sP [_,_] rfl pH (mJ sb T (i+1) Bc [61] hl zo) (λu i3 pg h3=>?_) λl er i3 pg h3 e9 Li=>?_);rotate_left;exact qD;rw[h3,ke] at hr;have JH:=Rw T [61] (i+1) Bc;rw[h3] at JH;obtain⟨k1,k2,k3,rfl⟩:=JH;have k4:=k3 zo;refine Xh ?_;obtain⟨r2,Vd⟩:=qk hr;refine oS (sP [_] rfl pH (hE f zo _ _ r2 zo zo Vd) (λv i4 Lm h4=>?_) λl er i4 Lm h4 e9 Li=>?_);rotate_left;rw[Vd,h4,kh] at hr;refine qd ?_;exact oc Rn (by cases hr;rfl) Xc;rw[Vd,h4,ke] at hr;refine Ui ?_;refine ja ?_;exact qf (v:=.mk 1 s [] [v] [] []) rfl (rC (rA (k:=6) rfl Bb rfl (vA (bs:=[_,_,.list [],_,.list [],.list []]) ⟨vR _,vR _,vN,vR _,vN,vN,trivial⟩)) rN) (by cases hr;rfl) (by rw[rv];rfl) (Pb Bj Vc)
theorem OU(sb:Nat)(T:List Tok)(hT:Nr T)(f:Nat)(hE:∀ g,g<=f->UD B0 w0 sb T g)(hB:bX B0 w0 sb T f)(hM:EX B0 w0 sb T f):QW B0 w0 sb T (f+1):=by
 intro i op r hi ho hr;have hl:=hT.len;obtain⟨gL,_,_,_,gI,gA,_⟩:=Pw T f;obtain⟨kB,kL,kS,kM⟩:=VI T f;rw[SD] at hr;refine Xa Tryz.func200 rfl (n:=38) rfl rfl rfl ?_;refine Xd ?_;refine oS (Rc λb2=>?_);refine oa ?_;refine oS (sH [_,_] rfl Fc (MC sb T i op kQ hl zo) ?_);refine Qc ?_;refine Ca (λhc=>?_) λhc=>?_
 ·have za:=nk hc;rw[zp hc] at hr;simp only[hc,if_true];refine Bd ?_;obtain⟨r1,Ld⟩:=qk hr;refine oS (sP [_] rfl pH (hE f zo _ _ r1 zo zo Ld) (λv i1 Bc h1=>?_) λl er i1 Bc h1 e9 Li=>?_);rotate_left;exact tD;rw[Ld,h1,ke] at hr;obtain⟨g1,g2,g3,rfl⟩:=gL 0 _ _ _ (Ld.trans (congrArg some h1));have g4:=g3 zo;refine Ui ?_;refine Ga ?_;refine oS (Rc λb3=>?_);refine ja ?_;obtain⟨r2,Vd⟩:=qk hr;refine oS (sP [_] rfl Fc (hB _ _ r2 zo zo Vd) (λth i2 Dg h2=>?_) λl er i2 Dg h2 e9 Li=>?_);rotate_left;rw[Vd,h2,kh] at hr;refine qd ?_;exact oc Rn (by cases hr;rfl) Xc;rw[Vd,h2,ke] at hr;obtain⟨q1,q2,q3,rfl⟩:=kB _ _ _ (Vd.trans (congrArg some h2));have q4:=q3 zo;refine ja ?_;refine oS (sH [_,_] rfl Fc (MC sb T i2 Dg Y8 hl zo) ?_);refine Qc ?_;refine Ca (λOe=>?_) λOe=>?_
  ·have Xv:=nk Oe;rw[zp Oe] at hr;simp only[Oe,if_true];refine Bd ?_;obtain⟨r3,bx⟩:=qk hr;refine oS (sP [_] rfl pH (hB _ _ r3 zo zo bx) (λel i3 pg h3=>?_) λl er i3 pg h3 e9 Li=>?_);rotate_left;rw[bx,h3,kh] at hr;refine qd ?_;exact oc Rn (by cases hr;rfl) Xc;rw[bx,h3,ke] at hr;refine ja ?_;exact qf (v:=.mk 3 [] [] [v] th el) rfl (rC (rA (k:=6) rfl Bb rfl (vA (bs:=[_,_,.list [],_,_,_]) ⟨vR _,vR _,vN,vR _,vR _,vR _,trivial⟩)) rN) (by cases hr;rfl) (by rw[rv];rfl) (Pb Bj Vc)
  rw[zn (by rw[Oe];decide)] at hr;simp only[Oe,gk,if_false];refine ja ?_;exact qf (v:=.mk 3 [] [] [v] th []) rfl (rC (rA (k:=6) rfl Bb rfl (vA (bs:=[_,_,.list [],_,_,.list []]) ⟨vR _,vR _,vN,vR _,vR _,vN,trivial⟩)) rN) (by cases hr;rfl) (by rw[rv];rfl) (Pb Fc Vc)
 rw[zn (by rw[hc];decide)] at hr;simp only[hc,gk,if_false];refine Bd ?_;refine oS (sH [_,_] rfl pH (MC sb T i op E' hl zo) ?_);refine Qc ?_;refine Ca (λOe=>?_) λOe=>?_
 ·have za:=nk Oe;rw[zp Oe] at hr;simp only[Oe,if_true];refine Bd ?_;obtain⟨r1,Ld⟩:=qk hr;refine oS (sP [_] rfl pH (hE f zo _ _ r1 zo zo Ld) (λv i1 Bc h1=>?_) λl er i1 Bc h1 e9 Li=>?_);rotate_left;exact tD;rw[Ld,h1,ke] at hr;obtain⟨g1,g2,g3,rfl⟩:=gL 0 _ _ _ (Ld.trans (congrArg some h1));have g4:=g3 zo;refine Ui ?_;refine Ga ?_;refine oS (Rc λb3=>?_);refine ja ?_;obtain⟨r2,Vd⟩:=qk hr;refine oS (sP [_] rfl Fc (hB _ _ r2 zo zo Vd) (λth i2 Dg h2=>?_) λl er i2 Dg h2 e9 Li=>?_);rotate_left;rw[Vd,h2,kh] at hr;refine qd ?_;exact oc Rn (by cases hr;rfl) Xc;rw[Vd,h2,ke] at hr;refine ja ?_;exact qf (v:=.mk 4 [] [] [v] th []) rfl (rC (rA (k:=6) rfl Bb rfl (vA (bs:=[_,_,.list [],_,_,.list []]) ⟨vR _,vR _,vN,vR _,vR _,vN,trivial⟩)) rN) (by cases hr;rfl) (by rw[rv];rfl) (Pb Bj Vc)
 rw[zn (by rw[Oe];decide)] at hr;simp only[Oe,gk,if_false];refine oa ?_;obtain⟨r1,Ld⟩:=qk hr;refine oS (sP [_] rfl pH (hM _ _ r1 zo zo Ld) (λv i1 Bc h1=>?_) λl er i1 Bc h1 e9 Li=>?_);rotate_left;exact tD;rw[Ld,h1,ke] at hr;obtain⟨g1,g2,g3,rfl⟩:=kM _ _ _ (Ld.trans (congrArg some h1));have g4:=g3 zo;refine oS (Rc λb5=>?_);refine ja ?_;refine oS (sP [_,_] rfl Fc (mJ sb T i1 Bc [59] hl zo) (λu i2 Dg h2=>?_) λl er i2 Dg h2 e9 Li=>?_);rotate_left;rw[h2,kh] at hr;refine qd ?_;exact oc Rn (by cases hr;rfl) Xc;rw[h2,ke] at hr;refine ja ?_;exact qf (v:=v) rfl (rC (rA rfl Bb rfl ld) rN) (by cases hr;rfl) rfl (Pb Fc Vc)
theorem qAl(hG:GW B0 w0)(sb:Nat)(T:List Tok)(hT:Nr T):∀ f:Nat,bX B0 w0 sb T f/\UW B0 w0 sb T f/\QW B0 w0 sb T f/\EX B0 w0 sb T f:=by
 intro f;induction f using Nat.strongRecOn with
 |_ f ih=>
  have hE:=λg=>(rY (B0:=B0) (w0:=w0) hG sb T hT g).2
  cases f with
  |zero=>refine⟨?_,QP sb T hT 0 (λg hg=>by omega),?_,?_⟩;intro i op r _ _ hr;rw[zA] at hr;cases hr;intro i op r _ _ hr;rw[SD] at hr;cases hr;intro i op r _ _ hr;rw[lE] at hr;cases hr
  |succ f=>have h:=ih f zo;exact⟨UU sb T hT f h.2.1,QP sb T hT _ λg hg=>(ih g hg).2.2.1,OU sb T hT f (λg _=>hE g) h.1 h.2.2.2,qoz sb T hT f λg _=>hE g⟩
theorem qhX(T:List Tok):∀ (f:Nat) (acc:List (List UInt8)) (i op:Nat) (l:List (List UInt8)) (i' Ia:Nat),Ez T f acc i op=some (.ok l i' Ia)->l.length+i<=acc.length+i'
 |0,_,_,_,_,_,_,h=>by rw[Ez] at h;cases h
 |f+1,acc,i,op,l,i',Ia,h=>by rw[Ez] at h;split at h;rcases Eo h with⟨s,i1,Bc,h1,h2⟩|⟨l,e,_,hh⟩;injection h1 with h1;obtain⟨rfl,rfl,_⟩:=yE h1;have:=qhX T f _ _ _ _ _ _ h2;rw[ya,length_singleton] at this;omega;cases hh;cases h;omega
theorem qm9{T:List Tok}{f i op:Nat}{l:List (List UInt8)}{i' Ia:Nat}(h:nG T f i op=some (.ok l i' Ia)):l.length+i<=i':=by unfold nG at h;rcases Eo h with⟨s,i1,Bc,h1,h2⟩|⟨l,e,_,hh⟩;injection h1 with h1;obtain⟨rfl,rfl,_⟩:=yE h1;have:=qhX T f _ _ _ _ _ _ h2;rw[length_singleton] at this;omega;cases hh
theorem lY(T:List Tok):∀ (f:Nat) (acc:List (List UInt8)) (i op:Nat) (l:List (List UInt8)) (i' Ia:Nat),Su T f acc i op=some (.ok l i' Ia)->l.length+i<=acc.length+i'
 |0,_,_,_,_,_,_,h=>by rw[Su] at h;cases h
 |f+1,acc,i,op,l,i',Ia,h=>by rw[Su] at h;split at h;rcases Eo h with⟨s,i1,Bc,h1,h2⟩|⟨l,e,_,hh⟩;have:=qm9 h1;rcases Eo h2 with⟨u,i2,Dg,h3,h4⟩|⟨l,e,_,hh⟩;injection h3 with h3;have hg:=Rw T [59] i1 Bc;rw[h3] at hg;have hv:=lY T f _ _ _ _ _ _ h4;have:=hg.1;rw[ya] at hv;omega;cases hh;cases hh;cases h;omega
theorem LY(sb:Nat)(T:List Tok)(hT:Nr T)(f i op:Nat)(r:rj (List (List UInt8)))(hi:i<=T.length)(hr:Su T f [] i op=some r) :
  ca (KC B0 w0) 77 [ptr sb 0] [lb sb T i op] (mn sb T qpY r):=by
 have hl:=hT.len;refine Xa Tryz.func77 rfl (n:=13) rfl rfl rfl ?_;refine oa ?_;refine oL (λk ls H=>∃ (v:LV) (l:List (List UInt8)) (i2:Nat) (Ha:Heap),k<=f/\ls=[(0,ptr sb 0),(3,v)]/\H=lb sb T i2 op::Ha/\Acc 1 v (l.map str) Ha []/\i2<=T.length/\l.length<=i2/\Su T k l i2 op=some r)
  ⟨f,_,lb sb T i op::[],⟨Ob,[],i,_,Nb _,rfl,rfl,Acc.nil,by omega,by simp,hr⟩,jb,Tb _⟩ ?_
 rintro k ls H ⟨v,l,i2,Ha,O3,rfl,rfl,kb,Zv,YC,hI⟩ j hj;obtain⟨k,rfl⟩:∃ k',k=k'+1:=by
  cases k with
  |zero=>rw[Su] at hI;cases hI
  |succ k=>exact⟨k,rfl⟩
 rw[Su] at hI;refine Bd ?_;refine oS (sH [_,_] rfl pH (MC sb T i2 op zO hl zo) ?_);refine Qc ?_;refine Ca (λhc=>?_) λhc=>?_
 ·have za:=nk hc;rw[zp hc] at hI;simp only[hc,if_true];refine Kx ?_;obtain⟨r2,Vd⟩:=qk hI;refine oS (sP [_] rfl pH (qjR sb T hT k (i2+1) op r2 zo Vd) (λns i4 Lm h4=>?_) λl er i4 Lm h4 e9 Li=>?_);rotate_left;rw[Vd,h4,kh] at hI;refine qd ?_;exact oc Rn (by cases hI;rfl) Xc;rw[Vd,h4,ke] at hI;obtain⟨g1,g2,g3,rfl⟩:=vJ T k _ _ _ (Vd.trans (congrArg some h4));have g5:=g3 zo;have g6:=qm9 (Vd.trans (congrArg some h4));refine oS (S.nw (ms:=ns.map str) rfl kb rfl (JG ns) (XI ns) (by simp;omega) λv' H' qb=>?_);refine ik ?_;refine Xh ?_;refine oS (sP [_,_] rfl pH (mJ sb T i4 Lm [59] hl zo) (λu i5 CJ h5=>?_) λl er i5 CJ h5 e9 Li=>?_);rotate_left;rw[h5,kh] at hI;refine qd ?_;exact oc Rn (by cases hI;rfl) Xc;rw[h5,ke] at hI;have hg5:=Rw T [59] i4 Lm;rw[h5] at hg5;obtain⟨k1,k2,k3,rfl⟩:=hg5;have k4:=k3 g5;refine qa ?_;exact⟨k,_,_,by omega,⟨v',l++ns,i5,H',by omega,rfl,rfl,by rw[Lf];exact qb,by omega,by rw[ya];omega,hI⟩,jb,Tb _,hj⟩
 rw[zn (by rw[hc];decide)] at hI;simp only[hc,gk,if_false];refine oa ?_;refine bA ?_;exact qf (v:=l) hj (rC (Gd (v:=v) rfl kb.sub) rN) (by cases hI;rfl) rfl Xc
theorem UP(hG:GW B0 w0)(sb:Nat)(T:List Tok)(hT:Nr T)(i op:Nat)(r:rj Ar)(hi:i<=T.length)(ho:op<=100)(hr:SI T i op=some r) :
  ca (KC B0 w0) 79 [ptr sb 0] [lb sb T i op] (mn sb T CI r):=by
 have hl:=hT.len;unfold SI at hr;refine Xa Tryz.func79 rfl (n:=18) rfl rfl rfl ?_;refine Xd ?_;refine oS (Rc λb2=>?_);refine Xh ?_;refine oS (sP [_,_] rfl Fc (Im sb T i op 2 hl zo) (λs i1 Bc h1=>?_) λl er i1 Bc h1 e9 Li=>?_);rotate_left;exact rD;rw[h1,ke] at hr;obtain⟨rfl,rfl,t,ht,_,_⟩:=yE h1;have:=KI ht;refine Ga ?_;refine oS (Rc λb3=>?_);refine ja ?_;refine oS (sP [_,_] rfl Fc (zE sb T (i+1) Bc [91] hl zo zo) (λv i2 Dg h2=>?_) λl er i2 Dg h2 e9 Li=>?_);rotate_left;rw[h2,kh] at hr;refine qd ?_;exact oc Rn (by cases hr;rfl) Xc;rw[h2,ke] at hr;obtain⟨rfl,rfl,Vv,Lz⟩:=uv h2;refine Xh ?_;refine oS (sP [_] rfl pH (qi4 hG sb T hT (i+1+1) (Bc+1) zo) (λm i3 pg h3=>?_) λl er i3 pg h3 e9 Li=>?_);rotate_left;exact qD;rw[h3,ke] at hr;have JH:=TZ T (i+1+1) (Bc+1);rw[h3] at JH;obtain⟨k1,k2,k3,rfl⟩:=JH;have k4:=k3 zo
 have hm:m<=4294967295:=by unfold xG at h3;unfold rj.bind at h3;split at h3;rename_i s2 i6 y0 h6;cases h3;obtain⟨_,_,t6,ht6,JM,rfl⟩:=yE h6;obtain⟨u,hu,hp⟩:=hT.num t6 (List.mem_of_getElem? ht6) JM;rw[ou,hp];simp only;omega;cases h3
 have hw:IntKind.i64.wrap (m:Int)=(m:Int):=xy zo;refine ja ?_;refine oS (sP [_,_] rfl Fc (uE sb T i3 (Bc+1) [93] hl zo zo zo) (λu i4 Lm h4=>?_) λl er i4 Lm h4 e9 Li=>?_);rotate_left;rw[h4,kh] at hr;refine qd ?_;exact oc Rn (by cases hr;rfl) Xc;rw[h4,ke] at hr;obtain⟨rfl,rfl,hi4⟩:=YI h4;refine Xh ?_;refine oS (sP [_,_] rfl pH (mJ sb T (i3+1) Lm [59] hl zo) (λu2 i5 CJ h5=>?_) λl er i5 CJ h5 e9 Li=>?_);rotate_left;rw[h5,kh] at hr;refine qd ?_;exact oc Rn (by cases hr;rfl) Xc;rw[h5,ke] at hr;refine ja ?_;exact qf (v:=⟨s,m⟩) rfl (rC (rA (k:=2) rfl Bb rfl ld) rN) (by cases hr;rfl) (by show LV.agg [str s,int .i64 (IntKind.i64.wrap m)]=CI ⟨s,m⟩;rw[hw];rfl) (Pb Fc Vc)
theorem qnM(hG:GW B0 w0)(sb:Nat)(T:List Tok)(hT:Nr T)(f i op:Nat)(r:rj ob)(hi:i<=T.length)(ho:op<=100)(hr:JI T f i op=some r) :
  ca (KC B0 w0) 80 [ptr sb 0] [lb sb T i op] (mn sb T cg r):=by
 have hl:=hT.len;unfold JI at hr;refine Xa Tryz.func80 rfl (n:=29) rfl rfl rfl ?_;refine Xd ?_;refine oS (Rc λb2=>?_);refine Xh ?_;refine oS (sP [_,_] rfl Fc (Im sb T i op 2 hl zo) (λs i1 Bc h1=>?_) λl er i1 Bc h1 e9 Li=>?_);rotate_left;exact rD;rw[h1,ke] at hr;obtain⟨rfl,rfl,t,ht,_,_⟩:=yE h1;have:=KI ht;refine Ga ?_;refine oS (Rc λb3=>?_);refine ja ?_;refine oS (sP [_,_] rfl Fc (zE sb T (i+1) Bc [40] hl zo zo) (λv i2 Dg h2=>?_) λl er i2 Dg h2 e9 Li=>?_);rotate_left;rw[h2,kh] at hr;refine qd ?_;exact oc Rn (by cases hr;rfl) Xc;rw[h2,ke] at hr;obtain⟨rfl,rfl,Vv,Lz⟩:=uv h2;refine Xh ?_;refine Ui ?_;refine oS (sH [_,_] rfl pH (Xs sb T (i+1+1) (Bc+1) [[41]] hl zo (by simp)) ?_);refine Ga ?_;obtain⟨r3,bx⟩:=qk hr
 refine Qa.mid (A:=List (List UInt8)×Nat) (λ_=>[(0,ptr sb 0),(2,ptr b2 0),(3,ptr b3 0)]) (λa=>(b3,.cells 168 [str s,.list (a.1.map str),Ob,Ob])::lb sb T a.2 (Bc+1)::[(b2,.cells 168 [str [],Ob,Ob,Ob])])
  (λa=>i+1+1<=a.2/\a.2<=T.length/\r3=.ok a.1 a.2 (Bc+1)) ?_ ?_
 refine Ca (λhc=>?_) λhc=>?_;have Kn:Re T (i+1+1) [[41]]=false:=by simpa using hc
 rw[zn (by rw[Kn];decide)] at bx;refine Bd ?_;refine oS (sP [_] rfl pH (qjR sb T hT f (i+1+1) (Bc+1) r3 zo bx) (λns i3 pg h3=>?_) λl er i3 pg h3 e9 Li=>?_);obtain⟨g1,g2,g3,rfl⟩:=vJ T f _ _ _ (bx.trans (congrArg some h3));have g5:=g3 zo;refine Ga ?_;exact⟨(ns,i3),⟨by omega,g5,h3⟩,jb,rfl,rfl⟩;rw[zn (by rw[Kn];decide),bx,h3,kh] at hr;refine oi ?_;exact oc (Li.trans rfl) (by cases hr;rfl) Xc;have Kn:Re T (i+1+1) [[41]]=true:=by simpa using hc
 rw[zp Kn] at bx;cases bx;refine Qa.yx Fc (Ab:=[str s,.list [],Ob,Ob]) ⟨vR _,vN,vR _,vR _,trivial⟩ ?_;refine qa ?_;exact⟨([],i+1+1),⟨Nb _,by omega,rfl⟩,jb,rfl,rfl⟩;rintro⟨ps,i3⟩ ⟨hi3,aav,rfl⟩ j hj;rw[bx,ke] at hr;refine Bd ?_;refine oS (sP [_,_] rfl Fc (uE sb T i3 (Bc+1) [41] hl zo zo zo) (λu i4 Lm h4=>?_) λl er i4 Lm h4 e9 Li=>?_);rotate_left;rw[h4,kh] at hr;refine qd ?_;exact oc Rn (by cases hr;rfl) Xc;rw[h4,ke] at hr;obtain⟨rfl,rfl,hi4⟩:=YI h4;refine Xh ?_;refine oS (sP [_,_] rfl pH (zE sb T (i3+1) Lm [123] hl zo zo) (λu2 i5 CJ h5=>?_) λl er i5 CJ h5 e9 Li=>?_);rotate_left;rw[h5,kh] at hr;refine qd ?_;exact oc Rn (by cases hr;rfl) Xc;rw[h5,ke] at hr;obtain⟨rfl,rfl,ho5,hi5⟩:=uv h5;refine Xh ?_;obtain⟨r6,vV⟩:=qk hr;refine oS (sP [_] rfl pH (LY sb T hT f (i3+1+1) (Lm+1) r6 zo vV) (λvs i6 y0 h6=>?_) λl er i6 y0 h6 e9 Li=>?_);rotate_left;rw[vV,h6,kh] at hr;refine qd ?_;exact oc Rn (by cases hr;rfl) Xc;rw[vV,h6,ke] at hr;obtain⟨g1,g2,g3,rfl⟩:=XG T f _ _ _ _ (vV.trans (congrArg some h6));have g4:=g3 zo;refine ja ?_;obtain⟨r7,aK⟩:=qk hr;refine oS (sP [_] rfl Fc ((qAl hG sb T hT f).2.1 i6 (Lm+1) r7 zo zo aK) (λss i7 op7 h7=>?_) λl er i7 op7 h7 e9 Li=>?_);rotate_left;rw[aK,h7,kh] at hr;refine qd ?_;exact oc Rn (by cases hr;rfl) Xc;rw[aK,h7,ke] at hr;obtain⟨q1,q2,q3,rfl⟩:=(VI T f).2.1 _ _ _ _ (aK.trans (congrArg some h7));have q4:=q3 zo;refine ja ?_;refine oS (sP [_,_] rfl Fc (uE sb T i7 (Lm+1) [125] hl zo zo zo) (λu3 i8 op8 h8=>?_) λl er i8 op8 h8 e9 Li=>?_);rotate_left;rw[h8,kh] at hr;refine qd ?_;exact oc Rn (by cases hr;rfl) Xc;rw[h8,ke] at hr;refine ja ?_;exact qf (v:=⟨s,ps,vs,ss⟩) hj (rC (rA (k:=4) rfl Bb rfl ld) rN) (by cases hr;rfl) rfl (Pb Fc Vc)
theorem qAu{a b c:Nat×ga}:(a::b::c::(X++(Y++Z))).Perm (X++(a::b::c::(Y++Z))):=List.perm_append_comm_assoc [a,b,c] X (Y++Z)
theorem Wu{a b c:Nat×ga}:(a::b::c::(X++(Y++Z))).Perm (Y++(a::b::c::(X++Z))):=
 (((List.perm_append_comm_assoc X Y Z).cons c).cons b |>.cons a).trans (List.perm_append_comm_assoc [a,b,c] Y (X++Z))
theorem IW{a b c:Nat×ga}:(a::b::c::(X++(Y++Z))).Perm (Z++(a::b::c::(X++Y))):=
 ((((show(X++(Y++Z)).Perm (Z++(X++Y)) from by rw[<-Pc];exact Nh).cons c).cons b).cons a).trans (List.perm_append_comm_assoc [a,b,c] Z (X++Y))
theorem z8{a b c:Nat×ga}:HSub (a::b::c::(X++(Y++Z))) (b::a::c::((Y++Z)++X)):=
 ⟨[],by rw[Jd];exact(Vp _ _ _).trans ((((Nh).cons c).cons b).cons a)⟩
theorem KW{a b c:Nat×ga}:HSub (a::b::c::(X++(Y++Z))) (b::a::c::((X++Z)++Y)):=
 ⟨[],by rw[Jd];exact(Vp _ _ _).trans ((((show((X++Z)++Y).Perm (X++(Y++Z)) from by rw[Pc];exact Nh.append_left X).cons c).cons b).cons a)⟩
theorem DW{a b c:Nat×ga}:HSub (a::b::c::(X++(Y++Z))) (b::a::c::((X++Y)++Z)):=
 ⟨[],by rw[Jd,Pc];exact Vp _ _ _⟩
theorem Acc.cell{s:Nat}{v:LV}{es:List LV}(h:Acc s v es H F):v.cells? = some [v]/\[v].all Tq=true:=by cases h <;> exact⟨rfl,rfl⟩
theorem rJ(hG:GW B0 w0)(sb:Nat)(T:List Tok)(hT:Nr T)(f:Nat)(r:rj Pr)(hr:vC T f ⟨[],[],[]⟩ 0 0=some r) :
  ca (KC B0 w0) 42 [ptr sb 0] [lb sb T 0 0] (mn sb T Tu r):=by
 have hl:=hT.len;have Bu:(T.map Ws).length=T.length:=ab _;refine Xa Tryz.func42 rfl (n:=47) rfl rfl rfl ?_;refine Xd ?_;refine oS (Rc λb2=>?_);refine wg ?_;refine oS (Rc λb3=>?_);refine qa ?_;refine oL (λk ls H=>∃ (p:Pr) (v1 v2 v3:LV) (i2:Nat) (H1 H2 H3:Heap),k<=f/\ls=[(0,ptr sb 0),(2,ptr b2 0),(3,ptr b3 0)]/\H=lb sb T i2 0::(b3,.cells 68 [v1,v2,v3])::(b2,.cells 68 [Ob,Ob,Ob])::(H1++(H2++H3)) /\
   Acc 1 v1 (p.vars.map str) H1 []/\Acc 2 v2 (p.ba.map CI) H2 []/\Acc 4 v3 (p.funcs.map cg) H3 []/\i2<=T.length/\p.vars.length<=i2/\p.ba.length<=i2/\p.funcs.length<=i2/\vC T k p i2 0=some r)
  ⟨f,_,_,⟨⟨[],[],[]⟩,Ob,Ob,Ob,0,[],[],[],Nb _,rfl,rfl,Acc.nil,Acc.nil,Acc.nil,zero_le _,zero_le _,zero_le _,zero_le _,hr⟩,jb,Pb Bj Ya⟩ ?_
 rintro k ls H ⟨p,v1,v2,v3,i2,H1,H2,H3,O3,rfl,rfl,Oz,sq,dw,Zv,jx,Cs,gK,hI⟩ j hj;obtain⟨k,rfl⟩:∃ k',k=k'+1:=by
  cases k with
  |zero=>rw[vC] at hI;cases hI
  |succ k=>exact⟨k,rfl⟩
 rw[vC] at hI;refine qa ?_;refine Wz [(0,ptr sb 0),(2,ptr b2 0),(3,ptr b3 0),(13,bool (decide (i2<T.length)))] ?_ λj2 tc=>?_;refine Aq ?_;exact⟨⟨rfl,rfl,rfl,Ae (by rw[decide_eq_decide];simp),trivial⟩,rfl,rfl⟩
 skip
 refine Ca (λhc=>?_) λhc=>?_;have za:i2<T.length:=zt hc;rw[zn zo] at hI;refine oa ?_;refine Ui ?_;refine oS (sH [_,_] rfl pH (Xs sb T i2 0 [zO] hl zo (by simp)) ?_);refine Qc ?_;refine Ca (λhv=>?_) λhv=>?_;rw[zp hv] at hI;obtain⟨r2,Vd⟩:=qk hI;refine bj (m:=7) rfl [] ?_;refine aT 0 rfl rfl (pF rfl)<|Ju ?_;refine aL ?_ Vc;refine Tp (i:=1) (j:=3) zk ?_ ?_;refine lH rfl rfl (pL (c:=v1) rfl xf rfl)<|lO 3 (lW rfl (.inl rfl) rfl (sP [_] rfl pH (LY sb T hT k i2 0 r2 Zv Vd) (λl i3 pg h3=>?_) λl er i3 pg h3 e' Aa=>?_));obtain⟨g1,g2,g3,rfl⟩:=XG T k _ _ _ _ (Vd.trans (congrArg some h3));have g4:=g3 Zv;have g5:=g2 hv;have g6:=lY T _ _ _ _ _ _ _ (Vd.trans (congrArg some h3));rw[Vd,h3,ke] at hI;rw[dc] at g6;refine lO 4 (lW rfl (.inl rfl) rfl (sG qAu rfl Oz rfl (JG l) (XI l) (by simp;omega) λv' H' Zn=>?_));refine CN ?_;exact⟨k,_,_,by omega,⟨{ p with vars:=p.vars++l },v',v2,v3,i3,H',H2,H3,by omega,rfl,rfl,by rw[Lf];exact Zn,sq,dw,g4,by rw[ya];omega,Se Cs zo,Se gK zo,hI⟩,jb,z8,tc.trans hj⟩;exact PK;refine lW rfl (.inl rfl) rfl (sP [_] rfl pH (LY sb T hT k i2 0 r2 Zv Vd) (λl i3 pg h3=>?_) λl er i3 pg h3 e' Aa=>?_);refine lO 1 (lH rfl rfl (pL (c:=v1) rfl xf rfl) ?_);obtain⟨g1,g2,g3,rfl⟩:=XG T k _ _ _ _ (Vd.trans (congrArg some h3));have g4:=g3 Zv;have g5:=g2 hv;have g6:=lY T _ _ _ _ _ _ _ (Vd.trans (congrArg some h3));rw[Vd,h3,ke] at hI;rw[dc] at g6;refine lO 4 (lW rfl (.inl rfl) rfl (sG qAu rfl Oz rfl (JG l) (XI l) (by simp;omega) λv' H' Zn=>?_));refine CN ?_;exact⟨k,_,_,by omega,⟨{ p with vars:=p.vars++l },v',v2,v3,i3,H',H2,H3,by omega,rfl,rfl,by rw[Lf];exact Zn,sq,dw,g4,by rw[ya];omega,Se Cs zo,Se gK zo,hI⟩,jb,z8,tc.trans hj⟩;exact PK;rw[zn (by rw[hv];decide)] at hI;refine Bd ?_;refine oS (sH [_,_] rfl pH (MC sb T i2 0 qsd hl zo) ?_);refine Qc ?_;refine Ca (λhw=>?_) λhw=>?_;have Xv:=nk hw;rw[zp hw] at hI;simp only[hw,if_true];obtain⟨r2,Vd⟩:=qk hI;refine bj (m:=8) rfl [] ?_;refine aT 0 rfl rfl (pF rfl)<|Ju ?_;refine aL ?_ Vc;refine Tp (i:=1) (j:=3) zk ?_ ?_;refine lH rfl rfl (pL (c:=v2) rfl xf rfl)<|lO 3 (lW rfl (.inl rfl) rfl (sP [_] rfl pH (UP hG sb T hT (i2+1) 0 r2 zo zo Vd) (λl i3 pg h3=>?_) λl er i3 pg h3 e' Aa=>?_));obtain⟨g1,g2,g3,rfl⟩:=aV T _ _ _ (Vd.trans (congrArg some h3));have g4:=g3 zo;rw[Vd,h3,ke] at hI;refine ED ?_;refine lO 5 (lW rfl (.inl rfl) rfl (sG Wu rfl sq rfl (by simp;rfl) rfl (by simp;omega) λv' H' Zn=>?_));refine tI ?_;exact⟨k,_,_,by omega,⟨{ p with ba:=p.ba++[l] },v1,v',v3,i3,H1,H',H3,by omega,rfl,rfl,Oz,by rw[Lf];exact Zn,dw,g4,Se jx zo,by rw[ya,length_singleton];omega,Se gK zo,hI⟩,jb,KW,tc.trans hj⟩;exact PK;refine lW rfl (.inl rfl) rfl (sP [_] rfl pH (UP hG sb T hT (i2+1) 0 r2 zo zo Vd) (λl i3 pg h3=>?_) λl er i3 pg h3 e' Aa=>?_);refine Tp (i:=1) (j:=4) zk ?_ ?_;refine lH rfl rfl (pL (c:=v2) rfl xf rfl) ?_;obtain⟨g1,g2,g3,rfl⟩:=aV T _ _ _ (Vd.trans (congrArg some h3));have g4:=g3 zo;rw[Vd,h3,ke] at hI;refine ED ?_;refine lO 5 (lW rfl (.inl rfl) rfl (sG Wu rfl sq rfl (by simp;rfl) rfl (by simp;omega) λv' H' Zn=>?_));refine tI ?_;exact⟨k,_,_,by omega,⟨{ p with ba:=p.ba++[l] },v1,v',v3,i3,H1,H',H3,by omega,rfl,rfl,Oz,by rw[Lf];exact Zn,dw,g4,Se jx zo,by rw[ya,length_singleton];omega,Se gK zo,hI⟩,jb,KW,tc.trans hj⟩;obtain⟨g1,g2,g3,rfl⟩:=aV T _ _ _ (Vd.trans (congrArg some h3));have g4:=g3 zo;rw[Vd,h3,ke] at hI;refine dA ?_;refine lO 1 (lH rfl rfl (pL (c:=v2) rfl xf rfl) ?_);refine lO 5 (lW rfl (.inl rfl) rfl (sG Wu rfl sq rfl (by simp;rfl) rfl (by simp;omega) λv' H' Zn=>?_))
 refine tI ?_;exact⟨k,_,_,by omega,⟨{ p with ba:=p.ba++[l] },v1,v',v3,i3,H1,H',H3,by omega,rfl,rfl,Oz,by rw[Lf];exact Zn,dw,g4,Se jx zo,by rw[ya,length_singleton];omega,Se gK zo,hI⟩,jb,KW,tc.trans hj⟩;exact PK;rw[zn (by rw[hw];decide)] at hI;simp only[hw,gk,if_false];refine Bd ?_;refine oS (sH [_,_] rfl pH (MC sb T i2 0 p9 hl zo) ?_);refine Qc ?_;refine Ca (λhu=>?_) λhu=>?_;have Xv:=nk hu;rw[zp hu] at hI;simp only[hu,if_true];obtain⟨r2,Vd⟩:=qk hI;refine bj (m:=8) rfl [] ?_;refine aT 0 rfl rfl (pF rfl)<|Ju ?_;refine aL ?_ Vc;refine Tp (i:=1) (j:=3) zk ?_ ?_;refine lH rfl rfl (pL (c:=v3) rfl xf rfl)<|lO 3 (lW rfl (.inl rfl) rfl (sP [_] rfl pH (qnM hG sb T hT k (i2+1) 0 r2 zo zo Vd) (λl i3 pg h3=>?_) λl er i3 pg h3 e' Aa=>?_));obtain⟨g1,g2,g3,rfl⟩:=WU T k _ _ _ (Vd.trans (congrArg some h3));have g4:=g3 zo;rw[Vd,h3,ke] at hI;refine ED ?_;refine lO 5 (lW rfl (.inl rfl) rfl (sG IW rfl dw rfl (by simp;rfl) rfl (by simp;omega) λv' H' Zn=>?_));refine rI ?_;exact⟨k,_,_,by omega,⟨{ p with funcs:=p.funcs++[l] },v1,v2,v',i3,H1,H2,H',by omega,rfl,rfl,Oz,sq,by rw[Lf];exact Zn,g4,Se jx zo,Se Cs zo,by rw[ya,length_singleton];omega,hI⟩,jb,DW,tc.trans hj⟩;exact PK;refine lW rfl (.inl rfl) rfl (sP [_] rfl pH (qnM hG sb T hT k (i2+1) 0 r2 zo zo Vd) (λl i3 pg h3=>?_) λl er i3 pg h3 e' Aa=>?_);refine Tp (i:=1) (j:=4) zk ?_ ?_;refine lH rfl rfl (pL (c:=v3) rfl xf rfl) ?_;obtain⟨g1,g2,g3,rfl⟩:=WU T k _ _ _ (Vd.trans (congrArg some h3));have g4:=g3 zo;rw[Vd,h3,ke] at hI;refine ED ?_;refine lO 5 (lW rfl (.inl rfl) rfl (sG IW rfl dw rfl (by simp;rfl) rfl (by simp;omega) λv' H' Zn=>?_));refine rI ?_;exact⟨k,_,_,by omega,⟨{ p with funcs:=p.funcs++[l] },v1,v2,v',i3,H1,H2,H',by omega,rfl,rfl,Oz,sq,by rw[Lf];exact Zn,g4,Se jx zo,Se Cs zo,by rw[ya,length_singleton];omega,hI⟩,jb,DW,tc.trans hj⟩;obtain⟨g1,g2,g3,rfl⟩:=WU T k _ _ _ (Vd.trans (congrArg some h3));have g4:=g3 zo;rw[Vd,h3,ke] at hI;refine dA ?_;refine lO 1 (lH rfl rfl (pL (c:=v3) rfl xf rfl) ?_);refine lO 5 (lW rfl (.inl rfl) rfl (sG IW rfl dw rfl (by simp;rfl) rfl (by simp;omega) λv' H' Zn=>?_));refine rI ?_;exact⟨k,_,_,by omega,⟨{ p with funcs:=p.funcs++[l] },v1,v2,v',i3,H1,H2,H',by omega,rfl,rfl,Oz,sq,by rw[Lf];exact Zn,g4,Se jx zo,Se Cs zo,by rw[ya,length_singleton];omega,hI⟩,jb,DW,tc.trans hj⟩;exact PK;rw[zn (by rw[hu];decide)] at hI;simp only[hu,gk,if_false];refine Bd ?_;refine oS (sP [_,_] rfl pH (JP Tu sb T i2 0 3 hl zo) (λ_ _ _ h=>by cases h) λl er i' Ia h e' Aa=>?_);cases h;refine qd ?_;exact oc (Aa.trans (tc.trans hj)) (by cases hI;rfl) Xc;have Es:T.length<=i2:=by have:=zf hc;omega
 rw[zp Es] at hI;refine Qa.yx Fc (Ab:=[.list (p.vars.map str),.list (p.ba.map CI),.list (p.funcs.map cg)]) ⟨Oz.sub,sq.sub,dw.sub,trivial⟩ ?_;refine ja ?_;exact qf (v:=p) (tc.trans hj) (rC (rA (k:=3) rfl Bb rfl ld) rN) (by cases hI;rfl) rfl (Pb Bj Vc)
theorem qyi{s:List UInt8}{T:List Tok}(h:EC s=.ok T):Nr T:=by
 unfold EC at h;split at h;cases h;obtain⟨h1,h2⟩:=wX _ _ _ _ h;exact⟨by omega,λt ht=>by have:=(h2 t ht).1;omega,λt ht hk=>by
  obtain⟨u,h3,h4,_⟩:=(h2 t ht).2 hk;exact⟨u,h3,h4⟩⟩
instance:jh Uj 20:=.of zk
def rk:Pr:=⟨[],[],[]⟩
def su(s:List UInt8):Pr×Int×Int:=match EC s with
 |.error (l,e)=>(rk,l,e)
 |.ok T=>match vC T (10 * T.length+20) rk 0 0 with
  |some (.ok p _ _)=>(p,0,0)
  |some (.err l e)=>(rk,l,e)
  |none=>(rk,0,0)
def jY(r:Pr×Int×Int):LV:=.tuple [Tu r.1,int .i64 r.2.1,int .i64 r.2.2]
theorem qv.Gj{H' H1 H2:Heap}{f:FuncId}{Ua:Array Value} [MH:Gb C.P f](hd:e.ds=[{ target:=.fn (.func f) Ua,args:=#[] }])(hp:H.Perm (H1++F))
  (hc:qn C f (Ua.toList.map .atom) .returning H1 λu H'=>u=.returning/\H'=H2) (h:Zl C n e (H2++F) rs vs) (hH:HSub H' (H2++F)) (hR:R (.ret (qh vs)) H'):qv C n rs R .ret e H:=by
 unfold qv;simp only[hd];refine⟨by simp,f,Ua,H1,F,rfl,MH,hp,qn.mono hc ?_⟩;rintro u ph ⟨rfl,rfl⟩;exact⟨vs,H',h,hH,hR⟩
theorem qv.Xq{H' H1 H2:Heap}{f:FuncId}{Ua:Array Value}{ch:List PanicEntry} [MH:Gb C.P f](hd:e.ds=[{ target:=.fn (.func f) Ua,args:=#[] }])(hp:H.Perm (H1++F))
  (hc:qn C f (Ua.toList.map .atom) (.panicking ch) H1 λu H'=>settle u=.returning/\H'=H2) (h:Zl C n e (H2++F) rs vs) (hH:HSub H' (H2++F)) (hR:R (.ret (qh vs)) H'):qv C n rs R (.panic ch) e H:=by
 unfold qv;simp only[hd];refine⟨by simp,f,Ua,H1,F,rfl,MH,hp,qn.mono hc ?_⟩;rintro u ph ⟨hu,rfl⟩;rw[hu];exact⟨vs,H',h,hH,hR⟩
def zW:rj Pr->Pr×Int×Int
 |.ok p _ _=>(p,0,0)
 |.err l e=>(rk,l,e)
theorem ZX:∀ (f:Nat) (s:List UInt8) (line l e:Int),tk f s line=.error (l,e)->¬ e=0
 |0,s,line,l,e,h=>by rw[tk] at h;cases h
 |f+1,s,line,l,e,h=>by
  rw[tk] at h;split at h;cases h;split at h;split at h;rename_i he;cases h;exact he;cases hx:tk f (s.drop (Yj s).2.1) (line+((s.take (Yj s).2.1).count 10:Nat)) with
  |ok T=>rw[hx] at h;cases h
  |error p=>rw[hx] at h;cases h;exact ZX f _ _ _ _ hx
  exact ZX f _ _ _ _ h
theorem qpy{s:List UInt8}{l e:Int}(h:EC s=.error (l,e)):¬ e=0:=by unfold EC at h;split at h;cases h;decide;exact ZX _ _ _ _ _ h
theorem yn{A:Type}{p:A}{H:List A}(h:p∈H:=by first|exact zg|exact List.Mem.tail _ Bb|exact List.Mem.tail _ xf|exact List.Mem.tail _ Vz|exact List.Mem.tail _ dN|exact List.Mem.tail _ cN|exact List.Mem.tail _ yS):p∈H:=h
attribute [local irreducible] Ii ng fv qn
theorem JT(b2 b3 b4:Nat)(cs:List LV)(c d:LV):qn (KC B0 w0) 41 [ptr b2 0,ptr b3 0,ptr b4 0] .returning [(b2,.cells 68 cs),(b3,.cells 3 [c]),(b4,.cells 23 [d])]
  (λu H=>u=.returning/\H=[(b2,.cells 68 cs),(b3,.cells 3 [c]),(b4,.cells 23 [d])]):=by
 refine qn.intro Tryz.func41 rfl (n:=22) rfl rfl rfl ?_;refine Lx ?_;refine ja ?_;refine Ca (λhc=>?_) λhc=>?_;cases hc;refine qa ?_;exact⟨rfl,_,Tb _,rfl,rfl⟩
theorem UT(b2 b3 b4:Nat)(c1 c2 c3 c d:LV)(l er:Int):qn (KC B0 w0) 41 [ptr b2 0,ptr b3 0,ptr b4 0] (.panicking (wM l er)) [(b2,.cells 68 [c1,c2,c3]),(b3,.cells 3 [c]),(b4,.cells 23 [d])]
  (λu H=>settle u=.returning/\H=[(b2,.cells 68 [Ob,Ob,Ob]),(b3,.cells 3 [int .i64 l]),(b4,.cells 23 [int .i64 er])]):=by
 refine qn.intro Tryz.func41 rfl (n:=22) rfl rfl rfl ?_;refine Lx ?_;refine ja ?_;refine Ca (λhc=>?_) λhc=>?_;refine Bd ?_;refine ia (Pure.Uo (vs:=[.int .i64 l,.int .i64 er]) rfl)<|Ga ?_;refine oS (Rc λb5=>?_);refine ja ?_;refine Ca (λhd=>?_) λhd=>?_;cases hd;refine qa ?_;refine bj (m:=8) rfl [(b5,.cells 102 [int .i64 l,int .i64 er])] ?_;refine aT 0 rfl rfl (pB _ (cs:=[_,_,_]) rfl)<|aT 1 rfl rfl (pF rfl)<|aT 2 rfl rfl (pL (c:=.atom _) rfl Bb rfl)<|aT 3 rfl rfl (pF rfl)<|aT 4 rfl rfl (pL (c:=.atom _) rfl Bb rfl)<|aL ?_ Xc;refine lO 5 (lS (H1:=[(b2,.cells 68 [c1,c2,c3])]) (F:=[(b5,.cells 102 [int .i64 l,int .i64 er]),(b3,.cells 3 [c]),(b4,.cells 23 [d])]) rfl (.inl rfl) rfl Fc Xc (sS (Ab:=[_,_,_]) rfl pH rfl rfl rfl rfl rfl ?_));refine lO 6 (lS (H1:=[(b3,.cells 3 [c])]) (F:=[(b2,.cells 68 [Ob,Ob,Ob]),(b5,.cells 102 [int .i64 l,int .i64 er]),(b4,.cells 23 [d])]) rfl (.inl rfl) rfl Bj (Pb Fc Vc) (sS (Ab:=[_]) rfl pH rfl rfl rfl rfl rfl ?_));refine lO 7 (lS (H1:=[(b4,.cells 23 [d])]) (F:=[(b3,.cells 3 [int .i64 l]),(b2,.cells 68 [Ob,Ob,Ob]),(b5,.cells 102 [int .i64 l,int .i64 er])]) rfl (.inl rfl) rfl Uz (Pb Bj Vc) (sS (Ab:=[_]) rfl pH rfl rfl rfl rfl rfl ?_));refine lD zk ?_;exact⟨rfl,_,Pb Bj (Pb Fc Xc),rfl,rfl⟩;cases hc
theorem qnp(hG:GW B0 w0)(s:List UInt8):ca (KC B0 w0) 26 [str s] [] (Hb (jY (su s))):=by
 refine ca.Nv Tryz.func26 rfl (n:=24) rfl rfl rfl ?_;refine Ym ?_;refine Xd ?_;refine oS (Rc λb2=>oS (Rc λb3=>?_));refine oS (Rc λb4=>?_);refine Qc ?_;refine Ym ?_;refine Bd ?_;refine oS (sF [_] rfl (qq6 hG s) ?_)
 cases hL:EC s with
 |error le=>
  obtain⟨l,er⟩:=le;have he0:¬ er=0:=qpy hL;simp only[tT];refine Ga ?_;refine Ym ?_;refine ja ?_;refine Ca (λhc=>?_) λhc=>?_;refine qa ?_;refine bj (m:=6) rfl [] ?_;refine aT 0 rfl rfl (pB _ (cs:=[_,_,_]) rfl)<|aL ?_ Vc;refine Tf.three (i:=1) (j:=2) (k:=3) zk ?_ ?_ ?_;refine BD ?_;refine Tp (i:=2) (j:=3) zk ?_ ?_;refine lH rfl rfl (pL (c:=.atom _) rfl Bb rfl) ?_;exact z7;refine GD ?_;refine Tp (i:=2) (j:=4) zk ?_ ?_;exact sN;exact oN;refine lH rfl rfl (pL (c:=.atom _) rfl Bb rfl)<|Tp (i:=1) (j:=3) zk ?_ ?_;refine BD ?_;exact z7;refine GD ?_;exact A7;refine GD ?_;refine Tp (i:=1) (j:=2) zk ?_ ?_;refine lH rfl rfl (pL (c:=.atom _) rfl Vz rfl)<|Tp (i:=2) (j:=4) zk ?_ ?_;exact sN;exact oN;refine BD ?_;exact A7;have:er=0:=by simpa using hc
  exact absurd this he0
 |ok T=>
  have hT:=qyi hL;simp only[tT];refine Ga ?_;refine Ym ?_;refine ja ?_;refine Ca (λhc=>?_) λhc=>?_;cases hc;refine qa ?_;refine Ku ?_;refine Ii.defer rfl rfl ?_;refine zq ?_;refine Ym ?_;refine ja ?_;refine oS (sB rfl λsb=>?_);refine Qc ?_;refine Ku ?_;obtain⟨r,hr⟩:=RU T (10 * T.length+20) rk 0 0 (zero_le _) zo
  have hp:su s=zW r:=by rw[su,hL];simp only[hr];cases r <;> rfl
  rw[hp];refine Ii.step (sP (T:=T) (i:=0) (op:=0) [_] rfl pH (rJ hG sb T hT _ r hr) (λv i1 Bc h1=>?_) λl er i1 Bc h1=>?_) rfl;subst h1;refine Ii.step (sS (Ab:=[_,_,_]) rfl Uz rfl rfl rfl rfl rfl ?_) rfl;refine Ii.step (sS (Ab:=[_]) rfl Uz rfl rfl rfl rfl rfl ?_) rfl;refine Ii.step (sS (Ab:=[_]) rfl Uz rfl rfl rfl rfl rfl ?_) rfl;refine zq ?_;refine ng.ret ?_
  exact qv.Gj (vs:=[Tu v,int .i64 0,int .i64 0]) (H2:=[(b2,.cells 68 [.list (v.vars.map str),.list (v.ba.map CI),.list (v.funcs.map cg)]),(b3,.cells 3 [int .i64 0]),(b4,.cells 23 [int .i64 0])]) rfl (Bj.trans (Sr _ (Fc.trans (Sr _ Kb)))) (JT b2 b3 b4 _ _ _)
   (rC (rA (k:=3) rfl Bb rfl ld) (rC (Xl.ic rfl xf rfl ld) (rC (Xl.ic rfl Vz rfl ld) rN))) Vc ⟨rfl,rfl⟩
  subst h1;refine Ud.panic ?_;exact qv.Xq (vs:=[Tu rk,int .i64 l,int .i64 er]) (H2:=[(b2,.cells 68 [Ob,Ob,Ob]),(b3,.cells 3 [int .i64 l]),(b4,.cells 23 [int .i64 er])]) rfl (Uz.trans (Sr _ (Bj.trans (Sr _ (Fc.trans Kb))))) (UT b2 b3 b4 _ _ _ _ _ l er)
   (rC (rA (k:=3) rfl Bb rfl (vA (bs:=[.list [],.list [],.list []]) ⟨vN,vN,vN,trivial⟩)) (rC (Xl.ic rfl xf rfl ld) (rC (Xl.ic rfl Vz rfl ld) rN))) Vc ⟨rfl,rfl⟩
end Go.Proofs.YtmnjklgnhpnckaaGreatDoor
namespace Go.Proofs.YtmnjklgnhpnckaaGreatDoor.Ti
open Go.GL Go.RowKit Go.ea
def LD(nm:List UInt8)(e:Int):List PanicEntry:=[{ v:=.iface 109 (.agg #[.string ⟨nm.toArray⟩,.int .i64 e]),recovered:=false }]
def bu:Nat->List UInt8->Bool
 |_,[]=>true
 |i,c::r=>(if i=0 then Yk c else yi c) && bu (i+1) r
theorem qlO:∀ (r:List UInt8) (i:Nat),i≠0->bu i r=r.all yi
 |[],_,_=>rfl
 |c::r,i,h=>by rw[bu,zn h,qlO r (i+1) zo];rfl
theorem qyT{s:List UInt8}(h0:s≠[])(h1:s.length<=24)(h2:KO.contains s=false):Le s=bu 0 s:=by
 unfold Le;rw[Vg h1,h2];cases s with
 |nil=>exact absurd rfl h0
 |cons c r=>rw[bu,zp rfl,qlO r 1 da];rfl
theorem qtx(s:List UInt8):KO.contains s=(FC.contains s || decide (s=[105,110]) || decide (s=[111,117,116])):=by
 have h:KO.contains s=(FC.contains s || (decide (s=[105,110]) || decide (s=[111,117,116]))):=by unfold KO;rw[Bool.eq_iff_iff];simp
 rw[h,Bool.or_assoc]
instance:On Uj 119 3 (.int .i64 0) (int .i64 0):=⟨⟨9,zk,zk⟩,λw=>(Go.zero_of_info (P:=Uj) (n:=1) zk).1 w,λ_ _=>Zc⟩
instance:On Uj 112 4 (.bool false) (bool false):=⟨⟨9,zk,zk⟩,λw=>(Go.zero_of_info (P:=Uj) (n:=1) zk).1 w,λ_ _=>Zc⟩
instance:On Uj 113 175 (.agg [.int .i64 0,.int .i64 0,.int .i64 0].toArray) (.agg ([.int .i64 0,.int .i64 0,.int .i64 0].map .atom)):=⟨⟨9,zk,zk⟩,λw=>(Go.zero_of_info (P:=Uj) (n:=3) zk).1 w,λw L=>qwS w L _⟩
def Jc:KV:=[([110,117,109],int .i64 0),([118,97,114],int .i64 0),([101,108,101,109],int .i64 1),([110,101,103],int .i64 1),([110,111,116],int .i64 1),([99,97,108,108],int .i64 (-1)),([124,124],int .i64 2),([38,38],int .i64 2),([61,61],int .i64 2),([33,61],int .i64 2),([60],int .i64 2),([62],int .i64 2),([60,61],int .i64 2),([62,61],int .i64 2),([94],int .i64 2),([43],int .i64 2),([45],int .i64 2),([42],int .i64 2),([47],int .i64 2),([37],int .i64 2)]
theorem qwQ(op:List UInt8):GL.db Jc op=if Qf op = -2 then none else some (int .i64 (Qf op)):=by
 have key:∀ x∈[[110,117,109],[118,97,114],[101,108,101,109],[110,101,103],[110,111,116],[99,97,108,108],[124,124],[38,38],[61,61],[33,61],[60],[62],[60,61],[62,61],[94],[43],[45],[42],[47],[37]],GL.db Jc x=if Qf x = -2 then none else some (int .i64 (Qf x)):=by intro x hx;simp only[lc,not_mem_nil,or_false] at hx;rcases hx with rfl|rfl|rfl|rfl|rfl|rfl|rfl|rfl|rfl|rfl|rfl|rfl|rfl|rfl|rfl|rfl|rfl|rfl|rfl|rfl <;> rfl
 by_cases h:op∈[[110,117,109],[118,97,114],[101,108,101,109],[110,101,103],[110,111,116],[99,97,108,108],[124,124],[38,38],[61,61],[33,61],[60],[62],[60,61],[62,61],[94],[43],[45],[42],[47],[37]];exact key op h;simp only[lc,not_mem_nil,or_false,not_or] at h;have h2:Qf op = -2:=by obtain⟨a1,a2,a3,a4,a5,a6,a7,a8,a9,nS,jS,a12,Y6,X6,V6,T6,S6,R6,Q6,a20⟩:=h;unfold Qf;rw[zn λh=>h.elim a1 a2,zn λh=>h.elim a3 λh=>h.elim a4 a5,zn (show ¬ op=Of from a6),zn];unfold dv;simp only[lc,not_mem_nil,or_false,not_or];exact⟨a7,a8,a9,nS,jS,a12,Y6,X6,V6,T6,S6,R6,Q6,a20⟩
 rw[zp h2];obtain⟨a1,a2,a3,a4,a5,a6,a7,a8,a9,nS,jS,a12,Y6,X6,V6,T6,S6,R6,Q6,a20⟩:=h;unfold Jc;simp only[GL.db];rw[zn (Ne.symm a1),zn (Ne.symm a2),zn (Ne.symm a3),zn (Ne.symm a4),zn (Ne.symm a5),zn (Ne.symm a6),zn (Ne.symm a7),zn (Ne.symm a8),zn (Ne.symm a9),zn (Ne.symm nS),zn (Ne.symm jS),zn (Ne.symm a12),zn (Ne.symm Y6),zn (Ne.symm X6),zn (Ne.symm V6),zn (Ne.symm T6),zn (Ne.symm S6),zn (Ne.symm R6),zn (Ne.symm Q6),zn (Ne.symm a20)]
attribute [local irreducible] wa Qa Ra ca Go.GL.Pure Ud xe od LQ Eb Tf Rh LS
section
variable{B0:Nat}{w0:World}{H:Heap}
theorem qn0(b:Bool)(nm:List UInt8)(e:Int):ca (KC B0 w0) 83 [bool b,str nm,int .i64 e] H (λr H'=>H'=H/\r=if b=true then .ret (.tuple []) else .panic (LD nm e)):=by
 refine Xa Tryz.func83 rfl (n:=12) rfl rfl rfl ?_;refine ja ?_;refine Ca (λhc=>?_) λhc=>?_;have hb:b=false:=by simpa using hc
 subst hb;refine ja ?_;refine oS (Ra.panic rfl λe' Aa=>?_);exact od.panic (Aa.trans rfl) Ya ⟨rfl,rfl⟩;have hb:b=true:=by simpa using hc
 subst hb;refine qa ?_;exact rO rfl rN Ya ⟨rfl,rfl⟩
theorem qmo(op:List UInt8):ca (KC B0 w0) 258 [str op] [] (Hb (int .i64 (Qf op))):=by
 refine Xa Tryz.func258 rfl (n:=15) rfl rfl rfl ?_;refine Ln ?_;refine oS (S.fl λom=>oS (S.ed (m:=Jc.take 0) (k:=[110,117,109]) (lv:=int .i64 (0)) (Jc.take 1) rfl rfl rfl pH zk λc0=>?_));refine oS (S.ed (m:=Jc.take 1) (k:=[118,97,114]) (lv:=int .i64 (0)) (Jc.take 2) rfl rfl rfl pH zk λc1=>oS (S.ed (m:=Jc.take 2) (k:=[101,108,101,109]) (lv:=int .i64 (1)) (Jc.take 3) rfl rfl rfl pH zk λc2=>?_));refine oS (S.ed (m:=Jc.take 3) (k:=[110,101,103]) (lv:=int .i64 (1)) (Jc.take 4) rfl rfl rfl pH zk λc3=>oS (S.ed (m:=Jc.take 4) (k:=[110,111,116]) (lv:=int .i64 (1)) (Jc.take 5) rfl rfl rfl pH zk λc4=>?_));refine oS (S.ed (m:=Jc.take 5) (k:=[99,97,108,108]) (lv:=int .i64 (-1)) (Jc.take 6) rfl rfl rfl pH zk λc5=>oS (S.ed (m:=Jc.take 6) (k:=[124,124]) (lv:=int .i64 (2)) (Jc.take 7) rfl rfl rfl pH zk λc6=>?_));refine oS (S.ed (m:=Jc.take 7) (k:=[38,38]) (lv:=int .i64 (2)) (Jc.take 8) rfl rfl rfl pH zk λc7=>oS (S.ed (m:=Jc.take 8) (k:=[61,61]) (lv:=int .i64 (2)) (Jc.take 9) rfl rfl rfl pH zk λc8=>?_));refine oS (S.ed (m:=Jc.take 9) (k:=[33,61]) (lv:=int .i64 (2)) (Jc.take 10) rfl rfl rfl pH zk λc9=>oS (S.ed (m:=Jc.take 10) (k:=[60]) (lv:=int .i64 (2)) (Jc.take 11) rfl rfl rfl pH zk λc10=>?_));refine oS (S.ed (m:=Jc.take 11) (k:=[62]) (lv:=int .i64 (2)) (Jc.take 12) rfl rfl rfl pH zk λc11=>oS (S.ed (m:=Jc.take 12) (k:=[60,61]) (lv:=int .i64 (2)) (Jc.take 13) rfl rfl rfl pH zk λc12=>?_));refine oS (S.ed (m:=Jc.take 13) (k:=[62,61]) (lv:=int .i64 (2)) (Jc.take 14) rfl rfl rfl pH zk λc13=>oS (S.ed (m:=Jc.take 14) (k:=[94]) (lv:=int .i64 (2)) (Jc.take 15) rfl rfl rfl pH zk λc14=>?_));refine oS (S.ed (m:=Jc.take 15) (k:=[43]) (lv:=int .i64 (2)) (Jc.take 16) rfl rfl rfl pH zk λc15=>oS (S.ed (m:=Jc.take 16) (k:=[45]) (lv:=int .i64 (2)) (Jc.take 17) rfl rfl rfl pH zk λc16=>?_));refine oS (S.ed (m:=Jc.take 17) (k:=[42]) (lv:=int .i64 (2)) (Jc.take 18) rfl rfl rfl pH zk λc17=>oS (S.ed (m:=Jc.take 18) (k:=[47]) (lv:=int .i64 (2)) (Jc.take 19) rfl rfl rfl pH zk λc18=>?_));refine oS (S.ed (m:=Jc.take 19) (k:=[37]) (lv:=int .i64 (2)) (Jc.take 20) rfl rfl rfl pH zk λc19=>?_);refine wa.Zb (H':=[(om,.map (ye Jc) c19)]) Ya ?_;refine qa ?_;have hg:=qwQ op
 by_cases h0:Qf op = -2;rw[zp h0] at hg;refine ia (Pure.jr rfl rfl Bb (show GL.db Jc op=none from hg))<|ja ?_;refine oC rfl (λ_=>?_) (λhc=>by cases hc);refine Qj ?_;exact rR rfl (Oa rfl) Vc ⟨by rw[h0];rfl,rfl⟩;rw[zn h0] at hg;refine ia (Pure.Lv rfl rfl Bb (show GL.db Jc op=some (int .i64 (Qf op)) from hg))<|ja ?_;refine oC rfl (λhc=>by cases hc) λ_=>?_;refine oa ?_;exact rR rfl (Oa rfl) Vc ⟨rfl,rfl⟩
theorem ZU(s:List UInt8):ca (KC B0 w0) 154 [str s] [] (Hb (bool (Le s))):=by
 refine Xa Tryz.func154 rfl (n:=65) rfl rfl rfl ?_;refine oa ?_;have Ps:∀ (h:Le s=false) {e:Env} {C:Ctx} {n:Nat},e.ds=[]->e.s 2=bool false->od C n [ResultVar.tmp 2] (Hb (bool (Le s))) .ret e []:=λh {e C n} hd he=>by rw[h];exact Wa hd (rC (Gd he ld) rN) rfl
 refine oB 7 rfl (λh1=>?_) λh1=>?_;have h0:s=[]:=zt h1;refine qa ?_;refine oC rfl (λ_=>?_) (λhc=>by cases hc);refine Qj ?_;exact Ps (by rw[h0];rfl) rfl rfl;have h0:s≠[]:=zf h1;refine Ga ?_;refine oB 12 rfl (λh2=>?_) λh2=>?_
 have hl:24<s.length:=by have:=zt h2;omega
 refine qa ?_;refine oC rfl (λ_=>?_) (λhc=>by cases hc);refine Qj ?_;exact Ps (by unfold Le;rw[decide_eq_false zo];rfl) rfl rfl;have hl:s.length<=24:=by have:=zf h2;omega
 refine qa ?_;refine oB 16 rfl (λh3=>?_) λh3=>?_;have h4:s=[105,110]:=zt h3;refine qa ?_;refine oC rfl (λ_=>?_) (λhc=>by cases hc);refine Qj ?_;exact Ps (by rw[h4];rfl) rfl rfl;refine qa ?_;refine oB 20 rfl (λh5=>?_) λh5=>?_;have h4:s=[111,117,116]:=zt h5;refine qa ?_;refine oC rfl (λ_=>?_) (λhc=>by cases hc);refine Qj ?_;exact Ps (by rw[h4];rfl) rfl rfl;refine qa ?_;refine oS (sF [] rfl qhQ ?_);refine qa ?_;refine oS (sF [_,_] rfl (jV FC s da) ?_);refine qa ?_;have eF:=qtx s;rw[h3,h5,Bool.or_false,Bool.or_false] at eF;refine Ca (λhk=>?_) λhk=>?_;have Yn:FC.contains s=true:=hk;refine Qj ?_
 exact Ps (by
  unfold Le;rw[eF,Yn,Bool.not_true,Bool.and_false,Di]) rfl rfl
 have Yn:FC.contains s=false:=hk;rw[Yn] at eF;have oF:=qyT h0 hl eF;refine ja ?_;refine oL (λk ls H'=>∃ pre l1,s=pre++l1/\k=l1.length/\ls=[(0,str s),(26,int .i64 (s.length:Int)),(27,int .i64 (pre.length:Int))]/\H'=[]/\Le s=bu pre.length l1)
  ⟨s.length,_,_,⟨[],s,rfl,rfl,rfl,rfl,oF⟩,jb,Tb _⟩ ?_
 rintro k ls H' ⟨pre,l1,Mb,rfl,rfl,rfl,hI⟩ j hj;have Qm:pre.length<=24:=by rw[Mb,ya] at hl;omega
 refine wg ?_;refine Ca (λhc=>?_) λhc=>?_;rotate_left;have hlen:=zf hc;rw[Mb,ya] at hlen
 obtain rfl:l1=[]:=by
  cases l1 with
  |nil=>rfl
  |cons a l2=>simp at hlen;omega
 refine oa ?_;exact Wa hj (Oa rfl) (by rw[hI];rfl);have hlen:=zt hc;rw[Mb,ya] at hlen;obtain⟨a,l2,rfl⟩:∃ a l2,l1=a::l2:=by
  cases l1 with
  |nil=>simp at hlen
  |cons a l2=>exact⟨a,l2,rfl⟩
 have wm:s[((pre.length:Nat):Int).toNat]? = some a:=by rw[Int.toNat_natCast,Mb,List.getElem?_append_right (Nb _),Nat.sub_self];rfl
 rw[bu] at hI;have next:∀ {e:Env} {ds:List Deferred} (h:(if pre.length=0 then Yk a else yi a)=true),e.ds=ds->e.s 0=str s->e.s 26=int .i64 (s.length:Int)->e.s 27=int .i64 ((pre.length:Int)+1)->NW (λk ls H'=>∃ pre l1,s=pre++l1/\k=l1.length/\ls=[(0,str s),(26,int .i64 (s.length:Int)),(27,int .i64 (pre.length:Int))]/\H'=[]/\Le s=bu pre.length l1) (a::l2).length ds e []:=λ{e ds} h hd e0 e26 e27=>by rw[h,Bool.true_and] at hI;exact⟨l2.length,_,_,Nat.lt_succ_self _,⟨pre++[a],l2,by rw[Mb];simp,rfl,rfl,rfl,by rw[hI,ya];rfl⟩,⟨e0,e26,e27.trans (lh (by simp)),trivial⟩,Tb _,hd⟩
 refine oa ?_;refine zD ?_;refine wa.cut [(0,str s),(3,int .i64 (pre.length:Int)),(4,bool (Yk a)),(26,int .i64 (s.length:Int)),(27,int .i64 (pre.length:Int))] ?_ λj2 tc=>?_;refine oB 34 rfl (λh6=>?_) λh6=>?_;refine qa ?_;refine zD ?_;exact⟨⟨rfl,rfl,Ae (by unfold Yk;rw[show decide (97<=cv a)=true from h6,Bool.true_and]),rfl,rfl,trivial⟩,rfl,rfl⟩;refine qa ?_;exact⟨⟨rfl,rfl,Ae (by unfold Yk;rw[show decide (97<=cv a)=false from h6,Di]),rfl,rfl,trivial⟩,rfl,rfl⟩;refine ja ?_;refine oB 42 rfl (λh7=>?_) λh7=>?_;rotate_left
 ·have jx:Yk a=true:=by simpa using h7
  refine Ga ?_;refine oC rfl (λhc=>by cases hc) λ_=>?_;refine oa ?_;refine next ?_ ?_ ?_ ?_ ?_
  rw[jx];unfold yi;rw[jx];split <;> rfl;exact tc.trans hj;rfl;rfl;rfl
 have CB:Yk a=false:=by simpa using h7
 refine qa ?_;refine oB 45 rfl (λh8=>?_) λh8=>?_;have VC:pre.length=0:=by have:=zt h8;omega
 refine Ga ?_;refine oC rfl (λ_=>?_) (λhc=>by cases hc);refine oa ?_;exact Ps (by rw[hI,zp VC,CB,Di]) (tc.trans hj) rfl;have VC:¬ pre.length=0:=by have:=zf h8;omega
 rw[zn VC] at hI;refine qa ?_;refine zD ?_;refine oB 50 rfl (λh9=>?_) λh9=>?_;rotate_left
 ·have SV:decide (cv a=95)=true:=by simpa using h9
  refine Ga ?_;refine oC rfl (λhc=>by cases hc) λ_=>?_;refine oa ?_;refine next ?_ ?_ ?_ ?_ ?_
  rw[zn VC];unfold yi;rw[SV,Bool.or_true];exact tc.trans hj;rfl;rfl;rfl
 have SV:decide (cv a=95)=false:=by simpa using h9
 refine qa ?_;refine ia (pI (c:=a) rfl rfl zo wm)<|qa ?_;refine oB 55 rfl (λsx=>?_) λsx=>?_
 have u6:decide (48<=cv a)=false:=by have:cv a<48:=zt sx;exact decide_eq_false zo
 refine qa ?_;refine oC rfl (λ_=>?_) (λhc=>by cases hc);refine oa ?_;exact Ps (by rw[hI];unfold yi Rd;rw[CB,SV,u6];rfl) (tc.trans hj) rfl;have u6:decide (48<=cv a)=true:=by have:¬ cv a<48:=zf sx;exact Vg zo
 refine qa ?_;refine zD ?_;refine Ca (λz6=>?_) λz6=>?_
 have X5:decide (cv a<=57)=false:=by have:57<cv a:=zt z6;exact decide_eq_false zo
 refine oa ?_;exact Ps (by rw[hI];unfold yi Rd;rw[CB,SV,X5,Bool.and_false];rfl) (tc.trans hj) rfl;have X5:decide (cv a<=57)=true:=by have:¬ 57<cv a:=zf z6;exact Vg zo
 refine oa ?_;refine next ?_ ?_ ?_ ?_ ?_;rw[zn VC];unfold yi Rd;rw[u6,X5];simp;exact tc.trans hj;rfl;rfl;rfl
end
end Go.Proofs.YtmnjklgnhpnckaaGreatDoor.Ti
