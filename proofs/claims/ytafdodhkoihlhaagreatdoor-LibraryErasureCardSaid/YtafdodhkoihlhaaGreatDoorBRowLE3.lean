import Derived.Lib.SlTrimSet
import Derived.Lib.Replace
import Derived.Test.YtafdodhkoihlhaaGreatDoorBRowLE2
set_option linter.unusedVariables false
set_option linter.unusedSimpArgs false
set_option maxRecDepth 100000
set_option maxHeartbeats 0
open List (length_drop not_mem_nil mem_cons_self take_append_drop take_succ_cons take_zero map_map getLast_mem cons_append nil_append foldl_cons all_cons all_reverse nodup_nil nodup_cons mem_append mem_of_find?_eq_some)
open Nat (zero_le zero_add add_assoc add_zero mod_lt)
open Option (getD_some)
namespace Go.ia
open Go.Lib
variable{B D a b i j n t v:Nat}{T:List Tok}{c:UInt8}{f:yb}{fs:List yb}{l:List Wd}{r:List Nat}{w x y:Wd}
theorem qqX(la:Wd->Bool):∀ (f:Nat) (l:List Wd),l.length<=f->Xk la f l=l∨(Xk la f l).length<l.length
 |0,l,h=>by have:l=[]:=List.eq_nil_of_length_eq_zero ga;subst this;exact .inl rfl
 |f+1,[],_=>.inl rfl
 |f+1,w::r,h=>by rw[Xk];split;rcases qqX la f r (by simp only[Ma] at h;omega) with h1|h1;rw[h1];exact .inl rfl;right;simp only[Ma];omega;rename_i h0;obtain⟨h1,h2⟩:=wI la (w::r) h0;have:=R1 la f ((w::r).drop (Se la (w::r)).1);rw[length_drop] at this;right;rw[Ga];omega
theorem XZ(l:List Wd):Gq l=l∨(Gq l).length<l.length:=qqX _ _ l (Pb _)
def gh:Nat->List Wd->List Wd
 |0,l=>l
 |f+1,l=>if Gq l=l then l else gh f (Gq l)
def Fi(l:List Wd):List Wd:=gh l.length l
theorem qno:∀ (f g:Nat) (l:List Wd),l.length<=f->l.length<=g->gh f l=gh g l
 |0,0,_,_,_=>rfl
 |0,g+1,l,h,_=>by have:l=[]:=List.eq_nil_of_length_eq_zero ga;subst this;rw[gh,gh,zp (by rfl)]
 |f+1,0,l,_,h=>by have:l=[]:=List.eq_nil_of_length_eq_zero ga;subst this;rw[gh,gh,zp (by rfl)]
 |f+1,g+1,l,h1,h2=>by rw[gh,gh];split;rfl;rename_i h;rcases XZ l with h3|h3;exact absurd h3 h;exact qno f g (Gq l) ga ga
theorem qyT(h:Gq l=l):Fi l=l:=by
 unfold Fi;cases l with
 |nil=>rfl
 |cons w r=>rw[Ma,gh,zp h]
theorem qu2(h:Gq l≠l):Fi l=Fi (Gq l):=by rcases XZ l with h3|h3;exact absurd h3 h;have h4:∃ k,l.length=k+1:=⟨l.length-1,by omega⟩;obtain⟨k,hk⟩:=h4;unfold Fi;rw[hk,gh,zn h];exact qno _ _ _ ga (Pb _)
theorem YZ{v:List Wd}(h:i<v.length):na v i∈v:=by unfold na;rw[Yh h];exact List.getElem_mem h
theorem U3{op s:Wd}(h:Mk x op y=some s):∃ c,c<4294967296/\s=decDigits c:=by unfold Mk at h;split at h;rename_i a b ha hb;split at h;rename_i c hc;split at h;cases h;exact⟨c,EQ (IQ ha) (IQ hb) hc,rfl⟩;cases h;cases h;cases h
theorem qxe{P:Wd->Prop}(hd:∀ n,n<4294967296->P (decDigits n))(la:Wd->Bool)(v:List Wd)(hv:∀ w∈v,P w):∀ w∈(Se la v).2,P w:=by
 have none:∀ n:Nat,∀ w∈((n,[]):Rs).2,P w:=λ_ w hw=>by cases hw
 by_cases h1:∃ s,Fo v=some s;obtain⟨s,h1⟩:=h1;rw[SU h1];obtain⟨c,hc,rfl⟩:=U3 h1;intro w hw;rcases aj hw with rfl;exact hd c hc;have h1:Fo v=Option.none:=by
  cases h:Fo v with
  |none=>rfl
  |some s=>exact absurd ⟨s,h⟩ h1
 by_cases h2:Yv v;rw[ZU h1 h2];exact none _;by_cases h3:xn v/\∃ s,ur v=some s;obtain⟨h3,s,h4⟩:=h3;rw[VU h1 h2 h3 h4];obtain⟨c,hc,rfl⟩:=U3 h4;have h5:=Br (HG h4).2.1;intro w hw;simp only[Dc,not_mem_nil,or_false] at hw;rcases hw with rfl|rfl;exact hd c hc;exact hv _ (YZ h5);have h3:¬ xn v∨ur v=Option.none:=by by_cases hc:xn v;exact yF;exact .inl hc
 by_cases h4:Cy v;rw[LU h1 h2 h3 h4];exact none _;by_cases h5:Zz v;rw[NU h1 h2 h3 h4 h5];obtain⟨l,hl⟩:=zR h5.1;have h6:=BB hl;intro w hw;simp only[Dc,not_mem_nil,or_false] at hw;rcases hw with rfl|rfl;exact hv _ (YZ ga);exact hv _ (YZ ga);cases h6:Ey v with
 |true=>rw[QU h1 h2 h3 h4 h5 h6];exact none _
 |false=>
  cases h7:Oz v with
  |true=>rw[UU h1 h2 h3 h4 h5 h6 h7];exact none _
  |false=>by_cases h8:KE v;rw[PU h1 h2 h3 h4 h5 h6 h7 h8];exact λw hw=>hv w (List.mem_of_mem_take hw);rw[YU h1 h2 h3 h4 h5 h6 h7 h8];unfold Xv;split;split <;> exact none _;exact none _
theorem cR{P:Wd->Prop}(hd:∀ n,n<4294967296->P (decDigits n))(la:Wd->Bool):∀ (f:Nat) (l:List Wd),(∀ w∈l,P w)->∀ w∈Xk la f l,P w
 |0,_,_=>λw hw=>by cases hw
 |f+1,[],_=>λw hw=>by cases hw
 |f+1,a::r,hl=>by rw[Xk];split;intro w hw;rcases Dc.1 hw with rfl|hw;exact hl _ Qe;exact cR hd la f r (λx hx=>hl x (Oc _ hx)) w hw;intro w hw;rcases xj hw with hw|hw;exact qxe hd la (a::r) hl w hw;exact cR hd la f _ (λx hx=>hl x (List.mem_of_mem_drop hx)) w hw
theorem qqt{P:Wd->Prop}(hd:∀ n,n<4294967296->P (decDigits n)):∀ (f:Nat) (l:List Wd),(∀ w∈l,P w)->∀ w∈gh f l,P w
 |0,l,h=>h
 |f+1,l,h=>by rw[gh];split;exact h;exact qqt hd f _ (cR hd _ _ l h)
theorem qwe{P:Wd->Prop}(hd:∀ n,n<4294967296->P (decDigits n)){l:List Wd}(h:∀ w∈l,P w):∀ w∈Fi l,P w:=qqt hd _ l h
def Gk(w:Wd):Prop:=w≠[]/\pr w
theorem iR(n:Nat):Gk (decDigits n):=⟨WK n,λc hc=>by
 have:=XN n c hc;refine⟨?_,?_,?_⟩ <;> (rintro rfl;exact absurd this ea)⟩
theorem qiU{c:UInt8}{l:List UInt8}:∀ p∈Fg c l,c ∉ p/\∀ x∈p,x∈l:=by
 induction l with
 |nil=>intro p hp;obtain rfl:=aj hp;exact⟨by simp,by simp⟩
 |cons d r ih=>intro p hp;by_cases h:d=c;subst h;rw[oR] at hp;rcases Dc.1 hp with rfl|hp;exact⟨by simp,by simp⟩;exact⟨(ih p hp).1,λx hx=>Oc _ ((ih p hp).2 x hx)⟩;obtain⟨q,qs,h1,h2⟩:=QW h r;rw[h2] at hp;rw[h1] at ih;rcases Dc.1 hp with rfl|hp;have:=ih q Qe;refine⟨λhm=>?_,λx hx=>?_⟩;rcases Dc.1 hm with e|hm;exact h e.symm;exact this.1 hm;rcases Dc.1 hx with rfl|hx;exact mem_cons_self ..;exact Oc _ (this.2 x hx);have:=ih p (Oc _ hp);exact⟨this.1,λx hx=>Oc _ (this.2 x hx)⟩
theorem qpk{l:List UInt8}(h:(10:UInt8) ∉ l):∀ w∈wu l,Gk w:=by
 intro w hw;obtain⟨h1,h2⟩:=List.mem_filter.1 hw;obtain⟨h3,h4⟩:=qiU w h1;refine⟨qg h2,λc hc=>⟨?_,?_,?_⟩⟩;rintro rfl;exact h ((List.takeWhile_prefix _).subset (h4 _ hc));rintro rfl;exact h3 hc;rintro rfl
 have:∀ (l:List UInt8),(35:UInt8) ∉ l.takeWhile λd=>decide (d≠35):=by
  intro l;induction l with
  |nil=>simp
  |cons d r ih=>rw[List.takeWhile_cons];split;rename_i hd;intro hm;rcases Dc.1 hm with e|hm;rw[<-e] at hd;simp at hd;exact ih hm;simp
 exact this _ (h4 _ hc)
theorem qiN(s:List UInt8):∀ w∈vk s,Gk w:=by intro w hw;obtain⟨p,hp,hw⟩:=List.mem_flatMap.1 hw;exact qpk (qiU p hp).1 w hw
theorem E1(x y:Wd)(r:List Wd):join (x::y::r) [32]=x++32::join (y::r) [32]:=by simp[join]
theorem qov:∀ (l:List Wd),(∀ w∈l,Gk w)->(10:UInt8) ∉ join l [32]
 |[],_=>by simp[join]
 |[a],h=>by rw[join_one];exact λhm=>((h a Qe).2 10 hm).1 rfl
 |a::b::r,h=>by rw[E1];intro hm;rcases xj hm with hm|hm;exact((h a Qe).2 10 hm).1 rfl;rcases Dc.1 hm with e|hm;exact absurd e ea;exact qov (b::r) (λx hx=>h x (Oc _ hx)) hm
theorem qnM:∀ (l:List Wd),(∀ w∈l,Gk w)->wu (join l [32])=l
 |[],_=>rfl
 |[a],h=>by obtain⟨h1,h2⟩:=h a Qe;rw[join_one,z1 h2];simp[Ss,h1]
 |a::b::r,h=>by obtain⟨h1,h2⟩:=h a Qe;rw[E1,qk7 h2,qnM (b::r) λx hx=>h x (Oc _ hx)];simp[Ss,h1]
theorem KW{l:List Wd}(h:∀ w∈l,Gk w):vk (join l [32])=l:=by unfold vk;rw[PN (qov l h)];simp[qnM l h]
theorem qwd{a b:List Wd}(ha:∀ w∈a,Gk w)(hb:∀ w∈b,Gk w)(h:join a [32]=join b [32]):a=b:=by rw[<-KW ha,<-KW hb,h]
theorem qrX{l:List Wd}(h:∀ w∈l,Gk w):∀ w∈Gq l,Gk w:=cR (λn _=>iR n) _ _ l h
theorem qvk{l:List Wd}(h:∀ w∈l,Gk w):∀ w∈Fi l,Gk w:=qwe (λn _=>iR n) h
def WE(s:List UInt8):List UInt8×Int:=if 400000<s.length then ([],6) else (join (Fi (vk s)) [32],0)
def Mf(l:List Wd):Nat:=(l.map λw=>w.length+1).sum
theorem Ik(w:Wd)(l:List Wd):Mf (w::l)=w.length+1+Mf l:=by simp[Mf]
theorem Wl:Mf []=0:=rfl
theorem Km(a b:List Wd):Mf (a++b)=Mf a+Mf b:=by simp[Mf]
theorem qnR(l:List Wd)(n:Nat):Mf l=Mf (l.take n)+Mf (l.drop n):=by rw[<-Km,take_append_drop]
theorem BN:∀ l:List Wd,(join l [32]).length<=Mf l
 |[]=>zero_le _
 |[a]=>by rw[join_one,Ik];omega
 |a::b::r=>by have:=BN (b::r);rw[E1,Ik];simp only[Ga,Ma];omega
theorem yR{op s:Wd}(h:Mk x op y=some s):s.length<=x.length+y.length+1:=by unfold Mk at h;split at h;split at h;split at h;rename_i hle;cases h;exact hle;cases h;cases h;cases h
theorem qvY(la:Wd->Bool)(v:List Wd):Mf (Se la v).2<=Mf (v.take (Se la v).1):=by
 by_cases h1:∃ s,Fo v=some s;obtain⟨s,h1⟩:=h1;rw[SU h1];have hl:=yR h1;have Ka:=Br (HG h1).2.1;match v,Ka,hl with
 |a::b::c::r,_,hl=>simp only[na,Jl,Bs,getD_some] at hl;simp only[take_succ_cons,take_zero,Ik,Wl];omega
 have h1:Fo v=Option.none:=by
  cases h:Fo v with
  |none=>rfl
  |some s=>exact absurd ⟨s,h⟩ h1
 by_cases h2:Yv v;rw[ZU h1 h2];exact zero_le _;by_cases h3:xn v/\∃ s,ur v=some s;obtain⟨h3,s,h4⟩:=h3;rw[VU h1 h2 h3 h4];have hl:=yR h4;have h5:na v 3≠[]:=by rw[h3.2];exact(HG h4).2.1
 have Ka:=Br h5;match v,Ka,hl with
 |a::b::c::d::r,_,hl=>simp only[na,Jl,Bs,getD_some] at hl ⊢;simp only[take_succ_cons,take_zero,Ik,Wl];omega
 have h3:¬ xn v∨ur v=Option.none:=by by_cases hc:xn v;exact yF;exact .inl hc
 by_cases h4:Cy v;rw[LU h1 h2 h3 h4];exact zero_le _;by_cases h5:Zz v;rw[NU h1 h2 h3 h4 h5];obtain⟨l,hl⟩:=zR h5.1;have h6:=BB hl;match v,h6 with
 |a::b::c::d::e::f::r,_=>simp only[na,Jl,Bs,getD_some];simp only[take_succ_cons,take_zero,Ik,Wl];omega
 cases h6:Ey v with
 |true=>rw[QU h1 h2 h3 h4 h5 h6];exact zero_le _
 |false=>
  cases h7:Oz v with
  |true=>rw[UU h1 h2 h3 h4 h5 h6 h7];exact zero_le _
  |false=>by_cases h8:KE v;rw[PU h1 h2 h3 h4 h5 h6 h7 h8];simp only;have:=qnR (v.take (uk v+zr (v.drop (uk v)))) (uk v);rw[List.take_take,Nat.min_eq_left (by omega)] at this;omega;rw[YU h1 h2 h3 h4 h5 h6 h7 h8];unfold Xv;split;split <;> exact zero_le _;exact zero_le _
theorem iW(la:Wd->Bool):∀ (f:Nat) (l:List Wd),Mf (Xk la f l)<=Mf l
 |0,_=>zero_le _
 |f+1,[]=>Pb _
 |f+1,a::r=>by rw[Xk];split;rw[Ik,Ik];have:=iW la f r;omega;have h1:=qvY la (a::r);have h2:=iW la f ((a::r).drop (Se la (a::r)).1);have h3:=qnR (a::r) (Se la (a::r)).1;rw[Km];omega
theorem qrh:∀ (f:Nat) (l:List Wd),Mf (gh f l)<=Mf l
 |0,l=>Pb _
 |f+1,l=>by rw[gh];split;exact Pb _;exact Xf (qrh f _) (iW _ _ l)
theorem CN:∀ (s cur:List UInt8) (Fv:Bool),Mf (iB cur Fv s)<=cur.length+s.length+1
 |[],cur,Fv=>by rw[iB];unfold Ss;split;exact zero_le _;simp[Mf]
 |c::r,cur,Fv=>by
  have hf:Mf (Ss cur)<=cur.length+1:=by unfold Ss;split;exact zero_le _;simp[Mf]
  rw[iB];simp only[Ma];split;have:=CN r [] false;rw[Km];simp only[qc] at this;omega;split;have:=CN r cur true;omega;split;have:=CN r [] true;rw[Km];simp only[qc] at this;omega;split;have:=CN r [] false;rw[Km];simp only[qc] at this;omega;have:=CN r (cur++[c]) false;rw[Ga,List.length_singleton] at this;omega
theorem BW(s:List UInt8):Mf (vk s)<=s.length+1:=by rw[<-qrr];have:=CN s [] false;simpa using this
theorem qxJ(s:List UInt8):(join (Fi (vk s)) [32]).length<=s.length+1:=
 Xf (BN _) (Xf (qrh _ _) (BW s))
theorem qp0(c:UInt8)(r:List UInt8):Sv (c::r)=(decide ((c::r).length<=40) && Ml c && (c::r).all Si):=rfl
theorem qxw{s:Wd}(h:Sv s=true):s≠[]:=by rintro rfl;cases h
def JE:Nat->List (List UInt8)->List (Wd×Nat)
 |_,[]=>[]
 |n,l::r=>(wu l).map (λw=>(w,n+1))++JE (n+1) r
def Tv(s:List UInt8):List (Wd×Nat):=JE 0 (Fg 10 s)
theorem qnh:∀ (l:List (List UInt8)) (n:Nat),(JE n l).map (·.1)=l.flatMap wu
 |[],_=>rfl
 |a::r,n=>by rw[JE,Te,map_map,qnh r];simp[Function.comp_def]
theorem SK(s:List UInt8):(Tv s).map (·.1)=vk s:=qnh _ 0
theorem qrn{l:List (List UInt8)}(h:i<l.length)(n:Nat):JE n (l.drop i)=(wu l[i]).map (λw=>(w,n+1))++JE (n+1) (l.drop (i+1)):=by rw[List.drop_eq_getElem_cons h,JE]
theorem qsQ{l:List (List UInt8)}(h:i<l.length):full (l.drop i)=if l[i]=[] then full (l.drop (i+1)) else l[i]::full (l.drop (i+1)):=by rw[List.drop_eq_getElem_cons h];unfold full;rw[List.filter_cons];by_cases hc:l[i]=[];simp[hc];simp[hc]
theorem B3(c:UInt8):∀ s,(Fg c s).length<=s.length+1
 |[]=>by simp[Fg]
 |d::r=>by have:=B3 c r;by_cases h:d=c;subst h;rw[oR];simp only[Ma];omega;obtain⟨p,ps,h1,h2⟩:=QW h r;rw[h2];rw[h1] at this;simp only[Ma] at this ⊢;omega
theorem WW{c:UInt8}:∀ {s p:List UInt8},p∈Fg c s->p.length<=s.length
 |[],p,h=>by obtain rfl:=aj h;exact Pb _
 |d::r,p,h=>by by_cases hd:d=c;subst hd;rw[oR] at h;rcases Dc.1 h with rfl|h;exact zero_le _;have:=WW h;simp only[Ma];omega;obtain⟨q,qs,h1,h2⟩:=QW hd r;rw[h2] at h;rcases Dc.1 h with rfl|h;have:=WW (c:=c) (s:=r) (p:=q) (by rw[h1];exact mem_cons_self ..);simp only[Ma];omega;have:=WW (c:=c) (s:=r) (p:=p) (by rw[h1];exact Oc _ h);simp only[Ma];omega
theorem P3(s:List UInt8):(vk s).length<=s.length+1:=by
 have h1:=BW s;have h2:(vk s).length<=Mf (vk s):=by
  unfold Mf;generalize vk s=l;induction l with
  |nil=>exact Pb _
  |cons a l ih=>simp only[Ma,yd,List.sum_cons];omega
 omega
theorem qsI(h:w∈l):w.length+1<=Mf l:=by
 induction l with
 |nil=>cases h
 |cons a l ih=>rw[Ik];rcases Dc.1 h with rfl|h;omega;have:=ih h;omega
theorem tV(l:List Wd):l.length<=Mf l:=by
 induction l with
 |nil=>exact zero_le _
 |cons a l ih=>rw[Ik,Ma];omega
theorem qvl(l:List Wd):Mf (Gq l)<=Mf l:=iW _ _ _
def tB:List UInt8:=[43,45,42,47,37,94,60,64,33,63,58,59,44,46,36,48,49,50,51,52,53,54,55,56,57]
def Ay(w:Wd):Bool:=w.all λc=>tB.contains c
def Jb(l:List Wd):List Wd:=l.filterMap ya
def Hp(ds:List Wd)(w:Wd):Prop:=match ya w with
 |some _=>True
 |none=>match Va w with
  |some d=>d∈ds
  |none=>Ay w=true
def yu(l:List Wd):Prop:=(Jb l).Nodup/\∀ w∈l,Hp (Jb l) w
def Mm(w:Wd):Bool:=match w with
 |[]=>false
 |c::_=>qe c
def Qf(w:Wd):Bool:=match w.getLast? with
 |some c=>qe c
 |none=>false
def one(d:Bool):Nat:=if d=true then 1 else 0
def ic:Bool->List Wd->Nat
 |_,[]=>0
 |d,w::r=>match ya w with
  |some _=>ic d r
  |none=>match Va w with
   |some _=>one d+6+ic true r
   |none=>one (d && Mm w)+w.length+ic (Qf w) r
structure Sign(w:Wd):Prop where
 d:ya w=none
 r:Va w=none
 f:Mm w=false
 l:Qf w=false
 n:w.length=1
structure VB(w:Wd):Prop where
 d:ya w=none
 r:Va w=none
 f:Mm w=true
 l:Qf w=true
 n:1<=w.length
 c:Ay w=true
theorem qlh(h:qe c=true):tB.contains c=true:=by
 have:∀ n:Nat,n<256->qe (UInt8.ofNat n)=true->tB.contains (UInt8.ofNat n)=true:=by decide +kernel
 have h1:=this c.toNat c.toNat_lt;rw[UInt8.ofNat_toNat] at h1;exact h1 h
theorem KQ(n:Nat):VB (decDigits n):=by
 have hd:=XN n;have xb:=WK n;generalize decDigits n=w at hd xb;cases w with
 |nil=>exact absurd rfl xb
 |cons c r=>have hc:=hd c Qe;have hl:(c::r).getLast? = some ((c::r).getLast (by simp)):=List.getLast?_eq_some_getLast (by simp);have A7:=hd _ (getLast_mem (l:=c::r) (by simp));refine⟨?_,?_,hc,?_,by simp,?_⟩;unfold ya;rw[hl,zn];intro h;rw[Option.some.inj h.1] at A7;exact absurd A7 ea;unfold Va;simp only;rw[zn];intro h;rw[h.1] at hc;exact absurd hc ea;unfold Qf;rw[hl];exact A7;unfold Ay;rw[List.all_eq_true];exact λx hx=>qlh (hd x hx)
theorem FQ(h:Db w=some n):VB w:=by rw[<-((IC w n).1 h).2];exact KQ n
theorem Yz(h:w∈([[43],[45],[42],[94],[60],[47],[37],[64],[33],[63],[59],[36]]:List Wd)):Sign w:=by
 have:∀ w∈([[43],[45],[42],[94],[60],[47],[37],[64],[33],[63],[59],[36]]:List Wd),ya w=none/\Va w=none/\Mm w=false/\Qf w=false/\w.length=1:=by decide +kernel
 obtain⟨h1,h2,h3,h4,h5⟩:=this w h;exact⟨h1,h2,h3,h4,h5⟩
theorem qs7{c:Nat}{op:Wd}(h:Tp a op b=some c):Sign op:=by apply Yz;unfold Tp at h;simp only[Dc,not_mem_nil,or_false];split at h;exact .inl ‹_›;split at h;exact .inr (.inl ‹_›);split at h;exact .inr (.inr (.inl ‹_›));split at h;exact .inr (.inr (.inr (.inl ‹_›)));split at h;exact .inr (.inr (.inr (.inr (.inl ‹_›))));split at h;exact .inr (.inr (.inr (.inr (.inr (.inl ‹_›)))));split at h;exact .inr (.inr (.inr (.inr (.inr (.inr (.inl ‹_›))))));cases h
theorem W3{op s:Wd}(h:Mk x op y=some s):VB x/\Sign op/\VB y/\VB s:=by obtain⟨c,_,rfl⟩:=U3 h;unfold Mk at h;split at h;rename_i a b ha hb;split at h;rename_i c' hc;exact⟨FQ ha,qs7 hc,FQ hb,KQ c⟩;cases h;cases h
theorem gu{d:Wd}(h:Va w=some d):ya w=none:=by
 unfold Va at h;split at h;cases h;rename_i c r;split at h;rename_i hc;obtain⟨rfl,hn⟩:=hc;unfold ya;rw[zn];rintro⟨_,h2⟩;cases r with
 |nil=>cases hn
 |cons e r=>
  rw[List.dropLast_cons_of_ne_nil (by simp),qp0] at h2;have:Ml 38=false:=by decide
  rw[this] at h2;simp at h2
 cases h
theorem G3{v:List Wd}{l:Wd}(h:mn v i=some l):Va (na v i)=some l/\na v (i+1)=[63]:=by unfold mn at h;split at h;rename_i d hd;split at h;cases h;exact⟨hd,‹_›⟩;cases h;cases h
theorem qwx{l:Wd}(h:ya w=some l)(d:Bool)(r:List Wd):ic d (w::r)=ic d r:=by rw[ic,h]
theorem qqm{l:Wd}(h:Va w=some l)(d:Bool)(r:List Wd):ic d (w::r)=one d+6+ic true r:=by rw[ic,gu h,h]
theorem Sign.len(h:Sign w)(d:Bool)(r:List Wd):ic d (w::r)=1+ic false r:=by rw[ic,h.d,h.r,h.f,h.l,h.n,Bool.and_false];simp[one]
theorem VB.len(h:VB w)(d:Bool)(r:List Wd):ic d (w::r)=one d+w.length+ic true r:=by rw[ic,h.d,h.r,h.f,h.l,Bool.and_true]
theorem one_le(d:Bool):one d<=1:=by cases d <;> simp[one]
theorem vZ:∀ r:List Wd,ic true r<=ic false r+1/\ic false r<=ic true r
 |[]=>⟨by simp[ic],by simp[ic]⟩
 |w::r=>by
  have ih:=vZ r;have e1:one true=1:=rfl;have e0:one false=0:=rfl;have h1:=one_le (Mm w);rw[ic,ic];cases ya w with
  |some l=>exact ih
  |none=>
   cases Va w with
   |some l=>simp only;omega
   |none=>simp only[Bool.true_and,wj,e0];omega
theorem C0(d:Bool)(r:List Wd):ic d r<=ic false r+1/\ic false r<=ic d r:=by
 cases d with
 |true=>exact vZ r
 |false=>exact⟨by omega,Pb _⟩
theorem RN(r:List Wd):∀ (m:List Wd) (d:Bool),ic false r<=ic d (m++r)
 |[],d=>(C0 d r).2
 |w::m,d=>by
  rw[cons_append,ic];cases ya w with
  |some l=>exact RN r m d
  |none=>
   cases Va w with
   |some l=>have:=RN r m true;simp only;omega
   |none=>have:=RN r m (Qf w);simp only;omega
theorem T2(h:VB w∨Sign w)(m r:List Wd)(d:Bool):ic d r<=ic d (w::(m++r)):=by have h1:=(C0 d r).1;rcases h with h|h;have h2:=RN r m true;have h3:=h.n;rw[h.len];omega;have h2:=RN r m false;rw[h.len];omega
theorem lR{x y:List Wd}(h:∀ d,ic d x<=ic d y):∀ (m:List Wd) (d:Bool),ic d (m++x)<=ic d (m++y)
 |[],d=>h d
 |w::m,d=>by
  rw[cons_append,cons_append,ic,ic];cases ya w with
  |some l=>exact lR h m d
  |none=>
   cases Va w with
   |some l=>have:=lR h m true;simp only;omega
   |none=>have:=lR h m (Qf w);simp only;omega
theorem GG(w:Wd)(l:List Wd):Jb (w::l)=(match ya w with|some d=>[d]|none=>[])++Jb l:=by unfold Jb;rw[List.filterMap_cons];try cases ya w <;> rfl
theorem Zk(h:ya w=none)(l:List Wd):Jb (w::l)=Jb l:=by rw[GG,h];try rfl
theorem zB(a b:List Wd):Jb (a++b)=Jb a++Jb b:=List.filterMap_append
theorem qtP{p:Wd->Bool}:∀ {l:List Wd} {x:Wd},x∈l.takeWhile p->p x=true
 |[],x,h=>by cases h
 |a::l,x,h=>by
  rw[List.takeWhile_cons] at h;split at h;rcases Dc.1 h with rfl|h
  assumption
  exact qtP h;cases h
structure Lv(la:Wd->Bool)(v:List Wd)(r:Rs):Prop where
 len:∀ d rest,ic d (r.2++rest)<=ic d (v.take r.1++rest)
 put:Jb r.2=[]
 KP:∀ d∈Jb (v.take r.1),la d=false
theorem Tw:VB [48]:=KQ 0 |> λh=>by rwa [decDigits_one ea] at h
theorem kA:VB [49]:=KQ 1 |> λh=>by rwa [decDigits_one ea] at h
theorem mW(la:Wd->Bool)(v:List Wd)(h:(Se la v).1≠0):Lv la v (Se la v):=by
 by_cases h1:∃ s,Fo v=some s
 ·obtain⟨s,h1⟩:=h1;rw[SU h1];have hl:=yR h1;have Ka:=Br (HG h1).2.1;obtain⟨k1,k2,k3,k4⟩:=W3 h1
  match v,Ka,hl,k1,k2,k3 with
  |a::b::c::r,_,hl,k1,k2,k3=>simp only[na,Jl,Bs,getD_some] at hl k1 k2 k3;refine⟨λd rest=>?_,by rw[Zk k4.d];try rfl,λd hd=>?_⟩;simp only[take_succ_cons,take_zero,cons_append,nil_append];rw[k4.len,k1.len,k3.len,k2.len];have:=(vZ rest).1;have e1:one true=1:=rfl;omega;simp only[take_succ_cons,take_zero] at hd;rw[Zk k1.d,Zk k3.d,Zk k2.d] at hd;cases hd
 have h1:Fo v=Option.none:=by
  cases h:Fo v with
  |none=>rfl
  |some s=>exact absurd ⟨s,h⟩ h1
 by_cases h2:Yv v;rw[ZU h1 h2];have ld:VB (na v 0)/\Sign (na v 1):=by rcases h2 with⟨e,h|h|h⟩|⟨e,h|h⟩;exact⟨by rw[e];exact Tw,by rw[h];exact Yz ea⟩;exact⟨by rw[e];exact Tw,by rw[h];exact Yz ea⟩;exact⟨by rw[e];exact Tw,by rw[h];exact Yz ea⟩;exact⟨by rw[e];exact kA,by rw[h];exact Yz ea⟩;exact⟨by rw[e];exact kA,by rw[h];exact Yz ea⟩
 have Ka:1<v.length:=Br (by intro h0;have:=ld.2.n;rw[h0] at this;cases this);match v,Ka,ld with
 |a::b::r,_,ld=>simp only[na,Jl,Bs,getD_some] at ld;refine⟨λd rest=>T2 (.inl ld.1) [b] rest d,rfl,λd hd=>?_⟩;simp only[take_succ_cons,take_zero] at hd;rw[Zk ld.1.d,Zk ld.2.d] at hd;cases hd
 by_cases h3:xn v/\∃ s,ur v=some s
 ·obtain⟨h3,s,h4⟩:=h3;rw[VU h1 h2 h3 h4];have hl:=yR h4;have h5:na v 3≠[]:=by rw[h3.2];exact(HG h4).2.1
  have Ka:=Br h5;have yH:=h3.2;obtain⟨k1,k2,k3,k4⟩:=W3 h4;match v,Ka,hl,k1,k2,k3,yH with
  |a::b::c::e::r,_,hl,k1,k2,k3,yH=>simp only[na,Jl,Bs,getD_some] at hl k1 k2 k3 yH ⊢;subst yH;refine⟨λd rest=>?_,by rw[Zk k4.d,Zk k2.d];try rfl,λd hd=>?_⟩;simp only[take_succ_cons,take_zero,cons_append,nil_append];rw[k4.len,k1.len,k2.len,k2.len,k3.len,k2.len];omega;simp only[take_succ_cons,take_zero] at hd;rw[Zk k1.d,Zk k2.d,Zk k3.d,Zk k2.d] at hd;cases hd
 have h3:¬ xn v∨ur v=Option.none:=by by_cases hc:xn v;exact yF;exact .inl hc
 by_cases h4:Cy v;rw[LU h1 h2 h3 h4];obtain⟨g1,g2,g3,g4⟩:=h4;obtain⟨n,hn⟩:=zR g1;have kn:=FQ hn;have Ka:=Br (v:=v) (i:=3) (by rw[g4];decide);match v,Ka,g2,g3,g4,kn with
 |a::b::c::e::r,_,g2,g3,g4,kn=>simp only[na,Jl,Bs,getD_some] at g2 g3 g4 kn;subst g2 g3 g4;refine⟨λd rest=>T2 (.inl kn) [[64],c,[33]] rest d,rfl,λd hd=>?_⟩;simp only[take_succ_cons,take_zero] at hd;rw[Zk kn.d,Zk (Yz ea).d,Zk kn.d,Zk (Yz ea).d] at hd;cases hd
 by_cases h5:Zz v
 ·rw[NU h1 h2 h3 h4 h5];obtain⟨g0,g1,g2,g3,g4⟩:=h5;obtain⟨l,hl⟩:=zR g0;have h6:=BB hl;obtain⟨j1,j2⟩:=G3 hl
  match v,h6,g1,g2,g3,g4,j1,j2 with
  |a::b::c::e::p::q::r,_,g1,g2,g3,g4,j1,j2=>simp only[na,Jl,Bs,getD_some] at g1 g2 g3 g4 j1 j2 ⊢;subst g1 g2 g3 g4 j2;have JU:Sign [60]:=Yz ea;have MM:Sign [63]:=Yz ea;refine⟨λd rest=>?_,by rw[Zk (gu j1),Zk MM.d];try rfl,λd hd=>?_⟩;simp only[take_succ_cons,take_zero,cons_append,nil_append];rw[kA.len,JU.len,kA.len,JU.len];have:=(C0 d (p::[63]::rest)).1;have e1:([49]:Wd).length=1:=rfl;omega;simp only[take_succ_cons,take_zero] at hd;rw[Zk kA.d,Zk JU.d,Zk kA.d,Zk JU.d,Zk (gu j1),Zk MM.d] at hd;cases hd
 have three:∀ (x:Wd),VB x->na v 0=x->(mn v 1).isSome=true->Lv la v (3,[]):=λx hx h0 hj=>by
  obtain⟨l,hl⟩:=zR hj;have h6:=BB hl;obtain⟨j1,j2⟩:=G3 hl;clear h hj;match v,h6,h0,j1,j2 with
  |a::p::q::r,_,h0,j1,j2=>simp only[na,Jl,Bs,getD_some] at h0 j1 j2;subst h0 j2;refine⟨λd rest=>T2 (.inl hx) [p,[63]] rest d,rfl,λd hd=>?_⟩;simp only[take_succ_cons,take_zero] at hd;rw[Zk hx.d,Zk (gu j1),Zk (Yz ea).d] at hd;cases hd
 cases h6:Ey v with
 |true=>rw[QU h1 h2 h3 h4 h5 h6];unfold Ey at h6;split at h6;rename_i n hn;exact three _ (FQ hn) rfl (qg h6).2;cases h6
 |false=>
  cases h7:Oz v with
  |true=>
   rw[UU h1 h2 h3 h4 h5 h6 h7];unfold Oz at h7;split at h7
   ·rename_i l hl
    exact three _ Tw (qg h7).1 (by rw[hl];try rfl)
   cases h7
  |false=>
   by_cases h8:KE v
   ·rw[PU h1 h2 h3 h4 h5 h6 h7 h8]
    have gk:Jb (v.take (uk v))=[]/\∀ (d:Bool) (x y:List Wd),ic false x<=ic false y->ic d (v.take (uk v)++x)<=ic d (v.take (uk v)++y):=by
     have hp:=h8.1;revert hp;unfold uk;split
     ·rename_i hj
      intro _;obtain⟨l,hl⟩:=zR hj.1;have h6:=BB hl;obtain⟨j1,j2⟩:=G3 hl;have h0:=hj.2;clear hj h8 hl h h1 h2 h3 h4 h5 h7 three;match v,h6,h0,j1,j2 with
      |a::p::q::r,_,h0,j1,j2=>
       simp only[na,Jl,Bs,getD_some] at h0 j1 j2;subst h0 j2;have MM:Sign [63]:=Yz ea;refine⟨?_,λd x y W5=>?_⟩
       ·simp only[take_succ_cons,take_zero];rw[Zk Tw.d,Zk (gu j1),Zk MM.d]
        try rfl
       simp only[take_succ_cons,take_zero,cons_append,nil_append];rw[Tw.len,Tw.len,qqm j1,qqm j1,MM.len,MM.len];omega
     split
     ·rename_i hs
      intro _;have aF:Sign (na v 0):=by rcases hs with h|h <;> rw[h] <;> exact Yz ea
      have Ka:0<v.length:=Br (by intro h0;have:=aF.n;rw[h0] at this;cases this);clear hs h8 h h1 h2 h3 h4 h5 h6 h7 three;match v,Ka,aF with
      |a::r,_,aF=>
       simp only[na,Jl,getD_some] at aF;refine⟨?_,λd x y W5=>?_⟩
       ·simp only[take_succ_cons,take_zero];rw[Zk aF.d]
        try rfl
       simp only[take_succ_cons,take_zero,cons_append,nil_append];rw[aF.len,aF.len];omega
     intro hp;omega
    have gH:v.take (uk v+zr (v.drop (uk v)))=v.take (uk v)++(v.drop (uk v)).takeWhile λw=>(ya w).isNone:=by rw[List.take_add];congr 1;unfold zr;exact(List.prefix_iff_eq_take.1 (List.takeWhile_prefix _)).symm
    refine⟨λd rest=>?_,gk.1,λd hd=>?_⟩;simp only;rw[gH,Yc];exact gk.2 d _ _ (RN rest _ false);simp only at hd;rw[gH,zB,gk.1,nil_append] at hd;exfalso;obtain⟨w,hw,hwd⟩:=List.mem_filterMap.1 hd;have:=qtP hw;rw[hwd] at this;cases this
   rw[YU h1 h2 h3 h4 h5 h6 h7 h8] at h ⊢;have hU:Xv la v=match ya (na v 0) with
    |some l=>if la l=true then (0,[]) else (1,[])
    |none=>(0,[]):=rfl
   cases hd:ya (na v 0) with
   |none=>rw[hd] at hU;rw[hU] at h;exact absurd rfl h
   |some l=>
    rw[hd] at hU;simp only at hU;by_cases hu:la l=true;rw[zp hu] at hU;rw[hU] at h;exact absurd rfl h;rw[zn hu] at hU;rw[hU];have Ka:0<v.length:=Br (by intro h0;rw[h0] at hd;cases hd);clear hU h h1 h2 h3 h4 h5 h6 h7 h8 three;match v,Ka,hd with
    |a::r,_,hd=>
     simp only[na,Jl,getD_some] at hd;refine⟨λd rest=>?_,rfl,λd fM=>?_⟩;simp only[take_succ_cons,take_zero,cons_append,nil_append];rw[qwx hd];exact Pb _;simp only[take_succ_cons,take_zero] at fM;rw[GG,hd] at fM;have:d=l:=by simpa [Jb] using fM
     rw[this];exact Bool.eq_false_iff.2 hu
theorem C3(la:Wd->Bool):∀ (f:Nat) (l:List Wd) (d:Bool),l.length<=f->ic d (Xk la f l)<=ic d l
 |0,l,d,h=>by have:l=[]:=List.eq_nil_of_length_eq_zero ga;subst this;exact Pb _
 |f+1,[],d,_=>Pb _
 |f+1,w::r,d,h=>by
  rw[Xk];split;exact lR (x:=Xk la f r) (y:=r) (λd=>C3 la f r d (by simp only[Ma] at h;omega)) [w] d
  rename_i h0;have hR:=mW la (w::r) h0;have hk:=wI la (w::r) h0;have ih:=λd=>C3 la f ((w::r).drop (Se la (w::r)).1) d (by rw[length_drop];omega);have h1:=lR ih (Se la (w::r)).2 d;have h2:=hR.len d ((w::r).drop (Se la (w::r)).1);rw[take_append_drop] at h2;exact Xf h1 h2
theorem I3(la:Wd->Bool):∀ (f:Nat) (l:List Wd),l.length<=f->(Jb (Xk la f l)).Sublist (Jb l)/\∀ d∈Jb l,la d=true->d∈Jb (Xk la f l)
 |0,l,h=>by have:l=[]:=List.eq_nil_of_length_eq_zero ga;subst this;exact⟨List.Sublist.refl _,λd hd=>by cases hd⟩
 |f+1,[],_=>⟨List.Sublist.refl _,λd hd=>by cases hd⟩
 |f+1,w::r,h=>by
  rw[Xk];split;obtain⟨i1,i2⟩:=I3 la f r (by simp only[Ma] at h;omega);rw[GG w r,GG w (Xk la f r)];refine⟨List.Sublist.append (List.Sublist.refl _) i1,λd hd hu=>?_⟩;rcases xj hd with hd|hd;exact List.mem_append_left _ hd;exact List.mem_append_right _ (i2 d hd hu)
  rename_i h0;have hR:=mW la (w::r) h0;obtain⟨i1,i2⟩:=I3 la f ((w::r).drop (Se la (w::r)).1) (by have:=wI la (w::r) h0;rw[length_drop];omega);have hs:Jb (w::r)=Jb ((w::r).take (Se la (w::r)).1)++Jb ((w::r).drop (Se la (w::r)).1):=by rw[<-zB,take_append_drop]
  rw[zB,hR.put,nil_append];refine⟨i1.trans (by rw[hs];exact List.sublist_append_right _ _),λd hd hu=>?_⟩;rw[hs] at hd;rcases xj hd with hd|hd;rw[hR.KP d hd] at hu;cases hu;exact i2 d hd hu
theorem qqs(h:yu l):yu (Gq l):=by
 obtain⟨h1,h2⟩:=h;obtain⟨i1,i2⟩:=I3 (Jd l) l.length l (Pb _);refine⟨h1.sublist i1,λw hw=>?_⟩;have hm:=cR (P:=λw=>w∈l∨∃ n,w=decDigits n) (λn _=>.inr ⟨n,rfl⟩) (Jd l) l.length l (λw hw=>.inl hw) w hw;rcases hm with hm|⟨n,rfl⟩;have hk:=h2 w hm;unfold Hp at hk ⊢
 cases hd:ya w with
 |some d=>trivial
 |none=>
  rw[hd] at hk;simp only at hk ⊢;cases hr:Va w with
  |none=>rw[hr] at hk;exact hk
  |some d=>rw[hr] at hk;simp only at hk ⊢;refine i2 d hk ?_;unfold Jd;rw[List.any_eq_true];exact⟨w,hm,Dg hr⟩
 have hk:=KQ n;unfold Hp;rw[hk.d,hk.r];exact hk.c
theorem qpT:∀ (f:Nat) (l:List Wd),yu l->yu (gh f l)/\ic false (gh f l)<=ic false l
 |0,l,h=>⟨h,Pb _⟩
 |f+1,l,h=>by rw[gh];split;exact⟨h,Pb _⟩;obtain⟨i1,i2⟩:=qpT f _ (qqs h);exact⟨i1,Xf i2 (C3 _ _ l false (Pb _))⟩
theorem qzj(h:yu l):yu (Fi l)/\ic false (Fi l)<=ic false l:=qpT _ _ h
def Iq(n:Nat):Wd:=([48,48,48,48,48]++decDigits n).drop (([48,48,48,48,48]++decDigits n).length-6)
def jf(known:Wd->Nat)(w:Wd):Wd:=match Va w with
 |some x=>Iq (known x)
 |none=>w
def Ee(known:Wd->Nat)(t w:Wd):Wd:=match ya w with
 |some _=>t
 |none=>t++(if Qf t && Mm (jf known w) then [32] else [])++jf known w
def Vl(known:Wd->Nat)(l:List Wd):Wd:=l.foldl (Ee known) []
def dh(known:Wd->Nat)(og:Nat)(s:Wd×List (Wd×Nat))(w:Wd):Wd×List (Wd×Nat):=match ya w with
 |some x=>(s.1,s.2++[(x,og+s.1.length)])
 |none=>(Ee known s.1 w,s.2)
def Dq(known:Wd->Nat)(og:Nat)(l:List Wd):List (Wd×Nat):=(l.foldl (dh known og) ([],[])).2
def lp(ub:List (Wd×Nat))(x:Wd):Nat:=match ub.find? λp=>decide (p.1=x) with
 |some p=>p.2
 |none=>0
def Ye(all:List Wd):List Wd->List (Wd×Nat)->Nat×Nat
 |_,[]=>(0,0)
 |met,(w,ln)::r=>match ya w with
  |some x=>if x∈met then (ln,8) else Ye all (met++[x]) r
  |none=>match Va w with
   |some x=>if x∈all then Ye all met r else (ln,7)
   |none=>if Ay w=true then Ye all met r else (ln,3)
def Th(src:Wd)(og:Int):Except (Nat×Nat) (Wd×List (Wd×Nat)):=
 if og<0∨262144<=og then .error (0,2)
 else if (Ye (Jb (vk src)) [] (Tv src)).2≠0 then .error (Ye (Jb (vk src)) [] (Tv src))
 else if 40000<(Vl (lp (Dq (λ_=>0) og.toNat (vk src))) (vk src)).length then .error (0,6)
 else .ok (Vl (lp (Dq (λ_=>0) og.toNat (vk src))) (vk src),Dq (λ_=>0) og.toNat (vk src))
theorem aR(n:Nat):(Iq n).length=6/\∀ c∈Iq n,qe c=true:=by have h1:1<=(decDigits n).length:=List.length_pos_iff.2 (WK n);constructor;unfold Iq;rw[length_drop,Ga];simp only[Ma,qc];omega;intro c hc;have h2:=List.mem_of_mem_drop hc;rcases xj h2 with h|h;simp only[Dc,not_mem_nil,or_false,or_self] at h;rw[h];decide;exact XN n c h
theorem qpr{known:Wd->Nat}(Le:Wd->Nat):Mm (jf known w)=Mm (jf Le w)/\Qf (jf known w)=Qf (jf Le w)/\(jf known w).length=(jf Le w).length:=by
 unfold jf;cases Va w with
 |none=>exact⟨rfl,rfl,rfl⟩
 |some x=>
  have key:∀ n,Mm (Iq n)=true/\Qf (Iq n)=true/\(Iq n).length=6:=λn=>by
   obtain⟨h1,h2⟩:=aR n;have xb:Iq n≠[]:=λh=>by rw[h] at h1;cases h1
   refine⟨?_,?_,h1⟩;cases h:Iq n with
   |nil=>exact absurd h xb
   |cons c r=>exact h2 c (by rw[h];simp)
   unfold Qf;rw[List.getLast?_eq_some_getLast xb];exact h2 _ (getLast_mem xb)
  obtain⟨a1,a2,a3⟩:=key (known x);obtain⟨b1,b2,b3⟩:=key (Le x);exact⟨a1.trans b1.symm,a2.trans b2.symm,a3.trans b3.symm⟩
theorem N1{a b:Wd}(h:b≠[]):Qf (a++b)=Qf b:=by unfold Qf;rw[List.getLast?_append,List.getLast?_eq_some_getLast h];try rfl
theorem ZQ(known:Wd->Nat)(t w:Wd)(hd:ya w=none)(hw:w≠[]):jf known w≠[]/\Qf (Ee known t w)=Qf (jf known w)/\(Ee known t w).length=t.length+one (Qf t && Mm (jf known w))+(jf known w).length:=by
 have hp:jf known w≠[]:=by
  unfold jf;cases Va w with
  |none=>exact hw
  |some x=>intro h;have:=(aR (known x)).1;rw[show Iq (known x)=[] from h] at this;cases this
 refine⟨hp,?_,?_⟩;unfold Ee;rw[hd];exact N1 hp;unfold Ee;rw[hd];simp only[Ga,one];split <;> rfl
theorem I1(known:Wd->Nat):∀ (l:List Wd) (t:Wd),(∀ w∈l,w≠[])->(l.foldl (Ee known) t).length=t.length+ic (Qf t) l
 |[],t,_=>rfl
 |w::r,t,h=>by
  have hr:=λx hx=>h x (Oc w hx);rw[foldl_cons,I1 known r _ hr,ic]
  cases hd:ya w with
  |some x=>
   have:Ee known t w=t:=by unfold Ee;rw[hd]
   rw[this]
  |none=>
   obtain⟨h1,h2,h3⟩:=ZQ known t w hd (h w (by simp));rw[h2,h3];cases hr:Va w with
   |some x=>
    have hp:jf known w=Iq (known x):=by unfold jf;rw[hr]
    obtain⟨a1,a2⟩:=aR (known x);have hf:Mm (Iq (known x))=true:=by
     cases h:Iq (known x) with
     |nil=>rw[h] at a1;cases a1
     |cons c q=>exact a2 c (by rw[h];simp)
    have hl:Qf (Iq (known x))=true:=by
     have xb:Iq (known x)≠[]:=λh=>by rw[h] at a1;cases a1
     unfold Qf;rw[List.getLast?_eq_some_getLast xb];exact a2 _ (getLast_mem xb)
    rw[hp,hf,hl,a1,Bool.and_true];simp only;omega
   |none=>
    have hp:jf known w=w:=by unfold jf;rw[hr]
    rw[hp];simp only;omega
theorem P1(known:Wd->Nat)(l:List Wd)(h:∀ w∈l,w≠[]):(Vl known l).length=ic false l:=by have:=I1 known l [] h;rw[Vl,this];simp[Qf]
theorem xW(known:Wd->Nat)(og:Nat):∀ (l:List Wd) (s:Wd×List (Wd×Nat)),(l.foldl (dh known og) s).1=l.foldl (Ee known) s.1
 |[],s=>rfl
 |w::r,s=>by
  rw[foldl_cons,foldl_cons,xW known og r];congr 1;unfold dh;cases hd:ya w with
  |some x=>simp only;unfold Ee;rw[hd]
  |none=>rfl
theorem QZ(known Le:Wd->Nat)(og:Nat):∀ (l:List Wd) (s s':Wd×List (Wd×Nat)),(∀ w∈l,w≠[])->s.1.length=s'.1.length->Qf s.1=Qf s'.1->s.2=s'.2->(l.foldl (dh known og) s).2=(l.foldl (dh Le og) s').2
 |[],s,s',_,_,_,h=>h
 |w::r,s,s',hw,h1,h2,h3=>by
  rw[foldl_cons,foldl_cons];have hr:=λx hx=>hw x (Oc w hx)
  cases hd:ya w with
  |some x=>
   have e1:dh known og s w=(s.1,s.2++[(x,og+s.1.length)]):=by unfold dh;rw[hd]
   have e2:dh Le og s' w=(s'.1,s'.2++[(x,og+s'.1.length)]):=by unfold dh;rw[hd]
   rw[e1,e2];exact QZ known Le og r _ _ hr h1 h2 (by simp only[h3,h1])
  |none=>
   have e1:dh known og s w=(Ee known s.1 w,s.2):=by unfold dh;rw[hd]
   have e2:dh Le og s' w=(Ee Le s'.1 w,s'.2):=by unfold dh;rw[hd]
   rw[e1,e2];obtain⟨a1,a2,a3⟩:=ZQ known s.1 w hd (hw w (by simp));obtain⟨b1,b2,b3⟩:=ZQ Le s'.1 w hd (hw w (by simp));obtain⟨c1,c2,c3⟩:=qpr (known:=known) (w:=w) Le;exact QZ known Le og r _ _ hr (by rw[a3,b3,c1,c3,h1,h2]) (by rw[a2,b2,c2]) h3
theorem qn6(known Le:Wd->Nat)(og:Nat)(l:List Wd)(h:∀ w∈l,w≠[]):Dq known og l=Dq Le og l:=QZ known Le og l _ _ h rfl rfl rfl
theorem B4(known:Wd->Nat)(og:Nat):∀ (l:List Wd) (s:Wd×List (Wd×Nat)),((l.foldl (dh known og) s).2).map (·.1)=s.2.map (·.1)++Jb l
 |[],s=>by simp[Jb]
 |w::r,s=>by
  rw[foldl_cons,B4 known og r];unfold dh Jb;cases hd:ya w with
  |some x=>simp[hd]
  |none=>simp[hd]
def oI:List UInt8:=[97,98,99,100,101,102,103,104,105,106,107,108,109,110,111,112,113,114,115,116,117,118,119,120,121,122,48,49,50,51,52,53,54,55,56,57,95]
theorem qmw:∀ n:Nat,n<256->oI.contains (UInt8.ofNat n)=Si (UInt8.ofNat n):=by decide +kernel
theorem qtA(c:UInt8):oI.contains c=Si c:=by have h:=qmw c.toNat c.toNat_lt;rwa [UInt8.ofNat_toNat] at h
theorem cL{p:UInt8->Bool}:∀ {l:List UInt8},l.dropWhile p=[] ↔ l.all p=true
 |[]=>by simp
 |c::l=>by
  rw[List.dropWhile_cons,all_cons];cases h:p c with
  |true=>simpa using cL
  |false=>simp
theorem qwR(s:List UInt8):(trimS s oI=[]) ↔ s.all Si=true:=by
 have he:(λc=>oI.contains c)=Si:=funext qtA;unfold trimS trimLeftS trimRightS;rw[he,cL];constructor;intro h;by_cases h2:s.reverse.dropWhile Si=[];rw[cL] at h2;rw[all_reverse] at h2;exact h2;exfalso;obtain⟨c,r,zJ⟩:=List.exists_cons_of_ne_nil h2;have h3:Si c=false:=by have:=List.head?_dropWhile_not Si s.reverse;rw[zJ] at this;simpa using this
 rw[zJ,all_reverse,all_cons,h3] at h;cases h;intro h;have h2:s.reverse.dropWhile Si=[]:=by rw[cL,all_reverse];exact h
 rw[h2];try rfl
theorem qtD(r:List UInt8):hasPrefix (38::r) [38]=true/\trimPrefix (38::r) [38]=r:=by simp[trimPrefix,hasPrefix,List.isPrefixOf]
theorem qwL(h:c≠38)(r:List UInt8):hasPrefix (c::r) [38]=false:=by have:¬ (38:UInt8)=c:=λe=>h e.symm;simp[hasPrefix,List.isPrefixOf,this]
theorem qyG(w:Wd):Va w=if hasPrefix w [38]=true/\Sv (trimPrefix w [38])=true then some (trimPrefix w [38]) else none:=by
 cases w with
 |nil=>rfl
 |cons c r=>by_cases h:c=38;subst h;rw[(qtD r).1,(qtD r).2];simp[Va];rw[qwL h];simp[Va,h]
theorem qlO(w:Wd):hasSuffix w [58]=decide (w.getLast? = some 58):=by unfold hasSuffix;rw[Bool.eq_iff_iff,List.isSuffixOf_iff_suffix,decide_eq_true_iff];constructor;rintro⟨t,rfl⟩;simp;intro h;rw[List.getLast?_eq_some_iff] at h;obtain⟨t,rfl⟩:=h;exact⟨t,rfl⟩
theorem qxZ(w:Wd):ya w=if hasSuffix w [58]=true/\Sv (trimSuffix w [58])=true then some (trimSuffix w [58]) else none:=by
 rw[qlO];unfold ya;by_cases h:w.getLast? = some 58
 ·have h2:trimSuffix w [58]=w.dropLast:=by
   unfold trimSuffix;rw[qlO,Dg h,zp rfl,List.dropLast_eq_take];try rfl
  rw[h2];simp[h]
 simp[h]
structure MS where
 mem:Nat->Nat
 pc:Nat
 data:List Nat
 calls:List Nat
 Ia:List Nat
 out:Wd
 digit:Bool
variable{s s':MS}
inductive MR where
 |run (s:MS)
 |stop (e:Nat) (out:Wd)
def MR.Be(s:MS):MR:=.stop 12 s.out
def np(v:Nat)(s:MS):MR:=if s.data.length<256 then .run { s with data:=v::s.data } else .Be s
def Hd(c a b:Nat):Option Nat:=
 if c=43 then some ((a+b) % 4294967296)
 else if c=45 then some ((a+4294967296-b) % 4294967296)
 else if c=42 then some (a * b % 4294967296)
 else if c=47 then (if b=0 then none else some (a / b))
 else if c=37 then (if b=0 then none else some (a % b))
 else if c=94 then some (a ^^^ b)
 else some (if a<b then 1 else 0)
def Io(c:Nat):Bool:=decide (48<=c) && decide (c<=57)
def bG(c:Nat)(s:MS):MR:=if s.digit=true then (match s.data with
 |d::r=>.run { s with data:=(d * 10+c-48) % 4294967296::r }
 |[]=>.Be s) else np (c-48) s
def XI(s:MS):MR:=match s.data with
 |a::r=>if a<262144 then np (s.mem a) { s with data:=r } else .Be s
 |[]=>.Be s
def Uq(s:MS):MR:=match s.data with
 |a::v::r=>if a<262144 then .run { s with data:=r,mem:=λi=>if i=a then v else s.mem i } else .Be s
 |_=>.Be s
def Wu(s:MS):MR:=match s.data with
 |t::v::r=>.run { s with data:=r,pc:=if v=0 then t else s.pc }
 |_=>.Be s
def YH(s:MS):MR:=match s.data with
 |t::r=>if s.calls.length<64 then .run { s with data:=r,calls:=s.pc::s.calls,pc:=t } else .Be s
 |[]=>.Be s
def Vx(s:MS):MR:=match s.calls with
 |t::r=>.run { s with calls:=r,pc:=t }
 |[]=>.Be s
def NM(s:MS):MR:=match s.Ia with
 |v::r=>np v { s with Ia:=r }
 |[]=>np 4294967295 s
def RF(s:MS):MR:=match s.data with
 |v::r=>.run { s with data:=r,out:=s.out++[UInt8.ofNat v] }
 |[]=>.Be s
def YE(c:Nat)(s:MS):MR:=match s.data with
 |b::a::r=>(match Hd c a b with
  |some v=>np v { s with data:=r }
  |none=>.Be s)
 |_=>.Be s
def fe(c:Nat)(s:MS):MR:=
 if Io c=true then bG c s
 else if c=32∨c=10 then .run s
 else if c=64 then XI s
 else if c=33 then Uq s
 else if c=63 then Wu s
 else if c=58 then YH s
 else if c=59 then Vx s
 else if c=44 then NM s
 else if c=46 then RF s
 else if c=36 then .stop 0 s.out
 else if c=43∨c=45∨c=42∨c=47∨c=37∨c=94∨c=60 then YE c s
 else .Be s
def Za(s:MS):MR:=
 if s.pc<262144 then (match fe (s.mem s.pc) { s with pc:=s.pc+1 } with
  |.run s'=>.run { s' with digit:=Io (s.mem s.pc) }
  |.stop e o=>.stop e o)
 else .Be s
def runM:Nat->MS->Nat×Wd×Nat
 |0,s=>(13,s.out,0)
 |n+1,s=>match Za s with
  |.run s'=>((runM n s').1,(runM n s').2.1,(runM n s').2.2+1)
  |.stop e o=>(e,o,1)
def bu(code:Wd)(og:Nat):Nat->Nat:=λi=>if og<=i then (match code[i-og]? with
 |some c=>c.toNat
 |none=>0) else 0
def Ew(code:Wd)(og:Nat)(Ia:List Nat):MS:=⟨bu code og,og,[],[],Ia,[],false⟩
inductive Uh:Nat->MS->MS->Prop
 |zero (s:MS):Uh 0 s s
 |step {k:Nat} {s s' s2:MS}:Za s=.run s'->Uh k s' s2->Uh (k+1) s s2
theorem Uh.one(h:Za s=.run s'):Uh 1 s s':=.step h (.zero _)
theorem Uh.trans{s2:MS}(h:Uh a s s')(k:Uh b s' s2):Uh (a+b) s s2:=by
 induction h with
 |zero s=>rw[zero_add];exact k
 |step h1 _ ih=>rw[Nat.add_right_comm];exact .step h1 (ih k)
theorem qzV{k:Nat}(h:Uh k s s'):∀ n,runM (k+n) s=((runM n s').1,(runM n s').2.1,(runM n s').2.2+k):=by
 induction h with
 |zero s=>intro n;rw[zero_add];try rfl
 |step h1 _ ih=>intro n;rw[Nat.add_right_comm,runM,h1];simp only;rw[ih n];simp only[add_assoc]
def Nf(m:Nat)(s s':MS):Prop:=∃ k,k<=m/\Uh k s s'
theorem Nf.one{s s':MS}(h:Za s=.run s'):Nf 1 s s':=⟨1,Pb _,.one h⟩
def yy(mem:Nat->Nat)(p:Nat)(t:Wd):Prop:=∀ i (h:i<t.length),mem (p+i)=(t[i]).toNat
theorem yy.app{mem:Nat->Nat}{p:Nat}{a b:Wd}(h:yy mem p (a++b)):yy mem p a/\yy mem (p+a.length) b:=by constructor;intro i hi;have:=h i (by rw[Ga];omega);rw[List.getElem_append_left hi] at this;exact this;intro i hi;have:=h (a.length+i) (by rw[Ga];omega);rw[List.getElem_append_right (by omega)] at this;rw[add_assoc];simpa using this
theorem yy.pre{mem:Nat->Nat}{p:Nat}{a t:Wd}(h:yy mem p t)(hp:a <+: t):yy mem p a:=by obtain⟨b,rfl⟩:=hp;exact h.app.1
theorem qzn(code:Wd)(og:Nat):yy (bu code og) og code:=λi hi=>by unfold bu;rw[zp (Nat.le_add_right _ _),Nat.add_sub_cancel_left,Yh hi]
def Zg(a:Nat)(l:Wd):Nat:=l.foldl (λa c=>10 * a+(c.toNat-48)) a
theorem qq5(a:Nat)(l m:Wd):Zg a (l++m)=Zg (Zg a l) m:=List.foldl_append ..
theorem oN:qe c=true ↔ 48<=c.toNat/\c.toNat<=57:=by
 have h:∀ n:Nat,n<256->(qe (UInt8.ofNat n)=true ↔ 48<=n/\n<=57):=by decide +kernel
 have:=h c.toNat c.toNat_lt;rwa [UInt8.ofNat_toNat] at this
theorem K0(u:Nat):Zg 0 (decDigits u)=u:=by
 rw[decDigits];split;rename_i h;unfold Zg;simp only[foldl_cons,List.foldl_nil];have:(UInt8.ofNat (48+u)).toNat=48+u:=by rw[UInt8.toNat_ofNat'];omega
 rw[this];omega;rename_i h;have ih:=K0 (u / 10);rw[qq5,ih];unfold Zg;simp only[foldl_cons,List.foldl_nil];have:(UInt8.ofNat (48+u % 10)).toNat=48+u % 10:=by rw[UInt8.toNat_ofNat'];omega
 rw[this];omega
termination_by u
theorem qlE:∀ k:Nat,Zg 0 (List.replicate k 48)=0
 |0=>rfl
 |k+1=>by have:=qlE k;rw[List.replicate_succ];exact this
theorem RE:∀ (k n:Nat),n<10 ^ (k+1)->(decDigits n).length<=k+1
 |0,n,h=>by rw[decDigits,dif_pos (by simpa using h)];simp
 |k+1,n,h=>by rw[decDigits];split;simp;have:=RE k (n / 10) (by rw[Nat.pow_succ] at h;omega);rw[Ga,List.length_singleton];omega
theorem qon(h:n<1000000):Zg 0 (Iq n)=n:=by
 have h1:=RE 5 n h;have h2:1<=(decDigits n).length:=List.length_pos_iff.2 (WK n);have h3:Iq n=List.replicate (6-(decDigits n).length) 48++decDigits n:=by
  unfold Iq;rw[Ga,List.drop_append_of_le_length (by simp only[Ma,qc];omega)];congr 1;have:∀ k:Nat,k<=6->1<=k->([48,48,48,48,48]:Wd).drop (([48,48,48,48,48]:Wd).length+k-6)=List.replicate (6-k) 48:=by
   intro k hk h1;have:k=1∨k=2∨k=3∨k=4∨k=5∨k=6:=by omega
   rcases this with rfl|rfl|rfl|rfl|rfl|rfl <;> rfl
  exact this _ h1 h2
 rw[h3,qq5,qlE,K0]
theorem qwl(l:Wd):∀ a:Nat,(∀ c∈l,qe c=true)->l.foldl (λa c=>(a * 10+c.toNat-48) % 4294967296) (a % 4294967296)=Zg a l % 4294967296:=by
 induction l with
 |nil=>intro a _;rfl
 |cons c l ih=>
  intro a h;have hc:=oN.1 (h c (by simp));have h1:=ih (a * 10+c.toNat-48) λx hx=>h x (Oc _ hx)
  have h2:Zg a (c::l)=Zg (a * 10+c.toNat-48) l:=by unfold Zg;rw[foldl_cons];congr 1;omega
  rw[h2,<-h1,foldl_cons];congr 1;omega
theorem qnk:∀ (l:Wd) (s:MS) (d:Nat) (r:List Nat),(∀ c∈l,qe c=true)->s.digit=true->s.data=d::r->yy s.mem s.pc l->s.pc+l.length<=262144 ->
  Uh l.length s { s with pc:=s.pc+l.length,data:=l.foldl (λa c=>(a * 10+c.toNat-48) % 4294967296) d::r }
 |[],s,d,r,_,_,hd,_,_=>by
  have:({ s with pc:=s.pc+([]:Wd).length,data:=([]:Wd).foldl (λa c=>(a * 10+c.toNat-48) % 4294967296) d::r }:MS)=s:=by cases s;simp only at hd;subst hd;rfl
  rw[this];exact .zero s
 |c::l,s,d,r,h,hg,hd,hm,hp=>by
  have hc:=h c (by simp);have BJ:=oN.1 hc;have ED:=hm 0 (by simp);simp only[add_zero,List.getElem_cons_zero] at ED;have iT:Io c.toNat=true:=by unfold Io;simp[BJ.1,BJ.2]
  rw[Ma] at hp;have gk:Za s=.run { s with pc:=s.pc+1,data:=(d * 10+c.toNat-48) % 4294967296::r }:=by unfold Za;rw[zp (by omega),ED];unfold fe bG;rw[zp iT];simp only[hg,if_true,hd,iT]
  have DA:yy s.mem (s.pc+1) l:=λi hi=>by have:=hm (i+1) (by rw[Ma];omega);rw[show s.pc+1+i=s.pc+(i+1) by omega];simpa using this
  have ih:=qnk l { s with pc:=s.pc+1,data:=(d * 10+c.toNat-48) % 4294967296::r } _ r (λx hx=>h x (Oc _ hx)) hg rfl DA (by simp only;omega)
  have e:({ s with pc:=s.pc+(c::l).length,data:=(c::l).foldl (λa c=>(a * 10+c.toNat-48) % 4294967296) d::r }:MS)={ s with pc:=s.pc+1+l.length,data:=l.foldl (λa c=>(a * 10+c.toNat-48) % 4294967296) ((d * 10+c.toNat-48) % 4294967296)::r }:=by rw[Ma,foldl_cons,add_assoc,Nat.add_comm 1]
  rw[e];exact .step gk ih
theorem qq0{l:Wd}(xb:l≠[])(h:∀ c∈l,qe c=true)(hg:s.digit=false)(Wa:s.data.length<256)(hm:yy s.mem s.pc l)(hp:s.pc+l.length<=262144)(hv:Zg 0 l<4294967296) :
  Uh l.length s { s with pc:=s.pc+l.length,data:=Zg 0 l::s.data,digit:=true }:=by
 cases l with
 |nil=>exact absurd rfl xb
 |cons c l=>
  have hc:=h c (by simp);have BJ:=oN.1 hc;have ED:=hm 0 (by simp);simp only[add_zero,List.getElem_cons_zero] at ED;have iT:Io c.toNat=true:=by unfold Io;simp[BJ.1,BJ.2]
  rw[Ma] at hp;have gk:Za s=.run { s with pc:=s.pc+1,data:=(c.toNat-48)::s.data,digit:=true }:=by unfold Za;rw[zp (by omega),ED];unfold fe bG np;rw[zp iT];simp[hg,Wa,iT]
  have DA:yy s.mem (s.pc+1) l:=λi hi=>by have:=hm (i+1) (by rw[Ma];omega);rw[show s.pc+1+i=s.pc+(i+1) by omega];simpa using this
  have hl:=λx hx=>h x (Oc c hx);have ih:=qnk l { s with pc:=s.pc+1,data:=(c.toNat-48)::s.data,digit:=true } _ s.data hl rfl rfl DA (by simp only;omega);have h3:=qwl l (c.toNat-48) hl;have h4:Zg 0 (c::l)=Zg (c.toNat-48) l:=by unfold Zg;rw[foldl_cons];congr 1;omega
  rw[Nat.mod_eq_of_lt (show c.toNat-48<4294967296 by omega),<-h4,Nat.mod_eq_of_lt hv] at h3;rw[h3] at ih;have e:({ s with pc:=s.pc+(c::l).length,data:=Zg 0 (c::l)::s.data,digit:=true }:MS)={ s with pc:=s.pc+1+l.length,data:=Zg 0 (c::l)::s.data,digit:=true }:=by rw[Ma,add_assoc,Nat.add_comm 1]
  rw[e];exact .step gk ih
structure PW where
 W:List Wd
 og:Nat
 known:Wd->Nat
def PW.pre(C:PW)(i:Nat):Wd:=Vl C.known (C.W.take i)
def PW.zd(C:PW)(i:Nat):Nat:=C.og+(C.pre i).length
def PW.At(C:PW)(s:MS)(i:Nat):Prop:=s.pc=C.zd i/\(s.digit=true->Qf (C.pre i)=true)
structure PW.Ok(C:PW)(mem:Nat->Nat):Prop where
 here:yy mem C.og (Vl C.known C.W)
 fits:C.og+(Vl C.known C.W).length<=262144
theorem qxI(known:Wd->Nat)(t w:Wd):t <+: Ee known t w:=by unfold Ee;split;exact B9 _;rw[Yc];exact List.prefix_append _ _
theorem qor(known:Wd->Nat):∀ (l:List Wd) (t:Wd),t <+: l.foldl (Ee known) t
 |[],t=>B9 _
 |w::l,t=>List.IsPrefix.trans (qxI known t w) (qor known l _)
theorem PW.Oy(C:PW)(i:Nat):C.pre i <+: Vl C.known C.W:=by
 have h:Vl C.known C.W=(C.W.drop i).foldl (Ee C.known) (C.pre i):=by unfold PW.pre Vl;rw[<-List.foldl_append,take_append_drop]
 rw[h];exact qor _ _ _
theorem PW.Gu(C:PW)(h:C.W[i]? = some w):C.pre (i+1)=Ee C.known (C.pre i) w:=by obtain⟨hi,rfl⟩:=List.getElem?_eq_some_iff.1 h;unfold PW.pre Vl;rw[List.take_succ_eq_append_getElem hi,List.foldl_append];try rfl
theorem PW.Qw(C:PW)(i:Nat):C.zd i<=C.og+(Vl C.known C.W).length:=by have:=(C.Oy i).length_le;unfold PW.zd;omega
theorem PW.piece{C:PW}{mem:Nat->Nat}(hk:C.Ok mem)(hw:C.W[i]? = some w)(hd:ya w=none) :
  C.pre (i+1)=C.pre i++(if Qf (C.pre i) && Mm (jf C.known w) then [32] else [])++jf C.known w /\
  yy mem (C.zd i) ((if Qf (C.pre i) && Mm (jf C.known w) then [32] else [])++jf C.known w)/\C.zd (i+1)<=262144:=by
 have h1:=C.Gu hw;have h2:Ee C.known (C.pre i) w=C.pre i++(if Qf (C.pre i) && Mm (jf C.known w) then [32] else [])++jf C.known w:=by unfold Ee;rw[hd]
 rw[h2] at h1;refine⟨h1,?_,Xf (C.Qw _) hk.fits⟩;have h3:=hk.here.pre (C.Oy (i+1));rw[h1,Yc] at h3;exact h3.app.2
theorem PW.sign{C:PW}(hk:C.Ok s.mem)(h:C.At s i)(hw:C.W[i]? = some [c])(hd:ya [c]=none)(hr:Va [c]=none)(hc:qe c=false) :
  Za s=(match fe c.toNat { s with pc:=C.zd (i+1) } with
   |.run s'=>.run { s' with digit:=false }
   |.stop e o=>.stop e o)/\Qf (C.pre (i+1))=false:=by
 obtain⟨h1,h2,h3⟩:=C.piece hk hw hd;have hp:jf C.known [c]=[c]:=by unfold jf;rw[hr]
 have hf:Mm [c]=false:=hc;rw[hp,hf,Bool.and_false,zn ea] at h1 h2;rw[ue] at h1;rw[nil_append] at h2;have m0:=h2 0 (by simp);simp only[add_zero,List.getElem_cons_zero] at m0;have Gn:C.zd (i+1)=C.zd i+1:=by unfold PW.zd;rw[h1,Ga];try rfl
 have hn:Io c.toNat=false:=by
  cases hx:Io c.toNat with
  |false=>rfl
  |true=>unfold Io at hx;simp only[Ed,Rg] at hx;rw[oN.2 hx] at hc;cases hc
 constructor
 ·unfold Za;rw[zp (by rw[h.1];omega),h.1,m0,<-Gn,hn]
  try cases fe c.toNat { s with pc:=C.zd (i+1) } <;> rfl
 rw[h1];unfold Qf;simp[hc]
def PW.Code(C:PW)(i:Nat)(ws:List Wd):Prop:=∀ k (h:k<ws.length),C.W[i+k]? = some ws[k]
theorem PW.Code.app{C:PW}{a b:List Wd}(h:C.Code i (a++b)):C.Code i a/\C.Code (i+a.length) b:=by constructor;intro k hk;have:=h k (by rw[Ga];omega);rwa [List.getElem_append_left hk] at this;intro k hk;have:=h (a.length+k) (by rw[Ga];omega);rw[List.getElem_append_right (by omega)] at this;rw[add_assoc];simpa using this
theorem PW.Code.cons{C:PW}{b:List Wd}(h:C.Code i (w::b)):C.W[i]? = some w/\C.Code (i+1) b:=by have h1:=PW.Code.app (a:=[w]) (b:=b) h;have h2:=h1.1 0 (by simp);exact⟨by simpa using h2,h1.2⟩
def PW.put(C:PW)(s:MS)(i:Nat)(d:List Nat):MS:={ s with pc:=C.zd i,data:=d,digit:=false }
theorem Ny(h:c∈([43,45,42,47,37,94,60,64,33,63,58,59,44,46,36]:Wd)):ya [c]=none/\Va [c]=none/\qe c=false:=by
 have:∀ c∈([43,45,42,47,37,94,60,64,33,63,58,59,44,46,36]:Wd),ya [c]=none/\Va [c]=none/\qe c=false:=by decide +kernel
 exact this c h
section
variable{C:PW}{s:MS}{i:Nat}
theorem PW.load(hk:C.Ok s.mem)(h:C.At s i)(hw:C.W[i]? = some [64])(hd:s.data=a::r)(ha:a<262144)(Wa:r.length<256):Nf 1 s (C.put s (i+1) (s.mem a::r)):=by
 obtain⟨e1,e2,e3⟩:=Ny (c:=64) ea;obtain⟨h1,_⟩:=C.sign hk h hw e1 e2 e3;refine Nf.one (h1.trans ?_);have:fe (64:UInt8).toNat { s with pc:=C.zd (i+1) }=.run { s with pc:=C.zd (i+1),data:=s.mem a::r }:=by unfold fe;rw[zn ea,zn ea,zp ea];unfold XI np;simp[hd,ha,Wa]
 rw[this];try rfl
theorem PW.store(hk:C.Ok s.mem)(h:C.At s i)(hw:C.W[i]? = some [33])(hd:s.data=a::v::r)(ha:a<262144):Nf 1 s { C.put s (i+1) r with mem:=λi=>if i=a then v else s.mem i }:=by
 obtain⟨e1,e2,e3⟩:=Ny (c:=33) ea;obtain⟨h1,_⟩:=C.sign hk h hw e1 e2 e3;refine Nf.one (h1.trans ?_);have:fe (33:UInt8).toNat { s with pc:=C.zd (i+1) }=.run { s with pc:=C.zd (i+1),data:=r,mem:=λi=>if i=a then v else s.mem i }:=by unfold fe;rw[zn ea,zn ea,zn ea,zp ea];unfold Uq;simp[hd,ha]
 rw[this];try rfl
theorem PW.jump(hk:C.Ok s.mem)(h:C.At s i)(hw:C.W[i]? = some [63])(hd:s.data=t::v::r):Nf 1 s { C.put s (i+1) r with pc:=if v=0 then t else C.zd (i+1) }:=by
 obtain⟨e1,e2,e3⟩:=Ny (c:=63) ea;obtain⟨h1,_⟩:=C.sign hk h hw e1 e2 e3;refine Nf.one (h1.trans ?_);have:fe (63:UInt8).toNat { s with pc:=C.zd (i+1) }=.run { s with pc:=if v=0 then t else C.zd (i+1),data:=r }:=by unfold fe;rw[zn ea,zn ea,zn ea,zn ea,zp ea];unfold Wu;simp[hd]
 rw[this];try rfl
theorem PW.call(hk:C.Ok s.mem)(h:C.At s i)(hw:C.W[i]? = some [58])(hd:s.data=t::r)(hc:s.calls.length<64):Nf 1 s { C.put s (i+1) r with pc:=t,calls:=C.zd (i+1)::s.calls }:=by
 obtain⟨e1,e2,e3⟩:=Ny (c:=58) ea;obtain⟨h1,_⟩:=C.sign hk h hw e1 e2 e3;refine Nf.one (h1.trans ?_);have:fe (58:UInt8).toNat { s with pc:=C.zd (i+1) }=.run { s with pc:=t,data:=r,calls:=C.zd (i+1)::s.calls }:=by unfold fe;rw[zn ea,zn ea,zn ea,zn ea,zn ea,zp ea];unfold YH;simp[hd,hc]
 rw[this];try rfl
theorem PW.back(hk:C.Ok s.mem)(h:C.At s i)(hw:C.W[i]? = some [59])(hd:s.calls=t::r):Nf 1 s { s with pc:=t,calls:=r,digit:=false }:=by
 obtain⟨e1,e2,e3⟩:=Ny (c:=59) ea;obtain⟨h1,_⟩:=C.sign hk h hw e1 e2 e3;refine Nf.one (h1.trans ?_);have:fe (59:UInt8).toNat { s with pc:=C.zd (i+1) }=.run { s with pc:=t,calls:=r }:=by unfold fe;rw[zn ea,zn ea,zn ea,zn ea,zn ea,zn ea,zp ea];unfold Vx;simp[hd]
 rw[this]
theorem PW.read(hk:C.Ok s.mem)(h:C.At s i)(hw:C.W[i]? = some [44])(Wa:s.data.length<256):Nf 1 s { C.put s (i+1) ((s.Ia.headD 4294967295)::s.data) with Ia:=s.Ia.tail }:=by
 obtain⟨e1,e2,e3⟩:=Ny (c:=44) ea;obtain⟨h1,_⟩:=C.sign hk h hw e1 e2 e3;refine Nf.one (h1.trans ?_);have:fe (44:UInt8).toNat { s with pc:=C.zd (i+1) }=.run { s with pc:=C.zd (i+1),data:=(s.Ia.headD 4294967295)::s.data,Ia:=s.Ia.tail }:=by
  unfold fe;rw[zn ea,zn ea,zn ea,zn ea,zn ea,zn ea,zn ea,zp ea];unfold NM np;cases hi:s.Ia with
  |nil=>simp[hi,Wa]
  |cons v r=>simp[hi,Wa]
 rw[this];try rfl
theorem PW.write(hk:C.Ok s.mem)(h:C.At s i)(hw:C.W[i]? = some [46])(hd:s.data=v::r):Nf 1 s { C.put s (i+1) r with out:=s.out++[UInt8.ofNat v] }:=by
 obtain⟨e1,e2,e3⟩:=Ny (c:=46) ea;obtain⟨h1,_⟩:=C.sign hk h hw e1 e2 e3;refine Nf.one (h1.trans ?_);have:fe (46:UInt8).toNat { s with pc:=C.zd (i+1) }=.run { s with pc:=C.zd (i+1),data:=r,out:=s.out++[UInt8.ofNat v] }:=by unfold fe;rw[zn ea,zn ea,zn ea,zn ea,zn ea,zn ea,zn ea,zn ea,zp ea];unfold RF;simp[hd]
 rw[this];try rfl
theorem PW.halt(hk:C.Ok s.mem)(h:C.At s i)(hw:C.W[i]? = some [36]):Za s=.stop 0 s.out:=by
 obtain⟨e1,e2,e3⟩:=Ny (c:=36) ea;obtain⟨h1,_⟩:=C.sign hk h hw e1 e2 e3;rw[h1];have:fe (36:UInt8).toNat { s with pc:=C.zd (i+1) }=.stop 0 s.out:=by unfold fe;rw[zn ea,zn ea,zn ea,zn ea,zn ea,zn ea,zn ea,zn ea,zn ea,zp ea]
 rw[this]
def tc(c:UInt8):Prop:=c=43∨c=45∨c=42∨c=47∨c=37∨c=94∨c=60
theorem qxT(hc:tc c)(s:MS):fe c.toNat s=YE c.toNat s:=by
 have h:Io c.toNat=false/\¬ (c.toNat=32∨c.toNat=10)/\c.toNat≠64/\c.toNat≠33/\c.toNat≠63/\c.toNat≠58/\c.toNat≠59/\c.toNat≠44/\c.toNat≠46/\c.toNat≠36/\(c.toNat=43∨c.toNat=45∨c.toNat=42∨c.toNat=47∨c.toNat=37∨c.toNat=94∨c.toNat=60):=by rcases hc with rfl|rfl|rfl|rfl|rfl|rfl|rfl <;> decide
 obtain⟨a1,a2,a3,a4,a5,a6,a7,a8,a9,rU,qU⟩:=h;unfold fe;rw[zn (by rw[a1];decide),zn a2,zn a3,zn a4,zn a5,zn a6,zn a7,zn a8,zn a9,zn rU,zp qU]
theorem qq3(hc:tc c):ya [c]=none/\Va [c]=none/\qe c=false:=
 Ny (by unfold tc at hc;rcases hc with rfl|rfl|rfl|rfl|rfl|rfl|rfl <;> decide)
theorem PW.op(hk:C.Ok s.mem)(h:C.At s i)(hc:tc c)(hw:C.W[i]? = some [c])(hd:s.data=b::a::r)(hv:Hd c.toNat a b=some v)(Wa:r.length<256):Nf 1 s (C.put s (i+1) (v::r)):=by
 obtain⟨e1,e2,e3⟩:=qq3 hc;obtain⟨h1,_⟩:=C.sign hk h hw e1 e2 e3;refine Nf.one (h1.trans ?_);have:fe c.toNat { s with pc:=C.zd (i+1) }=.run { s with pc:=C.zd (i+1),data:=v::r }:=by rw[qxT hc];unfold YE np;simp[hd,hv,Wa]
 rw[this];try rfl
theorem PW.Sw(hk:C.Ok s.mem)(h:C.At s i)(hc:tc c)(hw:C.W[i]? = some [c])(hd:s.data=b::a::r)(hv:Hd c.toNat a b=none):Za s=.stop 12 s.out:=by
 obtain⟨e1,e2,e3⟩:=qq3 hc;obtain⟨h1,_⟩:=C.sign hk h hw e1 e2 e3;rw[h1];have:fe c.toNat { s with pc:=C.zd (i+1) }=.stop 12 s.out:=by rw[qxT hc];unfold YE MR.Be;simp[hd,hv]
 rw[this]
end
structure IS where
 sc:List UInt8->Nat
 ar:List UInt8->List Nat
 Ia:List Nat
 out:List UInt8
 left:Nat
inductive IR (A:Type) where
 |ok (v:A) (s:IS)
 |stop (e:Int) (s:IS)
def IR.bind{A B:Type}(r:IR A)(f:A->IS->IR B):IR B:=match r with
 |.ok v s=>f v s
 |.stop e s=>.stop e s
def sf(b:Bool):Nat:=if b=true then 1 else 0
def Ij(op:List UInt8)(a b:Nat):Option Nat:=
 if op=[43] then some ((a+b) % 4294967296)
 else if op=[45] then some ((a+4294967296-b) % 4294967296)
 else if op=[42] then some (a * b % 4294967296)
 else if op=[94] then some (a ^^^ b)
 else if op=[61,61] then some (sf (decide (a=b)))
 else if op=[33,61] then some (sf (decide (a≠b)))
 else if op=[60] then some (sf (decide (a<b)))
 else if op=[62] then some (sf (decide (b<a)))
 else if op=[60,61] then some (sf (decide (a<=b)))
 else if op=[62,61] then some (sf (decide (b<=a)))
 else if op=[38,38] then some (sf (decide (a≠0/\b≠0)))
 else if op=[124,124] then some (sf (decide (a≠0∨b≠0)))
 else if b=0 then none
 else if op=[47] then some (a / b) else some (a % b)
def jc(f:yb)(name:List UInt8):List UInt8:=if name∈f.params∨name∈f.locals then f.name++[46]++name else name
def Xg(P:Pr)(name:List UInt8):yb:=(P.funcs.find? λf=>decide (f.name=name)).getD ⟨[],[],[],[]⟩
def Yf(s:IS)(k:List UInt8)(v:Nat):IS:={ s with sc:=λx=>if x=k then v else s.sc x }
def Wq(f:yb):List (List UInt8)->List Nat->IS->IS
 |p::ps,v::vs,s=>Wq f ps vs (Yf s (jc f p) v)
 |_,_,s=>s
def Nk{A:Type}(g:A->IS->IR Nat):List A->IS->IR (List Nat)
 |[],s=>.ok [] s
 |a::l,s=>(g a s).bind λv s=>(Nk g l s).bind λvs s=>.ok (v::vs) s
def Cg(g:Sm->IS->IR (Option Nat)):List Sm->IS->IR (Option Nat)
 |[],s=>.ok none s
 |a::l,s=>(g a s).bind λr s=>match r with
  |some v=>.ok (some v) s
  |none=>Cg g l s
def Nz(P:Pr)(g:yb->Sm->IS->IR (Option Nat))(name:List UInt8)(vs:List Nat)(s:IS):IR Nat:=
 if name=[105,110] then (match s.Ia with
  |[]=>.ok 4294967295 s
  |v::r=>.ok v { s with Ia:=r })
 else if name=[111,117,116] then .ok 0 { s with out:=s.out++[UInt8.ofNat (vs.headD 0)] }
 else (Cg (g (Xg P name)) (Xg P name).body (Wq (Xg P name) (Xg P name).params vs s)).bind λr s=>.ok (r.getD 0) s
def JG(P:Pr)(g:yb->Sm->IS->IR (Option Nat))(f:yb)(op:List UInt8)(num:Nat)(name:List UInt8)(vs:List Nat)(s:IS):IR Nat:=
 if op=[110,117,109] then .ok num s
 else if op=[118,97,114] then .ok (s.sc (jc f name)) s
 else if op=[101,108,101,109] then (match (s.ar name)[vs.headD 0]? with
  |some v=>.ok v s
  |none=>.stop 2 s)
 else if op=[110,101,103] then .ok ((4294967296-vs.headD 0) % 4294967296) s
 else if op=[110,111,116] then .ok (sf (decide (vs.headD 0=0))) s
 else if op=[99,97,108,108] then Nz P g name vs s
 else match Ij op (vs.headD 0) (vs.tail.headD 0) with
  |some v=>.ok v s
  |none=>.stop 12 s
def rr(P:Pr)(Ia:List Nat)(Ca:Nat):IS:=⟨λ_=>0,λx=>match P.ba.find? λa=>decide (a.name=x) with
 |some a=>List.replicate a.size 0
 |none=>[],Ia,[],Ca⟩
def Tg(P:Pr):yb:=P.funcs.getLast?.getD ⟨[],[],[],[]⟩
abbrev Nm:=List UInt8
variable{ba vars:List Nm}
def uQ:List Nm:=PE++[[105,110],[111,117,116]]
def kf(s:Nm):Bool:=decide (s.length<=24) && !uQ.contains s && (match s with
 |[]=>false
 |c::r=>Ml c && r.all Si)
structure ye where
 name:Nm
 params:Nat
 need:Nat
 depth:Nat
structure Cb where
 vars:List Nm
 ba:List Nm
 later:List Nm
 own:List Nm
 funcs:List ye
def Cb.globals(c:Cb):List Nm:=c.vars++c.ba++c.later
def Cb.fn(c:Cb)(name:Nm):Option ye:=c.funcs.find? λf=>decide (f.name=name)
def ej(a b:Int):Int:=if a≠0 then a else b
def Fw:List Nm:=[[124,124],[38,38],[61,61],[33,61],[60],[62],[60,61],[62,61],[94],[43],[45],[42],[47],[37]]
def ug(op:Nm):Int:=if op=Af∨op=bg then 0 else if op=Vj∨op=Ng∨op=yg then 1 else if op=tg then -1 else if op∈Fw then 2 else -2
def du(c:Cb)(name:Nm):Int:=if name∈c.vars∨name∈c.own then 0 else if name∈c.globals then 10 else 7
def Xz(c:Cb)(name:Nm):Int:=if name∈c.ba then 0 else if name∈c.globals∨name∈c.own then 10 else 7
def Qc(c:Cb)(name:Nm)(n:Nat):Int:=
 if name=[105,110] then (if n=0 then 0 else 1)
 else if name=[111,117,116] then (if n=1 then 0 else 1)
 else match c.fn name with
  |some f=>if n=f.params then 0 else 1
  |none=>if name∈c.vars∨name∈c.ba∨name∈c.own then 10 else 7
def yz(c:Cb)(op name:Nm)(n:Nat):Int:=if op=bg then du c name else if op=Vj then Xz c name else if op=tg then Qc c name n else 0
mutual
def Gf(c:Cb):Ex->Int
 |.mk op num name args=>if ug op = -1∨ug op=args.length then ej (vg c args) (yz c op name args.length) else 3
def vg(c:Cb):List Ex->Int
 |[]=>0
 |x::l=>ej (Gf c x) (vg c l)
end
def Mz:Nat->List Nat->Nat->Nat
 |i,[],m=>m
 |i,n::l,m=>Mz (i+1) l (max m (i+n))
def aB(c:Cb)(name:Nm)(ns:List Nat):Nat:=
 if name=[105,110] then 1
 else if name=[111,117,116] then ns.headD 0
 else match c.fn name with
  |some f=>Mz 0 ns (max (f.params+1) f.need)
  |none=>0
def UC(c:Cb)(op name:Nm)(ns:List Nat):Nat:=
 if op=Af∨op=bg then 1
 else if op=Vj∨op=Ng then 1+ns.headD 0
 else if op=tg then aB c name ns
 else if op=yg then max 2 (ns.headD 0)
 else if op=[62]∨op=[60,61] then max (max 3 (ns.headD 0)) (1+ns.tail.headD 0)
 else if op=[33,61] then max (max 3 (1+ns.headD 0)) (2+ns.tail.headD 0)
 else if op=[38,38] then max (1+ns.headD 0) (2+ns.tail.headD 0)
 else if op=[124,124] then max (2+ns.headD 0) (3+ns.tail.headD 0)
 else max (max 2 (ns.headD 0)) (1+ns.tail.headD 0)
mutual
def Sf(c:Cb):Ex->Nat
 |.mk op num name args=>UC c op name (zh c args)
def zh(c:Cb):List Ex->List Nat
 |[]=>[]
 |x::l=>Sf c x::zh c l
end
def Qv(c:Cb)(op name:Nm):Nat:=if op=tg/\name≠[105,110]/\name≠[111,117,116] then (match c.fn name with
 |some f=>f.depth+1
 |none=>0) else 0
mutual
def Hj(c:Cb):Ex->Nat
 |.mk op num name args=>max (Qi c args) (Qv c op name)
def Qi(c:Cb):List Ex->Nat
 |[]=>0
 |x::l=>max (Hj c x) (Qi c l)
end
def VT:Ex->Nm
 |.mk op _ _ _=>op
def Zh:Sm->Bool
 |.mk kind name index value Ua Bb=>
  if kind=1 then decide (name≠[]/\index.length=0/\value.length=1/\Ua.length=0/\Bb.length=0)
  else if kind=2 then decide (name≠[]/\index.length=1/\value.length=1/\Ua.length=0/\Bb.length=0)
  else if kind=3 then decide (name=[]/\index.length=0/\value.length=1)
  else if kind=4 then decide (name=[]/\index.length=0/\value.length=1/\Bb.length=0)
  else if kind=5 then decide (name=[]/\index.length=0/\value.length=1/\Ua.length=0/\Bb.length=0)
  else if kind=6 then decide (name=[]/\index.length=0/\value.length=1/\Ua.length=0/\Bb.length=0/\VT (value.headD default)=tg)
  else if kind=7 then decide (name=[]/\index.length=0/\value.length=0/\Ua.length=0/\Bb.length=0)
  else false
mutual
def Dl(c:Cb):Sm->Int
 |.mk kind name index value Ua Bb=>if Zh (.mk kind name index value Ua Bb)=false then 3
  else ej (vg c value) (ej (vg c index) (ej (if kind=1 then du c name else if kind=2 then Xz c name else 0) (ej (mi c Ua) (mi c Bb))))
def mi(c:Cb):List Sm->Int
 |[]=>0
 |s::l=>ej (Dl c s) (mi c l)
end
mutual
def HE(c:Cb):Sm->Nat
 |.mk kind name index value Ua Bb=>
  if kind=7 then 0
  else if kind=2 then max (Sf c (value.headD default)) (2+Sf c (index.headD default))
  else if kind=5 then Sf c (value.headD default)
  else max 2 (max (max (Sf c (value.headD default)) (Xl c Ua)) (Xl c Bb))
def Xl(c:Cb):List Sm->Nat
 |[]=>0
 |s::l=>max (HE c s) (Xl c l)
end
mutual
def Rt(c:Cb):Sm->Nat
 |.mk kind name index value Ua Bb=>max (max (Qi c value) (Qi c index)) (max (Mj c Ua) (Mj c Bb))
def Mj(c:Cb):List Sm->Nat
 |[]=>0
 |s::l=>max (Rt c s) (Mj c l)
end
def yp:List Nm->List Nm->Int
 |known,[]=>0
 |known,s::l=>if kf s=false then 7 else if s∈known then 8 else yp (s::known) l
def iG:Int->List Int->Int
 |total,[]=>0
 |total,n::l=>if n<=0 then 2 else if 150000-total<n then 6 else iG (total+n) l
def Bg(vars ba later:List Nm)(known:List ye)(f:yb):Cb:=⟨vars,ba,later,f.params++f.locals,known⟩
def Bv(vars ba later:List Nm)(known:List ye)(f:yb):Int:=ej (yp (vars++ba++later) (f.params++f.locals)) (mi (Bg vars ba later known f) f.body)
def Aj(vars ba later:List Nm)(known:List ye)(f:yb):ye:=⟨f.name,f.params.length,max (max 2 (f.params.length+1)) (Xl (Bg vars ba later known f) f.body),max 1 (Mj (Bg vars ba later known f) f.body)⟩
def cu(vars ba later:List Nm):List ye->List yb->Int
 |known,[]=>0
 |known,f::l=>ej (Bv vars ba later known f) (cu vars ba later (known++[Aj vars ba later known f]) l)
def yC(vars ba later:List Nm):List ye->List yb->List ye
 |known,[]=>known
 |known,f::l=>yC vars ba later (known++[Aj vars ba later known f]) l
def je(vars:List Nm)(fs:List yb):List Nm:=vars++(fs.map λf=>(f.params++f.locals).map λx=>f.name++[46]++x).flatten
def cQ(vars:List Nm)(fs:List yb)(tY:List ye):Int:=match fs.getLast?,tY.getLast? with
 |some f,some m=>if f.name=[109,97,105,110]/\f.params=[] then (if (je vars fs).length<=8000/\m.need<=200/\m.depth<=60 then 0 else 6) else 9
 |_,_=>9
def Ws(vars:List Nm)(ba:List (Nm×Int))(fs:List yb):Int:=
 ej (yp [] (vars++ba.map (·.1)++fs.map (·.name))) (ej (iG 0 (ba.map (·.2)))
  (ej (cu vars (ba.map (·.1)) (fs.map (·.name)) [] fs) (cQ vars fs (yC vars (ba.map (·.1)) (fs.map (·.name)) [] fs))))
def Lq(p:Pr):Int:=Ws p.vars (p.ba.map λa=>(a.name,(a.size:Int))) p.funcs
theorem Tc{a b:Int}:ej a b=0 ↔ a=0/\b=0:=by unfold ej;split;constructor;intro h;contradiction;rintro⟨h,_⟩;contradiction;constructor;intro h;exact⟨by omega,h⟩;rintro⟨_,h⟩;exact h
def Gb{A:Type}(r r':OR A):Prop:=∀ q,r=some q->r'=some q
theorem Gb.rfl'{A:Type}{r:OR A}:Gb r r:=λ_ h=>h
theorem Gb.none{A:Type}{r:OR A}:Gb none r:=λ_ h=>by cases h
theorem Gb.bind{A B:Type}{r r':OR A}{f f':A->Nat->Nat->OR B}(h:Gb r r')(hf:∀ v i op,Gb (f v i op) (f' v i op)):Gb (ad r f) (ad r' f'):=λq hq=>by rcases Kk hq with⟨v,i,op,h1,h2⟩|⟨l,e,h1,rfl⟩;rw[h _ h1];exact hf _ _ _ _ h2;rw[h _ h1];try rfl
theorem Gb.ite{A:Type}{c:Prop} [Decidable c]{a b a' b':OR A}(h1:Gb a a')(h2:Gb b b'):Gb (if c then a else b) (if c then a' else b'):=by split;exact h1;exact h2
theorem qiT(T:List Tok):∀ (f g:Nat) (acc:List (List UInt8)) (i op:Nat),f<=g->Gb (Nq T f acc i op) (Nq T g acc i op)
 |0,_,_,_,_,_=>Gb.none
 |f+1,0,_,_,_,h=>by omega
 |f+1,g+1,acc,i,op,h=>by rw[Nq,Nq];exact Gb.ite (Gb.bind Gb.rfl' λv i op=>qiT T f g _ i op ga) Gb.rfl'
theorem qpU(T:List Tok)(f g i op:Nat)(h:f<=g):Gb (Hy T f i op) (Hy T g i op):=Gb.bind Gb.rfl' λv i op=>qiT T f g _ i op h
theorem qBF(T:List Tok):∀ f g:Nat,f<=g->(∀ k i op,Gb (Dd T f k i op) (Dd T g k i op))/\(∀ k e i op,Gb (qp T f k e i op) (qp T g k e i op))/\(∀ i op,Gb (Vn T f i op) (Vn T g i op)) /\
  (∀ i op,Gb (Cq T f i op) (Cq T g i op))/\(∀ i op,Gb (Ap T f i op) (Ap T g i op))/\(∀ i op,Gb (Sp T f i op) (Sp T g i op))/\(∀ acc i op,Gb (Yn T f acc i op) (Yn T g acc i op))
 |0,g,_=>⟨λ_ _ _=>by rw[Dd];exact Gb.none,λ_ _ _ _=>by rw[qp];exact Gb.none,λ_ _=>by rw[Vn];exact Gb.none,λ_ _=>by rw[Cq];exact Gb.none,λ_ _=>by rw[Ap];exact Gb.none,λ_ _=>by rw[Sp];exact Gb.none,λ_ _ _=>by rw[Yn];exact Gb.none⟩
 |f+1,0,h=>by omega
 |f+1,g+1,h=>by obtain⟨hL,hO,hU,hP,hI,hA,hB⟩:=qBF T f g ga;refine⟨λk i op=>?_,λk e i op=>?_,λi op=>?_,λi op=>?_,λi op=>?_,λi op=>?_,λacc i op=>?_⟩;rw[Dd,Dd];exact Gb.ite (hU _ _) (Gb.bind (hL _ _ _) λ_ _ _=>hO _ _ _ _);rw[qp,qp];exact Gb.ite (Gb.bind (hL _ _ _) λ_ _ _=>Gb.ite Gb.rfl' (hO _ _ _ _)) Gb.rfl';rw[Vn,Vn];exact Gb.ite (Gb.bind Gb.rfl' λ_ _ _=>Gb.bind (hU _ _) λ_ _ _=>Gb.rfl') (Gb.ite (Gb.bind Gb.rfl' λ_ _ _=>Gb.bind (hU _ _) λ_ _ _=>Gb.rfl') (hP _ _));rw[Cq,Cq];exact Gb.ite (Gb.bind Gb.rfl' λ_ _ _=>Gb.bind (hL _ _ _) λ_ _ _=>Gb.rfl') (Gb.ite Gb.rfl' (Gb.bind Gb.rfl' λ_ _ _=>Gb.ite (Gb.bind (hI _ _) λ_ _ _=>Gb.rfl') (Gb.ite (Gb.bind (hA _ _) λ_ _ _=>Gb.rfl') Gb.rfl')));rw[Ap,Ap];exact Gb.bind Gb.rfl' λ_ _ _=>Gb.bind (hL _ _ _) λ_ _ _=>Gb.rfl';rw[Sp,Sp];exact Gb.bind Gb.rfl' λ_ _ _=>Gb.bind (hB _ _ _) λ_ _ _=>Gb.rfl';rw[Yn,Yn];exact Gb.ite Gb.rfl' (Gb.bind Gb.rfl' λ_ _ _=>Gb.bind (hL _ _ _) λ_ _ _=>hB _ _ _)
theorem qAF(T:List Tok):∀ f g:Nat,f<=g->(∀ i op,Gb (xp T f i op) (xp T g i op))/\(∀ acc i op,Gb (Lm T f acc i op) (Lm T g acc i op))/\(∀ i op,Gb (Fq T f i op) (Fq T g i op))/\(∀ i op,Gb (Mq T f i op) (Mq T g i op))
 |0,g,_=>⟨λ_ _=>by rw[xp];exact Gb.none,λ_ _ _=>by rw[Lm];exact Gb.none,λ_ _=>by rw[Fq];exact Gb.none,λ_ _=>by rw[Mq];exact Gb.none⟩
 |f+1,0,h=>by omega
 |f+1,g+1,h=>by obtain⟨hB,hS,hT,hM⟩:=qAF T f g ga;obtain⟨hL,_,_,_,hI,hA,_⟩:=qBF T f g ga;refine⟨λi op=>?_,λacc i op=>?_,λi op=>?_,λi op=>?_⟩;rw[xp,xp];exact Gb.bind Gb.rfl' λ_ _ _=>Gb.bind (hS _ _ _) λ_ _ _=>Gb.rfl';rw[Lm,Lm];exact Gb.ite Gb.rfl' (Gb.bind (hT _ _) λ_ _ _=>hS _ _ _);rw[Fq,Fq];exact Gb.ite (Gb.bind (hL _ _ _) λ_ _ _=>Gb.bind (hB _ _) λ_ _ _=>Gb.ite (Gb.bind (hB _ _) λ_ _ _=>Gb.rfl') Gb.rfl') (Gb.ite (Gb.bind (hL _ _ _) λ_ _ _=>Gb.bind (hB _ _) λ_ _ _=>Gb.rfl') (Gb.bind (hM _ _) λ_ _ _=>Gb.rfl'));rw[Mq,Mq];exact Gb.ite (Gb.bind (hL _ _ _) λ_ _ _=>Gb.rfl') (Gb.ite Gb.rfl' (Gb.bind Gb.rfl' λ_ _ _=>Gb.ite (Gb.bind (hA _ _) λ_ _ _=>Gb.rfl') (Gb.ite (Gb.bind (hI _ _) λ_ _ _=>Gb.bind Gb.rfl' λ_ _ _=>Gb.bind (hL _ _ _) λ_ _ _=>Gb.rfl') (Gb.bind Gb.rfl' λ_ _ _=>Gb.bind (hL _ _ _) λ_ _ _=>Gb.rfl'))))
theorem DZ(T:List Tok):∀ (f g:Nat) (acc:List (List UInt8)) (i op:Nat),f<=g->Gb (Fk T f acc i op) (Fk T g acc i op)
 |0,_,_,_,_,_=>Gb.none
 |f+1,0,_,_,_,h=>by omega
 |f+1,g+1,acc,i,op,h=>by rw[Fk,Fk];exact Gb.ite (Gb.bind (qpU T f g _ _ ga) λ_ _ _=>Gb.bind Gb.rfl' λ_ _ _=>DZ T f g _ _ _ ga) Gb.rfl'
theorem qAd(T:List Tok)(f g i op:Nat)(h:f<=g):Gb (Vv T f i op) (Vv T g i op):=by
 unfold Vv;exact Gb.bind Gb.rfl' λ_ _ _=>Gb.bind Gb.rfl' λ_ _ _=>Gb.bind (Gb.ite Gb.rfl' (qpU T f g _ _ h)) λ_ _ _=>Gb.bind Gb.rfl' λ_ _ _=>Gb.bind Gb.rfl' λ_ _ _=>
  Gb.bind (DZ T f g _ _ _ h) λ_ _ _=>Gb.bind ((qAF T f g h).2.1 _ _ _) λ_ _ _=>Gb.rfl'
theorem xV(T:List Tok):∀ (f g:Nat) (p:Pr) (i op:Nat),f<=g->Gb (Ll T f p i op) (Ll T g p i op)
 |0,_,_,_,_,_=>Gb.none
 |f+1,0,_,_,_,h=>by omega
 |f+1,g+1,p,i,op,h=>by
  rw[Ll,Ll];exact Gb.ite Gb.rfl' (Gb.ite (Gb.bind (DZ T f g _ _ _ ga) λ_ _ _=>xV T f g _ _ _ ga) (Gb.ite (Gb.bind Gb.rfl' λ_ _ _=>xV T f g _ _ _ ga)
   (Gb.ite (Gb.bind (qAd T f g _ _ ga) λ_ _ _=>xV T f g _ _ _ ga) Gb.rfl')))
def Ag(T T':List Tok)(d m:Nat):Prop:=∀ j,j<m->∃ t t',T[j]? = some t/\T'[j+d]? = some t'/\t'.kind=t.kind/\t'.text=t.text
section
variable{T T':List Tok}{d m:Nat}
theorem Ag.Ja(h:Ag T T' d m){i:Nat}(hi:i<m)(xs:List (List UInt8)):Ja T' (i+d) xs=Ja T i xs:=by obtain⟨t,t',h1,h2,h3,h4⟩:=h i hi;unfold Go.ia.Ja;rw[h1,h2];simp only[h3,h4]
theorem Ag.text(h:Ag T T' d m)(hi:i<m):Sz T' (i+d)=Sz T i:=by obtain⟨t,t',h1,h2,h3,h4⟩:=h i hi;unfold Sz;rw[h1,h2];exact h4
theorem Ag.kind(h:Ag T T' d m)(hi:i<m):vK T' (i+d)=vK T i:=by obtain⟨t,t',h1,h2,h3,h4⟩:=h i hi;unfold vK;rw[h1,h2];exact h3
def Ext{A:Type}(d m:Nat)(b:Bool)(i:Nat)(r r':OR A):Prop:=∀ v i' La,r=some (.ok v i' La)->i<=i'/\(b=true->i<i')/\(i'<m∨(b=true/\i'<=m)->r'=some (.ok v (i'+d) La))
theorem Ext.none{A:Type}{b:Bool}{i:Nat}{r':OR A}:Ext d m b i none r':=λ_ _ _ h=>by cases h
theorem Ext.ok{A:Type}{i op:Nat}{v:A}:Ext d m false i (some (.ok v i op)) (some (.ok v (i+d) op)):=λ_ _ _ h=>by cases h;exact⟨Pb _,by simp,λ_=>rfl⟩
theorem Ext.bind{A B:Type}{b1 b:Bool}{r r':OR A}{f f':A->Nat->Nat->OR B}(hr:Ext d m b1 i r r')(hf:∀ v i1 yc,i<=i1->(b1=true->i<i1)->Ext d m b i1 (f v i1 yc) (f' v (i1+d) yc)) :
  Ext d m b i (ad r f) (ad r' f'):=λv i' La h=>by
 rcases Kk h with⟨w,i1,yc,h1,h2⟩|⟨l,e,_,h1⟩;obtain⟨g1,g2,g3⟩:=hr _ _ _ h1;obtain⟨k1,k2,k3⟩:=hf _ _ yc g1 g2 _ _ _ h2;refine⟨by omega,λhb=>by have:=k2 hb;omega,λhm=>?_⟩
 rw[g3 (.inl (by
  rcases hm with hm|⟨hb,hm⟩;omega;have:=k2 hb;omega))]
 exact k3 hm;cases h1
theorem Ext.Yb{A:Type}{b:Bool}{r r':OR A}(h:Ext d m b j r r')(ZS:i<=j):Ext d m b i r r':=λv i' La hv=>by obtain⟨g1,g2,g3⟩:=h _ _ _ hv;exact⟨by omega,λhb=>by have:=g2 hb;omega,g3⟩
theorem Ext.soft{A:Type}{b:Bool}{r r':OR A}(h:Ext d m true i r r'):Ext d m b i r r':=λv i' La hv=>by obtain⟨g1,g2,g3⟩:=h _ _ _ hv;exact⟨g1,λ_=>g2 rfl,λhm=>g3 (.inr ⟨rfl,by rcases hm with hm|hm <;> omega⟩)⟩
theorem Ext.eq{A:Type}{b:Bool}{r r' r2:OR A}(h:Ext d m b i r r')(he:i<m->r2=r'):Ext d m b i r r2:=λv i' La hv=>by
 obtain⟨g1,g2,g3⟩:=h _ _ _ hv;refine⟨g1,g2,λhm=>?_⟩
 rw[he (by
  rcases hm with hm|⟨hb,hm⟩;omega;have:=g2 hb;omega)]
 exact g3 hm
theorem Ext.ite{A:Type}{b:Bool}{c c':Prop} [Decidable c] [Decidable c']{x y x' y':OR A}(hc:i<m->(c' ↔ c))(hx:c->Ext d m b i x x')(hy:¬c->Ext d m b i y y') :
  Ext d m b i (if c then x else y) (if c' then x' else y'):=by
 by_cases h:c;refine Ext.eq (r':=x') ?_ λhi=>by rw[zp ((hc hi).2 h)]
 rw[zp h];exact hx h;refine Ext.eq (r':=y') ?_ λhi=>by rw[zn (λhh=>h ((hc hi).1 hh))]
 rw[zn h];exact hy h
theorem Ext.tok{A:Type}{b:Bool}(hA:Ag T T' d m){xs:List (List UInt8)}{x y x' y':OR A}(hx:Ext d m b i x x')(hy:Ext d m b i y y') :
  Ext d m b i (if Ja T i xs then x else y) (if Ja T' (i+d) xs then x' else y'):=Ext.ite (λhi=>by rw[hA.Ja hi]) (λ_=>hx) λ_=>hy
theorem PK(hA:Ag T T' d m)(k:Int)(i op:Nat):Ext d m true i (some (qn T k i op)) (some (qn T' k (i+d) op)):=λv i' La h=>by unfold qn at h;split at h;rename_i t ht;split at h;rename_i hk;cases h;refine⟨by omega,λ_=>by omega,λhm=>?_⟩;obtain⟨t1,t',h1,h2,h3,h4⟩:=hA i ga;rw[ht] at h1;cases h1;unfold qn;rw[h2];simp only[h3,h4,zp hk];rw[show i+d+1=i+1+d by omega];cases h;cases h
theorem OK(hA:Ag T T' d m)(x:List UInt8)(i op:Nat):Ext d m true i (some (Sn T x i op)) (some (Sn T' x (i+d) op)):=λv i' La h=>by unfold Sn at h;split at h;rename_i ht;cases h;refine⟨by omega,λ_=>by omega,λhm=>?_⟩;unfold Sn;rw[hA.Ja (by omega),zp ht,show i+d+1=i+1+d by omega];cases h
theorem SN(hA:Ag T T' d m)(x:List UInt8)(i op:Nat):Ext d m true i (some (vn T x i op)) (some (vn T' x (i+d) op)):=λv i' La h=>by unfold vn at h;split at h;rename_i ht;split at h;cases h;rename_i ho;cases h;refine⟨by omega,λ_=>by omega,λhm=>?_⟩;unfold vn;rw[hA.Ja (by omega),zp ht,zn ho,show i+d+1=i+1+d by omega];cases h
theorem zV(hA:Ag T T' d m)(x:List UInt8)(i op:Nat):Ext d m true i (some (Nh T x i op)) (some (Nh T' x (i+d) op)):=λv i' La h=>by
 unfold Nh Sn at h;split at h
 ·rename_i ht
  cases h;refine⟨by omega,λ_=>by omega,λhm=>?_⟩;unfold Nh Sn;rw[hA.Ja (by omega),zp ht,show i+d+1=i+1+d by omega]
  try rfl
 cases h
theorem qls(hA:Ag T T' d m)(i op:Nat):Ext d m true i (some (My T i op)) (some (My T' (i+d) op)):=λv i' La h=>by
 have h0:=PK hA 1 i op;unfold My at h;cases hw:qn T 1 i op with
 |err l e=>rw[hw] at h;cases h
 |ok s i1 yc=>
  rw[hw] at h;cases h;obtain⟨g1,g2,g3⟩:=h0 _ _ _ (congrArg some hw);refine⟨g1,g2,λhm=>?_⟩;have:=g3 hm;injection this with this;unfold My;rw[this]
  try rfl
theorem qhR(hA:Ag T T' d m):∀ (f g:Nat) (acc:List (List UInt8)) (i op:Nat),f<=g->Ext d m false i (Nq T f acc i op) (Nq T' g acc (i+d) op)
 |0,_,_,_,_,_=>Ext.none
 |f+1,0,_,_,_,h=>by omega
 |f+1,g+1,acc,i,op,h=>by rw[Nq,Nq];refine Ext.tok hA (Ext.bind (b1:=true) ?_ λv i1 yc _ _=>qhR hA f g _ _ _ ga) Ext.ok;rw[show i+d+1=i+1+d by omega];exact(PK hA 2 (i+1) op).Yb ga
theorem I2(hA:Ag T T' d m)(f g i op:Nat)(h:f<=g):Ext d m false i (Hy T f i op) (Hy T' g (i+d) op):=
 Ext.bind (PK hA 2 i op) λv i1 yc _ _=>qhR hA f g _ _ _ h
theorem SV(hA:Ag T T' d m){A B:Type}{x y:List UInt8}{op:Nat}{g g':Nat->Nat->OR A}{k:A->B}{b:Bool}(hg:∀ i1 yc,i<=i1->Ext d m b i1 (g i1 yc) (g' (i1+d) yc)) :
  Ext d m true i (ad (some (vn T x i op)) λ_ i' La=>ad (g i' La) λv i' La=>ad (some (Nh T y i' La)) λ_ i' La=>some (.ok (k v) i' La))
   (ad (some (vn T' x (i+d) op)) λ_ i' La=>ad (g' i' La) λv i' La=>ad (some (Nh T' y i' La)) λ_ i' La=>some (.ok (k v) i' La)):=by
 refine Ext.bind (SN hA x i op) λ_ i1 yc h1 _=>Ext.bind (hg i1 yc h1) λv i2 xg h2 _=>?_;intro w i' La h;rcases Kk h with⟨u,i3,wg,h3,h4⟩|⟨l,e,_,h4⟩
 ·cases h4;obtain⟨g1,g2,g3⟩:=zV hA y i2 xg _ _ _ h3;refine⟨g1,g2,λhm=>?_⟩;rw[g3 hm]
  try rfl
 cases h4
theorem Z9(hA:Ag T T' d m):∀ f g:Nat,f<=g->(∀ k i op,Ext d m false i (Dd T f k i op) (Dd T' g k (i+d) op))/\(∀ k e i op,Ext d m false i (qp T f k e i op) (qp T' g k e (i+d) op)) /\
  (∀ i op,Ext d m false i (Vn T f i op) (Vn T' g (i+d) op))/\(∀ i op,Ext d m false i (Cq T f i op) (Cq T' g (i+d) op))/\(∀ i op,Ext d m true i (Ap T f i op) (Ap T' g (i+d) op)) /\
  (∀ i op,Ext d m true i (Sp T f i op) (Sp T' g (i+d) op))/\(∀ acc i op,Ext d m false i (Yn T f acc i op) (Yn T' g acc (i+d) op))
 |0,g,_=>⟨λ_ _ _=>by rw[Dd];exact Ext.none,λ_ _ _ _=>by rw[qp];exact Ext.none,λ_ _=>by rw[Vn];exact Ext.none,λ_ _=>by rw[Cq];exact Ext.none,λ_ _=>by rw[Ap];exact Ext.none,λ_ _=>by rw[Sp];exact Ext.none,λ_ _ _=>by rw[Yn];exact Ext.none⟩
 |f+1,0,h=>by omega
 |f+1,g+1,h=>by
  obtain⟨hL,hO,hU,hP,hI,hR,hB⟩:=Z9 hA f g ga;refine⟨λk i op=>?_,λk e i op=>?_,λi op=>?_,λi op=>?_,λi op=>?_,λi op=>?_,λacc i op=>?_⟩;rw[Dd,Dd];exact Ext.ite (λ_=>Iff.rfl) (λ_=>hU _ _) λ_=>Ext.bind (hL _ _ _) λ_ _ _ _ _=>hO _ _ _ _;rw[qp,qp];refine Ext.tok hA ?_ Ext.ok;refine Ext.eq (r':=ad (Dd T' g (k+1) (i+d+1) op) λe2 i' La=>if k=2 then some (.ok (.mk (Sz T i) 0 [] [e,e2]) i' La) else qp T' g k (.mk (Sz T i) 0 [] [e,e2]) i' La) ?_ λhi=>by rw[hA.text hi]
  rw[show i+d+1=i+1+d by omega];exact Ext.bind ((hL _ _ _).Yb ga) λ_ _ _ _ _=>Ext.ite (λ_=>Iff.rfl) (λ_=>Ext.ok) λ_=>hO _ _ _ _;rw[Vn,Vn];exact Ext.tok hA (Ext.bind (SN hA _ _ _) λ_ _ _ _ _=>Ext.bind (hU _ _) λ_ _ _ _ _=>Ext.ok) (Ext.tok hA (Ext.bind (SN hA _ _ _) λ_ _ _ _ _=>Ext.bind (hU _ _) λ_ _ _ _ _=>Ext.ok) (hP _ _));rw[Cq,Cq];refine Ext.tok hA (SV (k:=λe=>e) (g:=Dd T f 0) (g':=Dd T' g 0) hA λ_ _ _=>hL 0 _ _).soft ?_;refine Ext.ite (λhi=>by rw[hA.kind hi]) (λ_=>Ext.bind (qls hA _ _) λ_ _ _ _ _=>Ext.ok) λ_=>?_;exact Ext.bind (PK hA 2 _ _) λ_ _ _ _ _=>Ext.tok hA (Ext.bind (hI _ _) λ_ _ _ _ _=>Ext.ok) (Ext.tok hA (Ext.bind (hR _ _) λ_ _ _ _ _=>Ext.ok) Ext.ok);rw[Ap,Ap];exact SV (k:=λe=>e) (g:=Dd T f 0) (g':=Dd T' g 0) hA λ_ _ _=>hL 0 _ _;rw[Sp,Sp];exact SV (k:=λe=>e) (g:=Yn T f []) (g':=Yn T' g []) hA λ_ _ _=>hB [] _ _;rw[Yn,Yn];refine Ext.tok hA Ext.ok (Ext.bind (b1:=false) ?_ λ_ _ _ _ _=>Ext.bind (hL _ _ _) λ_ _ _ _ _=>hB _ _ _);split;exact Ext.ok;exact(OK hA _ _ _).soft
theorem P'(hA:Ag T T' d m):∀ f g:Nat,f<=g->(∀ i op,Ext d m true i (xp T f i op) (xp T' g (i+d) op))/\(∀ acc i op,Ext d m false i (Lm T f acc i op) (Lm T' g acc (i+d) op)) /\
  (∀ i op,Ext d m false i (Fq T f i op) (Fq T' g (i+d) op))/\(∀ i op,Ext d m false i (Mq T f i op) (Mq T' g (i+d) op))
 |0,g,_=>⟨λ_ _=>by rw[xp];exact Ext.none,λ_ _ _=>by rw[Lm];exact Ext.none,λ_ _=>by rw[Fq];exact Ext.none,λ_ _=>by rw[Mq];exact Ext.none⟩
 |f+1,0,h=>by omega
 |f+1,g+1,h=>by
  obtain⟨hB,hS,hT,hM⟩:=P' hA f g ga;obtain⟨hL,_,_,_,hI,hR,_⟩:=Z9 hA f g ga;refine⟨λi op=>?_,λacc i op=>?_,λi op=>?_,λi op=>?_⟩;rw[xp,xp];exact SV (k:=λe=>e) (g:=Lm T f []) (g':=Lm T' g []) hA λ_ _ _=>hS [] _ _;rw[Lm,Lm];exact Ext.tok hA Ext.ok (Ext.bind (hT _ _) λ_ _ _ _ _=>hS _ _ _);rw[Fq,Fq];rw[show i+d+1=i+1+d by omega];refine Ext.tok hA (Ext.bind ((hL _ _ _).Yb ga) λ_ i1 _ _ _=>Ext.bind (hB _ _) λ_ i2 _ _ _=>?_) (Ext.tok hA (Ext.bind ((hL _ _ _).Yb ga) λ_ _ _ _ _=>Ext.bind (hB _ _) λ_ _ _ _ _=>Ext.ok) (Ext.bind (hM _ _) λ_ _ _ _ _=>Ext.bind (OK hA _ _ _) λ_ _ _ _ _=>Ext.ok));rw[show i2+d+1=i2+1+d by omega];exact Ext.tok hA (Ext.bind ((hB _ _).Yb ga) λ_ _ _ _ _=>Ext.ok) Ext.ok;rw[Mq,Mq];rw[show i+d+1=i+1+d by omega]
  exact Ext.tok hA (Ext.bind ((hL _ _ _).Yb ga) λ_ _ _ _ _=>Ext.ok) (Ext.tok hA (Ext.Yb (Ext.ok (i:=i+1)) ga) (Ext.bind (PK hA 2 _ _) λ_ _ _ _ _=>Ext.tok hA (Ext.bind (hR _ _) λ_ _ _ _ _=>Ext.ok)
   (Ext.tok hA (Ext.bind (hI _ _) λ_ _ _ _ _=>Ext.bind (OK hA _ _ _) λ_ _ _ _ _=>Ext.bind (hL _ _ _) λ_ _ _ _ _=>Ext.ok) (Ext.bind (OK hA _ _ _) λ_ _ _ _ _=>Ext.bind (hL _ _ _) λ_ _ _ _ _=>Ext.ok))))
theorem qrd(hA:Ag T T' d m):∀ (f g:Nat) (acc:List (List UInt8)) (i op:Nat),f<=g->Ext d m false i (Fk T f acc i op) (Fk T' g acc (i+d) op)
 |0,_,_,_,_,_=>Ext.none
 |f+1,0,_,_,_,h=>by omega
 |f+1,g+1,acc,i,op,h=>by rw[Fk,Fk,show i+d+1=i+1+d by omega];exact Ext.tok hA (Ext.bind ((I2 hA f g _ _ ga).Yb ga) λ_ _ _ _ _=>Ext.bind (OK hA _ _ _) λ_ _ _ _ _=>qrd hA f g _ _ _ ga) Ext.ok
theorem qq4{A B:Type}{i:Nat}{r r':OR A}{k:A->B}{o:Nat->Nat}(h:Ext d m true i r r'):Ext d m true i (ad r λv i op=>some (.ok (k v) i (o op))) (ad r' λv i op=>some (.ok (k v) i (o op))):=λw i' La hw=>by
 rcases Kk hw with⟨u,i3,wg,h3,h4⟩|⟨l,e,_,h4⟩
 ·cases h4;obtain⟨g1,g2,g3⟩:=h _ _ _ h3;refine⟨g1,g2,λhm=>?_⟩;rw[g3 hm]
  try rfl
 cases h4
theorem qwV(hA:Ag T T' d m)(f g i op:Nat)(h:f<=g):Ext d m true i (Vv T f i op) (Vv T' g (i+d) op):=by
 unfold Vv;refine Ext.bind (PK hA 2 _ _) λ_ _ _ _ _=>Ext.bind (SN hA _ _ _) λ_ _ _ _ _=>Ext.bind (b1:=false) (Ext.tok hA Ext.ok (I2 hA f g _ _ h)) λ_ _ _ _ _=>Ext.bind (zV hA _ _ _) λ_ _ _ _ _=>
  Ext.bind (SN hA _ _ _) λ_ _ _ _ _=>Ext.bind (qrd hA f g _ _ _ h) λ_ _ _ _ _=>Ext.bind ((P' hA f g h).2.1 _ _ _) λ_ _ _ _ _=>qq4 (o:=λx=>x) (zV hA _ _ _)
theorem qsw(hA:Ag T T' d m)(i op:Nat):Ext d m true i (Vz T i op) (Vz T' (i+d) op):=by unfold Vz;refine Ext.bind (PK hA 2 _ _) λ_ _ _ _ _=>Ext.bind (SN hA _ _ _) λ_ _ _ _ _=>Ext.bind (qls hA _ _) λ_ _ _ _ _=>Ext.bind (zV hA _ _ _) λ_ _ _ _ _=>qq4 (o:=λx=>x) (OK hA _ _ _)
end
def EN{A:Type}(r:OR A):Prop:=∀ l e,r=some (.err l e)->¬ e=0
theorem EN.none{A:Type}:EN (none:OR A):=λ_ _ h=>by cases h
theorem EN.ok{A:Type}{v:A}{i op:Nat}:EN (some (.ok v i op)):=λ_ _ h=>by cases h
theorem EN.bind{A B:Type}{r:OR A}{f:A->Nat->Nat->OR B}(h:EN r)(hf:∀ v i op,EN (f v i op)):EN (ad r f):=λl e hq=>by rcases Kk hq with⟨v,i,op,_,h2⟩|⟨l',e',h1,h2⟩;exact hf _ _ _ _ _ h2;cases h2;exact h _ _ h1
theorem EN.ite{A:Type}{c:Prop} [Decidable c]{a b:OR A}(h1:EN a)(h2:EN b):EN (if c then a else b):=by split;exact h1;exact h2
theorem EN.FE{A:Type}:EN (A:=A) (some (jI T i)):=λl e h=>by cases h;decide
theorem EN.word{k:Int}{op:Nat}:EN (some (qn T k i op)):=by unfold qn;split;split;exact EN.ok;exact EN.FE;exact EN.FE
theorem EN.need{x:List UInt8}{op:Nat}:EN (some (Sn T x i op)):=by unfold Sn;split;exact EN.ok;exact EN.FE
theorem EN.begin{x:List UInt8}{op:Nat}:EN (some (vn T x i op)):=by unfold vn;split;split;intro l e h;cases h;decide;exact EN.ok;exact EN.FE
theorem EN.Nx{x:List UInt8}{op:Nat}:EN (some (Nh T x i op)):=by unfold Nh Sn;split;exact EN.ok;exact EN.FE
theorem EN.number{op:Nat}:EN (some (My T i op)):=by unfold My qn;split;split;exact EN.ok;exact EN.FE;exact EN.FE
theorem qiO(T:List Tok):∀ (f:Nat) (acc:List (List UInt8)) (i op:Nat),EN (Nq T f acc i op)
 |0,_,_,_=>EN.none
 |f+1,acc,i,op=>by rw[Nq];exact EN.ite (EN.bind EN.word λ_ _ _=>qiO T f _ _ _) EN.ok
theorem qp8(T:List Tok)(f i op:Nat):EN (Hy T f i op):=EN.bind EN.word λ_ _ _=>qiO T f _ _ _
theorem qBS(T:List Tok):∀ f:Nat,(∀ k i op,EN (Dd T f k i op))/\(∀ k e i op,EN (qp T f k e i op))/\(∀ i op,EN (Vn T f i op))/\(∀ i op,EN (Cq T f i op))/\(∀ i op,EN (Ap T f i op))/\(∀ i op,EN (Sp T f i op))/\(∀ acc i op,EN (Yn T f acc i op))
 |0=>⟨λ_ _ _=>by rw[Dd];exact EN.none,λ_ _ _ _=>by rw[qp];exact EN.none,λ_ _=>by rw[Vn];exact EN.none,λ_ _=>by rw[Cq];exact EN.none,λ_ _=>by rw[Ap];exact EN.none,λ_ _=>by rw[Sp];exact EN.none,λ_ _ _=>by rw[Yn];exact EN.none⟩
 |f+1=>by obtain⟨hL,hO,hU,hP,hI,hA,hB⟩:=qBS T f;refine⟨λk i op=>?_,λk e i op=>?_,λi op=>?_,λi op=>?_,λi op=>?_,λi op=>?_,λacc i op=>?_⟩;rw[Dd];exact EN.ite (hU _ _) (EN.bind (hL _ _ _) λ_ _ _=>hO _ _ _ _);rw[qp];exact EN.ite (EN.bind (hL _ _ _) λ_ _ _=>EN.ite EN.ok (hO _ _ _ _)) EN.ok;rw[Vn];exact EN.ite (EN.bind EN.begin λ_ _ _=>EN.bind (hU _ _) λ_ _ _=>EN.ok) (EN.ite (EN.bind EN.begin λ_ _ _=>EN.bind (hU _ _) λ_ _ _=>EN.ok) (hP _ _));rw[Cq];exact EN.ite (EN.bind EN.begin λ_ _ _=>EN.bind (hL _ _ _) λ_ _ _=>EN.bind EN.Nx λ_ _ _=>EN.ok) (EN.ite (EN.bind EN.number λ_ _ _=>EN.ok) (EN.bind EN.word λ_ _ _=>EN.ite (EN.bind (hI _ _) λ_ _ _=>EN.ok) (EN.ite (EN.bind (hA _ _) λ_ _ _=>EN.ok) EN.ok)));rw[Ap];exact EN.bind EN.begin λ_ _ _=>EN.bind (hL _ _ _) λ_ _ _=>EN.bind EN.Nx λ_ _ _=>EN.ok;rw[Sp];exact EN.bind EN.begin λ_ _ _=>EN.bind (hB _ _ _) λ_ _ _=>EN.bind EN.Nx λ_ _ _=>EN.ok;rw[Yn];refine EN.ite EN.ok (EN.bind ?_ λ_ _ _=>EN.bind (hL _ _ _) λ_ _ _=>hB _ _ _);split;exact EN.ok;exact EN.need
theorem qBo(T:List Tok):∀ f:Nat,(∀ i op,EN (xp T f i op))/\(∀ acc i op,EN (Lm T f acc i op))/\(∀ i op,EN (Fq T f i op))/\(∀ i op,EN (Mq T f i op))
 |0=>⟨λ_ _=>by rw[xp];exact EN.none,λ_ _ _=>by rw[Lm];exact EN.none,λ_ _=>by rw[Fq];exact EN.none,λ_ _=>by rw[Mq];exact EN.none⟩
 |f+1=>by obtain⟨hB,hS,hT,hM⟩:=qBo T f;obtain⟨hL,_,_,_,hI,hA,_⟩:=qBS T f;refine⟨λi op=>?_,λacc i op=>?_,λi op=>?_,λi op=>?_⟩;rw[xp];exact EN.bind EN.begin λ_ _ _=>EN.bind (hS _ _ _) λ_ _ _=>EN.bind EN.Nx λ_ _ _=>EN.ok;rw[Lm];exact EN.ite EN.ok (EN.bind (hT _ _) λ_ _ _=>hS _ _ _);rw[Fq];exact EN.ite (EN.bind (hL _ _ _) λ_ _ _=>EN.bind (hB _ _) λ_ _ _=>EN.ite (EN.bind (hB _ _) λ_ _ _=>EN.ok) EN.ok) (EN.ite (EN.bind (hL _ _ _) λ_ _ _=>EN.bind (hB _ _) λ_ _ _=>EN.ok) (EN.bind (hM _ _) λ_ _ _=>EN.bind EN.need λ_ _ _=>EN.ok));rw[Mq];exact EN.ite (EN.bind (hL _ _ _) λ_ _ _=>EN.ok) (EN.ite EN.ok (EN.bind EN.word λ_ _ _=>EN.ite (EN.bind (hA _ _) λ_ _ _=>EN.ok) (EN.ite (EN.bind (hI _ _) λ_ _ _=>EN.bind EN.need λ_ _ _=>EN.bind (hL _ _ _) λ_ _ _=>EN.ok) (EN.bind EN.need λ_ _ _=>EN.bind (hL _ _ _) λ_ _ _=>EN.ok))))
theorem IZ(T:List Tok):∀ (f:Nat) (acc:List (List UInt8)) (i op:Nat),EN (Fk T f acc i op)
 |0,_,_,_=>EN.none
 |f+1,acc,i,op=>by rw[Fk];exact EN.ite (EN.bind (qp8 T f _ _) λ_ _ _=>EN.bind EN.need λ_ _ _=>IZ T f _ _ _) EN.ok
theorem qAf(T:List Tok)(f i op:Nat):EN (Vv T f i op):=by unfold Vv;exact EN.bind EN.word λ_ _ _=>EN.bind EN.begin λ_ _ _=>EN.bind (EN.ite EN.ok (qp8 T f _ _)) λ_ _ _=>EN.bind EN.Nx λ_ _ _=>EN.bind EN.begin λ_ _ _=>EN.bind (IZ T f _ _ _) λ_ _ _=>EN.bind ((qBo T f).2.1 _ _ _) λ_ _ _=>EN.bind EN.Nx λ_ _ _=>EN.ok
theorem qxa(T:List Tok)(i op:Nat):EN (Vz T i op):=by unfold Vz;exact EN.bind EN.word λ_ _ _=>EN.bind EN.begin λ_ _ _=>EN.bind EN.number λ_ _ _=>EN.bind EN.Nx λ_ _ _=>EN.bind EN.need λ_ _ _=>EN.ok
theorem sV(T:List Tok):∀ (f:Nat) (p:Pr) (i op:Nat),EN (Ll T f p i op)
 |0,_,_,_=>EN.none
 |f+1,p,i,op=>by rw[Ll];exact EN.ite EN.ok (EN.ite (EN.bind (IZ T f _ _ _) λ_ _ _=>sV T f _ _ _) (EN.ite (EN.bind (qxa T _ _) λ_ _ _=>sV T f _ _ _) (EN.ite (EN.bind (qAf T f _ _) λ_ _ _=>sV T f _ _ _) EN.FE)))
def Pr.app(p q:Pr):Pr:=⟨p.vars++q.vars,p.ba++q.ba,p.funcs++q.funcs⟩
def Ts:Pr:=⟨[],[],[]⟩
theorem Pr.QA(p q r:Pr):(p.app q).app r=p.app (q.app r):=by simp[Pr.app]
theorem Pr.zE(p:Pr):p.app Ts=p:=by simp[Pr.app,Ts]
theorem Pr.An(p:Pr):Ts.app p=p:=by simp[Pr.app,Ts]
inductive Decl (T:List Tok):Nat->Pr->Nat->Prop where
 |var {i j:Nat} {l:List (List UInt8)} (h:Ja T i [ME]=true) (f0 i1:Nat) (h1:∀ f,f0<=f->Hy T f (i+1) 0=some (.ok l i1 0)) (h2:Sn T [59] i1 0=.ok () j 0):Decl T i ⟨l,[],[]⟩ j
 |array {i j:Nat} {a:Ar} (h0:Ja T i [ME]=false) (h:Ja T i [GQ]=true) (h1:Vz T (i+1) 0=some (.ok a j 0)):Decl T i ⟨[],[a],[]⟩ j
 |func {i j:Nat} {a:yb} (h0:Ja T i [ME]=false) (HJ:Ja T i [GQ]=false) (h:Ja T i [bZ]=true) (f0:Nat) (h1:∀ f,f0<=f->Vv T f (i+1) 0=some (.ok a j 0)):Decl T i ⟨[],[],[a]⟩ j
inductive vj (T:List Tok):Nat->Nat->Pr->Nat->Prop where
 |nil {i:Nat}:vj T 0 i Ts i
 |cons {n i j k:Nat} {p q:Pr} (h:Decl T i p j) (ht:vj T n j q k):vj T (n+1) i (p.app q) k
theorem vj.trans{m:Nat}:∀ {i j k:Nat} {p q:Pr},vj T n i p j->vj T m j q k->∃ o,vj T o i (p.app q) k:=by
 intro i j k p q h1 h2;induction h1 with
 |nil=>rw[Pr.An];exact⟨m,h2⟩
 |cons h ht ih=>obtain⟨o,ho⟩:=ih h2;rw[Pr.QA];exact⟨o+1,.cons h ho⟩
section
variable{T T':List Tok}{d:Nat}
theorem qlr(hA:Ag T T' d T.length):∀ (f:Nat) (acc l:List (List UInt8)) (i i' La:Nat),Fk T f acc i 0=some (.ok l i' La)->La=0/\∃ l2 n,l=acc++l2/\vj T' n (i+d) ⟨l2,[],[]⟩ (i'+d)
 |0,_,_,_,_,_,h=>by cases h
 |f+1,acc,l,i,i',La,h=>by
  rw[Fk] at h;split at h;rename_i ht;have hi:=Wj ht;rcases Kk h with⟨l1,i1,yc,h1,h2⟩|⟨_,_,_,h2⟩;obtain⟨_,_,g3,rfl⟩:=MI T f (i+1) 0 _ h1;rcases Kk h2 with⟨u,i2,xg,h3,h4⟩|⟨_,_,_,h4⟩;have hg:=Mw T [59] i1 0;injection h3 with h3;rw[h3] at hg;obtain⟨k1,k2,k3,rfl⟩:=hg;have hl:=k3 (g3 ga);obtain⟨rfl,l2,n,rfl,hD⟩:=qlr hA f _ _ _ _ _ h4;refine⟨rfl,l1++l2,n+1,by simp,?_⟩;have e:(⟨l1++l2,[],[]⟩:Pr)=(⟨l1,[],[]⟩:Pr).app ⟨l2,[],[]⟩:=by simp[Pr.app]
  rw[e];refine .cons (j:=i2+d) (.var (by rw[hA.Ja hi];exact ht) f (i1+d) (λg hg=>?_) ?_) hD;have:=(I2 hA f g (i+1) 0 hg _ _ _ h1).2.2 (.inl (by have:=k2 rfl;omega));rw[show i+d+1=i+1+d by omega];exact this;have:=(OK hA [59] i1 0 _ _ _ (congrArg some h3)).2.2 (.inr ⟨rfl,hl⟩);injection this;cases h4;cases h2;cases h;exact⟨rfl,[],0,by simp,.nil⟩
theorem qR(hA:Ag T T' d T.length):∀ (f:Nat) (p q:Pr) (i j La:Nat),i<=T.length->Ll T f p i 0=some (.ok q j La)->∃ dl n,q=p.app dl/\vj T' n (i+d) dl (T.length+d)
 |0,_,_,_,_,_,_,h=>by cases h
 |f+1,p,q,i,j,La,hi,h=>by
  rw[Ll] at h;split at h;cases h;have:i=T.length:=by omega
  subst this;exact⟨Ts,0,(Pr.zE p).symm,.nil⟩;rename_i Ka;have FD:i<T.length:=by omega
  split at h;rcases Kk h with⟨l1,i1,yc,h1,h2⟩|⟨_,_,_,h2⟩;obtain⟨rfl,l2,n,rfl,hD⟩:=qlr hA f _ _ _ _ _ h1;have hg:=EG T f [] i 0 _ h1;obtain⟨dl,m,rfl,mj⟩:=qR hA f _ _ _ _ _ (hg.2.2.1 hi) h2;obtain⟨o,ho⟩:=hD.trans mj;refine⟨_,o,?_,ho⟩;simp[Pr.app];cases h2;rename_i hv;have jx:Ja T i [ME]=false:=by simpa using hv
  split at h;rename_i ha;rcases Kk h with⟨a,i1,yc,h1,h2⟩|⟨_,_,_,h2⟩;obtain⟨g1,g2,g3,rfl⟩:=nR T (i+1) 0 _ h1;obtain⟨dl,m,rfl,mj⟩:=qR hA f _ _ _ _ _ (g3 ga) h2;refine⟨_,m+1,?_,.cons (j:=i1+d) (.array (a:=a) (by rw[hA.Ja FD];exact jx) (by rw[hA.Ja FD];exact ha) ?_) mj⟩;simp[Pr.app];have:=(qsw hA (i+1) 0 _ _ _ h1).2.2 (.inr ⟨rfl,g3 ga⟩);rw[show i+d+1=i+1+d by omega];exact this;cases h2;rename_i ha;have Wm:Ja T i [GQ]=false:=by simpa using ha
  split at h;rename_i hf;rcases Kk h with⟨a,i1,yc,h1,h2⟩|⟨_,_,_,h2⟩;obtain⟨g1,g2,g3,rfl⟩:=uR T f (i+1) 0 _ h1;obtain⟨dl,m,rfl,mj⟩:=qR hA f _ _ _ _ _ (g3 ga) h2;refine⟨_,m+1,?_,.cons (j:=i1+d) (.func (a:=a) (by rw[hA.Ja FD];exact jx) (by rw[hA.Ja FD];exact Wm) (by rw[hA.Ja FD];exact hf) f λg hg=>?_) mj⟩;simp[Pr.app];have:=(qwV hA f g (i+1) 0 hg _ _ _ h1).2.2 (.inr ⟨rfl,g3 ga⟩);rw[show i+d+1=i+1+d by omega];exact this;cases h2;unfold jI at h;cases h
end
theorem qvA(xs:List (List UInt8)):Ja T T.length xs=false:=by unfold Ja;rw[List.getElem?_eq_none (Pb _)]
theorem qrk{dl:Pr}(h:vj T n i dl j):j=T.length->∃ f0 l i' m PO,(∀ f,f0<=f->∀ acc,Fk T f acc i 0=some (.ok (acc++l) i' 0))/\vj T m i' PO j/\dl=(⟨l,[],[]⟩:Pr).app PO/\m<=n/\(Ja T i [ME]=true->m<n):=by
 induction h with
 |nil=>
  intro hj;subst hj;refine⟨1,[],T.length,0,Ts,λf hf acc=>?_,.nil,by simp[Pr.app,Ts],Pb _,λh=>by rw[qvA] at h;cases h⟩;obtain⟨g,rfl⟩:∃ g,f=g+1:=⟨f-1,by omega⟩;rw[Fk,zn (by rw[qvA];decide)]
  simp
 |@cons n i j k p q hd ht ih=>
  intro hk;obtain⟨f0,l,i',m,PO,h1,h2,h3,h4,h5⟩:=ih hk;cases hd with
  |@var _ l1 hv f1 i1 hn hs=>
   refine⟨max f0 f1+1,l1++l,i',m,PO,λf hf acc=>?_,h2,by rw[h3];simp[Pr.app],by omega,λ_=>by omega⟩;obtain⟨g,rfl⟩:∃ g,f=g+1:=⟨f-1,by omega⟩;rw[Fk,zp hv,hn g (by omega)];show ad (some (Sn T [59] i1 0)) _=_;rw[hs];show Fk T g (acc++l1) j 0=_;rw[h1 g (by omega)]
   simp
  |@array _ a hv ha h=>
   refine⟨1,[],i,n+1,_,λf hf acc=>?_,.cons (.array hv ha h) ht,by rw[show(⟨[],[],[]⟩:Pr)=Ts from rfl,Pr.An],by omega,λh'=>by rw[hv] at h';cases h'⟩;obtain⟨g,rfl⟩:∃ g,f=g+1:=⟨f-1,by omega⟩;rw[Fk,zn (by rw[hv];decide)]
   simp
  |@func _ a hv Wm ha f1 h=>
   refine⟨1,[],i,n+1,_,λf hf acc=>?_,.cons (.func hv Wm ha f1 h) ht,by rw[show(⟨[],[],[]⟩:Pr)=Ts from rfl,Pr.An],by omega,λh'=>by rw[hv] at h';cases h'⟩;obtain⟨g,rfl⟩:∃ g,f=g+1:=⟨f-1,by omega⟩;rw[Fk,zn (by rw[hv];decide)]
   simp
theorem FW{T:List Tok}:∀ (N n i:Nat) (dl:Pr),n<=N->vj T n i dl T.length->∃ f0,∀ f,f0<=f->∀ p,Ll T f p i 0=some (.ok (p.app dl) T.length 0)
 |N,n,i,dl,hn,h=>by
  have hv:=qrk h rfl;cases h with
  |nil=>
   refine⟨1,λf hf p=>?_⟩;obtain⟨g,rfl⟩:∃ g,f=g+1:=⟨f-1,by omega⟩
   rw[Ll,zp (Pb _),Pr.zE]
  |@cons n _ j _ p q hd ht=>
   cases N with
   |zero=>omega
   |succ N=>
   cases hd with
   |@var _ l1 fJ f1 i1 zx hs=>
    obtain⟨f0,l,i',m,PO,h1,h2,h3,h4,h5⟩:=hv;obtain⟨f2,h6⟩:=FW N m i' PO (by have:=h5 fJ;omega) h2;have Ka:=Wj fJ;refine⟨max f0 f2+1,λf hf p=>?_⟩;obtain⟨g,rfl⟩:∃ g,f=g+1:=⟨f-1,by omega⟩;rw[Ll,zn (by omega),zp fJ,h1 g (by omega)];show Ll T g _ i' 0=_;rw[h6 g (by omega),h3]
    simp[Pr.app]
   |@array _ a eH ha h=>
    obtain⟨f2,h6⟩:=FW N n j q ga ht;have Ka:=Wj ha;refine⟨f2+1,λf hf p=>?_⟩;obtain⟨g,rfl⟩:∃ g,f=g+1:=⟨f-1,by omega⟩;rw[Ll,zn (by omega),zn (by rw[eH];decide),zp ha,h];show Ll T g _ j 0=_;rw[h6 g (by omega)]
    simp[Pr.app]
   |@func _ a eH ha fT f1 h=>obtain⟨f2,h6⟩:=FW N n j q ga ht;have Ka:=Wj fT;refine⟨max f1 f2+1,λf hf p=>?_⟩;obtain⟨g,rfl⟩:∃ g,f=g+1:=⟨f-1,by omega⟩;rw[Ll,zn (by omega),zn (by rw[eH];decide),zn (by rw[ha];decide),zp fT,h g (by omega)];show Ll T g _ j 0=_;rw[h6 g (by omega)];simp[Pr.app]
theorem qw3{A B:List Tok}{p q:Pr}{fa fb i1 i2 o1 o2:Nat}(ha:Ll A fa Ts 0 0=some (.ok p i1 o1))(hb:Ll B fb Ts 0 0=some (.ok q i2 o2)){B':List Tok}(hB:B'.map (λt=>(t.kind,t.text))=B.map λt=>(t.kind,t.text)) :
  ∃ i op,Ll (A++B') (10 * (A++B').length+20) Ts 0 0=some (.ok (p.app q) i op):=by
 have ma:B'.length=B.length:=by simpa using congrArg List.length hB
 have OT:Ag A (A++B') 0 A.length:=λj hj=>⟨A[j],A[j],by simp[hj],by simp[List.getElem?_append_left hj,hj],rfl,rfl⟩
 have PX:Ag B (A++B') A.length B.length:=λj hj=>by
  have h1:(B'.map λt=>(t.kind,t.text))[j]? = (B.map λt=>(t.kind,t.text))[j]? := by rw[hB]
  have jF:j<B'.length:=by omega
  refine⟨B[j],B'[j],by simp[hj],?_,?_⟩;rw[List.getElem?_append_right (by omega),Nat.add_sub_cancel];simp[jF];simp only[List.getElem?_map,Yh hj,Yh jF,Option.map_some,Ym,Prod.mk.injEq] at h1;exact h1
 obtain⟨d1,n1,rfl,MT⟩:=qR OT fa _ _ 0 _ _ (zero_le _) ha;obtain⟨d2,n2,rfl,mj⟩:=qR PX fb _ _ 0 _ _ (zero_le _) hb;rw[zero_add,add_zero] at MT;rw[zero_add] at mj;obtain⟨o,ho⟩:=MT.trans mj;rw[show B.length+A.length=(A++B').length by rw[Ga];omega] at ho;obtain⟨f0,h⟩:=FW o o 0 _ (Pb _) ho;obtain⟨r,hr⟩:=dO (A++B') (10 * (A++B').length+20) Ts 0 0 (zero_le _) ga;have h1:=xV (A++B') (10 * (A++B').length+20) (max f0 (10 * (A++B').length+20)) Ts 0 0 ga _ hr;rw[h _ (by omega)] at h1;cases h1;rw[Pr.An,Pr.An];rw[Pr.An] at hr;exact⟨_,_,hr⟩
theorem Nw:∀ (l k:List Nm),yp k l=0->l.Nodup/\∀ s∈l,s ∉ k/\kf s=true
 |[],k,_=>⟨nodup_nil,λs hs=>(not_mem_nil hs).elim⟩
 |s::l,k,h=>by rw[yp] at h;split at h;cases h;rename_i h1;split at h;cases h;rename_i h2;obtain⟨g1,g2⟩:=Nw l (s::k) h;refine⟨List.nodup_cons.2 ⟨λhm=>(g2 s hm).1 Qe,g1⟩,λx hx=>?_⟩;rcases Dc.1 hx with rfl|hx;exact⟨h2,by simpa using h1⟩;exact⟨λhm=>(g2 x hx).1 (Oc _ hm),(g2 x hx).2⟩
theorem KU{s:Nm}(h:kf s=true):(46:UInt8) ∉ s:=by
 unfold kf at h;rw[Ed] at h;have h2:=h.2;cases s with
 |nil=>exact not_mem_nil
 |cons c r=>simp only[Ed] at h2;intro hm;rcases Dc.1 hm with rfl|hm;exact absurd h2.1 ea;exact absurd (List.all_eq_true.1 h2.2 46 hm) ea
theorem S2:∀ (a b x y:Nm),(46:UInt8) ∉ a->(46:UInt8) ∉ b->a++46::x=b++46::y->a=b/\x=y
 |[],[],x,y,_,_,h=>by injection h with _ h;exact⟨rfl,h⟩
 |[],d::b,x,y,_,hb,h=>by injection h with h1 _;exact absurd (h1▸mem_cons_self ..) hb
 |c::a,[],x,y,ha,_,h=>by injection h with h1 _;exact absurd (h1▸mem_cons_self ..) ha
 |c::a,d::b,x,y,ha,hb,h=>by injection h with h1 h2;obtain⟨e1,e2⟩:=S2 a b x y (λg=>ha (Oc _ g)) (λg=>hb (Oc _ g)) h2;exact⟨by rw[h1,e1],e2⟩
theorem qnd(h:(fs.map (·.name)).Nodup){g:yb}(hf:f∈fs)(hg:g∈fs)(he:f.name=g.name):f=g:=by
 induction fs with
 |nil=>cases hf
 |cons a l ih=>rw[yd,nodup_cons] at h;rcases Dc.1 hf with rfl|GX;rcases Dc.1 hg with rfl|bz;rfl;exact absurd (jl ⟨g,bz,he.symm⟩) h.1;rcases Dc.1 hg with rfl|bz;exact absurd (jl ⟨f,GX,he⟩) h.1;exact ih h.2 GX bz
theorem qsT(h:yp [] (vars++ba++fs.map (·.name))=0)(hf:f∈fs)(name:Nm):f.name++[46]++name∈je vars fs ↔ name∈f.params++f.locals:=by
 obtain⟨h1,h2⟩:=Nw _ _ h;have hd:∀ g∈fs,(46:UInt8) ∉ g.name:=λg hg=>KU (h2 _ (zq (.inr (jl ⟨g,hg,rfl⟩)))).2;unfold je;rw[mem_append];constructor;rintro(g|g);have:=KU (h2 _ (zq (.inl (zq (.inl g))))).2;exact absurd (by simp) this;obtain⟨l,g1,g2⟩:=List.mem_flatten.1 g;obtain⟨k,g3,rfl⟩:=Ni g1;obtain⟨x,g4,g5⟩:=Ni g2;have g6:k.name++46::x=f.name++46::name:=by simpa using g5
 obtain⟨e1,rfl⟩:=S2 _ _ _ _ (hd k g3) (hd f hf) g6;rw[<-qnd (On h1).2.1 g3 hf e1];exact g4;intro g;exact .inr (List.mem_flatten.2 ⟨_,jl ⟨f,hf,rfl⟩,jl ⟨name,g,rfl⟩⟩)
theorem qBZ(h:yp [] (vars++ba++fs.map (·.name))=0)(hf:f∈fs)(name:Nm):(if f.name++[46]++name∈je vars fs then f.name++[46]++name else name)=jc f name:=by unfold jc;simp only[qsT h hf,mem_append]
theorem qsd{known:List ye}(hf:f∈fs){name:Nm}(h:du (Bg vars ba (fs.map (·.name)) known f) name=0):jc f name∈je vars fs:=by unfold du at h;unfold jc je;rw[mem_append];split at h;rename_i h1;split;rename_i h2;exact .inr (List.mem_flatten.2 ⟨_,jl ⟨f,hf,rfl⟩,jl ⟨name,zq h2,rfl⟩⟩);rename_i h2;rcases h1 with h1|h1;exact .inl h1;exact absurd (xj h1) h2;split at h <;> cases h
theorem yZ{P:Pr}(h:(P.funcs.map (·.name)).Nodup)(hf:f∈P.funcs):Xg P f.name=f:=by
 unfold Xg;cases hg:P.funcs.find? λg=>decide (g.name=f.name) with
 |none=>exact absurd (List.find?_eq_none.1 hg f hf) (by simp)
 |some g=>exact qnd h (mem_of_find?_eq_some hg) hf (qg (List.find?_some (p:=λg:yb=>decide (g.name=f.name)) hg))
structure CC where
 sc:Nm->Wd
 ar:Nm->Wd
 t0:Wd
 t1:Wd
 t2:Wd
def Om(c:CC):List Wd:=[c.t2,[33],c.t1,[33],c.t2,[64],c.t1,[64],[60]]
def Cr(c:CC)(op:Nm)(num:Nat)(name:Nm)(l:List (List Wd)):List Wd:=
 if op=Af then [decDigits num]
 else if op=bg then [c.sc name,[64]]
 else if op=Vj then c.ar name::(l.headD []++[[43],[64]])
 else if op=tg then l.flatten++(if name=[105,110] then [[44]] else if name=[111,117,116] then [[46],[48]] else [[38,102,95]++name,[58]])
 else if op=Ng then [48]::(l.headD []++[[45]])
 else if op=yg then l.headD []++[[49],[60]]
 else if op=[33,61] then [48]::(l.headD []++(l.drop 1).headD []++[[94],[60]])
 else if op=[38,38] then [48]::(l.headD []++[[60],[48]]++(l.drop 1).headD []++[[60],[42]])
 else if op=[124,124] then [48]::[48]::(l.headD []++[[60],[48]]++(l.drop 1).headD []++[[60],[43],[60]])
 else l.headD []++(l.drop 1).headD []++(if op=[62] then Om c else if op=[60,61] then Om c++[[49],[94]] else if op=[62,61] then [[60],[49],[94]] else if op=[61,61] then [[94],[49],[60]] else [op])
mutual
def Qb(c:CC):Ex->List Wd
 |.mk op num name args=>Cr c op num name (Ib c args)
def Ib(c:CC):List Ex->List (List Wd)
 |[]=>[]
 |x::l=>Qb c x::Ib c l
end
def za(n:Nat):Wd:=106::decDigits n
mutual
def Ig(c:CC):Nat->Sm->List Wd×Nat
 |n,.mk kind name index value Ua Bb=>
  if kind=1 then (Qb c (value.headD default)++[c.sc name,[33]],n)
  else if kind=2 then (Qb c (value.headD default)++c.ar name::(Qb c (index.headD default)++[[43],[33]]),n)
  else if kind=3 then
   (match Bb with
   |[]=>(Qb c (value.headD default)++[38::za n,[63]]++(Pa c (n+1) Ua).1++[za n++[58]],(Pa c (n+1) Ua).2)
   |_::_=>(Qb c (value.headD default)++[38::za n,[63]]++(Pa c (n+2) Ua).1++[[48],38::za (n+1),[63],za n++[58]]++(Pa c (Pa c (n+2) Ua).2 Bb).1++[za (n+1)++[58]],(Pa c (Pa c (n+2) Ua).2 Bb).2))
  else if kind=4 then ([za n++[58]]++Qb c (value.headD default)++[38::za (n+1),[63]]++(Pa c (n+2) Ua).1++[[48],38::za n,[63],za (n+1)++[58]],(Pa c (n+2) Ua).2)
  else if kind=5 then (Qb c (value.headD default)++[[59]],n)
  else if kind=6 then (Qb c (value.headD default)++[c.t0,[33]],n)
  else if kind=7 then ([[36]],n)
  else ([],n)
def Pa(c:CC):Nat->List Sm->List Wd×Nat
 |n,[]=>([],n)
 |n,s::l=>((Ig c n s).1++(Pa c (Ig c n s).2 l).1,(Pa c (Ig c n s).2 l).2)
end
def Gy(l:List Nm)(S:Int)(k:Nm):Int:=if k∈l then S+3+(l.idxOf k:Nat) else 0
def Vu(l:List Nm)(own name:Nm):Nm:=if own++[46]++name∈l then own++[46]++name else name
def Jj:Int->List (Nm×Int)->Nm->Int
 |_,[],_=>0
 |at',(x,n)::r,name=>if x=name then at' else Jj (at'+n) r name
structure il where
 code:Int
 scalars:Int
 ba:Int
def Rq(vars:List Nm)(ba:List (Nm×Int))(fs:List yb)(o:il)(own:Nm):CC:=
 ⟨λs=>itoa (Gy (je vars fs) o.scalars (Vu (je vars fs) own s)),λs=>itoa (Jj o.ba ba s),itoa o.scalars,itoa (o.scalars+1),itoa (o.scalars+2)⟩
def Sk(c:CC)(n:Nat)(f:yb):List Wd×Nat:=
 ([[102,95]++f.name++[58]]++f.params.reverse.flatMap (λp=>[c.sc p,[33]])++(Pa c n f.body).1++[[48],[59]],(Pa c n f.body).2)
def Rc(cc:Nm->CC):Nat->List yb->List Wd×Nat
 |n,[]=>([],n)
 |n,f::l=>((Sk (cc f.name) n f).1++(Rc cc (Sk (cc f.name) n f).2 l).1,(Rc cc (Sk (cc f.name) n f).2 l).2)
def PC(vars:List Nm)(ba:List (Nm×Int))(fs:List yb)(o:il):List Wd:=
 [[38,102,95,109,97,105,110],[58],itoa o.scalars,[33],[36]]++(Rc (Rq vars ba fs o) 0 fs).1
def yI(a n:Int):Bool:=decide (0<=a/\a<=262144-n)
def kI(a n b m:Int):Bool:=decide (0<n/\0<m/\a<b+m/\b<a+n)
def Ls(vars:List Nm)(ba:List (Nm×Int))(fs:List yb)(o:il):Bool:=
 let total:=(ba.map (·.2)).sum
 let n:Int:=3+(je vars fs).length
 yI o.scalars n && yI o.code 40000 && yI o.ba total && !kI o.code 40000 o.scalars n && !kI o.ba total o.scalars n && !kI o.ba total o.code 40000
def Uk(vars:List Nm)(ba:List (Nm×Int))(fs:List yb)(o:il):Except Int Wd:=
 if Ws vars ba fs≠0 then .error (Ws vars ba fs)
 else if Ls vars ba fs o=false then .error 2
 else match Th (join (PC vars ba fs o) [32]) o.code with
  |.error e=>.error e.2
  |.ok _=>.ok (join (PC vars ba fs o) [32])
def Lt(v:Nat):Prop:=v<4294967296
mutual
def fj:Ex->Prop
 |.mk op num name args=>Lt num/\ml args
def ml:List Ex->Prop
 |[]=>True
 |x::l=>fj x/\ml l
end
mutual
def aq:Sm->Prop
 |.mk kind name index value Ua Bb=>ml index/\ml value/\Bj Ua/\Bj Bb
def Bj:List Sm->Prop
 |[]=>True
 |x::l=>aq x/\Bj l
end
theorem Q1{vars ba later:List Nm}:∀ (fs:List yb) (known:List ye),cu vars ba later known fs=0->∀ f∈fs,(f.params++f.locals).Nodup/\∀ x∈f.params++f.locals,x ∉ vars++ba++later
 |[],known,_,f,hf=>(not_mem_nil hf).elim
 |g::l,known,h,f,hf=>by rw[cu] at h;obtain⟨h1,h2⟩:=Tc.1 h;rcases Dc.1 hf with rfl|hf;obtain⟨g1,g2⟩:=Nw _ _ (Tc.1 h1).1;exact⟨g1,λx hx=>(g2 x hx).1⟩;exact Q1 l _ h2 f hf
theorem qnx{A B:Type}{g:A->B}(hg:∀ x y,g x=g y->x=y):∀ {l:List A},l.Nodup->(l.map g).Nodup
 |[],_=>nodup_nil
 |a::l,h=>by rw[nodup_cons] at h;rw[yd,nodup_cons];refine⟨λhm=>?_,qnx hg h.2⟩;obtain⟨b,hb,he⟩:=Ni hm;exact h.1 (hg _ _ he▸hb)
theorem quG{fs:List yb}:(fs.map (·.name)).Nodup->(∀ f∈fs,(46:UInt8) ∉ f.name)->(∀ f∈fs,(f.params++f.locals).Nodup)->((fs.map λf=>(f.params++f.locals).map λx=>f.name++[46]++x).flatten).Nodup:=by
 induction fs with
 |nil=>intro _ _ _;exact nodup_nil
 |cons f l ih=>
  intro h1 h2 h3;rw[yd,nodup_cons] at h1;rw[yd,List.flatten_cons,List.nodup_append];refine⟨?_,ih h1.2 (λg hg=>h2 g (Oc _ hg)) λg hg=>h3 g (Oc _ hg),?_⟩;exact qnx (λx y W5=>List.append_cancel_left W5) (h3 f Qe);intro a ha b hb he;subst he;obtain⟨x,_,rfl⟩:=Ni ha;obtain⟨L,g1,g2⟩:=List.mem_flatten.1 hb;obtain⟨g,g3,rfl⟩:=Ni g1;obtain⟨y,_,g5⟩:=Ni g2;have g6:g.name++46::y=f.name++46::x:=by simpa using g5
  obtain⟨e1,_⟩:=S2 _ _ _ _ (h2 g (Oc _ g3)) (h2 f Qe) g6;exact h1.1 (jl ⟨g,g3,e1⟩)
theorem qss(h:yp [] (vars++ba++fs.map (·.name))=0)(hf:cu vars ba (fs.map (·.name)) [] fs=0):(je vars fs).Nodup:=by obtain⟨h1,h2⟩:=Nw _ _ h;have ho:=Q1 fs [] hf;unfold je;rw[List.nodup_append];refine⟨(On (On h1).1).1,quG (On h1).2.1 (λf hf=>KU (h2 _ (zq (.inr (jl ⟨f,hf,rfl⟩)))).2) λf hf=>(ho f hf).1,?_⟩;intro a ha b hb he;subst he;obtain⟨L,g1,g2⟩:=List.mem_flatten.1 hb;obtain⟨g,g3,rfl⟩:=Ni g1;obtain⟨y,_,g5⟩:=Ni g2;have:=KU (h2 _ (zq (.inl (zq (.inl ha))))).2;rw[<-g5] at this;exact absurd (by simp) this
def nK(fs:List yb)(known:List ye):Prop:=∀ k∈known,∃ g∈fs,g.name=k.name/\g.params.length=k.params
theorem qlm{vars ba later:List Nm}{all:List yb}:∀ (fs:List yb) (known:List ye),cu vars ba later known fs=0->nK all known->(∀ f∈fs,f∈all)->∀ f∈fs,∃ kn,mi (Bg vars ba later kn f) f.body=0/\nK all kn
 |[],known,_,_,_,f,hf=>(not_mem_nil hf).elim
 |g::l,known,h,hk,ha,f,hf=>by rw[cu] at h;obtain⟨h1,h2⟩:=Tc.1 h;rcases Dc.1 hf with rfl|hf;exact⟨known,(Tc.1 h1).2,hk⟩;refine qlm l _ h2 (λk Dp=>?_) (λx hx=>ha x (Oc _ hx)) f hf;rcases xj Dp with g1|g1;exact hk k g1;rw[aj g1];exact⟨g,ha g Qe,rfl,rfl⟩
theorem qkB:∀ (l:List Int) (t:Int),0<=t->iG t l=0->∀ n∈l,0<n/\t+n<=150000
 |[],t,_,_,n,hn=>(not_mem_nil hn).elim
 |a::l,t,ht,h,n,hn=>by rw[iG] at h;split at h;cases h;split at h;cases h;rcases Dc.1 hn with rfl|hn;constructor <;> omega;have:=qkB l (t+a) ga h n hn;constructor <;> omega
structure Valid(p:Pr):Prop where
 names:yp [] (p.vars++p.ba.map (·.name)++p.funcs.map (·.name))=0
 sy:∀ a∈p.ba,0<a.size/\a.size<=150000
 own:∀ f∈p.funcs,(f.params++f.locals).Nodup/\∀ x∈f.params++f.locals,x ∉ p.vars++p.ba.map (·.name)++p.funcs.map (·.name)
 Rx:∀ f∈p.funcs,∃ kn,mi (Bg p.vars (p.ba.map (·.name)) (p.funcs.map (·.name)) kn f) f.body=0/\nK p.funcs kn
 keys:(je p.vars p.funcs).Nodup
 main:Tg p∈p.funcs/\(Tg p).name=[109,97,105,110]/\(Tg p).params=[]
 LA:(je p.vars p.funcs).length<=8000
theorem BI{p:Pr}(h:Lq p=0):Valid p:=by
 unfold Lq Ws at h;have e1:(p.ba.map λa=>(a.name,(a.size:Int))).map (·.1)=p.ba.map (·.name):=by rw[map_map];try rfl
 rw[e1] at h;obtain⟨h1,h⟩:=Tc.1 h;obtain⟨h2,h⟩:=Tc.1 h;obtain⟨h3,h4⟩:=Tc.1 h;have hm:Tg p∈p.funcs/\(Tg p).name=[109,97,105,110]/\(Tg p).params=[]/\(je p.vars p.funcs).length<=8000:=by
  unfold cQ at h4;split at h4
  ·rename_i f m hf GB
   split at h4
   ·rename_i h5
    split at h4
    ·rename_i h6
     have e:Tg p=f:=by unfold Tg;rw[hf];try rfl
     rw[e];exact⟨List.mem_of_getLast? hf,h5.1,h5.2,h6.1⟩
    cases h4
   cases h4
  cases h4
 refine⟨h1,λa ha=>?_,Q1 _ _ h3,qlm _ _ h3 (λk hk=>(not_mem_nil hk).elim) λf hf=>hf,qss h1 h3,⟨hm.1,hm.2.1,hm.2.2.1⟩,hm.2.2.2⟩
 have:=qkB _ 0 ea h2 (a.size:Int) (by
  rw[map_map];exact jl ⟨a,ha,rfl⟩)
 constructor <;> omega
section
variable{A B:Type}{Q:A->IS->MS->Prop}{R:B->IS->MS->Prop}{c d c1 d1 c2 d2:Int}{m m1:MS}{s:IS}
end
structure Uf where
 C:PW
 P:Pr
 cc:yb->CC
 ib:yb->Cb
 sa:Nm->Nat
 aa:Nm->Nat
 S:Nat
 fst:yb->Nat
def Uf.keys(X:Uf):List Nm:=je X.P.vars X.P.funcs
def Uf.Data(X:Uf)(x:Nat):Prop:=(∃ k∈X.keys,x=X.sa k)∨(X.S<=x/\x<=X.S+2)∨∃ a∈X.P.ba,∃ i,i<a.size/\x=X.aa a.name+i
structure oe(X:Uf):Prop where
 sc:∀ f∈X.P.funcs,∀ name,du (X.ib f) name=0->(X.cc f).sc name=decDigits (X.sa (jc f name))/\jc f name∈X.keys
 ar:∀ f∈X.P.funcs,∀ name,Xz (X.ib f) name=0->(X.cc f).ar name=decDigits (X.aa name)/\∃ a∈X.P.ba,a.name=name
 qy:∀ f∈X.P.funcs,(X.cc f).t0=decDigits X.S/\(X.cc f).t1=decDigits (X.S+1)/\(X.cc f).t2=decDigits (X.S+2)
 low:∀ x,X.Data x->x<262144
 free:∀ x,X.Data x->x<X.C.og∨X.C.og+(Vl X.C.known X.C.W).length<=x
 cx:∀ k∈X.keys,X.S+3<=X.sa k
 inj:∀ k∈X.keys,∀ k'∈X.keys,X.sa k=X.sa k'->k=k'
 apart:∀ a∈X.P.ba,∀ i,i<a.size->(∀ k∈X.keys,X.sa k≠X.aa a.name+i)/\¬ (X.S<=X.aa a.name+i/\X.aa a.name+i<=X.S+2)
 yE:∀ a∈X.P.ba,∀ b∈X.P.ba,∀ i j,i<a.size->j<b.size->X.aa a.name+i=X.aa b.name+j->a.name=b.name/\i=j
 rz:∀ a∈X.P.ba,X.aa a.name<1000000
 Wt:∀ a∈X.P.ba,∀ b∈X.P.ba,a.name=b.name->a.size=b.size
 body:∀ f∈X.P.funcs,mi (X.ib f) f.body=0/\Bj f.body
 fn:∀ f∈X.P.funcs,∀ name g,(X.ib f).fn name=some g->Xg X.P name∈X.P.funcs/\(Xg X.P name).name=name/\g.params=(Xg X.P name).params.length/\Xl (X.ib (Xg X.P name)) (Xg X.P name).body<=g.need/\Mj (X.ib (Xg X.P name)) (Xg X.P name).body<=g.depth
 A5:∀ f∈X.P.funcs,(∀ p∈f.params,jc f p∈X.keys/\(X.cc f).sc p=decDigits (X.sa (jc f p)))/\(f.params.map (jc f)).Nodup
 code:∀ f∈X.P.funcs,∃ nl,X.C.Code (X.fst f) (Sk (X.cc f) nl f).1
 wA:∀ (j n:Nat),X.C.W[j]? = some (za n++[58])->ya (za n++[58])=some (za n)
 jt:∀ (j n:Nat),X.C.W[j]? = some (38::za n)->Va (38::za n)=some (za n)
 Gj:∀ f∈X.P.funcs,ya ([102,95]++f.name++[58])=some ([102,95]++f.name)
 KA:∀ f∈X.P.funcs,Va ([38,102,95]++f.name)=some ([102,95]++f.name)
 label:∀ (j:Nat) (w x:Wd),X.C.W[j]? = some w->ya w=some x->X.C.known x=X.C.zd j
section
variable{X:Uf}{n:Nat}
theorem nQ(c:CC)(n:Nat)(kind:Int)(name:Nm)(index value:List Ex)(Ua Bb:List Sm):Ig c n (.mk kind name index value Ua Bb) =
  if kind=1 then (Qb c (value.headD default)++[c.sc name,[33]],n)
  else if kind=2 then (Qb c (value.headD default)++c.ar name::(Qb c (index.headD default)++[[43],[33]]),n)
  else if kind=3 then
   (match Bb with
   |[]=>(Qb c (value.headD default)++[38::za n,[63]]++(Pa c (n+1) Ua).1++[za n++[58]],(Pa c (n+1) Ua).2)
   |_::_=>(Qb c (value.headD default)++[38::za n,[63]]++(Pa c (n+2) Ua).1++[[48],38::za (n+1),[63],za n++[58]]++(Pa c (Pa c (n+2) Ua).2 Bb).1++[za (n+1)++[58]],(Pa c (Pa c (n+2) Ua).2 Bb).2))
  else if kind=4 then ([za n++[58]]++Qb c (value.headD default)++[38::za (n+1),[63]]++(Pa c (n+2) Ua).1++[[48],38::za n,[63],za (n+1)++[58]],(Pa c (n+2) Ua).2)
  else if kind=5 then (Qb c (value.headD default)++[[59]],n)
  else if kind=6 then (Qb c (value.headD default)++[c.t0,[33]],n)
  else if kind=7 then ([[36]],n)
  else ([],n):=by
 rw[Ig.eq_def];try rfl
end
theorem V2(all:List Wd):∀ (l:List (Wd×Nat)) (met:List Wd),(Ye all met l).2=0->met.Nodup->(met++Jb (l.map (·.1))).Nodup/\∀ w∈l.map (·.1),Hp all w
 |[],met,_,hm=>by simp only[List.map_nil,Jb,List.filterMap_nil,ue];exact⟨hm,λw hw=>(not_mem_nil hw).elim⟩
 |(w,ln)::r,met,h,hm=>by
  rw[Ye] at h;rw[yd,GG];cases hd:ya w with
  |some x=>
   rw[hd] at h;simp only at h ⊢;split at h;simp at h;rename_i hx;have hn:(met++[x]).Nodup:=List.nodup_append.2 ⟨hm,by simp,λa ha b hb=>by
    rw[aj hb];exact λe=>hx (e▸ha)⟩
   obtain⟨h1,h2⟩:=V2 all r (met++[x]) h hn;refine⟨by rw[Yc] at h1;exact h1,λy hy=>?_⟩;rcases Dc.1 hy with rfl|hy;unfold Hp;rw[hd];trivial
   exact h2 y hy
  |none=>
   rw[hd] at h;simp only at h ⊢;have key:Hp all w/\(Ye all met r).2=0:=by
    unfold Hp;rw[hd];cases hr:Va w with
    |some x=>rw[hr] at h;simp only at h ⊢;split at h;rename_i hx;exact⟨hx,h⟩;simp at h
    |none=>rw[hr] at h;simp only at h ⊢;split at h;rename_i hx;exact⟨hx,h⟩;simp at h
   obtain⟨h1,h2⟩:=V2 all r met key.2 hm;refine⟨by simpa using h1,λy hy=>?_⟩;rcases Dc.1 hy with rfl|hy;exact key.1;exact h2 y hy
theorem bV{src:Wd}(h:(Ye (Jb (vk src)) [] (Tv src)).2=0):yu (vk src):=by have:=V2 _ _ _ h nodup_nil;rw[SK,nil_append] at this;exact this
theorem qlP(known:Wd->Nat)(og:Nat){p:Wd×Nat}:∀ (l:List Wd) (s:Wd×List (Wd×Nat)),p∈s.2->p∈(l.foldl (dh known og) s).2
 |[],s,h=>h
 |w::l,s,h=>by rw[foldl_cons];refine qlP known og l _ ?_;unfold dh;split;exact zq (.inl h);exact h
theorem qq1(known:Wd->Nat)(og:Nat){w x:Wd}(hd:ya w=some x):∀ (l:List Wd) (s:Wd×List (Wd×Nat)) (j:Nat),l[j]? = some w->(x,og+((l.take j).foldl (Ee known) s.1).length)∈(l.foldl (dh known og) s).2
 |[],s,j,h=>by simp at h
 |v::l,s,0,h=>by simp only[Jl,Ym] at h;subst h;rw[foldl_cons];refine qlP known og l _ ?_;unfold dh;rw[hd];simp
 |v::l,s,j+1,h=>by
  rw[Bs] at h;have ih:=qq1 known og hd l (dh known og s v) j h;have e:(dh known og s v).1=Ee known s.1 v:=by
   unfold dh;cases hv:ya v with
   |some y=>simp only;unfold Ee;rw[hv]
   |none=>rfl
  rw[e] at ih;rw[foldl_cons,take_succ_cons,foldl_cons];exact ih
theorem qnz:∀ (ub:List (Wd×Nat)) (x:Wd) (n:Nat),(ub.map (·.1)).Nodup->(x,n)∈ub->lp ub x=n
 |[],x,n,_,h=>(not_mem_nil h).elim
 |(y,k)::l,x,n,hn,h=>by rw[yd,nodup_cons] at hn;unfold lp;rw[List.find?_cons];rcases Dc.1 h with h|h;injection h with h1 h2;subst h1 h2;simp;have xb:y≠x:=λe=>hn.1 (jl ⟨(x,n),h,by simp[e]⟩);simp only[xb,decide_false];exact qnz l x n hn.2 h
theorem qol{W:List Wd}(og:Nat)(hn:(Jb W).Nodup)(he:∀ w∈W,w≠[])(hw:W[j]? = some w)(hd:ya w=some x) :
  lp (Dq (λ_=>0) og W) x=PW.zd ⟨W,og,lp (Dq (λ_=>0) og W)⟩ j:=by
 generalize hk:lp (Dq (λ_=>0) og W)=known;have h1:=qq1 known og hd W ([],[]) j hw;have h2:Dq (λ_=>0) og W=Dq known og W:=qn6 _ _ og W he;rw[<-hk,h2];refine qnz _ _ _ ?_ ?_;have:=B4 known og W ([],[]);unfold Dq;rw[this];simpa using hn;rw[<-h2,hk];rw[h2];exact h1
theorem qtm(h:Sv x=true):x≠[]/\∀ c r,x=c::r->Ml c=true:=by
 unfold Sv at h;cases x with
 |nil=>cases h
 |cons c r=>simp only[Ed] at h;exact⟨by simp,λc' r' e=>by injection e with e1 _;rw[<-e1];exact h.1.2⟩
theorem eZ{ds:List Wd}(h:Hp ds (c::x++[58]))(h1:c≠38)(h2:tB.contains c=false):ya (c::x++[58])=some (c::x):=by
 cases hd:ya (c::x++[58]) with
 |some y=>unfold ya at hd;split at hd;injection hd with hd;rw[<-hd,List.dropLast_concat];cases hd
 |none=>
  exfalso;unfold Hp at h;rw[hd] at h;have hr:Va (c::x++[58])=none:=by unfold Va;simp only[cons_append,h1,false_and,if_false]
  rw[hr] at h;simp only at h;unfold Ay at h;rw[cons_append,all_cons,h2] at h;cases h
theorem N9{ds:List Wd}(h:Hp ds (38::x)):Va (38::x)=some x:=by
 have hd:ya (38::x)=none:=by
  unfold ya;split;rename_i h1;exfalso;cases x with
  |nil=>exact absurd h1.1 ea
  |cons c r=>have:=(qtm h1.2).2 38 _ (List.dropLast_cons_cons ..);exact absurd this ea
  rfl
 cases hr:Va (38::x) with
 |some y=>unfold Va at hr;simp only[true_and] at hr;split at hr;injection hr with hr;rw[<-hr];cases hr
 |none=>exfalso;unfold Hp at h;rw[hd,hr] at h;simp only at h;unfold Ay at h;rw[all_cons,show tB.contains 38=false by decide,wj] at h;cases h
theorem qzc(h:ya (x++[58])=some x):Va (38::x)=some x:=by unfold ya at h;split at h;rename_i h1;rw[List.dropLast_concat] at h1;unfold Va;simp only[true_and,h1.2,if_true];cases h
def Mv(n:Nat):Prop:=n<=2000000
mutual
def L9:Ex->Prop
 |.mk op num name args=>Mv args.length/\nC args
def nC:List Ex->Prop
 |[]=>True
 |x::l=>L9 x/\nC l
end
mutual
def K9:Sm->Prop
 |.mk kind name index value Ua Bb=>Mv index.length/\Mv value.length/\Mv Ua.length/\Mv Bb.length/\nC index/\nC value/\lC Ua/\lC Bb
def lC:List Sm->Prop
 |[]=>True
 |x::l=>K9 x/\lC l
end
structure tU(f:yb):Prop where
 params:Mv f.params.length
 locals:Mv f.locals.length
 body:Mv f.body.length
 stmts:lC f.body
mutual
def Zl:Ex->Nat
 |.mk op num name args=>1+Vb args
def Vb:List Ex->Nat
 |[]=>0
 |x::l=>Zl x+Vb l
end
mutual
def Oq:Sm->Nat
 |.mk kind name index value Ua Bb=>1+(Vb index+Vb value+Td Ua+Td Bb)
def Td:List Sm->Nat
 |[]=>0
 |x::l=>Oq x+Td l
end
def Dr(f:yb):Nat:=1+f.params.length+f.locals.length+Td f.body
def ze:List yb->Nat
 |[]=>0
 |f::l=>Dr f+ze l
theorem wV(x:Ex):1<=Zl x:=by obtain⟨op,num,name,args⟩:=x;rw[Zl];omega
theorem NZ(x:Sm):1<=Oq x:=by obtain⟨k,n,i,v,t,e⟩:=x;rw[Oq];omega
theorem GN:∀ l:List Ex,l.length<=Vb l
 |[]=>Pb _
 |x::l=>by have h1:=wV x;have h2:=GN l;rw[Vb,Ma];omega
theorem KK:∀ l:List Sm,l.length<=Td l
 |[]=>Pb _
 |x::l=>by have h1:=NZ x;have h2:=KK l;rw[Td,Ma];omega
theorem OV:∀ l:List yb,l.length<=ze l
 |[]=>Pb _
 |x::l=>by have h2:=OV l;rw[ze,Ma];unfold Dr;omega
theorem fW:∀ {l:List yb} {f:yb},f∈l->Dr f<=ze l
 |g::l,f,h=>by rw[ze];rcases Dc.1 h with rfl|h;omega;have:=fW h;omega
theorem Y0:∀ {l:List Ex} {f:Ex},f∈l->Zl f<=Vb l
 |g::l,f,h=>by rw[Vb];rcases Dc.1 h with rfl|h;omega;have:=Y0 h;omega
mutual
theorem qBk:∀ x:Ex,Zl x<=2000000->L9 x
 |.mk op num name args,h=>by rw[Zl] at h;have:=GN args;exact⟨show args.length<=2000000 by omega,rV args ga⟩
theorem rV:∀ l:List Ex,Vb l<=2000000->nC l
 |[],_=>trivial
 |x::l,h=>by rw[Vb] at h;exact⟨qBk x ga,rV l ga⟩
end
mutual
theorem qBr:∀ x:Sm,Oq x<=2000000->K9 x
 |.mk k n i v t e,h=>by rw[Oq] at h;have h1:=GN i;have h2:=GN v;have h3:=KK t;have h4:=KK e;exact⟨show i.length<=2000000 by omega,show v.length<=2000000 by omega,show t.length<=2000000 by omega,show e.length<=2000000 by omega,rV i ga,rV v ga,EV t ga,EV e ga⟩
theorem EV:∀ l:List Sm,Td l<=2000000->lC l
 |[],_=>trivial
 |x::l,h=>by rw[Td] at h;exact⟨qBr x ga,EV l ga⟩
end
theorem LY(h:Dr f<=2000000):tU f:=by unfold Dr at h;have:=KK f.body;exact⟨show f.params.length<=2000000 by omega,show f.locals.length<=2000000 by omega,show f.body.length<=2000000 by omega,EV _ ga⟩
def nu(B D:Nat)(known:List ye):Prop:=∀ k∈known,k.need<=B/\k.params+1<=B/\k.depth<=D
theorem qpX(B:Nat)(c:Cb):∀ (l:List Ex) (i m:Nat),(∀ x∈l,Sf c x<=4 * Zl x+B)->Mz i (zh c l) m<=max m (4 * Vb l+i+B)
 |[],i,m,_=>by rw[zh,Mz];exact Nat.le_max_left _ _
 |x::l,i,m,h=>by rw[zh,Mz,Vb];have h1:=h x Qe;have h2:=qpX B c l (i+1) (max m (i+Sf c x)) λy hy=>h y (Oc _ hy);have h3:=wV x;omega
mutual
theorem HN(B D:Nat)(c:Cb)(hB:nu B D c.funcs):∀ x:Ex,Sf c x<=4 * Zl x+B
 |.mk op num name args=>by
  rw[Sf,Zl];have ha:=qn3 B D c hB args;have h0:(zh c args).headD 0<=4 * Vb args+B:=by
   cases args with
   |nil=>rw[zh];exact zero_le _
   |cons x l=>have:=ha x Qe;rw[zh,Vb];show Sf c x<=_;omega
  have h1:(zh c args).tail.headD 0<=4 * Vb args+B:=by
   cases args with
   |nil=>rw[zh];exact zero_le _
   |cons x l=>
    cases l with
    |nil=>rw[zh,zh];exact zero_le _
    |cons y l=>have:=ha y (Oc _ Qe);rw[zh,zh,Vb,Vb];show Sf c y<=_;omega
  have hc:aB c name (zh c args)<=4 * (1+Vb args)+B:=by unfold aB;split;omega;split;omega;unfold Cb.fn;split;rename_i k hk;have E7:=hB k (mem_of_find?_eq_some hk);have:=qpX B c args 0 (max (k.params+1) k.need) ha;omega;omega
  unfold UC;split;omega;split;omega;split;exact hc;split;omega;split;omega;split;omega;split;omega;split;omega;omega
theorem qn3(B D:Nat)(c:Cb)(hB:nu B D c.funcs):∀ (l:List Ex),∀ x∈l,Sf c x<=4 * Zl x+B
 |[],x,h=>(not_mem_nil h).elim
 |a::l,x,h=>by rcases Dc.1 h with h1|h1;rw[h1];exact HN B D c hB a;exact qn3 B D c hB l x h1
end
theorem qxz{c:Cb}(hB:nu B D c.funcs)(op name:Nm):Qv c op name<=D+1:=by unfold Qv;split;unfold Cb.fn;split;rename_i k hk;have:=hB k (mem_of_find?_eq_some hk);omega;omega;omega
mutual
theorem oZ(B D:Nat)(c:Cb)(hB:nu B D c.funcs):∀ x:Ex,Hj c x<=D+1
 |.mk op num name args=>by rw[Hj];have h1:=dR B D c hB args;have h2:=qxz hB op name;omega
theorem dR(B D:Nat)(c:Cb)(hB:nu B D c.funcs):∀ l:List Ex,Qi c l<=D+1
 |[]=>zero_le _
 |x::l=>by rw[Qi];have h1:=oZ B D c hB x;have h2:=dR B D c hB l;omega
end
theorem qkj{c:Cb}(hB:nu B D c.funcs)(l:List Ex):Sf c (l.headD default)<=4 * (Vb l+1)+B:=by
 cases l with
 |nil=>
  have:=HN B D c hB (default:Ex);have h1:Zl (default:Ex)=1:=by show Zl (.mk [] 0 [] [])=1;rw[Zl,Vb]
  show Sf c default<=_;rw[Vb];omega
 |cons x l=>have:=HN B D c hB x;show Sf c x<=_;rw[Vb];omega
mutual
theorem qvT(B D:Nat)(c:Cb)(hB:nu B D c.funcs):∀ x:Sm,HE c x<=8 * Oq x+B
 |.mk k n i v t e=>by rw[HE,Oq];have h1:=qkj hB v;have h2:=qkj hB i;have h3:=gR B D c hB t;have h4:=gR B D c hB e;split;omega;split;omega;split;omega;omega
theorem gR(B D:Nat)(c:Cb)(hB:nu B D c.funcs):∀ l:List Sm,Xl c l<=8 * Td l+B
 |[]=>by rw[Xl];exact zero_le _
 |x::l=>by rw[Xl,Td];have h1:=qvT B D c hB x;have h2:=gR B D c hB l;omega
end
mutual
theorem qsM(B D:Nat)(c:Cb)(hB:nu B D c.funcs):∀ x:Sm,Rt c x<=D+1
 |.mk k n i v t e=>by rw[Rt];have h1:=dR B D c hB v;have h2:=dR B D c hB i;have h3:=JK B D c hB t;have h4:=JK B D c hB e;omega
theorem JK(B D:Nat)(c:Cb)(hB:nu B D c.funcs):∀ l:List Sm,Mj c l<=D+1
 |[]=>by rw[Mj];exact zero_le _
 |x::l=>by rw[Mj];have h1:=qsM B D c hB x;have h2:=JK B D c hB l;omega
end
theorem qy7{later:List Nm}{known:List ye}(hB:nu B D known):(Aj vars ba later known f).need<=8 * Dr f+B/\(Aj vars ba later known f).params+1<=8 * Dr f+B/\(Aj vars ba later known f).depth<=D+1:=by have h1:=gR B D (Bg vars ba later known f) hB f.body;have h2:=JK B D (Bg vars ba later known f) hB f.body;unfold Aj Dr;simp only;omega
structure OH(p:Pr)(n:Nat):Prop where
 vars:p.vars.length<=n
 ba:p.ba.length<=n
 size:∀ a∈p.ba,a.size<4294967296
 funcs:ze p.funcs<=n
 jA:∀ f∈p.funcs,Bj f.body
structure Gl(s:MS):Prop where
 mem:∀ i,s.mem i<4294967296
 pc:s.pc<4294967296
 data:∀ v∈s.data,v<4294967296
 calls:∀ v∈s.calls,v<4294967296
 Ia:∀ v∈s.Ia,v<4294967296
 LA:s.data.length<=256
 deep:s.calls.length<=64
theorem Gl.push(h:Gl s)(hv:v<4294967296)(hs:np v s=.run s'):Gl s':=by unfold np at hs;split at hs;rename_i hl;injection hs with hs;subst hs;exact⟨h.mem,h.pc,λx hx=>(Dc.1 hx).elim (λe=>e▸hv) (h.data x),h.calls,h.Ia,by simp only[Ma];omega,h.deep⟩;cases hs
theorem Gl.pop(h:Gl s)(hd:s.data=a::r):a<4294967296/\Gl { s with data:=r }:=by have h1:=h.data;have h2:=h.LA;rw[hd] at h1 h2;exact⟨h1 a Qe,h.mem,h.pc,λx hx=>h1 x (Oc _ hx),h.calls,h.Ia,by simp only[Ma] at h2;show r.length<=256;omega,h.deep⟩
theorem qAS(ha:a<4294967296)(hb:b<4294967296):a ^^^ b<4294967296:=Nat.xor_lt_two_pow (n:=32) ha hb
theorem fV{c:Nat}(ha:a<4294967296)(hb:b<4294967296)(h:Hd c a b=some v):v<4294967296:=by unfold Hd at h;split at h;injection h with h;rw[<-h];exact mod_lt _ ea;split at h;injection h with h;rw[<-h];exact mod_lt _ ea;split at h;injection h with h;rw[<-h];exact mod_lt _ ea;split at h;split at h;cases h;injection h with h;rw[<-h];exact Nat.lt_of_le_of_lt (Nat.div_le_self _ _) ha;split at h;split at h;cases h;rename_i Wf;injection h with h;rw[<-h];exact Nat.lt_trans (mod_lt _ ga) hb;split at h;injection h with h;rw[<-h];exact qAS ha hb;injection h with h;rw[<-h];split <;> decide
theorem qAU{c:Nat}(h:Gl s)(hc:c<4294967296)(hs:fe c s=.run s'):Gl s':=by
 unfold fe at hs;split at hs;rename_i hd;unfold Io at hd;rw[Ed,Rg,Rg] at hd;unfold bG at hs;split at hs;split at hs;rename_i d r vi;injection hs with hs;subst hs;obtain⟨_,h2⟩:=h.pop vi;exact⟨h2.mem,h2.pc,λx hx=>(Dc.1 hx).elim (λe=>by rw[e];exact mod_lt _ ea) (h2.data x),h2.calls,h2.Ia,by have:=h.LA;rw[vi] at this;exact this,h2.deep⟩;cases hs;exact h.push ga hs;split at hs;injection hs with hs;subst hs;exact h;split at hs;unfold XI at hs;split at hs
 rename_i a r hd;split at hs;exact(h.pop hd).2.push (h.mem a) hs;cases hs;cases hs;split at hs;unfold Uq at hs;split at hs;rename_i a v r hd;split at hs;injection hs with hs;subst hs;obtain⟨h1,h2⟩:=h.pop hd;obtain⟨h3,h4⟩:=h2.pop (a:=v) (r:=r) rfl;refine⟨λi=>?_,h4.pc,h4.data,h4.calls,h4.Ia,h4.LA,h4.deep⟩;simp only;split;exact h3;exact h.mem i;cases hs;cases hs;split at hs;unfold Wu at hs;split at hs
 rename_i t v r hd;injection hs with hs;subst hs;obtain⟨h1,h2⟩:=h.pop hd;obtain⟨h3,h4⟩:=h2.pop (a:=v) (r:=r) rfl;refine⟨h4.mem,?_,h4.data,h4.calls,h4.Ia,h4.LA,h4.deep⟩;simp only;split;exact h1;exact h.pc;cases hs;split at hs;unfold YH at hs;split at hs;rename_i t r hd;split at hs;rename_i hl;injection hs with hs;subst hs;obtain⟨h1,h2⟩:=h.pop hd;exact⟨h2.mem,h1,h2.data,λx hx=>(Dc.1 hx).elim (λe=>e▸h.pc) (h.calls x),h2.Ia,h2.LA,by simp only[Ma];omega⟩;cases hs;cases hs;split at hs;unfold Vx at hs;split at hs
 rename_i t r hd;injection hs with hs;subst hs;have h1:=h.calls;have h2:=h.deep;rw[hd] at h1 h2;exact⟨h.mem,h1 t Qe,h.data,λx hx=>h1 x (Oc _ hx),h.Ia,h.LA,by simp only[Ma] at h2;show r.length<=64;omega⟩;cases hs;split at hs;unfold NM at hs;split at hs
 rename_i v r hi;have h1:=h.Ia;rw[hi] at h1;have h2:Gl { s with Ia:=r }:=⟨h.mem,h.pc,h.data,h.calls,λx hx=>h1 x (Oc _ hx),h.LA,h.deep⟩;exact h2.push (h1 v Qe) hs;exact h.push ea hs;split at hs;unfold RF at hs;split at hs
 rename_i v r hd;injection hs with hs;subst hs;obtain⟨h1,h2⟩:=h.pop hd;exact⟨h2.mem,h2.pc,h2.data,h2.calls,h2.Ia,h2.LA,h2.deep⟩;cases hs;split at hs;cases hs;split at hs;unfold YE at hs;split at hs;rename_i b a r hd;obtain⟨h1,h2⟩:=h.pop hd;obtain⟨h3,h4⟩:=h2.pop (a:=a) (r:=r) rfl;split at hs;rename_i v hv;exact h4.push (fV h3 h1 hv) hs;cases hs;cases hs;cases hs
theorem qAg(code:Wd)(og i:Nat):bu code og i<4294967296:=by unfold bu;split;split;rename_i c _;have:=c.toNat_lt;omega;decide;decide
section
variable(vars ba later:List Nm)
def bw:List ye->List yb->yb->List ye
 |known,[],f=>known
 |known,g::l,f=>if g.name=f.name then known else bw (known++[Aj vars ba later known g]) l f
end
section
variable{vars ba later:List Nm}
theorem XY:∀ (fs:List yb) (known:List ye),cu vars ba later known fs=0->(fs.map (·.name)).Nodup->∀ f∈fs,mi (Bg vars ba later (bw vars ba later known fs f) f) f.body=0
 |[],known,_,_,f,hf=>(not_mem_nil hf).elim
 |g::l,known,h,hn,f,hf=>by rw[cu] at h;obtain⟨h1,h2⟩:=Tc.1 h;rw[yd,nodup_cons] at hn;rw[bw];rcases Dc.1 hf with rfl|hf;rw[zp rfl];exact(Tc.1 h1).2;rw[zn (λe=>hn.1 (jl ⟨f,hf,e.symm⟩))];exact XY l _ h2 hn.2 f hf
theorem OY:∀ (fs:List yb) (known:List ye),(fs.map (·.name)).Nodup->∀ f∈fs,∀ k∈bw vars ba later known fs f,k∈known∨∃ g∈fs,k=Aj vars ba later (bw vars ba later known fs g) g
 |[],known,_,f,hf,k,hk=>(not_mem_nil hf).elim
 |g::l,known,hn,f,hf,k,hk=>by rw[yd,nodup_cons] at hn;rw[bw] at hk;rcases Dc.1 hf with rfl|hf;rw[zp rfl] at hk;exact .inl hk;rw[zn (λe=>hn.1 (jl ⟨f,hf,e.symm⟩))] at hk;rcases OY l _ hn.2 f hf k hk with h|⟨x,h1,h2⟩;rcases xj h with h|h;exact .inl h;refine .inr ⟨g,mem_cons_self ..,?_⟩;rw[bw,zp rfl];exact aj h;refine .inr ⟨x,Oc _ h1,?_⟩;rw[bw,zn (λe=>hn.1 (jl ⟨x,h1,e.symm⟩))];exact h2
theorem qow:∀ (fs:List yb) (known:List ye),(fs.map (·.name)).Nodup->yC vars ba later known fs=known++fs.map λg=>Aj vars ba later (bw vars ba later known fs g) g
 |[],known,_=>by simp[yC]
 |g::l,known,hn=>by rw[yd,nodup_cons] at hn;rw[yC,qow l _ hn.2,yd,Yc];congr 1;rw[List.singleton_append];congr 1;rw[bw,zp rfl];refine List.map_congr_left λx hx=>?_;rw[bw,zn (λe=>hn.1 (jl ⟨x,hx,e.symm⟩))]
theorem W0(known:List ye)(f:yb):Xl (Bg vars ba later known f) f.body<=(Aj vars ba later known f).need/\Mj (Bg vars ba later known f) f.body<=(Aj vars ba later known f).depth:=⟨Nat.le_max_right _ _,Nat.le_max_right _ _⟩
end
def GH(cc:Nm->CC):Nat->Nat->List yb->yb->Nat
 |_,i,[],_=>i
 |n,i,g::l,f=>if g.name=f.name then i else GH cc (Sk (cc g.name) n g).2 (i+(Sk (cc g.name) n g).1.length) l f
theorem qu7{C:PW}{cc:Nm->CC}:∀ (fs:List yb) (n i:Nat),C.Code i (Rc cc n fs).1->(fs.map (·.name)).Nodup->∀ f∈fs,∃ nl,C.Code (GH cc n i fs f) (Sk (cc f.name) nl f).1
 |[],n,i,_,_,f,hf=>(not_mem_nil hf).elim
 |g::l,n,i,h,hn,f,hf=>by rw[yd,nodup_cons] at hn;rw[Rc] at h;obtain⟨h1,h2⟩:=h.app;rw[GH];rcases Dc.1 hf with rfl|hf;rw[zp rfl];exact⟨n,h1⟩;rw[zn (λe=>hn.1 (jl ⟨f,hf,e.symm⟩))];exact qu7 l _ _ h2 hn.2 f hf
theorem qpW(W:List Wd)(og:Nat)(known:Wd->Nat):PW.Code ⟨W,og,known⟩ 0 W:=λk hk=>by rw[zero_add];exact Yh hk
def Lg:List Ar->Nm->Nat
 |[],_=>0
 |a::l,x=>if a.name=x then 0 else a.size+Lg l x
def Dk(l:List Ar):Nat:=(l.map (·.size)).sum
theorem NQ(l:List Ar):((l.map λa=>(a.name,(a.size:Int))).map (·.2)).sum=((Dk l:Nat):Int):=by
 unfold Dk;induction l with
 |nil=>rfl
 |cons a l ih=>simp only[yd,List.sum_cons] at ih ⊢;rw[ih];omega
theorem qrb:∀ (l:List Ar) (at':Int) (a:Ar),a∈l->Jj at' (l.map λa=>(a.name,(a.size:Int))) a.name=at'+(Lg l a.name:Nat)
 |[],at',a,h=>(not_mem_nil h).elim
 |b::l,at',a,h=>by rw[yd,Jj,Lg];by_cases he:b.name=a.name;rw[zp he,zp he];simp;rw[zn he,zn he];rcases Dc.1 h with rfl|h;exact absurd rfl he;rw[qrb l _ a h];omega
theorem aN:∀ (l:List Ar),(l.map (·.name)).Nodup->∀ a∈l,Lg l a.name+a.size<=Dk l
 |[],_,a,h=>(not_mem_nil h).elim
 |b::l,hn,a,h=>by
  rw[yd,nodup_cons] at hn;have ht:Dk (b::l)=b.size+Dk l:=by simp[Dk]
  rw[Lg,ht];rcases Dc.1 h with rfl|h;rw[zp rfl];omega;rw[zn (λe=>hn.1 (jl ⟨a,h,e.symm⟩))];have:=aN l hn.2 a h;omega
theorem qok:∀ (l:List Ar),(l.map (·.name)).Nodup->∀ a∈l,∀ b∈l,a.name≠b.name->Lg l a.name+a.size<=Lg l b.name∨Lg l b.name+b.size<=Lg l a.name
 |[],_,a,h,_,_,_=>(not_mem_nil h).elim
 |x::l,hn,a,ha,b,hb,xb=>by rw[yd,nodup_cons] at hn;rw[Lg,Lg];rcases Dc.1 ha with rfl|ha;rw[zp rfl,zn xb];left;omega;rw[zn (λe=>hn.1 (jl ⟨a,ha,e.symm⟩))];rcases Dc.1 hb with rfl|hb;rw[zp rfl];right;omega;rw[zn (λe=>hn.1 (jl ⟨b,hb,e.symm⟩))];rcases qok l hn.2 a ha b hb xb with h|h;left;omega;right;omega
theorem qxg{l:List Ar}(h:(l.map (·.name)).Nodup){a b:Ar}(ha:a∈l)(hb:b∈l)(he:a.name=b.name):a=b:=by
 induction l with
 |nil=>cases ha
 |cons x l ih=>rw[yd,nodup_cons] at h;rcases Dc.1 ha with rfl|Wm;rcases Dc.1 hb with rfl|zT;rfl;exact absurd (jl ⟨b,zT,he.symm⟩) h.1;rcases Dc.1 hb with rfl|zT;exact absurd (jl ⟨a,Wm,he⟩) h.1;exact ih h.2 Wm zT
def vf(P:Pr):List (Nm×Int):=P.ba.map λa=>(a.name,(a.size:Int))
def fh(P:Pr)(o:il):List Wd:=PC P.vars (vf P) P.funcs o
def bI(P:Pr)(o:il):Wd->Nat:=lp (Dq (λ_=>0) o.code.toNat (fh P o))
def bj(P:Pr)(o:il):Uf where
 C:=⟨fh P o,o.code.toNat,bI P o⟩
 P:=P
 cc:=λf=>Rq P.vars (vf P) P.funcs o f.name
 ib:=λf=>Bg P.vars (P.ba.map (·.name)) (P.funcs.map (·.name)) (bw P.vars (P.ba.map (·.name)) (P.funcs.map (·.name)) [] P.funcs f) f
 sa:=λk=>o.scalars.toNat+3+(je P.vars P.funcs).idxOf k
 aa:=λn=>o.ba.toNat+Lg P.ba n
 S:=o.scalars.toNat
 fst:=GH (Rq P.vars (vf P) P.funcs o) 0 5 P.funcs
theorem Iw{z:Int}(h:0<=z):itoa z=decDigits z.toNat:=by unfold itoa;rw[zn (by omega)]
structure iy(P:Pr)(o:il):Prop where
 s0:0<=o.scalars
 c0:0<=o.code
 a0:0<=o.ba
 s1:o.scalars.toNat+3+(je P.vars P.funcs).length<=262144
 c1:o.code.toNat+40000<=262144
 a1:o.ba.toNat+Dk P.ba<=262144
 cs:o.scalars.toNat+3+(je P.vars P.funcs).length<=o.code.toNat∨o.code.toNat+40000<=o.scalars.toNat
 asA:0<Dk P.ba->o.scalars.toNat+3+(je P.vars P.funcs).length<=o.ba.toNat∨o.ba.toNat+Dk P.ba<=o.scalars.toNat
 ac:0<Dk P.ba->o.code.toNat+40000<=o.ba.toNat∨o.ba.toNat+Dk P.ba<=o.code.toNat
theorem NE{P:Pr}{o:il}(h:Ls P.vars (vf P) P.funcs o=true):iy P o:=by unfold Ls yI kI at h;simp only[Ed,Bool.not_eq_true',Rg,decide_eq_false_iff_not] at h;have ht:((vf P).map (·.2)).sum=((Dk P.ba:Nat):Int):=NQ P.ba;rw[ht] at h;obtain⟨⟨⟨⟨⟨h1,h2⟩,h3⟩,h4⟩,h5⟩,h6⟩:=h;constructor <;> omega
section
variable{P:Pr}{o:il}
theorem qAI(hv:Valid P)(hf:iy P o)(hm:f∈P.funcs)(name:Nm)(hk:jc f name∈je P.vars P.funcs):((bj P o).cc f).sc name=decDigits ((bj P o).sa (jc f name)):=by show itoa (Gy (je P.vars P.funcs) o.scalars (Vu (je P.vars P.funcs) f.name name))=_;have h1:Vu (je P.vars P.funcs) f.name name=jc f name:=qBZ hv.names hm name;have h2:=hf.s0;rw[h1];unfold Gy;rw[zp hk,Iw (by omega)];show _=decDigits (o.scalars.toNat+3+_);congr 1;omega
theorem BK{l:List Nm}{k:Nm}(h:k∈l):l.idxOf k<l.length:=List.idxOf_lt_length_of_mem h
theorem qzZ{l:List Nm}{k k':Nm}(h:k∈l)(h':k'∈l)(he:l.idxOf k=l.idxOf k'):k=k':=by
 have h1:l[l.idxOf k]? = some k:=by rw[Yh (BK h),List.getElem_idxOf]
 have h2:l[l.idxOf k']? = some k':=by rw[Yh (BK h'),List.getElem_idxOf]
 rw[he,h2] at h1;injection h1 with h1;exact h1.symm
theorem qAJ(hc:Lq P=0)(lc:∀ f∈P.funcs,Bj f.body)(Ge:Ls P.vars (vf P) P.funcs o=true)(Rk:yu (fh P o))(xb:∀ w∈fh P o,w≠[])(ma:(Vl (bI P o) (fh P o)).length<=40000):oe (bj P o):=by
 have hv:=BI hc;have hF:=NE Ge;have Hn:=(Nw _ _ hv.names).1;have ed:(P.funcs.map (·.name)).Nodup:=(On Hn).2.1;have PB:(P.ba.map (·.name)).Nodup:=(On (On Hn).1).2.1;have tm:cu P.vars (P.ba.map (·.name)) (P.funcs.map (·.name)) [] P.funcs=0:=by
  unfold Lq Ws at hc;have e1:(P.ba.map λa=>(a.name,(a.size:Int))).map (·.1)=P.ba.map (·.name):=by rw[map_map];try rfl
  rw[e1] at hc;exact(Tc.1 (Tc.1 (Tc.1 hc).2).2).1
 obtain⟨s0,c0,a0,s1,c1,a1,cs,U8,ac⟩:=hF;have hF:iy P o:=⟨s0,c0,a0,s1,c1,a1,cs,U8,ac⟩;have Ef:∀ f∈P.funcs,∃ nl,(bj P o).C.Code ((bj P o).fst f) (Sk ((bj P o).cc f) nl f).1:=λf hf=>by have h1:PW.Code (bj P o).C 0 ([[38,102,95,109,97,105,110],[58],itoa o.scalars,[33],[36]]++(Rc (Rq P.vars (vf P) P.funcs o) 0 P.funcs).1):=qpW _ _ _;exact qu7 P.funcs 0 5 h1.app.2 ed f hf
 have pi:∀ {j:Nat} {w:Wd},(fh P o)[j]? = some w->Hp (Jb (fh P o)) w:=λh=>Rk.2 _ (List.mem_of_getElem? h)
 have wJ:∀ f∈P.funcs,ya ([102,95]++f.name++[58])=some ([102,95]++f.name):=λf hf=>by
  obtain⟨nl,h⟩:=Ef f hf;unfold Sk at h;simp only[List.singleton_append,cons_append,Yc] at h;have h1:(fh P o)[(bj P o).fst f]? = some (102::(95::f.name)++[58]):=by have h0:=h.cons.1;simp only[Yc,cons_append,nil_append] at h0 ⊢;exact h0
  have h2:=eZ (pi h1) ea ea;simpa using h2
 refine⟨λf hf name h=>?_,λf hf name h=>?_,λf hf=>?_,λx hx=>?_,λx hx=>?_,λk hk=>?_,λk hk k' Dp h=>?_,λa ha i hi=>?_,λa ha b hb i j hi hj h=>?_,λa ha=>?_,λa ha b hb h=>?_,λf hf=>⟨XY _ _ tm ed f hf,lc f hf⟩,λf hf name g h=>?_,λf hf=>?_,Ef,λj n h=>?_,λj n h=>?_,wJ,λf hf=>qzc (wJ f hf),λj w x hw hd=>?_⟩;have hk:jc f name∈je P.vars P.funcs:=qsd hf h;exact⟨qAI hv hF hf name hk,hk⟩;unfold Xz at h;split at h
 rename_i hm;obtain⟨a,h1,h2⟩:=Ni (show name∈P.ba.map (·.name) from hm);refine⟨?_,a,h1,h2⟩;show itoa (Jj o.ba (vf P) name)=decDigits (o.ba.toNat+Lg P.ba name);rw[<-h2];unfold vf;rw[qrb _ _ _ h1,Iw (by omega)];congr 1;omega;split at h <;> cases h;show itoa o.scalars=decDigits o.scalars.toNat/\itoa (o.scalars+1)=decDigits (o.scalars.toNat+1)/\itoa (o.scalars+2)=decDigits (o.scalars.toNat+2);rw[Iw s0,Iw (by omega),Iw (by omega)];exact⟨rfl,by congr 1;omega,by congr 1;omega⟩;rcases hx with⟨k,hk,rfl⟩|hx|⟨a,ha,i,hi,rfl⟩;have h1:(je P.vars P.funcs).idxOf k<_:=BK hk;show o.scalars.toNat+3+(je P.vars P.funcs).idxOf k<262144;omega;have h1:o.scalars.toNat<=x/\x<=o.scalars.toNat+2:=hx;omega;have h1:=aN _ PB a ha;show o.ba.toNat+Lg P.ba a.name+i<262144;omega;show x<o.code.toNat∨o.code.toNat+(Vl (bI P o) (fh P o)).length<=x;rcases hx with⟨k,hk,rfl⟩|hx|⟨a,ha,i,hi,rfl⟩;have h1:(je P.vars P.funcs).idxOf k<_:=BK hk;show o.scalars.toNat+3+(je P.vars P.funcs).idxOf k<_∨_<=o.scalars.toNat+3+(je P.vars P.funcs).idxOf k;omega;have h1:o.scalars.toNat<=x/\x<=o.scalars.toNat+2:=hx;omega;have h1:=aN _ PB a ha;have h2:=ac (by have:i<a.size:=hi;omega);have h3:i<a.size:=hi;show o.ba.toNat+Lg P.ba a.name+i<_∨_<=o.ba.toNat+Lg P.ba a.name+i;omega;exact Nat.le_add_right _ _;have h1:o.scalars.toNat+3+(je P.vars P.funcs).idxOf k=o.scalars.toNat+3+(je P.vars P.funcs).idxOf k':=h;have h2:(je P.vars P.funcs).idxOf k=(je P.vars P.funcs).idxOf k':=by omega
 exact qzZ hk Dp h2;have h1:=aN _ PB a ha;have h2:=U8 ga;refine⟨λk hk=>?_,?_⟩;have h3:(je P.vars P.funcs).idxOf k<_:=BK hk;show o.scalars.toNat+3+(je P.vars P.funcs).idxOf k≠o.ba.toNat+Lg P.ba a.name+i;omega;show ¬ (o.scalars.toNat<=o.ba.toNat+Lg P.ba a.name+i/\o.ba.toNat+Lg P.ba a.name+i<=o.scalars.toNat+2);omega;have h:o.ba.toNat+Lg P.ba a.name+i=o.ba.toNat+Lg P.ba b.name+j:=h
 by_cases he:a.name=b.name;rw[he] at h;exact⟨he,by omega⟩;rcases qok _ PB a ha b hb he with h1|h1;omega;omega;have h1:=aN _ PB a ha;show o.ba.toNat+Lg P.ba a.name<1000000;omega;rw[qxg PB ha hb h]
 ·have h1:g∈bw P.vars (P.ba.map (·.name)) (P.funcs.map (·.name)) [] P.funcs f:=mem_of_find?_eq_some h;have h2:g.name=name:=qg (List.find?_some (p:=λg:ye=>decide (g.name=name)) h);rcases OY P.funcs [] ed f hf g h1 with h3|⟨x,h3,h4⟩;exact(not_mem_nil h3).elim;have h5:x.name=name:=by rw[<-h2,h4];try rfl
  have h6:=yZ (P:=P) ed h3;rw[h5] at h6;show Xg P name∈P.funcs/\_;rw[show(bj P o).P=P from rfl,h6,h4];exact⟨h3,h5,rfl,(W0 _ x).1,(W0 _ x).2⟩
 have ho:=hv.own f hf;have JD:∀ p∈f.params,jc f p=f.name++[46]++p:=λp hp=>by unfold jc;rw[zp (.inl hp)]
 refine⟨λp hp=>?_,?_⟩
 have hk:jc f p∈je P.vars P.funcs:=by rw[JD p hp];exact(qsT hv.names hf p).2 (zq (.inl hp))
 exact⟨hk,qAI hv hF hf p hk⟩;have hn:f.params.Nodup:=(On ho.1).1;refine List.pairwise_map.2 (hn.imp_of_mem λ{a b} ha hb AH he=>AH ?_);rw[JD a ha,JD b hb] at he;exact List.append_cancel_left he;exact eZ (c:=106) (x:=decDigits n) (pi h) ea ea;exact N9 (pi h);exact qol o.code.toNat Rk.1 xb hw hd
end
def kg(l:List Wd):Prop:=∀ w∈l,Gk w
theorem Vp:kg []:=λw hw=>(not_mem_nil hw).elim
theorem Jk:kg (w::l) ↔ Gk w/\kg l:=List.forall_mem_cons
theorem wk{a b:List Wd}:kg (a++b) ↔ kg a/\kg b:=List.forall_mem_append
def gZ(w:Wd):Bool:=decide (w≠[]) && w.all λc=>decide (c≠10/\c≠32/\c≠35)
theorem hZ(h:gZ w=true):Gk w:=by unfold gZ at h;rw[Ed,Rg,List.all_eq_true] at h;refine⟨h.1,λc hc=>?_⟩;have:=qg (h.2 c hc);exact this
theorem Wv(h:l.all gZ=true):kg l:=λw hw=>hZ (List.all_eq_true.1 h w hw)
theorem fO{z:Int}(h:0<=z):Gk (itoa z):=by rw[Iw h];exact iR _
theorem B2{a b:Wd}(h:pr a)(h2:pr b)(xb:a≠[]):Gk (a++b):=⟨λh=>xb (List.append_eq_nil_iff.1 h).1,λc hc=>(xj hc).elim (h c) (h2 c)⟩
theorem Dw{p:Prop} [Decidable p]{a b:List Wd}(h1:p->kg a)(h2:¬ p->kg b):kg (if p then a else b):=by by_cases h:p;rw[zp h];exact h1 h;rw[zn h];exact h2 h
structure vF(c:CC):Prop where
 sc:∀ n,Gk (c.sc n)
 ar:∀ n,Gk (c.ar n)
 t0:Gk c.t0
 t1:Gk c.t1
 t2:Gk c.t2
theorem qxx{s:Nm}(h:kf s=true):pr s:=by
 unfold kf at h;rw[Ed] at h;have h2:=h.2;have hi:∀ c:UInt8,Ml c=true∨Si c=true->c≠10/\c≠32/\c≠35:=λc hc=>by refine⟨?_,?_,?_⟩ <;> (rintro rfl;exact absurd hc ea)
 cases s with
 |nil=>exact λc hc=>(not_mem_nil hc).elim
 |cons c r=>simp only[Ed] at h2;intro d hd;rcases Dc.1 hd with rfl|hd;exact hi _ (.inl h2.1);exact hi _ (.inr (List.all_eq_true.1 h2.2 d hd))
theorem qmJ{c:CC}(hc:vF c):kg (Om c):=by
 have hs:∀ {k:UInt8},(k≠10/\k≠32/\k≠35)->Gk [k]:=λh=>⟨by simp,λx hx=>by rw[aj hx];exact h⟩;unfold Om
 repeat' first|exact hc.t1|exact hc.t2|exact hs ea|exact Vp|refine Jk.2 ⟨?_,?_⟩
theorem qtn{c:CC}(hc:vF c){op name:Nm}{num:Nat}{l:List (List Wd)}(hl:∀ ws∈l,kg ws)(ld:ug op ≠ -2)(QD:op=tg->pr name):kg (Cr c op num name l):=by
 have hh:kg (l.headD []):=by
  cases l with
  |nil=>exact Vp
  |cons a r=>exact hl a Qe
 have h2:kg ((l.drop 1).headD []):=by
  cases l with
  |nil=>exact Vp
  |cons a r=>
   cases r with
   |nil=>exact Vp
   |cons b r=>exact hl b (Oc _ Qe)
 have hf:kg l.flatten:=λw hw=>by obtain⟨ws,h1,h3⟩:=List.mem_flatten.1 hw;exact hl ws h1 w h3
 have hg:=qmJ hc;have hs:∀ {k:UInt8},(k≠10/\k≠32/\k≠35)->Gk [k]:=λh=>⟨by simp,λx hx=>by rw[aj hx];exact h⟩
 have gv:¬ (op=Af)->¬ (op=bg)->¬ (op=Vj)->¬ (op=tg)->¬ (op=Ng)->¬ (op=yg)->Gk op:=by intro a1 a2 a3 a4 a5 a6;unfold ug at ld;rw[zn (by simp[a1,a2]),zn (by simp[a3,a5,a6]),zn a4] at ld;split at ld;rename_i h;exact Wv (l:=Fw) ea op h;exact absurd rfl ld
 unfold Cr;refine Dw (λn1=>?_) λn1=>Dw (λn2=>?_) λn2=>Dw (λn3=>?_) λn3=>Dw (λn4=>?_) λn4=>Dw (λn5=>?_) λn5=>Dw (λn6=>?_) λn6=>Dw (λn7=>?_) λn7=>Dw (λn8=>?_) λn8=>Dw (λn9=>?_) λn9=>?_;exact Jk.2 ⟨iR _,Vp⟩
 ·repeat' first|exact hh|exact h2|exact Vp|exact hc.sc _|exact hc.ar _|exact hs ea|refine Jk.2 ⟨?_,?_⟩|refine wk.2 ⟨?_,?_⟩
 ·repeat' first|exact hh|exact h2|exact Vp|exact hc.sc _|exact hc.ar _|exact hs ea|refine Jk.2 ⟨?_,?_⟩|refine wk.2 ⟨?_,?_⟩
 refine wk.2 ⟨hf,Dw (λ_=>Wv ea) λ_=>Dw (λ_=>Wv ea) λ_=>?_⟩;refine Jk.2 ⟨B2 (λx hx=>?_) (QD n4) (by simp),Wv ea⟩;have:=List.all_eq_true.1 (show([38,102,95]:Wd).all (λc=>decide (c≠10/\c≠32/\c≠35))=true by decide) x hx;exact qg this
 ·repeat' first|exact hh|exact h2|exact Vp|exact hc.sc _|exact hc.ar _|exact hs ea|refine Jk.2 ⟨?_,?_⟩|refine wk.2 ⟨?_,?_⟩
 ·repeat' first|exact hh|exact h2|exact Vp|exact hc.sc _|exact hc.ar _|exact hs ea|refine Jk.2 ⟨?_,?_⟩|refine wk.2 ⟨?_,?_⟩
 ·repeat' first|exact hh|exact h2|exact Vp|exact hc.sc _|exact hc.ar _|exact hs ea|refine Jk.2 ⟨?_,?_⟩|refine wk.2 ⟨?_,?_⟩
 ·repeat' first|exact hh|exact h2|exact Vp|exact hc.sc _|exact hc.ar _|exact hs ea|refine Jk.2 ⟨?_,?_⟩|refine wk.2 ⟨?_,?_⟩
 ·repeat' first|exact hh|exact h2|exact Vp|exact hc.sc _|exact hc.ar _|exact hs ea|refine Jk.2 ⟨?_,?_⟩|refine wk.2 ⟨?_,?_⟩
 refine wk.2 ⟨wk.2 ⟨hh,h2⟩,?_⟩;refine Dw (λ_=>hg) λ_=>Dw (λ_=>wk.2 ⟨hg,Wv ea⟩) λ_=>Dw (λ_=>Wv ea) λ_=>Dw (λ_=>Wv ea) λ_=>?_;exact Jk.2 ⟨gv n1 n2 n3 n4 n5 n6,Vp⟩
mutual
theorem qnO{c:CC}(hc:vF c){env:Cb}(ed:∀ k∈env.funcs,pr k.name):∀ e,Gf env e=0->kg (Qb c e)
 |.mk op num name args,h=>by
  rw[Gf] at h;split at h;rename_i ho;obtain⟨h1,h3⟩:=Tc.1 h;rw[Qb];refine qtn hc (qlB hc ed args h1) ga λcf=>?_;subst cf;unfold yz at h3;rw[zn ea,zn ea,zp rfl] at h3;unfold Qc at h3;split at h3
  rename_i e;rw[e];exact λx hx=>qg (List.all_eq_true.1 (show([105,110]:Wd).all (λc=>decide (c≠10/\c≠32/\c≠35))=true by decide) x hx);split at h3
  rename_i e;rw[e];exact λx hx=>qg (List.all_eq_true.1 (show([111,117,116]:Wd).all (λc=>decide (c≠10/\c≠32/\c≠35))=true by decide) x hx);unfold Cb.fn at h3
  cases hf:env.funcs.find? λf=>decide (f.name=name) with
  |none=>rw[hf] at h3;simp only at h3;split at h3 <;> cases h3
  |some k=>have e:k.name=name:=qg (List.find?_some (p:=λg:ye=>decide (g.name=name)) hf);rw[<-e];exact ed k (mem_of_find?_eq_some hf)
  cases h
theorem qlB{c:CC}(hc:vF c){env:Cb}(ed:∀ k∈env.funcs,pr k.name):∀ l,vg env l=0->∀ ws∈Ib c l,kg ws
 |[],h,ws,hw=>by rw[Ib] at hw;exact(not_mem_nil hw).elim
 |x::l,h,ws,hw=>by rw[vg] at h;obtain⟨h1,h2⟩:=Tc.1 h;rw[Ib] at hw;rcases Dc.1 hw with rfl|hw;exact qnO hc ed x h1;exact qlB hc ed l h2 ws hw
end
