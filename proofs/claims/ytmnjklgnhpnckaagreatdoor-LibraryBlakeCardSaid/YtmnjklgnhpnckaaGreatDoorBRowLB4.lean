import Derived.Lib.Join
import Derived.Lib.Split
import Derived.Lib.Strings
import Derived.Lib.SlTrimSet
import Derived.Lib.Replace
import Derived.Test.YtmnjklgnhpnckaaGreatDoorBRowLB3
set_option linter.unusedVariables false
set_option linter.unusedSimpArgs false
set_option maxRecDepth 100000
set_option maxHeartbeats 4000000
open List (length_drop mem_cons_self cons_append nil_append not_mem_nil take_append_drop take_succ_cons take_zero map_map getLast_mem foldl_cons all_reverse nodup_nil nodup_cons mem_append)
open Nat (zero_le add_assoc add_zero)
open Option (getD_some)
namespace Go.ea
variable{a b i n:Nat}
abbrev Wd:=List UInt8
variable{s w x y:Wd}{v:List Wd}
def ib(w:Wd):Option Nat:=match Go.Lib.parseUintB 32 w with
 |.ok u=>if Go.Lib.decDigits u=w then some u else none
 |_=>none
def mu(s:Wd):Bool:=match s with
 |[]=>false
 |c::r=>decide (s.length<=40) && Yk c && s.all yi
def ma(w:Wd):Option Wd:=if w.getLast? = some 58/\mu w.dropLast=true then some w.dropLast else none
def La(w:Wd):Option Wd:=match w with
 |[]=>none
 |c::r=>if c=38/\mu r=true then some r else none
def fa(l:List Wd)(i:Nat):Wd:=(l[i]?).getD []
def Bo(a:Nat)(op:Wd)(b:Nat):Option Nat:=
 if op=[43] then some ((a+b) % 4294967296)
 else if op=[45] then some ((a+4294967296-b) % 4294967296)
 else if op=[42] then some (a * b % 4294967296)
 else if op=[94] then some (a ^^^ b)
 else if op=[60] then some (if a<b then 1 else 0)
 else if op=[47] then (if b=0 then none else some (a / b))
 else if op=[37] then (if b=0 then none else some (a % b))
 else none
def Kj(x op y:Wd):Option Wd:=match ib x,ib y with
 |some a,some b=>match Bo a op b with
  |some c=>if (Go.Lib.decDigits c).length<=x.length+y.length+1 then some (Go.Lib.decDigits c) else none
  |none=>none
 |_,_=>none
def Wl(v:List Wd)(i:Nat):Option Wd:=match La (fa v i) with
 |some l=>if fa v (i+1)=[63] then some l else none
 |none=>none
abbrev Oq:=Nat×List Wd
def oy(v:List Wd):Oq:=match Kj (fa v 0) (fa v 2) (fa v 1) with
 |some s=>(3,[s])
 |none=>(0,[])
def DA(v:List Wd):Oq:=
 if fa v 0=[48]/\(fa v 1=[43]∨fa v 1=[45]∨fa v 1=[94])∨fa v 0=[49]/\(fa v 1=[42]∨fa v 1=[47]) then (2,[]) else (0,[])
def wy(v:List Wd):Oq:=
 if (fa v 1=[43]∨fa v 1=[42]∨fa v 1=[94])/\fa v 3=fa v 1 then
  (match Kj (fa v 0) (fa v 1) (fa v 2) with
  |some s=>(4,[s,fa v 1])
  |none=>(0,[]))
 else (0,[])
def sz(v:List Wd):Oq:=if (ib (fa v 0)).isSome=true/\fa v 1=[64]/\fa v 2=fa v 0/\fa v 3=[33] then (4,[]) else (0,[])
def zz(v:List Wd):Oq:=if (Wl v 4).isSome=true/\fa v 0=[49]/\fa v 1=[60]/\fa v 2=[49]/\fa v 3=[60] then (6,[fa v 4,fa v 5]) else (0,[])
def py(v:List Wd):Oq:=match ib (fa v 0) with
 |some n=>if n≠0/\(Wl v 1).isSome=true then (3,[]) else (0,[])
 |none=>(0,[])
def Qs(l:Wd):List Wd->Bool
 |[]=>false
 |w::r=>match ma w with
  |some d=>decide (d=l) || Qs l r
  |none=>false
def fy(v:List Wd):Oq:=match Wl v 1 with
 |some l=>if fa v 0=[48]/\Qs l (v.drop 3)=true then (3,[]) else (0,[])
 |none=>(0,[])
def wj(v:List Wd):Nat:=if (Wl v 1).isSome=true/\fa v 0=[48] then 3 else if fa v 0=[59]∨fa v 0=[36] then 1 else 0
def fq(v:List Wd):Nat:=(v.takeWhile λw=>(ma w).isNone).length
def uz(v:List Wd):Oq:=if 0<wj v/\0<fq (v.drop (wj v)) then (wj v+fq (v.drop (wj v)),v.take (wj v)) else (0,[])
def uu(used:Wd->Bool)(v:List Wd):Oq:=match ma (fa v 0) with
 |some l=>if used l=true then (0,[]) else (1,[])
 |none=>(0,[])
def ue(used:Wd->Bool)(v:List Wd):Oq:=
 if (oy v).1≠0 then oy v else if (DA v).1≠0 then DA v else if (wy v).1≠0 then wy v else if (sz v).1≠0 then sz v else if (zz v).1≠0 then zz v else
 if (py v).1≠0 then py v else if (fy v).1≠0 then fy v else if (uz v).1≠0 then uz v else uu used v
def Wj(used:Wd->Bool):Nat->List Wd->List Wd
 |0,_=>[]
 |_+1,[]=>[]
 |f+1,w::r=>if (ue used (w::r)).1=0 then w::Wj used f r else (ue used (w::r)).2++Wj used f ((w::r).drop (ue used (w::r)).1)
def dd(l:List Wd)(s:Wd):Bool:=l.any λw=>decide (La w=some s)
def dp(l:List Wd):List Wd:=Wj (dd l) l.length l
theorem gq(h:fa v i≠[]):i<v.length:=by rcases Nat.lt_or_ge i v.length with h1|h1;exact h1;exact absurd (by simp[fa,List.getElem?_eq_none h1]) h
theorem N'(h:ib w=some n):w≠[]:=by
 rintro rfl;have:ib []=none:=by decide +kernel
 rw[this] at h;cases h
theorem Cz{l:Wd}(h:Wl v i=some l):i+1<v.length:=by unfold Wl at h;split at h;split at h;rename_i h2;exact gq (by rw[h2];decide);cases h;cases h
theorem qyX{op:Wd}{c:Nat}(h:Bo a op b=some c):op≠[]:=by rintro rfl;have:Bo a [] b=none:=rfl;rw[this] at h;cases h
theorem BE{op:Wd}(h:Kj x op y=some s):x≠[]/\op≠[]/\y≠[]:=by unfold Kj at h;split at h;rename_i a b ha hb;split at h;rename_i c hc;exact⟨N' ha,qyX hc,N' hb⟩;cases h;cases h
def wA(v:List Wd)(r:Oq):Prop:=r.1≠0->r.1<=v.length/\r.2.length<r.1
theorem Ay(v:List Wd):wA v (0,[]):=λh=>absurd rfl h
theorem qy4(v:List Wd):wA v (oy v):=by unfold oy;split;rename_i s h;obtain⟨_,h2,_⟩:=BE h;have:=gq h2;exact λ_=>⟨by simp only;omega,by simp⟩;exact Ay v
theorem qr6(v:List Wd):wA v (DA v):=by
 unfold DA;split;rename_i h;have:fa v 1≠[]:=by intro h0;rw[h0] at h;rcases h with⟨_,h|h|h⟩|⟨_,h|h⟩ <;> cases h
 have:=gq this;exact λ_=>⟨by simp only;omega,by simp⟩;exact Ay v
theorem qrn(v:List Wd):wA v (wy v):=by
 unfold wy;split;rename_i h;split;rename_i s hs;have h3:fa v 3≠[]:=by rw[h.2];exact(BE hs).2.1
 have:=gq h3;exact λ_=>⟨by simp only;omega,by simp⟩;exact Ay v;exact Ay v
theorem qx2(v:List Wd):wA v (sz v):=by unfold sz;split;rename_i h;have:=gq (v:=v) (i:=3) (by rw[h.2.2.2];decide);exact λ_=>⟨by simp only;omega,by simp⟩;exact Ay v
theorem qtX(v:List Wd):wA v (zz v):=by unfold zz;split;rename_i h;obtain⟨l,hl⟩:=zR h.1;have:=Cz hl;exact λ_=>⟨by simp only;omega,by simp⟩;exact Ay v
theorem qvr(v:List Wd):wA v (py v):=by unfold py;split;split;rename_i h;obtain⟨l,hl⟩:=zR h.2;have:=Cz hl;exact λ_=>⟨by simp only;omega,by simp⟩;exact Ay v;exact Ay v
theorem qy6(v:List Wd):wA v (fy v):=by unfold fy;split;rename_i l hl;split;have:=Cz hl;exact λ_=>⟨by simp only;omega,by simp⟩;exact Ay v;exact Ay v
theorem qxK(v:List Wd):wj v<=v.length:=by unfold wj;split;rename_i h;obtain⟨l,hl⟩:=zR h.1;have:=Cz hl;omega;split;rename_i h;have:=gq (v:=v) (i:=0) (by rcases h with h|h <;> rw[h] <;> decide);omega;omega
theorem qyj(v:List Wd):wA v (uz v):=by unfold uz;split;rename_i h;intro _;have h1:=qxK v;have h2:fq (v.drop (wj v))<=(v.drop (wj v)).length:=(List.takeWhile_prefix _).length_le;rw[length_drop] at h2;simp only[List.length_take];omega;exact Ay v
theorem qtK(used:Wd->Bool)(v:List Wd):wA v (uu used v):=by
 unfold uu;split;rename_i l hl;split;exact Ay v;have:fa v 0≠[]:=by intro h0;rw[h0] at hl;cases hl
 have:=gq this;exact λ_=>⟨by simp only;omega,by simp⟩;exact Ay v
theorem BG(used:Wd->Bool)(v:List Wd):wA v (ue used v):=by unfold ue;split;exact qy4 v;split;exact qr6 v;split;exact qrn v;split;exact qx2 v;split;exact qtX v;split;exact qvr v;split;exact qy6 v;split;exact qyj v;exact qtK used v
theorem EY(used:Wd->Bool):∀ (f:Nat) (l:List Wd),(Wj used f l).length<=l.length
 |0,l=>zero_le _
 |f+1,[]=>Nb _
 |f+1,w::r=>by rw[Wj];split;have:=EY used f r;simp only[Ba];omega;rename_i h;obtain⟨h1,h2⟩:=BG used (w::r) h;have:=EY used f ((w::r).drop (ue used (w::r)).1);rw[length_drop] at this;rw[ya];omega
open Go.Lib
variable{c:UInt8}{cur:List UInt8}{f:ob}{fs:List ob}{l:List Wd}{r:List Nat}{t:Nat}
theorem qp9{d:Nat}(h:d<10):Rd (UInt8.ofNat (48+d))=true:=by have h1:(UInt8.ofNat (48+d)).toNat=48+d:=qkT h;unfold Rd cv;rw[h1];simp;omega
theorem mM(u:Nat):∀ c∈decDigits u,Rd c=true:=by
 induction u using Nat.strongRecOn with
 |ind u ih=>intro c hc;by_cases h:u<10;rw[decDigits_one h] at hc;rw[cj hc];exact qp9 h;rw[decDigits,dif_neg h] at hc;rcases vj hc with hc|hc;exact ih (u / 10) (by omega) c hc;rw[cj hc];exact qp9 (by omega)
theorem FA(w:Wd)(n:Nat):ib w=some n ↔ n<4294967296/\decDigits n=w:=by unfold ib;constructor;intro h;split at h;rename_i u hu;split at h;rename_i he;cases h;exact⟨GX hu,he⟩;cases h;cases h;rintro⟨h1,h2⟩;subst h2;rw[dY n h1];simp
theorem ZO(h:ib w=some n):n<4294967296:=((FA w n).1 h).1
theorem nE(h:n<4294967296):ib (decDigits n)=some n:=(FA _ n).2 ⟨h,rfl⟩
theorem UO{c:Nat}{op:Wd}(ha:a<4294967296)(hb:b<4294967296)(h:Bo a op b=some c):c<4294967296:=by
 unfold Bo at h;split at h;cases h;omega;split at h;cases h;omega;split at h;cases h;exact Nat.mod_lt _ da;split at h;cases h;exact Nat.xor_lt_two_pow (n:=32) ha hb;split at h;cases h;split <;> decide;split at h;split at h;cases h;cases h;exact Nat.lt_of_le_of_lt (Nat.div_le_self _ _) ha;split at h;split at h;cases h;cases h
 rename_i Ze;have:=Nat.mod_lt a (Nat.pos_of_ne_zero Ze);omega;cases h
def wu(v:List Wd):Prop:=fa v 0=[48]/\(fa v 1=[43]∨fa v 1=[45]∨fa v 1=[94])∨fa v 0=[49]/\(fa v 1=[42]∨fa v 1=[47])
instance(v:List Wd):Decidable (wu v):=by unfold wu;infer_instance
def cm(v:List Wd):Prop:=(fa v 1=[43]∨fa v 1=[42]∨fa v 1=[94])/\fa v 3=fa v 1
instance(v:List Wd):Decidable (cm v):=by unfold cm;infer_instance
def Iw(v:List Wd):Prop:=(ib (fa v 0)).isSome=true/\fa v 1=[64]/\fa v 2=fa v 0/\fa v 3=[33]
instance(v:List Wd):Decidable (Iw v):=by unfold Iw;infer_instance
def vy(v:List Wd):Prop:=(Wl v 4).isSome=true/\fa v 0=[49]/\fa v 1=[60]/\fa v 2=[49]/\fa v 3=[60]
instance(v:List Wd):Decidable (vy v):=by unfold vy;infer_instance
def Kw(v:List Wd):Bool:=match ib (fa v 0) with
 |some n=>decide (n≠0/\(Wl v 1).isSome=true)
 |none=>false
def jy(v:List Wd):Bool:=match Wl v 1 with
 |some l=>decide (fa v 0=[48]/\Qs l (v.drop 3)=true)
 |none=>false
def qC(v:List Wd):Prop:=0<wj v/\0<fq (v.drop (wj v))
instance(v:List Wd):Decidable (qC v):=by unfold qC;infer_instance
def jn(v:List Wd):Option Wd:=Kj (fa v 0) (fa v 2) (fa v 1)
def cq(v:List Wd):Option Wd:=Kj (fa v 0) (fa v 1) (fa v 2)
section
variable{v:List Wd}{used:Wd->Bool}
theorem qx0(h:jn v=some s):oy v=(3,[s]):=by unfold oy;unfold jn at h;rw[h]
theorem uG(h:jn v=none):oy v=(0,[]):=by unfold oy;unfold jn at h;rw[h]
theorem qrY(h:wu v):DA v=(2,[]):=zp h
theorem nJ(h:¬ wu v):DA v=(0,[]):=zn h
theorem qrx(h:cm v)(h2:cq v=some s):wy v=(4,[s,fa v 1]):=by unfold wy;unfold cq at h2;unfold cm at h;rw[zp h,h2]
theorem qM(h:¬ cm v∨cq v=none):wy v=(0,[]):=by unfold wy;unfold cq at h;by_cases hc:cm v;rcases h with h|h;exact absurd hc h;unfold cm at hc;rw[zp hc,h];unfold cm at hc;rw[zn hc]
theorem qxE(h:Iw v):sz v=(4,[]):=zp h
theorem WO(h:¬ Iw v):sz v=(0,[]):=zn h
theorem quQ(h:vy v):zz v=(6,[fa v 4,fa v 5]):=zp h
theorem AU(h:¬ vy v):zz v=(0,[]):=zn h
theorem qwE(h:Kw v=true):py v=(3,[]):=by
 unfold Kw at h;unfold py;split at h
 ·rename_i n hn
  try rw[hn]
  exact zp (Hg h)
 cases h
theorem QX(h:Kw v=false):py v=(0,[]):=by
 unfold Kw at h;unfold py;split at h
 ·rename_i n hn
  try rw[hn]
  exact zn (of_decide_eq_false h)
 rename_i hn;first|rw[hn]|rfl
theorem qyU(h:jy v=true):fy v=(3,[]):=by
 unfold jy at h;unfold fy;split at h
 ·rename_i n hn
  try rw[hn]
  exact zp (Hg h)
 cases h
theorem M9(h:jy v=false):fy v=(0,[]):=by
 unfold jy at h;unfold fy;split at h
 ·rename_i n hn
  try rw[hn]
  exact zn (of_decide_eq_false h)
 rename_i hn;first|rw[hn]|rfl
theorem qyo(h:qC v):uz v=(wj v+fq (v.drop (wj v)),v.take (wj v)):=zp h
theorem qyD(h:¬ qC v):uz v=(0,[]):=zn h
theorem OS(h:jn v=some s):ue used v=(3,[s]):=by unfold ue;rw[qx0 h];try rfl
theorem TS(h1:jn v=none)(h:wu v):ue used v=(2,[]):=by unfold ue;rw[uG h1,qrY h];try rfl
theorem bT(h1:jn v=none)(h2:¬ wu v)(h:cm v)(h':cq v=some s):ue used v=(4,[s,fa v 1]):=by unfold ue;rw[uG h1,nJ h2,qrx h h'];try rfl
theorem NS(h1:jn v=none)(h2:¬ wu v)(h3:¬ cm v∨cq v=none)(h:Iw v):ue used v=(4,[]):=by unfold ue;rw[uG h1,nJ h2,qM h3,qxE h];try rfl
theorem QS(h1:jn v=none)(h2:¬ wu v)(h3:¬ cm v∨cq v=none)(h4:¬ Iw v)(h:vy v):ue used v=(6,[fa v 4,fa v 5]):=by unfold ue;rw[uG h1,nJ h2,qM h3,WO h4,quQ h];try rfl
theorem YS(h1:jn v=none)(h2:¬ wu v)(h3:¬ cm v∨cq v=none)(h4:¬ Iw v)(h5:¬ vy v)(h:Kw v=true):ue used v=(3,[]):=by unfold ue;rw[uG h1,nJ h2,qM h3,WO h4,AU h5,qwE h];try rfl
theorem ZS(h1:jn v=none)(h2:¬ wu v)(h3:¬ cm v∨cq v=none)(h4:¬ Iw v)(h5:¬ vy v)(h6:Kw v=false)(h:jy v=true):ue used v=(3,[]):=by unfold ue;rw[uG h1,nJ h2,qM h3,WO h4,AU h5,QX h6,qyU h];try rfl
theorem XS(h1:jn v=none)(h2:¬ wu v)(h3:¬ cm v∨cq v=none)(h4:¬ Iw v)(h5:¬ vy v)(h6:Kw v=false)(h7:jy v=false)(h:qC v):ue used v=(wj v+fq (v.drop (wj v)),v.take (wj v)):=by
 unfold ue;have h0:wj v+fq (v.drop (wj v))≠0:=by have:=h.1;omega
 rw[uG h1,nJ h2,qM h3,WO h4,AU h5,QX h6,M9 h7,qyo h];simp only[ne_eq,not_true_eq_false,if_false,h0,not_false_eq_true,if_true]
theorem US(h1:jn v=none)(h2:¬ wu v)(h3:¬ cm v∨cq v=none)(h4:¬ Iw v)(h5:¬ vy v)(h6:Kw v=false)(h7:jy v=false)(h8:¬ qC v):ue used v=uu used v:=by unfold ue;rw[uG h1,nJ h2,qM h3,WO h4,AU h5,QX h6,M9 h7,qyD h8];try rfl
end
def eg(c:UInt8):List UInt8->List (List UInt8)
 |[]=>[[]]
 |d::r=>if d=c then []::eg c r else match eg c r with
  |p::ps=>(d::p)::ps
  |[]=>[[d]]
theorem HU(c:UInt8):∀ s,∃ p ps,eg c s=p::ps
 |[]=>⟨_,_,rfl⟩
 |d::r=>by obtain⟨p,ps,h⟩:=HU c r;rw[eg,h];split;exact⟨_,_,rfl⟩;exact⟨_,_,rfl⟩
theorem OP(c:UInt8)(r:List UInt8):eg c (c::r)=[]::eg c r:=by rw[eg,zp rfl]
theorem bV{d:UInt8}(h:d≠c)(r:List UInt8):∃ p ps,eg c r=p::ps/\eg c (d::r)=(d::p)::ps:=by obtain⟨p,ps,hp⟩:=HU c r;exact⟨p,ps,hp,by rw[eg,zn h,hp]⟩
theorem lM{c:UInt8}:∀ {s:List UInt8},c ∉ s->eg c s=[s]
 |[],_=>rfl
 |d::r,h=>by have hd:d≠c:=λe=>h (by rw[e];exact mem_cons_self ..);have hr:c ∉ r:=λe=>h (Gc _ e);rw[eg,zn hd,lM hr]
theorem sZ{c:UInt8}:∀ {a b:List UInt8},c ∉ a->eg c (a++c::b)=a::eg c b
 |[],b,_=>OP c b
 |d::a,b,h=>by have hd:d≠c:=λe=>h (by rw[e];exact mem_cons_self ..);have ha:c ∉ a:=λe=>h (Gc _ e);rw[cons_append,eg,zn hd,sZ ha]
theorem QU{c:UInt8}:∀ {s:List UInt8},c ∉ s->index s [c] = -1
 |[],_=>rfl
 |d::r,h=>by
  have hd:¬ c=d:=λe=>h (by rw[e];exact mem_cons_self ..);have hr:c ∉ r:=λe=>h (Gc _ e);have hp:([c]:List UInt8).isPrefixOf (d::r)=false:=by simp[List.isPrefixOf,hd]
  rw[index,hp,QU hr];try rfl
theorem CU{c:UInt8}:∀ {a b:List UInt8},c ∉ a->index (a++c::b) [c]=(a.length:Int)
 |[],b,_=>by
  have hp:([c]:List UInt8).isPrefixOf (c::b)=true:=by simp[List.isPrefixOf]
  rw[nil_append,index,hp];try rfl
 |d::a,b,h=>by
  have hd:¬ c=d:=λe=>h (by rw[e];exact mem_cons_self ..);have ha:c ∉ a:=λe=>h (Gc _ e);have hp:([c]:List UInt8).isPrefixOf (d::(a++c::b))=false:=by simp[List.isPrefixOf,hd]
  rw[cons_append,index,hp,CU ha,zn da,zn (by
   intro h;have:=eq_of_beq h;omega)]
  simp
theorem bZ{s:List UInt8}(h:c∈s):∃ a b,s=a++c::b/\c ∉ a:=List.eq_append_cons_of_mem h
theorem qxJ(c:UInt8)(s:List UInt8):(cut s [c]).1=s.takeWhile (λd=>decide (d≠c)):=by
 by_cases h:c∈s;obtain⟨a,b,rfl,ha⟩:=bZ h;have h1:∀ x∈a,decide (x≠c)=true:=λx hx=>by simp only[Mf];rintro rfl;exact ha hx
 rw[cut,CU ha,zp (by omega),List.takeWhile_append_of_pos h1,List.takeWhile_cons_of_neg (by simp)];simp;have h1:∀ x∈s,decide (x≠c)=true:=λx hx=>by simp only[Mf];rintro rfl;exact h hx
 rw[cut,QU h,zn da];have:=List.takeWhile_append_of_pos (l₂:=[]) h1;simpa using this.symm
theorem qhw(c:UInt8):∀ (f:Nat) (s:List UInt8),s.length<f->countFrom [c] f s=s.count c
 |0,s,h=>by omega
 |f+1,s,h=>by
  rw[countFrom];by_cases hc:c∈s
  ·obtain⟨a,b,rfl,ha⟩:=bZ hc
   rw[CU ha,zn (by
    intro h;have:=eq_of_beq h;omega)]
   have hd:(a++c::b).drop ((a.length:Int).toNat+[c].length)=b:=by rw[show(a.length:Int).toNat+[c].length=a.length+1 by simp];rw[<-List.drop_drop,List.drop_left];try rfl
   rw[hd,qhw c f b (by simp only[ya,Ba] at h;omega)];rw[List.count_append,List.count_cons_self,List.count_eq_zero.2 ha];omega
  rw[QU hc,zp da,List.count_eq_zero.2 hc]
theorem qlv(c:UInt8):∀ (k:Nat) (s:List UInt8),s.count c<=k->splitK [c] 0 k s=eg c s
 |0,s,h=>by have hc:c ∉ s:=List.count_eq_zero.1 (by omega);rw[splitK,lM hc]
 |k+1,s,h=>by
  rw[splitK];by_cases hc:c∈s
  ·obtain⟨a,b,rfl,ha⟩:=bZ hc
   rw[CU ha,zn (by
    intro h;have:=eq_of_beq h;omega),sZ ha]
   have hd:(a++c::b).drop ((a.length:Int).toNat+[c].length)=b:=by rw[show(a.length:Int).toNat+[c].length=a.length+1 by simp];rw[<-List.drop_drop,List.drop_left];try rfl
   rw[hd,show(a.length:Int).toNat+0=a.length by simp,List.take_left,qlv c k b (by
    rw[List.count_append,List.count_cons_self] at h;omega)]
  rw[QU hc,zp da,lM hc]
theorem qsf(c:UInt8)(s:List UInt8):split s [c]=eg c s:=by rw[split,count,qlv c _ s (by rw[qhw c _ s (by omega)];exact Nb _)]
def full(l:List (List UInt8)):List Wd:=l.filter λw=>decide (w≠[])
def Rs(s:List UInt8):List Wd:=full (eg 32 (s.takeWhile λd=>decide (d≠35)))
def xj(s:List UInt8):List Wd:=(eg 10 s).flatMap Rs
def Gq(cur:List UInt8):List Wd:=if cur=[] then [] else [cur]
def rz:List UInt8->Bool->List UInt8->List Wd
 |cur,_,[]=>Gq cur
 |cur,au,c::r=>
  if c=10 then Gq cur++rz [] false r
  else if au=true then rz cur true r
  else if c=35 then Gq cur++rz [] true r
  else if c=32 then Gq cur++rz [] false r
  else rz (cur++[c]) false r
def Jw(cur:List UInt8)(au:Bool)(l:List UInt8):List Wd:=if au=true then Gq cur else Rs (cur++l)
theorem qwo(a b:List (List UInt8)):full (a++b)=full a++full b:=List.filter_append ..
theorem PX(a:List UInt8):full [a]=Gq a:=by unfold full Gq;by_cases h:a=[] <;> simp[h]
def Xp(cur:List UInt8):Prop:=∀ c∈cur,c≠10/\c≠32/\c≠35
theorem qsw(h:Xp cur)(l:List UInt8):Rs (cur++35::l)=Gq cur:=by
 have h1:∀ x∈cur,decide (x≠35)=true:=λx hx=>by simp only[Mf];exact(h x hx).2.2
 have h2:(32:UInt8) ∉ cur:=λhx=>(h 32 hx).2.1 rfl;unfold Rs;rw[List.takeWhile_append_of_pos h1,List.takeWhile_cons_of_neg (by simp),Jd,lM h2,PX]
theorem uY(h:Xp cur):Rs cur=Gq cur:=by
 have h1:∀ x∈cur,decide (x≠35)=true:=λx hx=>by simp only[Mf];exact(h x hx).2.2
 have h2:(32:UInt8) ∉ cur:=λhx=>(h 32 hx).2.1 rfl;have h3:=List.takeWhile_append_of_pos (l₂:=[]) h1;rw[Jd,List.takeWhile_nil,Jd] at h3;unfold Rs;rw[h3,lM h2,PX]
theorem qli(h:Xp cur)(l:List UInt8):Rs (cur++32::l)=Gq cur++Rs l:=by
 have h1:∀ x∈cur,decide (x≠35)=true:=λx hx=>by simp only[Mf];exact(h x hx).2.2
 have h2:(32:UInt8) ∉ cur:=λhx=>(h 32 hx).2.1 rfl;unfold Rs;rw[List.takeWhile_append_of_pos h1,List.takeWhile_cons_of_pos da,sZ h2,<-List.singleton_append,qwo,PX]
theorem QL:∀ (s cur:List UInt8) (au:Bool) (p:List UInt8) (ps:List (List UInt8)),Xp cur->(au=true->cur=[])->eg 10 s=p::ps->rz cur au s=Jw cur au p++ps.flatMap Rs
 |[],cur,au,p,ps,hc,lR,hp=>by
  cases hp;rw[rz,Jw];cases au with
  |true=>simp
  |false=>simp[uY hc]
 |c::r,cur,au,p,ps,hc,lR,hp=>by
  obtain⟨q,qs,hq⟩:=HU 10 r;rw[rz];by_cases sx:c=10;subst sx;rw[OP,hq] at hp;cases hp;rw[zp rfl,QL r [] false q qs (λx hx=>by cases hx) (by simp) hq];have:Jw cur au []=Gq cur:=by
   unfold Jw;cases au with
   |true=>rfl
   |false=>rw[zn da,Jd,uY hc]
  rw[this];simp[Jw];clear hq;obtain⟨q,qs,hq,Jz⟩:=bV sx r;rw[Jz] at hp;cases hp;rw[zn sx];cases au with
  |true=>obtain rfl:=lR rfl;rw[zp rfl,QL r [] true q ps (λx hx=>by cases hx) (λ_=>rfl) hq];simp[Jw]
  |false=>
   rw[zn da];by_cases x6:c=35;subst x6;rw[zp rfl,QL r [] true q ps (λx hx=>by cases hx) (λ_=>rfl) hq];have:Jw cur false (35::q)=Gq cur:=by unfold Jw;rw[zn da,qsw hc]
   rw[this];simp[Jw,Gq];rw[zn x6];by_cases y6:c=32;subst y6;rw[zp rfl,QL r [] false q ps (λx hx=>by cases hx) (by simp) hq];have:Jw cur false (32::q)=Gq cur++Rs q:=by unfold Jw;rw[zn da,qli hc]
   rw[this,Pc];simp[Jw];rw[zn y6,QL r (cur++[c]) false q ps (λx hx=>by
    rcases vj hx with h|h;exact hc x h;obtain rfl:=cj h;exact⟨sx,y6,x6⟩) (by simp) hq]
   simp[Jw]
theorem qrd(s:List UInt8):rz [] false s=xj s:=by obtain⟨p,ps,hp⟩:=HU 10 s;rw[QL s [] false p ps (λx hx=>by cases hx) (by simp) hp];unfold xj;rw[hp];simp[Jw]
theorem qqN(used:Wd->Bool):∀ (f:Nat) (l:List Wd),l.length<=f->Wj used f l=l∨(Wj used f l).length<l.length
 |0,l,h=>by have:l=[]:=List.eq_nil_of_length_eq_zero (by omega);subst this;exact .inl rfl
 |f+1,[],_=>.inl rfl
 |f+1,w::r,h=>by rw[Wj];split;rcases qqN used f r (by simp only[Ba] at h;omega) with h1|h1;rw[h1];exact .inl rfl;right;simp only[Ba];omega;rename_i h0;obtain⟨h1,h2⟩:=BG used (w::r) h0;have:=EY used f ((w::r).drop (ue used (w::r)).1);rw[length_drop] at this;right;rw[ya];omega
theorem UX(l:List Wd):dp l=l∨(dp l).length<l.length:=qqN _ _ l (Nb _)
def Ng:Nat->List Wd->List Wd
 |0,l=>l
 |f+1,l=>if dp l=l then l else Ng f (dp l)
def Uh(l:List Wd):List Wd:=Ng l.length l
theorem qnw:∀ (f g:Nat) (l:List Wd),l.length<=f->l.length<=g->Ng f l=Ng g l
 |0,0,_,_,_=>rfl
 |0,g+1,l,h,_=>by have:l=[]:=List.eq_nil_of_length_eq_zero (by omega);subst this;rw[Ng,Ng,zp (by rfl)]
 |f+1,0,l,_,h=>by have:l=[]:=List.eq_nil_of_length_eq_zero (by omega);subst this;rw[Ng,Ng,zp (by rfl)]
 |f+1,g+1,l,h1,h2=>by rw[Ng,Ng];split;rfl;rename_i h;rcases UX l with h3|h3;exact absurd h3 h;exact qnw f g (dp l) (by omega) (by omega)
theorem qxH(h:dp l=l):Uh l=l:=by
 unfold Uh;cases l with
 |nil=>rfl
 |cons w r=>rw[Ba,Ng,zp h]
theorem qun(h:dp l≠l):Uh l=Uh (dp l):=by rcases UX l with h3|h3;exact absurd h3 h;have h4:∃ k,l.length=k+1:=⟨l.length-1,by omega⟩;obtain⟨k,hk⟩:=h4;unfold Uh;rw[hk,Ng,zn h];exact qnw _ _ _ (by omega) (Nb _)
theorem WX(h:i<v.length):fa v i∈v:=by unfold fa;rw[di h];exact List.getElem_mem h
theorem nZ{op:Wd}(h:Kj x op y=some s):∃ c,c<4294967296/\s=decDigits c:=by unfold Kj at h;split at h;rename_i a b ha hb;split at h;rename_i c hc;split at h;cases h;exact⟨c,UO (ZO ha) (ZO hb) hc,rfl⟩;cases h;cases h;cases h
theorem qws{P:Wd->Prop}(hd:∀ n,n<4294967296->P (decDigits n))(used:Wd->Bool)(v:List Wd)(hv:∀ w∈v,P w):∀ w∈(ue used v).2,P w:=by
 have none:∀ n:Nat,∀ w∈((n,[]):Oq).2,P w:=λ_ w hw=>by cases hw
 by_cases h1:∃ s,jn v=some s;obtain⟨s,h1⟩:=h1;rw[OS h1];obtain⟨c,hc,rfl⟩:=nZ h1;intro w hw;rcases cj hw with rfl;exact hd c hc;have h1:jn v=Option.none:=by
  cases h:jn v with
  |none=>rfl
  |some s=>exact absurd ⟨s,h⟩ h1
 by_cases h2:wu v;rw[TS h1 h2];exact none _;by_cases h3:cm v/\∃ s,cq v=some s;obtain⟨h3,s,h4⟩:=h3;rw[bT h1 h2 h3 h4];obtain⟨c,hc,rfl⟩:=nZ h4;have h5:=gq (BE h4).2.1;intro w hw;simp only[lc,not_mem_nil,or_false] at hw;rcases hw with rfl|rfl;exact hd c hc;exact hv _ (WX h5);have h3:¬ cm v∨cq v=Option.none:=by by_cases hc:cm v;exact sD;exact .inl hc
 by_cases h4:Iw v;rw[NS h1 h2 h3 h4];exact none _;by_cases h5:vy v;rw[QS h1 h2 h3 h4 h5];obtain⟨l,hl⟩:=zR h5.1;have h6:=Cz hl;intro w hw;simp only[lc,not_mem_nil,or_false] at hw;rcases hw with rfl|rfl;exact hv _ (WX (by omega));exact hv _ (WX (by omega));cases h6:Kw v with
 |true=>rw[YS h1 h2 h3 h4 h5 h6];exact none _
 |false=>
  cases h7:jy v with
  |true=>rw[ZS h1 h2 h3 h4 h5 h6 h7];exact none _
  |false=>by_cases h8:qC v;rw[XS h1 h2 h3 h4 h5 h6 h7 h8];exact λw hw=>hv w (List.mem_of_mem_take hw);rw[US h1 h2 h3 h4 h5 h6 h7 h8];unfold uu;split;split <;> exact none _;exact none _
theorem CP{P:Wd->Prop}(hd:∀ n,n<4294967296->P (decDigits n))(used:Wd->Bool):∀ (f:Nat) (l:List Wd),(∀ w∈l,P w)->∀ w∈Wj used f l,P w
 |0,_,_=>λw hw=>by cases hw
 |f+1,[],_=>λw hw=>by cases hw
 |f+1,a::r,hl=>by rw[Wj];split;intro w hw;rcases lc.1 hw with rfl|hw;exact hl _ Ce;exact CP hd used f r (λx hx=>hl x (Gc _ hx)) w hw;intro w hw;rcases vj hw with hw|hw;exact qws hd used (a::r) hl w hw;exact CP hd used f _ (λx hx=>hl x (List.mem_of_mem_drop hx)) w hw
theorem qqj{P:Wd->Prop}(hd:∀ n,n<4294967296->P (decDigits n)):∀ (f:Nat) (l:List Wd),(∀ w∈l,P w)->∀ w∈Ng f l,P w
 |0,l,h=>h
 |f+1,l,h=>by rw[Ng];split;exact h;exact qqj hd f _ (CP hd _ _ l h)
theorem qvu{P:Wd->Prop}(hd:∀ n,n<4294967296->P (decDigits n)){l:List Wd}(h:∀ w∈l,P w):∀ w∈Uh l,P w:=qqj hd _ l h
def Hj(w:Wd):Prop:=w≠[]/\Xp w
theorem IP(n:Nat):Hj (decDigits n):=⟨qJ n,λc hc=>by
 have:=mM n c hc;refine⟨?_,?_,?_⟩ <;> (rintro rfl;exact absurd this da)⟩
theorem qi3{c:UInt8}{l:List UInt8}:∀ p∈eg c l,c ∉ p/\∀ x∈p,x∈l:=by
 induction l with
 |nil=>intro p hp;obtain rfl:=cj hp;exact⟨by simp,by simp⟩
 |cons d r ih=>intro p hp;by_cases h:d=c;subst h;rw[OP] at hp;rcases lc.1 hp with rfl|hp;exact⟨by simp,by simp⟩;exact⟨(ih p hp).1,λx hx=>Gc _ ((ih p hp).2 x hx)⟩;obtain⟨q,qs,h1,h2⟩:=bV h r;rw[h2] at hp;rw[h1] at ih;rcases lc.1 hp with rfl|hp;have:=ih q Ce;refine⟨λhm=>?_,λx hx=>?_⟩;rcases lc.1 hm with e|hm;exact h e.symm;exact this.1 hm;rcases lc.1 hx with rfl|hx;exact mem_cons_self ..;exact Gc _ (this.2 x hx);have:=ih p (Gc _ hp);exact⟨this.1,λx hx=>Gc _ (this.2 x hx)⟩
theorem qpg{l:List UInt8}(h:(10:UInt8) ∉ l):∀ w∈Rs l,Hj w:=by
 intro w hw;obtain⟨h1,h2⟩:=List.mem_filter.1 hw;obtain⟨h3,h4⟩:=qi3 w h1;refine⟨Hg h2,λc hc=>⟨?_,?_,?_⟩⟩;rintro rfl;exact h ((List.takeWhile_prefix _).subset (h4 _ hc));rintro rfl;exact h3 hc;rintro rfl
 have:∀ (l:List UInt8),(35:UInt8) ∉ l.takeWhile λd=>decide (d≠35):=by
  intro l;induction l with
  |nil=>simp
  |cons d r ih=>rw[List.takeWhile_cons];split;rename_i hd;intro hm;rcases lc.1 hm with e|hm;rw[<-e] at hd;simp at hd;exact ih hm;simp
 exact this _ (h4 _ hc)
theorem qiW(s:List UInt8):∀ w∈xj s,Hj w:=by intro w hw;obtain⟨p,hp,hw⟩:=List.mem_flatMap.1 hw;exact qpg (qi3 p hp).1 w hw
theorem RY(x y:Wd)(r:List Wd):join (x::y::r) [32]=x++32::join (y::r) [32]:=by simp[join]
theorem qov:∀ (l:List Wd),(∀ w∈l,Hj w)->(10:UInt8) ∉ join l [32]
 |[],_=>by simp[join]
 |[a],h=>by rw[join_one];exact λhm=>((h a Ce).2 10 hm).1 rfl
 |a::b::r,h=>by rw[RY];intro hm;rcases vj hm with hm|hm;exact((h a Ce).2 10 hm).1 rfl;rcases lc.1 hm with e|hm;exact absurd e da;exact qov (b::r) (λx hx=>h x (Gc _ hx)) hm
theorem qnP:∀ (l:List Wd),(∀ w∈l,Hj w)->Rs (join l [32])=l
 |[],_=>rfl
 |[a],h=>by obtain⟨h1,h2⟩:=h a Ce;rw[join_one,uY h2];simp[Gq,h1]
 |a::b::r,h=>by obtain⟨h1,h2⟩:=h a Ce;rw[RY,qli h2,qnP (b::r) λx hx=>h x (Gc _ hx)];simp[Gq,h1]
theorem VU{l:List Wd}(h:∀ w∈l,Hj w):xj (join l [32])=l:=by unfold xj;rw[lM (qov l h)];simp[qnP l h]
theorem qvt{a b:List Wd}(ha:∀ w∈a,Hj w)(hb:∀ w∈b,Hj w)(h:join a [32]=join b [32]):a=b:=by rw[<-VU ha,<-VU hb,h]
theorem qrF{l:List Wd}(h:∀ w∈l,Hj w):∀ w∈dp l,Hj w:=CP (λn _=>IP n) _ _ l h
theorem quH{l:List Wd}(h:∀ w∈l,Hj w):∀ w∈Uh l,Hj w:=qvu (λn _=>IP n) h
def LC(s:List UInt8):List UInt8×Int:=if 400000<s.length then ([],6) else (join (Uh (xj s)) [32],0)
def kf(l:List Wd):Nat:=(l.map λw=>w.length+1).sum
theorem Jj(w:Wd)(l:List Wd):kf (w::l)=w.length+1+kf l:=by simp[kf]
theorem Vk:kf []=0:=rfl
theorem Il(a b:List Wd):kf (a++b)=kf a+kf b:=by simp[kf]
theorem qnV(l:List Wd)(n:Nat):kf l=kf (l.take n)+kf (l.drop n):=by rw[<-Il,take_append_drop]
theorem SL:∀ l:List Wd,(join l [32]).length<=kf l
 |[]=>zero_le _
 |[a]=>by rw[join_one,Jj];omega
 |a::b::r=>by have:=SL (b::r);rw[RY,Jj];simp only[ya,Ba];omega
theorem TP{op:Wd}(h:Kj x op y=some s):s.length<=x.length+y.length+1:=by unfold Kj at h;split at h;split at h;split at h;rename_i hle;cases h;exact hle;cases h;cases h;cases h
theorem qvi(used:Wd->Bool)(v:List Wd):kf (ue used v).2<=kf (v.take (ue used v).1):=by
 by_cases h1:∃ s,jn v=some s;obtain⟨s,h1⟩:=h1;rw[OS h1];have hl:=TP h1;have za:=gq (BE h1).2.1;match v,za,hl with
 |a::b::c::r,_,hl=>simp only[fa,Ql,Ls,getD_some] at hl;simp only[take_succ_cons,take_zero,Jj,Vk];omega
 have h1:jn v=Option.none:=by
  cases h:jn v with
  |none=>rfl
  |some s=>exact absurd ⟨s,h⟩ h1
 by_cases h2:wu v;rw[TS h1 h2];exact zero_le _;by_cases h3:cm v/\∃ s,cq v=some s;obtain⟨h3,s,h4⟩:=h3;rw[bT h1 h2 h3 h4];have hl:=TP h4;have h5:fa v 3≠[]:=by rw[h3.2];exact(BE h4).2.1
 have za:=gq h5;match v,za,hl with
 |a::b::c::d::r,_,hl=>simp only[fa,Ql,Ls,getD_some] at hl ⊢;simp only[take_succ_cons,take_zero,Jj,Vk];omega
 have h3:¬ cm v∨cq v=Option.none:=by by_cases hc:cm v;exact sD;exact .inl hc
 by_cases h4:Iw v;rw[NS h1 h2 h3 h4];exact zero_le _;by_cases h5:vy v;rw[QS h1 h2 h3 h4 h5];obtain⟨l,hl⟩:=zR h5.1;have h6:=Cz hl;match v,h6 with
 |a::b::c::d::e::f::r,_=>simp only[fa,Ql,Ls,getD_some];simp only[take_succ_cons,take_zero,Jj,Vk];omega
 cases h6:Kw v with
 |true=>rw[YS h1 h2 h3 h4 h5 h6];exact zero_le _
 |false=>
  cases h7:jy v with
  |true=>rw[ZS h1 h2 h3 h4 h5 h6 h7];exact zero_le _
  |false=>by_cases h8:qC v;rw[XS h1 h2 h3 h4 h5 h6 h7 h8];simp only;have:=qnV (v.take (wj v+fq (v.drop (wj v)))) (wj v);rw[List.take_take,Nat.min_eq_left (by omega)] at this;omega;rw[US h1 h2 h3 h4 h5 h6 h7 h8];unfold uu;split;split <;> exact zero_le _;exact zero_le _
theorem KU(used:Wd->Bool):∀ (f:Nat) (l:List Wd),kf (Wj used f l)<=kf l
 |0,_=>zero_le _
 |f+1,[]=>Nb _
 |f+1,a::r=>by rw[Wj];split;rw[Jj,Jj];have:=KU used f r;omega;have h1:=qvi used (a::r);have h2:=KU used f ((a::r).drop (ue used (a::r)).1);have h3:=qnV (a::r) (ue used (a::r)).1;rw[Il];omega
theorem qq3:∀ (f:Nat) (l:List Wd),kf (Ng f l)<=kf l
 |0,l=>Nb _
 |f+1,l=>by rw[Ng];split;exact Nb _;exact Se (qq3 f _) (KU _ _ l)
theorem TL:∀ (s cur:List UInt8) (au:Bool),kf (rz cur au s)<=cur.length+s.length+1
 |[],cur,au=>by rw[rz];unfold Gq;split;exact zero_le _;simp[kf]
 |c::r,cur,au=>by
  have hf:kf (Gq cur)<=cur.length+1:=by unfold Gq;split;exact zero_le _;simp[kf]
  rw[rz];simp only[Ba];split;have:=TL r [] false;rw[Il];simp only[dc] at this;omega;split;have:=TL r cur true;omega;split;have:=TL r [] true;rw[Il];simp only[dc] at this;omega;split;have:=TL r [] false;rw[Il];simp only[dc] at this;omega;have:=TL r (cur++[c]) false;rw[ya,List.length_singleton] at this;omega
theorem IU(s:List UInt8):kf (xj s)<=s.length+1:=by rw[<-qrd];have:=TL s [] false;simpa using this
theorem qwV(s:List UInt8):(join (Uh (xj s)) [32]).length<=s.length+1:=
 Se (SL _) (Se (qq3 _ _) (IU s))
theorem qpR(c:UInt8)(r:List UInt8):mu (c::r)=(decide ((c::r).length<=40) && Yk c && (c::r).all yi):=rfl
theorem qwJ(h:mu s=true):s≠[]:=by rintro rfl;cases h
def pC:Nat->List (List UInt8)->List (Wd×Nat)
 |_,[]=>[]
 |n,l::r=>(Rs l).map (λw=>(w,n+1))++pC (n+1) r
def nu(s:List UInt8):List (Wd×Nat):=pC 0 (eg 10 s)
theorem qnn:∀ (l:List (List UInt8)) (n:Nat),(pC n l).map (·.1)=l.flatMap Rs
 |[],_=>rfl
 |a::r,n=>by rw[pC,Lf,map_map,qnn r];simp[Function.comp_def]
theorem lJ(s:List UInt8):(nu s).map (·.1)=xj s:=qnn _ 0
theorem qq8{l:List (List UInt8)}(h:i<l.length)(n:Nat):pC n (l.drop i)=(Rs l[i]).map (λw=>(w,n+1))++pC (n+1) (l.drop (i+1)):=by rw[List.drop_eq_getElem_cons h,pC]
theorem qsy{l:List (List UInt8)}(h:i<l.length):full (l.drop i)=if l[i]=[] then full (l.drop (i+1)) else l[i]::full (l.drop (i+1)):=by rw[List.drop_eq_getElem_cons h];unfold full;rw[List.filter_cons];by_cases hc:l[i]=[];simp[hc];simp[hc]
theorem uZ(c:UInt8):∀ s,(eg c s).length<=s.length+1
 |[]=>by simp[eg]
 |d::r=>by have:=uZ c r;by_cases h:d=c;subst h;rw[OP];simp only[Ba];omega;obtain⟨p,ps,h1,h2⟩:=bV h r;rw[h2];rw[h1] at this;simp only[Ba] at this ⊢;omega
theorem iV{c:UInt8}:∀ {s p:List UInt8},p∈eg c s->p.length<=s.length
 |[],p,h=>by obtain rfl:=cj h;exact Nb _
 |d::r,p,h=>by by_cases hd:d=c;subst hd;rw[OP] at h;rcases lc.1 h with rfl|h;exact zero_le _;have:=iV h;simp only[Ba];omega;obtain⟨q,qs,h1,h2⟩:=bV hd r;rw[h2] at h;rcases lc.1 h with rfl|h;have:=iV (c:=c) (s:=r) (p:=q) (by rw[h1];exact mem_cons_self ..);simp only[Ba];omega;have:=iV (c:=c) (s:=r) (p:=p) (by rw[h1];exact Gc _ h);simp only[Ba];omega
theorem oZ(s:List UInt8):(xj s).length<=s.length+1:=by
 have h1:=IU s;have h2:(xj s).length<=kf (xj s):=by
  unfold kf;generalize xj s=l;induction l with
  |nil=>exact Nb _
  |cons a l ih=>simp only[Ba,jd,List.sum_cons];omega
 omega
theorem qsq(h:w∈l):w.length+1<=kf l:=by
 induction l with
 |nil=>cases h
 |cons a l ih=>rw[Jj];rcases lc.1 h with rfl|h;omega;have:=ih h;omega
theorem HT(l:List Wd):l.length<=kf l:=by
 induction l with
 |nil=>exact zero_le _
 |cons a l ih=>rw[Jj,Ba];omega
theorem quI(l:List Wd):kf (dp l)<=kf l:=KU _ _ _
def xz:List UInt8:=[43,45,42,47,37,94,60,64,33,63,58,59,44,46,36,48,49,50,51,52,53,54,55,56,57]
def Hw(w:Wd):Bool:=w.all λc=>xz.contains c
def yb(l:List Wd):List Wd:=l.filterMap ma
def ko(ds:List Wd)(w:Wd):Prop:=match ma w with
 |some _=>True
 |none=>match La w with
  |some d=>d∈ds
  |none=>Hw w=true
def Ts(l:List Wd):Prop:=(yb l).Nodup/\∀ w∈l,ko (yb l) w
def Jl(w:Wd):Bool:=match w with
 |[]=>false
 |c::_=>Rd c
def sf(w:Wd):Bool:=match w.getLast? with
 |some c=>Rd c
 |none=>false
def one(d:Bool):Nat:=if d=true then 1 else 0
def Sb:Bool->List Wd->Nat
 |_,[]=>0
 |d,w::r=>match ma w with
  |some _=>Sb d r
  |none=>match La w with
   |some _=>one d+6+Sb true r
   |none=>one (d && Jl w)+w.length+Sb (sf w) r
structure Sign(w:Wd):Prop where
 d:ma w=none
 r:La w=none
 f:Jl w=false
 l:sf w=false
 n:w.length=1
structure Sz(w:Wd):Prop where
 d:ma w=none
 r:La w=none
 f:Jl w=true
 l:sf w=true
 n:1<=w.length
 c:Hw w=true
theorem qlp(h:Rd c=true):xz.contains c=true:=by
 have:∀ n:Nat,n<256->Rd (UInt8.ofNat n)=true->xz.contains (UInt8.ofNat n)=true:=by decide +kernel
 have h1:=this c.toNat c.toNat_lt;rw[UInt8.ofNat_toNat] at h1;exact h1 h
theorem TO(n:Nat):Sz (decDigits n):=by
 have hd:=mM n;have ub:=qJ n;generalize decDigits n=w at hd ub;cases w with
 |nil=>exact absurd rfl ub
 |cons c r=>have hc:=hd c Ce;have hl:(c::r).getLast? = some ((c::r).getLast (by simp)):=List.getLast?_eq_some_getLast (by simp);have M3:=hd _ (getLast_mem (l:=c::r) (by simp));refine⟨?_,?_,hc,?_,by simp,?_⟩;unfold ma;rw[hl,zn];intro h;rw[Option.some.inj h.1] at M3;exact absurd M3 da;unfold La;simp only;rw[zn];intro h;rw[h.1] at hc;exact absurd hc da;unfold sf;rw[hl];exact M3;unfold Hw;rw[List.all_eq_true];exact λx hx=>qlp (hd x hx)
theorem VO(h:ib w=some n):Sz w:=by rw[<-((FA w n).1 h).2];exact TO n
theorem uy(h:w∈([[43],[45],[42],[94],[60],[47],[37],[64],[33],[63],[59],[36]]:List Wd)):Sign w:=by
 have:∀ w∈([[43],[45],[42],[94],[60],[47],[37],[64],[33],[63],[59],[36]]:List Wd),ma w=none/\La w=none/\Jl w=false/\sf w=false/\w.length=1:=by decide +kernel
 obtain⟨h1,h2,h3,h4,h5⟩:=this w h;exact⟨h1,h2,h3,h4,h5⟩
theorem qsO{c:Nat}{op:Wd}(h:Bo a op b=some c):Sign op:=by apply uy;unfold Bo at h;simp only[lc,not_mem_nil,or_false];split at h;exact .inl ‹_›;split at h;exact .inr (.inl ‹_›);split at h;exact .inr (.inr (.inl ‹_›));split at h;exact .inr (.inr (.inr (.inl ‹_›)));split at h;exact .inr (.inr (.inr (.inr (.inl ‹_›))));split at h;exact .inr (.inr (.inr (.inr (.inr (.inl ‹_›)))));split at h;exact .inr (.inr (.inr (.inr (.inr (.inr (.inl ‹_›))))));cases h
theorem wZ{op:Wd}(h:Kj x op y=some s):Sz x/\Sign op/\Sz y/\Sz s:=by obtain⟨c,_,rfl⟩:=nZ h;unfold Kj at h;split at h;rename_i a b ha hb;split at h;rename_i c' hc;exact⟨VO ha,qsO hc,VO hb,TO c⟩;cases h;cases h
theorem As{d:Wd}(h:La w=some d):ma w=none:=by
 unfold La at h;split at h;cases h;rename_i c r;split at h;rename_i hc;obtain⟨rfl,hn⟩:=hc;unfold ma;rw[zn];rintro⟨_,h2⟩;cases r with
 |nil=>cases hn
 |cons e r=>
  rw[List.dropLast_cons_of_ne_nil (by simp),qpR] at h2;have:Yk 38=false:=by decide
  rw[this] at h2;simp at h2
 cases h
theorem hZ{l:Wd}(h:Wl v i=some l):La (fa v i)=some l/\fa v (i+1)=[63]:=by unfold Wl at h;split at h;rename_i d hd;split at h;cases h;exact⟨hd,‹_›⟩;cases h;cases h
theorem qvM{l:Wd}(h:ma w=some l)(d:Bool)(r:List Wd):Sb d (w::r)=Sb d r:=by rw[Sb,h]
theorem qqc{l:Wd}(h:La w=some l)(d:Bool)(r:List Wd):Sb d (w::r)=one d+6+Sb true r:=by rw[Sb,As h,h]
theorem Sign.len(h:Sign w)(d:Bool)(r:List Wd):Sb d (w::r)=1+Sb false r:=by rw[Sb,h.d,h.r,h.f,h.l,h.n,Bool.and_false];simp[one]
theorem Sz.len(h:Sz w)(d:Bool)(r:List Wd):Sb d (w::r)=one d+w.length+Sb true r:=by rw[Sb,h.d,h.r,h.f,h.l,Bool.and_true]
theorem one_le(d:Bool):one d<=1:=by cases d <;> simp[one]
theorem oX:∀ r:List Wd,Sb true r<=Sb false r+1/\Sb false r<=Sb true r
 |[]=>⟨by simp[Sb],by simp[Sb]⟩
 |w::r=>by
  have ih:=oX r;have e1:one true=1:=rfl;have e0:one false=0:=rfl;have h1:=one_le (Jl w);rw[Sb,Sb];cases ma w with
  |some l=>exact ih
  |none=>
   cases La w with
   |some l=>simp only;omega
   |none=>simp only[Bool.true_and,Di,e0];omega
theorem mY(d:Bool)(r:List Wd):Sb d r<=Sb false r+1/\Sb false r<=Sb d r:=by
 cases d with
 |true=>exact oX r
 |false=>exact⟨by omega,Nb _⟩
theorem dM(r:List Wd):∀ (m:List Wd) (d:Bool),Sb false r<=Sb d (m++r)
 |[],d=>(mY d r).2
 |w::m,d=>by
  rw[cons_append,Sb];cases ma w with
  |some l=>exact dM r m d
  |none=>
   cases La w with
   |some l=>have:=dM r m true;simp only;omega
   |none=>have:=dM r m (sf w);simp only;omega
theorem WY(h:Sz w∨Sign w)(m r:List Wd)(d:Bool):Sb d r<=Sb d (w::(m++r)):=by have h1:=(mY d r).1;rcases h with h|h;have h2:=dM r m true;have h3:=h.n;rw[h.len];omega;have h2:=dM r m false;rw[h.len];omega
theorem FP{x y:List Wd}(h:∀ d,Sb d x<=Sb d y):∀ (m:List Wd) (d:Bool),Sb d (m++x)<=Sb d (m++y)
 |[],d=>h d
 |w::m,d=>by
  rw[cons_append,cons_append,Sb,Sb];cases ma w with
  |some l=>exact FP h m d
  |none=>
   cases La w with
   |some l=>have:=FP h m true;simp only;omega
   |none=>have:=FP h m (sf w);simp only;omega
theorem AE(w:Wd)(l:List Wd):yb (w::l)=(match ma w with|some d=>[d]|none=>[])++yb l:=by unfold yb;rw[List.filterMap_cons];try cases ma w <;> rfl
theorem Zj(h:ma w=none)(l:List Wd):yb (w::l)=yb l:=by rw[AE,h];try rfl
theorem Az(a b:List Wd):yb (a++b)=yb a++yb b:=List.filterMap_append
theorem f'{p:Wd->Bool}:∀ {l:List Wd} {x:Wd},x∈l.takeWhile p->p x=true
 |[],x,h=>by cases h
 |a::l,x,h=>by
  rw[List.takeWhile_cons] at h;split at h;rcases lc.1 h with rfl|h
  assumption
  exact f' h;cases h
structure iu(used:Wd->Bool)(v:List Wd)(r:Oq):Prop where
 len:∀ d rest,Sb d (r.2++rest)<=Sb d (v.take r.1++rest)
 put:yb r.2=[]
 aO:∀ d∈yb (v.take r.1),used d=false
theorem Bv:Sz [48]:=TO 0 |> λh=>by rwa [decDigits_one da] at h
theorem Fy:Sz [49]:=TO 1 |> λh=>by rwa [decDigits_one da] at h
theorem wU(used:Wd->Bool)(v:List Wd)(h:(ue used v).1≠0):iu used v (ue used v):=by
 by_cases h1:∃ s,jn v=some s
 ·obtain⟨s,h1⟩:=h1;rw[OS h1];have hl:=TP h1;have za:=gq (BE h1).2.1;obtain⟨k1,k2,k3,k4⟩:=wZ h1
  match v,za,hl,k1,k2,k3 with
  |a::b::c::r,_,hl,k1,k2,k3=>simp only[fa,Ql,Ls,getD_some] at hl k1 k2 k3;refine⟨λd rest=>?_,by rw[Zj k4.d];try rfl,λd hd=>?_⟩;simp only[take_succ_cons,take_zero,cons_append,nil_append];rw[k4.len,k1.len,k3.len,k2.len];have:=(oX rest).1;have e1:one true=1:=rfl;omega;simp only[take_succ_cons,take_zero] at hd;rw[Zj k1.d,Zj k3.d,Zj k2.d] at hd;cases hd
 have h1:jn v=Option.none:=by
  cases h:jn v with
  |none=>rfl
  |some s=>exact absurd ⟨s,h⟩ h1
 by_cases h2:wu v;rw[TS h1 h2];have Lc:Sz (fa v 0)/\Sign (fa v 1):=by rcases h2 with⟨e,h|h|h⟩|⟨e,h|h⟩;exact⟨by rw[e];exact Bv,by rw[h];exact uy da⟩;exact⟨by rw[e];exact Bv,by rw[h];exact uy da⟩;exact⟨by rw[e];exact Bv,by rw[h];exact uy da⟩;exact⟨by rw[e];exact Fy,by rw[h];exact uy da⟩;exact⟨by rw[e];exact Fy,by rw[h];exact uy da⟩
 have za:1<v.length:=gq (by intro h0;have:=Lc.2.n;rw[h0] at this;cases this);match v,za,Lc with
 |a::b::r,_,Lc=>simp only[fa,Ql,Ls,getD_some] at Lc;refine⟨λd rest=>WY (.inl Lc.1) [b] rest d,rfl,λd hd=>?_⟩;simp only[take_succ_cons,take_zero] at hd;rw[Zj Lc.1.d,Zj Lc.2.d] at hd;cases hd
 by_cases h3:cm v/\∃ s,cq v=some s
 ·obtain⟨h3,s,h4⟩:=h3;rw[bT h1 h2 h3 h4];have hl:=TP h4;have h5:fa v 3≠[]:=by rw[h3.2];exact(BE h4).2.1
  have za:=gq h5;have oF:=h3.2;obtain⟨k1,k2,k3,k4⟩:=wZ h4;match v,za,hl,k1,k2,k3,oF with
  |a::b::c::e::r,_,hl,k1,k2,k3,oF=>simp only[fa,Ql,Ls,getD_some] at hl k1 k2 k3 oF ⊢;subst oF;refine⟨λd rest=>?_,by rw[Zj k4.d,Zj k2.d];try rfl,λd hd=>?_⟩;simp only[take_succ_cons,take_zero,cons_append,nil_append];rw[k4.len,k1.len,k2.len,k2.len,k3.len,k2.len];omega;simp only[take_succ_cons,take_zero] at hd;rw[Zj k1.d,Zj k2.d,Zj k3.d,Zj k2.d] at hd;cases hd
 have h3:¬ cm v∨cq v=Option.none:=by by_cases hc:cm v;exact sD;exact .inl hc
 by_cases h4:Iw v;rw[NS h1 h2 h3 h4];obtain⟨g1,g2,g3,g4⟩:=h4;obtain⟨n,hn⟩:=zR g1;have kn:=VO hn;have za:=gq (v:=v) (i:=3) (by rw[g4];decide);match v,za,g2,g3,g4,kn with
 |a::b::c::e::r,_,g2,g3,g4,kn=>simp only[fa,Ql,Ls,getD_some] at g2 g3 g4 kn;subst g2 g3 g4;refine⟨λd rest=>WY (.inl kn) [[64],c,[33]] rest d,rfl,λd hd=>?_⟩;simp only[take_succ_cons,take_zero] at hd;rw[Zj kn.d,Zj (uy da).d,Zj kn.d,Zj (uy da).d] at hd;cases hd
 by_cases h5:vy v
 ·rw[QS h1 h2 h3 h4 h5];obtain⟨g0,g1,g2,g3,g4⟩:=h5;obtain⟨l,hl⟩:=zR g0;have h6:=Cz hl;obtain⟨j1,j2⟩:=hZ hl
  match v,h6,g1,g2,g3,g4,j1,j2 with
  |a::b::c::e::p::q::r,_,g1,g2,g3,g4,j1,j2=>simp only[fa,Ql,Ls,getD_some] at g1 g2 g3 g4 j1 j2 ⊢;subst g1 g2 g3 g4 j2;have JS:Sign [60]:=uy da;have UK:Sign [63]:=uy da;refine⟨λd rest=>?_,by rw[Zj (As j1),Zj UK.d];try rfl,λd hd=>?_⟩;simp only[take_succ_cons,take_zero,cons_append,nil_append];rw[Fy.len,JS.len,Fy.len,JS.len];have:=(mY d (p::[63]::rest)).1;have e1:([49]:Wd).length=1:=rfl;omega;simp only[take_succ_cons,take_zero] at hd;rw[Zj Fy.d,Zj JS.d,Zj Fy.d,Zj JS.d,Zj (As j1),Zj UK.d] at hd;cases hd
 have three:∀ (x:Wd),Sz x->fa v 0=x->(Wl v 1).isSome=true->iu used v (3,[]):=λx hx h0 hj=>by
  obtain⟨l,hl⟩:=zR hj;have h6:=Cz hl;obtain⟨j1,j2⟩:=hZ hl;clear h hj;match v,h6,h0,j1,j2 with
  |a::p::q::r,_,h0,j1,j2=>simp only[fa,Ql,Ls,getD_some] at h0 j1 j2;subst h0 j2;refine⟨λd rest=>WY (.inl hx) [p,[63]] rest d,rfl,λd hd=>?_⟩;simp only[take_succ_cons,take_zero] at hd;rw[Zj hx.d,Zj (As j1),Zj (uy da).d] at hd;cases hd
 cases h6:Kw v with
 |true=>rw[YS h1 h2 h3 h4 h5 h6];unfold Kw at h6;split at h6;rename_i n hn;exact three _ (VO hn) rfl (Hg h6).2;cases h6
 |false=>
  cases h7:jy v with
  |true=>
   rw[ZS h1 h2 h3 h4 h5 h6 h7];unfold jy at h7;split at h7
   ·rename_i l hl
    exact three _ Bv (Hg h7).1 (by rw[hl];try rfl)
   cases h7
  |false=>
   by_cases h8:qC v
   ·rw[XS h1 h2 h3 h4 h5 h6 h7 h8]
    have gl:yb (v.take (wj v))=[]/\∀ (d:Bool) (x y:List Wd),Sb false x<=Sb false y->Sb d (v.take (wj v)++x)<=Sb d (v.take (wj v)++y):=by
     have hp:=h8.1;revert hp;unfold wj;split
     ·rename_i hj
      intro _;obtain⟨l,hl⟩:=zR hj.1;have h6:=Cz hl;obtain⟨j1,j2⟩:=hZ hl;have h0:=hj.2;clear hj h8 hl h h1 h2 h3 h4 h5 h7 three;match v,h6,h0,j1,j2 with
      |a::p::q::r,_,h0,j1,j2=>
       simp only[fa,Ql,Ls,getD_some] at h0 j1 j2;subst h0 j2;have UK:Sign [63]:=uy da;refine⟨?_,λd x y B1=>?_⟩
       ·simp only[take_succ_cons,take_zero];rw[Zj Bv.d,Zj (As j1),Zj UK.d]
        try rfl
       simp only[take_succ_cons,take_zero,cons_append,nil_append];rw[Bv.len,Bv.len,qqc j1,qqc j1,UK.len,UK.len];omega
     split
     ·rename_i hs
      intro _;have SC:Sign (fa v 0):=by rcases hs with h|h <;> rw[h] <;> exact uy da
      have za:0<v.length:=gq (by intro h0;have:=SC.n;rw[h0] at this;cases this);clear hs h8 h h1 h2 h3 h4 h5 h6 h7 three;match v,za,SC with
      |a::r,_,SC=>
       simp only[fa,Ql,getD_some] at SC;refine⟨?_,λd x y B1=>?_⟩
       ·simp only[take_succ_cons,take_zero];rw[Zj SC.d]
        try rfl
       simp only[take_succ_cons,take_zero,cons_append,nil_append];rw[SC.len,SC.len];omega
     intro hp;omega
    have YE:v.take (wj v+fq (v.drop (wj v)))=v.take (wj v)++(v.drop (wj v)).takeWhile λw=>(ma w).isNone:=by rw[List.take_add];congr 1;unfold fq;exact(List.prefix_iff_eq_take.1 (List.takeWhile_prefix _)).symm
    refine⟨λd rest=>?_,gl.1,λd hd=>?_⟩;simp only;rw[YE,Pc];exact gl.2 d _ _ (dM rest _ false);simp only at hd;rw[YE,Az,gl.1,nil_append] at hd;exfalso;obtain⟨w,hw,hwd⟩:=List.mem_filterMap.1 hd;have:=f' hw;rw[hwd] at this;cases this
   rw[US h1 h2 h3 h4 h5 h6 h7 h8] at h ⊢;have hU:uu used v=match ma (fa v 0) with
    |some l=>if used l=true then (0,[]) else (1,[])
    |none=>(0,[]):=rfl
   cases hd:ma (fa v 0) with
   |none=>rw[hd] at hU;rw[hU] at h;exact absurd rfl h
   |some l=>
    rw[hd] at hU;simp only at hU;by_cases hu:used l=true;rw[zp hu] at hU;rw[hU] at h;exact absurd rfl h;rw[zn hu] at hU;rw[hU];have za:0<v.length:=gq (by intro h0;rw[h0] at hd;cases hd);clear hU h h1 h2 h3 h4 h5 h6 h7 h8 three;match v,za,hd with
    |a::r,_,hd=>
     simp only[fa,Ql,getD_some] at hd;refine⟨λd rest=>?_,rfl,λd nK=>?_⟩;simp only[take_succ_cons,take_zero,cons_append,nil_append];rw[qvM hd];exact Nb _;simp only[take_succ_cons,take_zero] at nK;rw[AE,hd] at nK;have:d=l:=by simpa [yb] using nK
     rw[this];exact Bool.eq_false_iff.2 hu
theorem vZ(used:Wd->Bool):∀ (f:Nat) (l:List Wd) (d:Bool),l.length<=f->Sb d (Wj used f l)<=Sb d l
 |0,l,d,h=>by have:l=[]:=List.eq_nil_of_length_eq_zero (by omega);subst this;exact Nb _
 |f+1,[],d,_=>Nb _
 |f+1,w::r,d,h=>by
  rw[Wj];split;exact FP (x:=Wj used f r) (y:=r) (λd=>vZ used f r d (by simp only[Ba] at h;omega)) [w] d
  rename_i h0;have hR:=wU used (w::r) h0;have hk:=BG used (w::r) h0;have ih:=λd=>vZ used f ((w::r).drop (ue used (w::r)).1) d (by rw[length_drop];omega);have h1:=FP ih (ue used (w::r)).2 d;have h2:=hR.len d ((w::r).drop (ue used (w::r)).1);rw[take_append_drop] at h2;exact Se h1 h2
theorem iZ(used:Wd->Bool):∀ (f:Nat) (l:List Wd),l.length<=f->(yb (Wj used f l)).Sublist (yb l)/\∀ d∈yb l,used d=true->d∈yb (Wj used f l)
 |0,l,h=>by have:l=[]:=List.eq_nil_of_length_eq_zero (by omega);subst this;exact⟨List.Sublist.refl _,λd hd=>by cases hd⟩
 |f+1,[],_=>⟨List.Sublist.refl _,λd hd=>by cases hd⟩
 |f+1,w::r,h=>by
  rw[Wj];split;obtain⟨i1,i2⟩:=iZ used f r (by simp only[Ba] at h;omega);rw[AE w r,AE w (Wj used f r)];refine⟨List.Sublist.append (List.Sublist.refl _) i1,λd hd hu=>?_⟩;rcases vj hd with hd|hd;exact List.mem_append_left _ hd;exact List.mem_append_right _ (i2 d hd hu)
  rename_i h0;have hR:=wU used (w::r) h0;obtain⟨i1,i2⟩:=iZ used f ((w::r).drop (ue used (w::r)).1) (by have:=BG used (w::r) h0;rw[length_drop];omega);have hs:yb (w::r)=yb ((w::r).take (ue used (w::r)).1)++yb ((w::r).drop (ue used (w::r)).1):=by rw[<-Az,take_append_drop]
  rw[Az,hR.put,nil_append];refine⟨i1.trans (by rw[hs];exact List.sublist_append_right _ _),λd hd hu=>?_⟩;rw[hs] at hd;rcases vj hd with hd|hd;rw[hR.aO d hd] at hu;cases hu;exact i2 d hd hu
theorem qqh(h:Ts l):Ts (dp l):=by
 obtain⟨h1,h2⟩:=h;obtain⟨i1,i2⟩:=iZ (dd l) l.length l (Nb _);refine⟨h1.sublist i1,λw hw=>?_⟩;have hm:=CP (P:=λw=>w∈l∨∃ n,w=decDigits n) (λn _=>.inr ⟨n,rfl⟩) (dd l) l.length l (λw hw=>.inl hw) w hw;rcases hm with hm|⟨n,rfl⟩;have hk:=h2 w hm;unfold ko at hk ⊢
 cases hd:ma w with
 |some d=>trivial
 |none=>
  rw[hd] at hk;simp only at hk ⊢;cases hr:La w with
  |none=>rw[hr] at hk;exact hk
  |some d=>rw[hr] at hk;simp only at hk ⊢;refine i2 d hk ?_;unfold dd;rw[List.any_eq_true];exact⟨w,hm,Vg hr⟩
 have hk:=TO n;unfold ko;rw[hk.d,hk.r];exact hk.c
theorem qpM:∀ (f:Nat) (l:List Wd),Ts l->Ts (Ng f l)/\Sb false (Ng f l)<=Sb false l
 |0,l,h=>⟨h,Nb _⟩
 |f+1,l,h=>by rw[Ng];split;exact⟨h,Nb _⟩;obtain⟨i1,i2⟩:=qpM f _ (qqh h);exact⟨i1,Se i2 (vZ _ _ l false (Nb _))⟩
theorem qx8(h:Ts l):Ts (Uh l)/\Sb false (Uh l)<=Sb false l:=qpM _ _ h
def ep(n:Nat):Wd:=([48,48,48,48,48]++decDigits n).drop (([48,48,48,48,48]++decDigits n).length-6)
def Ke(known:Wd->Nat)(w:Wd):Wd:=match La w with
 |some x=>ep (known x)
 |none=>w
def Yd(known:Wd->Nat)(t w:Wd):Wd:=match ma w with
 |some _=>t
 |none=>t++(if sf t && Jl (Ke known w) then [32] else [])++Ke known w
def Uk(known:Wd->Nat)(l:List Wd):Wd:=l.foldl (Yd known) []
def Lg(known:Wd->Nat)(og:Nat)(s:Wd×List (Wd×Nat))(w:Wd):Wd×List (Wd×Nat):=match ma w with
 |some x=>(s.1,s.2++[(x,og+s.1.length)])
 |none=>(Yd known s.1 w,s.2)
def cp(known:Wd->Nat)(og:Nat)(l:List Wd):List (Wd×Nat):=(l.foldl (Lg known og) ([],[])).2
def Un(Za:List (Wd×Nat))(x:Wd):Nat:=match Za.find? λp=>decide (p.1=x) with
 |some p=>p.2
 |none=>0
def ze(all:List Wd):List Wd->List (Wd×Nat)->Nat×Nat
 |_,[]=>(0,0)
 |met,(w,ln)::r=>match ma w with
  |some x=>if x∈met then (ln,8) else ze all (met++[x]) r
  |none=>match La w with
   |some x=>if x∈all then ze all met r else (ln,7)
   |none=>if Hw w=true then ze all met r else (ln,3)
def vh(src:Wd)(og:Int):Except (Nat×Nat) (Wd×List (Wd×Nat)):=
 if og<0∨262144<=og then .error (0,2)
 else if (ze (yb (xj src)) [] (nu src)).2≠0 then .error (ze (yb (xj src)) [] (nu src))
 else if 40000<(Uk (Un (cp (λ_=>0) og.toNat (xj src))) (xj src)).length then .error (0,6)
 else .ok (Uk (Un (cp (λ_=>0) og.toNat (xj src))) (xj src),cp (λ_=>0) og.toNat (xj src))
theorem BP(n:Nat):(ep n).length=6/\∀ c∈ep n,Rd c=true:=by have h1:1<=(decDigits n).length:=List.length_pos_iff.2 (qJ n);constructor;unfold ep;rw[length_drop,ya];simp only[Ba,dc];omega;intro c hc;have h2:=List.mem_of_mem_drop hc;rcases vj h2 with h|h;simp only[lc,not_mem_nil,or_false,or_self] at h;rw[h];decide;exact mM n c h
theorem qpl{known:Wd->Nat}(me:Wd->Nat):Jl (Ke known w)=Jl (Ke me w)/\sf (Ke known w)=sf (Ke me w)/\(Ke known w).length=(Ke me w).length:=by
 unfold Ke;cases La w with
 |none=>exact⟨rfl,rfl,rfl⟩
 |some x=>
  have key:∀ n,Jl (ep n)=true/\sf (ep n)=true/\(ep n).length=6:=λn=>by
   obtain⟨h1,h2⟩:=BP n;have ub:ep n≠[]:=λh=>by rw[h] at h1;cases h1
   refine⟨?_,?_,h1⟩;cases h:ep n with
   |nil=>exact absurd h ub
   |cons c r=>exact h2 c (by rw[h];simp)
   unfold sf;rw[List.getLast?_eq_some_getLast ub];exact h2 _ (getLast_mem ub)
  obtain⟨a1,a2,a3⟩:=key (known x);obtain⟨b1,b2,b3⟩:=key (me x);exact⟨a1.trans b1.symm,a2.trans b2.symm,a3.trans b3.symm⟩
theorem zY{a b:Wd}(h:b≠[]):sf (a++b)=sf b:=by unfold sf;rw[List.getLast?_append,List.getLast?_eq_some_getLast h];try rfl
theorem zP(known:Wd->Nat)(t w:Wd)(hd:ma w=none)(hw:w≠[]):Ke known w≠[]/\sf (Yd known t w)=sf (Ke known w)/\(Yd known t w).length=t.length+one (sf t && Jl (Ke known w))+(Ke known w).length:=by
 have hp:Ke known w≠[]:=by
  unfold Ke;cases La w with
  |none=>exact hw
  |some x=>intro h;have:=(BP (known x)).1;rw[show ep (known x)=[] from h] at this;cases this
 refine⟨hp,?_,?_⟩;unfold Yd;rw[hd];exact zY hp;unfold Yd;rw[hd];simp only[ya,one];split <;> rfl
theorem SY(known:Wd->Nat):∀ (l:List Wd) (t:Wd),(∀ w∈l,w≠[])->(l.foldl (Yd known) t).length=t.length+Sb (sf t) l
 |[],t,_=>rfl
 |w::r,t,h=>by
  have hr:=λx hx=>h x (Gc w hx);rw[foldl_cons,SY known r _ hr,Sb]
  cases hd:ma w with
  |some x=>
   have:Yd known t w=t:=by unfold Yd;rw[hd]
   rw[this]
  |none=>
   obtain⟨h1,h2,h3⟩:=zP known t w hd (h w (by simp));rw[h2,h3];cases hr:La w with
   |some x=>
    have hp:Ke known w=ep (known x):=by unfold Ke;rw[hr]
    obtain⟨a1,a2⟩:=BP (known x);have hf:Jl (ep (known x))=true:=by
     cases h:ep (known x) with
     |nil=>rw[h] at a1;cases a1
     |cons c q=>exact a2 c (by rw[h];simp)
    have hl:sf (ep (known x))=true:=by
     have ub:ep (known x)≠[]:=λh=>by rw[h] at a1;cases a1
     unfold sf;rw[List.getLast?_eq_some_getLast ub];exact a2 _ (getLast_mem ub)
    rw[hp,hf,hl,a1,Bool.and_true];simp only;omega
   |none=>
    have hp:Ke known w=w:=by unfold Ke;rw[hr]
    rw[hp];simp only;omega
theorem AY(known:Wd->Nat)(l:List Wd)(h:∀ w∈l,w≠[]):(Uk known l).length=Sb false l:=by have:=SY known l [] h;rw[Uk,this];simp[sf]
theorem EU(known:Wd->Nat)(og:Nat):∀ (l:List Wd) (s:Wd×List (Wd×Nat)),(l.foldl (Lg known og) s).1=l.foldl (Yd known) s.1
 |[],s=>rfl
 |w::r,s=>by
  rw[foldl_cons,foldl_cons,EU known og r];congr 1;unfold Lg;cases hd:ma w with
  |some x=>simp only;unfold Yd;rw[hd]
  |none=>rfl
theorem OX(known me:Wd->Nat)(og:Nat):∀ (l:List Wd) (s s':Wd×List (Wd×Nat)),(∀ w∈l,w≠[])->s.1.length=s'.1.length->sf s.1=sf s'.1->s.2=s'.2->(l.foldl (Lg known og) s).2=(l.foldl (Lg me og) s').2
 |[],s,s',_,_,_,h=>h
 |w::r,s,s',hw,h1,h2,h3=>by
  rw[foldl_cons,foldl_cons];have hr:=λx hx=>hw x (Gc w hx)
  cases hd:ma w with
  |some x=>
   have e1:Lg known og s w=(s.1,s.2++[(x,og+s.1.length)]):=by unfold Lg;rw[hd]
   have e2:Lg me og s' w=(s'.1,s'.2++[(x,og+s'.1.length)]):=by unfold Lg;rw[hd]
   rw[e1,e2];exact OX known me og r _ _ hr h1 h2 (by simp only[h3,h1])
  |none=>
   have e1:Lg known og s w=(Yd known s.1 w,s.2):=by unfold Lg;rw[hd]
   have e2:Lg me og s' w=(Yd me s'.1 w,s'.2):=by unfold Lg;rw[hd]
   rw[e1,e2];obtain⟨a1,a2,a3⟩:=zP known s.1 w hd (hw w (by simp));obtain⟨b1,b2,b3⟩:=zP me s'.1 w hd (hw w (by simp));obtain⟨c1,c2,c3⟩:=qpl (known:=known) (w:=w) me;exact OX known me og r _ _ hr (by rw[a3,b3,c1,c3,h1,h2]) (by rw[a2,b2,c2]) h3
theorem qn9(known me:Wd->Nat)(og:Nat)(l:List Wd)(h:∀ w∈l,w≠[]):cp known og l=cp me og l:=OX known me og l _ _ h rfl rfl rfl
theorem DZ(known:Wd->Nat)(og:Nat):∀ (l:List Wd) (s:Wd×List (Wd×Nat)),((l.foldl (Lg known og) s).2).map (·.1)=s.2.map (·.1)++yb l
 |[],s=>by simp[yb]
 |w::r,s=>by
  rw[foldl_cons,DZ known og r];unfold Lg yb;cases hd:ma w with
  |some x=>simp[hd]
  |none=>simp[hd]
def wG:List UInt8:=[97,98,99,100,101,102,103,104,105,106,107,108,109,110,111,112,113,114,115,116,117,118,119,120,121,122,48,49,50,51,52,53,54,55,56,57,95]
theorem qmD:∀ n:Nat,n<256->wG.contains (UInt8.ofNat n)=yi (UInt8.ofNat n):=by decide +kernel
theorem qtd(c:UInt8):wG.contains c=yi c:=by have h:=qmD c.toNat c.toNat_lt;rwa [UInt8.ofNat_toNat] at h
theorem sJ{p:UInt8->Bool}:∀ {l:List UInt8},l.dropWhile p=[] ↔ l.all p=true
 |[]=>by simp
 |c::l=>by
  rw[List.dropWhile_cons,List.all_cons];cases h:p c with
  |true=>simpa using sJ
  |false=>simp
theorem qv8(s:List UInt8):(trimS s wG=[]) ↔ s.all yi=true:=by
 have he:(λc=>wG.contains c)=yi:=funext qtd;unfold trimS trimLeftS trimRightS;rw[he,sJ];constructor;intro h;by_cases h2:s.reverse.dropWhile yi=[];rw[sJ] at h2;rw[all_reverse] at h2;exact h2;exfalso;obtain⟨c,r,NH⟩:=List.exists_cons_of_ne_nil h2;have h3:yi c=false:=by have:=List.head?_dropWhile_not yi s.reverse;rw[NH] at this;simpa using this
 rw[NH,all_reverse,List.all_cons,h3] at h;cases h;intro h;have h2:s.reverse.dropWhile yi=[]:=by rw[sJ,all_reverse];exact h
 rw[h2];try rfl
theorem j'(r:List UInt8):hasPrefix (38::r) [38]=true/\trimPrefix (38::r) [38]=r:=by simp[trimPrefix,hasPrefix,List.isPrefixOf]
theorem qv3(h:c≠38)(r:List UInt8):hasPrefix (c::r) [38]=false:=by have:¬ (38:UInt8)=c:=λe=>h e.symm;simp[hasPrefix,List.isPrefixOf,this]
theorem D8(w:Wd):La w=if hasPrefix w [38]=true/\mu (trimPrefix w [38])=true then some (trimPrefix w [38]) else none:=by
 cases w with
 |nil=>rfl
 |cons c r=>by_cases h:c=38;subst h;rw[(j' r).1,(j' r).2];simp[La];rw[qv3 h];simp[La,h]
theorem qlU(w:Wd):hasSuffix w [58]=decide (w.getLast? = some 58):=by unfold hasSuffix;rw[Bool.eq_iff_iff,List.isSuffixOf_iff_suffix,decide_eq_true_iff];constructor;rintro⟨t,rfl⟩;simp;intro h;rw[List.getLast?_eq_some_iff] at h;obtain⟨t,rfl⟩:=h;exact⟨t,rfl⟩
theorem r9(w:Wd):ma w=if hasSuffix w [58]=true/\mu (trimSuffix w [58])=true then some (trimSuffix w [58]) else none:=by
 rw[qlU];unfold ma;by_cases h:w.getLast? = some 58
 ·have h2:trimSuffix w [58]=w.dropLast:=by
   unfold trimSuffix;rw[qlU,Vg h,zp rfl,List.dropLast_eq_take];try rfl
  rw[h2];simp[h]
 simp[h]
structure MS where
 mem:Nat->Nat
 pc:Nat
 data:List Nat
 calls:List Nat
 xa:List Nat
 out:Wd
 digit:Bool
variable{s':MS}
inductive MR where
 |run (s:MS)
 |stop (e:Nat) (out:Wd)
def MR.Td(s:MS):MR:=.stop 12 s.out
def Vn(v:Nat)(s:MS):MR:=if s.data.length<256 then .run { s with data:=v::s.data } else .Td s
def ad(c a b:Nat):Option Nat:=
 if c=43 then some ((a+b) % 4294967296)
 else if c=45 then some ((a+4294967296-b) % 4294967296)
 else if c=42 then some (a * b % 4294967296)
 else if c=47 then (if b=0 then none else some (a / b))
 else if c=37 then (if b=0 then none else some (a % b))
 else if c=94 then some (a ^^^ b)
 else some (if a<b then 1 else 0)
def pn(c:Nat):Bool:=decide (48<=c) && decide (c<=57)
def YD(c:Nat)(s:MS):MR:=if s.digit=true then (match s.data with
 |d::r=>.run { s with data:=(d * 10+c-48) % 4294967296::r }
 |[]=>.Td s) else Vn (c-48) s
def kH(s:MS):MR:=match s.data with
 |a::r=>if a<262144 then Vn (s.mem a) { s with data:=r } else .Td s
 |[]=>.Td s
def Dp(s:MS):MR:=match s.data with
 |a::v::r=>if a<262144 then .run { s with data:=r,mem:=λi=>if i=a then v else s.mem i } else .Td s
 |_=>.Td s
def Ht(s:MS):MR:=match s.data with
 |t::v::r=>.run { s with data:=r,pc:=if v=0 then t else s.pc }
 |_=>.Td s
def dG(s:MS):MR:=match s.data with
 |t::r=>if s.calls.length<64 then .run { s with data:=r,calls:=s.pc::s.calls,pc:=t } else .Td s
 |[]=>.Td s
def mw(s:MS):MR:=match s.calls with
 |t::r=>.run { s with calls:=r,pc:=t }
 |[]=>.Td s
def VK(s:MS):MR:=match s.xa with
 |v::r=>Vn v { s with xa:=r }
 |[]=>Vn 4294967295 s
def KD(s:MS):MR:=match s.data with
 |v::r=>.run { s with data:=r,out:=s.out++[UInt8.ofNat v] }
 |[]=>.Td s
def NC(c:Nat)(s:MS):MR:=match s.data with
 |b::a::r=>(match ad c a b with
  |some v=>Vn v { s with data:=r }
  |none=>.Td s)
 |_=>.Td s
def yd(c:Nat)(s:MS):MR:=
 if pn c=true then YD c s
 else if c=32∨c=10 then .run s
 else if c=64 then kH s
 else if c=33 then Dp s
 else if c=63 then Ht s
 else if c=58 then dG s
 else if c=59 then mw s
 else if c=44 then VK s
 else if c=46 then KD s
 else if c=36 then .stop 0 s.out
 else if c=43∨c=45∨c=42∨c=47∨c=37∨c=94∨c=60 then NC c s
 else .Td s
def Sa(s:MS):MR:=
 if s.pc<262144 then (match yd (s.mem s.pc) { s with pc:=s.pc+1 } with
  |.run s'=>.run { s' with digit:=pn (s.mem s.pc) }
  |.stop e o=>.stop e o)
 else .Td s
def runM:Nat->MS->Nat×Wd×Nat
 |0,s=>(13,s.out,0)
 |n+1,s=>match Sa s with
  |.run s'=>((runM n s').1,(runM n s').2.1,(runM n s').2.2+1)
  |.stop e o=>(e,o,1)
def Tr(code:Wd)(og:Nat):Nat->Nat:=λi=>if og<=i then (match code[i-og]? with
 |some c=>c.toNat
 |none=>0) else 0
def Zu(code:Wd)(og:Nat)(xa:List Nat):MS:=⟨Tr code og,og,[],[],xa,[],false⟩
inductive wh:Nat->MS->MS->Prop
 |zero (s:MS):wh 0 s s
 |step {k:Nat} {s s' s2:MS}:Sa s=.run s'->wh k s' s2->wh (k+1) s s2
theorem wh.one{s:MS}(h:Sa s=.run s'):wh 1 s s':=.step h (.zero _)
theorem wh.trans{s s2:MS}(h:wh a s s')(k:wh b s' s2):wh (a+b) s s2:=by
 induction h with
 |zero s=>rw[Nat.zero_add];exact k
 |step h1 _ ih=>rw[Nat.add_right_comm];exact .step h1 (ih k)
theorem qyB{k:Nat}{s:MS}(h:wh k s s'):∀ n,runM (k+n) s=((runM n s').1,(runM n s').2.1,(runM n s').2.2+k):=by
 induction h with
 |zero s=>intro n;rw[Nat.zero_add];try rfl
 |step h1 _ ih=>intro n;rw[Nat.add_right_comm,runM,h1];simp only;rw[ih n];simp only[add_assoc]
def pf(m:Nat)(s s':MS):Prop:=∃ k,k<=m/\wh k s s'
theorem pf.one{s s':MS}(h:Sa s=.run s'):pf 1 s s':=⟨1,Nb _,.one h⟩
def Fw(mem:Nat->Nat)(p:Nat)(t:Wd):Prop:=∀ i (h:i<t.length),mem (p+i)=(t[i]).toNat
theorem Fw.app{mem:Nat->Nat}{p:Nat}{a b:Wd}(h:Fw mem p (a++b)):Fw mem p a/\Fw mem (p+a.length) b:=by constructor;intro i hi;have:=h i (by rw[ya];omega);rw[List.getElem_append_left hi] at this;exact this;intro i hi;have:=h (a.length+i) (by rw[ya];omega);rw[List.getElem_append_right (by omega)] at this;rw[add_assoc];simpa using this
theorem Fw.pre{mem:Nat->Nat}{p:Nat}{a t:Wd}(h:Fw mem p t)(hp:a <+: t):Fw mem p a:=by obtain⟨b,rfl⟩:=hp;exact h.app.1
theorem qyb(code:Wd)(og:Nat):Fw (Tr code og) og code:=λi hi=>by unfold Tr;rw[zp (Nat.le_add_right _ _),Nat.add_sub_cancel_left,di hi]
def Ig(a:Nat)(l:Wd):Nat:=l.foldl (λa c=>10 * a+(c.toNat-48)) a
theorem qqV(a:Nat)(l m:Wd):Ig a (l++m)=Ig (Ig a l) m:=List.foldl_append ..
theorem RL:Rd c=true ↔ 48<=c.toNat/\c.toNat<=57:=by
 have h:∀ n:Nat,n<256->(Rd (UInt8.ofNat n)=true ↔ 48<=n/\n<=57):=by decide +kernel
 have:=h c.toNat c.toNat_lt;rwa [UInt8.ofNat_toNat] at this
theorem cY(u:Nat):Ig 0 (decDigits u)=u:=by
 rw[decDigits];split;rename_i h;unfold Ig;simp only[foldl_cons,List.foldl_nil];have:(UInt8.ofNat (48+u)).toNat=48+u:=by rw[UInt8.toNat_ofNat'];omega
 rw[this];omega;rename_i h;have ih:=cY (u / 10);rw[qqV,ih];unfold Ig;simp only[foldl_cons,List.foldl_nil];have:(UInt8.ofNat (48+u % 10)).toNat=48+u % 10:=by rw[UInt8.toNat_ofNat'];omega
 rw[this];omega
termination_by u
theorem qlK:∀ k:Nat,Ig 0 (List.replicate k 48)=0
 |0=>rfl
 |k+1=>by have:=qlK k;rw[List.replicate_succ];exact this
theorem GC:∀ (k n:Nat),n<10 ^ (k+1)->(decDigits n).length<=k+1
 |0,n,h=>by rw[decDigits,dif_pos (by simpa using h)];simp
 |k+1,n,h=>by rw[decDigits];split;simp;have:=GC k (n / 10) (by rw[Nat.pow_succ] at h;omega);rw[ya,List.length_singleton];omega
theorem qoo(h:n<1000000):Ig 0 (ep n)=n:=by
 have h1:=GC 5 n h;have h2:1<=(decDigits n).length:=List.length_pos_iff.2 (qJ n);have h3:ep n=List.replicate (6-(decDigits n).length) 48++decDigits n:=by
  unfold ep;rw[ya,List.drop_append_of_le_length (by simp only[Ba,dc];omega)];congr 1;have:∀ k:Nat,k<=6->1<=k->([48,48,48,48,48]:Wd).drop (([48,48,48,48,48]:Wd).length+k-6)=List.replicate (6-k) 48:=by
   intro k hk h1;have:k=1∨k=2∨k=3∨k=4∨k=5∨k=6:=by omega
   rcases this with rfl|rfl|rfl|rfl|rfl|rfl <;> rfl
  exact this _ h1 h2
 rw[h3,qqV,qlK,cY]
theorem qvA(l:Wd):∀ a:Nat,(∀ c∈l,Rd c=true)->l.foldl (λa c=>(a * 10+c.toNat-48) % 4294967296) (a % 4294967296)=Ig a l % 4294967296:=by
 induction l with
 |nil=>intro a _;rfl
 |cons c l ih=>
  intro a h;have hc:=RL.1 (h c (by simp));have h1:=ih (a * 10+c.toNat-48) λx hx=>h x (Gc _ hx)
  have h2:Ig a (c::l)=Ig (a * 10+c.toNat-48) l:=by unfold Ig;rw[foldl_cons];congr 1;omega
  rw[h2,<-h1,foldl_cons];congr 1;omega
theorem qns:∀ (l:Wd) (s:MS) (d:Nat) (r:List Nat),(∀ c∈l,Rd c=true)->s.digit=true->s.data=d::r->Fw s.mem s.pc l->s.pc+l.length<=262144 ->
  wh l.length s { s with pc:=s.pc+l.length,data:=l.foldl (λa c=>(a * 10+c.toNat-48) % 4294967296) d::r }
 |[],s,d,r,_,_,hd,_,_=>by
  have:({ s with pc:=s.pc+([]:Wd).length,data:=([]:Wd).foldl (λa c=>(a * 10+c.toNat-48) % 4294967296) d::r }:MS)=s:=by cases s;simp only at hd;subst hd;rfl
  rw[this];exact .zero s
 |c::l,s,d,r,h,hg,hd,hm,hp=>by
  have hc:=h c (by simp);have dD:=RL.1 hc;have vB:=hm 0 (by simp);simp only[add_zero,List.getElem_cons_zero] at vB;have gR:pn c.toNat=true:=by unfold pn;simp[dD.1,dD.2]
  rw[Ba] at hp;have gl:Sa s=.run { s with pc:=s.pc+1,data:=(d * 10+c.toNat-48) % 4294967296::r }:=by unfold Sa;rw[zp (by omega),vB];unfold yd YD;rw[zp gR];simp only[hg,if_true,hd,gR]
  have Uy:Fw s.mem (s.pc+1) l:=λi hi=>by have:=hm (i+1) (by rw[Ba];omega);rw[show s.pc+1+i=s.pc+(i+1) by omega];simpa using this
  have ih:=qns l { s with pc:=s.pc+1,data:=(d * 10+c.toNat-48) % 4294967296::r } _ r (λx hx=>h x (Gc _ hx)) hg rfl Uy (by simp only;omega)
  have e:({ s with pc:=s.pc+(c::l).length,data:=(c::l).foldl (λa c=>(a * 10+c.toNat-48) % 4294967296) d::r }:MS)={ s with pc:=s.pc+1+l.length,data:=l.foldl (λa c=>(a * 10+c.toNat-48) % 4294967296) ((d * 10+c.toNat-48) % 4294967296)::r }:=by rw[Ba,foldl_cons,add_assoc,Nat.add_comm 1]
  rw[e];exact .step gl ih
theorem qqR{l:Wd}{s:MS}(ub:l≠[])(h:∀ c∈l,Rd c=true)(hg:s.digit=false)(Na:s.data.length<256)(hm:Fw s.mem s.pc l)(hp:s.pc+l.length<=262144)(hv:Ig 0 l<4294967296) :
  wh l.length s { s with pc:=s.pc+l.length,data:=Ig 0 l::s.data,digit:=true }:=by
 cases l with
 |nil=>exact absurd rfl ub
 |cons c l=>
  have hc:=h c (by simp);have dD:=RL.1 hc;have vB:=hm 0 (by simp);simp only[add_zero,List.getElem_cons_zero] at vB;have gR:pn c.toNat=true:=by unfold pn;simp[dD.1,dD.2]
  rw[Ba] at hp;have gl:Sa s=.run { s with pc:=s.pc+1,data:=(c.toNat-48)::s.data,digit:=true }:=by unfold Sa;rw[zp (by omega),vB];unfold yd YD Vn;rw[zp gR];simp[hg,Na,gR]
  have Uy:Fw s.mem (s.pc+1) l:=λi hi=>by have:=hm (i+1) (by rw[Ba];omega);rw[show s.pc+1+i=s.pc+(i+1) by omega];simpa using this
  have hl:=λx hx=>h x (Gc c hx);have ih:=qns l { s with pc:=s.pc+1,data:=(c.toNat-48)::s.data,digit:=true } _ s.data hl rfl rfl Uy (by simp only;omega);have h3:=qvA l (c.toNat-48) hl;have h4:Ig 0 (c::l)=Ig (c.toNat-48) l:=by unfold Ig;rw[foldl_cons];congr 1;omega
  rw[Nat.mod_eq_of_lt (show c.toNat-48<4294967296 by omega),<-h4,Nat.mod_eq_of_lt hv] at h3;rw[h3] at ih;have e:({ s with pc:=s.pc+(c::l).length,data:=Ig 0 (c::l)::s.data,digit:=true }:MS)={ s with pc:=s.pc+1+l.length,data:=Ig 0 (c::l)::s.data,digit:=true }:=by rw[Ba,add_assoc,Nat.add_comm 1]
  rw[e];exact .step gl ih
structure PW where
 W:List Wd
 og:Nat
 known:Wd->Nat
def PW.pre(C:PW)(i:Nat):Wd:=Uk C.known (C.W.take i)
def PW.Uc(C:PW)(i:Nat):Nat:=C.og+(C.pre i).length
def PW.At(C:PW)(s:MS)(i:Nat):Prop:=s.pc=C.Uc i/\(s.digit=true->sf (C.pre i)=true)
structure PW.Ok(C:PW)(mem:Nat->Nat):Prop where
 here:Fw mem C.og (Uk C.known C.W)
 fits:C.og+(Uk C.known C.W).length<=262144
theorem qwT(known:Wd->Nat)(t w:Wd):t <+: Yd known t w:=by unfold Yd;split;exact C7 _;rw[Pc];exact List.prefix_append _ _
theorem qor(known:Wd->Nat):∀ (l:List Wd) (t:Wd),t <+: l.foldl (Yd known) t
 |[],t=>C7 _
 |w::l,t=>List.IsPrefix.trans (qwT known t w) (qor known l _)
theorem PW.Tw(C:PW)(i:Nat):C.pre i <+: Uk C.known C.W:=by
 have h:Uk C.known C.W=(C.W.drop i).foldl (Yd C.known) (C.pre i):=by unfold PW.pre Uk;rw[<-List.foldl_append,take_append_drop]
 rw[h];exact qor _ _ _
theorem PW.ct(C:PW)(h:C.W[i]? = some w):C.pre (i+1)=Yd C.known (C.pre i) w:=by obtain⟨hi,rfl⟩:=List.getElem?_eq_some_iff.1 h;unfold PW.pre Uk;rw[List.take_succ_eq_append_getElem hi,List.foldl_append];try rfl
theorem PW.vv(C:PW)(i:Nat):C.Uc i<=C.og+(Uk C.known C.W).length:=by have:=(C.Tw i).length_le;unfold PW.Uc;omega
theorem PW.piece{C:PW}{mem:Nat->Nat}(hk:C.Ok mem)(hw:C.W[i]? = some w)(hd:ma w=none) :
  C.pre (i+1)=C.pre i++(if sf (C.pre i) && Jl (Ke C.known w) then [32] else [])++Ke C.known w /\
  Fw mem (C.Uc i) ((if sf (C.pre i) && Jl (Ke C.known w) then [32] else [])++Ke C.known w)/\C.Uc (i+1)<=262144:=by
 have h1:=C.ct hw;have h2:Yd C.known (C.pre i) w=C.pre i++(if sf (C.pre i) && Jl (Ke C.known w) then [32] else [])++Ke C.known w:=by unfold Yd;rw[hd]
 rw[h2] at h1;refine⟨h1,?_,Se (C.vv _) hk.fits⟩;have h3:=hk.here.pre (C.Tw (i+1));rw[h1,Pc] at h3;exact h3.app.2
theorem PW.sign{C:PW}{s:MS}(hk:C.Ok s.mem)(h:C.At s i)(hw:C.W[i]? = some [c])(hd:ma [c]=none)(hr:La [c]=none)(hc:Rd c=false) :
  Sa s=(match yd c.toNat { s with pc:=C.Uc (i+1) } with
   |.run s'=>.run { s' with digit:=false }
   |.stop e o=>.stop e o)/\sf (C.pre (i+1))=false:=by
 obtain⟨h1,h2,h3⟩:=C.piece hk hw hd;have hp:Ke C.known [c]=[c]:=by unfold Ke;rw[hr]
 have hf:Jl [c]=false:=hc;rw[hp,hf,Bool.and_false,zn da] at h1 h2;rw[Jd] at h1;rw[nil_append] at h2;have m0:=h2 0 (by simp);simp only[add_zero,List.getElem_cons_zero] at m0;have tm:C.Uc (i+1)=C.Uc i+1:=by unfold PW.Uc;rw[h1,ya];try rfl
 have hn:pn c.toNat=false:=by
  cases hx:pn c.toNat with
  |false=>rfl
  |true=>unfold pn at hx;simp only[Yc,Mf] at hx;rw[RL.2 hx] at hc;cases hc
 constructor
 ·unfold Sa;rw[zp (by rw[h.1];omega),h.1,m0,<-tm,hn]
  try cases yd c.toNat { s with pc:=C.Uc (i+1) } <;> rfl
 rw[h1];unfold sf;simp[hc]
def PW.Code(C:PW)(i:Nat)(ws:List Wd):Prop:=∀ k (h:k<ws.length),C.W[i+k]? = some ws[k]
theorem PW.Code.app{C:PW}{a b:List Wd}(h:C.Code i (a++b)):C.Code i a/\C.Code (i+a.length) b:=by constructor;intro k hk;have:=h k (by rw[ya];omega);rwa [List.getElem_append_left hk] at this;intro k hk;have:=h (a.length+k) (by rw[ya];omega);rw[List.getElem_append_right (by omega)] at this;rw[add_assoc];simpa using this
theorem PW.Code.cons{C:PW}{b:List Wd}(h:C.Code i (w::b)):C.W[i]? = some w/\C.Code (i+1) b:=by have h1:=PW.Code.app (a:=[w]) (b:=b) h;have h2:=h1.1 0 (by simp);exact⟨by simpa using h2,h1.2⟩
def PW.put(C:PW)(s:MS)(i:Nat)(d:List Nat):MS:={ s with pc:=C.Uc i,data:=d,digit:=false }
theorem Sw(h:c∈([43,45,42,47,37,94,60,64,33,63,58,59,44,46,36]:Wd)):ma [c]=none/\La [c]=none/\Rd c=false:=by
 have:∀ c∈([43,45,42,47,37,94,60,64,33,63,58,59,44,46,36]:Wd),ma [c]=none/\La [c]=none/\Rd c=false:=by decide +kernel
 exact this c h
section
variable{C:PW}{s:MS}{i:Nat}
theorem PW.load(hk:C.Ok s.mem)(h:C.At s i)(hw:C.W[i]? = some [64])(hd:s.data=a::r)(ha:a<262144)(Na:r.length<256):pf 1 s (C.put s (i+1) (s.mem a::r)):=by
 obtain⟨e1,e2,e3⟩:=Sw (c:=64) da;obtain⟨h1,_⟩:=C.sign hk h hw e1 e2 e3;refine pf.one (h1.trans ?_);have:yd (64:UInt8).toNat { s with pc:=C.Uc (i+1) }=.run { s with pc:=C.Uc (i+1),data:=s.mem a::r }:=by unfold yd;rw[zn da,zn da,zp da];unfold kH Vn;simp[hd,ha,Na]
 rw[this];try rfl
theorem PW.store(hk:C.Ok s.mem)(h:C.At s i)(hw:C.W[i]? = some [33]){v:Nat}(hd:s.data=a::v::r)(ha:a<262144):pf 1 s { C.put s (i+1) r with mem:=λi=>if i=a then v else s.mem i }:=by
 obtain⟨e1,e2,e3⟩:=Sw (c:=33) da;obtain⟨h1,_⟩:=C.sign hk h hw e1 e2 e3;refine pf.one (h1.trans ?_);have:yd (33:UInt8).toNat { s with pc:=C.Uc (i+1) }=.run { s with pc:=C.Uc (i+1),data:=r,mem:=λi=>if i=a then v else s.mem i }:=by unfold yd;rw[zn da,zn da,zn da,zp da];unfold Dp;simp[hd,ha]
 rw[this];try rfl
theorem PW.jump(hk:C.Ok s.mem)(h:C.At s i)(hw:C.W[i]? = some [63]){v:Nat}(hd:s.data=t::v::r):pf 1 s { C.put s (i+1) r with pc:=if v=0 then t else C.Uc (i+1) }:=by
 obtain⟨e1,e2,e3⟩:=Sw (c:=63) da;obtain⟨h1,_⟩:=C.sign hk h hw e1 e2 e3;refine pf.one (h1.trans ?_);have:yd (63:UInt8).toNat { s with pc:=C.Uc (i+1) }=.run { s with pc:=if v=0 then t else C.Uc (i+1),data:=r }:=by unfold yd;rw[zn da,zn da,zn da,zn da,zp da];unfold Ht;simp[hd]
 rw[this];try rfl
theorem PW.call(hk:C.Ok s.mem)(h:C.At s i)(hw:C.W[i]? = some [58])(hd:s.data=t::r)(hc:s.calls.length<64):pf 1 s { C.put s (i+1) r with pc:=t,calls:=C.Uc (i+1)::s.calls }:=by
 obtain⟨e1,e2,e3⟩:=Sw (c:=58) da;obtain⟨h1,_⟩:=C.sign hk h hw e1 e2 e3;refine pf.one (h1.trans ?_);have:yd (58:UInt8).toNat { s with pc:=C.Uc (i+1) }=.run { s with pc:=t,data:=r,calls:=C.Uc (i+1)::s.calls }:=by unfold yd;rw[zn da,zn da,zn da,zn da,zn da,zp da];unfold dG;simp[hd,hc]
 rw[this];try rfl
theorem PW.back(hk:C.Ok s.mem)(h:C.At s i)(hw:C.W[i]? = some [59])(hd:s.calls=t::r):pf 1 s { s with pc:=t,calls:=r,digit:=false }:=by
 obtain⟨e1,e2,e3⟩:=Sw (c:=59) da;obtain⟨h1,_⟩:=C.sign hk h hw e1 e2 e3;refine pf.one (h1.trans ?_);have:yd (59:UInt8).toNat { s with pc:=C.Uc (i+1) }=.run { s with pc:=t,calls:=r }:=by unfold yd;rw[zn da,zn da,zn da,zn da,zn da,zn da,zp da];unfold mw;simp[hd]
 rw[this]
theorem PW.read(hk:C.Ok s.mem)(h:C.At s i)(hw:C.W[i]? = some [44])(Na:s.data.length<256):pf 1 s { C.put s (i+1) ((s.xa.headD 4294967295)::s.data) with xa:=s.xa.tail }:=by
 obtain⟨e1,e2,e3⟩:=Sw (c:=44) da;obtain⟨h1,_⟩:=C.sign hk h hw e1 e2 e3;refine pf.one (h1.trans ?_);have:yd (44:UInt8).toNat { s with pc:=C.Uc (i+1) }=.run { s with pc:=C.Uc (i+1),data:=(s.xa.headD 4294967295)::s.data,xa:=s.xa.tail }:=by
  unfold yd;rw[zn da,zn da,zn da,zn da,zn da,zn da,zn da,zp da];unfold VK Vn;cases hi:s.xa with
  |nil=>simp[hi,Na]
  |cons v r=>simp[hi,Na]
 rw[this];try rfl
theorem PW.write(hk:C.Ok s.mem)(h:C.At s i)(hw:C.W[i]? = some [46]){v:Nat}(hd:s.data=v::r):pf 1 s { C.put s (i+1) r with out:=s.out++[UInt8.ofNat v] }:=by
 obtain⟨e1,e2,e3⟩:=Sw (c:=46) da;obtain⟨h1,_⟩:=C.sign hk h hw e1 e2 e3;refine pf.one (h1.trans ?_);have:yd (46:UInt8).toNat { s with pc:=C.Uc (i+1) }=.run { s with pc:=C.Uc (i+1),data:=r,out:=s.out++[UInt8.ofNat v] }:=by unfold yd;rw[zn da,zn da,zn da,zn da,zn da,zn da,zn da,zn da,zp da];unfold KD;simp[hd]
 rw[this];try rfl
theorem PW.halt(hk:C.Ok s.mem)(h:C.At s i)(hw:C.W[i]? = some [36]):Sa s=.stop 0 s.out:=by
 obtain⟨e1,e2,e3⟩:=Sw (c:=36) da;obtain⟨h1,_⟩:=C.sign hk h hw e1 e2 e3;rw[h1];have:yd (36:UInt8).toNat { s with pc:=C.Uc (i+1) }=.stop 0 s.out:=by unfold yd;rw[zn da,zn da,zn da,zn da,zn da,zn da,zn da,zn da,zn da,zp da]
 rw[this]
def Xb(c:UInt8):Prop:=c=43∨c=45∨c=42∨c=47∨c=37∨c=94∨c=60
theorem C9(hc:Xb c)(s:MS):yd c.toNat s=NC c.toNat s:=by
 have h:pn c.toNat=false/\¬ (c.toNat=32∨c.toNat=10)/\c.toNat≠64/\c.toNat≠33/\c.toNat≠63/\c.toNat≠58/\c.toNat≠59/\c.toNat≠44/\c.toNat≠46/\c.toNat≠36/\(c.toNat=43∨c.toNat=45∨c.toNat=42∨c.toNat=47∨c.toNat=37∨c.toNat=94∨c.toNat=60):=by rcases hc with rfl|rfl|rfl|rfl|rfl|rfl|rfl <;> decide
 obtain⟨a1,a2,a3,a4,a5,a6,a7,a8,a9,nS,jS⟩:=h;unfold yd;rw[zn (by rw[a1];decide),zn a2,zn a3,zn a4,zn a5,zn a6,zn a7,zn a8,zn a9,zn nS,zp jS]
theorem qqU(hc:Xb c):ma [c]=none/\La [c]=none/\Rd c=false:=
 Sw (by unfold Xb at hc;rcases hc with rfl|rfl|rfl|rfl|rfl|rfl|rfl <;> decide)
theorem PW.op(hk:C.Ok s.mem)(h:C.At s i)(hc:Xb c)(hw:C.W[i]? = some [c]){v:Nat}(hd:s.data=b::a::r)(hv:ad c.toNat a b=some v)(Na:r.length<256):pf 1 s (C.put s (i+1) (v::r)):=by
 obtain⟨e1,e2,e3⟩:=qqU hc;obtain⟨h1,_⟩:=C.sign hk h hw e1 e2 e3;refine pf.one (h1.trans ?_);have:yd c.toNat { s with pc:=C.Uc (i+1) }=.run { s with pc:=C.Uc (i+1),data:=v::r }:=by rw[C9 hc];unfold NC Vn;simp[hd,hv,Na]
 rw[this];try rfl
theorem PW.Av(hk:C.Ok s.mem)(h:C.At s i)(hc:Xb c)(hw:C.W[i]? = some [c])(hd:s.data=b::a::r)(hv:ad c.toNat a b=none):Sa s=.stop 12 s.out:=by
 obtain⟨e1,e2,e3⟩:=qqU hc;obtain⟨h1,_⟩:=C.sign hk h hw e1 e2 e3;rw[h1];have:yd c.toNat { s with pc:=C.Uc (i+1) }=.stop 12 s.out:=by rw[C9 hc];unfold NC MR.Td;simp[hd,hv]
 rw[this]
end
structure IS where
 sc:List UInt8->Nat
 ar:List UInt8->List Nat
 xa:List Nat
 out:List UInt8
 left:Nat
inductive IR (A:Type) where
 |ok (v:A) (s:IS)
 |stop (e:Int) (s:IS)
def IR.bind{A B:Type}(r:IR A)(f:A->IS->IR B):IR B:=match r with
 |.ok v s=>f v s
 |.stop e s=>.stop e s
def nf(b:Bool):Nat:=if b=true then 1 else 0
def Qi(op:List UInt8)(a b:Nat):Option Nat:=
 if op=[43] then some ((a+b) % 4294967296)
 else if op=[45] then some ((a+4294967296-b) % 4294967296)
 else if op=[42] then some (a * b % 4294967296)
 else if op=[94] then some (a ^^^ b)
 else if op=[61,61] then some (nf (decide (a=b)))
 else if op=[33,61] then some (nf (decide (a≠b)))
 else if op=[60] then some (nf (decide (a<b)))
 else if op=[62] then some (nf (decide (b<a)))
 else if op=[60,61] then some (nf (decide (a<=b)))
 else if op=[62,61] then some (nf (decide (b<=a)))
 else if op=[38,38] then some (nf (decide (a≠0/\b≠0)))
 else if op=[124,124] then some (nf (decide (a≠0∨b≠0)))
 else if b=0 then none
 else if op=[47] then some (a / b) else some (a % b)
def Ub(f:ob)(name:List UInt8):List UInt8:=if name∈f.params∨name∈f.locals then f.name++[46]++name else name
def aj(P:Pr)(name:List UInt8):ob:=(P.funcs.find? λf=>decide (f.name=name)).getD ⟨[],[],[],[]⟩
def yf(s:IS)(k:List UInt8)(v:Nat):IS:={ s with sc:=λx=>if x=k then v else s.sc x }
def Fp(f:ob):List (List UInt8)->List Nat->IS->IS
 |p::ps,v::vs,s=>Fp f ps vs (yf s (Ub f p) v)
 |_,_,s=>s
def Mj{A:Type}(g:A->IS->IR Nat):List A->IS->IR (List Nat)
 |[],s=>.ok [] s
 |a::l,s=>(g a s).bind λv s=>(Mj g l s).bind λvs s=>.ok (v::vs) s
def bg(g:Sm->IS->IR (Option Nat)):List Sm->IS->IR (Option Nat)
 |[],s=>.ok none s
 |a::l,s=>(g a s).bind λr s=>match r with
  |some v=>.ok (some v) s
  |none=>bg g l s
def iy(P:Pr)(g:ob->Sm->IS->IR (Option Nat))(name:List UInt8)(vs:List Nat)(s:IS):IR Nat:=
 if name=[105,110] then (match s.xa with
  |[]=>.ok 4294967295 s
  |v::r=>.ok v { s with xa:=r })
 else if name=[111,117,116] then .ok 0 { s with out:=s.out++[UInt8.ofNat (vs.headD 0)] }
 else (bg (g (aj P name)) (aj P name).body (Fp (aj P name) (aj P name).params vs s)).bind λr s=>.ok (r.getD 0) s
def EE(P:Pr)(g:ob->Sm->IS->IR (Option Nat))(f:ob)(op:List UInt8)(num:Nat)(name:List UInt8)(vs:List Nat)(s:IS):IR Nat:=
 if op=[110,117,109] then .ok num s
 else if op=[118,97,114] then .ok (s.sc (Ub f name)) s
 else if op=[101,108,101,109] then (match (s.ar name)[vs.headD 0]? with
  |some v=>.ok v s
  |none=>.stop 2 s)
 else if op=[110,101,103] then .ok ((4294967296-vs.headD 0) % 4294967296) s
 else if op=[110,111,116] then .ok (nf (decide (vs.headD 0=0))) s
 else if op=[99,97,108,108] then iy P g name vs s
 else match Qi op (vs.headD 0) (vs.tail.headD 0) with
  |some v=>.ok v s
  |none=>.stop 12 s
def aq(P:Pr)(xa:List Nat)(ra:Nat):IS:=⟨λ_=>0,λx=>match P.ba.find? λa=>decide (a.name=x) with
 |some a=>List.replicate a.size 0
 |none=>[],xa,[],ra⟩
def Bg(P:Pr):ob:=P.funcs.getLast?.getD ⟨[],[],[],[]⟩
abbrev Nm:=List UInt8
variable{ba vars:List Nm}
def KO:List Nm:=FC++[[105,110],[111,117,116]]
def Le(s:Nm):Bool:=decide (s.length<=24) && !KO.contains s && (match s with
 |[]=>false
 |c::r=>Yk c && r.all yi)
structure Nd where
 name:Nm
 params:Nat
 need:Nat
 depth:Nat
structure gb where
 vars:List Nm
 ba:List Nm
 later:List Nm
 own:List Nm
 funcs:List Nd
def gb.globals(c:gb):List Nm:=c.vars++c.ba++c.later
def gb.fn(c:gb)(name:Nm):Option Nd:=c.funcs.find? λf=>decide (f.name=name)
def ui(a b:Int):Int:=if a≠0 then a else b
def dv:List Nm:=[[124,124],[38,38],[61,61],[33,61],[60],[62],[60,61],[62,61],[94],[43],[45],[42],[47],[37]]
def Qf(op:Nm):Int:=if op=We∨op=Bf then 0 else if op=ij∨op=tg∨op=Uf then 1 else if op=Of then -1 else if op∈dv then 2 else -2
def Vr(c:gb)(name:Nm):Int:=if name∈c.vars∨name∈c.own then 0 else if name∈c.globals then 10 else 7
def qy(c:gb)(name:Nm):Int:=if name∈c.ba then 0 else if name∈c.globals∨name∈c.own then 10 else 7
def yc(c:gb)(name:Nm)(n:Nat):Int:=
 if name=[105,110] then (if n=0 then 0 else 1)
 else if name=[111,117,116] then (if n=1 then 0 else 1)
 else match c.fn name with
  |some f=>if n=f.params then 0 else 1
  |none=>if name∈c.vars∨name∈c.ba∨name∈c.own then 10 else 7
def Px(c:gb)(op name:Nm)(n:Nat):Int:=if op=Bf then Vr c name else if op=ij then qy c name else if op=Of then yc c name n else 0
mutual
def bf(c:gb):Ex->Int
 |.mk op num name args=>if Qf op = -1∨Qf op=args.length then ui (Sf c args) (Px c op name args.length) else 3
def Sf(c:gb):List Ex->Int
 |[]=>0
 |x::l=>ui (bf c x) (Sf c l)
end
def gy:Nat->List Nat->Nat->Nat
 |i,[],m=>m
 |i,n::l,m=>gy (i+1) l (max m (i+n))
def qz(c:gb)(name:Nm)(ns:List Nat):Nat:=
 if name=[105,110] then 1
 else if name=[111,117,116] then ns.headD 0
 else match c.fn name with
  |some f=>gy 0 ns (max (f.params+1) f.need)
  |none=>0
def NA(c:gb)(op name:Nm)(ns:List Nat):Nat:=
 if op=We∨op=Bf then 1
 else if op=ij∨op=tg then 1+ns.headD 0
 else if op=Of then qz c name ns
 else if op=Uf then max 2 (ns.headD 0)
 else if op=[62]∨op=[60,61] then max (max 3 (ns.headD 0)) (1+ns.tail.headD 0)
 else if op=[33,61] then max (max 3 (1+ns.headD 0)) (2+ns.tail.headD 0)
 else if op=[38,38] then max (1+ns.headD 0) (2+ns.tail.headD 0)
 else if op=[124,124] then max (2+ns.headD 0) (3+ns.tail.headD 0)
 else max (max 2 (ns.headD 0)) (1+ns.tail.headD 0)
mutual
def tf(c:gb):Ex->Nat
 |.mk op num name args=>NA c op name (Yg c args)
def Yg(c:gb):List Ex->List Nat
 |[]=>[]
 |x::l=>tf c x::Yg c l
end
def pu(c:gb)(op name:Nm):Nat:=if op=Of/\name≠[105,110]/\name≠[111,117,116] then (match c.fn name with
 |some f=>f.depth+1
 |none=>0) else 0
mutual
def Oi(c:gb):Ex->Nat
 |.mk op num name args=>max (gi c args) (pu c op name)
def gi(c:gb):List Ex->Nat
 |[]=>0
 |x::l=>max (Oi c x) (gi c l)
end
def PR:Ex->Nm
 |.mk op _ _ _=>op
def yh:Sm->Bool
 |.mk kind name index value Ka fb=>
  if kind=1 then decide (name≠[]/\index.length=0/\value.length=1/\Ka.length=0/\fb.length=0)
  else if kind=2 then decide (name≠[]/\index.length=1/\value.length=1/\Ka.length=0/\fb.length=0)
  else if kind=3 then decide (name=[]/\index.length=0/\value.length=1)
  else if kind=4 then decide (name=[]/\index.length=0/\value.length=1/\fb.length=0)
  else if kind=5 then decide (name=[]/\index.length=0/\value.length=1/\Ka.length=0/\fb.length=0)
  else if kind=6 then decide (name=[]/\index.length=0/\value.length=1/\Ka.length=0/\fb.length=0/\PR (value.headD default)=Of)
  else if kind=7 then decide (name=[]/\index.length=0/\value.length=0/\Ka.length=0/\fb.length=0)
  else false
mutual
def xk(c:gb):Sm->Int
 |.mk kind name index value Ka fb=>if yh (.mk kind name index value Ka fb)=false then 3
  else ui (Sf c value) (ui (Sf c index) (ui (if kind=1 then Vr c name else if kind=2 then qy c name else 0) (ui (Gh c Ka) (Gh c fb))))
def Gh(c:gb):List Sm->Int
 |[]=>0
 |s::l=>ui (xk c s) (Gh c l)
end
mutual
def sC(c:gb):Sm->Nat
 |.mk kind name index value Ka fb=>
  if kind=7 then 0
  else if kind=2 then max (tf c (value.headD default)) (2+tf c (index.headD default))
  else if kind=5 then tf c (value.headD default)
  else max 2 (max (max (tf c (value.headD default)) (Wk c Ka)) (Wk c fb))
def Wk(c:gb):List Sm->Nat
 |[]=>0
 |s::l=>max (sC c s) (Wk c l)
end
mutual
def Jr(c:gb):Sm->Nat
 |.mk kind name index value Ka fb=>max (max (gi c value) (gi c index)) (max (Xi c Ka) (Xi c fb))
def Xi(c:gb):List Sm->Nat
 |[]=>0
 |s::l=>max (Jr c s) (Xi c l)
end
def Wn:List Nm->List Nm->Int
 |known,[]=>0
 |known,s::l=>if Le s=false then 7 else if s∈known then 8 else Wn (s::known) l
def bE:Int->List Int->Int
 |total,[]=>0
 |total,n::l=>if n<=0 then 2 else if 150000-total<n then 6 else bE (total+n) l
def Wf(vars ba later:List Nm)(known:List Nd)(f:ob):gb:=⟨vars,ba,later,f.params++f.locals,known⟩
def Yt(vars ba later:List Nm)(known:List Nd)(f:ob):Int:=ui (Wn (vars++ba++later) (f.params++f.locals)) (Gh (Wf vars ba later known f) f.body)
def Fi(vars ba later:List Nm)(known:List Nd)(f:ob):Nd:=⟨f.name,f.params.length,max (max 2 (f.params.length+1)) (Wk (Wf vars ba later known f) f.body),max 1 (Xi (Wf vars ba later known f) f.body)⟩
def Ur(vars ba later:List Nm):List Nd->List ob->Int
 |known,[]=>0
 |known,f::l=>ui (Yt vars ba later known f) (Ur vars ba later (known++[Fi vars ba later known f]) l)
def oA(vars ba later:List Nm):List Nd->List ob->List Nd
 |known,[]=>known
 |known,f::l=>oA vars ba later (known++[Fi vars ba later known f]) l
def Ad(vars:List Nm)(fs:List ob):List Nm:=vars++(fs.map λf=>(f.params++f.locals).map λx=>f.name++[46]++x).flatten
def vO(vars:List Nm)(fs:List ob)(vW:List Nd):Int:=match fs.getLast?,vW.getLast? with
 |some f,some m=>if f.name=[109,97,105,110]/\f.params=[] then (if (Ad vars fs).length<=8000/\m.need<=200/\m.depth<=60 then 0 else 6) else 9
 |_,_=>9
def Uq(vars:List Nm)(ba:List (Nm×Int))(fs:List ob):Int:=
 ui (Wn [] (vars++ba.map (·.1)++fs.map (·.name))) (ui (bE 0 (ba.map (·.2)))
  (ui (Ur vars (ba.map (·.1)) (fs.map (·.name)) [] fs) (vO vars fs (oA vars (ba.map (·.1)) (fs.map (·.name)) [] fs))))
def qp(p:Pr):Int:=Uq p.vars (p.ba.map λa=>(a.name,(a.size:Int))) p.funcs
theorem Dc{a b:Int}:ui a b=0 ↔ a=0/\b=0:=by unfold ui;split;constructor;intro h;contradiction;rintro⟨h,_⟩;contradiction;constructor;intro h;exact⟨by omega,h⟩;rintro⟨_,h⟩;exact h
theorem sv:∀ (l k:List Nm),Wn k l=0->l.Nodup/\∀ s∈l,s ∉ k/\Le s=true
 |[],k,_=>⟨nodup_nil,λs hs=>(not_mem_nil hs).elim⟩
 |s::l,k,h=>by rw[Wn] at h;split at h;cases h;rename_i h1;split at h;cases h;rename_i h2;obtain⟨g1,g2⟩:=sv l (s::k) h;refine⟨List.nodup_cons.2 ⟨λhm=>(g2 s hm).1 Ce,g1⟩,λx hx=>?_⟩;rcases lc.1 hx with rfl|hx;exact⟨h2,by simpa using h1⟩;exact⟨λhm=>(g2 x hx).1 (Gc _ hm),(g2 x hx).2⟩
theorem KS{s:Nm}(h:Le s=true):(46:UInt8) ∉ s:=by
 unfold Le at h;rw[Yc] at h;have h2:=h.2;cases s with
 |nil=>exact not_mem_nil
 |cons c r=>simp only[Yc] at h2;intro hm;rcases lc.1 hm with rfl|hm;exact absurd h2.1 da;exact absurd (List.all_eq_true.1 h2.2 46 hm) da
theorem VY:∀ (a b x y:Nm),(46:UInt8) ∉ a->(46:UInt8) ∉ b->a++46::x=b++46::y->a=b/\x=y
 |[],[],x,y,_,_,h=>by injection h with _ h;exact⟨rfl,h⟩
 |[],d::b,x,y,_,hb,h=>by injection h with h1 _;exact absurd (h1▸mem_cons_self ..) hb
 |c::a,[],x,y,ha,_,h=>by injection h with h1 _;exact absurd (h1▸mem_cons_self ..) ha
 |c::a,d::b,x,y,ha,hb,h=>by injection h with h1 h2;obtain⟨e1,e2⟩:=VY a b x y (λg=>ha (Gc _ g)) (λg=>hb (Gc _ g)) h2;exact⟨by rw[h1,e1],e2⟩
theorem qnj(h:(fs.map (·.name)).Nodup){g:ob}(hf:f∈fs)(hg:g∈fs)(he:f.name=g.name):f=g:=by
 induction fs with
 |nil=>cases hf
 |cons a l ih=>rw[jd,nodup_cons] at h;rcases lc.1 hf with rfl|hf';rcases lc.1 hg with rfl|ox;rfl;exact absurd (El ⟨g,ox,he.symm⟩) h.1;rcases lc.1 hg with rfl|ox;exact absurd (El ⟨f,hf',he⟩) h.1;exact ih h.2 hf' ox
theorem qsB(h:Wn [] (vars++ba++fs.map (·.name))=0)(hf:f∈fs)(name:Nm):f.name++[46]++name∈Ad vars fs ↔ name∈f.params++f.locals:=by
 obtain⟨h1,h2⟩:=sv _ _ h;have hd:∀ g∈fs,(46:UInt8) ∉ g.name:=λg hg=>KS (h2 _ (ap (.inr (El ⟨g,hg,rfl⟩)))).2;unfold Ad;rw[mem_append];constructor;rintro(g|g);have:=KS (h2 _ (ap (.inl (ap (.inl g))))).2;exact absurd (by simp) this;obtain⟨l,g1,g2⟩:=List.mem_flatten.1 g;obtain⟨k,g3,rfl⟩:=Ei g1;obtain⟨x,g4,g5⟩:=Ei g2;have g6:k.name++46::x=f.name++46::name:=by simpa using g5
 obtain⟨e1,rfl⟩:=VY _ _ _ _ (hd k g3) (hd f hf) g6;rw[<-qnj (Dm h1).2.1 g3 hf e1];exact g4;intro g;exact .inr (List.mem_flatten.2 ⟨_,El ⟨f,hf,rfl⟩,El ⟨name,g,rfl⟩⟩)
theorem qAs(h:Wn [] (vars++ba++fs.map (·.name))=0)(hf:f∈fs)(name:Nm):(if f.name++[46]++name∈Ad vars fs then f.name++[46]++name else name)=Ub f name:=by unfold Ub;simp only[qsB h hf,mem_append]
theorem qrV{known:List Nd}(hf:f∈fs){name:Nm}(h:Vr (Wf vars ba (fs.map (·.name)) known f) name=0):Ub f name∈Ad vars fs:=by unfold Vr at h;unfold Ub Ad;rw[mem_append];split at h;rename_i h1;split;rename_i h2;exact .inr (List.mem_flatten.2 ⟨_,El ⟨f,hf,rfl⟩,El ⟨name,ap h2,rfl⟩⟩);rename_i h2;rcases h1 with h1|h1;exact .inl h1;exact absurd (vj h1) h2;split at h <;> cases h
theorem zX{P:Pr}(h:(P.funcs.map (·.name)).Nodup)(hf:f∈P.funcs):aj P f.name=f:=by
 unfold aj;cases hg:P.funcs.find? λg=>decide (g.name=f.name) with
 |none=>exact absurd (List.find?_eq_none.1 hg f hf) (by simp)
 |some g=>exact qnj h (List.mem_of_find?_eq_some hg) hf (Hg (List.find?_some (p:=λg:ob=>decide (g.name=f.name)) hg))
structure CC where
 sc:Nm->Wd
 ar:Nm->Wd
 t0:Wd
 t1:Wd
 t2:Wd
def Kl(c:CC):List Wd:=[c.t2,[33],c.t1,[33],c.t2,[64],c.t1,[64],[60]]
def jq(c:CC)(op:Nm)(num:Nat)(name:Nm)(l:List (List Wd)):List Wd:=
 if op=We then [decDigits num]
 else if op=Bf then [c.sc name,[64]]
 else if op=ij then c.ar name::(l.headD []++[[43],[64]])
 else if op=Of then l.flatten++(if name=[105,110] then [[44]] else if name=[111,117,116] then [[46],[48]] else [[38,102,95]++name,[58]])
 else if op=tg then [48]::(l.headD []++[[45]])
 else if op=Uf then l.headD []++[[49],[60]]
 else if op=[33,61] then [48]::(l.headD []++(l.drop 1).headD []++[[94],[60]])
 else if op=[38,38] then [48]::(l.headD []++[[60],[48]]++(l.drop 1).headD []++[[60],[42]])
 else if op=[124,124] then [48]::[48]::(l.headD []++[[60],[48]]++(l.drop 1).headD []++[[60],[43],[60]])
 else l.headD []++(l.drop 1).headD []++(if op=[62] then Kl c else if op=[60,61] then Kl c++[[49],[94]] else if op=[62,61] then [[60],[49],[94]] else if op=[61,61] then [[94],[49],[60]] else [op])
mutual
def Cb(c:CC):Ex->List Wd
 |.mk op num name args=>jq c op num name (xb c args)
def xb(c:CC):List Ex->List (List Wd)
 |[]=>[]
 |x::l=>Cb c x::xb c l
end
def na(n:Nat):Wd:=106::decDigits n
mutual
def kg(c:CC):Nat->Sm->List Wd×Nat
 |n,.mk kind name index value Ka fb=>
  if kind=1 then (Cb c (value.headD default)++[c.sc name,[33]],n)
  else if kind=2 then (Cb c (value.headD default)++c.ar name::(Cb c (index.headD default)++[[43],[33]]),n)
  else if kind=3 then
   (match fb with
   |[]=>(Cb c (value.headD default)++[38::na n,[63]]++(Da c (n+1) Ka).1++[na n++[58]],(Da c (n+1) Ka).2)
   |_::_=>(Cb c (value.headD default)++[38::na n,[63]]++(Da c (n+2) Ka).1++[[48],38::na (n+1),[63],na n++[58]]++(Da c (Da c (n+2) Ka).2 fb).1++[na (n+1)++[58]],(Da c (Da c (n+2) Ka).2 fb).2))
  else if kind=4 then ([na n++[58]]++Cb c (value.headD default)++[38::na (n+1),[63]]++(Da c (n+2) Ka).1++[[48],38::na n,[63],na (n+1)++[58]],(Da c (n+2) Ka).2)
  else if kind=5 then (Cb c (value.headD default)++[[59]],n)
  else if kind=6 then (Cb c (value.headD default)++[c.t0,[33]],n)
  else if kind=7 then ([[36]],n)
  else ([],n)
def Da(c:CC):Nat->List Sm->List Wd×Nat
 |n,[]=>([],n)
 |n,s::l=>((kg c n s).1++(Da c (kg c n s).2 l).1,(Da c (kg c n s).2 l).2)
end
def Nw(l:List Nm)(S:Int)(k:Nm):Int:=if k∈l then S+3+(l.idxOf k:Nat) else 0
def Gt(l:List Nm)(own name:Nm):Nm:=if own++[46]++name∈l then own++[46]++name else name
def Ri:Int->List (Nm×Int)->Nm->Int
 |_,[],_=>0
 |at',(x,n)::r,name=>if x=name then at' else Ri (at'+n) r name
structure fk where
 code:Int
 scalars:Int
 ba:Int
def Bp(vars:List Nm)(ba:List (Nm×Int))(fs:List ob)(o:fk)(own:Nm):CC:=
 ⟨λs=>itoa (Nw (Ad vars fs) o.scalars (Gt (Ad vars fs) own s)),λs=>itoa (Ri o.ba ba s),itoa o.scalars,itoa (o.scalars+1),itoa (o.scalars+2)⟩
def Rj(c:CC)(n:Nat)(f:ob):List Wd×Nat:=
 ([[102,95]++f.name++[58]]++f.params.reverse.flatMap (λp=>[c.sc p,[33]])++(Da c n f.body).1++[[48],[59]],(Da c n f.body).2)
def Cc(cc:Nm->CC):Nat->List ob->List Wd×Nat
 |n,[]=>([],n)
 |n,f::l=>((Rj (cc f.name) n f).1++(Cc cc (Rj (cc f.name) n f).2 l).1,(Cc cc (Rj (cc f.name) n f).2 l).2)
def JA(vars:List Nm)(ba:List (Nm×Int))(fs:List ob)(o:fk):List Wd:=
 [[38,102,95,109,97,105,110],[58],itoa o.scalars,[33],[36]]++(Cc (Bp vars ba fs o) 0 fs).1
def FG(a n:Int):Bool:=decide (0<=a/\a<=262144-n)
def lG(a n b m:Int):Bool:=decide (0<n/\0<m/\a<b+m/\b<a+n)
def Jq(vars:List Nm)(ba:List (Nm×Int))(fs:List ob)(o:fk):Bool:=
 let total:=(ba.map (·.2)).sum
 let n:Int:=3+(Ad vars fs).length
 FG o.scalars n && FG o.code 40000 && FG o.ba total && !lG o.code 40000 o.scalars n && !lG o.ba total o.scalars n && !lG o.ba total o.code 40000
def Tj(vars:List Nm)(ba:List (Nm×Int))(fs:List ob)(o:fk):Except Int Wd:=
 if Uq vars ba fs≠0 then .error (Uq vars ba fs)
 else if Jq vars ba fs o=false then .error 2
 else match vh (join (JA vars ba fs o) [32]) o.code with
  |.error e=>.error e.2
  |.ok _=>.ok (join (JA vars ba fs o) [32])
def Lt(v:Nat):Prop:=v<4294967296
mutual
def vi:Ex->Prop
 |.mk op num name args=>Lt num/\lk args
def lk:List Ex->Prop
 |[]=>True
 |x::l=>vi x/\lk l
end
mutual
def Io:Sm->Prop
 |.mk kind name index value Ka fb=>lk index/\lk value/\Hi Ka/\Hi fb
def Hi:List Sm->Prop
 |[]=>True
 |x::l=>Io x/\Hi l
end
theorem DY{vars ba later:List Nm}:∀ (fs:List ob) (known:List Nd),Ur vars ba later known fs=0->∀ f∈fs,(f.params++f.locals).Nodup/\∀ x∈f.params++f.locals,x ∉ vars++ba++later
 |[],known,_,f,hf=>(not_mem_nil hf).elim
 |g::l,known,h,f,hf=>by rw[Ur] at h;obtain⟨h1,h2⟩:=Dc.1 h;rcases lc.1 hf with rfl|hf;obtain⟨g1,g2⟩:=sv _ _ (Dc.1 h1).1;exact⟨g1,λx hx=>(g2 x hx).1⟩;exact DY l _ h2 f hf
theorem qnD{A B:Type}{g:A->B}(hg:∀ x y,g x=g y->x=y):∀ {l:List A},l.Nodup->(l.map g).Nodup
 |[],_=>nodup_nil
 |a::l,h=>by rw[nodup_cons] at h;rw[jd,nodup_cons];refine⟨λhm=>?_,qnD hg h.2⟩;obtain⟨b,hb,he⟩:=Ei hm;exact h.1 (hg _ _ he▸hb)
theorem qt4{fs:List ob}:(fs.map (·.name)).Nodup->(∀ f∈fs,(46:UInt8) ∉ f.name)->(∀ f∈fs,(f.params++f.locals).Nodup)->((fs.map λf=>(f.params++f.locals).map λx=>f.name++[46]++x).flatten).Nodup:=by
 induction fs with
 |nil=>intro _ _ _;exact nodup_nil
 |cons f l ih=>
  intro h1 h2 h3;rw[jd,nodup_cons] at h1;rw[jd,List.flatten_cons,List.nodup_append];refine⟨?_,ih h1.2 (λg hg=>h2 g (Gc _ hg)) λg hg=>h3 g (Gc _ hg),?_⟩;exact qnD (λx y B1=>List.append_cancel_left B1) (h3 f Ce);intro a ha b hb he;subst he;obtain⟨x,_,rfl⟩:=Ei ha;obtain⟨L,g1,g2⟩:=List.mem_flatten.1 hb;obtain⟨g,g3,rfl⟩:=Ei g1;obtain⟨y,_,g5⟩:=Ei g2;have g6:g.name++46::y=f.name++46::x:=by simpa using g5
  obtain⟨e1,_⟩:=VY _ _ _ _ (h2 g (Gc _ g3)) (h2 f Ce) g6;exact h1.1 (El ⟨g,g3,e1⟩)
theorem qsa(h:Wn [] (vars++ba++fs.map (·.name))=0)(hf:Ur vars ba (fs.map (·.name)) [] fs=0):(Ad vars fs).Nodup:=by obtain⟨h1,h2⟩:=sv _ _ h;have ho:=DY fs [] hf;unfold Ad;rw[List.nodup_append];refine⟨(Dm (Dm h1).1).1,qt4 (Dm h1).2.1 (λf hf=>KS (h2 _ (ap (.inr (El ⟨f,hf,rfl⟩)))).2) λf hf=>(ho f hf).1,?_⟩;intro a ha b hb he;subst he;obtain⟨L,g1,g2⟩:=List.mem_flatten.1 hb;obtain⟨g,g3,rfl⟩:=Ei g1;obtain⟨y,_,g5⟩:=Ei g2;have:=KS (h2 _ (ap (.inl (ap (.inl ha))))).2;rw[<-g5] at this;exact absurd (by simp) this
def DI(fs:List ob)(known:List Nd):Prop:=∀ k∈known,∃ g∈fs,g.name=k.name/\g.params.length=k.params
theorem qlu{vars ba later:List Nm}{all:List ob}:∀ (fs:List ob) (known:List Nd),Ur vars ba later known fs=0->DI all known->(∀ f∈fs,f∈all)->∀ f∈fs,∃ kn,Gh (Wf vars ba later kn f) f.body=0/\DI all kn
 |[],known,_,_,_,f,hf=>(not_mem_nil hf).elim
 |g::l,known,h,hk,ha,f,hf=>by rw[Ur] at h;obtain⟨h1,h2⟩:=Dc.1 h;rcases lc.1 hf with rfl|hf;exact⟨known,(Dc.1 h1).2,hk⟩;refine qlu l _ h2 (λk Yn=>?_) (λx hx=>ha x (Gc _ hx)) f hf;rcases vj Yn with g1|g1;exact hk k g1;rw[cj g1];exact⟨g,ha g Ce,rfl,rfl⟩
theorem qkK:∀ (l:List Int) (t:Int),0<=t->bE t l=0->∀ n∈l,0<n/\t+n<=150000
 |[],t,_,_,n,hn=>(not_mem_nil hn).elim
 |a::l,t,ht,h,n,hn=>by rw[bE] at h;split at h;cases h;split at h;cases h;rcases lc.1 hn with rfl|hn;constructor <;> omega;have:=qkK l (t+a) (by omega) h n hn;constructor <;> omega
structure Valid(p:Pr):Prop where
 names:Wn [] (p.vars++p.ba.map (·.name)++p.funcs.map (·.name))=0
 Aw:∀ a∈p.ba,0<a.size/\a.size<=150000
 own:∀ f∈p.funcs,(f.params++f.locals).Nodup/\∀ x∈f.params++f.locals,x ∉ p.vars++p.ba.map (·.name)++p.funcs.map (·.name)
 jw:∀ f∈p.funcs,∃ kn,Gh (Wf p.vars (p.ba.map (·.name)) (p.funcs.map (·.name)) kn f) f.body=0/\DI p.funcs kn
 keys:(Ad p.vars p.funcs).Nodup
 main:Bg p∈p.funcs/\(Bg p).name=[109,97,105,110]/\(Bg p).params=[]
 az:(Ad p.vars p.funcs).length<=8000
theorem IG{p:Pr}(h:qp p=0):Valid p:=by
 unfold qp Uq at h;have e1:(p.ba.map λa=>(a.name,(a.size:Int))).map (·.1)=p.ba.map (·.name):=by rw[map_map];try rfl
 rw[e1] at h;obtain⟨h1,h⟩:=Dc.1 h;obtain⟨h2,h⟩:=Dc.1 h;obtain⟨h3,h4⟩:=Dc.1 h;have hm:Bg p∈p.funcs/\(Bg p).name=[109,97,105,110]/\(Bg p).params=[]/\(Ad p.vars p.funcs).length<=8000:=by
  unfold vO at h4;split at h4
  ·rename_i f m hf Au
   split at h4
   ·rename_i h5
    split at h4
    ·rename_i h6
     have e:Bg p=f:=by unfold Bg;rw[hf];try rfl
     rw[e];exact⟨List.mem_of_getLast? hf,h5.1,h5.2,h6.1⟩
    cases h4
   cases h4
  cases h4
 refine⟨h1,λa ha=>?_,DY _ _ h3,qlu _ _ h3 (λk hk=>(not_mem_nil hk).elim) λf hf=>hf,qsa h1 h3,⟨hm.1,hm.2.1,hm.2.2.1⟩,hm.2.2.2⟩
 have:=qkK _ 0 da h2 (a.size:Int) (by
  rw[map_map];exact El ⟨a,ha,rfl⟩)
 constructor <;> omega
section
variable{A B:Type}{Q:A->IS->MS->Prop}{R:B->IS->MS->Prop}{c d c1 d1 c2 d2:Int}{m m1:MS}{s:IS}
end
structure vf where
 C:PW
 P:Pr
 cc:ob->CC
 Va:ob->gb
 sa:Nm->Nat
 aa:Nm->Nat
 S:Nat
 fst:ob->Nat
def vf.keys(X:vf):List Nm:=Ad X.P.vars X.P.funcs
def vf.Data(X:vf)(x:Nat):Prop:=(∃ k∈X.keys,x=X.sa k)∨(X.S<=x/\x<=X.S+2)∨∃ a∈X.P.ba,∃ i,i<a.size/\x=X.aa a.name+i
structure Dd(X:vf):Prop where
 sc:∀ f∈X.P.funcs,∀ name,Vr (X.Va f) name=0->(X.cc f).sc name=decDigits (X.sa (Ub f name))/\Ub f name∈X.keys
 ar:∀ f∈X.P.funcs,∀ name,qy (X.Va f) name=0->(X.cc f).ar name=decDigits (X.aa name)/\∃ a∈X.P.ba,a.name=name
 yw:∀ f∈X.P.funcs,(X.cc f).t0=decDigits X.S/\(X.cc f).t1=decDigits (X.S+1)/\(X.cc f).t2=decDigits (X.S+2)
 low:∀ x,X.Data x->x<262144
 free:∀ x,X.Data x->x<X.C.og∨X.C.og+(Uk X.C.known X.C.W).length<=x
 Mv:∀ k∈X.keys,X.S+3<=X.sa k
 inj:∀ k∈X.keys,∀ k'∈X.keys,X.sa k=X.sa k'->k=k'
 apart:∀ a∈X.P.ba,∀ i,i<a.size->(∀ k∈X.keys,X.sa k≠X.aa a.name+i)/\¬ (X.S<=X.aa a.name+i/\X.aa a.name+i<=X.S+2)
 iC:∀ a∈X.P.ba,∀ b∈X.P.ba,∀ i j,i<a.size->j<b.size->X.aa a.name+i=X.aa b.name+j->a.name=b.name/\i=j
 Dx:∀ a∈X.P.ba,X.aa a.name<1000000
 Mr:∀ a∈X.P.ba,∀ b∈X.P.ba,a.name=b.name->a.size=b.size
 body:∀ f∈X.P.funcs,Gh (X.Va f) f.body=0/\Hi f.body
 fn:∀ f∈X.P.funcs,∀ name g,(X.Va f).fn name=some g->aj X.P name∈X.P.funcs/\(aj X.P name).name=name/\g.params=(aj X.P name).params.length/\Wk (X.Va (aj X.P name)) (aj X.P name).body<=g.need/\Xi (X.Va (aj X.P name)) (aj X.P name).body<=g.depth
 YZ:∀ f∈X.P.funcs,(∀ p∈f.params,Ub f p∈X.keys/\(X.cc f).sc p=decDigits (X.sa (Ub f p)))/\(f.params.map (Ub f)).Nodup
 code:∀ f∈X.P.funcs,∃ nl,X.C.Code (X.fst f) (Rj (X.cc f) nl f).1
 Ly:∀ (j n:Nat),X.C.W[j]? = some (na n++[58])->ma (na n++[58])=some (na n)
 cr:∀ (j n:Nat),X.C.W[j]? = some (38::na n)->La (38::na n)=some (na n)
 Ni:∀ f∈X.P.funcs,ma ([102,95]++f.name++[58])=some ([102,95]++f.name)
 Zy:∀ f∈X.P.funcs,La ([38,102,95]++f.name)=some ([102,95]++f.name)
 label:∀ (j:Nat) (w x:Wd),X.C.W[j]? = some w->ma w=some x->X.C.known x=X.C.Uc j
end Go.ea
