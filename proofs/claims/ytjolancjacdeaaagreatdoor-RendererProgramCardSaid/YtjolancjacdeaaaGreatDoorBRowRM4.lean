import Derived.Lib.Join
import Derived.Lib.Split
import Derived.Lib.Strings
import Derived.Lib.SlTrimSet
import Derived.Lib.Replace
import Derived.Test.YtjolancjacdeaaaGreatDoorBRowRM3
set_option linter.unusedVariables false
set_option linter.unusedSimpArgs false
set_option maxRecDepth 100000
set_option maxHeartbeats 4000000
open List (cons_append length_drop mem_cons_self nil_append not_mem_nil take_zero map_map sum_cons foldl_cons all_cons all_reverse nodup_nil nodup_cons)
open Nat (zero_le mod_lt)
open Option (getD_some)
namespace Go.Ba
open Go.Lib
variable{B D a b c i n:Nat}{cur:List UInt8}{fs:List od}
theorem YX(M:Nat):∀ (l r:List UInt8) (acc u:Nat),parseUintM M acc l=.ok u->parseUintM M acc (l++r)=parseUintM M u r
 |[],r,acc,u,h=>by rw[parseUintM] at h;cases h;rfl
 |c::l,r,acc,u,h=>by rw[parseUintM] at h;rw[cons_append,parseUintM];split at h;rename_i hc;rw[zp hc];split at h;cases h;rename_i h1;rw[zn h1];split at h;cases h;rename_i h2;rw[zn h2];exact YX M l r _ u h;cases h
theorem nI{d:Nat}(h:d<10):(UInt8.ofNat (48+d)).toNat=48+d:=by rw[UInt8.toNat_ofNat'];omega
theorem w4(M:Nat)(hM:M<=4294967295)(u:Nat)(hu:u<=M):parseUintM M 0 (decDigits u)=.ok u:=by
 induction u using Nat.strongRecOn with
 |_ u ih=>
  have one:∀ a d,d<10->a * 10+d<=M->parseUintM M a [UInt8.ofNat (48+d)]=.ok (a * 10+d):=λa d hd ha=>by rw[parseUintM,nI hd,zp (by omega),zn (by omega),zn (by omega),parseUintM];congr 1;omega
  rw[decDigits];split;have:=one 0 u (by assumption) Ia;simpa using this;rw[YX M _ _ 0 (u / 10) (ih (u / 10) (by omega) (by omega)),one _ _ (by omega) (by omega)];congr 1;omega
theorem xI(u:Nat):decDigits u≠[]:=by rw[decDigits];split <;> simp
theorem VO(u:Nat)(hu:u<4294967296):parseUintB 32 (decDigits u)=.ok u:=by rw[parseUintB,zn (xI u)];exact w4 _ ra u Ia
theorem mI:∀ (k u:Nat),u<10 ^ (k+1)->nDigits u<=k+1
 |0,u,h=>by rw[nDigits_small (by simpa using h)];omega
 |k+1,u,h=>by by_cases hu:u<10;rw[nDigits_small hu];omega;rw[nDigits_big hu];have:=mI k (u / 10) (by rw[Nat.pow_succ] at h;omega);omega
theorem cF{u:Nat}(hu:u<4294967296):(decDigits u).length<=10:=by rw[decDigits_length];exact mI 9 u Ia
theorem MO{l:List UInt8}{u:Nat}(h:parseUintB 32 l=.ok u):u<4294967296:=by
 have key:∀ (l:List UInt8) (acc u:Nat),acc<=4294967295->parseUintM 4294967295 acc l=.ok u->u<=4294967295:=by
  intro l;induction l with
  |nil=>intro acc u ha h;rw[parseUintM] at h;cases h;exact ha
  |cons c l ih=>intro acc u ha h;rw[parseUintM] at h;split at h;split at h;cases h;split at h;cases h;exact ih _ _ Ia h;cases h
 rw[parseUintB] at h;split at h;cases h;have:=key _ _ _ Ia h;omega
def SU(t:Tok):Prop:=t.text.length<=100/\(t.kind=1->∃ u,u<4294967296/\parseUintB 32 t.text=.ok u/\t.text=decDigits u)
theorem qn3(s:List UInt8)(h:(Qh s).2.2=0):SU (Qh s).1:=by
 match s with
 |[]=>simp[Qh,Hl] at h
 |c::r=>
  simp only[Qh] at h ⊢;split at h <;> rename_i hc;rw[zp hc];unfold RC at h ⊢;split at h;simp[Hl] at h
  rename_i hw;rw[zn hw];split at h;rename_i u hu;have wa:=MO hu;exact⟨by have:=cF wa;simp only;omega,λ_=>⟨u,wa,VO u wa,rfl⟩⟩;simp[Hl] at h;rw[zn hc];split at h <;> rename_i hl;rw[zp hl];unfold yC at h ⊢;split at h;simp[Hl] at h
  rename_i hw;rw[zn hw];refine⟨by simp only;omega,λhk=>?_⟩;simp only at hk;split at hk <;> cases hk;rw[zn hl];split at h <;> rename_i hq;rw[zp hq];unfold XC at h ⊢;split at h;split at h;simp[Hl] at h
  rename_i hx;rename_i TM;rename_i b _ _;rw[zn hx];have hb:b.toNat<4294967296:=Nat.lt_trans (UInt8.toNat_lt b) ra;exact⟨by have:=cF hb;simp only;omega,λ_=>⟨b.toNat,hb,VO _ hb,rfl⟩⟩;simp[Hl] at h;rw[zn hq];unfold eF at h ⊢;split at h
  rename_i x hx;have h2:=List.mem_of_find?_eq_some hx;have:∀ x∈Sr,x.length<=100:=by decide
  exact⟨this x h2,λhk=>by cases hk⟩;simp[Hl] at h
theorem X4{A B:Type}{f:A->B}{r:Except (Int×Int) A}{b:B}(h:r.map f=.ok b):∃ a,r=.ok a/\f a=b:=by
 cases r with
 |ok a=>exact⟨a,rfl,by injection h⟩
 |error e=>cases h
theorem nO:∀ (f:Nat) (s:List UInt8) (line:Int) (T:List Tok),di f s line=.ok T->T.length<=f/\∀ t∈T,SU t
 |0,s,line,T,h=>by rw[di] at h;cases h;exact⟨mc _,by simp⟩
 |f+1,s,line,T,h=>by rw[di] at h;split at h;cases h;exact⟨zero_le _,by simp⟩;split at h;split at h;cases h;rename_i he;obtain⟨T',h1,rfl⟩:=X4 h;obtain⟨k1,k2⟩:=nO f _ _ _ h1;refine⟨by rw[Oa];omega,λt ht=>?_⟩;rcases Mc.1 ht with rfl|ht;exact qn3 s Ia;exact k2 t ht;obtain⟨k1,k2⟩:=nO f _ _ _ h;exact⟨by omega,k2⟩
abbrev Wd:=List UInt8
variable{l v:List Wd}{op s w x y:Wd}
def Vc(w:Wd):Option Nat:=match Go.Lib.parseUintB 32 w with
 |.ok u=>if Go.Lib.decDigits u=w then some u else none
 |_=>none
def Ay(s:Wd):Bool:=match s with
 |[]=>false
 |c::r=>decide (s.length<=40) && jk c && s.all Gh
def Ib(w:Wd):Option Wd:=if w.getLast? = some 58/\Ay w.dropLast=true then some w.dropLast else none
def td(w:Wd):Option Wd:=match w with
 |[]=>none
 |c::r=>if c=38/\Ay r=true then some r else none
def ka(l:List Wd)(i:Nat):Wd:=(l[i]?).getD []
def Yn(a:Nat)(op:Wd)(b:Nat):Option Nat:=
 if op=[43] then some ((a+b) % 4294967296)
 else if op=[45] then some ((a+4294967296-b) % 4294967296)
 else if op=[42] then some (a * b % 4294967296)
 else if op=[94] then some (a ^^^ b)
 else if op=[60] then some (if a<b then 1 else 0)
 else if op=[47] then (if b=0 then none else some (a / b))
 else if op=[37] then (if b=0 then none else some (a % b))
 else none
def gq(x op y:Wd):Option Wd:=match Vc x,Vc y with
 |some a,some b=>match Yn a op b with
  |some c=>if (Go.Lib.decDigits c).length<=x.length+y.length+1 then some (Go.Lib.decDigits c) else none
  |none=>none
 |_,_=>none
def jm(v:List Wd)(i:Nat):Option Wd:=match td (ka v i) with
 |some l=>if ka v (i+1)=[63] then some l else none
 |none=>none
abbrev ao:=Nat×List Wd
def vt(v:List Wd):ao:=match gq (ka v 0) (ka v 2) (ka v 1) with
 |some s=>(3,[s])
 |none=>(0,[])
def Dv(v:List Wd):ao:=
 if ka v 0=[48]/\(ka v 1=[43]∨ka v 1=[45]∨ka v 1=[94])∨ka v 0=[49]/\(ka v 1=[42]∨ka v 1=[47]) then (2,[]) else (0,[])
def It(v:List Wd):ao:=
 if (ka v 1=[43]∨ka v 1=[42]∨ka v 1=[94])/\ka v 3=ka v 1 then
  (match gq (ka v 0) (ka v 1) (ka v 2) with
  |some s=>(4,[s,ka v 1])
  |none=>(0,[]))
 else (0,[])
def tu(v:List Wd):ao:=if (Vc (ka v 0)).isSome=true/\ka v 1=[64]/\ka v 2=ka v 0/\ka v 3=[33] then (4,[]) else (0,[])
def yu(v:List Wd):ao:=if (jm v 4).isSome=true/\ka v 0=[49]/\ka v 1=[60]/\ka v 2=[49]/\ka v 3=[60] then (6,[ka v 4,ka v 5]) else (0,[])
def Ct(v:List Wd):ao:=match Vc (ka v 0) with
 |some n=>if n≠0/\(jm v 1).isSome=true then (3,[]) else (0,[])
 |none=>(0,[])
def xy(l:Wd):List Wd->Bool
 |[]=>false
 |w::r=>match Ib w with
  |some d=>decide (d=l) || xy l r
  |none=>false
def yt(v:List Wd):ao:=match jm v 1 with
 |some l=>if ka v 0=[48]/\xy l (v.drop 3)=true then (3,[]) else (0,[])
 |none=>(0,[])
def ek(v:List Wd):Nat:=if (jm v 1).isSome=true/\ka v 0=[48] then 3 else if ka v 0=[59]∨ka v 0=[36] then 1 else 0
def Uo(v:List Wd):Nat:=(v.takeWhile λw=>(Ib w).isNone).length
def uu(v:List Wd):ao:=if 0<ek v/\0<Uo (v.drop (ek v)) then (ek v+Uo (v.drop (ek v)),v.take (ek v)) else (0,[])
def Wr(ab:Wd->Bool)(v:List Wd):ao:=match Ib (ka v 0) with
 |some l=>if ab l=true then (0,[]) else (1,[])
 |none=>(0,[])
def Of(ab:Wd->Bool)(v:List Wd):ao:=
 if (vt v).1≠0 then vt v else if (Dv v).1≠0 then Dv v else if (It v).1≠0 then It v else if (tu v).1≠0 then tu v else if (yu v).1≠0 then yu v else
 if (Ct v).1≠0 then Ct v else if (yt v).1≠0 then yt v else if (uu v).1≠0 then uu v else Wr ab v
def Lo(ab:Wd->Bool):Nat->List Wd->List Wd
 |0,_=>[]
 |_+1,[]=>[]
 |f+1,w::r=>if (Of ab (w::r)).1=0 then w::Lo ab f r else (Of ab (w::r)).2++Lo ab f ((w::r).drop (Of ab (w::r)).1)
def Gk(l:List Wd)(s:Wd):Bool:=l.any λw=>decide (td w=some s)
def al(l:List Wd):List Wd:=Lo (Gk l) l.length l
theorem jx(h:ka v i≠[]):i<v.length:=by rcases Nat.lt_or_ge i v.length with h1|h1;exact h1;exact absurd (by simp[ka,List.getElem?_eq_none h1]) h
theorem HV(h:Vc w=some n):w≠[]:=by
 rintro rfl;have:Vc []=none:=by decide +kernel
 rw[this] at h;cases h
theorem EC{l:Wd}(h:jm v i=some l):i+1<v.length:=by unfold jm at h;split at h;split at h;rename_i h2;exact jx (by rw[h2];decide);cases h;cases h
theorem j6(h:Yn a op b=some c):op≠[]:=by rintro rfl;have:Yn a [] b=none:=rfl;rw[this] at h;cases h
theorem ZH(h:gq x op y=some s):x≠[]/\op≠[]/\y≠[]:=by unfold gq at h;split at h;rename_i a b ha hb;split at h;rename_i c hc;exact⟨HV ha,j6 hc,HV hb⟩;cases h;cases h
def wv(v:List Wd)(r:ao):Prop:=r.1≠0->r.1<=v.length/\r.2.length<r.1
theorem Jt(v:List Wd):wv v (0,[]):=λh=>absurd rfl h
theorem V5(v:List Wd):wv v (vt v):=by unfold vt;split;rename_i s h;obtain⟨_,h2,_⟩:=ZH h;have:=jx h2;exact λ_=>⟨by simp only;omega,by simp⟩;exact Jt v
theorem qqh(v:List Wd):wv v (Dv v):=by
 unfold Dv;split;rename_i h;have:ka v 1≠[]:=by intro h0;rw[h0] at h;rcases h with⟨_,h|h|h⟩|⟨_,h|h⟩ <;> cases h
 have:=jx this;exact λ_=>⟨by simp only;omega,by simp⟩;exact Jt v
theorem qpq(v:List Wd):wv v (It v):=by
 unfold It;split;rename_i h;split;rename_i s hs;have h3:ka v 3≠[]:=by rw[h.2];exact(ZH hs).2.1
 have:=jx h3;exact λ_=>⟨by simp only;omega,by simp⟩;exact Jt v;exact Jt v
theorem J6(v:List Wd):wv v (tu v):=by unfold tu;split;rename_i h;have:=jx (v:=v) (i:=3) (by rw[h.2.2.2];decide);exact λ_=>⟨by simp only;omega,by simp⟩;exact Jt v
theorem qrR(v:List Wd):wv v (yu v):=by unfold yu;split;rename_i h;obtain⟨l,hl⟩:=zR h.1;have:=EC hl;exact λ_=>⟨by simp only;omega,by simp⟩;exact Jt v
theorem Q9(v:List Wd):wv v (Ct v):=by unfold Ct;split;split;rename_i h;obtain⟨l,hl⟩:=zR h.2;have:=EC hl;exact λ_=>⟨by simp only;omega,by simp⟩;exact Jt v;exact Jt v
theorem U5(v:List Wd):wv v (yt v):=by unfold yt;split;rename_i l hl;split;have:=EC hl;exact λ_=>⟨by simp only;omega,by simp⟩;exact Jt v;exact Jt v
theorem U6(v:List Wd):ek v<=v.length:=by unfold ek;split;rename_i h;obtain⟨l,hl⟩:=zR h.1;have:=EC hl;omega;split;rename_i h;have:=jx (v:=v) (i:=0) (by rcases h with h|h <;> rw[h] <;> decide);omega;omega
theorem e7(v:List Wd):wv v (uu v):=by unfold uu;split;rename_i h;intro _;have h1:=U6 v;have h2:Uo (v.drop (ek v))<=(v.drop (ek v)).length:=(List.takeWhile_prefix _).length_le;rw[length_drop] at h2;simp only[List.length_take];omega;exact Jt v
theorem qrD(ab:Wd->Bool)(v:List Wd):wv v (Wr ab v):=by
 unfold Wr;split;rename_i l hl;split;exact Jt v;have:ka v 0≠[]:=by intro h0;rw[h0] at hl;cases hl
 have:=jx this;exact λ_=>⟨by simp only;omega,by simp⟩;exact Jt v
theorem NO(ab:Wd->Bool)(v:List Wd):wv v (Of ab v):=by unfold Of;split;exact V5 v;split;exact qqh v;split;exact qpq v;split;exact J6 v;split;exact qrR v;split;exact Q9 v;split;exact U5 v;split;exact e7 v;exact qrD ab v
theorem gQ(ab:Wd->Bool):∀ (f:Nat) (l:List Wd),(Lo ab f l).length<=l.length
 |0,l=>zero_le _
 |f+1,[]=>mc _
 |f+1,w::r=>by rw[Lo];split;have:=gQ ab f r;simp only[Oa];omega;rename_i h;obtain⟨h1,h2⟩:=NO ab (w::r) h;have:=gQ ab f ((w::r).drop (Of ab (w::r)).1);rw[length_drop] at this;rw[ua];omega
theorem tW{d:Nat}(h:d<10):ze (UInt8.ofNat (48+d))=true:=by have h1:(UInt8.ofNat (48+d)).toNat=48+d:=nI h;unfold ze cv;rw[h1];simp;omega
theorem XY(u:Nat):∀ c∈decDigits u,ze c=true:=by
 induction u using Nat.strongRecOn with
 |ind u ih=>intro c hc;by_cases h:u<10;rw[decDigits_one h] at hc;rw[wh hc];exact tW h;rw[decDigits,dif_neg h] at hc;rcases Kj hc with hc|hc;exact ih (u / 10) Ia c hc;rw[wh hc];exact tW Ia
theorem W9(w:Wd)(n:Nat):Vc w=some n ↔ n<4294967296/\decDigits n=w:=by unfold Vc;constructor;intro h;split at h;rename_i u hu;split at h;rename_i he;cases h;exact⟨MO hu,he⟩;cases h;cases h;rintro⟨h1,h2⟩;subst h2;rw[VO n h1];simp
theorem SK(h:Vc w=some n):n<4294967296:=((W9 w n).1 h).1
theorem GV(ha:a<4294967296)(hb:b<4294967296)(h:Yn a op b=some c):c<4294967296:=by
 unfold Yn at h;split at h;cases h;omega;split at h;cases h;omega;split at h;cases h;exact mod_lt _ ra;split at h;cases h;exact Nat.xor_lt_two_pow (n:=32) ha hb;split at h;cases h;split <;> decide;split at h;split at h;cases h;cases h;exact Nat.lt_of_le_of_lt (Nat.div_le_self _ _) ha;split at h;split at h;cases h;cases h
 rename_i Jd;have:=mod_lt a (Nat.pos_of_ne_zero Jd);omega;cases h
def ks(v:List Wd):Prop:=ka v 0=[48]/\(ka v 1=[43]∨ka v 1=[45]∨ka v 1=[94])∨ka v 0=[49]/\(ka v 1=[42]∨ka v 1=[47])
instance(v:List Wd):Decidable (ks v):=by unfold ks;infer_instance
def Ql(v:List Wd):Prop:=(ka v 1=[43]∨ka v 1=[42]∨ka v 1=[94])/\ka v 3=ka v 1
instance(v:List Wd):Decidable (Ql v):=by unfold Ql;infer_instance
def ru(v:List Wd):Prop:=(Vc (ka v 0)).isSome=true/\ka v 1=[64]/\ka v 2=ka v 0/\ka v 3=[33]
instance(v:List Wd):Decidable (ru v):=by unfold ru;infer_instance
def Bv(v:List Wd):Prop:=(jm v 4).isSome=true/\ka v 0=[49]/\ka v 1=[60]/\ka v 2=[49]/\ka v 3=[60]
instance(v:List Wd):Decidable (Bv v):=by unfold Bv;infer_instance
def dx(v:List Wd):Bool:=match Vc (ka v 0) with
 |some n=>decide (n≠0/\(jm v 1).isSome=true)
 |none=>false
def zy(v:List Wd):Bool:=match jm v 1 with
 |some l=>decide (ka v 0=[48]/\xy l (v.drop 3)=true)
 |none=>false
def Xz(v:List Wd):Prop:=0<ek v/\0<Uo (v.drop (ek v))
instance(v:List Wd):Decidable (Xz v):=by unfold Xz;infer_instance
def cn(v:List Wd):Option Wd:=gq (ka v 0) (ka v 2) (ka v 1)
def So(v:List Wd):Option Wd:=gq (ka v 0) (ka v 1) (ka v 2)
section
variable{v:List Wd}{ab:Wd->Bool}
theorem K6(h:cn v=some s):vt v=(3,[s]):=by unfold vt;unfold cn at h;rw[h]
theorem wA(h:cn v=none):vt v=(0,[]):=by unfold vt;unfold cn at h;rw[h]
theorem qqb(h:ks v):Dv v=(2,[]):=zp h
theorem WC(h:¬ ks v):Dv v=(0,[]):=zn h
theorem qpD(h:Ql v)(h2:So v=some s):It v=(4,[s,ka v 1]):=by unfold It;unfold So at h2;unfold Ql at h;rw[zp h,h2]
theorem AF(h:¬ Ql v∨So v=none):It v=(0,[]):=by unfold It;unfold So at h;by_cases hc:Ql v;rcases h with h|h;exact absurd hc h;unfold Ql at hc;rw[zp hc,h];unfold Ql at hc;rw[zn hc]
theorem Z6(h:ru v):tu v=(4,[]):=zp h
theorem EH(h:¬ ru v):tu v=(0,[]):=zn h
theorem J9(h:Bv v):yu v=(6,[ka v 4,ka v 5]):=zp h
theorem PL(h:¬ Bv v):yu v=(0,[]):=zn h
theorem o8(h:dx v=true):Ct v=(3,[]):=by
 unfold dx at h;unfold Ct;split at h
 ·rename_i n hn
  try rw[hn]
  exact zp (Ck h)
 cases h
theorem wP(h:dx v=false):Ct v=(0,[]):=by
 unfold dx at h;unfold Ct;split at h
 ·rename_i n hn
  try rw[hn]
  exact zn (of_decide_eq_false h)
 rename_i hn;first|rw[hn]|rfl
theorem o6(h:zy v=true):yt v=(3,[]):=by
 unfold zy at h;unfold yt;split at h
 ·rename_i n hn
  try rw[hn]
  exact zp (Ck h)
 cases h
theorem DV(h:zy v=false):yt v=(0,[]):=by
 unfold zy at h;unfold yt;split at h
 ·rename_i n hn
  try rw[hn]
  exact zn (of_decide_eq_false h)
 rename_i hn;first|rw[hn]|rfl
theorem L5(h:Xz v):uu v=(ek v+Uo (v.drop (ek v)),v.take (ek v)):=zp h
theorem B5(h:¬ Xz v):uu v=(0,[]):=zn h
theorem xU(h:cn v=some s):Of ab v=(3,[s]):=by unfold Of;rw[K6 h];try rfl
theorem QU(h1:cn v=none)(h:ks v):Of ab v=(2,[]):=by unfold Of;rw[wA h1,qqb h];try rfl
theorem AU(h1:cn v=none)(h2:¬ ks v)(h:Ql v)(h':So v=some s):Of ab v=(4,[s,ka v 1]):=by unfold Of;rw[wA h1,WC h2,qpD h h'];try rfl
theorem LU(h1:cn v=none)(h2:¬ ks v)(h3:¬ Ql v∨So v=none)(h:ru v):Of ab v=(4,[]):=by unfold Of;rw[wA h1,WC h2,AF h3,Z6 h];try rfl
theorem FU(h1:cn v=none)(h2:¬ ks v)(h3:¬ Ql v∨So v=none)(h4:¬ ru v)(h:Bv v):Of ab v=(6,[ka v 4,ka v 5]):=by unfold Of;rw[wA h1,WC h2,AF h3,EH h4,J9 h];try rfl
theorem EU(h1:cn v=none)(h2:¬ ks v)(h3:¬ Ql v∨So v=none)(h4:¬ ru v)(h5:¬ Bv v)(h:dx v=true):Of ab v=(3,[]):=by unfold Of;rw[wA h1,WC h2,AF h3,EH h4,PL h5,o8 h];try rfl
theorem yU(h1:cn v=none)(h2:¬ ks v)(h3:¬ Ql v∨So v=none)(h4:¬ ru v)(h5:¬ Bv v)(h6:dx v=false)(h:zy v=true):Of ab v=(3,[]):=by unfold Of;rw[wA h1,WC h2,AF h3,EH h4,PL h5,wP h6,o6 h];try rfl
theorem CU(h1:cn v=none)(h2:¬ ks v)(h3:¬ Ql v∨So v=none)(h4:¬ ru v)(h5:¬ Bv v)(h6:dx v=false)(h7:zy v=false)(h:Xz v):Of ab v=(ek v+Uo (v.drop (ek v)),v.take (ek v)):=by
 unfold Of;have h0:ek v+Uo (v.drop (ek v))≠0:=by have:=h.1;omega
 rw[wA h1,WC h2,AF h3,EH h4,PL h5,wP h6,DV h7,L5 h];simp only[ne_eq,not_true_eq_false,if_false,h0,not_false_eq_true,if_true]
theorem RU(h1:cn v=none)(h2:¬ ks v)(h3:¬ Ql v∨So v=none)(h4:¬ ru v)(h5:¬ Bv v)(h6:dx v=false)(h7:zy v=false)(h8:¬ Xz v):Of ab v=Wr ab v:=by unfold Of;rw[wA h1,WC h2,AF h3,EH h4,PL h5,wP h6,DV h7,B5 h8];try rfl
end
def Yc(c:UInt8):List UInt8->List (List UInt8)
 |[]=>[[]]
 |d::r=>if d=c then []::Yc c r else match Yc c r with
  |p::ps=>(d::p)::ps
  |[]=>[[d]]
theorem LA(c:UInt8):∀ s,∃ p ps,Yc c s=p::ps
 |[]=>⟨_,_,rfl⟩
 |d::r=>by obtain⟨p,ps,h⟩:=LA c r;rw[Yc,h];split;exact⟨_,_,rfl⟩;exact⟨_,_,rfl⟩
theorem IA(c:UInt8)(r:List UInt8):Yc c (c::r)=[]::Yc c r:=by rw[Yc,zp rfl]
theorem dD{c d:UInt8}(h:d≠c)(r:List UInt8):∃ p ps,Yc c r=p::ps/\Yc c (d::r)=(d::p)::ps:=by obtain⟨p,ps,hp⟩:=LA c r;exact⟨p,ps,hp,by rw[Yc,zn h,hp]⟩
theorem wF{c:UInt8}:∀ {s:List UInt8},c ∉ s->Yc c s=[s]
 |[],_=>rfl
 |d::r,h=>by have hd:d≠c:=λe=>h (by rw[e];exact mem_cons_self ..);have hr:c ∉ r:=λe=>h (Sc _ e);rw[Yc,zn hd,wF hr]
theorem vQ{c:UInt8}:∀ {a b:List UInt8},c ∉ a->Yc c (a++c::b)=a::Yc c b
 |[],b,_=>IA c b
 |d::a,b,h=>by have hd:d≠c:=λe=>h (by rw[e];exact mem_cons_self ..);have ha:c ∉ a:=λe=>h (Sc _ e);rw[cons_append,Yc,zn hd,vQ ha]
theorem aI{c:UInt8}:∀ {s:List UInt8},c ∉ s->index s [c] = -1
 |[],_=>rfl
 |d::r,h=>by
  have hd:¬ c=d:=λe=>h (by rw[e];exact mem_cons_self ..);have hr:c ∉ r:=λe=>h (Sc _ e);have hp:([c]:List UInt8).isPrefixOf (d::r)=false:=by simp[List.isPrefixOf,hd]
  rw[index,hp,aI hr];try rfl
theorem kI{c:UInt8}:∀ {a b:List UInt8},c ∉ a->index (a++c::b) [c]=(a.length:Int)
 |[],b,_=>by
  have hp:([c]:List UInt8).isPrefixOf (c::b)=true:=by simp[List.isPrefixOf]
  rw[nil_append,index,hp];try rfl
 |d::a,b,h=>by
  have hd:¬ c=d:=λe=>h (by rw[e];exact mem_cons_self ..);have ha:c ∉ a:=λe=>h (Sc _ e);have hp:([c]:List UInt8).isPrefixOf (d::(a++c::b))=false:=by simp[List.isPrefixOf,hd]
  rw[cons_append,index,hp,kI ha,zn ra,zn (by
   intro h;have:=eq_of_beq h;omega)]
  simp
theorem lI{c:UInt8}{s:List UInt8}(h:c∈s):∃ a b,s=a++c::b/\c ∉ a:=List.eq_append_cons_of_mem h
theorem bW(c:UInt8)(s:List UInt8):(cut s [c]).1=s.takeWhile (λd=>decide (d≠c)):=by
 by_cases h:c∈s;obtain⟨a,b,rfl,ha⟩:=lI h;have h1:∀ x∈a,decide (x≠c)=true:=λx hx=>by simp only[sf];rintro rfl;exact ha hx
 rw[cut,kI ha,zp (by omega),List.takeWhile_append_of_pos h1,List.takeWhile_cons_of_neg (by simp)];simp;have h1:∀ x∈s,decide (x≠c)=true:=λx hx=>by simp only[sf];rintro rfl;exact h hx
 rw[cut,aI h,zn ra];have:=List.takeWhile_append_of_pos (l₂:=[]) h1;simpa using this.symm
theorem JZ(c:UInt8):∀ (f:Nat) (s:List UInt8),s.length<f->countFrom [c] f s=s.count c
 |0,s,h=>by omega
 |f+1,s,h=>by
  rw[countFrom];by_cases hc:c∈s
  ·obtain⟨a,b,rfl,ha⟩:=lI hc
   rw[kI ha,zn (by
    intro h;have:=eq_of_beq h;omega)]
   have hd:(a++c::b).drop ((a.length:Int).toNat+[c].length)=b:=by rw[show(a.length:Int).toNat+[c].length=a.length+1 by simp];rw[<-List.drop_drop,List.drop_left];try rfl
   rw[hd,JZ c f b (by simp only[ua,Oa] at h;omega)];rw[List.count_append,List.count_cons_self,List.count_eq_zero.2 ha];omega
  rw[aI hc,zp ra,List.count_eq_zero.2 hc]
theorem IY(c:UInt8):∀ (k:Nat) (s:List UInt8),s.count c<=k->splitK [c] 0 k s=Yc c s
 |0,s,h=>by have hc:c ∉ s:=List.count_eq_zero.1 Ia;rw[splitK,wF hc]
 |k+1,s,h=>by
  rw[splitK];by_cases hc:c∈s
  ·obtain⟨a,b,rfl,ha⟩:=lI hc
   rw[kI ha,zn (by
    intro h;have:=eq_of_beq h;omega),vQ ha]
   have hd:(a++c::b).drop ((a.length:Int).toNat+[c].length)=b:=by rw[show(a.length:Int).toNat+[c].length=a.length+1 by simp];rw[<-List.drop_drop,List.drop_left];try rfl
   rw[hd,show(a.length:Int).toNat+0=a.length by simp,List.take_left,IY c k b (by
    rw[List.count_append,List.count_cons_self] at h;omega)]
  rw[aI hc,zp ra,wF hc]
theorem ZX(c:UInt8)(s:List UInt8):split s [c]=Yc c s:=by rw[split,count,IY c _ s (by rw[JZ c _ s (by omega)];exact mc _)]
def full(l:List (List UInt8)):List Wd:=l.filter λw=>decide (w≠[])
def Mo(s:List UInt8):List Wd:=full (Yc 32 (s.takeWhile λd=>decide (d≠35)))
def Oj(s:List UInt8):List Wd:=(Yc 10 s).flatMap Mo
def Zm(cur:List UInt8):List Wd:=if cur=[] then [] else [cur]
def su:List UInt8->Bool->List UInt8->List Wd
 |cur,_,[]=>Zm cur
 |cur,Rp,c::r=>
  if c=10 then Zm cur++su [] false r
  else if Rp=true then su cur true r
  else if c=35 then Zm cur++su [] true r
  else if c=32 then Zm cur++su [] false r
  else su (cur++[c]) false r
def Qr(cur:List UInt8)(Rp:Bool)(l:List UInt8):List Wd:=if Rp=true then Zm cur else Mo (cur++l)
theorem aX(a b:List (List UInt8)):full (a++b)=full a++full b:=List.filter_append ..
theorem rP(a:List UInt8):full [a]=Zm a:=by unfold full Zm;by_cases h:a=[] <;> simp[h]
def qH(cur:List UInt8):Prop:=∀ c∈cur,c≠10/\c≠32/\c≠35
theorem qqK(h:qH cur)(l:List UInt8):Mo (cur++35::l)=Zm cur:=by
 have h1:∀ x∈cur,decide (x≠35)=true:=λx hx=>by simp only[sf];exact(h x hx).2.2
 have h2:(32:UInt8) ∉ cur:=λhx=>(h 32 hx).2.1 rfl;unfold Mo;rw[List.takeWhile_append_of_pos h1,List.takeWhile_cons_of_neg (by simp),Qb,wF h2,rP]
theorem aP(h:qH cur):Mo cur=Zm cur:=by
 have h1:∀ x∈cur,decide (x≠35)=true:=λx hx=>by simp only[sf];exact(h x hx).2.2
 have h2:(32:UInt8) ∉ cur:=λhx=>(h 32 hx).2.1 rfl;have h3:=List.takeWhile_append_of_pos (l₂:=[]) h1;rw[Qb,List.takeWhile_nil,Qb] at h3;unfold Mo;rw[h3,wF h2,rP]
theorem PY(h:qH cur)(l:List UInt8):Mo (cur++32::l)=Zm cur++Mo l:=by
 have h1:∀ x∈cur,decide (x≠35)=true:=λx hx=>by simp only[sf];exact(h x hx).2.2
 have h2:(32:UInt8) ∉ cur:=λhx=>(h 32 hx).2.1 rfl;unfold Mo;rw[List.takeWhile_append_of_pos h1,List.takeWhile_cons_of_pos ra,vQ h2,<-List.singleton_append,aX,rP]
theorem bF:∀ (s cur:List UInt8) (Rp:Bool) (p:List UInt8) (ps:List (List UInt8)),qH cur->(Rp=true->cur=[])->Yc 10 s=p::ps->su cur Rp s=Qr cur Rp p++ps.flatMap Mo
 |[],cur,Rp,p,ps,hc,LJ,hp=>by
  cases hp;rw[su,Qr];cases Rp with
  |true=>simp
  |false=>simp[aP hc]
 |c::r,cur,Rp,p,ps,hc,LJ,hp=>by
  obtain⟨q,qs,hq⟩:=LA 10 r;rw[su];by_cases Ms:c=10;subst Ms;rw[IA,hq] at hp;cases hp;rw[zp rfl,bF r [] false q qs (λx hx=>by cases hx) (by simp) hq];have:Qr cur Rp []=Zm cur:=by
   unfold Qr;cases Rp with
   |true=>rfl
   |false=>rw[zn ra,Qb,aP hc]
  rw[this];simp[Qr];clear hq;obtain⟨q,qs,hq,sk⟩:=dD Ms r;rw[sk] at hp;cases hp;rw[zn Ms];cases Rp with
  |true=>obtain rfl:=LJ rfl;rw[zp rfl,bF r [] true q ps (λx hx=>by cases hx) (λ_=>rfl) hq];simp[Qr]
  |false=>
   rw[zn ra];by_cases tE:c=35;subst tE;rw[zp rfl,bF r [] true q ps (λx hx=>by cases hx) (λ_=>rfl) hq];have:Qr cur false (35::q)=Zm cur:=by unfold Qr;rw[zn ra,qqK hc]
   rw[this];simp[Qr,Zm];rw[zn tE];by_cases uE:c=32;subst uE;rw[zp rfl,bF r [] false q ps (λx hx=>by cases hx) (by simp) hq];have:Qr cur false (32::q)=Zm cur++Mo q:=by unfold Qr;rw[zn ra,PY hc]
   rw[this,Xc];simp[Qr];rw[zn uE,bF r (cur++[c]) false q ps (λx hx=>by
    rcases Kj hx with h|h;exact hc x h;obtain rfl:=wh h;exact⟨Ms,uE,tE⟩) (by simp) hq]
   simp[Qr]
theorem qpi(s:List UInt8):su [] false s=Oj s:=by obtain⟨p,ps,hp⟩:=LA 10 s;rw[bF s [] false p ps (λx hx=>by cases hx) (by simp) hp];unfold Oj;rw[hp];simp[Qr]
theorem MW(ab:Wd->Bool):∀ (f:Nat) (l:List Wd),l.length<=f->Lo ab f l=l∨(Lo ab f l).length<l.length
 |0,l,h=>by have:l=[]:=List.eq_nil_of_length_eq_zero Ia;subst this;exact .inl rfl
 |f+1,[],_=>.inl rfl
 |f+1,w::r,h=>by rw[Lo];split;rcases MW ab f r (by simp only[Oa] at h;omega) with h1|h1;rw[h1];exact .inl rfl;right;simp only[Oa];omega;rename_i h0;obtain⟨h1,h2⟩:=NO ab (w::r) h0;have:=gQ ab f ((w::r).drop (Of ab (w::r)).1);rw[length_drop] at this;right;rw[ua];omega
theorem tL(l:List Wd):al l=l∨(al l).length<l.length:=MW _ _ l (mc _)
theorem qlz(h:(al l).length=l.length):al l=l:=by rcases tL l with h1|h1;exact h1;omega
def ai:Nat->List Wd->List Wd
 |0,l=>l
 |f+1,l=>if al l=l then l else ai f (al l)
def gl(l:List Wd):List Wd:=ai l.length l
theorem gY:∀ (f g:Nat) (l:List Wd),l.length<=f->l.length<=g->ai f l=ai g l
 |0,0,_,_,_=>rfl
 |0,g+1,l,h,_=>by have:l=[]:=List.eq_nil_of_length_eq_zero Ia;subst this;rw[ai,ai,zp (by rfl)]
 |f+1,0,l,_,h=>by have:l=[]:=List.eq_nil_of_length_eq_zero Ia;subst this;rw[ai,ai,zp (by rfl)]
 |f+1,g+1,l,h1,h2=>by rw[ai,ai];split;rfl;rename_i h;rcases tL l with h3|h3;exact absurd h3 h;exact gY f g (al l) Ia Ia
theorem V6(h:al l=l):gl l=l:=by
 unfold gl;cases l with
 |nil=>rfl
 |cons w r=>rw[Oa,ai,zp h]
theorem p9(h:al l≠l):gl l=gl (al l):=by rcases tL l with h3|h3;exact absurd h3 h;have h4:∃ k,l.length=k+1:=⟨l.length-1,by omega⟩;obtain⟨k,hk⟩:=h4;unfold gl;rw[hk,ai,zn h];exact gY _ _ _ Ia (mc _)
theorem zP(h:i<v.length):ka v i∈v:=by unfold ka;rw[dh h];exact List.getElem_mem h
theorem QY(h:gq x op y=some s):∃ c,c<4294967296/\s=decDigits c:=by unfold gq at h;split at h;rename_i a b ha hb;split at h;rename_i c hc;split at h;cases h;exact⟨c,GV (SK ha) (SK hb) hc,rfl⟩;cases h;cases h;cases h
theorem s8{P:Wd->Prop}(hd:∀ n,n<4294967296->P (decDigits n))(ab:Wd->Bool)(v:List Wd)(hv:∀ w∈v,P w):∀ w∈(Of ab v).2,P w:=by
 have none:∀ n:Nat,∀ w∈((n,[]):ao).2,P w:=λ_ w hw=>by cases hw
 by_cases h1:∃ s,cn v=some s;obtain⟨s,h1⟩:=h1;rw[xU h1];obtain⟨c,hc,rfl⟩:=QY h1;intro w hw;rcases wh hw with rfl;exact hd c hc;have h1:cn v=Option.none:=by
  cases h:cn v with
  |none=>rfl
  |some s=>exact absurd ⟨s,h⟩ h1
 by_cases h2:ks v;rw[QU h1 h2];exact none _;by_cases h3:Ql v/\∃ s,So v=some s;obtain⟨h3,s,h4⟩:=h3;rw[AU h1 h2 h3 h4];obtain⟨c,hc,rfl⟩:=QY h4;have h5:=jx (ZH h4).2.1;intro w hw;simp only[Mc,not_mem_nil,or_false] at hw;rcases hw with rfl|rfl;exact hd c hc;exact hv _ (zP h5);have h3:¬ Ql v∨So v=Option.none:=by
  by_cases hc:Ql v;right;cases h:So v with
  |none=>rfl
  |some s=>exact absurd ⟨hc,s,h⟩ h3
  exact .inl hc
 by_cases h4:ru v;rw[LU h1 h2 h3 h4];exact none _;by_cases h5:Bv v;rw[FU h1 h2 h3 h4 h5];obtain⟨l,hl⟩:=zR h5.1;have h6:=EC hl;intro w hw;simp only[Mc,not_mem_nil,or_false] at hw;rcases hw with rfl|rfl;exact hv _ (zP Ia);exact hv _ (zP Ia);cases h6:dx v with
 |true=>rw[EU h1 h2 h3 h4 h5 h6];exact none _
 |false=>
  cases h7:zy v with
  |true=>rw[yU h1 h2 h3 h4 h5 h6 h7];exact none _
  |false=>by_cases h8:Xz v;rw[CU h1 h2 h3 h4 h5 h6 h7 h8];exact λw hw=>hv w (List.mem_of_mem_take hw);rw[RU h1 h2 h3 h4 h5 h6 h7 h8];unfold Wr;split;split <;> exact none _;exact none _
theorem QP{P:Wd->Prop}(hd:∀ n,n<4294967296->P (decDigits n))(ab:Wd->Bool):∀ (f:Nat) (l:List Wd),(∀ w∈l,P w)->∀ w∈Lo ab f l,P w
 |0,_,_=>λw hw=>by cases hw
 |f+1,[],_=>λw hw=>by cases hw
 |f+1,a::r,hl=>by rw[Lo];split;intro w hw;rcases Mc.1 hw with rfl|hw;exact hl _ rf;exact QP hd ab f r (λx hx=>hl x (Sc _ hx)) w hw;intro w hw;rcases Kj hw with hw|hw;exact s8 hd ab (a::r) hl w hw;exact QP hd ab f _ (λx hx=>hl x (List.mem_of_mem_drop hx)) w hw
def Fq(w:Wd):Prop:=w≠[]/\qH w
theorem qqw(n:Nat):Fq (decDigits n):=⟨xI n,λc hc=>by
 have:=XY n c hc;refine⟨?_,?_,?_⟩ <;> (rintro rfl;exact absurd this ra)⟩
theorem HZ{c:UInt8}{l:List UInt8}:∀ p∈Yc c l,c ∉ p/\∀ x∈p,x∈l:=by
 induction l with
 |nil=>intro p hp;obtain rfl:=wh hp;exact⟨by simp,by simp⟩
 |cons d r ih=>intro p hp;by_cases h:d=c;subst h;rw[IA] at hp;rcases Mc.1 hp with rfl|hp;exact⟨by simp,by simp⟩;exact⟨(ih p hp).1,λx hx=>Sc _ ((ih p hp).2 x hx)⟩;obtain⟨q,qs,h1,h2⟩:=dD h r;rw[h2] at hp;rw[h1] at ih;rcases Mc.1 hp with rfl|hp;have:=ih q rf;refine⟨λhm=>?_,λx hx=>?_⟩;rcases Mc.1 hm with e|hm;exact h e.symm;exact this.1 hm;rcases Mc.1 hx with rfl|hx;exact mem_cons_self ..;exact Sc _ (this.2 x hx);have:=ih p (Sc _ hp);exact⟨this.1,λx hx=>Sc _ (this.2 x hx)⟩
theorem qnA{l:List UInt8}(h:(10:UInt8) ∉ l):∀ w∈Mo l,Fq w:=by
 intro w hw;obtain⟨h1,h2⟩:=List.mem_filter.1 hw;obtain⟨h3,h4⟩:=HZ w h1;refine⟨Ck h2,λc hc=>⟨?_,?_,?_⟩⟩;rintro rfl;exact h ((List.takeWhile_prefix _).subset (h4 _ hc));rintro rfl;exact h3 hc;rintro rfl
 have:∀ (l:List UInt8),(35:UInt8) ∉ l.takeWhile λd=>decide (d≠35):=by
  intro l;induction l with
  |nil=>simp
  |cons d r ih=>rw[List.takeWhile_cons];split;rename_i hd;intro hm;rcases Mc.1 hm with e|hm;rw[<-e] at hd;simp at hd;exact ih hm;simp
 exact this _ (h4 _ hc)
theorem wZ(s:List UInt8):∀ w∈Oj s,Fq w:=by intro w hw;obtain⟨p,hp,hw⟩:=List.mem_flatMap.1 hw;exact qnA (HZ p hp).1 w hw
theorem SP(x y:Wd)(r:List Wd):join (x::y::r) [32]=x++32::join (y::r) [32]:=by simp[join]
theorem JX:∀ (l:List Wd),(∀ w∈l,Fq w)->(10:UInt8) ∉ join l [32]
 |[],_=>by simp[join]
 |[a],h=>by rw[join_one];exact λhm=>((h a rf).2 10 hm).1 rfl
 |a::b::r,h=>by rw[SP];intro hm;rcases Kj hm with hm|hm;exact((h a rf).2 10 hm).1 rfl;rcases Mc.1 hm with e|hm;exact absurd e ra;exact JX (b::r) (λx hx=>h x (Sc _ hx)) hm
theorem rY:∀ (l:List Wd),(∀ w∈l,Fq w)->Mo (join l [32])=l
 |[],_=>rfl
 |[a],h=>by obtain⟨h1,h2⟩:=h a rf;rw[join_one,aP h2];simp[Zm,h1]
 |a::b::r,h=>by obtain⟨h1,h2⟩:=h a rf;rw[SP,PY h2,rY (b::r) λx hx=>h x (Sc _ hx)];simp[Zm,h1]
theorem YL{l:List Wd}(h:∀ w∈l,Fq w):Oj (join l [32])=l:=by unfold Oj;rw[wF (JX l h)];simp[rY l h]
theorem O9{a b:List Wd}(ha:∀ w∈a,Fq w)(hb:∀ w∈b,Fq w)(h:join a [32]=join b [32]):a=b:=by rw[<-YL ha,<-YL hb,h]
theorem qpK{l:List Wd}(h:∀ w∈l,Fq w):∀ w∈al l,Fq w:=QP (λn _=>qqw n) _ _ l h
def Vy(s:List UInt8):List UInt8×Int:=if 400000<s.length then ([],6) else (join (gl (Oj s)) [32],0)
def ve(l:List Wd):Nat:=(l.map λw=>w.length+1).sum
theorem Ih(w:Wd)(l:List Wd):ve (w::l)=w.length+1+ve l:=by simp[ve]
theorem Fi:ve []=0:=rfl
theorem cj(a b:List Wd):ve (a++b)=ve a+ve b:=by simp[ve]
theorem IX(l:List Wd)(n:Nat):ve l=ve (l.take n)+ve (l.drop n):=by rw[<-cj,List.take_append_drop]
theorem zL:∀ l:List Wd,(join l [32]).length<=ve l
 |[]=>zero_le _
 |[a]=>by rw[join_one,Ih];omega
 |a::b::r=>by have:=zL (b::r);rw[SP,Ih];simp only[ua,Oa];omega
theorem ZY(h:gq x op y=some s):s.length<=x.length+y.length+1:=by unfold gq at h;split at h;split at h;split at h;rename_i hle;cases h;exact hle;cases h;cases h;cases h
theorem x9(ab:Wd->Bool)(v:List Wd):ve (Of ab v).2<=ve (v.take (Of ab v).1):=by
 by_cases h1:∃ s,cn v=some s;obtain⟨s,h1⟩:=h1;rw[xU h1];have hl:=ZY h1;have wa:=jx (ZH h1).2.1;match v,wa,hl with
 |a::b::c::r,_,hl=>simp only[ka,List.getElem?_cons_zero,List.getElem?_cons_succ,getD_some] at hl;simp only[List.take_succ_cons,take_zero,Ih,Fi];omega
 have h1:cn v=Option.none:=by
  cases h:cn v with
  |none=>rfl
  |some s=>exact absurd ⟨s,h⟩ h1
 by_cases h2:ks v;rw[QU h1 h2];exact zero_le _;by_cases h3:Ql v/\∃ s,So v=some s;obtain⟨h3,s,h4⟩:=h3;rw[AU h1 h2 h3 h4];have hl:=ZY h4;have h5:ka v 3≠[]:=by rw[h3.2];exact(ZH h4).2.1
 have wa:=jx h5;match v,wa,hl with
 |a::b::c::d::r,_,hl=>simp only[ka,List.getElem?_cons_zero,List.getElem?_cons_succ,getD_some] at hl ⊢;simp only[List.take_succ_cons,take_zero,Ih,Fi];omega
 have h3:¬ Ql v∨So v=Option.none:=by
  by_cases hc:Ql v;right;cases h:So v with
  |none=>rfl
  |some s=>exact absurd ⟨hc,s,h⟩ h3
  exact .inl hc
 by_cases h4:ru v;rw[LU h1 h2 h3 h4];exact zero_le _;by_cases h5:Bv v;rw[FU h1 h2 h3 h4 h5];obtain⟨l,hl⟩:=zR h5.1;have h6:=EC hl;match v,h6 with
 |a::b::c::d::e::f::r,_=>simp only[ka,List.getElem?_cons_zero,List.getElem?_cons_succ,getD_some];simp only[List.take_succ_cons,take_zero,Ih,Fi];omega
 cases h6:dx v with
 |true=>rw[EU h1 h2 h3 h4 h5 h6];exact zero_le _
 |false=>
  cases h7:zy v with
  |true=>rw[yU h1 h2 h3 h4 h5 h6 h7];exact zero_le _
  |false=>by_cases h8:Xz v;rw[CU h1 h2 h3 h4 h5 h6 h7 h8];simp only;have:=IX (v.take (ek v+Uo (v.drop (ek v)))) (ek v);rw[List.take_take,Nat.min_eq_left (by omega)] at this;omega;rw[RU h1 h2 h3 h4 h5 h6 h7 h8];unfold Wr;split;split <;> exact zero_le _;exact zero_le _
theorem jQ(ab:Wd->Bool):∀ (f:Nat) (l:List Wd),ve (Lo ab f l)<=ve l
 |0,_=>zero_le _
 |f+1,[]=>mc _
 |f+1,a::r=>by rw[Lo];split;rw[Ih,Ih];have:=jQ ab f r;omega;have h1:=x9 ab (a::r);have h2:=jQ ab f ((a::r).drop (Of ab (a::r)).1);have h3:=IX (a::r) (Of ab (a::r)).1;rw[cj];omega
theorem oF:∀ (s cur:List UInt8) (Rp:Bool),ve (su cur Rp s)<=cur.length+s.length+1
 |[],cur,Rp=>by rw[su];unfold Zm;split;exact zero_le _;simp[ve]
 |c::r,cur,Rp=>by
  have hf:ve (Zm cur)<=cur.length+1:=by unfold Zm;split;exact zero_le _;simp[ve]
  rw[su];simp only[Oa];split;have:=oF r [] false;rw[cj];simp only[Eb] at this;omega;split;have:=oF r cur true;omega;split;have:=oF r [] true;rw[cj];simp only[Eb] at this;omega;split;have:=oF r [] false;rw[cj];simp only[Eb] at this;omega;have:=oF r (cur++[c]) false;rw[ua,List.length_singleton] at this;omega
theorem dQ(s:List UInt8):ve (Oj s)<=s.length+1:=by rw[<-qpi];have:=oF s [] false;simpa using this
theorem U9(c:UInt8)(r:List UInt8):Ay (c::r)=(decide ((c::r).length<=40) && jk c && (c::r).all Gh):=rfl
theorem W7(h:Ay s=true):s≠[]:=by rintro rfl;cases h
def Yw:Nat->List (List UInt8)->List (Wd×Nat)
 |_,[]=>[]
 |n,l::r=>(Mo l).map (λw=>(w,n+1))++Yw (n+1) r
def bq(s:List UInt8):List (Wd×Nat):=Yw 0 (Yc 10 s)
theorem kY:∀ (l:List (List UInt8)) (n:Nat),(Yw n l).map (·.1)=l.flatMap Mo
 |[],_=>rfl
 |a::r,n=>by rw[Yw,Od,map_map,kY r];simp[Function.comp_def]
theorem MC(s:List UInt8):(bq s).map (·.1)=Oj s:=kY _ 0
theorem qpd{l:List (List UInt8)}(h:i<l.length)(n:Nat):Yw n (l.drop i)=(Mo l[i]).map (λw=>(w,n+1))++Yw (n+1) (l.drop (i+1)):=by rw[List.drop_eq_getElem_cons h,Yw]
theorem qqL{l:List (List UInt8)}(h:i<l.length):full (l.drop i)=if l[i]=[] then full (l.drop (i+1)) else l[i]::full (l.drop (i+1)):=by rw[List.drop_eq_getElem_cons h];unfold full;rw[List.filter_cons];by_cases hc:l[i]=[];simp[hc];simp[hc]
theorem wQ(c:UInt8):∀ s,(Yc c s).length<=s.length+1
 |[]=>by simp[Yc]
 |d::r=>by have:=wQ c r;by_cases h:d=c;subst h;rw[IA];simp only[Oa];omega;obtain⟨p,ps,h1,h2⟩:=dD h r;rw[h2];rw[h1] at this;simp only[Oa] at this ⊢;omega
theorem vM{c:UInt8}:∀ {s p:List UInt8},p∈Yc c s->p.length<=s.length
 |[],p,h=>by obtain rfl:=wh h;exact mc _
 |d::r,p,h=>by by_cases hd:d=c;subst hd;rw[IA] at h;rcases Mc.1 h with rfl|h;exact zero_le _;have:=vM h;simp only[Oa];omega;obtain⟨q,qs,h1,h2⟩:=dD hd r;rw[h2] at h;rcases Mc.1 h with rfl|h;have:=vM (c:=c) (s:=r) (p:=q) (by rw[h1];exact mem_cons_self ..);simp only[Oa];omega;have:=vM (c:=c) (s:=r) (p:=p) (by rw[h1];exact Sc _ h);simp only[Oa];omega
theorem qQ(s:List UInt8):(Oj s).length<=s.length+1:=by
 have h1:=dQ s;have h2:(Oj s).length<=ve (Oj s):=by
  unfold ve;generalize Oj s=l;induction l with
  |nil=>exact mc _
  |cons a l ih=>simp only[Oa,Tb,sum_cons];omega
 omega
theorem aW(h:w∈l):w.length+1<=ve l:=by
 induction l with
 |nil=>cases h
 |cons a l ih=>rw[Ih];rcases Mc.1 h with rfl|h;omega;have:=ih h;omega
theorem WK(l:List Wd):l.length<=ve l:=by
 induction l with
 |nil=>exact zero_le _
 |cons a l ih=>rw[Ih,Oa];omega
theorem T8(l:List Wd):ve (al l)<=ve l:=jQ _ _ _
def fx:List UInt8:=[43,45,42,47,37,94,60,64,33,63,58,59,44,46,36,48,49,50,51,52,53,54,55,56,57]
def Wz(w:Wd):Bool:=w.all λc=>fx.contains c
def cd(l:List Wd):List Wd:=l.filterMap Ib
def Qz(ds:List Wd)(w:Wd):Prop:=match Ib w with
 |some _=>True
 |none=>match td w with
  |some d=>d∈ds
  |none=>Wz w=true
def wU(l:List Wd):Prop:=(cd l).Nodup/\∀ w∈l,Qz (cd l) w
def wm(w:Wd):Bool:=match w with
 |[]=>false
 |c::_=>ze c
def Fh(w:Wd):Bool:=match w.getLast? with
 |some c=>ze c
 |none=>false
def one(d:Bool):Nat:=if d=true then 1 else 0
def fi:Bool->List Wd->Nat
 |_,[]=>0
 |d,w::r=>match Ib w with
  |some _=>fi d r
  |none=>match td w with
   |some _=>one d+6+fi true r
   |none=>one (d && wm w)+w.length+fi (Fh w) r
theorem cO(d:Bool):one d<=1:=by cases d <;> simp[one]
theorem VL(w:Wd)(l:List Wd):cd (w::l)=(match Ib w with|some d=>[d]|none=>[])++cd l:=by unfold cd;rw[List.filterMap_cons];try cases Ib w <;> rfl
theorem qr3(h:Ib w=none)(l:List Wd):cd (w::l)=cd l:=by rw[VL,h];try rfl
theorem nW(a b:List Wd):cd (a++b)=cd a++cd b:=List.filterMap_append
def Zn(n:Nat):Wd:=([48,48,48,48,48]++decDigits n).drop (([48,48,48,48,48]++decDigits n).length-6)
def oi(known:Wd->Nat)(w:Wd):Wd:=match td w with
 |some x=>Zn (known x)
 |none=>w
def ag(known:Wd->Nat)(t w:Wd):Wd:=match Ib w with
 |some _=>t
 |none=>t++(if Fh t && wm (oi known w) then [32] else [])++oi known w
def Xw(known:Wd->Nat)(l:List Wd):Wd:=l.foldl (ag known) []
def Kf(known:Wd->Nat)(og:Nat)(s:Wd×List (Wd×Nat))(w:Wd):Wd×List (Wd×Nat):=match Ib w with
 |some x=>(s.1,s.2++[(x,og+s.1.length)])
 |none=>(ag known s.1 w,s.2)
def Io(known:Wd->Nat)(og:Nat)(l:List Wd):List (Wd×Nat):=(l.foldl (Kf known og) ([],[])).2
def Wm(nb:List (Wd×Nat))(x:Wd):Nat:=match nb.find? λp=>decide (p.1=x) with
 |some p=>p.2
 |none=>0
def Kd(all:List Wd):List Wd->List (Wd×Nat)->Nat×Nat
 |_,[]=>(0,0)
 |met,(w,ln)::r=>match Ib w with
  |some x=>if x∈met then (ln,8) else Kd all (met++[x]) r
  |none=>match td w with
   |some x=>if x∈all then Kd all met r else (ln,7)
   |none=>if Wz w=true then Kd all met r else (ln,3)
def Ti(src:Wd)(og:Int):Except (Nat×Nat) (Wd×List (Wd×Nat)):=
 if og<0∨262144<=og then .error (0,2)
 else if (Kd (cd (Oj src)) [] (bq src)).2≠0 then .error (Kd (cd (Oj src)) [] (bq src))
 else if 40000<(Xw (Wm (Io (λ_=>0) og.toNat (Oj src))) (Oj src)).length then .error (0,6)
 else .ok (Xw (Wm (Io (λ_=>0) og.toNat (Oj src))) (Oj src),Io (λ_=>0) og.toNat (Oj src))
theorem LP(n:Nat):(Zn n).length=6/\∀ c∈Zn n,ze c=true:=by have h1:1<=(decDigits n).length:=List.length_pos_iff.2 (xI n);constructor;unfold Zn;rw[length_drop,ua];simp only[Oa,Eb];omega;intro c hc;have h2:=List.mem_of_mem_drop hc;rcases Kj h2 with h|h;simp only[Mc,not_mem_nil,or_false,or_self] at h;rw[h];decide;exact XY n c h
theorem qnG{known:Wd->Nat}(Cd:Wd->Nat):wm (oi known w)=wm (oi Cd w)/\Fh (oi known w)=Fh (oi Cd w)/\(oi known w).length=(oi Cd w).length:=by
 unfold oi;cases td w with
 |none=>exact⟨rfl,rfl,rfl⟩
 |some x=>
  have key:∀ n,wm (Zn n)=true/\Fh (Zn n)=true/\(Zn n).length=6:=λn=>by
   obtain⟨h1,h2⟩:=LP n;have eb:Zn n≠[]:=λh=>by rw[h] at h1;cases h1
   refine⟨?_,?_,h1⟩;cases h:Zn n with
   |nil=>exact absurd h eb
   |cons c r=>exact h2 c (by rw[h];simp)
   unfold Fh;rw[List.getLast?_eq_some_getLast eb];exact h2 _ (List.getLast_mem eb)
  obtain⟨a1,a2,a3⟩:=key (known x);obtain⟨b1,b2,b3⟩:=key (Cd x);exact⟨a1.trans b1.symm,a2.trans b2.symm,a3.trans b3.symm⟩
theorem Y'{a b:Wd}(h:b≠[]):Fh (a++b)=Fh b:=by unfold Fh;rw[List.getLast?_append,List.getLast?_eq_some_getLast h];try rfl
theorem lL(known:Wd->Nat)(t w:Wd)(hd:Ib w=none)(hw:w≠[]):oi known w≠[]/\Fh (ag known t w)=Fh (oi known w)/\(ag known t w).length=t.length+one (Fh t && wm (oi known w))+(oi known w).length:=by
 have hp:oi known w≠[]:=by
  unfold oi;cases td w with
  |none=>exact hw
  |some x=>intro h;have:=(LP (known x)).1;rw[show Zn (known x)=[] from h] at this;cases this
 refine⟨hp,?_,?_⟩;unfold ag;rw[hd];exact Y' hp;unfold ag;rw[hd];simp only[ua,one];split <;> rfl
theorem oQ(known:Wd->Nat):∀ (l:List Wd) (t:Wd),(∀ w∈l,w≠[])->(l.foldl (ag known) t).length=t.length+fi (Fh t) l
 |[],t,_=>rfl
 |w::r,t,h=>by
  have hr:=λx hx=>h x (Sc w hx);rw[foldl_cons,oQ known r _ hr,fi]
  cases hd:Ib w with
  |some x=>
   have:ag known t w=t:=by unfold ag;rw[hd]
   rw[this]
  |none=>
   obtain⟨h1,h2,h3⟩:=lL known t w hd (h w (by simp));rw[h2,h3];cases hr:td w with
   |some x=>
    have hp:oi known w=Zn (known x):=by unfold oi;rw[hr]
    obtain⟨a1,a2⟩:=LP (known x);have hf:wm (Zn (known x))=true:=by
     cases h:Zn (known x) with
     |nil=>rw[h] at a1;cases a1
     |cons c q=>exact a2 c (by rw[h];simp)
    have hl:Fh (Zn (known x))=true:=by
     have eb:Zn (known x)≠[]:=λh=>by rw[h] at a1;cases a1
     unfold Fh;rw[List.getLast?_eq_some_getLast eb];exact a2 _ (List.getLast_mem eb)
    rw[hp,hf,hl,a1,Bool.and_true];simp only;omega
   |none=>
    have hp:oi known w=w:=by unfold oi;rw[hr]
    rw[hp];simp only;omega
theorem FX(known:Wd->Nat)(l:List Wd)(h:∀ w∈l,w≠[]):(Xw known l).length=fi false l:=by have:=oQ known l [] h;rw[Xw,this];simp[Fh]
theorem TL(known:Wd->Nat)(og:Nat):∀ (l:List Wd) (s:Wd×List (Wd×Nat)),(l.foldl (Kf known og) s).1=l.foldl (ag known) s.1
 |[],s=>rfl
 |w::r,s=>by
  rw[foldl_cons,foldl_cons,TL known og r];congr 1;unfold Kf;cases hd:Ib w with
  |some x=>simp only;unfold ag;rw[hd]
  |none=>rfl
theorem pP(known Cd:Wd->Nat)(og:Nat):∀ (l:List Wd) (s s':Wd×List (Wd×Nat)),(∀ w∈l,w≠[])->s.1.length=s'.1.length->Fh s.1=Fh s'.1->s.2=s'.2->(l.foldl (Kf known og) s).2=(l.foldl (Kf Cd og) s').2
 |[],s,s',_,_,_,h=>h
 |w::r,s,s',hw,h1,h2,h3=>by
  rw[foldl_cons,foldl_cons];have hr:=λx hx=>hw x (Sc w hx)
  cases hd:Ib w with
  |some x=>
   have e1:Kf known og s w=(s.1,s.2++[(x,og+s.1.length)]):=by unfold Kf;rw[hd]
   have e2:Kf Cd og s' w=(s'.1,s'.2++[(x,og+s'.1.length)]):=by unfold Kf;rw[hd]
   rw[e1,e2];exact pP known Cd og r _ _ hr h1 h2 (by simp only[h3,h1])
  |none=>
   have e1:Kf known og s w=(ag known s.1 w,s.2):=by unfold Kf;rw[hd]
   have e2:Kf Cd og s' w=(ag Cd s'.1 w,s'.2):=by unfold Kf;rw[hd]
   rw[e1,e2];obtain⟨a1,a2,a3⟩:=lL known s.1 w hd (hw w (by simp));obtain⟨b1,b2,b3⟩:=lL Cd s'.1 w hd (hw w (by simp));obtain⟨c1,c2,c3⟩:=qnG (known:=known) (w:=w) Cd;exact pP known Cd og r _ _ hr (by rw[a3,b3,c1,c3,h1,h2]) (by rw[a2,b2,c2]) h3
theorem qr9(known Cd:Wd->Nat)(og:Nat)(l:List Wd)(h:∀ w∈l,w≠[]):Io known og l=Io Cd og l:=pP known Cd og l _ _ h rfl rfl rfl
theorem eZ(known:Wd->Nat)(og:Nat):∀ (l:List Wd) (s:Wd×List (Wd×Nat)),((l.foldl (Kf known og) s).2).map (·.1)=s.2.map (·.1)++cd l
 |[],s=>by simp[cd]
 |w::r,s=>by
  rw[foldl_cons,eZ known og r];unfold Kf cd;cases hd:Ib w with
  |some x=>simp[hd]
  |none=>simp[hd]
def AA:List UInt8:=[97,98,99,100,101,102,103,104,105,106,107,108,109,110,111,112,113,114,115,116,117,118,119,120,121,122,48,49,50,51,52,53,54,55,56,57,95]
theorem qkZ:∀ n:Nat,n<256->AA.contains (UInt8.ofNat n)=Gh (UInt8.ofNat n):=by decide +kernel
theorem qq8(c:UInt8):AA.contains c=Gh c:=by have h:=qkZ c.toNat c.toNat_lt;rwa [UInt8.ofNat_toNat] at h
theorem bD{p:UInt8->Bool}:∀ {l:List UInt8},l.dropWhile p=[] ↔ l.all p=true
 |[]=>by simp
 |c::l=>by
  rw[List.dropWhile_cons,all_cons];cases h:p c with
  |true=>simpa using bD
  |false=>simp
theorem w7(s:List UInt8):(trimS s AA=[]) ↔ s.all Gh=true:=by
 have he:(λc=>AA.contains c)=Gh:=funext qq8;unfold trimS trimLeftS trimRightS;rw[he,bD];constructor;intro h;by_cases h2:s.reverse.dropWhile Gh=[];rw[bD] at h2;rw[all_reverse] at h2;exact h2;exfalso;obtain⟨c,r,Ku⟩:=List.exists_cons_of_ne_nil h2;have h3:Gh c=false:=by have:=List.head?_dropWhile_not Gh s.reverse;rw[Ku] at this;simpa using this
 rw[Ku,all_reverse,all_cons,h3] at h;cases h;intro h;have h2:s.reverse.dropWhile Gh=[]:=by rw[bD,all_reverse];exact h
 rw[h2];try rfl
theorem MV(r:List UInt8):hasPrefix (38::r) [38]=true/\trimPrefix (38::r) [38]=r:=by simp[trimPrefix,hasPrefix,List.isPrefixOf]
theorem A7{c:UInt8}(h:c≠38)(r:List UInt8):hasPrefix (c::r) [38]=false:=by have:¬ (38:UInt8)=c:=λe=>h e.symm;simp[hasPrefix,List.isPrefixOf,this]
theorem aV(w:Wd):td w=if hasPrefix w [38]=true/\Ay (trimPrefix w [38])=true then some (trimPrefix w [38]) else none:=by
 cases w with
 |nil=>rfl
 |cons c r=>by_cases h:c=38;subst h;rw[(MV r).1,(MV r).2];simp[td];rw[A7 h];simp[td,h]
theorem uY(w:Wd):hasSuffix w [58]=decide (w.getLast? = some 58):=by unfold hasSuffix;rw[Bool.eq_iff_iff,List.isSuffixOf_iff_suffix,decide_eq_true_iff];constructor;rintro⟨t,rfl⟩;simp;intro h;rw[List.getLast?_eq_some_iff] at h;obtain⟨t,rfl⟩:=h;exact⟨t,rfl⟩
theorem sV(w:Wd):Ib w=if hasSuffix w [58]=true/\Ay (trimSuffix w [58])=true then some (trimSuffix w [58]) else none:=by
 rw[uY];unfold Ib;by_cases h:w.getLast? = some 58
 ·have h2:trimSuffix w [58]=w.dropLast:=by
   unfold trimSuffix;rw[uY,Eg h,zp rfl,List.dropLast_eq_take];try rfl
  rw[h2];simp[h]
 simp[h]
structure MS where
 mem:Nat->Nat
 pc:Nat
 data:List Nat
 calls:List Nat
 we:List Nat
 out:Wd
 digit:Bool
inductive MR where
 |run (s:MS)
 |stop (e:Nat) (out:Wd)
def MR.Pd(s:MS):MR:=.stop 12 s.out
def um(v:Nat)(s:MS):MR:=if s.data.length<256 then .run { s with data:=v::s.data } else .Pd s
def zr(c a b:Nat):Option Nat:=
 if c=43 then some ((a+b) % 4294967296)
 else if c=45 then some ((a+4294967296-b) % 4294967296)
 else if c=42 then some (a * b % 4294967296)
 else if c=47 then (if b=0 then none else some (a / b))
 else if c=37 then (if b=0 then none else some (a % b))
 else if c=94 then some (a ^^^ b)
 else some (if a<b then 1 else 0)
def Po(c:Nat):Bool:=decide (48<=c) && decide (c<=57)
def jC(c:Nat)(s:MS):MR:=if s.digit=true then (match s.data with
 |d::r=>.run { s with data:=(d * 10+c-48) % 4294967296::r }
 |[]=>.Pd s) else um (c-48) s
def tD(s:MS):MR:=match s.data with
 |a::r=>if a<262144 then um (s.mem a) { s with data:=r } else .Pd s
 |[]=>.Pd s
def Um(s:MS):MR:=match s.data with
 |a::v::r=>if a<262144 then .run { s with data:=r,mem:=λi=>if i=a then v else s.mem i } else .Pd s
 |_=>.Pd s
def Tq(s:MS):MR:=match s.data with
 |t::v::r=>.run { s with data:=r,pc:=if v=0 then t else s.pc }
 |_=>.Pd s
def iC(s:MS):MR:=match s.data with
 |t::r=>if s.calls.length<64 then .run { s with data:=r,calls:=s.pc::s.calls,pc:=t } else .Pd s
 |[]=>.Pd s
def ju(s:MS):MR:=match s.calls with
 |t::r=>.run { s with calls:=r,pc:=t }
 |[]=>.Pd s
def jH(s:MS):MR:=match s.we with
 |v::r=>um v { s with we:=r }
 |[]=>um 4294967295 s
def Tz(s:MS):MR:=match s.data with
 |v::r=>.run { s with data:=r,out:=s.out++[UInt8.ofNat v] }
 |[]=>.Pd s
def iD(c:Nat)(s:MS):MR:=match s.data with
 |b::a::r=>(match zr c a b with
  |some v=>um v { s with data:=r }
  |none=>.Pd s)
 |_=>.Pd s
def Qi(c:Nat)(s:MS):MR:=
 if Po c=true then jC c s
 else if c=32∨c=10 then .run s
 else if c=64 then tD s
 else if c=33 then Um s
 else if c=63 then Tq s
 else if c=58 then iC s
 else if c=59 then ju s
 else if c=44 then jH s
 else if c=46 then Tz s
 else if c=36 then .stop 0 s.out
 else if c=43∨c=45∨c=42∨c=47∨c=37∨c=94∨c=60 then iD c s
 else .Pd s
def yy(s:MS):MR:=
 if s.pc<262144 then (match Qi (s.mem s.pc) { s with pc:=s.pc+1 } with
  |.run s'=>.run { s' with digit:=Po (s.mem s.pc) }
  |.stop e o=>.stop e o)
 else .Pd s
def runM:Nat->MS->Nat×Wd×Nat
 |0,s=>(13,s.out,0)
 |n+1,s=>match yy s with
  |.run s'=>((runM n s').1,(runM n s').2.1,(runM n s').2.2+1)
  |.stop e o=>(e,o,1)
def Tr(code:Wd)(og:Nat):Nat->Nat:=λi=>if og<=i then (match code[i-og]? with
 |some c=>c.toNat
 |none=>0) else 0
def qA(code:Wd)(og:Nat)(we:List Nat):MS:=⟨Tr code og,og,[],[],we,[],false⟩
def Zz(P:Pr):od:=P.funcs.getLast?.getD ⟨[],[],[],[]⟩
abbrev Nm:=List UInt8
variable{vars:List Nm}
def xH:List Nm:=kx++[[105,110],[111,117,116]]
def Mf(s:Nm):Bool:=decide (s.length<=24) && !xH.contains s && (match s with
 |[]=>false
 |c::r=>jk c && r.all Gh)
structure De where
 name:Nm
 params:Nat
 need:Nat
 depth:Nat
structure wb where
 vars:List Nm
 ba:List Nm
 later:List Nm
 own:List Nm
 funcs:List De
def wb.globals(c:wb):List Nm:=c.vars++c.ba++c.later
def wb.fn(c:wb)(name:Nm):Option De:=c.funcs.find? λf=>decide (f.name=name)
def Cg(a b:Int):Int:=if a≠0 then a else b
def FK:List Nm:=[[124,124],[38,38],[61,61],[33,61],[60],[62],[60,61],[62,61],[94],[43],[45],[42],[47],[37]]
def Xh(op:Nm):Int:=if op=Mq∨op=pn then 0 else if op=Dy∨op=Nq∨op=Yo then 1 else if op=Ek then -1 else if op∈FK then 2 else -2
def wu(c:wb)(name:Nm):Int:=if name∈c.vars∨name∈c.own then 0 else if name∈c.globals then 10 else 7
def nA(c:wb)(name:Nm):Int:=if name∈c.ba then 0 else if name∈c.globals∨name∈c.own then 10 else 7
def Df(c:wb)(name:Nm)(n:Nat):Int:=
 if name=[105,110] then (if n=0 then 0 else 1)
 else if name=[111,117,116] then (if n=1 then 0 else 1)
 else match c.fn name with
  |some f=>if n=f.params then 0 else 1
  |none=>if name∈c.vars∨name∈c.ba∨name∈c.own then 10 else 7
def Yu(c:wb)(op name:Nm)(n:Nat):Int:=if op=pn then wu c name else if op=Dy then nA c name else if op=Ek then Df c name n else 0
mutual
def Og(c:wb):Ex->Int
 |.mk op num name args=>if Xh op = -1∨Xh op=args.length then Cg (Bi c args) (Yu c op name args.length) else 3
def Bi(c:wb):List Ex->Int
 |[]=>0
 |x::l=>Cg (Og c x) (Bi c l)
end
def cA:Nat->List Nat->Nat->Nat
 |i,[],m=>m
 |i,n::l,m=>cA (i+1) l (max m (i+n))
def kC(c:wb)(name:Nm)(ns:List Nat):Nat:=
 if name=[105,110] then 1
 else if name=[111,117,116] then ns.headD 0
 else match c.fn name with
  |some f=>cA 0 ns (max (f.params+1) f.need)
  |none=>0
def KF(c:wb)(op name:Nm)(ns:List Nat):Nat:=
 if op=Mq∨op=pn then 1
 else if op=Dy∨op=Nq then 1+ns.headD 0
 else if op=Ek then kC c name ns
 else if op=Yo then max 2 (ns.headD 0)
 else if op=[62]∨op=[60,61] then max (max 3 (ns.headD 0)) (1+ns.tail.headD 0)
 else if op=[33,61] then max (max 3 (1+ns.headD 0)) (2+ns.tail.headD 0)
 else if op=[38,38] then max (1+ns.headD 0) (2+ns.tail.headD 0)
 else if op=[124,124] then max (2+ns.headD 0) (3+ns.tail.headD 0)
 else max (max 2 (ns.headD 0)) (1+ns.tail.headD 0)
mutual
def gk(c:wb):Ex->Nat
 |.mk op num name args=>KF c op name (sj c args)
def sj(c:wb):List Ex->List Nat
 |[]=>[]
 |x::l=>gk c x::sj c l
end
def Lr(c:wb)(op name:Nm):Nat:=if op=Ek/\name≠[105,110]/\name≠[111,117,116] then (match c.fn name with
 |some f=>f.depth+1
 |none=>0) else 0
mutual
def Jj(c:wb):Ex->Nat
 |.mk op num name args=>max (Nj c args) (Lr c op name)
def Nj(c:wb):List Ex->Nat
 |[]=>0
 |x::l=>max (Jj c x) (Nj c l)
end
def cK:Ex->Nm
 |.mk op _ _ _=>op
def Kg:Sm->Bool
 |.mk kind name index value lb Db=>
  if kind=1 then decide (name≠[]/\index.length=0/\value.length=1/\lb.length=0/\Db.length=0)
  else if kind=2 then decide (name≠[]/\index.length=1/\value.length=1/\lb.length=0/\Db.length=0)
  else if kind=3 then decide (name=[]/\index.length=0/\value.length=1)
  else if kind=4 then decide (name=[]/\index.length=0/\value.length=1/\Db.length=0)
  else if kind=5 then decide (name=[]/\index.length=0/\value.length=1/\lb.length=0/\Db.length=0)
  else if kind=6 then decide (name=[]/\index.length=0/\value.length=1/\lb.length=0/\Db.length=0/\cK (value.headD default)=Ek)
  else if kind=7 then decide (name=[]/\index.length=0/\value.length=0/\lb.length=0/\Db.length=0)
  else false
mutual
def xr(c:wb):Sm->Int
 |.mk kind name index value lb Db=>if Kg (.mk kind name index value lb Db)=false then 3
  else Cg (Bi c value) (Cg (Bi c index) (Cg (if kind=1 then wu c name else if kind=2 then nA c name else 0) (Cg (pj c lb) (pj c Db))))
def pj(c:wb):List Sm->Int
 |[]=>0
 |s::l=>Cg (xr c s) (pj c l)
end
mutual
def bA(c:wb):Sm->Nat
 |.mk kind name index value lb Db=>
  if kind=7 then 0
  else if kind=2 then max (gk c (value.headD default)) (2+gk c (index.headD default))
  else if kind=5 then gk c (value.headD default)
  else max 2 (max (max (gk c (value.headD default)) (Nl c lb)) (Nl c Db))
def Nl(c:wb):List Sm->Nat
 |[]=>0
 |s::l=>max (bA c s) (Nl c l)
end
mutual
def yr(c:wb):Sm->Nat
 |.mk kind name index value lb Db=>max (max (Nj c value) (Nj c index)) (max (Zi c lb) (Zi c Db))
def Zi(c:wb):List Sm->Nat
 |[]=>0
 |s::l=>max (yr c s) (Zi c l)
end
def Fl:List Nm->List Nm->Int
 |known,[]=>0
 |known,s::l=>if Mf s=false then 7 else if s∈known then 8 else Fl (s::known) l
def Iy:Int->List Int->Int
 |total,[]=>0
 |total,n::l=>if n<=0 then 2 else if 150000-total<n then 6 else Iy (total+n) l
def vg(vars ba later:List Nm)(known:List De)(f:od):wb:=⟨vars,ba,later,f.params++f.locals,known⟩
def Lp(vars ba later:List Nm)(known:List De)(f:od):Int:=Cg (Fl (vars++ba++later) (f.params++f.locals)) (pj (vg vars ba later known f) f.body)
def lj(vars ba later:List Nm)(known:List De)(f:od):De:=⟨f.name,f.params.length,max (max 2 (f.params.length+1)) (Nl (vg vars ba later known f) f.body),max 1 (Zi (vg vars ba later known f) f.body)⟩
def Jr(vars ba later:List Nm):List De->List od->Int
 |known,[]=>0
 |known,f::l=>Cg (Lp vars ba later known f) (Jr vars ba later (known++[lj vars ba later known f]) l)
def Yz(vars ba later:List Nm):List De->List od->List De
 |known,[]=>known
 |known,f::l=>Yz vars ba later (known++[lj vars ba later known f]) l
def Gf(vars:List Nm)(fs:List od):List Nm:=vars++(fs.map λf=>(f.params++f.locals).map λx=>f.name++[46]++x).flatten
def CK(vars:List Nm)(fs:List od)(FN:List De):Int:=match fs.getLast?,FN.getLast? with
 |some f,some m=>if f.name=[109,97,105,110]/\f.params=[] then (if (Gf vars fs).length<=8000/\m.need<=200/\m.depth<=60 then 0 else 6) else 9
 |_,_=>9
def dq(vars:List Nm)(ba:List (Nm×Int))(fs:List od):Int:=
 Cg (Fl [] (vars++ba.map (·.1)++fs.map (·.name))) (Cg (Iy 0 (ba.map (·.2)))
  (Cg (Jr vars (ba.map (·.1)) (fs.map (·.name)) [] fs) (CK vars fs (Yz vars (ba.map (·.1)) (fs.map (·.name)) [] fs))))
def DC(p:Pr):Int:=dq p.vars (p.ba.map λa=>(a.name,(a.size:Int))) p.funcs
theorem Xf{a b:Int}:Cg a b=0 ↔ a=0/\b=0:=by unfold Cg;split;constructor;intro h;contradiction;rintro⟨h,_⟩;contradiction;constructor;intro h;exact⟨by omega,h⟩;rintro⟨_,h⟩;exact h
theorem VC:∀ (l k:List Nm),Fl k l=0->l.Nodup/\∀ s∈l,s ∉ k/\Mf s=true
 |[],k,_=>⟨nodup_nil,λs hs=>(not_mem_nil hs).elim⟩
 |s::l,k,h=>by rw[Fl] at h;split at h;cases h;rename_i h1;split at h;cases h;rename_i h2;obtain⟨g1,g2⟩:=VC l (s::k) h;refine⟨List.nodup_cons.2 ⟨λhm=>(g2 s hm).1 rf,g1⟩,λx hx=>?_⟩;rcases Mc.1 hx with rfl|hx;exact⟨h2,by simpa using h1⟩;exact⟨λhm=>(g2 x hx).1 (Sc _ hm),(g2 x hx).2⟩
theorem KU{s:Nm}(h:Mf s=true):(46:UInt8) ∉ s:=by
 unfold Mf at h;rw[Le] at h;have h2:=h.2;cases s with
 |nil=>exact not_mem_nil
 |cons c r=>simp only[Le] at h2;intro hm;rcases Mc.1 hm with rfl|hm;exact absurd h2.1 ra;exact absurd (List.all_eq_true.1 h2.2 46 hm) ra
theorem pY:∀ (a b x y:Nm),(46:UInt8) ∉ a->(46:UInt8) ∉ b->a++46::x=b++46::y->a=b/\x=y
 |[],[],x,y,_,_,h=>by injection h with _ h;exact⟨rfl,h⟩
 |[],d::b,x,y,_,hb,h=>by injection h with h1 _;exact absurd (h1▸mem_cons_self ..) hb
 |c::a,[],x,y,ha,_,h=>by injection h with h1 _;exact absurd (h1▸mem_cons_self ..) ha
 |c::a,d::b,x,y,ha,hb,h=>by injection h with h1 h2;obtain⟨e1,e2⟩:=pY a b x y (λg=>ha (Sc _ g)) (λg=>hb (Sc _ g)) h2;exact⟨by rw[h1,e1],e2⟩
structure CC where
 sc:Nm->Wd
 ar:Nm->Wd
 t0:Wd
 t1:Wd
 t2:Wd
def Ev(c:CC):List Wd:=[c.t2,[33],c.t1,[33],c.t2,[64],c.t1,[64],[60]]
def BI(c:CC)(op:Nm)(num:Nat)(name:Nm)(l:List (List Wd)):List Wd:=
 if op=Mq then [decDigits num]
 else if op=pn then [c.sc name,[64]]
 else if op=Dy then c.ar name::(l.headD []++[[43],[64]])
 else if op=Ek then l.flatten++(if name=[105,110] then [[44]] else if name=[111,117,116] then [[46],[48]] else [[38,102,95]++name,[58]])
 else if op=Nq then [48]::(l.headD []++[[45]])
 else if op=Yo then l.headD []++[[49],[60]]
 else if op=[33,61] then [48]::(l.headD []++(l.drop 1).headD []++[[94],[60]])
 else if op=[38,38] then [48]::(l.headD []++[[60],[48]]++(l.drop 1).headD []++[[60],[42]])
 else if op=[124,124] then [48]::[48]::(l.headD []++[[60],[48]]++(l.drop 1).headD []++[[60],[43],[60]])
 else l.headD []++(l.drop 1).headD []++(if op=[62] then Ev c else if op=[60,61] then Ev c++[[49],[94]] else if op=[62,61] then [[60],[49],[94]] else if op=[61,61] then [[94],[49],[60]] else [op])
mutual
def Ke(c:CC):Ex->List Wd
 |.mk op num name args=>BI c op num name (tg c args)
def tg(c:CC):List Ex->List (List Wd)
 |[]=>[]
 |x::l=>Ke c x::tg c l
end
def gd(n:Nat):Wd:=106::decDigits n
mutual
def Qg(c:CC):Nat->Sm->List Wd×Nat
 |n,.mk kind name index value lb Db=>
  if kind=1 then (Ke c (value.headD default)++[c.sc name,[33]],n)
  else if kind=2 then (Ke c (value.headD default)++c.ar name::(Ke c (index.headD default)++[[43],[33]]),n)
  else if kind=3 then
   (match Db with
   |[]=>(Ke c (value.headD default)++[38::gd n,[63]]++(jc c (n+1) lb).1++[gd n++[58]],(jc c (n+1) lb).2)
   |_::_=>(Ke c (value.headD default)++[38::gd n,[63]]++(jc c (n+2) lb).1++[[48],38::gd (n+1),[63],gd n++[58]]++(jc c (jc c (n+2) lb).2 Db).1++[gd (n+1)++[58]],(jc c (jc c (n+2) lb).2 Db).2))
  else if kind=4 then ([gd n++[58]]++Ke c (value.headD default)++[38::gd (n+1),[63]]++(jc c (n+2) lb).1++[[48],38::gd n,[63],gd (n+1)++[58]],(jc c (n+2) lb).2)
  else if kind=5 then (Ke c (value.headD default)++[[59]],n)
  else if kind=6 then (Ke c (value.headD default)++[c.t0,[33]],n)
  else if kind=7 then ([[36]],n)
  else ([],n)
def jc(c:CC):Nat->List Sm->List Wd×Nat
 |n,[]=>([],n)
 |n,s::l=>((Qg c n s).1++(jc c (Qg c n s).2 l).1,(jc c (Qg c n s).2 l).2)
end
def Ly(l:List Nm)(S:Int)(k:Nm):Int:=if k∈l then S+3+(l.idxOf k:Nat) else 0
def lz(l:List Nm)(own name:Nm):Nm:=if own++[46]++name∈l then own++[46]++name else name
def yl:Int->List (Nm×Int)->Nm->Int
 |_,[],_=>0
 |at',(x,n)::r,name=>if x=name then at' else yl (at'+n) r name
structure Zl where
 code:Int
 scalars:Int
 ba:Int
def Ow(vars:List Nm)(ba:List (Nm×Int))(fs:List od)(o:Zl)(own:Nm):CC:=
 ⟨λs=>itoa (Ly (Gf vars fs) o.scalars (lz (Gf vars fs) own s)),λs=>itoa (yl o.ba ba s),itoa o.scalars,itoa (o.scalars+1),itoa (o.scalars+2)⟩
def Ps(c:CC)(n:Nat)(f:od):List Wd×Nat:=
 ([[102,95]++f.name++[58]]++f.params.reverse.flatMap (λp=>[c.sc p,[33]])++(jc c n f.body).1++[[48],[59]],(jc c n f.body).2)
def sg(cc:Nm->CC):Nat->List od->List Wd×Nat
 |n,[]=>([],n)
 |n,f::l=>((Ps (cc f.name) n f).1++(sg cc (Ps (cc f.name) n f).2 l).1,(sg cc (Ps (cc f.name) n f).2 l).2)
def Lv(vars:List Nm)(ba:List (Nm×Int))(fs:List od)(o:Zl):List Wd:=
 [[38,102,95,109,97,105,110],[58],itoa o.scalars,[33],[36]]++(sg (Ow vars ba fs o) 0 fs).1
def yA(a n:Int):Bool:=decide (0<=a/\a<=262144-n)
def oA(a n b m:Int):Bool:=decide (0<n/\0<m/\a<b+m/\b<a+n)
def qu(vars:List Nm)(ba:List (Nm×Int))(fs:List od)(o:Zl):Bool:=
 let total:=(ba.map (·.2)).sum
 let n:Int:=3+(Gf vars fs).length
 yA o.scalars n && yA o.code 40000 && yA o.ba total && !oA o.code 40000 o.scalars n && !oA o.ba total o.scalars n && !oA o.ba total o.code 40000
def Sp(vars:List Nm)(ba:List (Nm×Int))(fs:List od)(o:Zl):Except Int Wd:=
 if dq vars ba fs≠0 then .error (dq vars ba fs)
 else if qu vars ba fs o=false then .error 2
 else match Ti (join (Lv vars ba fs o) [32]) o.code with
  |.error e=>.error e.2
  |.ok _=>.ok (join (Lv vars ba fs o) [32])
def Lt(v:Nat):Prop:=v<4294967296
mutual
def wj:Ex->Prop
 |.mk op num name args=>Lt num/\Jk args
def Jk:List Ex->Prop
 |[]=>True
 |x::l=>wj x/\Jk l
end
mutual
def Mt:Sm->Prop
 |.mk kind name index value lb Db=>Jk index/\Jk value/\qm lb/\qm Db
def qm:List Sm->Prop
 |[]=>True
 |x::l=>Mt x/\qm l
end
theorem fQ{vars ba later:List Nm}:∀ (fs:List od) (known:List De),Jr vars ba later known fs=0->∀ f∈fs,(f.params++f.locals).Nodup/\∀ x∈f.params++f.locals,x ∉ vars++ba++later
 |[],known,_,f,hf=>(not_mem_nil hf).elim
 |g::l,known,h,f,hf=>by rw[Jr] at h;obtain⟨h1,h2⟩:=Xf.1 h;rcases Mc.1 hf with rfl|hf;obtain⟨g1,g2⟩:=VC _ _ (Xf.1 h1).1;exact⟨g1,λx hx=>(g2 x hx).1⟩;exact fQ l _ h2 f hf
theorem cY{A B:Type}{g:A->B}(hg:∀ x y,g x=g y->x=y):∀ {l:List A},l.Nodup->(l.map g).Nodup
 |[],_=>nodup_nil
 |a::l,h=>by rw[nodup_cons] at h;rw[Tb,nodup_cons];refine⟨λhm=>?_,cY hg h.2⟩;obtain⟨b,hb,he⟩:=vi hm;exact h.1 (hg _ _ he▸hb)
theorem qr0{fs:List od}:(fs.map (·.name)).Nodup->(∀ f∈fs,(46:UInt8) ∉ f.name)->(∀ f∈fs,(f.params++f.locals).Nodup)->((fs.map λf=>(f.params++f.locals).map λx=>f.name++[46]++x).flatten).Nodup:=by
 induction fs with
 |nil=>intro _ _ _;exact nodup_nil
 |cons f l ih=>
  intro h1 h2 h3;rw[Tb,nodup_cons] at h1;rw[Tb,List.flatten_cons,List.nodup_append];refine⟨?_,ih h1.2 (λg hg=>h2 g (Sc _ hg)) λg hg=>h3 g (Sc _ hg),?_⟩;exact cY (λx y hxy=>List.append_cancel_left hxy) (h3 f rf);intro a ha b hb he;subst he;obtain⟨x,_,rfl⟩:=vi ha;obtain⟨L,g1,g2⟩:=List.mem_flatten.1 hb;obtain⟨g,g3,rfl⟩:=vi g1;obtain⟨y,_,g5⟩:=vi g2;have g6:g.name++46::y=f.name++46::x:=by simpa using g5
  obtain⟨e1,_⟩:=pY _ _ _ _ (h2 g (Sc _ g3)) (h2 f rf) g6;exact h1.1 (List.mem_map.2 ⟨g,g3,e1⟩)
theorem qqn{ba:List Nm}(h:Fl [] (vars++ba++fs.map (·.name))=0)(hf:Jr vars ba (fs.map (·.name)) [] fs=0):(Gf vars fs).Nodup:=by obtain⟨h1,h2⟩:=VC _ _ h;have ho:=fQ fs [] hf;unfold Gf;rw[List.nodup_append];refine⟨(ct (ct h1).1).1,qr0 (ct h1).2.1 (λf hf=>KU (h2 _ (List.mem_append.2 (.inr (List.mem_map.2 ⟨f,hf,rfl⟩)))).2) λf hf=>(ho f hf).1,?_⟩;intro a ha b hb he;subst he;obtain⟨L,g1,g2⟩:=List.mem_flatten.1 hb;obtain⟨g,g3,rfl⟩:=vi g1;obtain⟨y,_,g5⟩:=vi g2;have:=KU (h2 _ (List.mem_append.2 (.inl (List.mem_append.2 (.inl ha))))).2;rw[<-g5] at this;exact absurd (by simp) this
def dC(fs:List od)(known:List De):Prop:=∀ k∈known,∃ g∈fs,g.name=k.name/\g.params.length=k.params
theorem JY{vars ba later:List Nm}{all:List od}:∀ (fs:List od) (known:List De),Jr vars ba later known fs=0->dC all known->(∀ f∈fs,f∈all)->∀ f∈fs,∃ kn,pj (vg vars ba later kn f) f.body=0/\dC all kn
 |[],known,_,_,_,f,hf=>(not_mem_nil hf).elim
 |g::l,known,h,hk,ha,f,hf=>by rw[Jr] at h;obtain⟨h1,h2⟩:=Xf.1 h;rcases Mc.1 hf with rfl|hf;exact⟨known,(Xf.1 h1).2,hk⟩;refine JY l _ h2 (λk ow=>?_) (λx hx=>ha x (Sc _ hx)) f hf;rcases Kj ow with g1|g1;exact hk k g1;rw[wh g1];exact⟨g,ha g rf,rfl,rfl⟩
theorem EY:∀ (l:List Int) (t:Int),0<=t->Iy t l=0->∀ n∈l,0<n/\t+n<=150000
 |[],t,_,_,n,hn=>(not_mem_nil hn).elim
 |a::l,t,ht,h,n,hn=>by rw[Iy] at h;split at h;cases h;split at h;cases h;rcases Mc.1 hn with rfl|hn;constructor <;> omega;have:=EY l (t+a) Ia h n hn;constructor <;> omega
structure Valid(p:Pr):Prop where
 names:Fl [] (p.vars++p.ba.map (·.name)++p.funcs.map (·.name))=0
 lh:∀ a∈p.ba,0<a.size/\a.size<=150000
 own:∀ f∈p.funcs,(f.params++f.locals).Nodup/\∀ x∈f.params++f.locals,x ∉ p.vars++p.ba.map (·.name)++p.funcs.map (·.name)
 Qw:∀ f∈p.funcs,∃ kn,pj (vg p.vars (p.ba.map (·.name)) (p.funcs.map (·.name)) kn f) f.body=0/\dC p.funcs kn
 keys:(Gf p.vars p.funcs).Nodup
 main:Zz p∈p.funcs/\(Zz p).name=[109,97,105,110]/\(Zz p).params=[]
 eu:(Gf p.vars p.funcs).length<=8000
theorem fX{p:Pr}(h:DC p=0):Valid p:=by
 unfold DC dq at h;have e1:(p.ba.map λa=>(a.name,(a.size:Int))).map (·.1)=p.ba.map (·.name):=by rw[map_map];try rfl
 rw[e1] at h;obtain⟨h1,h⟩:=Xf.1 h;obtain⟨h2,h⟩:=Xf.1 h;obtain⟨h3,h4⟩:=Xf.1 h;have hm:Zz p∈p.funcs/\(Zz p).name=[109,97,105,110]/\(Zz p).params=[]/\(Gf p.vars p.funcs).length<=8000:=by
  unfold CK at h4;split at h4
  ·rename_i f m hf Ut
   split at h4
   ·rename_i h5
    split at h4
    ·rename_i h6
     have e:Zz p=f:=by unfold Zz;rw[hf];try rfl
     rw[e];exact⟨List.mem_of_getLast? hf,h5.1,h5.2,h6.1⟩
    cases h4
   cases h4
  cases h4
 refine⟨h1,λa ha=>?_,fQ _ _ h3,JY _ _ h3 (λk hk=>(not_mem_nil hk).elim) λf hf=>hf,qqn h1 h3,⟨hm.1,hm.2.1,hm.2.2.1⟩,hm.2.2.2⟩
 have:=EY _ 0 ra h2 (a.size:Int) (by
  rw[map_map];exact List.mem_map.2 ⟨a,ha,rfl⟩)
 constructor <;> omega
theorem bQ(all:List Wd):∀ (l:List (Wd×Nat)) (met:List Wd),(Kd all met l).2=0->met.Nodup->(met++cd (l.map (·.1))).Nodup/\∀ w∈l.map (·.1),Qz all w
 |[],met,_,hm=>by simp only[List.map_nil,cd,List.filterMap_nil,Qb];exact⟨hm,λw hw=>(not_mem_nil hw).elim⟩
 |(w,ln)::r,met,h,hm=>by
  rw[Kd] at h;rw[Tb,VL];cases hd:Ib w with
  |some x=>
   rw[hd] at h;simp only at h ⊢;split at h;simp at h;rename_i hx;have hn:(met++[x]).Nodup:=List.nodup_append.2 ⟨hm,by simp,λa ha b hb=>by
    rw[wh hb];exact λe=>hx (e▸ha)⟩
   obtain⟨h1,h2⟩:=bQ all r (met++[x]) h hn;refine⟨by rw[Xc] at h1;exact h1,λy hy=>?_⟩;rcases Mc.1 hy with rfl|hy;unfold Qz;rw[hd];trivial
   exact h2 y hy
  |none=>
   rw[hd] at h;simp only at h ⊢;have key:Qz all w/\(Kd all met r).2=0:=by
    unfold Qz;rw[hd];cases hr:td w with
    |some x=>rw[hr] at h;simp only at h ⊢;split at h;rename_i hx;exact⟨hx,h⟩;simp at h
    |none=>rw[hr] at h;simp only at h ⊢;split at h;rename_i hx;exact⟨hx,h⟩;simp at h
   obtain⟨h1,h2⟩:=bQ all r met key.2 hm;refine⟨by simpa using h1,λy hy=>?_⟩;rcases Mc.1 hy with rfl|hy;exact key.1;exact h2 y hy
theorem O3{src:Wd}(h:(Kd (cd (Oj src)) [] (bq src)).2=0):wU (Oj src):=by have:=bQ _ _ _ h nodup_nil;rw[MC,nil_append] at this;exact this
def Yp(n:Nat):Prop:=n<=2000000
mutual
def vU:Ex->Prop
 |.mk op num name args=>Yp args.length/\fv args
def fv:List Ex->Prop
 |[]=>True
 |x::l=>vU x/\fv l
end
mutual
def uU:Sm->Prop
 |.mk kind name index value lb Db=>Yp index.length/\Yp value.length/\Yp lb.length/\Yp Db.length/\fv index/\fv value/\dv lb/\dv Db
def dv:List Sm->Prop
 |[]=>True
 |x::l=>uU x/\dv l
end
structure pK(f:od):Prop where
 params:Yp f.params.length
 locals:Yp f.locals.length
 body:Yp f.body.length
 stmts:dv f.body
mutual
def Hi:Ex->Nat
 |.mk op num name args=>1+ob args
def ob:List Ex->Nat
 |[]=>0
 |x::l=>Hi x+ob l
end
mutual
def Kl:Sm->Nat
 |.mk kind name index value lb Db=>1+(ob index+ob value+Nc lb+Nc Db)
def Nc:List Sm->Nat
 |[]=>0
 |x::l=>Kl x+Nc l
end
def zm(f:od):Nat:=1+f.params.length+f.locals.length+Nc f.body
def ud:List od->Nat
 |[]=>0
 |f::l=>zm f+ud l
theorem bL(x:Ex):1<=Hi x:=by obtain⟨op,num,name,args⟩:=x;rw[Hi];omega
theorem vO(x:Sm):1<=Kl x:=by obtain⟨k,n,i,v,t,e⟩:=x;rw[Kl];omega
theorem jF:∀ l:List Ex,l.length<=ob l
 |[]=>mc _
 |x::l=>by have h1:=bL x;have h2:=jF l;rw[ob,Oa];omega
theorem LC:∀ l:List Sm,l.length<=Nc l
 |[]=>mc _
 |x::l=>by have h1:=vO x;have h2:=LC l;rw[Nc,Oa];omega
theorem yL:∀ l:List od,l.length<=ud l
 |[]=>mc _
 |x::l=>by have h2:=yL l;rw[ud,Oa];unfold zm;omega
theorem wL:∀ {l:List od} {f:od},f∈l->zm f<=ud l
 |g::l,f,h=>by rw[ud];rcases Mc.1 h with rfl|h;omega;have:=wL h;omega
theorem ZO:∀ {l:List Ex} {f:Ex},f∈l->Hi f<=ob l
 |g::l,f,h=>by rw[ob];rcases Mc.1 h with rfl|h;omega;have:=ZO h;omega
mutual
theorem R3:∀ x:Ex,Hi x<=2000000->vU x
 |.mk op num name args,h=>by rw[Hi] at h;have:=jF args;exact⟨show args.length<=2000000 by omega,VK args Ia⟩
theorem VK:∀ l:List Ex,ob l<=2000000->fv l
 |[],_=>trivial
 |x::l,h=>by rw[ob] at h;exact⟨R3 x Ia,VK l Ia⟩
end
mutual
theorem M3:∀ x:Sm,Kl x<=2000000->uU x
 |.mk k n i v t e,h=>by rw[Kl] at h;have h1:=jF i;have h2:=jF v;have h3:=LC t;have h4:=LC e;exact⟨show i.length<=2000000 by omega,show v.length<=2000000 by omega,show t.length<=2000000 by omega,show e.length<=2000000 by omega,VK i Ia,VK v Ia,UK t Ia,UK e Ia⟩
theorem UK:∀ l:List Sm,Nc l<=2000000->dv l
 |[],_=>trivial
 |x::l,h=>by rw[Nc] at h;exact⟨M3 x Ia,UK l Ia⟩
end
theorem iO{f:od}(h:zm f<=2000000):pK f:=by unfold zm at h;have:=LC f.body;exact⟨show f.params.length<=2000000 by omega,show f.locals.length<=2000000 by omega,show f.body.length<=2000000 by omega,UK _ Ia⟩
def so(B D:Nat)(known:List De):Prop:=∀ k∈known,k.need<=B/\k.params+1<=B/\k.depth<=D
theorem pX(B:Nat)(c:wb):∀ (l:List Ex) (i m:Nat),(∀ x∈l,gk c x<=4 * Hi x+B)->cA i (sj c l) m<=max m (4 * ob l+i+B)
 |[],i,m,_=>by rw[sj,cA];exact Nat.le_max_left _ _
 |x::l,i,m,h=>by rw[sj,cA,ob];have h1:=h x rf;have h2:=pX B c l (i+1) (max m (i+gk c x)) λy hy=>h y (Sc _ hy);have h3:=bL x;omega
mutual
theorem kF(B D:Nat)(c:wb)(hB:so B D c.funcs):∀ x:Ex,gk c x<=4 * Hi x+B
 |.mk op num name args=>by
  rw[gk,Hi];have ha:=zX B D c hB args;have h0:(sj c args).headD 0<=4 * ob args+B:=by
   cases args with
   |nil=>rw[sj];exact zero_le _
   |cons x l=>have:=ha x rf;rw[sj,ob];show gk c x<=_;omega
  have h1:(sj c args).tail.headD 0<=4 * ob args+B:=by
   cases args with
   |nil=>rw[sj];exact zero_le _
   |cons x l=>
    cases l with
    |nil=>rw[sj,sj];exact zero_le _
    |cons y l=>have:=ha y (Sc _ rf);rw[sj,sj,ob,ob];show gk c y<=_;omega
  have hc:kC c name (sj c args)<=4 * (1+ob args)+B:=by unfold kC;split;omega;split;omega;unfold wb.fn;split;rename_i k hk;have OS:=hB k (List.mem_of_find?_eq_some hk);have:=pX B c args 0 (max (k.params+1) k.need) ha;omega;omega
  unfold KF;split;omega;split;omega;split;exact hc;split;omega;split;omega;split;omega;split;omega;split;omega;omega
theorem zX(B D:Nat)(c:wb)(hB:so B D c.funcs):∀ (l:List Ex),∀ x∈l,gk c x<=4 * Hi x+B
 |[],x,h=>(not_mem_nil h).elim
 |a::l,x,h=>by rcases Mc.1 h with h1|h1;rw[h1];exact kF B D c hB a;exact zX B D c hB l x h1
end
theorem P8{c:wb}(hB:so B D c.funcs)(op name:Nm):Lr c op name<=D+1:=by unfold Lr;split;unfold wb.fn;split;rename_i k hk;have:=hB k (List.mem_of_find?_eq_some hk);omega;omega;omega
mutual
theorem qO(B D:Nat)(c:wb)(hB:so B D c.funcs):∀ x:Ex,Jj c x<=D+1
 |.mk op num name args=>by rw[Jj];have h1:=SH B D c hB args;have h2:=P8 hB op name;omega
theorem SH(B D:Nat)(c:wb)(hB:so B D c.funcs):∀ l:List Ex,Nj c l<=D+1
 |[]=>zero_le _
 |x::l=>by rw[Nj];have h1:=qO B D c hB x;have h2:=SH B D c hB l;omega
end
theorem sZ{c:wb}(hB:so B D c.funcs)(l:List Ex):gk c (l.headD default)<=4 * (ob l+1)+B:=by
 cases l with
 |nil=>
  have:=kF B D c hB (default:Ex);have h1:Hi (default:Ex)=1:=by show Hi (.mk [] 0 [] [])=1;rw[Hi,ob]
  show gk c default<=_;rw[ob];omega
 |cons x l=>have:=kF B D c hB x;show gk c x<=_;rw[ob];omega
mutual
theorem A9(B D:Nat)(c:wb)(hB:so B D c.funcs):∀ x:Sm,bA c x<=8 * Kl x+B
 |.mk k n i v t e=>by rw[bA,Kl];have h1:=sZ hB v;have h2:=sZ hB i;have h3:=jI B D c hB t;have h4:=jI B D c hB e;split;omega;split;omega;split;omega;omega
theorem jI(B D:Nat)(c:wb)(hB:so B D c.funcs):∀ l:List Sm,Nl c l<=8 * Nc l+B
 |[]=>by rw[Nl];exact zero_le _
 |x::l=>by rw[Nl,Nc];have h1:=A9 B D c hB x;have h2:=jI B D c hB l;omega
end
mutual
theorem ZV(B D:Nat)(c:wb)(hB:so B D c.funcs):∀ x:Sm,yr c x<=D+1
 |.mk k n i v t e=>by rw[yr];have h1:=SH B D c hB v;have h2:=SH B D c hB i;have h3:=JC B D c hB t;have h4:=JC B D c hB e;omega
theorem JC(B D:Nat)(c:wb)(hB:so B D c.funcs):∀ l:List Sm,Zi c l<=D+1
 |[]=>by rw[Zi];exact zero_le _
 |x::l=>by rw[Zi];have h1:=ZV B D c hB x;have h2:=JC B D c hB l;omega
end
theorem O6{ba later:List Nm}{known:List De}{f:od}(hB:so B D known):(lj vars ba later known f).need<=8 * zm f+B/\(lj vars ba later known f).params+1<=8 * zm f+B/\(lj vars ba later known f).depth<=D+1:=by have h1:=jI B D (vg vars ba later known f) hB f.body;have h2:=JC B D (vg vars ba later known f) hB f.body;unfold lj zm;simp only;omega
structure cU(p:Pr)(n:Nat):Prop where
 vars:p.vars.length<=n
 ba:p.ba.length<=n
 size:∀ a∈p.ba,a.size<4294967296
 funcs:ud p.funcs<=n
 kR:∀ f∈p.funcs,qm f.body
structure ni(s:MS):Prop where
 mem:∀ i,s.mem i<4294967296
 pc:s.pc<4294967296
 data:∀ v∈s.data,v<4294967296
 calls:∀ v∈s.calls,v<4294967296
 we:∀ v∈s.we,v<4294967296
 eu:s.data.length<=256
 deep:s.calls.length<=64
theorem ni.push{s s':MS}{v:Nat}(h:ni s)(hv:v<4294967296)(hs:um v s=.run s'):ni s':=by unfold um at hs;split at hs;rename_i hl;injection hs with hs;subst hs;exact⟨h.mem,h.pc,λx hx=>(Mc.1 hx).elim (λe=>e▸hv) (h.data x),h.calls,h.we,by simp only[Oa];omega,h.deep⟩;cases hs
theorem ni.pop{s:MS}{r:List Nat}(h:ni s)(hd:s.data=a::r):a<4294967296/\ni { s with data:=r }:=by have h1:=h.data;have h2:=h.eu;rw[hd] at h1 h2;exact⟨h1 a rf,h.mem,h.pc,λx hx=>h1 x (Sc _ hx),h.calls,h.we,by simp only[Oa] at h2;show r.length<=256;omega,h.deep⟩
theorem C6(ha:a<4294967296)(hb:b<4294967296):a ^^^ b<4294967296:=Nat.xor_lt_two_pow (n:=32) ha hb
theorem S3{v:Nat}(ha:a<4294967296)(hb:b<4294967296)(h:zr c a b=some v):v<4294967296:=by unfold zr at h;split at h;injection h with h;rw[<-h];exact mod_lt _ ra;split at h;injection h with h;rw[<-h];exact mod_lt _ ra;split at h;injection h with h;rw[<-h];exact mod_lt _ ra;split at h;split at h;cases h;injection h with h;rw[<-h];exact Nat.lt_of_le_of_lt (Nat.div_le_self _ _) ha;split at h;split at h;cases h;rename_i Jd;injection h with h;rw[<-h];exact Nat.lt_trans (mod_lt _ Ia) hb;split at h;injection h with h;rw[<-h];exact C6 ha hb;injection h with h;rw[<-h];split <;> decide
theorem A6{s s':MS}(h:ni s)(hc:c<4294967296)(hs:Qi c s=.run s'):ni s':=by
 unfold Qi at hs;split at hs;rename_i hd;unfold Po at hd;rw[Le,sf,sf] at hd;unfold jC at hs;split at hs;split at hs;rename_i d r Ad;injection hs with hs;subst hs;obtain⟨_,h2⟩:=h.pop Ad;exact⟨h2.mem,h2.pc,λx hx=>(Mc.1 hx).elim (λe=>by rw[e];exact mod_lt _ ra) (h2.data x),h2.calls,h2.we,by have:=h.eu;rw[Ad] at this;exact this,h2.deep⟩;cases hs;exact h.push Ia hs;split at hs;injection hs with hs;subst hs;exact h;split at hs;unfold tD at hs;split at hs
 rename_i a r hd;split at hs;exact(h.pop hd).2.push (h.mem a) hs;cases hs;cases hs;split at hs;unfold Um at hs;split at hs;rename_i a v r hd;split at hs;injection hs with hs;subst hs;obtain⟨h1,h2⟩:=h.pop hd;obtain⟨h3,h4⟩:=h2.pop (a:=v) (r:=r) rfl;refine⟨λi=>?_,h4.pc,h4.data,h4.calls,h4.we,h4.eu,h4.deep⟩;simp only;split;exact h3;exact h.mem i;cases hs;cases hs;split at hs;unfold Tq at hs;split at hs
 rename_i t v r hd;injection hs with hs;subst hs;obtain⟨h1,h2⟩:=h.pop hd;obtain⟨h3,h4⟩:=h2.pop (a:=v) (r:=r) rfl;refine⟨h4.mem,?_,h4.data,h4.calls,h4.we,h4.eu,h4.deep⟩;simp only;split;exact h1;exact h.pc;cases hs;split at hs;unfold iC at hs;split at hs;rename_i t r hd;split at hs;rename_i hl;injection hs with hs;subst hs;obtain⟨h1,h2⟩:=h.pop hd;exact⟨h2.mem,h1,h2.data,λx hx=>(Mc.1 hx).elim (λe=>e▸h.pc) (h.calls x),h2.we,h2.eu,by simp only[Oa];omega⟩;cases hs;cases hs;split at hs;unfold ju at hs;split at hs
 rename_i t r hd;injection hs with hs;subst hs;have h1:=h.calls;have h2:=h.deep;rw[hd] at h1 h2;exact⟨h.mem,h1 t rf,h.data,λx hx=>h1 x (Sc _ hx),h.we,h.eu,by simp only[Oa] at h2;show r.length<=64;omega⟩;cases hs;split at hs;unfold jH at hs;split at hs
 rename_i v r hi;have h1:=h.we;rw[hi] at h1;have h2:ni { s with we:=r }:=⟨h.mem,h.pc,h.data,h.calls,λx hx=>h1 x (Sc _ hx),h.eu,h.deep⟩;exact h2.push (h1 v rf) hs;exact h.push ra hs;split at hs;unfold Tz at hs;split at hs
 rename_i v r hd;injection hs with hs;subst hs;obtain⟨h1,h2⟩:=h.pop hd;exact⟨h2.mem,h2.pc,h2.data,h2.calls,h2.we,h2.eu,h2.deep⟩;cases hs;split at hs;cases hs;split at hs;unfold iD at hs;split at hs;rename_i b a r hd;obtain⟨h1,h2⟩:=h.pop hd;obtain⟨h3,h4⟩:=h2.pop (a:=a) (r:=r) rfl;split at hs;rename_i v hv;exact h4.push (S3 h3 h1 hv) hs;cases hs;cases hs;cases hs
theorem l6(code:Wd)(og i:Nat):Tr code og i<4294967296:=by unfold Tr;split;split;rename_i c _;have:=c.toNat_lt;omega;decide;decide
section
variable(vars ba later:List Nm)
end
section
variable{vars ba later:List Nm}
end
def Sk(l:List Ar):Nat:=(l.map (·.size)).sum
theorem JL(l:List Ar):((l.map λa=>(a.name,(a.size:Int))).map (·.2)).sum=((Sk l:Nat):Int):=by
 unfold Sk;induction l with
 |nil=>rfl
 |cons a l ih=>simp only[Tb,sum_cons] at ih ⊢;rw[ih];omega
def Ci(P:Pr):List (Nm×Int):=P.ba.map λa=>(a.name,(a.size:Int))
def TE(P:Pr)(o:Zl):List Wd:=Lv P.vars (Ci P) P.funcs o
theorem FC{z:Int}(h:0<=z):itoa z=decDigits z.toNat:=by unfold itoa;rw[zn (by omega)]
structure CE(P:Pr)(o:Zl):Prop where
 s0:0<=o.scalars
 c0:0<=o.code
 a0:0<=o.ba
 s1:o.scalars.toNat+3+(Gf P.vars P.funcs).length<=262144
 c1:o.code.toNat+40000<=262144
 a1:o.ba.toNat+Sk P.ba<=262144
 cs:o.scalars.toNat+3+(Gf P.vars P.funcs).length<=o.code.toNat∨o.code.toNat+40000<=o.scalars.toNat
 asA:0<Sk P.ba->o.scalars.toNat+3+(Gf P.vars P.funcs).length<=o.ba.toNat∨o.ba.toNat+Sk P.ba<=o.scalars.toNat
 ac:0<Sk P.ba->o.code.toNat+40000<=o.ba.toNat∨o.ba.toNat+Sk P.ba<=o.code.toNat
theorem kV{P:Pr}{o:Zl}(h:qu P.vars (Ci P) P.funcs o=true):CE P o:=by unfold qu yA oA at h;simp only[Le,Bool.not_eq_true',sf,decide_eq_false_iff_not] at h;have ht:((Ci P).map (·.2)).sum=((Sk P.ba:Nat):Int):=JL P.ba;rw[ht] at h;obtain⟨⟨⟨⟨⟨h1,h2⟩,h3⟩,h4⟩,h5⟩,h6⟩:=h;constructor <;> omega
section
variable{P:Pr}{o:Zl}
end
section
variable{c:CC}{env:wb}
end
section
variable{P:Pr}{o:Zl}
theorem mP:∀ (l:List (Nm×Int)) (a:Int),0<=a->(∀ p∈l,0<=p.2)->∀ n,0<=yl a l n
 |[],a,_,_,n=>by simp[yl]
 |(x,k)::l,a,h,hl,n=>by rw[yl];split;exact h;have:0<=k:=hl (x,k) rf;exact mP l _ Ia (λp hp=>hl p (Sc _ hp)) n
end
structure Oz(c:CC):Prop where
 sc:∀ n,(c.sc n).length<=10
 ar:∀ n,(c.ar n).length<=10
 t0:c.t0.length<=10
 t1:c.t1.length<=10
 t2:c.t2.length<=10
def Tm(l:List (List Wd)):Nat:=(l.map ve).sum
theorem ML(a:List Wd)(l:List (List Wd)):Tm (a::l)=ve a+Tm l:=by simp[Tm]
theorem w8(l:List (List Wd)):ve (l.headD [])+ve ((l.drop 1).headD [])<=Tm l:=by
 cases l with
 |nil=>simp[ve,Tm]
 |cons a r=>
  rw[ML];cases r with
  |nil=>simp[ve,Tm]
  |cons b r=>rw[ML];simp only[List.headD_cons,List.drop_one,List.tail_cons];omega
theorem cX:∀ l:List (List Wd),ve l.flatten=Tm l
 |[]=>rfl
 |a::l=>by rw[List.flatten_cons,cj,cX l,ML]
theorem Gq{p:Prop} [Decidable p]{a b:List Wd}(h1:p->ve a<=n)(h2:¬ p->ve b<=n):ve (if p then a else b)<=n:=by by_cases h:p;rw[zp h];exact h1 h;rw[zn h];exact h2 h
theorem B6{op:Nm}(h:op∈FK):op.length<=2:=by
 have:∀ o∈FK,o.length<=2:=by decide
 exact this op h
theorem S5{c:CC}(hc:Oz c){op name:Nm}{num:Nat}{l:List (List Wd)}(hn:num<4294967296)(Zf:Xh op ≠ -2)(MJ:op=Ek->name.length<=24):ve (BI c op num name l)<=60+Tm l:=by
 have hh:=w8 l;have hf:=cX l;have hd:=cF hn;have h0:=hc.t0;have h1:=hc.t1;have h2:=hc.t2;have hs:=hc.sc name;have ha:=hc.ar name;have fE:¬ (op=Mq)->¬ (op=pn)->¬ (op=Dy)->¬ (op=Ek)->¬ (op=Nq)->¬ (op=Yo)->op.length<=2:=by intro a1 a2 a3 a4 a5 a6;unfold Xh at Zf;rw[zn (by simp[a1,a2]),zn (by simp[a3,a5,a6]),zn a4] at Zf;split at Zf;rename_i h;exact B6 h;exact absurd rfl Zf
 have hg:ve (Ev c)<=54:=by unfold Ev;simp only[Ih,Fi,Oa,Eb];omega
 unfold BI;refine Gq (λn1=>?_) λn1=>Gq (λn2=>?_) λn2=>Gq (λn3=>?_) λn3=>Gq (λn4=>?_) λn4=>Gq (λn5=>?_) λn5=>Gq (λn6=>?_) λn6=>Gq (λn7=>?_) λn7=>Gq (λn8=>?_) λn8=>Gq (λn9=>?_) λn9=>?_;simp only[Ih,Fi];omega;simp only[Ih,Fi,Oa,Eb];omega;simp only[Ih,cj,Fi,Oa,Eb];omega;have ir:=MJ n4;rw[cj,hf]
 have:ve (if name=[105,110] then ([[44]]:List Wd) else if name=[111,117,116] then [[46],[48]] else [[38,102,95]++name,[58]])<=60:=Gq (λ_=>by decide) λ_=>Gq (λ_=>by decide) λ_=>by simp only[Ih,Fi,ua,Oa,Eb];omega
 omega;simp only[Ih,cj,Fi,Oa,Eb];omega;simp only[Ih,cj,Fi,Oa,Eb];omega;simp only[Ih,cj,Fi,Oa,Eb];omega;simp only[Ih,cj,Fi,Oa,Eb];omega;simp only[Ih,cj,Fi,Oa,Eb];omega;have hb:=fE n1 n2 n3 n4 n5 n6;rw[cj,cj];have:ve (if op=[62] then Ev c else if op=[60,61] then Ev c++[[49],[94]] else if op=[62,61] then ([[60],[49],[94]]:List Wd) else if op=[61,61] then [[94],[49],[60]] else [op])<=60:=Gq (λ_=>by omega) λ_=>Gq (λ_=>by
  simp only[Ih,cj,Fi,Oa,Eb];omega) λ_=>Gq (λ_=>by decide) λ_=>Gq (λ_=>by decide) λ_=>by
  simp only[Ih,Fi];omega
 omega
mutual
theorem dW{c:CC}(hc:Oz c){env:wb}(Ni:∀ k∈env.funcs,k.name.length<=24):∀ e,wj e->Og env e=0->ve (Ke c e)<=60 * Hi e
 |.mk op num name args,hn,h=>by
  rw[Og] at h;rw[wj] at hn;rw[Hi];split at h;rename_i ho;obtain⟨h1,h3⟩:=Xf.1 h;rw[Ke];have:=JW hc Ni args hn.2 h1;have h5:=S5 hc (op:=op) (name:=name) (num:=num) (l:=tg c args) hn.1 Ia λQf=>?_;omega;subst Qf;unfold Yu at h3;rw[zn ra,zn ra,zp rfl] at h3;unfold Df at h3;split at h3
  rename_i e;rw[e];decide;split at h3;rename_i e;rw[e];decide;unfold wb.fn at h3;cases hf:env.funcs.find? λf=>decide (f.name=name) with
  |none=>rw[hf] at h3;simp only at h3;split at h3 <;> cases h3
  |some k=>have e:k.name=name:=Ck (List.find?_some (p:=λg:De=>decide (g.name=name)) hf);rw[<-e];exact Ni k (List.mem_of_find?_eq_some hf)
  cases h
theorem JW{c:CC}(hc:Oz c){env:wb}(Ni:∀ k∈env.funcs,k.name.length<=24):∀ l,Jk l->Bi env l=0->Tm (tg c l)<=60 * ob l
 |[],_,h=>by rw[tg];exact zero_le _
 |x::l,hn,h=>by rw[Bi] at h;rw[Jk] at hn;obtain⟨h1,h2⟩:=Xf.1 h;have a1:=dW hc Ni x hn.1 h1;have a2:=JW hc Ni l hn.2 h2;rw[tg,ML,ob];omega
end
theorem WW{c:CC}(hc:Oz c){env:wb}(Ni:∀ k∈env.funcs,k.name.length<=24){l:List Ex}(h1:l.length=1)(hn:Jk l)(h:Bi env l=0):ve (Ke c (l.headD default))<=60 * ob l:=by obtain⟨x,rfl⟩:=List.length_eq_one_iff.1 h1;rw[Bi] at h;rw[Jk] at hn;have:=dW hc Ni x hn.1 (Xf.1 h).1;rw[ob];simp only[List.headD_cons];omega
theorem LH(h:n<=4000000000):(gd n).length<=11:=by have:=cF (u:=n) Ia;simp only[gd,Oa];omega
mutual
theorem s7{c:CC}(hc:Oz c){env:wb}(Ni:∀ k∈env.funcs,k.name.length<=24):∀ (s:Sm) (n:Nat),Mt s->xr env s=0->n+2 * Kl s<=4000000000->ve (Qg c n s).1<=60 * Kl s/\(Qg c n s).2<=n+2 * Kl s
 |.mk kind name index value lb Db,n,yz,h,hN=>by
  rw[xr] at h;rw[Mt] at yz;rw[Kl] at hN ⊢;obtain⟨m1,m2,m3,m4⟩:=yz;by_cases hf:Kg (.mk kind name index value lb Db)=false;rw[zp hf] at h;cases h;rw[zn hf] at h;obtain⟨h1,h⟩:=Xf.1 h;obtain⟨h2,h⟩:=Xf.1 h;obtain⟨h3,h⟩:=Xf.1 h;obtain⟨h4,h5⟩:=Xf.1 h;rw[Bool.not_eq_false] at hf;unfold Kg at hf;have hv:kind=1∨kind=2∨kind=3∨kind=4∨kind=5∨kind=6->ve (Ke c (value.headD default))<=60 * ob value:=λhk=>WW hc Ni (by
   rcases hk with rfl|rfl|rfl|rfl|rfl|rfl <;> simp at hf <;> simp[hf]) m2 h1
  have ht:=λn hn=>rL hc Ni lb n m3 h4 hn;have he:=λn hn=>rL hc Ni Db n m4 h5 hn;have l0:=LH (n:=n) Ia;have l1:=LH (n:=n+1) Ia;have t0:=hc.t0;have ts:=hc.sc name;have ta:=hc.ar name;unfold Qg
  by_cases k1:kind=1;have:=hv (by simp[k1]);rw[zp k1];simp only[Ih,cj,Fi,Oa,Eb];omega;rw[zn k1];by_cases k2:kind=2;have:=hv (by simp[k2]);have hi:ve (Ke c (index.headD default))<=60 * ob index:=by refine WW hc Ni ?_ m1 h2;subst k2;simp at hf;simp[hf]
  rw[zp k2];simp only[Ih,cj,Fi,Oa,Eb];omega;rw[zn k2];by_cases k3:kind=3;rw[zp k3];have h8:=hv (by simp[k3]);cases Db with
  |nil=>have h9:=ht (n+1) Ia;simp only[Ih,cj,Fi,Oa,Eb,ua];omega
  |cons a r=>have h9:=ht (n+2) Ia;have Ms:=he (jc c (n+2) lb).2 Ia;simp only[Ih,cj,Fi,Oa,Eb,ua];omega
  rw[zn k3];by_cases k4:kind=4;rw[zp k4];have h8:=hv (by simp[k4]);have h9:=ht (n+2) Ia;simp only[Ih,cj,Fi,Oa,Eb,ua];omega;rw[zn k4];by_cases k5:kind=5;have:=hv (by simp[k5]);rw[zp k5];simp only[Ih,cj,Fi,Oa,Eb];omega;rw[zn k5];by_cases k6:kind=6;have:=hv (by simp[k6]);rw[zp k6];simp only[Ih,cj,Fi,Oa,Eb];omega;rw[zn k6];by_cases k7:kind=7;rw[zp k7];simp only[Ih,Fi,Oa,Eb];omega;rw[zn k7];simp only[Fi];omega
theorem rL{c:CC}(hc:Oz c){env:wb}(Ni:∀ k∈env.funcs,k.name.length<=24):∀ (l:List Sm) (n:Nat),qm l->pj env l=0->n+2 * Nc l<=4000000000->ve (jc c n l).1<=60 * Nc l/\(jc c n l).2<=n+2 * Nc l
 |[],n,_,h,_=>by rw[jc];simp[Fi]
 |s::l,n,yz,h,hN=>by rw[pj] at h;rw[qm] at yz;rw[Nc] at hN ⊢;obtain⟨h1,h2⟩:=Xf.1 h;have a1:=s7 hc Ni s n yz.1 h1 Ia;have a2:=rL hc Ni l (Qg c n s).2 yz.2 h2 Ia;rw[jc];simp only[cj];omega
end
theorem qY{c:CC}(hc:Oz c):∀ l:List Nm,ve (l.flatMap λp=>[c.sc p,[33]])<=20 * l.length
 |[]=>mc _
 |p::l=>by have:=qY hc l;have:=hc.sc p;rw[List.flatMap_cons,cj];simp only[Ih,Fi,Oa,Eb];omega
theorem R6{c:CC}(hc:Oz c){env:wb}(Ni:∀ k∈env.funcs,k.name.length<=24)(f:od)(n:Nat)(C1:f.name.length<=24)(yz:qm f.body)(h:pj env f.body=0)(hN:n+2 * zm f<=4000000000):ve (Ps c n f).1<=60 * zm f/\(Ps c n f).2<=n+2 * zm f:=by unfold zm at hN ⊢;have h1:=rL hc Ni f.body n yz h Ia;have h2:=qY hc f.params.reverse;rw[List.length_reverse] at h2;unfold Ps;simp only[Ih,cj,Fi,Oa,Eb,ua];omega
theorem mX{cc:Nm->CC}:∀ (fs:List od) (n:Nat),(∀ f∈fs,∀ m,m+2 * zm f<=4000000000->ve (Ps (cc f.name) m f).1<=60 * zm f/\(Ps (cc f.name) m f).2<=m+2 * zm f)->n+2 * ud fs<=4000000000->ve (sg cc n fs).1<=60 * ud fs/\(sg cc n fs).2<=n+2 * ud fs
 |[],n,_,_=>by rw[sg];simp[Fi]
 |f::l,n,h,hN=>by rw[ud] at hN ⊢;have a1:=h f rf n Ia;have a2:=mX l (Ps (cc f.name) n f).2 (λg hg=>h g (Sc _ hg)) Ia;rw[sg];simp only[cj];omega
section
variable{P:Pr}{o:Zl}
theorem lF{z:Int}(h:0<=z)(h2:z<4294967296):(itoa z).length<=10:=by rw[FC h];exact cF Ia
theorem wO:∀ (l:List (Nm×Int)) (a:Int),0<=a->(∀ p∈l,0<=p.2)->∀ n,yl a l n<=a+(l.map (·.2)).sum
 |[],a,h,_,n=>by simp[yl];exact h
 |(x,k)::l,a,h,hl,n=>by
  have hk:0<=k:=hl (x,k) rf;have Wt:=λp hp=>hl p (Sc (x,k) hp)
  have hs:∀ m:List (Nm×Int),(∀ p∈m,0<=p.2)->0<=(m.map (·.2)).sum:=by
   intro m;induction m with
   |nil=>intro _;simp
   |cons q m ih=>intro hm;have h1:=hm q rf;have h2:=ih λp hp=>hm p (Sc _ hp);rw[Tb,sum_cons];omega
  have Mk:=hs l Wt;rw[yl,Tb,sum_cons];split;show a<=a+(k+_);omega;have:=wO l (a+k) Ia Wt n;show _<=a+(k+_);omega
theorem Z7(hF:CE P o)(own:Nm):Oz (Ow P.vars (Ci P) P.funcs o own):=by
 have s0:=hF.s0;have s1:=hF.s1;have a0:=hF.a0;have a1:=hF.a1;have hp:∀ p∈Ci P,0<=p.2:=λp hp=>by obtain⟨a,_,rfl⟩:=vi hp;exact Int.natCast_nonneg _
 refine⟨λn=>?_,λn=>?_,?_,?_,?_⟩;refine lF ?_ ?_;unfold Ly;split <;> omega;unfold Ly;split
 rename_i h;have:=List.idxOf_lt_length_of_mem h;omega;omega;refine lF (mP _ _ a0 hp n) ?_;have h1:=wO (Ci P) o.ba a0 hp n;have h2:((Ci P).map (·.2)).sum=((Sk P.ba:Nat):Int):=JL P.ba;rw[h2] at h1;omega;exact lF s0 Ia;exact lF (z:=o.scalars+1) Ia Ia;exact lF (z:=o.scalars+2) Ia Ia
theorem I6(hc:DC P=0)(pg:∀ f∈P.funcs,qm f.body)(Ln:qu P.vars (Ci P) P.funcs o=true)(Vg:ud P.funcs<=2000000):ve (TE P o)<=60+60 * ud P.funcs/\(sg (Ow P.vars (Ci P) P.funcs o) 0 P.funcs).2<=2 * ud P.funcs:=by
 have hv:=fX hc;have hF:=kV Ln;have Dp:=VC _ _ hv.names;have Ul:∀ f∈P.funcs,f.name.length<=24:=λf hf=>by have h:=(Dp.2 _ (List.mem_append.2 (.inr (List.mem_map.2 ⟨f,hf,rfl⟩)))).2;unfold Mf at h;rw[Le,Le,sf] at h;exact h.1.1
 have hb:=mX (cc:=Ow P.vars (Ci P) P.funcs o) P.funcs 0 (λf hf m hm=>by
  obtain⟨kn,k1,k2⟩:=hv.Qw f hf;refine R6 (Z7 hF f.name) (λk hk=>?_) f m (Ul f hf) (pg f hf) k1 hm;obtain⟨g,g1,g2,_⟩:=k2 k hk;rw[<-g2];exact Ul g g1) Ia
 have ht:=lF (z:=o.scalars) hF.s0 (by have:=hF.s1;omega);refine⟨?_,by omega⟩;unfold TE Lv;rw[cj];simp only[Ih,Fi,Oa,Eb];omega
end
def kg(vars:List Nm)(ba:List (Nm×Int))(fs:List od):Pr:=⟨vars,ba.map λa=>⟨a.1,a.2.toNat⟩,fs⟩
theorem q9{ba:List (Nm×Int)}(h:∀ a∈ba,0<=a.2):Ci (kg vars ba fs)=ba:=by
 unfold Ci kg;simp only[map_map]
 conv=>rhs;rw[<-List.map_id ba]
 refine List.map_congr_left λa ha=>?_;have:=h a ha;simp only[Function.comp,id];rw[Int.toNat_of_nonneg this]
theorem NX:∀ (l:List Int) (t:Int),0<=t->t<=150000->Iy t l=0->t+l.sum<=150000/\∀ n∈l,0<n
 |[],t,h0,h1,_=>by rw[List.sum_nil];exact⟨by omega,λn hn=>(not_mem_nil hn).elim⟩
 |a::l,t,h0,h1,h=>by rw[Iy] at h;split at h;cases h;split at h;cases h;obtain⟨g1,g2⟩:=NX l (t+a) Ia Ia h;rw[sum_cons];refine⟨by omega,λn hn=>?_⟩;rcases Mc.1 hn with rfl|hn;omega;exact g2 n hn
theorem qne{ba:List (Nm×Int)}(h:dq vars ba fs=0):(ba.map (·.2)).sum<=150000/\(∀ a∈ba,0<a.2)/\Ci (kg vars ba fs)=ba/\DC (kg vars ba fs)=0/\Valid (kg vars ba fs):=by
 have h0:=h;unfold dq at h;obtain⟨h1,h⟩:=Xf.1 h;obtain⟨h2,h⟩:=Xf.1 h;obtain⟨s1,s2⟩:=NX _ 0 ra ra h2;have hp:∀ a∈ba,0<a.2:=λa ha=>s2 a.2 (List.mem_map_of_mem ha);have ha:=q9 (vars:=vars) (fs:=fs) λa ha=>Int.le_of_lt (hp a ha)
 have hc:DC (kg vars ba fs)=0:=by have:(kg vars ba fs).ba.map (λa=>(a.name,(a.size:Int)))=ba:=ha;unfold DC;rw[this];exact h0
 exact⟨by omega,hp,ha,hc,fX hc⟩
def Pe:Int->List (Nm×Int)->List (Nm×Int)
 |_,[]=>[]
 |a,(x,n)::r=>(x,a)::Pe (a+n) r
theorem xY:∀ (l:List (Nm×Int)) (a:Int),(Pe a l).map (·.1)=l.map (·.1)
 |[],_=>rfl
 |(x,n)::r,a=>by rw[Pe,Tb,Tb,xY r]
theorem xP:∀ (l:List (Nm×Int)) (a:Int),(Pe a l).length=l.length
 |[],_=>rfl
 |(x,n)::r,a=>by rw[Pe,Oa,Oa,xP r]
theorem gW:∀ (l m:List (Nm×Int)) (a:Int),Pe a (l++m)=Pe a l++Pe (a+(l.map (·.2)).sum) m
 |[],m,a=>by simp[Pe]
 |(x,n)::r,m,a=>by rw[cons_append,Pe,gW r m,Pe,cons_append,Tb,sum_cons,Int.add_assoc]
def DA(r:Int×Int):Bool:=yA r.1 r.2
def qC(r s:Int×Int):Bool:=oA r.1 r.2 s.1 s.2
def Hw:List (Int×Int)->List (Int×Int)->Bool
 |_,[]=>true
 |prev,r::rest=>DA r && (prev.all λs=>!qC r s) && Hw (prev++[r]) rest
theorem G5(vars:List Nm)(ba:List (Nm×Int))(fs:List od)(o:Zl):qu vars ba fs o=Hw [] [(o.scalars,3+((Gf vars fs).length:Nat)),(o.code,40000),(o.ba,(ba.map (·.2)).sum)]:=by unfold qu Hw Hw Hw Hw DA qC;simp only[List.all_nil,nil_append,all_cons,List.singleton_append,cons_append,Bool.and_true];generalize yA o.scalars _=a;generalize yA o.code 40000=b;generalize yA o.ba _=c;generalize oA o.code 40000 o.scalars _=d;generalize oA o.ba _ o.scalars _=e;generalize oA o.ba _ o.code 40000=f;revert a b c d e f;decide
theorem KL(all:List Wd):∀ (l:List (Wd×Nat)) (met:List Wd),(Kd all met l).2=0∨(Kd all met l).2=8∨(Kd all met l).2=7∨(Kd all met l).2=3
 |[],met=>.inl rfl
 |(w,ln)::r,met=>by
  rw[Kd];cases hd:Ib w with
  |some x=>simp only;split;exact .inr (.inl rfl);exact KL all r _
  |none=>
   simp only;cases hr:td w with
   |some x=>simp only;split;exact KL all r _;exact .inr (.inr (.inl rfl))
   |none=>simp only;split;exact KL all r _;exact .inr (.inr (.inr rfl))
theorem R7{src:Wd}{og:Int}(h:0<=og/\og<262144){e:Nat×Nat}(he:Ti src og=.error e):e.2=8∨e.2=7∨e.2=3∨e.2=6:=by unfold Ti at he;split at he;omega;split at he;rename_i h1;injection he with he;rw[<-he];rcases KL (cd (Oj src)) (bq src) [] with h2|h2|h2|h2;exact absurd h2 h1;exact .inl h2;exact .inr (.inl h2);exact .inr (.inr (.inl h2));split at he;injection he with he;rw[<-he];exact .inr (.inr (.inr rfl));cases he
section
variable{vars:List Nm}{ba:List (Nm×Int)}{fs:List od}{o:Zl}
end
end Go.Ba
