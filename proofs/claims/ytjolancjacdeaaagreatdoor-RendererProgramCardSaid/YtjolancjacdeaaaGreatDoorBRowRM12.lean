import Derived.Lib.AtoiAll
import Derived.Lib.TrimByte
import Derived.Lib.IndexAny
import Derived.Lib.Repeat
import Derived.Lib.ReplaceLaws
import Derived.OrdersIn
import Derived.Lib.AtoiAllCases
import Derived.Test.YtjolancjacdeaaaGreatDoorBRowRM11
set_option linter.unusedVariables false
set_option linter.unusedSimpArgs false
set_option maxRecDepth 100000
set_option maxHeartbeats 4000000
open Go.GL (zk)
open List (take_succ_eq_append_getElem length_take getElem_mem cons_append flatten_cons mem_singleton length_drop all_append sum_cons map_nil sum_nil flatMap_cons flatten_nil nil_append dropWhile_cons_of_neg drop_drop take_length map_drop drop_length)
open Nat (zero_le le_of_lt zero_add mul_one)
namespace Go.Proofs.YtjolancjacdeaaaGreatDoor.Lb
open Go.GL Go.RowKit Go.Ba
open DE (Gr nH Np)
open Go.Lib (join)
abbrev IH:List UInt8:=[114,101,110,100,101,114]
structure Er(code:Wd):Prop where
 ok:∃ p n x y nb l0,Gt Fe=(p,l0,0)/\cU p n/\n<=2000000/\Sp p.vars (Ci p) p.funcs Np=.ok x/\x.length<=1000000/\Vy x=(y,0)/\y.length<=300000000/\Ti y 10000=.ok (code,nb)
 len:code.length<=40000
 ne:code≠[]
 chars:∀ c∈code,fx.contains c=true∨c=32
 run:∀ w,w<256->∃ K,runM 100000 (qA code 10000 [w])=(0,[],K)
theorem v8:Gt Fe=(Rn.P,0,0):=zk
theorem p5:∃ code,Er code:=by have hm:Sp Rn.P.vars (Ci Rn.P) Rn.P.funcs Np=.ok (join Rn.W [32]):=Rn.YB;exact⟨Rn.cL,⟨Rn.P,3000,_,_,_,0,v8,Rn.gH,by decide,hm,Rn.UG,Rn.ry,Rn.QG,Rn.ZB⟩,Rn.lK,Rn.OT,Rn.Kz,λw _=>⟨50,Rn.XB w⟩⟩
open Nh (u32)
open qK (mH SL RE us)
open Rk (Vp Rg)
open DE (Gr nH Np qv bR wY)
instance:nu ui 28:=.of zk
theorem J4:Yk [IH] []=(Fe,0):=by rw[Yk,V8,zn ra,Yk];rfl
attribute [local irreducible] ea Ga Ja aa Go.GL.Pure Bc Tc oc LQ Pa Td Lf LS
variable{B0:Nat}{w0:World}
theorem MZ(hG:Pp.GW B0 w0){code:Wd}(h:Er code):aa (KC B0 w0) 5 [] [] (gb (str code)):=by obtain⟨⟨p,n,x,y,nb,l0,h2,h3,h4,h6,h7,h8,h9,Ms⟩,_,_,_,_⟩:=h;have WI:=qnh (B0:=B0) (w0:=w0) [IH] ra;rw[J4] at WI;have ql:=qqZ (B0:=B0) (w0:=w0) hG.base Fe;rw[h2] at ql;have aG:=wY (B0:=B0) (w0:=w0) hG.base hG.mx h3 h4 Np (by unfold Gr;decide) (by unfold Gr;decide) (by unfold Gr;decide);rw[h6] at aG;have Zf:=Pp.Sl (B0:=B0) (w0:=w0) hG x h7;rw[h8] at Zf;have has:=Rk.Uh (B0:=B0) (w0:=w0) hG.base hG.mx y 10000 h9;rw[Ms] at has;have hd:=bR (B0:=B0) (w0:=w0);have eD:qv Np=.agg [int .i64 10000,int .i64 0,int .i64 100000]:=rfl;have eP:Bt p=.agg [.list (p.vars.map str),.list (p.ba.map bC),.list (p.funcs.map Me)]:=rfl;rw[eD] at hd aG;unfold UW at ql;unfold nH at aG;unfold Vp at has;simp only at WI ql aG Zf has;rw[eP] at ql aG;have WI:aa (KC B0 w0) _ [.list [str IH]] _ (gb (.tuple [str Fe,int .i64 0])):=WI;clear h2 h3 h4 h6 h7 h8 h9 Ms eP eD;generalize Fe=src at *;refine cJ Tryz.func5 (n:=46) ?_;refine Xj ?_;refine oS (sL (s:=1) (es:=[str IH]) [_] rfl (Lq [IH]) rfl rfl rfl<|oS (sF [_] rfl WI ?_));refine ia ?_;refine oS (sF [_] rfl ql ?_);refine za ?_;refine oS (yc λb3=>?_);refine ja ?_;refine oS (sF [] rfl hd<|oS (yc λb6=>?_));refine ja ?_;refine oS (sF [_,_] rfl aG ?_);refine ia ?_;refine oS (sF [_] rfl Zf ?_);refine ia ?_;refine oS (sF [_,_] rfl has ?_);refine ja ?_;exact Na rfl (va rfl) rfl
theorem qjH(hG:Pp.GW B0 w0){code:Wd}(h:Er code){w K:Nat}(hw:w<256)(hK:runM 100000 (qA code 10000 [w])=(0,[],K)):aa (KC B0 w0) 8 [str [],int .i64 (w:Nat),int .i64 100000] [] (gb (.agg [str [],int .i64 0,int .i64 (K:Nat)])):=by
 have hpr:=MZ (B0:=B0) (w0:=w0) hG h;have Oc:=SL (B0:=B0) (w0:=w0) (code:=code) (og:=10000) (we:=[w]) (steps:=100000) (by have:=h.len;omega) ra (λv hv=>by rw[wh hv];omega) ra ra;rw[hK] at Oc;unfold mH RE at Oc;have Oc:aa (KC B0 w0) _ [.list [.agg [int .i64 10000,str code]],int .i64 10000,.list [int .u32 (w:Int)],int .i64 100000] _ (gb (.agg [str [],int .i64 0,int .i64 (K:Nat)])):=Oc;have hd:=bR (B0:=B0) (w0:=w0);have eD:qv Np=.agg [int .i64 10000,int .i64 0,int .i64 100000]:=rfl;rw[eD] at hd;have em:((max w 0:Nat):Int)=(w:Int):=by rw[Nat.max_eq_left (zero_le w)]
 have ew:IntKind.u32.wrap (w:Int)=(w:Int):=by simp only[IntKind.wrap,IntKind.bits,IntKind.signed,Pg];simp;omega
 clear h hK;refine cJ Tryz.func8 (n:=38) ?_;refine Pc ?_;refine oS (yc λb6=>?_);refine qg ?_;refine ca (Pure.vf w 0 rfl rfl rfl rfl) ?_;rw[em];refine za ?_;rw[ew];refine oS (sL (s:=1) (es:=[int .u32 (w:Int)]) [_] rfl (rc rfl rfl Tf) rfl rfl rfl ?_);refine ja ?_;refine oL (λk sl H=>k=0/\sl=[(2,int .i64 100000),(6,ptr b6 0),(7,.list [int .u32 (w:Int)]),(15,int .i64 0),(16,int .i64 0)]/\H=[(b6,.cells 28 [str [],int .i64 0,int .i64 0])])
  ⟨_,_,_,⟨rfl,rfl,rfl⟩,Qa,kb _⟩ ?_
 rintro k sl H ⟨rfl,rfl,rfl⟩ j hj;refine Nd ?_;refine oC rfl (λhc=>absurd (zt hc) ra) λ_=>?_;refine ia ?_;refine oS (sF [] rfl hd<|oS (yc λb9=>?_));refine za ?_;refine cD (m:=11) rfl [(b9,.cells 49 [int .i64 10000,int .i64 0,int .i64 100000])]<|LB ?_;refine dy ?_;refine aT 7 rfl rfl (pM (lv:=.list _) rfl)<|aT 8 rfl rfl (pM (lv:=.atom _) rfl)<|aL ?_ dc;refine lO 2 (lS (H1:=[]) rfl (.inl rfl) rfl qb dc (sF [] rfl hpr ?_));refine lO 3 (lH rfl rfl (pB _ (cs:=[_,_]) rfl) ?_);refine lO 4 (lS (H1:=[]) rfl (.inl rfl) rfl qb dc (sL (s:=2) (es:=[.agg [int .i64 10000,str code]]) [_] rfl (rc rfl rfl Tf) rfl rfl rfl ?_));refine lO 9 (lS (H1:=[]) rfl (.inl rfl) rfl qb dc (sF [_,_,_,_] rfl Oc ?_));refine lO 10 (lS (H1:=[(b6,.cells 28 [str [],int .i64 0,int .i64 0])]) rfl (.inl rfl) rfl uc dc (sS (Ya:=[_,_,_]) rfl pH rfl rfl rfl rfl rfl ?_));refine lD zk ?_;refine qh ?_;exact Na hj (rC (rA rfl yb rfl fc) rN) rfl
def WN:List UInt8:=[43,45,42,47,37,94,60,64,33,63,58,59,44,46,36,48,49,50,51,52,53,54,55,56,57,32,10]
theorem Y7{c:UInt8}(h:fx.contains c=true∨c=32):Go.Lib.contains WN [c]=true:=by
 have key:∀ n:Nat,n<256->(fx.contains (UInt8.ofNat n)=true∨UInt8.ofNat n=32)->Go.Lib.contains WN [UInt8.ofNat n]=true:=by decide +kernel
 have:=key c.toNat c.toNat_lt;rw[UInt8.ofNat_toNat] at this;exact this h
theorem ZQ(hG:GW B0 w0)(hM:Rk.GM w0)(s p:List UInt8)(hs:s.length<=1000000):aa (KC B0 w0) 16 [str s,str p] [] (gb (bool (Go.Lib.contains s p))):=by refine aa.ye (vs:=[.string ⟨s.toArray⟩,.string ⟨p.toArray⟩]) λw hb=>?_;obtain⟨m,hm⟩:=Rk.GM.at hG hM hb;refine(Go.Proofs.Tryz.strings_Contains ⟨s.toArray⟩ ⟨p.toArray⟩ m w ?_ hm).mono λe w' he=>?_;show s.toArray.size<_;rw[List.size_toArray];omega;obtain⟨h1,h2⟩:=he;subst h2;exact⟨by simpa using h1,Below.refl _ _⟩
theorem qnd(hG:GW B0 w0)(hM:Rk.GM w0)(s:List UInt8)(hs:s.length<=1000000)(h:∀ c∈s,fx.contains c=true∨c=32):aa (KC B0 w0) 6 [str s] [] (gb (.tuple [int .i64 0,int .i64 0])):=by
 refine cJ Tryz.func6 (n:=19) ?_;refine ja ?_;refine oL (λk ls H=>∃ i:Nat,i<=s.length/\k=s.length-i/\ls=[(0,str s),(6,int .i64 s.length),(7,int .i64 (i:Nat))]/\H=[])
  ⟨_,_,_,⟨0,zero_le _,rfl,rfl,rfl⟩,Qa,kb _⟩ ?_
 rintro k ls H ⟨i,hi,rfl,rfl,rfl⟩ j hj;refine Nd ?_;refine sa (λhc=>?_) λhc=>?_;have wa:i<s.length:=by have:=zt hc;omega
 have Mk:(s.take ((i:Int)+1).toNat).drop ((i:Nat):Int).toNat=[s[i]]:=by rw[show((i:Int)+1).toNat=i+1 by omega,Int.toNat_natCast,take_succ_eq_append_getElem wa,List.drop_append_of_le_length (by rw[length_take];omega),List.drop_eq_nil_of_le (by rw[length_take];omega)];rfl
 refine ia ?_;refine ca (Pure.Ze (l:=s) (m:=[s[i]]) (i:=(i:Nat)) (j:=(i:Int)+1) rfl ⟨_,rfl⟩ ⟨_,rfl⟩ zo zo zo Mk)<|oS (sF [_,_] rfl (ZQ hG hM WN [s[i]] ra) ?_);rw[Y7 (h _ (getElem_mem wa))];refine za ?_;refine oC rfl (λhc=>by cases hc) λ_=>?_;refine ia ?_;exact⟨_,_,_,by omega,⟨i+1,by omega,rfl,rfl,rfl⟩,Qa,kb _,hj⟩;refine ia ?_;exact Na hj (rC (ib rfl) (va rfl)) rfl
end Go.Proofs.YtjolancjacdeaaaGreatDoor.Lb
namespace Go.Ba
open Go.Lib
variable{l:List Wd}{n op:Nat}{s t w:Wd}
structure Xb where
 kind:Nat
 words:List Wd
 rows:List (List Wd)
 runs:Wd
 width:Nat
 deriving DecidableEq,Inhabited
def ko(s:Wd):List Wd:=full (Yc 32 s)
def Xn(s:Wd):Wd:=s.dropWhile λc=>decide (c=32)
def Vr(s:Wd):Wd:=(Xn (Xn s).reverse).reverse
def Bg(m:Nat)(w:Wd):Option Nat:=match atoiAll w with
 |.ok v=>if itoa v=w/\1<=v/\v<=m then some v.toNat else none
 |_=>none
def uv(s:Wd):Except Nat (List Wd):=
 if s.length<2∨s.getLast? ≠ some 124 then .error 3
 else if 32<(Yc 124 (s.drop 1).dropLast).length then .error 6
 else .ok ((Yc 124 (s.drop 1).dropLast).map Vr)
def nk(s:Wd):Option (Nat×Wd):=match s.dropWhile λc=>decide (c≠32) with
 |[]=>none
 |_::runs=>if runs=[]∨32∈runs then none else match Bg 200 (s.takeWhile λc=>decide (c≠32)) with
  |some n=>some (n,runs)
  |none=>none
def vj(c:UInt8):Bool:=decide (32<=c.toNat) && decide (c.toNat<=126)
def nj(s:Wd):Except Nat Xb:=
 if s.all vj=false then .error 3
 else if ko s=[] then .ok ⟨0,[],[],[],0⟩
 else if s.head? = some 124 then (match uv s with
  |.ok l=>.ok ⟨3,[],[l],[],0⟩
  |.error e=>.error e)
 else if s.take 2=[35,32] then (if (ko s).length<2 then .error 3 else .ok ⟨1,(ko s).drop 1,[],[],0⟩)
 else if s.take 2=[33,32] then (match nk (s.drop 2) with
  |some (n,r)=>.ok ⟨4,[],[],r,n⟩
  |none=>.error 3)
 else .ok ⟨2,ko s,[],[],0⟩
def Ft(f:Xb->Xb):List Xb->List Xb
 |[]=>[]
 |[b]=>[f b]
 |b::r=>b::Ft f r
def Fk(out:List Xb)(op:Nat)(b:Xb):List Xb:=
 if b.kind=0 then out
 else if b.kind=op/\op=3 then Ft (λa=>{ a with rows:=a.rows++b.rows }) out
 else if b.kind=op/\op=2 then Ft (λa=>{ a with words:=a.words++b.words }) out
 else out++[b]
def Qn:Nat->List Xb->Nat->List Wd->Except (Nat×Nat) (List Xb)
 |_,out,_,[]=>.ok out
 |n,out,op,s::r=>match nj s with
  |.error e=>.error (n+1,e)
  |.ok b=>Qn (n+1) (Fk out op b) b.kind r
def Ij(text:Wd):Except (Nat×Nat) (List Xb):=if 20000<text.length then .error (0,6) else Qn 0 [] 0 (Yc 10 text)
def Jo(w:Nat):Nat->Wd->List Wd
 |0,s=>[s]
 |f+1,s=>if s.length<=w then [s] else s.take w::Jo w f (s.drop w)
def Tg(w:Nat)(l:List Wd):List Wd:=l.flatMap λs=>Jo w s.length s
def Yf(w:Nat)(p:Wd):List Wd->List Wd
 |[]=>[p]
 |[a]=>if a.length+1+p.length<=w then [a++32::p] else [a,p]
 |a::r=>a::Yf w p r
def ik(s:Wd):Bool:=decide (s≠[]) && s.all λc=>decide (33<=c.toNat) && decide (c.toNat<=126)
def Kr(l:List Wd)(w:Int):Nat:=if w<1∨200<w then 2 else if l.all ik=true then 0 else 1
def Lk(l:List Wd)(w:Nat):List Wd:=(Tg w l).foldl (λout p=>Yf w p out) []
def Zr(l:List Wd):Nat:=l.foldl (λm s=>max m s.length) 0
def BK(l:List Wd)(w:Nat):List Wd:=if Lk l w=[] then [] else Lk l w++[List.replicate (Zr (Lk l w)) 61]
def Ph:List Nat->List Wd->List Nat
 |ws,[]=>ws
 |[],c::r=>max 1 c.length::Ph [] r
 |w::ws,c::r=>max w c.length::Ph ws r
def Yr(rows:List (List Wd)):List Nat:=rows.foldl Ph []
def Il:List Nat->List Wd->Wd
 |[],_=>[]
 |w::ws,[]=>32::(List.replicate w 32++[32,124])++Il ws []
 |w::ws,c::r=>32::(c++List.replicate (w-c.length) 32++[32,124])++Il ws r
def uA(ws:List Nat)(row:List Wd):Wd:=124::Il ws row
def pC(rows:List (List Wd)):List Wd:=rows.map (uA (Yr rows))
def tm:Nat->UInt8->Wd->Option (List (Nat×UInt8))
 |0,_,s=>if s=[] then some [] else none
 |f+1,last,s=>if s=[] then some [] else match s.dropWhile λc=>decide (c≠46/\c≠35) with
  |[]=>none
  |c::r=>match Bg 99999 (s.takeWhile λc=>decide (c≠46/\c≠35)) with
   |none=>none
   |some n=>if c=last then none else match tm f c r with
    |some l=>some ((n,c)::l)
    |none=>none
def Jf(l:List (Nat×UInt8)):Nat:=(l.map (·.1)).sum
def ym(l:List (Nat×UInt8)):Wd:=l.flatMap λp=>List.replicate p.1 p.2
def Qo(w:Nat):Nat->Wd->List Wd
 |0,_=>[]
 |n+1,s=>s.take w::Qo w n (s.drop w)
def zA(runs:Wd)(w:Nat):Except Nat (List Wd):=
 if w<1∨200<w then .error 2
 else match tm runs.length 0 runs with
  |none=>.error 3
  |some l=>if Jf l=0∨Jf l % w≠0 then .error 4
   else if 200<Jf l / w then .error 6
   else .ok (Qo w (Jf l / w) (ym l))
def Dl(w:Nat)(b:Xb):Except Nat (List Wd):=
 if b.kind=1 then (if b.words.all ik=true then .ok (BK b.words w) else .error 1)
 else if b.kind=2 then (if b.words.all ik=true then .ok (Lk b.words w) else .error 1)
 else if b.kind=3 then .ok (pC b.rows)
 else zA b.runs b.width
def xh(rows:List Wd):Wd:=rows.flatMap λs=>s++[10]
def bl(w:Nat):List Xb->Except Nat (List Wd)
 |[]=>.ok []
 |b::r=>match Dl w b with
  |.error e=>.error e
  |.ok rows=>match bl w r with
   |.error e=>.error e
   |.ok l=>.ok (xh rows::l)
def sO(text:Wd)(w:Int):Except (Nat×Nat) Wd:=
 if w<1∨200<w then .error (0,2)
 else match Ij text with
  |.error e=>.error e
  |.ok l=>match bl w.toNat l with
   |.error e=>.error (0,e)
   |.ok parts=>if 65536<(join parts [10]).length then .error (0,6) else .ok (join parts [10])
def Nf:Nat->List Xb->Nat->List Wd->Except (Nat×Nat) (List Xb×Nat)
 |_,out,op,[]=>.ok (out,op)
 |n,out,op,s::r=>match nj s with
  |.error e=>.error (n+1,e)
  |.ok b=>Nf (n+1) (Fk out op b) b.kind r
theorem fO:∀ (l:List Wd) (n:Nat) (out:List Xb) (op:Nat),Qn n out op l=match Nf n out op l with
  |.ok p=>.ok p.1
  |.error e=>.error e
 |[],n,out,op=>rfl
 |s::r,n,out,op=>by
  rw[Qn,Nf];cases nj s with
  |error e=>rfl
  |ok b=>exact fO r _ _ _
theorem JO{out:List Xb}{o:List Xb}:Qn n out op l=.ok o ↔ ∃ k,Nf n out op l=.ok (o,k):=by
 rw[fO];cases h:Nf n out op l with
 |error e=>simp
 |ok p=>obtain⟨o',k⟩:=p;simp
theorem kW:∀ (a b:List Wd) (n:Nat) (out:List Xb) (op:Nat),Nf n out op (a++b)=match Nf n out op a with
  |.ok p=>Nf (n+a.length) p.1 p.2 b
  |.error e=>.error e
 |[],b,n,out,op=>rfl
 |s::r,b,n,out,op=>by
  rw[cons_append,Nf,Nf];cases nj s with
  |error e=>rfl
  |ok x=>simp only;rw[kW r b,Oa,show n+1+r.length=n+(r.length+1) by omega]
theorem BQ{f:Xb->Xb}{a b:Xb}{r:List Xb}(h:r≠[]):Ft f (a::r)=a::Ft f r:=by
 cases r with
 |nil=>exact absurd rfl h
 |cons c r=>rfl
theorem UY{f:Xb->Xb}:∀ (p:List Xb) {l:List Xb},l≠[]->Ft f (p++l)=p++Ft f l
 |[],l,_=>rfl
 |[b],c::r,_=>rfl
 |[b],[],h=>absurd rfl h
 |b::c::p,l,h=>by have:=UY (f:=f) (c::p) h;rw[cons_append] at this;rw[cons_append,cons_append,BQ (b:=b) (by simp),this];try rfl
theorem gZ{f:Xb->Xb}(p:List Xb)(b:Xb):Ft f (p++[b])=p++[f b]:=UY p (by simp)
theorem QL(c:Wd)(x y:Wd)(r:List Wd):join (x::y::r) c=x++c++join (y::r) c:=by rw[join_cons,join_cons,joinTail,Tb,flatten_cons,Xc,Xc];try rfl
def fA(b:Xb):Prop:=
 (b.kind=1/\b.words≠[]/\b.words.all ik=true)∨(b.kind=2/\b.words≠[]/\b.words.all ik=true)∨(b.kind=3/\b.rows≠[])∨(b.kind=4/\1<=b.width/\b.width<=200/\b.runs≠[])
def HU(b:Xb):Prop:=b.kind=0∨fA b
theorem K8(h:w∈full l):w∈l/\w≠[]:=by unfold full at h;rw[List.mem_filter] at h;exact⟨h.1,by simpa using h.2⟩
theorem uI{c:UInt8}:∀ {s:Wd} {p:Wd},p∈Yc c s->c ∉ p/\∀ x∈p,x∈s
 |[],p,h=>by rw[Yc,mem_singleton] at h;subst h;simp
 |d::r,p,h=>by by_cases hd:d=c;subst hd;rw[IA,Mc] at h;rcases h with rfl|h;simp;obtain⟨h1,h2⟩:=uI h;exact⟨h1,λx hx=>Sc _ (h2 x hx)⟩;obtain⟨q,qs,h1,h2⟩:=dD hd r;rw[h2,Mc] at h;rcases h with rfl|h;obtain⟨h3,h4⟩:=uI (show q∈Yc c r by rw[h1];exact List.mem_cons_self);refine⟨λhc=>?_,λx hx=>?_⟩;rcases Mc.1 hc with rfl|hc;exact hd rfl;exact h3 hc;rcases Mc.1 hx with rfl|hx;exact List.mem_cons_self;exact Sc _ (h4 x hx);obtain⟨h3,h4⟩:=uI (show p∈Yc c r by rw[h1];exact Sc _ h);exact⟨h3,λx hx=>Sc _ (h4 x hx)⟩
theorem k9(hs:s.all vj=true)(hw:w∈ko s):ik w=true:=by
 obtain⟨h1,h2⟩:=K8 hw;obtain⟨h3,h4⟩:=uI h1;unfold ik;simp only[Le,sf,List.all_eq_true];refine⟨h2,λc hc=>?_⟩;have h5:=(List.all_eq_true.1 hs) c (h4 c hc);unfold vj at h5;simp only[Le,sf] at h5
 have h6:c.toNat≠32:=λhe=>h3 (by
  have:c=32:=UInt8.toNat.inj he;rwa [this] at hc)
 omega
theorem R9(hs:s.all vj=true):(ko s).all ik=true:=List.all_eq_true.2 λ_ hw=>k9 hs hw
theorem AV{m:Nat}(h:Bg m w=some n):1<=n/\n<=m/\itoa n=w:=by unfold Bg at h;split at h;rename_i v hv;split at h;rename_i hc;cases h;have h1:((v.toNat:Nat):Int)=v:=Int.toNat_of_nonneg Ia;exact⟨by omega,by omega,by rw[h1];exact hc.1⟩;cases h;cases h
theorem VP{r:Wd}(h:nk s=some (n,r)):1<=n/\n<=200/\r≠[]/\s=itoa n++32::r:=by
 unfold nk at h;split at h;cases h;rename_i c runs hd;split at h;cases h;rename_i hr;split at h;rename_i k hk;cases h;obtain⟨h1,h2,h3⟩:=AV hk;refine⟨h1,h2,λh=>hr (.inl h),?_⟩
 have hc:c=32:=by have:=List.head?_dropWhile_not (λc=>decide (c≠(32:UInt8))) s;rw[hd] at this;simpa using this
 have:=List.takeWhile_append_dropWhile (p:=λc=>decide (c≠(32:UInt8))) (l:=s);rw[hd,hc,<-h3] at this;exact this.symm;cases h
theorem Y6(h:¬ l.length<2):l.drop 1≠[]:=by intro h1;have:=congrArg List.length h1;simp only[length_drop,Eb] at this;omega
theorem qpO{b:Xb}(h:nj s=.ok b):HU b:=by
 unfold nj at h;split at h;cases h;rename_i hs;have hs:s.all vj=true:=by simpa using hs
 have bc:=R9 hs;split at h;cases h;exact .inl rfl;rename_i hw;split at h;split at h;cases h;exact .inr (.inr (.inr (.inl ⟨rfl,by simp⟩)));cases h;split at h;split at h;cases h;rename_i h2;cases h;exact .inr (.inl ⟨rfl,Y6 h2,List.all_eq_true.2 λx hx=>List.all_eq_true.1 bc x (List.mem_of_mem_drop hx)⟩);split at h;split at h
 rename_i n r hp;cases h;obtain⟨h1,h2,h3,_⟩:=VP hp;exact .inr (.inr (.inr (.inr ⟨rfl,h1,h2,h3⟩)));cases h;cases h;exact .inr (.inr (.inl ⟨rfl,hw,bc⟩))
theorem fI{P:Xb->Prop}{f:Xb->Xb}(hf:∀ b,P b->P (f b)):∀ {l:List Xb},(∀ b∈l,P b)->∀ b∈Ft f l,P b
 |[],_,b,h=>by cases h
 |[a],h0,b,h=>by rw[Ft,mem_singleton] at h;subst h;exact hf a (h0 a (by simp))
 |a::c::r,h0,b,h=>by rw[BQ (b:=a) (by simp),Mc] at h;rcases h with rfl|h;exact h0 _ (by simp);exact fI hf (λx hx=>h0 x (Sc _ hx)) b h
theorem qqQ{out:List Xb}{op:Nat}{b:Xb}(ho:∀ x∈out,fA x)(hb:HU b):∀ x∈Fk out op b,fA x:=by
 unfold Fk;split;exact ho;rename_i h0;have hb:fA b:=hb.resolve_left h0;split;refine fI (λa ha=>?_) ho;rcases ha with h|h|h|h;exact .inl h;exact .inr (.inl h);exact .inr (.inr (.inl ⟨h.1,by simp[h.2]⟩));exact .inr (.inr (.inr h));split
 ·rename_i h2
  have h3:b.words.all ik=true:=by rcases hb with h|h|h|h;omega;exact h.2.2;omega;omega
  refine fI (λa ha=>?_) ho;rcases ha with h|h|h|h
  ·exact .inl ⟨h.1,by simp[h.2.1],by rw[all_append,h.2.2,h3];try rfl⟩
  ·exact .inr (.inl ⟨h.1,by simp[h.2.1],by rw[all_append,h.2.2,h3];try rfl⟩)
  exact .inr (.inr (.inl h));exact .inr (.inr (.inr h))
 intro x hx;rcases Kj hx with h|h;exact ho x h;rw[wh h];exact hb
theorem tX:∀ (l:List Wd) (n:Nat) (out:List Xb) (op:Nat) (o:List Xb) (k:Nat),(∀ x∈out,fA x)->Nf n out op l=.ok (o,k)->∀ x∈o,fA x
 |[],n,out,op,o,k,ho,h=>by cases h;exact ho
 |s::r,n,out,op,o,k,ho,h=>by
  rw[Nf] at h;cases hs:nj s with
  |error e=>rw[hs] at h;cases h
  |ok b=>rw[hs] at h;exact tX r _ _ _ _ _ (qqQ ho (qpO hs)) h
theorem KH{l:List Xb}:Ij t=.ok l ↔ t.length<=20000/\Qn 0 [] 0 (Yc 10 t)=.ok l:=by unfold Ij;split;constructor;intro h;cases h;intro h;omega;constructor;intro h;exact⟨by omega,h⟩;intro h;exact h.2
theorem qqp{l:List Xb}(h:Ij t=.ok l):∀ b∈l,fA b:=by obtain⟨_,h⟩:=KH.1 h;obtain⟨k,h⟩:=JO.1 h;exact tX _ _ _ _ _ _ (by simp) h
def bw(b:Xb):Nat:=(b.words.map λw=>w.length+1).sum+(b.rows.map λr=>(r.map λc=>c.length+3).sum+2).sum+3 * b.runs.length+6
def bws(l:List Xb):Nat:=(l.map bw).sum
theorem PK(a b:List Xb):bws (a++b)=bws a+bws b:=by simp[bws]
theorem SC(c:UInt8):∀ s:Wd,((Yc c s).map λw=>w.length+1).sum=s.length+1
 |[]=>rfl
 |d::r=>by by_cases hd:d=c;subst hd;rw[IA,Tb,sum_cons,SC,Oa,Eb];omega;obtain⟨p,ps,h1,h2⟩:=dD hd r;have:=SC c r;rw[h1,Tb,sum_cons] at this;rw[h2,Tb,sum_cons,Oa,Oa];omega
theorem gX:∀ l:List Wd,((full l).map λw=>w.length+1).sum<=(l.map λw=>w.length+1).sum
 |[]=>mc _
 |w::l=>by have ih:=gX l;unfold full at ih ⊢;rw[List.filter_cons];split;simp only[Tb,sum_cons];omega;simp only[Tb,sum_cons];omega
theorem V'(s:Wd):((ko s).map λw=>w.length+1).sum<=s.length+1:=by have:=gX (Yc 32 s);rw[SC] at this;exact this
theorem L7(l:List Wd):((l.drop 1).map λw=>w.length+1).sum<=(l.map λw=>w.length+1).sum:=by
 cases l with
 |nil=>simp
 |cons a l=>simp
theorem GX(s:Wd):(Xn s).length<=s.length:=by unfold Xn;exact(List.dropWhile_sublist _).length_le
theorem qpY(s:Wd):(Vr s).length<=s.length:=by unfold Vr;have h1:=GX s;have h2:=GX (Xn s).reverse;simp only[List.length_reverse] at h2 ⊢;omega
theorem SX:∀ l:List Wd,((l.map Vr).map λc=>c.length+3).sum<=3 * (l.map λw=>w.length+1).sum
 |[]=>mc _
 |w::l=>by have ih:=SX l;have:=qpY w;simp only[Tb,sum_cons];omega
theorem LW{b:Xb}(h:nj s=.ok b)(h0:b.kind≠0):bw b<=4 * (s.length+1):=by
 unfold nj at h;have hw:=V' s;split at h;cases h;split at h;cases h;exact absurd rfl h0;rename_i eb;have hs:1<=s.length:=by
  cases s with
  |nil=>exact absurd rfl eb
  |cons=>simp
 split at h;rename_i hh;split at h;rename_i l hl;cases h;unfold uv at hl;split at hl;cases hl;rename_i h2;split at hl;cases hl;cases hl;have h3:=SX (Yc 124 (s.drop 1).dropLast);rw[SC,List.length_dropLast,length_drop] at h3;simp only[bw,map_nil,sum_nil,Tb,sum_cons,Eb];omega;cases h;split at h;rename_i h2;split at h;cases h;cases h;have h3:=L7 (ko s);have h4:2<=s.length:=by have:=congrArg List.length h2;simp only[length_take,Oa,Eb] at this;omega
 simp only[bw,map_nil,sum_nil,Eb];omega;split at h;split at h;rename_i n r hp;cases h;obtain⟨_,_,_,h4⟩:=VP hp;have h5:=congrArg List.length h4;simp only[length_drop,ua,Oa] at h5;simp only[bw,map_nil,sum_nil];omega;cases h;cases h;simp only[bw,map_nil,sum_nil,Eb];omega
theorem tQ{f:Xb->Xb}{k:Nat}(hf:∀ b,bw (f b)<=bw b+k):∀ l:List Xb,bws (Ft f l)<=bws l+k
 |[]=>by simp[Ft,bws]
 |[a]=>by have:=hf a;simpa [Ft,bws] using this
 |a::c::r=>by have:=tQ hf (c::r);rw[BQ (b:=a) (by simp)];simp only[bws,Tb,sum_cons] at this ⊢;omega
theorem O8{out:List Xb}{b:Xb}{k:Nat}(hb:b.kind≠0->bw b<=k):bws (Fk out op b)<=bws out+k:=by unfold Fk;split;omega;rename_i h0;have hb:=hb h0;split;refine tQ (λa=>?_) out;simp only[bw,Od,List.sum_append] at hb ⊢;omega;split;refine tQ (λa=>?_) out;simp only[bw,Od,List.sum_append] at hb ⊢;omega;rw[PK];simp only[bws,Tb,sum_cons,map_nil,sum_nil];omega
theorem CP:∀ (l:List Wd) (n:Nat) (out:List Xb) (op:Nat) (o:List Xb) (k:Nat),Nf n out op l=.ok (o,k)->bws o<=bws out+4 * (l.map λw=>w.length+1).sum
 |[],n,out,op,o,k,h=>by cases h;simp
 |s::r,n,out,op,o,k,h=>by
  rw[Nf] at h;cases hs:nj s with
  |error e=>rw[hs] at h;cases h
  |ok b=>rw[hs] at h;have h1:=CP r _ _ _ _ _ h;have h2:bws (Fk out op b)<=bws out+4 * (s.length+1):=O8 (LW hs);simp only[Tb,sum_cons];omega
theorem tP{l:List Xb}(h:Ij t=.ok l):bws l<=4 * (t.length+1):=by obtain⟨_,h⟩:=KH.1 h;obtain⟨k,h⟩:=JO.1 h;have:=CP _ _ _ _ _ _ h;rw[SC] at this;simpa [bws] using this
theorem rW(n:Nat):itoa (n:Int)=decDigits n:=by unfold itoa;rw[zn (by omega)];try rfl
theorem nZ:∀ (l r:Wd) (acc u:Nat),parseUint10 acc l=.ok u->parseUint10 acc (l++r)=parseUint10 u r
 |[],r,acc,u,h=>by rw[parseUint10] at h;cases h;rfl
 |c::l,r,acc,u,h=>by rw[parseUint10] at h;rw[cons_append,parseUint10];split at h;rename_i hc;rw[zp hc];split at h;cases h;rename_i h1;rw[zn h1];split at h;cases h;rename_i h2;rw[zn h2];exact nZ l r _ u h;cases h
theorem H8(u:Nat)(hu:u<=99999):parseUint10 0 (decDigits u)=.ok u:=by
 induction u using Nat.strongRecOn with
 |_ u ih=>
  have one:∀ a d,d<10->a * 10+d<=99999->parseUint10 a [UInt8.ofNat (48+d)]=.ok (a * 10+d):=λa d hd ha=>by rw[parseUint10,nI hd,zp (by omega),zn (by omega),zn (by omega),parseUint10];congr 1;omega
  rw[decDigits];split;have:=one 0 u (by assumption) Ia;simpa using this;rw[nZ _ _ 0 (u / 10) (ih (u / 10) (by omega) (by omega)),one _ _ (by omega) (by omega)];congr 1;omega
theorem aY(u:Nat):∀ c∈decDigits u,48<=c.toNat/\c.toNat<=57:=by
 induction u using Nat.strongRecOn with
 |_ u ih=>intro c hc;rw[decDigits] at hc;split at hc;rw[mem_singleton] at hc;rw[hc,nI (by assumption)];omega;rcases Kj hc with h|h;exact ih (u / 10) Ia c h;rw[mem_singleton] at h;rw[h,nI (by omega)];omega
theorem D8(u:Nat)(hu:u<=99999):atoiAll (decDigits u)=.ok (u:Int):=by
 have h1:=H8 u hu;have h2:=aY u;have h3:=xI u;cases hd:decDigits u with
 |nil=>exact absurd hd h3
 |cons c r=>
  rw[hd] at h1 h2;have hc:=h2 c (by simp);unfold atoiAll;simp only;rw[zn (by omega),parseMag,zn (by simp),h1];simp only;rw[zn (by omega),zn (by omega)];have:¬ c.toNat=45:=by omega
  simp[this]
theorem kP{m:Nat}(hm:m<=99999)(w:Wd)(n:Nat):Bg m w=some n ↔ 1<=n/\n<=m/\decDigits n=w:=by constructor;intro h;obtain⟨h1,h2,h3⟩:=AV h;exact⟨h1,h2,by rw[<-rW];exact h3⟩;rintro⟨h1,h2,rfl⟩;unfold Bg;rw[D8 n (by omega)];simp only;rw[zp ⟨rW n,by omega,by omega⟩];try rfl
theorem DW(c:UInt8):∀ l:List Wd,l≠[]->(join l [c]).length+1=(l.map λw=>w.length+1).sum
 |[],h=>absurd rfl h
 |[a],_=>by rw[join_one];simp
 |a::b::r,_=>by have ih:=DW c (b::r) (by simp);rw[QL,ua,ua,Tb,sum_cons,<-ih];simp only[Oa,Eb];omega
theorem e6(c:UInt8)(l:List Wd):(join l [c]).length<=(l.map λw=>w.length+1).sum:=by by_cases h:l=[];subst h;simp[join_nil];have:=DW c l h;omega
theorem aZ(w:Nat):∀ (n:Nat) (s:Wd),(Qo w n s).length=n
 |0,_=>rfl
 |n+1,s=>by rw[Qo,Oa,aZ w n]
def mg(l:List Wd):Nat:=(l.map λw=>w.length+1).sum
theorem Gv(a:Wd)(l:List Wd):mg (a::l)=a.length+1+mg l:=by simp[mg]
theorem UH:mg []=0:=rfl
theorem G8(a b:List Wd):mg (a++b)=mg a+mg b:=by simp[mg]
theorem DP:∀ l:List Wd,(xh l).length=mg l
 |[]=>rfl
 |a::l=>by have:=DP l;unfold xh at this ⊢;rw[flatMap_cons,ua,this,Gv];simp
def uH(w:Nat)(p:Wd):Prop:=p≠[]/\p.length<=w/\∀ c∈p,33<=c.toNat
def VE(w:Nat)(p:Wd):Prop:=p≠[]/\p.length<=w/\∀ c∈p,32<=c.toNat
def vk(s:Wd):Wd:=s.filter λc=>decide (c≠32)
theorem mL(a b:Wd):vk (a++b)=vk a++vk b:=List.filter_append ..
theorem xQ{w:Nat}{p:Wd}(h:uH w p):vk p=p:=List.filter_eq_self.2 λc hc=>by have:=h.2.2 c hc;simp only[sf];rintro rfl;simp at this
theorem KX{w:Nat}{p:Wd}(hp:uH w p):∀ {out:List Wd},(∀ l∈out,VE w l)->(∀ l∈Yf w p out,VE w l)/\vk (Yf w p out).flatten=vk out.flatten++p/\mg (Yf w p out)=mg out+p.length+1
 |[],_=>by
  rw[Yf];refine⟨λl hl=>?_,?_,?_⟩;rw[wh hl];exact⟨hp.1,hp.2.1,λc hc=>le_of_lt (hp.2.2 c hc)⟩;simp only[flatten_cons,flatten_nil,Qb];exact xQ hp
  rw[Gv,UH];omega
 |[a],h=>by
  obtain⟨h1,h2,h3⟩:=h a (by simp);rw[Yf];split;refine⟨λl hl=>?_,?_,?_⟩;rw[wh hl];refine⟨by simp,by simp only[ua,Oa];omega,λc hc=>?_⟩;rcases Kj hc with hc|hc;exact h3 c hc;rcases Mc.1 hc with rfl|hc
  simp;exact le_of_lt (hp.2.2 c hc);simp only[flatten_cons,flatten_nil,Qb];rw[mL,show vk (32::p)=vk p from rfl,xQ hp];simp only[Gv,UH,ua,Oa];omega;refine⟨λl hl=>?_,?_,?_⟩;rcases Mc.1 hl with rfl|hl;exact⟨h1,h2,h3⟩;rw[wh hl];exact⟨hp.1,hp.2.1,λc hc=>le_of_lt (hp.2.2 c hc)⟩;simp only[flatten_cons,flatten_nil,Qb];rw[mL,xQ hp]
  simp only[Gv,UH];omega
 |a::b::r,h=>by
  obtain⟨k1,k2,k3⟩:=KX hp (out:=b::r) λl hl=>h l (Sc _ hl);rw[Yf];refine⟨λl hl=>?_,?_,?_⟩;rcases Mc.1 hl with rfl|hl;exact h _ (by simp);exact k1 l hl;rw[flatten_cons,mL,k2,flatten_cons (l:=a),mL,Xc];rw[Gv,k3,Gv a];omega
  simp
theorem AQ{w:Nat}:∀ (ps:List Wd) {out:List Wd},(∀ p∈ps,uH w p)->(∀ l∈out,VE w l) ->
  (∀ l∈ps.foldl (λout p=>Yf w p out) out,VE w l)/\vk (ps.foldl (λout p=>Yf w p out) out).flatten=vk out.flatten++ps.flatten/\mg (ps.foldl (λout p=>Yf w p out) out)=mg out+mg ps
 |[],out,_,h=>⟨h,by simp,rfl⟩
 |p::ps,out,hp,h=>by obtain⟨k1,k2,k3⟩:=KX (hp p (by simp)) h;obtain⟨j1,j2,j3⟩:=AQ ps (λx hx=>hp x (Sc _ hx)) k1;rw[List.foldl_cons];refine⟨j1,?_,?_⟩;rw[j2,k2,flatten_cons,Xc];rw[j3,k3,Gv];omega
theorem GY{w:Nat}(hw:1<=w):∀ (f:Nat) (s:Wd),s.length<=f->s≠[]->(∀ c∈s,33<=c.toNat)->(∀ p∈Jo w f s,uH w p)/\(Jo w f s).flatten=s/\mg (Jo w f s)<=2 * s.length
 |0,s,hf,eb,_=>absurd (List.length_eq_zero_iff.1 Ia) eb
 |f+1,s,hf,eb,hc=>by
  have Qd:=List.length_pos_iff.2 eb;rw[Jo];split;refine⟨λp hp=>?_,by simp,?_⟩;rw[wh hp];exact⟨eb,by assumption,hc⟩;rw[Gv,UH];omega
  have hd:s.drop w≠[]:=by intro h;have:=congrArg List.length h;rw[length_drop,Eb] at this;omega
  obtain⟨k1,k2,k3⟩:=GY hw f (s.drop w) (by rw[length_drop];omega) hd λc h=>hc c (List.mem_of_mem_drop h);refine⟨λp hp=>?_,?_,?_⟩;rcases Mc.1 hp with rfl|hp;refine⟨?_,by rw[length_take];omega,λc h=>hc c (List.mem_of_mem_take h)⟩;intro h;have:=congrArg List.length h;rw[length_take,Eb] at this;omega;exact k1 p hp;rw[flatten_cons,k2,List.take_append_drop];rw[Gv,length_take];rw[length_drop] at k3;omega
theorem qp7{s:Wd}:ik s=true ↔ s≠[]/\∀ c∈s,33<=c.toNat/\c.toNat<=126:=by unfold ik;simp only[Le,sf,List.all_eq_true]
theorem zQ{w:Nat}(hw:1<=w):∀ (l:List Wd),l.all ik=true->(∀ p∈Tg w l,uH w p)/\(Tg w l).flatten=l.flatten/\mg (Tg w l)<=2 * l.flatten.length
 |[],_=>⟨λp hp=>(by cases hp),rfl,mc _⟩
 |s::l,h=>by rw[List.all_cons,Le] at h;obtain⟨h1,h2⟩:=qp7.1 h.1;obtain⟨k1,k2,k3⟩:=GY hw s.length s (mc _) h1 λc hc=>(h2 c hc).1;obtain⟨j1,j2,j3⟩:=zQ hw l h.2;have:Tg w (s::l)=Jo w s.length s++Tg w l:=flatMap_cons;rw[this];refine⟨λp hp=>?_,?_,?_⟩;rcases Kj hp with hp|hp;exact k1 p hp;exact j1 p hp;rw[List.flatten_append,k2,j2,flatten_cons];rw[G8,flatten_cons,ua];omega
theorem yQ{w:Nat}(hw:1<=w){l:List Wd}(h:l.all ik=true):(∀ r∈Lk l w,VE w r)/\vk (Lk l w).flatten=l.flatten/\mg (Lk l w)<=2 * l.flatten.length:=by obtain⟨k1,k2,k3⟩:=zQ hw l h;obtain⟨j1,j2,j3⟩:=AQ (w:=w) (Tg w l) (out:=[]) k1 (by simp);refine⟨j1,?_,?_⟩;have:vk ([]:List Wd).flatten=[]:=rfl;rw[this,nil_append,k2] at j2;exact j2;rw[UH,zero_add] at j3;show mg ((Tg w l).foldl (λout p=>Yf w p out) [])<=_;omega
theorem CX{w:Nat}(h:s.length<=w):∀ f,Jo w f s=[s]
 |0=>rfl
 |f+1=>by rw[Jo,zp h]
def Kk(c:UInt8):Bool:=decide (c≠46/\c≠35)
theorem qrE(k:Nat):∀ c∈decDigits k,Kk c=true:=λc hc=>by have:=aY k c hc;unfold Kk;rw[sf];constructor <;> (rintro rfl;simp at this)
theorem y7{k:Nat}{c:UInt8}(hc:c=46∨c=35)(r:Wd):(decDigits k++c::r).dropWhile Kk=c::r/\(decDigits k++c::r).takeWhile Kk=decDigits k:=by
 have h:=qrE k;have hf:Kk c=false:=by rcases hc with rfl|rfl <;> rfl
 constructor;rw[List.dropWhile_append_of_pos h,dropWhile_cons_of_neg (by simp[hf])];rw[List.takeWhile_append_of_pos h,List.takeWhile_cons_of_neg (by simp[hf]),Qb]
theorem qpB(a b:List (Nat×UInt8)):Jf (a++b)=Jf a+Jf b:=by simp[Jf]
theorem qmO(a b:List (Nat×UInt8)):ym (a++b)=ym a++ym b:=by simp[ym]
theorem cR:∀ l:List (Nat×UInt8),(ym l).length=Jf l
 |[]=>rfl
 |p::l=>by have:=cR l;unfold ym Jf at this ⊢;rw[flatMap_cons,ua,this,List.length_replicate,Tb,sum_cons]
def fC(s:Wd):Wd:=(Xn s.reverse).reverse
theorem qrC(s:Wd):Vr s=fC (Xn s):=rfl
theorem LY(r:Wd):Xn (32::r)=Xn r:=by unfold Xn;rw[List.dropWhile_cons_of_pos (by rfl)]
theorem HQ(h:s.head? ≠ some 32):Xn s=s:=by
 cases s with
 |nil=>rfl
 |cons a r=>unfold Xn;rw[dropWhile_cons_of_neg];intro ha;exact h (by rw[Ck ha];try rfl)
theorem YP{last:UInt8}{f:Nat}(eb:s≠[])(hf:s.length<=f+1){l:List (Nat×UInt8)}:tm (f+1) last s=some l ↔
  ∃ n c r l',s=decDigits n++c::r/\1<=n/\n<=99999/\(c=46∨c=35)/\c≠last/\tm f c r=some l'/\l=(n,c)::l':=by
 constructor;intro h;rw[tm,zn eb] at h;split at h;cases h;rename_i c r hd;split at h;cases h;rename_i n hn;split at h;cases h;rename_i hc;split at h;rename_i l' hl;cases h;obtain⟨h1,h2,h3⟩:=(kP (mc _) _ n).1 hn;have h4:c=46∨c=35:=by
  have:=List.head?_dropWhile_not (λc=>decide (c≠(46:UInt8)/\c≠35)) s;rw[hd] at this;simp only[List.head?_cons,decide_eq_false_iff_not] at this
  by_cases YJ:c=46;exact .inl YJ;exact .inr (Classical.not_not.1 λtE=>this ⟨YJ,tE⟩)
 have h5:=List.takeWhile_append_dropWhile (p:=λc=>decide (c≠(46:UInt8)/\c≠35)) (l:=s);rw[hd,<-h3] at h5;exact⟨n,c,r,l',h5.symm,h1,h2,h4,hc,hl,rfl⟩;cases h;rintro⟨n,c,r,l',rfl,h1,h2,h3,h4,h5,rfl⟩;obtain⟨k1,k2⟩:=y7 (k:=n) h3 r;have e1:(decDigits n++c::r).dropWhile (λc=>decide (c≠46/\c≠35))=c::r:=k1;have e2:(decDigits n++c::r).takeWhile (λc=>decide (c≠46/\c≠35))=decDigits n:=k2;rw[tm,zn eb,e1];simp only;rw[e2,(kP (mc _) _ n).2 ⟨h1,h2,rfl⟩];simp only;rw[zn h4,h5]
theorem FP:∀ (f g:Nat) (last:UInt8) (s:Wd),s.length<=f->s.length<=g->tm f last s=tm g last s:=by
 have key:∀ (f g:Nat) (last:UInt8) (s:Wd) (l:List (Nat×UInt8)),s.length<=f->s.length<=g->tm f last s=some l->tm g last s=some l:=by
  intro f;induction f with
  |zero=>
   intro g last s l h1 h2 h;have:s=[]:=List.length_eq_zero_iff.1 Ia;subst this;cases g with
   |zero=>exact h
   |succ g=>rw[tm,zp rfl] at h;rw[tm,zp rfl];exact h
  |succ f ih=>
   intro g last s l h1 h2 h;by_cases hs:s=[];subst hs;rw[tm,zp rfl] at h;cases g with
   |zero=>rw[tm,zp rfl];exact h
   |succ g=>rw[tm,zp rfl];exact h
   obtain⟨n,c,r,l',k1,k2,k3,k4,k5,k6,k7⟩:=(YP hs h1).1 h;have hl:=congrArg List.length k1;simp only[ua,Oa] at hl;cases g with
   |zero=>omega
   |succ g=>exact(YP hs h2).2 ⟨n,c,r,l',k1,k2,k3,k4,k5,ih g c r l' Ia Ia k6,k7⟩
 intro f g last s h1 h2;cases h:tm f last s with
 |some l=>exact(key f g last s l h1 h2 h).symm
 |none=>
  cases h3:tm g last s with
  |none=>rfl
  |some l=>rw[key g f last s l h2 h1 h3] at h;cases h
def cq(last:UInt8)(s:Wd):Option (List (Nat×UInt8)):=tm s.length last s
theorem aQ(last:UInt8):cq last []=some []:=rfl
theorem qqF{last:UInt8}(eb:s≠[]){l:List (Nat×UInt8)}:cq last s=some l ↔
  ∃ n c r l',s=decDigits n++c::r/\1<=n/\n<=99999/\(c=46∨c=35)/\c≠last/\cq c r=some l'/\l=(n,c)::l':=by
 unfold cq;have Qd:=List.length_pos_iff.2 eb;obtain⟨f,hf⟩:∃ f,s.length=f+1:=⟨s.length-1,by omega⟩;rw[hf,YP eb (by omega)];constructor;rintro⟨n,c,r,l',k1,k2,k3,k4,k5,k6,k7⟩;have hl:=congrArg List.length k1;simp only[ua,Oa] at hl;exact⟨n,c,r,l',k1,k2,k3,k4,k5,by rw[FP r.length f c r (mc _) (by omega)];exact k6,k7⟩;rintro⟨n,c,r,l',k1,k2,k3,k4,k5,k6,k7⟩;have hl:=congrArg List.length k1;simp only[ua,Oa] at hl;exact⟨n,c,r,l',k1,k2,k3,k4,k5,by rw[FP f r.length c r (by omega) (mc _)];exact k6,k7⟩
end Go.Ba
namespace Go.Proofs.YtjolancjacdeaaaGreatDoor.Rr
open Go.GL Go.RowKit Go.Ba
noncomputable abbrev KC(B0:Nat)(w0:World):Ctx:=⟨Tryz.prog,B0,w0⟩
theorem Hh{A:Type}(f:A->LV)(l:List A)(i:Nat)(h:i<l.length):(l.map f)[((i:Nat):Int).toNat]? = some (f l[i]):=by rw[Int.toNat_natCast,List.getElem?_map,dh h];rfl
theorem wV{c:UInt8}{k:Int}(h:decide ((c.toNat:Int)=k)=true):c=UInt8.ofNat k.toNat:=by have h1:=zt h;rw[<-h1,Int.toNat_natCast];exact UInt8.ofNat_toNat.symm
theorem jV{c:UInt8}{k:Int}(h:decide ((c.toNat:Int)=k)=false)(hk:0<=k/\k<256):c≠UInt8.ofNat k.toNat:=by have h1:=zf h;intro h2;refine h1 ?_;rw[h2,UInt8.toNat_ofNat'];omega
theorem xL{l:List UInt8}{i:Nat}(h:i<l.length):l[((i:Nat):Int).toNat]? = some l[i]:=by rw[Int.toNat_natCast];exact dh h
end Go.Proofs.YtjolancjacdeaaaGreatDoor.Rr
namespace Go.Ba
open Go.Lib
theorem OY(c:UInt8)(r:Wd):fC (c::r)=if fC r=[] then (if c=32 then [] else [c]) else c::fC r:=by
 unfold fC Xn;rw[List.reverse_cons,List.dropWhile_append];by_cases h:r.reverse.dropWhile (λc=>decide (c=32))=[]
 ·rw[h];simp only[List.isEmpty_nil,if_true,List.reverse_nil]
  by_cases hc:c=32
  ·rw[zp hc,List.dropWhile_cons_of_pos (by simpa using hc)]
   try rfl
  rw[zn hc,dropWhile_cons_of_neg (by simpa using hc)];try rfl
 rw[zn (by simpa using h),zn (by simpa using h),List.reverse_append];try rfl
theorem EX:∀ s:Wd,Xn (fC s)=fC (Xn s)
 |[]=>rfl
 |c::r=>by have ih:=EX r;rw[OY];by_cases hc:c=32;subst hc;rw[LY,zp rfl];split;rename_i h;rw[h] at ih;exact ih;rw[LY];exact ih;have h1:Xn (c::r)=c::r:=HQ (by simpa using hc);rw[h1,OY,zn hc];split;exact HQ (by simpa using hc);exact HQ (by simpa using hc)
theorem B9(s:Wd):trimB s 32=Vr s:=by
 have h1:∀ l:Wd,l.dropWhile (· == 32)=Xn l:=λl=>by unfold Xn;congr 1
 rw[qrC,<-EX];unfold trimB trimLeftB trimRightB;rw[h1,h1];try rfl
theorem qkY(c:UInt8):∀ s:Wd,decide (0<=indexByte s c)=decide (c∈s):=by
 have h:∀ s:Wd,(-1<=indexByte s c)/\(0<=indexByte s c ↔ c∈s):=by
  intro s;induction s with
  |nil=>simp[indexByte]
  |cons b l ih=>
   obtain⟨h1,h2⟩:=ih;rw[indexByte];by_cases hb:b=c;subst hb;simp;have lT:(b == c)=false:=by simpa using hb
   rw[lT];simp only[Vh,if_false,Mc];have Dj:¬ c=b:=λh=>hb h.symm
   by_cases hi:indexByte l c = -1;rw[hi];rw[hi] at h2;have:¬ c∈l:=λh=>by have:=h2.2 h;omega
   simp[this,Dj];have ae:(indexByte l c == -1)=false:=by simpa using hi
   rw[ae];simp only[Vh,if_false,Dj,false_or];constructor;omega;constructor;intro _;exact h2.1 Ia;intro h;have:=h2.2 h;omega
 exact λs=>decide_eq_decide.2 (h s).2
theorem u7(c:UInt8)(s:Wd):(cut s [c]).2.1=(s.dropWhile λd=>decide (d≠c)).drop 1/\(cut s [c]).2.2=decide (c∈s):=by
 by_cases h:c∈s
 ·obtain⟨a,b,rfl,ha⟩:=lI h
  have h1:∀ x∈a,decide (x≠c)=true:=λx hx=>by simp only[sf];rintro rfl;exact ha hx
  rw[cut,kI ha,zp (by omega),List.dropWhile_append_of_pos h1,dropWhile_cons_of_neg (by simp)];constructor
  ·simp only[Int.toNat_natCast,Oa,Eb,List.drop_succ_cons,List.drop_zero];rw[<-drop_drop,List.drop_left]
   try rfl
  simp
 have h1:∀ x∈s,decide (x≠c)=true:=λx hx=>by simp only[sf];rintro rfl;exact h hx
 rw[cut,aI h,zn ra];constructor
 ·have:=List.dropWhile_append_of_pos (l₂:=[]) h1;rw[Qb] at this;rw[this]
  try rfl
 simp[h]
theorem qqu(c:UInt8):([46,35]:Wd).contains c=!Kk c:=by unfold Kk;rw[Bool.eq_iff_iff];simp only[List.contains_cons,List.contains_nil,Bool.or_false,Bool.or_eq_true,beq_iff_eq,Bool.not_eq_true',decide_eq_false_iff_not,ne_eq,not_and,Decidable.not_not];by_cases h:c=46 <;> simp[h]
theorem BZ:∀ s:Wd,indexAny s [46,35]=if s.dropWhile Kk=[] then -1 else ((s.takeWhile Kk).length:Int)
 |[]=>rfl
 |c::r=>by
  have ih:=BZ r;rw[indexAny,qqu];cases hc:Kk c with
  |true=>
   simp only[Bool.not_true,Vh,if_false];rw[ih,List.dropWhile_cons_of_pos (by rw[hc]),List.takeWhile_cons_of_pos (by rw[hc])];by_cases hd:r.dropWhile Kk=[];simp[hd];rw[zn hd,zn hd];have:¬ (((r.takeWhile Kk).length:Int) == -1)=true:=by intro h;have:=eq_of_beq h;omega
   rw[zn this];simp
  |false=>simp only[Bool.not_false,if_true];rw[dropWhile_cons_of_neg (by rw[hc];decide),List.takeWhile_cons_of_neg (by rw[hc];decide)];simp
theorem qp6(a b:UInt8)(s:Wd):hasPrefix s [a,b]=decide (s.take 2=[a,b]):=by
 rw[Bool.eq_iff_iff,decide_eq_true_iff];unfold hasPrefix;match s with
 |[]=>simp[List.isPrefixOf]
 |[x]=>simp[List.isPrefixOf]
 |x::y::r=>simp only[List.isPrefixOf,List.take_succ_cons,List.take_zero,Le,beq_iff_eq,List.cons.injEq,and_true];constructor;rintro⟨rfl,rfl⟩;exact⟨rfl,rfl⟩;rintro⟨rfl,rfl⟩;exact⟨rfl,rfl⟩
theorem qpk(c:UInt8)(n:Nat):repeatL [c] n=List.replicate n c:=by have:=repeatL_replicate c 1 n;rw[mul_one] at this;exact this
end Go.Ba
namespace Go.GL
open Go.RowKit
theorem ox:∀ l:List (List UInt8),(l.map str).flatMap LV.cells=l.map str
 |[]=>rfl
 |a::l=>by rw[Tb,flatMap_cons,ox l];try rfl
def OK(el:TypeId)(l:List (List UInt8)):Lc->Heap->Prop:=λr H=>∃ v,r=.ret (.atom v)/\jb el 1 v (l.map str) H
theorem aa.sy{C:Ctx}{f:FuncId}{vs:List Value}{l:List (List UInt8)}{t:TypeId}(hl:l≠[])
  (h:∀ w,Below C.B0 C.w0 w->Calls C.P f vs.toArray w λe w'=>e=.returned (.slice (some ⟨w.heap.size,0,none⟩) l.length l.length)/\w'=w.alloc (.cells (l.map λs=>Value.string ⟨s.toArray⟩).toArray t)):aa C f (vs.map .atom) [] (OK t l):=λxs w L hv hH=>by
 have hx:xs=vs:=by
  clear h hH;induction vs generalizing xs with
  |nil=>simpa [na] using hv
  |cons v vs ih=>simp only[Tb,na,Wa] at hv;obtain⟨y,ys,rfl,rfl,hv⟩:=hv;rw[ih _ hv]
 subst hx;refine(h w hH.base).mono λe w' he=>?_;obtain⟨rfl,rfl⟩:=he
 have hr:na w L ((l.map str).flatMap LV.cells) (l.map λs=>Value.string ⟨s.toArray⟩):=by rw[ox];have:=Jl (w:=w) (L:=L) (l.map λs=>Value.string ⟨s.toArray⟩);rw[List.map_map] at this;exact this
 have Wt:(l.map str).length=l.length:=Ua _;have:=KP (C:=C) (K:=λlv H=>∃ v,lv=.atom v/\jb t 1 v (l.map str) H) (el:=t) (cap:=l.length) (rest:=[]) hH hr (Ro l) zo (by simp) λv' H' hm=>⟨v',rfl,hm⟩;rw[Qb,Wt] at this;obtain⟨lv,H',L',r1,r2,r3,v,rfl,hm⟩:=this;exact⟨_,H',L',r1,r2,r3,v,rfl,hm⟩
end Go.GL
namespace Go.Proofs.YtjolancjacdeaaaGreatDoor.Rr
open Go.GL Go.RowKit Go.Ba
variable{w:World}
attribute [local irreducible] ea Ga Ja aa Go.GL.Pure Bc Tc oc LQ Pa Td Lf
structure GW(B0:Nat)(w0:World):Prop where
 Cs : Go.Lib.TabIs Tryz.prog w0 "internal/strconv.uint64pow10" .u64 Go.Lib.pow10Tab
 Ri : ∃ tp p, w0.var? Tryz.prog "strconv.ErrRange" = some #[.iface tp p]
 Bh : ∃ tp p, w0.var? Tryz.prog "strconv.ErrSyntax" = some #[.iface tp p]
 maxLen:∃ m,w0.cell? ⟨0,0,none⟩=some (.int .i64 m)
 Jx:8<=B0
variable{B0:Nat}{w0:World}
theorem GW.AK (h : GW B0 w0)  (hb : Below B0 w0 w) : Go.Lib.TabIs Tryz.prog w "internal/strconv.uint64pow10" .u64 Go.Lib.pow10Tab := by
 have hg : Tryz.prog.globalNamed "internal/strconv.uint64pow10" = some 5 := by kernel_rfl
 exact var?_below hb hg (Nat.lt_of_lt_of_le ra h.Jx) h.Cs
theorem GW.range (h : GW B0 w0)  (hb : Below B0 w0 w) : ∃ tp p, w.var? Tryz.prog "strconv.ErrRange" = some #[.iface tp p] := by
 have hg : Tryz.prog.globalNamed "strconv.ErrRange" = some 4 := by kernel_rfl
 obtain⟨tp,p,hv⟩:=h.Ri;exact⟨tp,p,var?_below hb hg (Nat.lt_of_lt_of_le ra h.Jx) hv⟩
theorem GW.EN (h : GW B0 w0)  (hb : Below B0 w0 w) : ∃ tp p, w.var? Tryz.prog "strconv.ErrSyntax" = some #[.iface tp p] := by
 have hg : Tryz.prog.globalNamed "strconv.ErrSyntax" = some 3 := by kernel_rfl
 obtain⟨tp,p,hv⟩:=h.Bh;exact⟨tp,p,var?_below hb hg (Nat.lt_of_lt_of_le ra h.Jx) hv⟩
theorem GW.VA(h:GW B0 w0)(hb:Below B0 w0 w):∃ m,w.cell? ⟨0,0,none⟩=some (.int .i64 m):=by obtain⟨m,hm⟩:=h.maxLen;exact⟨m,(cell_of_heap (hb.block 0 (Nat.lt_of_lt_of_le ra h.Jx)) 0).trans hm⟩
theorem q7{s:List UInt8}(h:s.length<=1000000000){k:Nat}(hk:1000000000<=k):s.toArray.size<=k:=by simp;omega
theorem xF(hG:GW B0 w0)(s:List UInt8)(c:UInt8)(hs:s.length<=1000000000):aa (KC B0 w0) 51 [str s,str [c]] [] (OK 9 (Yc c s)):=by
 have eb:Yc c s≠[]:=by obtain⟨p,ps,h⟩:=LA c s;rw[h];simp
 rw[<-ZX] at eb ⊢;refine aa.sy (vs:=[.string ⟨s.toArray⟩,.string ⟨#[c]⟩]) eb λw hw=>?_;obtain⟨m,hm⟩:=hG.VA hw;have h1:=Tryz.strings_Split ⟨s.toArray⟩ ⟨#[c]⟩ m w (by show s.toArray.size<_;simp;omega) hm (mc 1)
 have e1:(Go.Lib.splitB ⟨#[c]⟩ 0 (Go.Lib.countB ⟨s.toArray⟩ ⟨#[c]⟩) ⟨s.toArray⟩).map Value.string=(Go.Lib.split s [c]).map λs=>Value.string ⟨s.toArray⟩:=by have:=Go.Lib.splitB_data ⟨#[c]⟩ 0 (Go.Lib.countB ⟨s.toArray⟩ ⟨#[c]⟩) ⟨s.toArray⟩;have e2:Go.Lib.split s [c]=Go.Lib.splitK (⟨#[c]⟩:ByteArray).data.toList 0 (Go.Lib.countB ⟨s.toArray⟩ ⟨#[c]⟩) (⟨s.toArray⟩:ByteArray).data.toList:=rfl;rw[e2,<-this,List.map_map];rfl
 have e3:(Go.Lib.split s [c]).length=Go.Lib.countB ⟨s.toArray⟩ ⟨#[c]⟩+1:=by have:=congrArg List.length e1;rw[Ua,Ua,Go.Lib.splitB_all ⟨#[c]⟩ (mc 1) 0 _ _ rfl] at this;exact this.symm
 rw[e1] at h1;rw[e3];exact h1
theorem IP(s:List UInt8)(hs:s.length<=1000000000):aa (KC B0 w0) 171 [str s,str [32]] [] (gb (str (Vr s))):=
 aa.ye (vs:=[.string ⟨s.toArray⟩,.string ⟨#[32]⟩]) λw hw=>by have h:=Tryz.strings_Trim_one ⟨s.toArray⟩ 32 ra w (by show s.toArray.size<=_;exact q7 hs ra);refine h.mono λe w' he=>?_;obtain⟨h1,h2⟩:=he;rw[show(⟨s.toArray⟩:ByteArray).data.toList=s from rfl,B9] at h1;refine⟨h1,?_⟩;rcases h2 with rfl|rfl;exact Below.refl _ _;exact(Below.refl _ _).drew
theorem uP(hG:GW B0 w0)(s:List UInt8)(c:UInt8)(hs:s.length<=1000000000):aa (KC B0 w0) 95 [str s,str [c]] [] (gb (.tuple [str (s.takeWhile λd=>decide (d≠c)),str ((s.dropWhile λd=>decide (d≠c)).drop 1),bool (decide (c∈s))])):=by obtain⟨h2,h3⟩:=u7 c s;rw[<-bW,<-h2,<-h3];refine aa.mono (aa.Ud (vs:=[.string ⟨s.toArray⟩,.string ⟨#[c]⟩]) (p:=λus=>us=[.string ⟨(Go.Lib.cut s [c]).1.toArray⟩,.string ⟨(Go.Lib.cut s [c]).2.1.toArray⟩,.bool (Go.Lib.cut s [c]).2.2]) λw hw=>?_) ?_;obtain⟨m,hm⟩:=hG.VA hw;refine(Tryz.strings_Cut ⟨s.toArray⟩ ⟨#[c]⟩ m w (by show s.toArray.size<_;simp;omega) hm).mono λe w' he=>?_;obtain⟨rfl,n,rfl⟩:=he;exact⟨_,rfl,rfl,below_drewN (Below.refl _ _) n⟩;rintro r H ⟨v,rfl,⟨us,rfl,rfl⟩,rfl⟩;exact⟨rfl,rfl⟩
theorem ZQ(s:List UInt8)(c:UInt8):aa (KC B0 w0) 16 [str s,str [c]] [] (gb (bool (decide (c∈s)))):=
 aa.ye (vs:=[.string ⟨s.toArray⟩,.string ⟨#[c]⟩]) λw hw=>(Tryz.strings_Contains_one ⟨s.toArray⟩ c w).mono λe w' he=>by obtain⟨h1,rfl⟩:=he;rw[show(⟨s.toArray⟩:ByteArray).data.toList=s from rfl,qkY] at h1;exact⟨h1,Below.refl _ _⟩
theorem CY(s:List UInt8)(a b:UInt8):aa (KC B0 w0) 109 [str s,str [a,b]] [] (gb (bool (decide (s.take 2=[a,b])))):=
 aa.ye (vs:=[.string ⟨s.toArray⟩,.string ⟨#[a,b]⟩]) λw hw=>(Tryz.strings_HasPrefix ⟨s.toArray⟩ ⟨#[a,b]⟩ w).mono λe w' he=>by obtain⟨h1,rfl⟩:=he;have h2:=qp6 a b s;rw[<-h2];exact⟨h1,Below.refl _ _⟩
theorem Iv(hG:GW B0 w0)(n:Int)(h0 : -9223372036854775808<=n)(h1:n<=9223372036854775807):aa (KC B0 w0) 155 [int .i64 n] [] (gb (str (Go.Lib.itoa n))):=
 aa.ye (vs:=[.int .i64 n]) λw hw=>(Tryz.strconv_Itoa n h0 h1 w (hG.AK hw)).mono λe w' he=>by obtain⟨h1,k,os,rfl⟩:=he;exact⟨h1,Go.Lib.below_grow _ _ (mc _) k os⟩
theorem MX(hG:GW B0 w0)(s:List UInt8)(hs:s.length<=1000000000):aa (KC B0 w0) 180 [str s] []
  (Ko λlv=>(∃ v,Go.Lib.atoiAll s=.ok v/\lv=.tuple [int .i64 v,.atom .nilIface])∨((∀ v,Go.Lib.atoiAll s≠.ok v)/\∃ v t p,lv=.tuple [int .i64 v,.atom (.iface t p)])):=by
 have ld:∀ k,1000000000<=k->s.toArray.size<=k:=λk hk=>by simp;omega
 refine aa.mono (aa.Ud (vs:=[.string ⟨s.toArray⟩]) (p:=λus=>(∃ v,Go.Lib.atoiAll s=.ok v/\us=[.int .i64 v,.nilIface])∨((∀ v,Go.Lib.atoiAll s≠.ok v)/\∃ v t p,us=[.int .i64 v,.iface t p])) λw hw=>?_) ?_
 cases h:Go.Lib.atoiAll s with
 |ok v=>
  refine(Tryz.strconv_Atoi_ok ⟨s.toArray⟩ (ld _ ra) v (by simpa using h) w).mono λe w' he=>⟨_,he.1,.inl ⟨v,rfl,rfl⟩,?_⟩;rcases he.2 with h2|⟨t,h2⟩;rw[h2];exact Below.refl _ _
  exact IB
 |range=>
  obtain⟨tp,p,hv⟩:=hG.range hw;refine(Tryz.strconv_Atoi_range_var ⟨s.toArray⟩ (ld _ ra) (by simpa using h) tp p w hv).mono λe w' he=>?_;obtain⟨N,h1,_,_,h4⟩:=he
  exact⟨_,h1,.inr ⟨(λu hu=>by cases hu),_,_,_,rfl⟩,h4⟩
 |_=>obtain⟨tp,p,hv⟩:=hG.EN hw;refine(Tryz.strconv_Atoi_syntax_var ⟨s.toArray⟩ (ld _ ra) ⟨λv hv=>(by rw[show Go.Lib.atoiAll s=_ from h] at hv;cases hv),λhv=>(by rw[show Go.Lib.atoiAll s=_ from h] at hv;cases hv)⟩ tp p w hv).mono λe w' he=>?_;obtain⟨N,h1,_,_,h4⟩:=he;exact⟨_,h1,.inr ⟨(λu hu=>by cases hu),_,_,_,rfl⟩,h4⟩
 rintro r H ⟨v,rfl,⟨us,GD,rfl⟩,rfl⟩;refine⟨_,rfl,?_,rfl⟩;rcases GD with⟨u,h1,rfl⟩|⟨h1,v,t,p,rfl⟩;exact .inl ⟨u,h1,rfl⟩;exact .inr ⟨h1,v,t,p,rfl⟩
theorem RQ(c:UInt8)(n:Nat)(hn:n<=1000000000):aa (KC B0 w0) 111 [str [c],int .i64 n] [] (gb (str (List.replicate n c))):=
 aa.ye (vs:=[.string ⟨#[c]⟩,.int .i64 n]) λw hw=>(Tryz.strings_Repeat ⟨#[c]⟩ n w zo (by show 1 * n<=_;omega)).mono λe w' he=>by obtain⟨h1,h2⟩:=he;rw[show(⟨#[c]⟩:ByteArray).data.toList=[c] from rfl,qpk] at h1;exact⟨h1,h2⟩
theorem vP{l:List Wd}(h:∀ w∈l,w≠[]):full l=l:=List.filter_eq_self.2 λw hw=>by simpa using h w hw
theorem ZP{l:List Wd}{j:Nat}(h:j<l.length):full (l.take (j+1))=if l[j]=[] then full (l.take j) else full (l.take j)++[l[j]]:=by rw[take_succ_eq_append_getElem h,aX];by_cases hw:l[j]=[];rw[zp hw,hw];show full (l.take j)++[]=_;rw[Qb];rw[zn hw,vP (l:=[l[j]]) (by simpa using hw)]
theorem bI(c:UInt8):∀ s:Wd,(Yc c s).length<=s.length+1
 |[]=>mc _
 |d::r=>by have ih:=bI c r;by_cases hd:d=c;subst hd;rw[IA,Oa,Oa];omega;obtain⟨p,ps,h1,h2⟩:=dD hd r;rw[h1,Oa] at ih;rw[h2,Oa,Oa];omega
theorem s6(l:List Wd):(full l).length<=l.length:=List.length_filter_le ..
theorem RY(s:List UInt8):aa (KC B0 w0) 178 [str s] [] (gb (bool (decide (s=[])))):=by refine cJ Tryz.func178 (n:=5) ?_;refine ia ?_;exact Na rfl (va rfl) rfl
def X7(l:List Wd)(n:Int):Prop:=(n = -1/\∀ w∈l,w≠[])∨∃ i:Nat,n=(i:Int)/\i<l.length/\(∀ w∈l.take i,w≠[])/\l[i]? = some []
theorem qnW(l:List Wd)(b cap:Nat)(spare:List LV)(hl:l.length<=1000000000):aa (KC B0 w0) 230 [.atom (.slice (some ⟨b,0,none⟩) l.length cap),.atom (.func (.func 178) #[] #[])] [(b,.cells 9 (l.map str++spare))]
  (λr H=>∃ n,r=.ret (int .i64 n)/\X7 l n/\H=[(b,.cells 9 (l.map str++spare))]):=by
 refine cJ Tryz.func230 (n:=19) ?_;refine fg ?_;refine Mm ?_;refine oa ?_;refine oL (λk ls H=>∃ i:Nat,i<=l.length/\k=l.length-i/\(∀ w∈l.take i,w≠[])/\ls=[(0,.atom (.slice (some ⟨b,0,none⟩) l.length cap)),(1,.atom (.func (.func 178) #[] #[])),(7,int .i64 l.length),(8,int .i64 i)]/\H=[(b,.cells 9 (l.map str++spare))])
  ⟨_,_,_,⟨0,zero_le _,rfl,by simp,rfl,rfl⟩,Qa,kb _⟩ ?_
 rintro k ls H ⟨i,hi,rfl,bc,rfl,rfl⟩ j1 Pb;refine Nd ?_;refine sa (λhc=>?_) λhc=>?_;have wa:i<l.length:=by have:=zt hc;omega
 refine ia ?_;refine ca (Pure.Ki rfl rfl zo zo) ?_;refine ca (pL (c:=str l[i]) rfl yb (by
  rw[zero_add,mul_one,Int.toNat_natCast,List.getElem?_append_left (by rw[Ua];exact wa),List.getElem?_map,dh wa];rfl)) ?_
 refine oS (S.Qs (f:=178) [_] rfl rfl (RY l[i]) ?_);refine ig ?_;refine sa (λh=>?_) λh=>?_;have he:l[i]=[]:=zt h;refine ia ?_;exact rR Pb (va rfl) Ma ⟨_,rfl,.inr ⟨i,rfl,wa,bc,by rw[dh wa,he]⟩,rfl⟩;have he:l[i]≠[]:=zf h;refine ia ?_
 exact⟨_,_,_,by omega,⟨i+1,by omega,rfl,by
  rw[take_succ_eq_append_getElem wa];intro w hw;rcases Kj hw with hw|hw;exact bc w hw;rw[wh hw];exact he,rfl,rfl⟩,Qa,kb _,Pb⟩
 have ae:i=l.length:=by have:=zf hc;omega
 subst ae;rw[take_length] at bc;refine ia ?_;exact rR Pb (va rfl) Ma ⟨_,rfl,.inl ⟨rfl,bc⟩,rfl⟩
theorem qmK(l:List Wd)(b cap:Nat)(spare:List LV)(hl:l.length<=1000000000)(Kc:l.length+spare.length=cap):aa (KC B0 w0) 177 [.atom (.slice (some ⟨b,0,none⟩) l.length cap),.atom (.func (.func 178) #[] #[])] [(b,.cells 9 (l.map str++spare))]
  (OK 9 (full l)):=by
 refine cJ Tryz.func177 (n:=42) ?_;refine fg ?_;refine oS (S.Us [_,_] rfl pH (qnW l b cap spare hl) (λv H' hh=>?_) (by rintro ch H' ⟨n,h,_⟩;cases h));obtain⟨n,hv,hF,rfl⟩:=hh;cases hv;refine ia ?_;refine sa (λh=>?_) λh=>?_;have hn:=zt h;rcases hF with⟨_,bc⟩|⟨i,h1,_⟩;refine ia ?_;refine rR rfl (va rfl) Ma ⟨_,rfl,?_⟩;rw[vP bc];exact jb.pd (Ro l) (ox l) (Ua _) zo Kc;omega;have hn:=zf h;rcases hF with⟨h1,_⟩|⟨i0,rfl,QM,bc,Vl⟩;exact absurd h1 hn
 have SM:full (l.take (i0+1))=l.take i0:=by rw[ZP QM,zp (by rw[dh QM] at Vl;injection Vl),vP bc]
 refine ia ?_;refine oL (λk ls H=>∃ (i j:Nat) (cs:List LV),i<j/\j<=l.length/\k=l.length-j/\cs.length=l.length+spare.length/\i=(full (l.take j)).length/\cs.take i=(full (l.take j)).map str/\cs.drop j=(l.drop j).map str++spare /\
   ls=[(0,.atom (.slice (some ⟨b,0,none⟩) l.length cap)),(1,.atom (.func (.func 178) #[] #[])),(5,int .i64 i),(6,int .i64 j)]/\H=[(b,.cells 9 cs)])
  ⟨_,_,_,⟨i0,i0+1,l.map str++spare,by omega,by omega,rfl,by rw[ua,Ua],by rw[SM,length_take];omega,by
   rw[SM,List.take_append_of_le_length (by rw[Ua];omega),List.map_take],by
   rw[List.drop_append_of_le_length (by rw[Ua];omega),map_drop],rfl,rfl⟩,Qa,kb _⟩ ?_
 rintro k ls H ⟨i,j,cs,AJ,hj,rfl,Qf,hi,Hs,Ad,rfl,rfl⟩ j1 Pb;refine Dc ?_;refine Mm ?_;refine oa ?_;refine sa (λhc=>?_) λhc=>?_;have wa:j<l.length:=by have:=zt hc;omega
 have rl:cs[j]? = some (str l[j]):=by have:=congrArg (λq=>q[0]?) Ad;simp only[List.getElem?_drop,Nat.add_zero] at this;rw[this,List.getElem?_append_left (by rw[Ua,length_drop];omega),List.getElem?_map,List.getElem?_drop,Nat.add_zero,dh wa];rfl
 have HJ:cs.drop (j+1)=(l.drop (j+1)).map str++spare:=by have:=congrArg (List.drop 1) Ad;rw[drop_drop] at this;rw[this,List.drop_append_of_le_length (by rw[Ua,length_drop];omega),<-map_drop,drop_drop]
 refine ia ?_;refine ca (Pure.Ki rfl rfl zo zo) ?_;refine ca (pL (c:=str l[j]) rfl yb (by
  rw[zero_add,mul_one,Int.toNat_natCast];exact rl)) ?_
 refine fg ?_;refine oS (S.Qs (f:=178) [_] rfl rfl (RY l[j]) ?_);refine za ?_;refine sa (λh=>?_) λh=>?_;have he:l[j]≠[]:=zf (Zw h);have Zt:full (l.take (j+1))=full (l.take j)++[l[j]]:=by rw[ZP wa,zn he]
 refine Dc ?_;refine ca (Pure.Ki rfl rfl zo zo) ?_;refine oS (sS (Ya:=cs.take i++[str l[j]]++cs.drop (i+1)) rfl pH rfl rfl (by rw[zero_add,mul_one,Int.toNat_natCast];exact Nat.ble_eq_true_of_le (show i+1<=cs.length by omega)) rfl (by
  rw[zero_add,mul_one,Int.toNat_natCast];exact xA cs i [str l[j]] (by show i+1<=cs.length;omega)) ?_)
 refine ia ?_;have zJ:(cs.take i).length=i:=by rw[length_take];omega
 exact⟨_,_,_,by omega,⟨i+1,j+1,_,by omega,by omega,rfl,by
  simp only[ua,length_take,length_drop,Oa,Eb];omega,by
  rw[Zt,ua,<-hi];rfl,by
  rw[Zt,Od,<-Hs,List.take_left' (by rw[ua,zJ];rfl)];rfl,by
  rw[Xc,List.drop_append,List.drop_eq_nil_of_le zo,nil_append,zJ,show j+1-i=(j-i)+1 by omega];show(cs.drop (i+1)).drop (j-i)=_;rw[drop_drop,show i+1+(j-i)=j+1 by omega,HJ],rfl,rfl⟩,Qa,kb _,Pb⟩
 have he:l[j]=[]:=zt (qt h);have Zt:full (l.take (j+1))=full (l.take j):=by rw[ZP wa,zp he]
 refine ia ?_;exact⟨_,_,_,by omega,⟨i,j+1,cs,by omega,by omega,rfl,Qf,by rw[Zt];exact hi,by rw[Zt];exact Hs,HJ,rfl,rfl⟩,Qa,kb _,Pb⟩;have pw:j=l.length:=by have:=zf hc;omega
 subst pw;rw[take_length] at Hs hi;rw[drop_length,map_nil,nil_append] at Ad;refine ia ?_;refine ca (Pure.py rfl rfl zo zo)<|oS (S.gu (zv:=.string ⟨#[]⟩) rfl pH zo zo zo rfl ⟨λ_ h=>(by cases h),λ_ h=>(by cases h)⟩ rfl ?_);refine qg ?_;refine ca (Pure.mh (n:=i) rfl rfl zo)<|qh ?_;refine rR Pb (va rfl) Ma ⟨_,rfl,?_⟩;rw[Hs,Xc]
 exact jb.pd (Ro _) (ox _) (by rw[Ua,<-hi]) zo (by
  simp only[ua,List.length_replicate,length_drop];omega)
theorem rQ(hG:GW B0 w0)(s:List UInt8)(hs:s.length<=100000000):aa (KC B0 w0) 107 [str s] [] (OK 9 (ko s)):=by
 have fa:=bI 32 s;have eb:Yc 32 s≠[]:=by obtain⟨p,ps,h⟩:=LA 32 s;rw[h];simp
 refine cJ Tryz.func107 (n:=6) ?_;refine fg ?_;refine oS (S.Ef [_,_] rfl (xF hG s 32 zo) (λv H' hh=>?_) (by rintro ch H' ⟨v,h,_⟩;cases h));obtain⟨v,hv,hm⟩:=hh;cases hv;obtain⟨b,cap,spare,rfl,rfl,hc,hl⟩:=hm.addr (by simpa using eb);simp only[Ua,ox] at hc hl ⊢;refine oS (S.Us [_,_] rfl pH (qmK (Yc 32 s) b cap spare zo zo) (λv H' hh=>?_) (by rintro ch H' ⟨v,h,_⟩;cases h));obtain⟨v,hv,hm⟩:=hh;cases hv;refine qh ?_;exact rR rfl (va rfl) (by simpa using kb _) ⟨_,rfl,hm⟩
end Go.Proofs.YtjolancjacdeaaaGreatDoor.Rr
namespace Go.GL
open Go.RowKit
variable{C:Ctx}{H H':Heap}{R:Lc->Heap->Prop}{e:Env}{n:Nat}{rs:List ResultVar}{vs:List LV}
theorem iM{l n:Nat}{P:Program}{md:Region.Mode}{xa:Array Oper}{Q:Exit->Act->World->Prop}(hQ:¬ LetsOut Q)(ho:∀ (i:Nat) (o:Oper),xa[i]? = some o->ZE o.op=true) :
  ∀ (Xa:Nat) (qa:Array Bool) (a:Act) (w:World),wpAny P md xa Q Xa qa a w->wpAnyIn (Fence.wide.inRound l) n P md xa Q Xa qa a w
 |0,_,_,_,h=>h
 |Xa+1,qa,a,w,h=>by
  refine⟨h.1,λi hi=>?_⟩;have h2:=h.2 i hi;unfold wpOp at h2;unfold wpOpIn
  cases Cp:xa[i]? with
  |none=>rw[Cp] at h2;exact iM hQ ho Xa _ a w h2
  |some o=>rw[Cp] at h2;simp only at h2 ⊢;split at h2;rename_i hw;rw[zp hw];rcases h2 with h2|⟨_,h2⟩;exact xZ (ho i o Cp) (λa w h=>iM hQ ho Xa _ a w h) h2;exact absurd h2 hQ;rename_i hw;rw[zn hw];exact⟨λ_ _=>trivial,iM hQ ho Xa _ _ w h2⟩
section
variable{C:Ctx}{l n:Nat}{e:Env}{H:Heap}{k:Env->Heap->Prop}
theorem qf.draw [hm:Al C.P] {id:Nat} {xa:List Oper} {m:Nat} (hl:m=xa.length) (HF:Heap) (ho:xa.all (λo=>ZE o.op)=true) (h:Pa C n xa.toArray (Bc k (mq k)) HF m (Array.replicate m false) e H):qf C l n (.region id xa.toArray true) (mq k) e H:=λa w L hE hH m'=>by
 subst hl;have h1:=h a w.drew L (hE.mono (Ty w L)) hH.drew;have hQ:¬ LetsOut (lift C n w L (keys H) (mq k)):=by rintro⟨a',w',e',H',L',_,_,_,hq⟩;exact hq
 refine wpIn_region_any hm.out (iM hQ (λi o hi=>?_) _ _ _ _ ?_);have:o∈xa:=by rw[List.getElem?_toArray] at hi;exact List.mem_of_getElem? hi
 exact(List.all_eq_true.1 ho) o this;refine wpAny_of_held (S:=rm w.drew L HF) _ _ _ _ (Yy (λx a' w' hq=>?_) _ _ _ _ (by simpa using h1));obtain⟨e',H',L',h1,h2,h3,h4⟩:=hq;refine⟨e',H',L',h1.Ld,h2,h3,?_⟩;cases x <;> exact h4
theorem qf.cond{c:Operand}{x y:Code}{t:Bool}(hc:e.ev c=bool t)(ht:t=true->qf C l n x (mq k) e H)(hf:t=false->qf C l n y (mq k) e H):qf C l n (.cond c x y) (mq k) e H:=λa w L hE hH m=>by
 have hv:=hE.ev c;rw[hc] at hv;simp only[Wa] at hv;refine wpIn_cond hv ?_;cases t with
 |true=>exact ht rfl a w L hE hH m
 |false=>exact hf rfl a w L hE hH m
end
theorem oo.qD{D:Nat}(hd:e.ds=[{ target:=.collected D,args:=#[] }])(F:Heap)(hp:H.Perm ((D,.obj (.deferred (some [])))::F))(h:Eh C n e F rs vs)(hH:HSub H' F)(hR:R (.ret (Ge vs)) H') :
  oo C n rs R .ret e H:=by
 unfold oo;exact⟨D,F,hd,hp,vs,H',h,hH,hR⟩
def HA(C:Ctx)(n:Nat)(rs:List ResultVar)(R:Lc->Heap->Prop):Ob:=λx e H=>oo C n rs R x e H∨(match x with
 |.normal|.ret=>e.ds=[]/\∃ vs H',Eh C n e H rs vs/\HSub H' H/\R (.ret (Ge vs)) H'
 |_=>False)
theorem HA.uy(hd:e.ds=[])(h:Eh C n e H rs vs)(hH:HSub H' H)(hR:R (.ret (Ge vs)) H'):HA C n rs R .ret e H:=.inr ⟨hd,vs,H',h,hH,hR⟩
theorem HA.Ag{D:Nat}(hd:e.ds=[{ target:=.collected D,args:=#[] }])(F:Heap)(hp:H.Perm ((D,.obj (.deferred (some [])))::F))(h:Eh C n e F rs vs)(hH:HSub H' F)(hR:R (.ret (Ge vs)) H') :
  HA C n rs R .ret e H:=.inl (oo.qD hd F hp h hH hR)
theorem aa.introN{f:FuncId}{fn:Func}{c:Code}{args:List LV}(hf:C.P.funcs[f]? = some fn)(hb:fn.body=some c)(hn:fn.ntmps=n)(h3:Nat.ble fn.results.size 3=true)
  (hl:Nat.ble args.length n=true) (h:Ga C n c (HA C n fn.results.toList R) (Oy args) H):aa C f args H R:=λvs w L hv hH=>by
 subst hn;have Wt:args.length<=fn.ntmps:=by simpa using hl
 have Pk:fn.results.size<=3:=by simpa using h3
 have fa:=hv.length;refine callsIn_wide.1 (callsIn_of_wp_marks (F:=Fence.wide) (n:=1) hf hb trivial (wpIn_wide.2 (Go.wp_mono (h _ w L ⟨?_,rfl,λi=>?_⟩ hH) λex a' w' hq=>?_)))
 simp;omega;exact IE;obtain⟨e',H',L',g1,g2,g3,g4⟩:=hq;have turn:∀ {D F},H'.Perm ((D,da.obj (.deferred (some [])))::F)->(Instr.takeDeferred D).run C.P w'=.ok [] (w'.putObj D (.deferred none))/\Fr (keys H) w L (w'.putObj D (.deferred none)) L' F/\Ca C (w'.putObj D (.deferred none)) L' F/\Ext w' L' (w'.putObj D (.deferred none)) L':=λ{D F} hp=>by have Ns:=g2.perm hp;obtain⟨_,_,_,Wj,_⟩:=Ns.Gb _ List.mem_cons_self;have mr:w'.heap[D]? = some (.deferred (some [])):=Wj;have ht:=PH (o':=.deferred none) Ns rfl;have hs:HSub F ((D,da.obj (.deferred none))::F):=fe Ma;have GS:Fr (keys H) w L w' L' ((D,da.obj (.deferred (some [])))::F):=g1.db ⟨[],by simpa using hp⟩;exact⟨run_takeDeferred mr,(GS.trans ht.1).db hs,ht.2.db hs,ht.1.ext⟩
 have ret:Mb fn.ntmps a' e' w' L'->(∃ D F,e'.ds=[{ target:=.collected D,args:=#[] }]/\H'.Perm ((D,.obj (.deferred (some [])))::F)/\∃ vs se,Eh C fn.ntmps e' F fn.results.toList vs/\HSub se F/\R (.ret (Ge vs)) se) ->
   LeavesInM Fence.wide 1 C.P fn a'.tmps (js C w L H (λv=>R (.ret v)) λch=>R (.panic ch)) a'.defers .returning w':=λhE hr=>by
  obtain⟨D,F,h1,hp,Uw,se,h2,h4,h5⟩:=hr;rw[hE.ds,h1];obtain⟨t1,t2,t3,t4⟩:=turn hp;refine⟨by simp,.inl ⟨D,_,rfl,t1,?_⟩⟩;obtain⟨v,r1,r2⟩:=tI (hE.mono t4) t3 h2 Pk;exact⟨v,r1,Ge Uw,se,L',t2.db h4,t3.db h4,r2,h5⟩
 have uy:Mb fn.ntmps a' e' w' L'->(e'.ds=[]/\∃ vs se,Eh C fn.ntmps e' H' fn.results.toList vs/\HSub se H'/\R (.ret (Ge vs)) se) ->
   LeavesInM Fence.wide 1 C.P fn a'.tmps (js C w L H (λv=>R (.ret v)) λch=>R (.panic ch)) a'.defers .returning w':=λhE hr=>by
  obtain⟨h1,Uw,se,h2,h4,h5⟩:=hr;rw[hE.ds,h1];obtain⟨v,r1,r2⟩:=tI hE g2 h2 Pk;exact⟨v,r1,Ge Uw,se,L',g1.db h4,g2.db h4,r2,h5⟩
 cases ex with
 |normal=>rcases g4 with g4|g4;exact ret g3 g4;exact uy g3 g4
 |ret=>rcases g4 with g4|g4;exact ret g3 g4;exact uy g3 g4
 |panic ch=>have g4:=g4.resolve_right id;rcases g4 with⟨h1,se,h4,h5⟩|⟨D,F,h1,hp,se,h4,h5⟩;show LeavesInM _ _ _ _ _ _ a'.defers _ _;rw[show a'.defers=[] from(show a'.defers=e'.ds from g3).trans h1];exact⟨se,L',g1.db h4,g2.db h4,h5⟩;exact rG
 |exit id=>exact g4.elim (λh=>h.elim) λh=>h.elim
 |goto id=>exact g4.elim (λh=>h.elim) λh=>h.elim
 |outgrown=>exact g4.elim (λh=>h.elim) λh=>h.elim
section
variable{C:Ctx}{e:Env}{H:Heap}{x y:Operand}{dst:Option Nat}{ty xT yT:TypeId}{la:String}{ma:Array Edge}{g:Option (Nat×Bool)}
theorem Pure.bH{a b c:Int}(hx:e.ev x=int .i64 a)(hy:e.ev y=int .i64 b)(he:a-b=c)(h : -9223372036854775808<=c/\c<=9223372036854775807):Pure C ⟨dst,.binOp .sub xT x y yT,ty,la,ma,g⟩ e H (int .i64 c):=by subst he;exact Pure.sub hx hy h
theorem Pure.CT{a b:Int}{k:IntKind}(hx:e.ev x=int k a)(hy:e.ev y=int k b)(h:b<=a):Pure C ⟨dst,.binOp .geq xT x y yT,ty,la,ma,g⟩ e H (bool true):=by have:=Pure.geq (C:=C) (dst:=dst) (ty:=ty) (la:=la) (ma:=ma) (g:=g) (H:=H) (xT:=xT) (yT:=yT) hx hy;rwa [Eg h] at this
end
end Go.GL
namespace Go.Ba
open Go.Lib
variable{w:Nat}
theorem qpg(hw:1<=w):∀ (f g:Nat) (s:Wd),s.length<=f->s.length<=g->Jo w f s=Jo w g s:=by
 intro f;induction f with
 |zero=>
  intro g s h1 h2;have:s=[]:=List.length_eq_zero_iff.1 Ia;subst this;cases g with
  |zero=>rfl
  |succ g=>rw[Jo,Jo,zp (by simp)]
 |succ f ih=>
  intro g s h1 h2;rw[Jo];by_cases h:s.length<=w;rw[zp h,CX h];rw[zn h];cases g with
  |zero=>omega
  |succ g=>rw[Jo,zn h,ih g (s.drop w) (by rw[length_drop];omega) (by rw[length_drop];omega)]
def SE(w:Nat)(s:Wd):List Wd:=Jo w s.length s
theorem qp8(hw:1<=w){s:Wd}(h:w<s.length):SE w s=s.take w::SE w (s.drop w):=by unfold SE;obtain⟨f,hf⟩:∃ f,s.length=f+1:=⟨s.length-1,by omega⟩;rw[hf,Jo,zn (by omega),qpg hw f (s.drop w).length (s.drop w) (by rw[length_drop];omega) (mc _)]
theorem qnN{s:Wd}(h:s.length<=w):SE w s=[s]:=CX h _
theorem qni(w:Nat)(s:Wd)(l:List Wd):Tg w (s::l)=SE w s++Tg w l:=flatMap_cons
theorem cP(w:Nat)(p a:Wd):∀ l:List Wd,Yf w p (l++[a])=if a.length+1+p.length<=w then l++[a++32::p] else l++[a,p]
 |[]=>rfl
 |[b]=>by show b::Yf w p [a]=_;rw[Yf];try split <;> rfl
 |b::c::l=>by have ih:=cP w p a (c::l);show b::Yf w p (c::(l++[a]))=_;rw[cons_append] at ih;rw[ih];try split <;> rfl
theorem BL(l:List Wd)(w:Int):Kr l w=if w<1∨200<w then 2 else if l.all ik=true then 0 else 1:=rfl
end Go.Ba
namespace Go.Proofs.YtjolancjacdeaaaGreatDoor.Rr
open Go.GL Go.RowKit Go.Ba
attribute [local irreducible] ea Ga Ja aa Go.GL.Pure Bc Tc oc LQ Pa Td Lf qf rj oo Ww xm
variable{B0:Nat}{w0:World}
theorem qmM(s:List UInt8)(hs:s.length<=100000000):aa (KC B0 w0) 182 [str s] [] (gb (bool (!ik s))):=by
 have hW:ik s=(decide (s≠[]) && s.all λc=>decide (33<=c.toNat) && decide (c.toNat<=126)):=rfl;refine cJ Tryz.func182 (n:=22) ?_;refine ia ?_;refine sa (λh=>?_) λh=>?_;have h0:s=[]:=zt h;refine Oe ?_;exact Na rfl (va rfl) (by rw[h0];rfl);have h0:s≠[]:=zf h;rw[Eg h0,Bool.true_and] at hW;refine ja ?_
 refine oL (λk ls H=>∃ i:Nat,i<=s.length/\k=s.length-i/\(s.take i).all (λc=>decide (33<=c.toNat) && decide (c.toNat<=126))=true/\ls=[(0,str s),(7,int .i64 s.length),(8,int .i64 i)]/\H=[])
  ⟨_,_,_,⟨0,zero_le _,rfl,by simp,rfl,rfl⟩,Qa,kb _⟩ ?_
 rintro k ls H ⟨i,hi,rfl,bc,rfl,rfl⟩ j1 Pb;refine Nd ?_;refine sa (λhc=>?_) λhc=>?_;have wa:i<s.length:=by have:=zt hc;omega
 have bad:(decide (33<=s[i].toNat) && decide (s[i].toNat<=126))=false->ik s=false:=λh=>by rw[hW];refine Bool.eq_false_iff.2 λh1=>?_;have:=List.all_eq_true.1 h1 s[i] (getElem_mem wa);rw[h] at this;cases this
 refine ia ?_;refine ca (pI (c:=s[i]) rfl rfl zo (xL wa))<|oa ?_;refine oB 15 rfl (λh1=>?_) λh1=>?_
 have hb:=bad (by
  have:=zt h1;rw[Bool.and_eq_false_iff];exact .inl (decide_eq_false zo))
 refine oa ?_;refine oC rfl (λ_=>?_) (λh=>by cases h);refine Hj ?_;exact Na Pb (va rfl) (by rw[hb];rfl);have g1:=zf h1;refine Dg ?_;refine ca (pI (c:=s[i]) rfl rfl zo (xL wa))<|za ?_;refine sa (λh=>?_) λh=>?_
 have hb:=bad (by
  have:=zt h;rw[Bool.and_eq_false_iff];exact .inr (decide_eq_false zo))
 refine Hj ?_;exact Na Pb (va rfl) (by rw[hb];rfl);have g2:=zf h;refine ia ?_;exact⟨_,_,_,by omega,⟨i+1,by omega,rfl,by
  rw[take_succ_eq_append_getElem wa,all_append,bc,Bool.true_and,List.all_cons,List.all_nil,Bool.and_true,Le];exact⟨Eg zo,Eg zo⟩,rfl,rfl⟩,Qa,kb _,Pb⟩
 have ae:i=s.length:=by have:=zf hc;omega
 subst ae;rw[take_length] at bc;rw[bc] at hW;refine ia ?_;exact Na Pb (va rfl) (by rw[hW];rfl)
theorem qnL(l:List Wd)(w:Int)(hl:l.length<=100000000)(hs:∀ s∈l,s.length<=100000000):aa (KC B0 w0) 112 [.list (l.map str),int .i64 w] [] (gb (int .i64 (Kr l w))):=by
 have hE:=BL l w;have Kn:(l.map str).length=l.length:=Ua _;refine cJ Tryz.func112 (n:=22) ?_;refine ia ?_;refine oB 9 rfl (λh1=>?_) λh1=>?_;rw[zp (.inl (zt h1))] at hE;refine oa ?_;refine oC rfl (λ_=>?_) (λh=>by cases h);refine Oe ?_;exact Na rfl (va rfl) (by rw[hE];rfl);have g1:=zf h1;refine za ?_;refine sa (λh=>?_) λh=>?_;rw[zp (.inr (zt h))] at hE;refine Oe ?_;exact Na rfl (va rfl) (by rw[hE];rfl);have g2:=zf h;rw[zn (λh=>h.elim g1 g2)] at hE;refine ia ?_
 refine oL (λk ls H=>∃ i:Nat,i<=l.length/\k=l.length-i/\(l.take i).all ik=true/\ls=[(13,.list (l.map str)),(14,int .i64 l.length),(15,int .i64 i)]/\H=[])
  ⟨_,_,_,⟨0,zero_le _,rfl,by simp,rfl,rfl⟩,Qa,kb _⟩ ?_
 rintro k ls H ⟨i,hi,rfl,bc,rfl,rfl⟩ j1 Pb;refine Nd ?_;refine sa (λhc=>?_) λhc=>?_;have wa:i<l.length:=by have:=zt hc;omega
 refine Af ?_;refine gy ?_;refine ja ?_;refine oS (sF [_] rfl (qmM l[i] (hs _ (getElem_mem wa))) ?_);refine ig ?_;refine sa (λh=>?_) λh=>?_
 have hb:l.all ik=false:=Bool.eq_false_iff.2 λh1=>by have:=List.all_eq_true.1 h1 l[i] (getElem_mem wa);rw[this] at h;cases h
 rw[zn (by rw[hb];decide)] at hE;refine Hj ?_;exact Na Pb (va rfl) (by rw[hE];rfl);have hb:ik l[i]=true:=qt h;refine ia ?_;exact⟨_,_,_,by omega,⟨i+1,by omega,rfl,by
  rw[take_succ_eq_append_getElem wa,all_append,bc];simp[hb],rfl,rfl⟩,Qa,kb _,Pb⟩
 have ae:i=l.length:=by have:=zf hc;omega
 subst ae;rw[take_length] at bc;rw[zp bc] at hE;refine ia ?_;exact Na Pb (va rfl) (by rw[hE];rfl)
theorem qnz(l:List Wd)(w:Int):aa (KC B0 w0) 113 [.list (l.map str),int .i64 w] [] (λr H=>∃ b c:Nat,r=.ret (.atom (.func (.func 183) #[] #[.pointer (some ⟨b,0,none⟩),.pointer (some ⟨c,0,none⟩)]))/\H=[(b,.cells 41 [.list (l.map str)]),(c,.cells 3 [int .i64 w])]):=by refine cJ Tryz.func113 (n:=6) ?_;refine Pc ?_;refine oS (sB (cs:=[.list (l.map str)]) rfl λb=>oS (sB (cs:=[int .i64 w]) rfl λc=>?_));refine ja ?_;exact rR rfl (va rfl) (Ab uc Ma) ⟨b,c,rfl,rfl⟩
def uF(w:Nat)(l:List Wd)(k:Nat):List LV:=[str (((Tg w l)[k]?).getD [])]
theorem ZW{w:Nat}{l rest:List Wd}{p:Wd}{k:Nat}(h:(Tg w l).drop k=p::rest):uF w l k=[str p]/\k<(Tg w l).length/\(Tg w l).drop (k+1)=rest:=by
 have h1:(Tg w l)[k]? = some p:=by have:=congrArg (λq=>q[0]?) h;simpa using this
 refine⟨by unfold uF;rw[h1];rfl,(List.getElem?_eq_some_iff.1 h1).1,?_⟩;rw[<-drop_drop,h];rfl
theorem qpn(b c w:Nat)(l:List Wd)(hw:1<=w/\w<=200)(hl:l.length<=100000000)(hs:∀ s∈l,s.length<=100000000):Ww (KC B0 w0) 183 [ptr b 0,ptr c 0] [(b,.cells 41 [.list (l.map str)]),(c,.cells 3 [int .i64 w])] (Tg w l).length (uF w l):=by
 unfold Ww;intro y J hY H0 h0;have Kn:(l.map str).length=l.length:=Ua _;refine cJ Tryz.func183 (n:=30) ?_;refine Ga.perm (H':=(b,.cells 41 [.list (l.map str)])::(c,.cells 3 [int .i64 w])::H0) (dd (l₁:=H0) (l₂:=[_,_])) ?_;refine ja ?_;refine oL (λk ls H=>∃ (i q:Nat) (Hq:Heap),i<=l.length/\k=l.length-i/\q<=(Tg w l).length/\(Tg w l).drop q=Tg w (l.drop i)/\J q Hq/\ls=[(0,.atom (.func (.yield y) #[] #[])),(1,ptr b 0),(2,ptr c 0),(6,.list (l.map str)),(7,int .i64 l.length),(8,int .i64 i)]/\H=(b,.cells 41 [.list (l.map str)])::(c,.cells 3 [int .i64 w])::Hq)
  ⟨_,_,_,⟨0,0,H0,zero_le _,rfl,zero_le _,rfl,h0,rfl,rfl⟩,Qa,kb _⟩ ?_
 rintro k ls H ⟨i,q,Hq,hi,rfl,Zq,Ad,hJ,rfl,rfl⟩ j1 Pb;refine Nd ?_;refine sa (λhc=>?_) λhc=>?_;have wa:i<l.length:=by have:=zt hc;omega
 have Mk:=hs _ (getElem_mem wa);rw[List.drop_eq_getElem_cons wa,qni] at Ad;refine Af ?_;refine gy ?_;refine za ?_;refine oL (λk ls H=>∃ (s:Wd) (q:Nat) (Hq:Heap),s.length<=100000000/\k=s.length/\q<=(Tg w l).length/\(Tg w l).drop q=SE w s++Tg w (l.drop (i+1))/\J q Hq/\ls=[(0,.atom (.func (.yield y) #[] #[])),(1,ptr b 0),(2,ptr c 0),(5,str s),(6,.list (l.map str)),(7,int .i64 l.length),(8,int .i64 i)]/\H=(b,.cells 41 [.list (l.map str)])::(c,.cells 3 [int .i64 w])::Hq)
  ⟨_,_,_,⟨l[i],q,Hq,Mk,rfl,Zq,Ad,hJ,rfl,rfl⟩,Qa,kb _⟩ ?_
 clear hJ Ad Zq;rintro k ls H ⟨s,q,Hq,Mk,rfl,Zq,Ad,hJ,rfl,rfl⟩ j2 Ub;refine ja ?_;refine sa (λhc=>?_) λhc=>?_;have US:w<s.length:=by have:=zt hc;omega
 rw[qp8 hw.1 US,cons_append] at Ad;obtain⟨p1,p2,p3⟩:=ZW Ad;have aB:=hY q Hq p2 hJ;rw[p1] at aB;refine oa ?_;refine Ga.Dk ?_;refine za ?_;refine rj.pure (Pure.Ze (m:=s.take w) (i:=0) (j:=w) rfl rfl ⟨_,rfl⟩ zo zo zo (by rw[Int.toNat_natCast];rfl)) rfl ?_;refine rj.yield (K:=λH'=>∃ H1,H'=H1++[(b,.cells 41 [.list (l.map str)]),(c,.cells 3 [int .i64 w])]/\J (q+1) H1) (H:=(b,.cells 41 [.list (l.map str)])::(c,.cells 3 [int .i64 w])::Hq) (args:=[_]) (Wb:=[str (s.take w)]) rfl rfl (xm.frame (H:=Hq) (F:=[(b,.cells 41 [.list (l.map str)]),(c,.cells 3 [int .i64 w])]) (dd (l₁:=[_,_]) (l₂:=Hq)) (xm.mono aB λH1 h1=>⟨H1,rfl,h1⟩)) rfl ?_;rintro H' ⟨H1,rfl,jE⟩;refine HG ?_;refine oC rfl (λji=>by cases ji) λji=>?_;refine ja ?_;refine ca (Pure.Ze (m:=s.drop w) (i:=w) rfl ⟨_,rfl⟩ rfl zo zo zo (by rw[Int.toNat_natCast,Int.toNat_natCast,take_length]))<|oa ?_;exact⟨_,_,_,by rw[length_drop];omega,⟨s.drop w,q+1,H1,by rw[length_drop];omega,rfl,by omega,p3,jE,rfl,rfl⟩,Qa,kb _,Ub⟩;have US:s.length<=w:=by have:=zf hc;omega
 rw[qnN US,cons_append,nil_append] at Ad;obtain⟨p1,p2,p3⟩:=ZW Ad;have aB:=hY q Hq p2 hJ;rw[p1] at aB;refine oa ?_;refine Ga.Dk ?_;refine za ?_;refine rj.yield (K:=λH'=>∃ H1,H'=H1++[(b,.cells 41 [.list (l.map str)]),(c,.cells 3 [int .i64 w])]/\J (q+1) H1) (H:=(b,.cells 41 [.list (l.map str)])::(c,.cells 3 [int .i64 w])::Hq) (args:=[_]) (Wb:=[str s]) rfl rfl (xm.frame (H:=Hq) (F:=[(b,.cells 41 [.list (l.map str)]),(c,.cells 3 [int .i64 w])]) (dd (l₁:=[_,_]) (l₂:=Hq)) (xm.mono aB λH1 h1=>⟨H1,rfl,h1⟩)) rfl ?_;rintro H' ⟨H1,rfl,jE⟩;refine HG ?_;refine oC rfl (λji=>by cases ji) λji=>?_;refine ia ?_;exact⟨_,_,_,by omega,⟨i+1,q+1,H1,by omega,rfl,by omega,p3,jE,rfl,rfl⟩,Qa,kb _,Ub.trans Pb⟩;have ae:i=l.length:=by have:=zf hc;omega
 subst ae;rw[drop_length] at Ad;have hq:(Tg w l).length<=q:=by have:=congrArg List.length Ad;rw[length_drop] at this;have h0:(Tg w ([]:List Wd)).length=0:=rfl;omega
 obtain rfl:q=(Tg w l).length:=by omega
 refine oa ?_;exact rO Pb rN ⟨[],by rw[Qb];exact dd (l₁:=[_,_]) (l₂:=Hq)⟩ ⟨⟨_,rfl⟩,Hq,rfl,hJ⟩
instance:Ve ui 78:=.of zk
theorem j8{s:List UInt8}(h:2<=s.length):∃ c,s.getLast? = some c/\s[s.length-1]? = some c:=by
 cases s with
 |nil=>simp at h
 |cons a r=>exact⟨(a::r).getLast (by simp),List.getLast?_eq_some_getLast (by simp),by rw[<-List.getLast?_eq_getElem?];exact List.getLast?_eq_some_getLast (by simp)⟩
theorem j'(s:List UInt8):(s.take (s.length-1)).drop 1=(s.drop 1).dropLast:=by rw[List.dropLast_eq_take,length_drop,<-List.drop_take]
theorem N5(s:List UInt8):nk s=if 32∈s then (if (s.dropWhile λd=>decide (d≠32)).drop 1=[]∨32∈(s.dropWhile λd=>decide (d≠32)).drop 1 then none else match Bg 200 (s.takeWhile λd=>decide (d≠32)) with
  |some n=>some (n,(s.dropWhile λd=>decide (d≠32)).drop 1)
  |none=>none) else none:=by
 unfold nk;by_cases h:(32:UInt8)∈s;rw[zp h];obtain⟨a,b,rfl,ha⟩:=lI h;have h1:∀ x∈a,decide (x≠(32:UInt8))=true:=λx hx=>by simp only[sf];rintro rfl;exact ha hx
 rw[List.dropWhile_append_of_pos h1,dropWhile_cons_of_neg (by simp)];rfl;rw[zn h];have h1:∀ x∈s,decide (x≠(32:UInt8))=true:=λx hx=>by simp only[sf];rintro rfl;exact h hx
 have:=List.dropWhile_append_of_pos (l₂:=[]) h1;rw[Qb] at this;rw[this];rfl
def GU(o:Option (Nat×List UInt8))(lv:LV):Prop:=match o with
 |some (n,r)=>lv=.tuple [int .i64 n,str r,int .i64 0]
 |none=>∃ a b,lv=.tuple [int .i64 a,str b,int .i64 3]
def dF(s:List UInt8)(lv:LV):Prop:=match uv s with
 |.ok l=>lv=.tuple [.list (l.map str),int .i64 0]
 |.error e=>∃ x,lv=.tuple [.list x,int .i64 e]
theorem qpC(hG:GW B0 w0)(s:List UInt8)(hs:s.length<=100000000):aa (KC B0 w0) 108 [str s] [] (Ko (dF s)):=by
 refine cJ Tryz.func108 (n:=41) ?_;refine ja ?_;refine oB 10 rfl (λh1=>?_) λh1=>?_;have hl:s.length<2:=by have:=zt h1;omega
 refine oa ?_;refine oC rfl (λ_=>?_) (λh=>by cases h);refine Oe ?_;exact tj rfl (rC (rT (v:=Ea) rfl vN) (va rfl)) (by
  unfold dF uv;rw[zp (.inl hl)];exact⟨_,rfl⟩)
 have hl:¬ s.length<2:=by have:=zf h1;omega
 obtain⟨c,Ez,Th⟩:=j8 (s:=s) zo;refine za ?_;refine ca (pI (c:=c) rfl rfl zo (by rw[show((s.length:Int)-1).toNat=s.length-1 by omega];exact Th)) ?_;refine za ?_;refine sa (λh=>?_) λh=>?_;have eb:c≠124:=jV (Zw h) ra;refine Oe ?_
 exact tj rfl (rC (rT (v:=Ea) rfl vN) (va rfl)) (by
  unfold dF uv;rw[zp (.inr (by rw[Ez];intro he;injection he with he;exact eb he))];exact⟨_,rfl⟩)
 have he:c=124:=wV (qt h);subst he;have Je:=j' s;generalize hx:(s.drop 1).dropLast=x at Je;have Sh:uv s=if 32<(Yc 124 x).length then .error 6 else .ok ((Yc 124 x).map Vr):=by unfold uv;rw[zn λh=>h.elim hl λh=>h Ez,hx]
 have Tl:x.length<=s.length:=by rw[<-Je,length_drop,length_take];omega
 have bu:=bI 124 x;have eb:Yc 124 x≠[]:=by obtain⟨p,ps,h⟩:=LA 124 x;rw[h];simp
 refine ja ?_;refine ca (Pure.Ze (m:=x) rfl ⟨_,rfl⟩ ⟨_,rfl⟩ zo zo zo (by rw[show((s.length:Int)-1).toNat=s.length-1 by omega];exact Je)) ?_;refine oS (S.Ef [_,_] rfl (xF hG x 124 zo) (λv H' hh=>?_) (by rintro ch H' ⟨v,h,_⟩;cases h));obtain⟨v,hv,hm⟩:=hh;cases hv;obtain⟨b,cap,spare,rfl,rfl,hc,Kc⟩:=hm.addr (by simpa using eb);simp only[Ua,ox] at hc Kc ⊢;generalize ql:Yc 124 x=ps at *;refine fg ?_;refine Mm ?_;refine za ?_;refine sa (λh=>?_) λh=>?_;have uE:32<ps.length:=by have:=zt h;omega
 refine Oe ?_;exact tj rfl (rC (rT (v:=Ea) rfl vN) (va rfl)) (by
  unfold dF;rw[Sh,zp uE];exact⟨_,rfl⟩)
 have uE:¬ 32<ps.length:=by have:=zf h;omega
 refine ia ?_;refine Mm ?_;refine oa ?_;refine oL (λk ls H=>∃ i:Nat,i<=ps.length/\k=ps.length-i/\ls=[(4,.atom (.slice (some ⟨b,0,none⟩) ps.length cap)),(27,.atom (.slice (some ⟨b,0,none⟩) ps.length cap)),(28,int .i64 ps.length),(29,int .i64 i)]/\H=[(b,.cells 9 (((ps.take i).map Vr).map str++((ps.drop i).map str++spare)))])
  ⟨_,_,_,⟨0,zero_le _,rfl,rfl,rfl⟩,Qa,by simpa using kb _⟩ ?_
 rintro k ls H ⟨i,hi,rfl,rfl,rfl⟩ j1 Pb;have Cm:(((ps.take i).map Vr).map str).length=i:=by simp only[Ua,length_take];omega
 refine Nd ?_;refine sa (λhc=>?_) λhc=>?_;have wa:i<ps.length:=by have:=zt hc;omega
 have Ul:=(uI (c:=124) (s:=x) (p:=ps[i]) (by rw[ql];exact getElem_mem wa)).2;have aab:ps[i].length<=x.length+1:=by
  have h1:=SC 124 x;rw[ql] at h1;have:∀ (l:List Wd) (p:Wd),p∈l->p.length<=(l.map λw=>w.length+1).sum:=by
   intro l;induction l with
   |nil=>intro p hp;cases hp
   |cons a l ih=>intro p hp;rcases Mc.1 hp with rfl|hp;simp only[Tb,sum_cons];omega;have:=ih p hp;simp only[Tb,sum_cons];omega
  have:=this ps ps[i] (getElem_mem wa);rw[h1] at this;exact this
 refine ia ?_;refine ca (Pure.vb (o:=i) rfl rfl zo zo zo) ?_;refine ca (pL (c:=str ps[i]) rfl yb (by
  rw[List.getElem?_append_right zo,Cm,Nat.sub_self,List.drop_eq_getElem_cons wa];rfl)) ?_
 refine fg ?_;refine oS (sF [_,_] rfl (IP ps[i] zo)<|ca (Pure.vb (o:=i) rfl rfl zo zo zo) ?_);refine oS (sS (Ya:=((ps.take (i+1)).map Vr).map str++((ps.drop (i+1)).map str++spare)) rfl pH rfl rfl (Nat.ble_eq_true_of_le (show i+1<=_ by simp only[ua,Ua,length_take,length_drop];omega)) rfl (by
  rw[xA _ _ _ (by show i+1<=_;simp only[ua,Ua,length_take,length_drop];omega),List.take_left' Cm,List.drop_append,List.drop_eq_nil_of_le (by show _<=i+1;omega),nil_append,Cm,take_succ_eq_append_getElem wa,Od,Od,Xc,Xc,List.drop_eq_getElem_cons wa];show _=_;rw[show i+[str (Vr ps[i])].length-i=1 by simp];rfl) ?_)
 refine Mh ?_;exact⟨_,_,_,by omega,⟨i+1,by omega,rfl,rfl,rfl⟩,Qa,kb _,Pb⟩;have ae:i=ps.length:=by have:=zf hc;omega
 subst ae;rw[take_length,drop_length,map_nil,nil_append];have Dm:jb 9 1 (.slice (some ⟨b,0,none⟩) ps.length cap) ((ps.map Vr).map str) [(b,.cells 9 ((ps.map Vr).map str++spare))]:=
  jb.pd (Ro _) (ox _) (by simp) zo zo
 refine Ga.settle (F:=[]) 4 Dm (by rw[Qb]) rfl λv' H' ha=>?_;refine Ga.sub (d:=4) (v:=v') rfl ha.sub ?_;refine ia ?_
 exact tj Pb (rC (rT (v:=.list _) rfl fc) (va rfl)) (by
  unfold dF;rw[Sh,zn uE];rfl)
theorem ql4(hG:GW B0 w0)(s:List UInt8)(hs:s.length<=100000000):aa (KC B0 w0) 110 [str s] [] (Ko (GU (nk s))):=by
 have hP:=N5 s;have hC:=uP (B0:=B0) (w0:=w0) hG s 32 zo;have ir:(s.takeWhile λd=>decide (d≠32)).length<=s.length:=(List.takeWhile_sublist _).length_le;generalize (s.takeWhile λd=>decide (d≠32))=num at *;generalize (s.dropWhile λd=>decide (d≠32)).drop 1=runs at *;have hA:=MX (B0:=B0) (w0:=w0) hG num zo;refine cJ Tryz.func110 (n:=51) ?_;refine fg ?_;refine oS (sF [_,_] rfl hC ?_);refine ia ?_;refine oS (S.ff [_] rfl hA ?_);rintro lv (⟨v,hv,rfl⟩|⟨Iu,v,t,p,rfl⟩);have Qd:Bg 200 num=if Go.Lib.itoa v=num/\1<=v/\v<=200 then some v.toNat else none:=by unfold Bg;rw[hv];rfl
 have OI : -9223372036854775808<=v/\v<=9223372036854775807:=Go.Lib.atoiAll_bounds hv;refine ja ?_;refine oB 23 rfl (λh1=>?_) λh1=>?_;rw[zn (zf (Zw h1))] at hP;refine oa ?_;refine oC rfl (λ_=>?_) (λh=>by cases h);refine Oe ?_;exact tj rfl (rC (ib rfl) (rC (ib rfl) (va rfl))) (by rw[hP];exact⟨_,_,rfl⟩);rw[zp (zt (qt h1))] at hP;refine za ?_;refine oS (sF [_] rfl (Iv hG v OI.1 OI.2) ?_);refine za ?_;refine oB 33 rfl (λh2=>?_) λh2=>?_;have lq:¬ Go.Lib.itoa v=num:=zf (Zw h2);rw[zn (λh=>lq h.1)] at Qd;rw[Qd] at hP;refine oa ?_;refine oC rfl (λ_=>?_) (λh=>by cases h);refine Oe ?_
 exact tj rfl (rC (ib rfl) (rC (ib rfl) (va rfl))) (by
  have hn:nk s=none:=by rw[hP];split <;> rfl
  rw[hn];exact⟨_,_,rfl⟩)
 have lq:Go.Lib.itoa v=num:=zt (qt h2);refine oa ?_;refine oB 37 rfl (λh3=>?_) λh3=>?_;have Pk:v<1:=zt h3;rw[zn (λh=>by omega)] at Qd;rw[Qd] at hP;refine oa ?_;refine oC rfl (λ_=>?_) (λh=>by cases h);refine Oe ?_
 exact tj rfl (rC (ib rfl) (rC (ib rfl) (va rfl))) (by
  have hn:nk s=none:=by rw[hP];split <;> rfl
  rw[hn];exact⟨_,_,rfl⟩)
 have Pk:¬ v<1:=zf h3;refine za ?_;refine oB 41 rfl (λh4=>?_) λh4=>?_;have Gw:200<v:=zt h4;rw[zn (λh=>by omega)] at Qd;rw[Qd] at hP;refine oa ?_;refine oC rfl (λ_=>?_) (λh=>by cases h);refine Oe ?_
 exact tj rfl (rC (ib rfl) (rC (ib rfl) (va rfl))) (by
  have hn:nk s=none:=by rw[hP];split <;> rfl
  rw[hn];exact⟨_,_,rfl⟩)
 have Gw:¬ 200<v:=zf h4;rw[zp ⟨lq,by omega,by omega⟩] at Qd;rw[Qd] at hP;refine oa ?_;refine oB 45 rfl (λh5=>?_) λh5=>?_;rw[zp (.inl (zt h5))] at hP;refine oa ?_;refine oC rfl (λ_=>?_) (λh=>by cases h);refine Oe ?_;exact tj rfl (rC (ib rfl) (rC (ib rfl) (va rfl))) (by rw[hP];exact⟨_,_,rfl⟩);have vT:=zf h5;refine Dg ?_;refine oS (sF [_,_] rfl (ZQ (B0:=B0) (w0:=w0) runs 32) ?_);refine oa ?_;refine sa (λh=>?_) λh=>?_;rw[zp (.inr (zt h))] at hP;refine Oe ?_;exact tj rfl (rC (ib rfl) (rC (ib rfl) (va rfl))) (by rw[hP];exact⟨_,_,rfl⟩);rw[zn (λh'=>h'.elim vT (zf h))] at hP;refine ia ?_
 exact tj rfl (rC (ib rfl) (rC (ib rfl) (va rfl))) (by
  rw[hP];show _=LV.tuple [int .i64 ((v.toNat:Nat):Int),str runs,int .i64 0];rw[Int.toNat_of_nonneg zo];rfl)
 have Qd:Bg 200 num=none:=by unfold Bg;split;rename_i v hv;exact absurd hv (Iu v);rfl
 have K2:nk s=none:=by rw[hP,Qd];split;split <;> rfl;rfl
 refine ja ?_;refine oB 23 rfl (λh1=>?_) λh1=>?_;refine oa ?_;refine oC rfl (λ_=>?_) (λh=>by cases h);refine Oe ?_;exact tj rfl (rC (ib rfl) (rC (ib rfl) (va rfl))) (by rw[K2];exact⟨_,_,rfl⟩);refine Oi ?_;refine oC rfl (λ_=>?_) (λh=>by cases h);refine Oe ?_;exact tj rfl (rC (ib rfl) (rC (ib rfl) (va rfl))) (by rw[K2];exact⟨_,_,rfl⟩)
inductive We:Xb->List LV->Heap->Prop
 |blank:We ⟨0,[],[],[],0⟩ [int .i64 0,Ea,Ea,str [],int .i64 0] []
 |head (ws:List Wd):We ⟨1,ws,[],[],0⟩ [int .i64 1,.list (ws.map str),Ea,str [],int .i64 0] []
 |para (b cap:Nat) (ws:List Wd):We ⟨2,ws,[],[],0⟩ [int .i64 2,.app b cap 1 (ws.map str),Ea,str [],int .i64 0] [(b,.row ((ws.map str).length * 1))]
 |row (l:List Wd):We ⟨3,[],[l],[],0⟩ [int .i64 3,Ea,.list (l.map str),str [],int .i64 0] []
 |ZZ (n:Nat) (r:Wd):We ⟨4,[],[],r,n⟩ [int .i64 4,Ea,Ea,str r,int .i64 n] []
def v7(s:Wd)(r:Lc)(H:Heap):Prop:=∃ cs e,r=.ret (.tuple [.agg cs,int .i64 e])/\cs.length=5/\cs.all bj=true/\(match nj s with
 |.ok b=>e=0/\We b cs H
 |.error x=>e=(x:Int)/\0<x)
theorem AX{s:Wd}{x:Nat}(h:uv s=.error x):0<x:=by unfold uv at h;split at h;cases h;decide;split at h;cases h;decide;cases h
theorem UN{c:UInt8}:vj c=true ↔ ¬ ((c.toNat:Int)<32)/\¬ ((126:Int)<c.toNat):=by unfold vj;rw[Le,sf,sf];omega
theorem qk6(hG:GW B0 w0)(s:List UInt8)(hs:s.length<=100000000):aa (KC B0 w0) 52 [str s] [] (v7 s):=by
 refine cJ Tryz.func52 (n:=73) ?_;refine Pc ?_;refine oS (yc λb2=>?_);refine ja ?_;refine oL (λk ls H=>∃ i:Nat,i<=s.length/\k=s.length-i/\(s.take i).all vj=true/\ls=[(0,str s),(2,ptr b2 0),(12,int .i64 s.length),(13,int .i64 i)]/\H=[(b2,.cells 120 [int .i64 0,Ea,Ea,str [],int .i64 0])])
  ⟨_,_,_,⟨0,zero_le _,rfl,by simp,rfl,rfl⟩,Qa,kb _⟩ ?_
 rintro k ls H ⟨i,hi,rfl,bc,rfl,rfl⟩ j1 Pb;refine Nd ?_;refine sa (λhc=>?_) λhc=>?_;have wa:i<s.length:=by have:=zt hc;omega
 have bad:vj s[i]=false->nj s=.error 3:=λh=>by
  have:s.all vj=false:=Bool.eq_false_iff.2 λh1=>by have:=List.all_eq_true.1 h1 s[i] (getElem_mem wa);rw[h] at this;cases this
  unfold nj;rw[zp this]
 refine ia ?_;refine ca (pI (c:=s[i]) rfl rfl zo (xL wa))<|oa ?_;refine oB 20 rfl (λh1=>?_) λh1=>?_;have hb:nj s=.error 3:=bad (Bool.eq_false_iff.2 λh=>(UN.1 h).1 (zt h1));refine oa ?_;refine oC rfl (λ_=>?_) (λh=>by cases h);refine ja ?_;exact rR Pb (rC (rA rfl yb rfl fc) (va rfl)) Fc ⟨_,_,rfl,rfl,rfl,by rw[hb];exact⟨rfl,by decide⟩⟩;refine Dg ?_;refine ca (pI (c:=s[i]) rfl rfl zo (xL wa))<|za ?_;refine sa (λh=>?_) λh=>?_;have hb:nj s=.error 3:=bad (Bool.eq_false_iff.2 λh'=>(UN.1 h').2 (zt h));refine ja ?_;exact rR Pb (rC (rA rfl yb rfl fc) (va rfl)) Fc ⟨_,_,rfl,rfl,rfl,by rw[hb];exact⟨rfl,by decide⟩⟩;have He:vj s[i]=true:=UN.2 ⟨zf h1,zf h⟩;refine ia ?_;exact⟨_,_,_,by omega,⟨i+1,by omega,rfl,by rw[take_succ_eq_append_getElem wa,all_append,bc];simp[He],rfl,rfl⟩,Qa,kb _,Pb⟩;have ae:i=s.length:=by have:=zf hc;omega
 subst ae;rw[take_length] at bc;refine ia ?_;refine oS (S.Ef [_] rfl (rQ hG s hs) (λv H' hh=>?_) (by rintro ch H' ⟨v,h,_⟩;cases h));obtain⟨v,hv,hm⟩:=hh;cases hv;have QF:(ko s).length<=s.length+1:=Uf (s6 _) (bI 32 s);by_cases hw:ko s=[];have hb:nj s=.ok ⟨0,[],[],[],0⟩:=by unfold nj;rw[zn (by rw[bc];decide),zp hw]
 rw[hw] at hm;refine ea.db (H':=[(b2,.cells 120 [int .i64 0,Ea,Ea,str [],int .i64 0])]) ⟨H',dd⟩ ?_;refine ia ?_;refine ca (Pure.qn rfl hm)<|oa ?_;refine oC rfl (λ_=>?_) (λh=>by cases h);refine ja ?_;exact rR Pb (rC (rA rfl yb rfl fc) (va rfl)) Fc ⟨_,_,rfl,rfl,rfl,by rw[hb];exact⟨rfl,We.blank⟩⟩;have hwm:((ko s).map str).length=(ko s).length:=Ua _;have hwp:=List.length_pos_iff.2 hw;have hL:nj s=if s.head? = some 124 then (match uv s with
   |.ok l=>.ok ⟨3,[],[l],[],0⟩
   |.error e=>.error e)
  else if s.take 2=[35,32] then (if (ko s).length<2 then .error 3 else .ok ⟨1,(ko s).drop 1,[],[],0⟩)
  else if s.take 2=[33,32] then (match nk (s.drop 2) with
   |some (n,r)=>.ok ⟨4,[],[],r,n⟩
   |none=>.error 3)
  else .ok ⟨2,ko s,[],[],0⟩:=by
  conv=>lhs;unfold nj
  rw[zn (by rw[bc];decide),zn hw]
 obtain⟨c,r,Ku⟩:∃ c r,s=c::r:=by
  cases s with
  |nil=>exact absurd rfl hw
  |cons c r=>exact⟨c,r,rfl⟩
 have Qd:0<s.length:=by rw[Ku];simp
 have VD:s[(0:Int).toNat]? = some c:=by rw[Ku];rfl
 have P1:s.head? = some c:=by rw[Ku];rfl
 have hC:=qpC (B0:=B0) (w0:=w0) hG s hs;have hQ:=ql4 (B0:=B0) (w0:=w0) hG (s.drop 2) (by rw[length_drop];omega);have iE:=CY (B0:=B0) (w0:=w0) s 35 32;have hPb:=CY (B0:=B0) (w0:=w0) s 33 32;refine ea.Eo 29 hm (by simpa using hw) qb rfl λb cap=>?_;refine ja ?_;refine sa (λh=>?_) λh=>?_;have:=zt h;omega;refine Dc ?_;refine ca (pI (c:=c) rfl rfl zo VD)<|oa ?_;refine sa (λh=>?_) λh=>?_;have vE:c=124:=wV h;rw[zp (by rw[P1,vE])] at hL;refine Dc ?_;refine oS (S.ff [_] rfl hC ?_);intro lv jr;unfold dF at jr
 cases hc:uv s with
 |error x=>rw[hc] at jr hL;obtain⟨es,rfl⟩:=jr;refine ja ?_;exact rR Pb (rC (rA rfl yb rfl fc) (va rfl)) Fc ⟨_,_,rfl,rfl,rfl,by rw[hL];exact⟨rfl,AX hc⟩⟩
 |ok l=>rw[hc] at jr hL;obtain rfl:=jr;refine ja ?_;exact rR Pb (rC (rA rfl yb rfl fc) (va rfl)) Fc ⟨_,_,rfl,rfl,rfl,by rw[hL];exact⟨rfl,We.row l⟩⟩
 have vE:c≠124:=jV h ra;rw[zn (by rw[P1];intro h;injection h with h;exact vE h)] at hL;refine Dc ?_;refine oS (sF [_,_] rfl iE ?_);refine fj ?_;refine sa (λh=>?_) λh=>?_;rw[zp (zt h)] at hL;refine ja ?_;refine sa (λh=>?_) λh=>?_;rw[zp (by have:=zt h;omega)] at hL;refine ja ?_;exact rR Pb (rC (rA rfl yb rfl fc) (va rfl)) Fc ⟨_,_,rfl,rfl,rfl,by rw[hL];exact⟨rfl,by decide⟩⟩;have h2:¬ (ko s).length<2:=by have:=zf h;omega
 rw[zn h2] at hL;refine ja ?_;refine ca (Pure.rn (ms:=((ko s).drop 1).map str) rfl ⟨_,rfl⟩ rfl zo zo zo (Ro _) (by
  rw[Int.toNat_natCast,take_length,map_drop];rfl)) ?_
 refine Oi ?_;exact rR Pb (rC (rA rfl yb rfl fc) (va rfl)) Fc ⟨_,_,rfl,rfl,rfl,by rw[hL];exact⟨rfl,We.head _⟩⟩;rw[zn (zf h)] at hL;refine Dc ?_;refine oS (sF [_,_] rfl hPb ?_);refine fj ?_;refine sa (λh=>?_) λh=>?_;have ht:=zt h
 have yx:2<=s.length:=by have:=congrArg List.length ht;simp only[length_take,Oa,Eb] at this;omega
 rw[zp ht] at hL;refine Dc ?_;refine ca (Pure.Ze (m:=s.drop 2) rfl ⟨_,rfl⟩ rfl zo zo zo (by rw[Int.toNat_natCast,take_length];rfl))<|oS (S.ff [_] rfl hQ ?_);intro lv jr;unfold GU at jr;cases hc:nk (s.drop 2) with
 |none=>rw[hc] at jr hL;obtain⟨x,y,rfl⟩:=jr;refine ja ?_;exact rR Pb (rC (rA rfl yb rfl fc) (va rfl)) Fc ⟨_,_,rfl,rfl,rfl,by rw[hL];exact⟨rfl,by decide⟩⟩
 |some q=>obtain⟨n,rr⟩:=q;rw[hc] at jr hL;obtain rfl:=jr;refine ja ?_;exact rR Pb (rC (rA rfl yb rfl fc) (va rfl)) Fc ⟨_,_,rfl,rfl,rfl,by rw[hL];exact⟨rfl,We.ZZ n rr⟩⟩
 rw[zn (zf h)] at hL;refine ja ?_;exact rR Pb (rC (rA rfl yb rfl fc) (va rfl)) (fe Ma) ⟨_,_,rfl,rfl,rfl,by rw[hL];exact⟨rfl,We.para b cap _⟩⟩
end Go.Proofs.YtjolancjacdeaaaGreatDoor.Rr
