import Derived.Test.YtkihibnffkpnkaaGreatDoorBRowLR5
set_option linter.unusedVariables false
set_option linter.unusedSimpArgs false
set_option maxRecDepth 100000
set_option maxHeartbeats 4000000
open List (not_mem_nil cons_append eq_nil_of_length_eq_zero length_singleton length_drop take_succ_cons foldl_cons)
open Nat (add_assoc add_zero zero_add)
namespace Go.Stele
open Go.Lib
variable{a b i n:Nat}{c:UInt8}{w:Wd}
theorem qg9(all:List Wd):∀ (l:List (Wd×Nat)) (met:List Wd),(errT all met l).2=0∨(errT all met l).2=8∨(errT all met l).2=7∨(errT all met l).2=3
 |[],met=>.inl rfl
 |(w,ln)::r,met=>by
  rw[errT]
  cases hd:defW w with
  |some x=>
   simp only;split;exact .inr (.inl rfl)
   exact qg9 all r _
  |none=>
   simp only
   cases hr:refW w with
   |some x=>
    simp only;split;exact qg9 all r _
    exact .inr (.inr (.inl rfl))
   |none=>
    simp only;split;exact qg9 all r _;exact .inr (.inr (.inr rfl))
theorem qtW{src:Wd}{og:Int}(h:0<=og/\og<262144){e:Nat×Nat}(he:asmP src og=.error e):e.2=8∨e.2=7∨e.2=3∨e.2=6:=by
 unfold asmP at he;split at he;omega;split at he
 rename_i h1
 injection he with he;rw[<-he];rcases qg9 (defs (qbi src)) (qgo src) [] with h2|h2|h2|h2;exact absurd h2 h1;exact .inl h2;exact .inr (.inl h2);exact .inr (.inr (.inl h2));split at he;injection he with he;rw[<-he];exact .inr (.inr (.inr rfl));cases he
section
variable{vars:List Nm}{arrays:List (Nm×Int)}{fs:List FnD}{o:Org}
end
section
variable{W:List Wd}{ok:Nat->Bool}{w x:Wd}{r:List Wd}
end
theorem qtz{op:Wd}(h:qd7 a op b=some n):∃ c:UInt8,op=[c]/\isOp c/\binM c.toNat a b=some n:=by
 unfold qd7 at h;unfold isOp;split at h
 rename_i e;exact⟨43,e,by decide,h⟩
 split at h
 rename_i e;exact⟨45,e,by decide,h⟩
 split at h
 rename_i e;exact⟨42,e,by decide,h⟩
 split at h
 rename_i e;exact⟨94,e,by decide,h⟩
 split at h
 rename_i e;refine⟨60,e,by decide,?_⟩;rw[<-h];unfold binM;simp
 split at h
 rename_i e;exact⟨47,e,by decide,h⟩
 split at h
 rename_i e;exact⟨37,e,by decide,h⟩
 cases h
section
variable{W W':List Wd}{ok ok':Nat->Bool}{r q:List Wd}
theorem qnP(hc:c=43∨c=42∨c=94)(a x y:Nat):∃ u z,binM c.toNat a x=some u/\binM c.toNat x y=some z/\binM c.toNat u y=binM c.toNat a z:=by
 rcases hc with rfl|rfl|rfl;refine⟨_,_,rfl,rfl,?_⟩;unfold binM;simp[add_assoc];refine⟨_,_,rfl,rfl,?_⟩;unfold binM;simp[Nat.mul_assoc];refine⟨_,_,rfl,rfl,?_⟩;unfold binM;simp[Nat.xor_assoc]
end
open Go.Lib (decDigits)
theorem PW.digsX{C:PW}{s:MS}(hk:C.Ok s.mem)(h:C.At s i)(hw:C.W[i]? = some w)(hd:defW w=none)(hne:qaG C.known w≠[])(hg:∀ c∈qaG C.known w,qao c=true)(hv:valD 0 (qaG C.known w)<4294967296)(hroom:s.data.length<256) :
  (C.plc i<=C.plc (i+1)/\Stp (C.plc (i+1)-C.plc i) s { s with pc:=C.plc (i+1),data:=valD 0 (qaG C.known w)::s.data,digit:=true })/\qbb (C.pre (i+1))=true:=by
 obtain⟨h1,h2,h3⟩:=C.piece hk hw hd
 have hf:qbP (qaG C.known w)=true:=by
  cases hp:qaG C.known w with
  |nil=>exact absurd hp hne
  |cons c r=>exact hg c (by rw[hp];simp)
 have hl:qbb (C.pre (i+1))=true:=by
  rw[h1,qjQ hne];unfold qbb;rw[List.getLast?_eq_some_getLast hne];exact hg _ (List.getLast_mem hne)
 refine⟨?_,hl⟩;obtain⟨hpc,hdg⟩:=h
 have hplc:C.plc (i+1)=C.plc i+(if qbb (C.pre i) && qbP (qaG C.known w) then [32] else []:Wd).length+(qaG C.known w).length:=by
  unfold PW.plc;rw[h1,zLa,zLa];omega
 rw[hf,Bool.and_true] at h2 hplc;refine⟨by omega,?_⟩
 by_cases hsp:qbb (C.pre i)=true
 ·rw[zp hsp] at h2 hplc;obtain⟨m1,m2⟩:=h2.app;have m0:=m1 0 (by simp);simp only[add_zero,List.getElem_cons_zero] at m0;simp only[zLc,zLn] at hplc m2
  have hst:stepM s=.run { s with pc:=s.pc+1,digit:=false }:=by
   unfold stepM;rw[zp (by rw[hpc];omega),hpc,m0];unfold exeM;rw[zn zDd,zp zDd]
   try rfl
  have hd1:=qpB (s:={ s with pc:=s.pc+1,digit:=false }) hne hg rfl hroom (by simp only;rw[hpc];exact m2) (by simp only;rw[hpc];omega) hv;have:=(Stp.one hst).trans hd1;simp only at this;rw[show C.plc (i+1)-C.plc i=1+(qaG C.known w).length by omega,hplc,<-hpc];exact this
 rw[zn hsp] at h2 hplc;rw[List.nil_append] at h2
 have hdf:s.digit=false:=by
  cases hx:s.digit with
  |false=>rfl
  |true=>exact absurd (hdg hx) hsp
 have hd1:=qpB (s:=s) hne hg hdf hroom (by rw[hpc];exact h2) (by rw[hpc];simp only[zLn] at hplc;omega) hv;simp only[zLn,add_zero] at hplc;rw[show C.plc (i+1)-C.plc i=(qaG C.known w).length by omega,hplc,<-hpc];exact hd1
theorem PW.sign_plc{C:PW}{mem:Nat->Nat}(hk:C.Ok mem)(hw:C.W[i]? = some [c])(hd:defW [c]=none)(hr:refW [c]=none)(hc:qao c=false):C.plc (i+1)=C.plc i+1:=by
 obtain⟨h1,h2,h3⟩:=C.piece hk hw hd;have hp:qaG C.known [c]=[c]:=by unfold qaG;rw[hr]
 have hf:qbP [c]=false:=hc;rw[hp,hf,Bool.and_false,zn zDd,zLz] at h1;unfold PW.plc;rw[h1,zLa]
 try rfl
end Go.Stele
namespace Go.Stele.Wi
open Go.Lib
variable{a b i k n v:Nat}{c:UInt8}{d:List Nat}{r:List Wd}{w x:Wd}
structure PW where
 W:List Wd
 D:Nat->Bool
structure MS where
 mem:Nat->Nat
 pc:List Wd
 data:List Nat
 calls:List (List Wd)
 inp:List Nat
 out:Wd
 digit:Bool
variable{m s:MS}
inductive MR where
 |run (s:MS)
 |stop (e:Nat) (out:Wd)
def qby(x:Wd):List Wd->Option (List Wd)
 |[]=>none
 |w::r=>if defW w=some x then some r else qby x r
def lost(s:MS):MR:=.stop 99 s.out
def qdg(s:MS)(r:List Wd)(d:List Nat)(n:Nat)(f:Bool):MR:=if d.length<256 then .run { s with pc:=r,data:=n::d,digit:=f } else lost s
def qos(D:Nat->Bool)(s:MS)(r:List Wd):MR:=match s.data with
 |a::d=>if D a=true then qdg s r d (s.mem a) false else lost s
 |[]=>lost s
def qi7(D:Nat->Bool)(s:MS)(r:List Wd):MR:=match s.data with
 |a::x::d=>if D a=true then .run { s with pc:=r,data:=d,mem:=λi=>if i=a then x else s.mem i,digit:=false } else lost s
 |_=>lost s
def qmF(s:MS):MR:=match s.calls with
 |k::l=>.run { s with pc:=k,calls:=l,digit:=false }
 |[]=>lost s
def qmt(s:MS)(r:List Wd):MR:=match s.data with
 |x::d=>.run { s with pc:=r,data:=d,out:=s.out++[UInt8.ofNat x],digit:=false }
 |[]=>lost s
def binW(s:MS)(c:UInt8)(r:List Wd):MR:=match s.data with
 |b::a::d=>(match binM c.toNat a b with
  |some x=>qdg s r d x false
  |none=>.stop 12 s.out)
 |_=>lost s
def qeB(D:Nat->Bool)(s:MS)(c:UInt8)(r:List Wd):MR:=
 if c=64 then qos D s r
 else if c=33 then qi7 D s r
 else if c=59 then qmF s
 else if c=44 then qdg { s with inp:=s.inp.tail } r s.data (s.inp.headD 4294967295) false
 else if c=46 then qmt s r
 else if c=36 then .stop 0 s.out
 else if c=43∨c=45∨c=42∨c=47∨c=37∨c=94∨c=60 then binW s c r
 else lost s
def qnk(s:MS)(k r:List Wd):MR:=match s.data with
 |a::d=>.run { s with pc:=if a=0 then k else r,data:=d,digit:=false }
 |[]=>lost s
def qhQ(C:PW)(s:MS)(x:Wd)(r:List Wd):MR:=match qby x C.W,r with
 |some k,o::r=>if s.data.length<256 then (if o=[63] then qnk s k r else if o=[58] then (if s.calls.length<64 then .run { s with pc:=k,calls:=r::s.calls,digit:=false } else lost s) else lost s) else lost s
 |_,_=>lost s
def qhF(C:PW)(s:MS)(w:Wd)(r:List Wd):MR:=match defW w with
 |some _=>.run { s with pc:=r }
 |none=>match numW w with
  |some n=>qdg s r s.data n true
  |none=>match refW w with
   |some x=>qhQ C s x r
   |none=>match w with
    |[c]=>qeB C.D s c r
    |_=>lost s
def stepM(C:PW)(s:MS):MR:=match s.pc with
 |[]=>lost s
 |w::r=>qhF C s w r
def qjI(f:Bool)(w:Wd):Nat:=if (defW w).isSome=true then 0 else if (numW w).isSome=true then w.length+one f else if (refW w).isSome=true then 7+one f else 1
def qbZ(s:MS):Nat:=qjI s.digit (s.pc.headD [])
inductive Stp (C:PW):Nat->MS->MS->Prop
 |zero (s:MS):Stp C 0 s s
 |step {k:Nat} {s s' s2:MS}:stepM C s=.run s'->Stp C k s' s2->Stp C (qbZ s+k) s s2
section
variable{C:PW}
theorem Stp.one{s':MS}(h:stepM C s=.run s'):Stp C (qbZ s) s s':=.step h (.zero _)
theorem Stp.trans{s' s2:MS}(h:Stp C a s s')(k:Stp C b s' s2):Stp C (a+b) s s2:=by
 induction h with
 |zero s=>rw[zero_add];exact k
 |step h1 _ ih=>rw[add_assoc];exact .step h1 (ih k)
def Stx(C:PW)(m:Nat)(s s':MS):Prop:=∃ k,k<=m/\Stp C k s s'
theorem Stx.refl(s:MS):Stx C 0 s s:=⟨0,zNr _,.zero _⟩
theorem Stx.trans{a b:Nat}{s s' s2:MS}(h:Stx C a s s')(k:Stx C b s' s2):Stx C (a+b) s s2:=by
 obtain⟨i,h1,h2⟩:=h;obtain⟨j,k1,k2⟩:=k;exact⟨i+j,by omega,h2.trans k2⟩
theorem Stx.mono{s':MS}(h:Stx C a s s')(hab:a<=b):Stx C b s s':=by
 obtain⟨i,h1,h2⟩:=h;exact⟨i,by omega,h2⟩
def PW.plc(C:PW)(i:Nat):List Wd:=C.W.drop i
def PW.At(C:PW)(s:MS)(i:Nat):Prop:=∃ ds,s.pc=ds++C.plc i/\∀ w∈ds,(defW w).isSome=true
def PW.Ok(C:PW)(mem:Nat->Nat):Prop:=True
def PW.Code(C:PW)(i:Nat)(ws:List Wd):Prop:=∀ k (h:k<ws.length),C.W[i+k]? = some ws[k]
theorem PW.Code.app{a b:List Wd}(h:C.Code i (a++b)):C.Code i a/\C.Code (i+a.length) b:=by
 constructor;intro k hk;have:=h k (by rw[zLa];omega)
 rwa [List.getElem_append_left hk] at this
 intro k hk;have:=h (a.length+k) (by rw[zLa];omega);rw[List.getElem_append_right (by omega)] at this;rw[add_assoc];simpa using this
theorem PW.Code.cons{b:List Wd}(h:C.Code i (w::b)):C.W[i]? = some w/\C.Code (i+1) b:=by
 have h1:=PW.Code.app (a:=[w]) (b:=b) h;have h2:=h1.1 0 (by simp);exact⟨by simpa using h2,h1.2⟩
def PW.put(C:PW)(s:MS)(i:Nat)(d:List Nat):MS:={ s with pc:=C.plc i,data:=d,digit:=false }
theorem PW.put_at(C:PW)(s:MS)(i:Nat)(d:List Nat):C.At (C.put s i d) i:=⟨[],rfl,λw hw=>by cases hw⟩
theorem PW.at_mk(h:s.pc=C.plc i):C.At s i:=⟨[],h,λw hw=>by cases hw⟩
theorem qiN(hw:C.W[i]? = some w):C.plc i=w::C.plc (i+1):=by
 obtain⟨hi,rfl⟩:=List.getElem?_eq_some_iff.1 hw;exact List.drop_eq_getElem_cons hi
theorem qa5(hv:s.pc=w::r):stepM C s=qhF C s w r:=by
 unfold stepM;rw[hv]
theorem qiV(hv:s.pc=w::r)(h:defW w=some x):stepM C s=.run { s with pc:=r }:=by
 unfold stepM qhF;rw[hv];simp only;rw[h]
theorem qgU(hv:s.pc=w::r)(h:defW w=some x):qbZ s=0:=by
 unfold qbZ qjI;rw[hv];simp[h]
theorem qj9:∀ (ds:List Wd) (s:MS) (r:List Wd),s.pc=ds++r->(∀ w∈ds,(defW w).isSome=true)->Stp C 0 s { s with pc:=r }
 |[],s,r,h,_=>by
  have:s={ s with pc:=r }:=by rw[<-show s.pc=r from h]
  rw[<-this]
  exact .zero s
 |w::ds,s,r,h,hd=>by
  obtain⟨x,hx⟩:=Option.isSome_iff_exists.1 (hd w zMs);have h1:=Stp.step (qiV (C:=C) h hx) (qj9 ds { s with pc:=ds++r } r rfl λy hy=>hd y (zMo _ hy));rw[qgU h hx] at h1;exact h1
theorem PW.atDef(h:C.At s i)(hw:C.W[i]? = some w)(hd:defW w=some x):C.At s (i+1):=by
 obtain⟨ds,h1,h2⟩:=h;refine⟨ds++[w],by rw[h1,qiN hw,zAs];try rfl,λy hy=>?_⟩;rcases List.mem_append.1 hy with hy|hy;exact h2 y hy;rw[List.mem_singleton.1 hy,hd];try rfl
theorem PW.ahead(h:C.At s i)(hw:C.W[i]? = some w):Stp C 0 s { s with pc:=w::C.plc (i+1) }:=by
 obtain⟨ds,h1,h2⟩:=h;rw[qiN hw] at h1;exact qj9 ds s _ h1 h2
theorem PW.once{s':MS}{m:Nat}(h:C.At s i)(hw:C.W[i]? = some w)(hs:stepM C { s with pc:=w::C.plc (i+1) }=.run s')(hc:qjI s.digit w<=m):Stx C m s s':=by
 have h1:=(PW.ahead h hw).trans (.one hs);rw[zero_add] at h1;exact⟨_,hc,h1⟩
theorem qjq{w:Wd}(h:numW w=some n):w≠[]/\∀ c∈w,qao c=true:=by
 obtain⟨h1,h2⟩:=(qcP w n).1 h;rw[<-h2];exact⟨qcq n,qgf n⟩
theorem qic(h:qao c=false):numW [c]=none:=by
 cases hn:numW [c] with
 |none=>rfl
 |some n=>
  have h1:=(qjq hn).2 c (List.mem_singleton.2 rfl);rw[h] at h1;cases h1
theorem qbu(h:numW w=some n):defW w=none/\refW w=none:=by
 have:=qka h;exact⟨this.1,this.2⟩
theorem qhb(h:refW w=some x):numW w=none:=by
 cases hn:numW w with
 |none=>rfl
 |some n=>rw[(qbu hn).2] at h;cases h
theorem qfe(h:numW w=some n):qhF C s w r=qdg s r s.data n true:=by
 unfold qhF;rw[(qbu h).1];simp only;rw[h]
theorem qfg{f:Bool}(h:numW w=some n):qjI f w=w.length+one f:=by
 unfold qjI;rw[(qbu h).1,h]
 try rfl
theorem qdN(h:refW w=some x):qhF C s w r=qhQ C s x r:=by
 unfold qhF;rw[qbe h];simp only;rw[qhb h];simp only;rw[h]
theorem qep{f:Bool}(h:refW w=some x):qjI f w=7+one f:=by
 unfold qjI;rw[qbe h,qhb h,h]
 try rfl
abbrev qcO:Wd:=[43,45,42,47,37,94,60,64,33,63,58,59,44,46,36]
theorem qbE(h:c∈qcO):qhF C s [c] r=qeB C.D s c r:=by
 obtain⟨e1,e2,e3⟩:=qbo h;unfold qhF;rw[e1];simp only;rw[qic e3];simp only;rw[e2]
theorem qjx{f:Bool}(h:c∈qcO):qjI f [c]=1:=by
 obtain⟨e1,e2,e3⟩:=qbo h;unfold qjI;rw[e1,qic e3,e2]
 try rfl
theorem qcS(h:isOp c):c∈qcO:=by
 unfold isOp at h;rcases h with rfl|rfl|rfl|rfl|rfl|rfl|rfl <;> decide
theorem qjJ{D:Nat->Bool}(h:isOp c):qeB D s c r=binW s c r:=by
 unfold isOp at h;unfold qeB;rcases h with rfl|rfl|rfl|rfl|rfl|rfl|rfl <;> rfl
theorem qob(f:Bool):Go.Stele.one f<=1:=Go.Stele.one_le f
section
variable{s:MS}{i:Nat}
theorem PW.num(h:C.At s i){m:Nat}(hw:C.W[i]? = some (decDigits n))(hn:n<4294967296)(hroom:s.data.length<256)(hm:(decDigits n).length+1<=m):Stx C m s { s with pc:=C.plc (i+1),data:=n::s.data,digit:=true }:=by
 have hN:=qgb hn;refine PW.once h hw ?_ (by rw[qfg hN];have:=qob s.digit;omega);rw[qa5 rfl,qfe hN];unfold qdg;rw[zp hroom]
theorem PW.load(h:C.At s i)(hw:C.W[i]? = some [64]){r:List Nat}(hd:s.data=a::r)(ha:C.D a=true)(hroom:r.length<256):Stx C 1 s (C.put s (i+1) (s.mem a::r)):=by
 refine zQ40 ?_;rw[qa5 rfl,qbE zDd];show qos C.D _ _=_;unfold qos qdg;simp[hd,ha,hroom,PW.put]
theorem PW.store(h:C.At s i)(hw:C.W[i]? = some [33]){r:List Nat}(hd:s.data=a::v::r)(ha:C.D a=true):Stx C 1 s { C.put s (i+1) r with mem:=λi=>if i=a then v else s.mem i }:=by
 refine zQ40 ?_;rw[qa5 rfl,qbE zDd];show qi7 C.D _ _=_;unfold qi7;simp[hd,ha,PW.put]
theorem PW.back(h:C.At s i)(hw:C.W[i]? = some [59]){t:List Wd}{r:List (List Wd)}(hd:s.calls=t::r):Stx C 1 s { s with pc:=t,calls:=r,digit:=false }:=by
 refine zQ40 ?_;rw[qa5 rfl,qbE zDd];show qmF _=_;unfold qmF;simp[hd]
theorem PW.read(h:C.At s i)(hw:C.W[i]? = some [44])(hroom:s.data.length<256):Stx C 1 s { C.put s (i+1) ((s.inp.headD 4294967295)::s.data) with inp:=s.inp.tail }:=by
 refine zQ40 ?_;rw[qa5 rfl,qbE zDd];show qdg _ _ _ _ _=_;unfold qdg;simp[hroom,PW.put]
theorem PW.write(h:C.At s i)(hw:C.W[i]? = some [46]){r:List Nat}(hd:s.data=v::r):Stx C 1 s { C.put s (i+1) r with out:=s.out++[UInt8.ofNat v] }:=by
 refine zQ40 ?_;rw[qa5 rfl,qbE zDd];show qmt _ _=_;unfold qmt;simp[hd,PW.put]
theorem PW.halt(h:C.At s i)(hw:C.W[i]? = some [36]):∃ m,Stp C 0 s m/\stepM C m=.stop 0 s.out:=by
 refine⟨_,PW.ahead h hw,?_⟩;rw[qa5 rfl,qbE zDd]
 try rfl
theorem PW.op(h:C.At s i)(hc:isOp c)(hw:C.W[i]? = some [c]){r:List Nat}(hd:s.data=b::a::r)(hv:binM c.toNat a b=some v)(hroom:r.length<256):Stx C 1 s (C.put s (i+1) (v::r)):=by
 refine PW.once h hw ?_ (by rw[qjx (qcS hc)];exact zNr 1);rw[qa5 rfl,qbE (qcS hc),qjJ hc];unfold binW qdg;simp[hd,hv,hroom,PW.put]
theorem PW.opTrap(h:C.At s i)(hc:isOp c)(hw:C.W[i]? = some [c]){r:List Nat}(hd:s.data=b::a::r)(hv:binM c.toNat a b=none):∃ m,Stp C 0 s m/\stepM C m=.stop 12 s.out:=by
 refine⟨_,PW.ahead h hw,?_⟩;rw[qa5 rfl,qbE (qcS hc),qjJ hc];unfold binW;simp[hd,hv]
theorem PW.jump(h:C.At s i){k:List Wd}(hw:C.W[i]? = some w)(hw2:C.W[i+1]? = some [63])(hr:refW w=some x)(hk:qby x C.W=some k){r:List Nat}(hd:s.data=v::r)(hroom:r.length+1<256):Stx C 8 s { C.put s (i+2) r with pc:=if v=0 then k else C.plc (i+2) }:=by
 refine PW.once h hw ?_ (by rw[qep hr];have:=qob s.digit;omega);rw[qa5 rfl,qdN hr,qiN hw2];unfold qhQ qnk;simp[hk,hd,hroom,PW.put]
theorem PW.call(h:C.At s i){k:List Wd}(hw:C.W[i]? = some w)(hw2:C.W[i+1]? = some [58])(hr:refW w=some x)(hk:qby x C.W=some k)(hroom:s.data.length<256)(hc:s.calls.length<64):Stx C 8 s { s with pc:=k,calls:=C.plc (i+2)::s.calls,digit:=false }:=by
 refine PW.once h hw ?_ (by rw[qep hr];have:=qob s.digit;omega);rw[qa5 rfl,qdN hr,qiN hw2];unfold qhQ;simp[hk,hroom,hc]
end
end
def qiD(C:PW)(B:Int)(m:MS)(e:Int)(s:IS):Prop:=
 (e=0∨e=12->∃ k:Nat,∃ m',(k:Int)<=B/\Stp C k m m'/\stepM C m'=.stop e.toNat s.out)/\(e=13->∃ k m',Stp C k m m'/\m'.out=s.out)
variable{C:PW}
theorem qiD.pre{B:Int}{m1:MS}{e:Int}{s:IS}(h:Stp C k m m1)(g:qiD C B m1 e s):qiD C (k+B) m e s:=by
 refine⟨λhe=>?_,λhe=>?_⟩;obtain⟨y,m',k1,k2,k3⟩:=g.1 he;exact⟨k+y,m',by omega,h.trans k2,k3⟩;obtain⟨y,m',k2,k3⟩:=g.2 he;exact⟨k+y,m',h.trans k2,k3⟩
theorem qiD.mono{B B':Int}{e:Int}{s:IS}(h:qiD C B m e s)(hb:B<=B'):qiD C B' m e s:=
 ⟨λhe=>by
  obtain⟨y,m',k1,k2,k3⟩:=h.1 he
  exact⟨y,m',by omega,k2,k3⟩,h.2⟩
section
variable{A B:Type}{Q:A->IS->MS->Prop}{R:B->IS->MS->Prop}{c d c1 d1 c2 d2:Int}{m m1:MS}{s:IS}
end
theorem qd0{A B D:Type}(r:IR A)(f:A->IS->IR B)(g:B->IS->IR D):(r.bind f).bind g=r.bind λv s=>(f v s).bind g:=by cases r <;> rfl
structure Trn where
 C:PW
 P:Pr
 cc:FnD->CC
 cenv:FnD->CEnv
 sa:Nm->Nat
 aa:Nm->Nat
 S:Nat
 fst:FnD->Nat
variable{X:Trn}
def Trn.keys(X:Trn):List Nm:=qai X.P.vars X.P.funcs
def Trn.Data(X:Trn)(x:Nat):Prop:=(∃ k∈X.keys,x=X.sa k)∨(X.S<=x/\x<=X.S+2)∨∃ a∈X.P.arrays,∃ i,i<a.size/\x=X.aa a.name+i
structure TrnOk(X:Trn):Prop where
 sc:∀ f∈X.P.funcs,∀ name,qcg (X.cenv f) name=0->(X.cc f).sc name=decDigits (X.sa (keyI f name))/\keyI f name∈X.keys
 ar:∀ f∈X.P.funcs,∀ name,qeU (X.cenv f) name=0->(X.cc f).ar name=decDigits (X.aa name)/\∃ a∈X.P.arrays,a.name=name
 temps:∀ f∈X.P.funcs,(X.cc f).t0=decDigits X.S/\(X.cc f).t1=decDigits (X.S+1)/\(X.cc f).t2=decDigits (X.S+2)
 low:∀ x,X.Data x->x<262144
 dat:∀ x,X.Data x->X.C.D x=true
 keyLow:∀ k∈X.keys,X.S+3<=X.sa k
 inj:∀ k∈X.keys,∀ k'∈X.keys,X.sa k=X.sa k'->k=k'
 apart:∀ a∈X.P.arrays,∀ i,i<a.size->(∀ k∈X.keys,X.sa k≠X.aa a.name+i)/\¬ (X.S<=X.aa a.name+i/\X.aa a.name+i<=X.S+2)
 arInj:∀ a∈X.P.arrays,∀ b∈X.P.arrays,∀ i j,i<a.size->j<b.size->X.aa a.name+i=X.aa b.name+j->a.name=b.name/\i=j
 arLow:∀ a∈X.P.arrays,X.aa a.name<1000000
 arName:∀ a∈X.P.arrays,∀ b∈X.P.arrays,a.name=b.name->a.size=b.size
 body:∀ f∈X.P.funcs,qb1 (X.cenv f) f.body=0/\qcu f.body
 fn:∀ f∈X.P.funcs,∀ name g,(X.cenv f).fn name=some g->fnI X.P name∈X.P.funcs/\(fnI X.P name).name=name/\g.params=(fnI X.P name).params.length/\qbN (X.cenv (fnI X.P name)) (fnI X.P name).body<=g.need/\qcm (X.cenv (fnI X.P name)) (fnI X.P name).body<=g.depth
 par:∀ f∈X.P.funcs,(∀ p∈f.params,keyI f p∈X.keys/\(X.cc f).sc p=decDigits (X.sa (keyI f p)))/\(f.params.map (keyI f)).Nodup
 code:∀ f∈X.P.funcs,∃ nl,X.C.Code (X.fst f) (fnW (X.cc f) nl f).1
 ldef:∀ (j n:Nat),X.C.W[j]? = some (labW n++[58])->defW (labW n++[58])=some (labW n)
 lref:∀ (j n:Nat),X.C.W[j]? = some (38::labW n)->refW (38::labW n)=some (labW n)
 fdef:∀ f∈X.P.funcs,defW ([102,95]++f.name++[58])=some ([102,95]++f.name)
 fref:∀ f∈X.P.funcs,refW ([38,102,95]++f.name)=some ([102,95]++f.name)
 label:∀ (j:Nat) (w x:Wd),X.C.W[j]? = some w->defW w=some x->qby x X.C.W=some (X.C.plc (j+1))
structure Trn.Rel(X:Trn)(s:IS)(m:MS):Prop where
 ok:X.C.Ok m.mem
 sc:∀ k∈X.keys,m.mem (X.sa k)=s.sc k
 ar:∀ a∈X.P.arrays,(s.ar a.name).length=a.size/\∀ i (h:i<(s.ar a.name).length),m.mem (X.aa a.name+i)=(s.ar a.name)[i]
 inp:m.inp=s.inp
 out:m.out=s.out
theorem Trn.Rel.same{s s':IS}{m':MS}(h:X.Rel s m)(h1:m'.mem=m.mem)(h2:m'.inp=m.inp)(h3:m'.out=m.out)(k1:s'.sc=s.sc)(k2:s'.ar=s.ar)(k3:s'.inp=s.inp)(k4:s'.out=s.out):X.Rel s' m':=
 ⟨by rw[h1];exact h.ok,by rw[h1,k1];exact h.sc,by rw[h1,k2];exact h.ar,by rw[h2,k3];exact h.inp,by rw[h3,k4];exact h.out⟩
theorem Trn.ok_store(hX:TrnOk X){mem:Nat->Nat}(h:X.C.Ok mem){x:Nat}(hx:X.Data x):X.C.Ok (λi=>if i=x then v else mem i):=trivial
theorem Trn.Rel.temp(hX:TrnOk X){s:IS}(h:X.Rel s m){x:Nat}(hx:X.S<=x/\x<=X.S+2){m':MS}(h1:m'.mem=λi=>if i=x then v else m.mem i)(h2:m'.inp=m.inp)(h3:m'.out=m.out):X.Rel s m':=by
 refine⟨by rw[h1];exact X.ok_store hX h.ok (.inr (.inl hx)),λk hk=>?_,λa ha=>?_,by rw[h2];exact h.inp,by rw[h3];exact h.out⟩;rw[h1];simp only;have:=hX.keyLow k hk;rw[zn (by omega)];exact h.sc k hk;obtain⟨e1,e2⟩:=h.ar a ha;refine⟨e1,λi hi=>?_⟩;rw[h1];simp only;have:=(hX.apart a ha i (by omega)).2;rw[zn (λh=>this (by rw[h];exact hx))];exact e2 i hi
theorem Trn.Rel.scal(hX:TrnOk X){s:IS}(h:X.Rel s m){k:Nm}(hk:k∈X.keys){m':MS}(h1:m'.mem=λi=>if i=X.sa k then v else m.mem i)(h2:m'.inp=m.inp)(h3:m'.out=m.out):X.Rel (qaJ s k v) m':=by
 refine⟨by rw[h1];exact X.ok_store hX h.ok (.inl ⟨k,hk,rfl⟩),λk' hk'=>?_,λa ha=>?_,by rw[h2];exact h.inp,by rw[h3];exact h.out⟩;rw[h1];unfold qaJ;simp only
 by_cases he:k'=k
 subst he;rw[zp rfl,zp rfl];rw[zn (λh=>he (hX.inj _ hk' _ hk h)),zn he];exact h.sc k' hk';obtain⟨e1,e2⟩:=h.ar a ha;refine⟨e1,λi hi=>?_⟩;rw[h1];simp only;have hi2:i<(s.ar a.name).length:=hi;have:=(hX.apart a ha i (by omega)).1 k hk;rw[zn (λh=>this h.symm)];exact e2 i hi2
theorem Trn.Rel.elem(hX:TrnOk X){s:IS}(h:X.Rel s m){a:Ar}(ha:a∈X.P.arrays)(hi:i<(s.ar a.name).length){m':MS}(h1:m'.mem=λx=>if x=X.aa a.name+i then v else m.mem x)(h2:m'.inp=m.inp)(h3:m'.out=m.out) :
  X.Rel { s with ar:=λx=>if x=a.name then (s.ar a.name).set i v else s.ar x } m':=by
 have hs:=(h.ar a ha).1;refine⟨by rw[h1];exact X.ok_store hX h.ok (.inr (.inr ⟨a,ha,i,by omega,rfl⟩)),λk' hk'=>?_,λb hb=>?_,by rw[h2];exact h.inp,by rw[h3];exact h.out⟩;rw[h1];simp only;rw[zn ((hX.apart a ha i (by omega)).1 k' hk')];exact h.sc k' hk';obtain⟨e1,e2⟩:=h.ar b hb
 by_cases he:b.name=a.name
 have hab:=hX.arName b hb a ha he;simp only[he,if_true,List.length_set];refine⟨by omega,λj hj=>?_⟩;rw[h1];simp only
 by_cases hj2:j=i
 subst hj2;rw[zp rfl,List.getElem_set_self];rw[zn (by omega),List.getElem_set_ne (λh=>hj2 h.symm)];exact(h.ar a ha).2 j hj;simp only[he,if_false];refine⟨e1,λj hj=>?_⟩;rw[h1];simp only;rw[zn (λh=>he (hX.arInj b hb a ha j i (by omega) (by omega) h).1)];exact e2 j hj
structure Trn.Vw(X:Trn)(s:IS)(i:Nat)(d:List Nat)(c:List (List Wd))(m:MS):Prop where
 here:X.C.At m i
 rel:X.Rel s m
 data:m.data=d
 calls:m.calls=c
theorem Trn.Vw.cast{s:IS}{j:Nat}{c:List (List Wd)}(v:X.Vw s i d c m)(h:i=j):X.Vw s j d c m:=h▸v
section
variable{X:Trn}{s:IS}{i:Nat}{d:List Nat}{c:List (List Wd)}{m:MS}
theorem Trn.Vw.steps(v:X.Vw s i d c m)(l:Nat):X.Vw { s with left:=l } i d c m:=⟨v.here,v.rel.same rfl rfl rfl rfl rfl rfl rfl,v.data,v.calls⟩
theorem Trn.Vw.num(v:X.Vw s i d c m){n k:Nat}(hw:X.C.W[i]? = some (decDigits n))(hn:n<4294967296)(hl:(decDigits n).length+1<=k)(hd:d.length<256):∃ m',Stx X.C k m m'/\X.Vw s (i+1) (n::d) c m'/\m'.mem=m.mem:=
 ⟨_,PW.num v.here hw hn (by rw[v.data];exact hd) hl,⟨PW.at_mk rfl,v.rel.same rfl rfl rfl rfl rfl rfl rfl,by simp only;rw[v.data],v.calls⟩,rfl⟩
theorem len6(h:n<1000000):(decDigits n).length+1<=7:=by have:=qdk 5 n h;omega
theorem Trn.Vw.addr(v:X.Vw s i d c m)(hw:X.C.W[i]? = some (decDigits n))(hn:n<1000000)(hd:d.length<256):∃ m',Stx X.C 7 m m'/\X.Vw s (i+1) (n::d) c m'/\m'.mem=m.mem:=v.num hw (by omega) (len6 hn) hd
theorem qm7(h:n<10):decDigits n=[UInt8.ofNat (48+n)]:=by rw[decDigits,dif_pos h]
theorem Trn.Vw.dig(v:X.Vw s i d c m)(hw:X.C.W[i]? = some w)(hn:n<10)(he:w=[UInt8.ofNat (48+n)])(hd:d.length<256):∃ m',Stx X.C 2 m m'/\X.Vw s (i+1) (n::d) c m'/\m'.mem=m.mem:=by
 rw[he,<-qm7 hn] at hw;exact v.num hw (by omega) (by rw[qm7 hn];exact zNr 2) hd
theorem Trn.Vw.load{a:Nat}(v:X.Vw s i (a::d) c m)(hw:X.C.W[i]? = some [64])(ha:X.C.D a=true)(hd:d.length<256):∃ m',Stx X.C 1 m m'/\X.Vw s (i+1) (m.mem a::d) c m'/\m'.mem=m.mem:=
 ⟨_,PW.load v.here hw v.data ha hd,⟨X.C.put_at _ _ _,v.rel.same rfl rfl rfl rfl rfl rfl rfl,rfl,v.calls⟩,rfl⟩
theorem Trn.Vw.op{a b x:Nat}{ch:UInt8}(v:X.Vw s i (b::a::d) c m)(hw:X.C.W[i]? = some [ch])(ho:isOp ch)(hv:binM ch.toNat a b=some x)(hd:d.length<256):∃ m',Stx X.C 1 m m'/\X.Vw s (i+1) (x::d) c m'/\m'.mem=m.mem:=
 ⟨_,PW.op v.here ho hw v.data hv hd,⟨X.C.put_at _ _ _,v.rel.same rfl rfl rfl rfl rfl rfl rfl,rfl,v.calls⟩,rfl⟩
theorem Trn.Vw.temp(hX:TrnOk X){a x:Nat}(v:X.Vw s i (a::x::d) c m)(hw:X.C.W[i]? = some [33])(ha:X.S<=a/\a<=X.S+2):∃ m',Stx X.C 1 m m'/\X.Vw s (i+1) d c m'/\m'.mem=λy=>if y=a then x else m.mem y:=
 ⟨_,PW.store v.here hw v.data (hX.dat a (.inr (.inl ha))),⟨PW.at_mk rfl,v.rel.temp hX ha rfl rfl rfl,rfl,v.calls⟩,rfl⟩
theorem Trn.Vw.scal(hX:TrnOk X){k:Nm}{x:Nat}(hk:k∈X.keys)(v:X.Vw s i (X.sa k::x::d) c m)(hw:X.C.W[i]? = some [33]):∃ m',Stx X.C 1 m m'/\X.Vw (qaJ s k x) (i+1) d c m':=
 ⟨_,PW.store v.here hw v.data (hX.dat _ (.inl ⟨k,hk,rfl⟩)),⟨PW.at_mk rfl,v.rel.scal hX hk rfl rfl rfl,rfl,v.calls⟩⟩
theorem Trn.Vw.read(v:X.Vw s i d c m)(hw:X.C.W[i]? = some [44])(hd:d.length<256):∃ m',Stx X.C 1 m m'/\X.Vw { s with inp:=s.inp.tail } (i+1) (s.inp.headD 4294967295::d) c m':=by
 refine⟨_,PW.read v.here hw (by rw[v.data];exact hd),⟨PW.at_mk rfl,⟨v.rel.ok,v.rel.sc,v.rel.ar,?_,v.rel.out⟩,?_,v.calls⟩⟩;simp only;rw[v.rel.inp];simp only[PW.put];rw[v.rel.inp,v.data]
theorem Trn.Vw.write{x:Nat}(v:X.Vw s i (x::d) c m)(hw:X.C.W[i]? = some [46]):∃ m',Stx X.C 1 m m'/\X.Vw { s with out:=s.out++[UInt8.ofNat x] } (i+1) d c m':=by
 refine⟨_,PW.write v.here hw v.data,⟨PW.at_mk rfl,⟨v.rel.ok,v.rel.sc,v.rel.ar,v.rel.inp,?_⟩,rfl,v.calls⟩⟩;simp only;rw[v.rel.out]
theorem Trn.Vw.greater(hX:TrnOk X){f:FnD}(hf:f∈X.P.funcs)(v:X.Vw s i (b::a::d) c m)(hc:X.C.Code i (qa0 (X.cc f)))(hd:d.length+3<=256):∃ m',Stx X.C 33 m m'/\X.Vw s (i+9) (b2n (decide (b<a))::d) c m':=by
 obtain⟨_,t1,t2⟩:=hX.temps f hf;unfold qa0 at hc;rw[t1,t2] at hc;have hS:X.S+2<262144:=hX.low _ (.inr (.inl ⟨by omega,by omega⟩));obtain⟨w0,hc⟩:=hc.cons;obtain⟨w1,hc⟩:=hc.cons;obtain⟨w2,hc⟩:=hc.cons;obtain⟨w3,hc⟩:=hc.cons;obtain⟨w4,hc⟩:=hc.cons;obtain⟨w5,hc⟩:=hc.cons;obtain⟨w6,hc⟩:=hc.cons;obtain⟨w7,hc⟩:=hc.cons;obtain⟨w8,hc⟩:=hc.cons;obtain⟨m1,s1,v1,e1⟩:=v.addr w0 (by omega) (by simp only[zLc];omega);obtain⟨m2,s2,v2,e2⟩:=v1.temp hX w1 ⟨by omega,by omega⟩;obtain⟨m3,s3,v3,e3⟩:=v2.addr w2 (by omega) (by simp only[zLc];omega);obtain⟨m4,s4,v4,e4⟩:=v3.temp hX w3 ⟨by omega,by omega⟩;obtain⟨m5,s5,v5,e5⟩:=v4.addr w4 (by omega) (by omega);obtain⟨m6,s6,v6,e6⟩:=v5.load w5 (hX.dat _ (.inr (.inl ⟨by omega,by omega⟩))) (by omega);obtain⟨m7,s7,v7,e7⟩:=v6.addr w6 (by omega) (by simp only[zLc];omega);obtain⟨m8,s8,v8,e8⟩:=v7.load w7 (hX.dat _ (.inr (.inl ⟨by omega,by omega⟩))) (by simp only[zLc];omega)
 have q1:m5.mem (X.S+2)=b:=by
  rw[e5,e4];simp only;rw[zn (by omega),e3,e2]
  simp
 have q2:m7.mem (X.S+1)=a:=by
  rw[e7,e6,e5,e4]
  simp
 rw[q1] at v6 v7 v8;rw[q2] at v8
 obtain⟨m9,s9,v9,_⟩:=v8.op (x:=b2n (decide (b<a))) w8 (by unfold isOp;simp) (by
  unfold binM b2n
  simp) (by omega)
 exact⟨m9,(s1.trans (s2.trans (s3.trans (s4.trans (s5.trans (s6.trans (s7.trans (s8.trans s9)))))))).mono (by omega),v9⟩
end
theorem qhB{A:Type}(g:A->IS->IR Nat)(x:A)(s:IS):mapR g [x] s=(g x s).bind λv s=>.ok [v] s:=by
 unfold mapR;cases g x s <;> rfl
theorem quu{A:Type}(g:A->IS->IR Nat)(x y:A)(s:IS):mapR g [x,y] s=(g x s).bind λa s=>(g y s).bind λb s=>.ok [a,b] s:=by
 unfold mapR
 cases g x s with
 |stop e s=>rfl
 |ok a s=>
  show(mapR g [y] s).bind _=(g y s).bind _;rw[qhB]
  try cases g y s <;> rfl
section
variable{X:Trn}{n:Nat}
theorem qes(a b:Nat):(if a<b then 1 else 0)=b2n (decide (a<b)):=by unfold b2n;simp
theorem xor_zero:a ^^^ b<1 ↔ a=b:=by
 constructor;intro h;have h0:a ^^^ b=0:=by omega
 exact Nat.eq_of_testBit_eq λj=>by
  have h2:=congrArg (λx=>x.testBit j) h0;simp only[Nat.testBit_xor,Nat.zero_testBit] at h2;revert h2;cases a.testBit j <;> cases b.testBit j <;> simp
 rintro rfl;rw[Nat.xor_self];decide
theorem qmb:∀ (ns:List Nat) (i m B:Nat),qhK i ns m<=B->m<=B/\∀ k (h:k<ns.length),i+k+ns[k]<=B
 |[],i,m,B,h=>⟨h,λk hk=>by cases hk⟩
 |a::ns,i,m,B,h=>by
  rw[qhK] at h;obtain⟨h1,h2⟩:=qmb ns (i+1) _ B h;refine⟨by omega,λk hk=>?_⟩
  cases k with
  |zero=>simp only[List.getElem_cons_zero];omega
  |succ k=>
   have:=h2 k (by simpa using hk);simp only[List.getElem_cons_succ];omega
theorem qkR(c:CEnv):∀ (l:List Ex),(qaZ c l).length=l.length/\∀ k (h:k<l.length) (h2:k<(qaZ c l).length),(qaZ c l)[k]=qba c l[k]
 |[]=>⟨by simp[qaZ],λk h=>by cases h⟩
 |x::l=>by
  obtain⟨h1,h2⟩:=qkR c l;refine⟨by simp[qaZ,h1],λk hk hk2=>?_⟩
  cases k with
  |zero=>simp[qaZ]
  |succ k=>
   simp only[qaZ,List.getElem_cons_succ];exact h2 k (by simpa using hk) _
end
theorem qu3(b:Bool):b2n b<=1:=by unfold b2n;split <;> omega
theorem qpc{op:Nm}(h:qbw op=2):op∈qeQ/\op≠nNum/\op≠nVar/\op≠qeh/\op≠nNeg/\op≠nNot/\op≠qbB:=by
 unfold qbw at h;split at h;cases h
 rename_i h1
 split at h;cases h
 rename_i h2
 split at h;cases h
 rename_i h3
 split at h
 rename_i h4
 exact⟨h4,λe=>h1 (.inl e),λe=>h1 (.inr e),λe=>h2 (.inl e),λe=>h2 (.inr (.inl e)),λe=>h2 (.inr (.inr e)),h3⟩;cases h
theorem qwk(P:Pr)(g:FnD->Sm->IS->IR (Option Nat))(f:FnD){op:Nm}(h:op∈qeQ)(num:Nat)(name:Nm)(a b:Nat)(s:IS):opI P g f op num name [a,b] s=match binI op a b with
  |some r=>.ok r s
  |none=>.stop 12 s:=by
 simp only[qeQ,zMi,not_mem_nil,or_false] at h;rcases h with rfl|rfl|rfl|rfl|rfl|rfl|rfl|rfl|rfl|rfl|rfl|rfl|rfl|rfl <;> rfl
theorem qpn:∀ (ns:List Nat) (i m:Nat),m<=qhK i ns m
 |[],i,m=>zNr _
 |a::ns,i,m=>by
  rw[qhK];have:=qpn ns (i+1) (max m (i+a));omega
theorem qga(c:CEnv):∀ e:Ex,errE c e=0->1<=qba c e
 |.mk op num name args,h=>by
  rw[errE] at h;split at h
  case isFalse=>cases h
  rename_i hop
  obtain⟨h1,h2⟩:=qah.1 h;rw[qba];unfold opN;split;omega;split;omega;split
  rename_i hc
  subst hc;have he3:callE c name args.length=0:=h2;unfold qiI;split;omega
  rename_i k1
  split
  rename_i k2
  unfold callE at he3;rw[zn k1,zp k2] at he3;split at he3
  rename_i hl
  obtain⟨x,rfl⟩:=List.length_eq_one_iff.1 hl;rw[qbs] at h1;have:=qga c x (qah.1 h1).1;rw[qaZ];exact this;cases he3
  rename_i k2
  unfold callE at he3;rw[zn k1,zn k2] at he3;split
  rename_i g hg
  have:=qpn (qaZ c args) 0 (max (g.params+1) g.need);omega
  rename_i hg
  rw[hg] at he3;simp only at he3;split at he3 <;> cases he3
  repeat' split
  all_goals omega
section
variable{X:Trn}{n:Nat}
end
def StQ(X:Trn)(j:Nat)(d:List Nat)(t:List Wd)(rest:List (List Wd)):Option Nat->IS->MS->Prop
 |none,s',m'=>X.Vw s' j d (t::rest) m'
 |some v,s',m'=>m'.pc=t/\m'.digit=false/\X.Rel s' m'/\m'.data=v::d/\m'.calls=rest
section
variable{X:Trn}{n:Nat}
section
variable{s:IS}{i j:Nat}{d:List Nat}{c:List (List Wd)}{m:MS}
theorem Trn.Vw.branch(hX:TrnOk X)(v:X.Vw s i (a::d) c m)(hc:X.C.Code i [38::labW k,[63]])(hj:X.C.W[j]? = some (labW k++[58]))(hd:d.length+2<=256):∃ m',Stx X.C 8 m m'/\X.Vw s (if a=0 then j+1 else i+2) d c m':=by
 obtain⟨w0,hc⟩:=hc.cons;obtain⟨w1,_⟩:=hc.cons;have h1:=hX.ldef j k hj;have t2:=PW.jump v.here w0 w1 (hX.lref _ _ w0) (hX.label j _ _ hj h1) v.data (by omega)
 by_cases ha:a=0
 subst ha;rw[zp rfl] at t2 ⊢;exact⟨_,t2,⟨PW.at_mk rfl,v.rel.same rfl rfl rfl rfl rfl rfl rfl,rfl,v.calls⟩⟩;rw[zn ha] at t2 ⊢;exact⟨_,t2,⟨PW.at_mk rfl,v.rel.same rfl rfl rfl rfl rfl rfl rfl,rfl,v.calls⟩⟩
theorem Trn.Vw.goto(hX:TrnOk X)(v:X.Vw s i d c m)(hc:X.C.Code i [[48],38::labW k,[63]])(hj:X.C.W[j]? = some (labW k++[58]))(hd:d.length+2<=256):∃ m',Stx X.C 10 m m'/\X.Vw s (j+1) d c m':=by
 obtain⟨w0,hc⟩:=hc.cons;obtain⟨m1,t1,v1,_⟩:=v.dig (n:=0) w0 zDd rfl (by omega);obtain⟨m2,t2,v2⟩:=v1.branch hX hc hj hd;rw[zp rfl] at v2;exact⟨m2,(t1.trans t2).mono (by omega),v2⟩
theorem Trn.Vw.pass(v:X.Vw s i d c m)(hw:X.C.W[i]? = some w)(hd:defW w=some x):X.Vw s (i+1) d c m:=⟨PW.atDef v.here hw hd,v.rel,v.data,v.calls⟩
end
theorem qqa(s:IS){k k':Nm}(h:k≠k')(v v':Nat):qaJ (qaJ s k v) k' v'=qaJ (qaJ s k' v') k v:=by
 unfold qaJ;congr 1;funext x
 by_cases h1:x=k
 subst h1;simp[h];simp[h1]
theorem qk5(g:FnD):∀ (ps:List Nm) (vs:List Nat) (s:IS) (k:Nm) (v:Nat),k ∉ ps.map (keyI g)->qe8 g ps vs (qaJ s k v)=qaJ (qe8 g ps vs s) k v
 |[],vs,s,k,v,_=>by cases vs <;> rfl
 |p::ps,[],s,k,v,_=>rfl
 |p::ps,w::vs,s,k,v,h=>by
  rw[zMc,zMi,not_or] at h;rw[qe8,qe8,qqa s h.1,qk5 g ps vs _ k v h.2]
theorem qkB(g:FnD):∀ (ps:List Nm) (vs:List Nat) (s:IS) (p:Nm) (v:Nat),ps.length=vs.length->qe8 g (ps++[p]) (vs++[v]) s=qaJ (qe8 g ps vs s) (keyI g p) v
 |[],[],s,p,v,_=>rfl
 |q::ps,w::vs,s,p,v,h=>by
  rw[cons_append,cons_append,qe8,qe8,qkB g ps vs _ p v (by simpa using h)]
theorem qkH(g:FnD):∀ (ps:List Nm) (vs:List Nat) (s:IS),(qe8 g ps vs s).left=s.left
 |[],vs,s=>by cases vs <;> rfl
 |p::ps,[],s=>rfl
 |p::ps,w::vs,s=>by rw[qe8,qkH g ps vs];try rfl
theorem qso(hX:TrnOk X){g:FnD}:∀ (k:Nat) (ps:List Nm) (vs:List Nat) (i:Nat) (s:IS) (d:List Nat) (c:List (List Wd)) (m:MS),ps.length=k->ps.length=vs.length->(∀ p∈ps,keyI g p∈X.keys/\(X.cc g).sc p=decDigits (X.sa (keyI g p)))->(ps.map (keyI g)).Nodup->X.C.Code i (ps.reverse.flatMap λp=>[(X.cc g).sc p,[33]])->X.Vw s i (vs.reverse++d) c m->d.length+ps.length+1<=256 ->
  ∃ m',Stx X.C (8 * ps.length) m m'/\X.Vw (qe8 g ps vs s) (i+(ps.reverse.flatMap λp=>[(X.cc g).sc p,[33]]).length) d c m'
 |0,ps,vs,i,s,d,c,m,hk,hl,_,_,_,v,_=>by
  obtain rfl:=eq_nil_of_length_eq_zero hk;obtain rfl:vs=[]:=eq_nil_of_length_eq_zero (by rw[<-hl];try rfl)
  exact⟨m,.refl _,v⟩
 |k+1,ps,vs,i,s,d,c,m,hk,hl,hp,hnd,hc,v,hd=>by
  have hne:ps≠[]:=λh=>by rw[h] at hk;cases hk
  have hnv:vs≠[]:=λh=>by rw[h] at hl;rw[hk] at hl;cases hl
  have e1:=(List.dropLast_concat_getLast hne).symm;have e2:=(List.dropLast_concat_getLast hnv).symm;generalize ps.dropLast=ps' at e1;generalize ps.getLast hne=p at e1;generalize vs.dropLast=vs' at e2;generalize vs.getLast hnv=w at e2;subst e1 e2;rw[zLa,length_singleton] at hk hd;rw[zLa,zLa,length_singleton,length_singleton] at hl;rw[List.reverse_append] at hc v ⊢;simp only[List.reverse_cons,List.reverse_nil,List.nil_append,cons_append,List.flatMap_cons] at hc v ⊢;rw[zMa,List.map_singleton] at hnd;obtain⟨n1,n2,n3⟩:=List.nodup_append.1 hnd;obtain⟨q1,q2⟩:=hp p (by simp);rw[q2] at hc;obtain⟨w0,hc⟩:=hc.cons;obtain⟨w1,hc⟩:=hc.cons;have hlow:=hX.low _ (.inl ⟨_,q1,rfl⟩);obtain⟨m1,t1,v1,_⟩:=v.addr w0 (by omega) (by simp only[zLc,zLa,List.length_reverse];omega);obtain⟨m2,t2,v2⟩:=v1.scal hX q1 w1;obtain⟨m3,t3,v3⟩:=qso hX k ps' vs' (i+1+1) (qaJ s (keyI g p) w) d c m2 (by omega) (by omega) (λx hx=>hp x (by simp[hx])) n1 hc v2 (by omega);refine⟨m3,(t1.trans (t2.trans t3)).mono (by rw[zLa,length_singleton];omega),?_⟩;rw[qkB g ps' vs' s p w (by omega),<-qk5 g ps' vs' s (keyI g p) w (λh=>n3 _ h _ (List.mem_singleton.2 rfl) rfl)];exact v3.cast (by simp only[zLc];omega)
end
section
variable{X:Trn}{n:Nat}
theorem Trn.Vw.elem(hX:TrnOk X){s:IS}{i:Nat}{d:List Nat}{c:List (List Wd)}{m:MS}{A:Ar}(hA:A∈X.P.arrays){j x:Nat}(v:X.Vw s i ((X.aa A.name+j)::x::d) c m)(hj:j<(s.ar A.name).length)(hw:X.C.W[i]? = some [33]):∃ m',Stx X.C 1 m m'/\X.Vw { s with ar:=λy=>if y=A.name then (s.ar A.name).set j x else s.ar y } (i+1) d c m':=
 ⟨_,PW.store v.here hw v.data (hX.dat _ (.inr (.inr ⟨A,hA,j,by have:=(v.rel.ar A hA).1;omega,rfl⟩))),⟨PW.at_mk rfl,v.rel.elem hX hA hj rfl rfl rfl,rfl,v.calls⟩⟩
theorem qto(c:CC)(n:Nat)(kind:Int)(name:Nm)(index value:List Ex)(thn els:List Sm):stW c n (.mk kind name index value thn els) =
  if kind=1 then (exW c (value.headD default)++[c.sc name,[33]],n)
  else if kind=2 then (exW c (value.headD default)++c.ar name::(exW c (index.headD default)++[[43],[33]]),n)
  else if kind=3 then
   (match els with
   |[]=>(exW c (value.headD default)++[38::labW n,[63]]++(stWs c (n+1) thn).1++[labW n++[58]],(stWs c (n+1) thn).2)
   |_::_=>(exW c (value.headD default)++[38::labW n,[63]]++(stWs c (n+2) thn).1++[[48],38::labW (n+1),[63],labW n++[58]]++(stWs c (stWs c (n+2) thn).2 els).1++[labW (n+1)++[58]],(stWs c (stWs c (n+2) thn).2 els).2))
  else if kind=4 then ([labW n++[58]]++exW c (value.headD default)++[38::labW (n+1),[63]]++(stWs c (n+2) thn).1++[[48],38::labW n,[63],labW (n+1)++[58]],(stWs c (n+2) thn).2)
  else if kind=5 then (exW c (value.headD default)++[[59]],n)
  else if kind=6 then (exW c (value.headD default)++[c.t0,[33]],n)
  else if kind=7 then ([[36]],n)
  else ([],n):=by
 rw[stW.eq_def];try rfl
theorem qvw{A:Type}{l:List A}(h:l.length=1):∃ x,l=[x]:=List.length_eq_one_iff.1 h
end
def qlp(n:Nat)(c:UInt8):Prop:=n=0/\(c=43∨c=45∨c=94)∨n=1/\(c=42∨c=47)
inductive Kind (used:Wd->Bool):List Wd->List Wd->List Wd->Prop
 |fold {x y op z:Wd} {rest:List Wd}:qa2 x op y=some z->Kind used (x::y::op::rest) [z] rest
 |neutral {x:Wd} {n:Nat} {c:UInt8} {rest:List Wd}:numW x=some n->qlp n c->Kind used (x::[c]::rest) [] rest
 |regroup {x y z:Wd} {c:UInt8} {rest:List Wd}:(c=43∨c=42∨c=94)->qa2 x [c] y=some z->Kind used (x::[c]::y::[c]::rest) [z,[c]] rest
 |same {x:Wd} {n:Nat} {rest:List Wd}:numW x=some n->Kind used (x::[64]::x::[33]::rest) [] rest
 |double {w l:Wd} {rest:List Wd}:refW w=some l->Kind used ([49]::[60]::[49]::[60]::w::[63]::rest) [w,[63]] rest
 |never {x w l:Wd} {n:Nat} {rest:List Wd}:numW x=some n->n≠0->refW w=some l->Kind used (x::w::[63]::rest) [] rest
 |next {w l:Wd} {rest:List Wd}:refW w=some l->qf0 l rest=true->Kind used ([48]::w::[63]::rest) [] rest
 |deadJ {w l:Wd} {dead rest:List Wd}:refW w=some l->(∀ y∈dead,defW y=none)->(∀ y r,rest=y::r->(defW y).isSome=true)->Kind used ([48]::w::[63]::(dead++rest)) [[48],w,[63]] rest
 |deadS {c:UInt8} {dead rest:List Wd}:(c=59∨c=36)->(∀ y∈dead,defW y=none)->(∀ y r,rest=y::r->(defW y).isSome=true)->Kind used ([c]::(dead++rest)) [[c]] rest
 |unused {w l:Wd} {rest:List Wd}:defW w=some l->used l=false->Kind used (w::rest) [] rest
theorem qeI:numW [48]=some 0:=by decide +kernel
theorem qla:numW [49]=some 1:=by decide +kernel
theorem qkS(l:List Wd):∃ dead rest,l=dead++rest/\dead.length=qbV l/\(∀ y∈dead,defW y=none)/\(∀ y r,rest=y::r->(defW y).isSome=true):=by
 refine⟨l.takeWhile λw=>(defW w).isNone,l.dropWhile λw=>(defW w).isNone,(List.takeWhile_append_dropWhile).symm,rfl,λy hy=>?_,λy r h=>?_⟩
 have:(defW y).isNone=true:=by
  have key:∀ {p:Wd->Bool} {l:List Wd} {x:Wd},x∈l.takeWhile p->p x=true:=by
   intro p l
   induction l with
   |nil=>intro x hx;simp at hx
   |cons a r ih=>
    intro x hx;rw[List.takeWhile_cons] at hx;split at hx
    rename_i hp
    rcases zMi.1 hx with rfl|hx;exact hp;exact ih hx;simp at hx
  exact key (p:=λw=>(defW w).isNone) hy
 cases h:defW y with
 |none=>rfl
 |some x=>rw[h] at this;cases this
 have h2:=List.head?_dropWhile_not (λw=>(defW w).isNone) l;rw[h] at h2;simp only[List.head?_cons] at h2
 cases hd:defW y with
 |none=>rw[hd] at h2;simp at h2
 |some x=>rfl
theorem qsG(used:Wd->Bool)(v:List Wd)(h:(qa3 used v).1≠0):Kind used v (qa3 used v).2 (v.drop (qa3 used v).1):=by
 by_cases h1:∃ s,qdB v=some s
 obtain⟨s,h1⟩:=h1;rw[quq h1];have hlt:=qbU (qcR h1).2.1
 match v,hlt,h1 with
 |a::b::c::r,_,h1=>exact .fold h1
 have h1:qdB v=Option.none:=by
  cases h:qdB v with
  |none=>rfl
  |some s=>exact absurd ⟨s,h⟩ h1
 by_cases h2:qbT v
 rw[qtH h1 h2]
 have hlt:1<v.length:=qbU (by
  rcases h2 with⟨_,h|h|h⟩|⟨_,h|h⟩ <;> (rw[h];decide))
 match v,hlt,h2 with
 |a::b::r,_,h2=>
  have h2:a=[48]/\(b=[43]∨b=[45]∨b=[94])∨a=[49]/\(b=[42]∨b=[47]):=h2;rcases h2 with⟨rfl,rfl|rfl|rfl⟩|⟨rfl,rfl|rfl⟩;exact .neutral qeI (.inl ⟨rfl,.inl rfl⟩);exact .neutral qeI (.inl ⟨rfl,.inr (.inl rfl)⟩);exact .neutral qeI (.inl ⟨rfl,.inr (.inr rfl)⟩);exact .neutral qla (.inr ⟨rfl,.inl rfl⟩);exact .neutral qla (.inr ⟨rfl,.inr rfl⟩)
 by_cases h3:qa1 v/\∃ s,qbn v=some s
 obtain⟨h3,s,h4⟩:=h3;rw[que h1 h2 h3 h4];have h5:wdAt v 3≠[]:=by rw[h3.2];exact(qcR h4).2.1
 have hlt:=qbU h5
 match v,hlt,h3,h4 with
 |a::b::c::e::r,_,h3,h4=>
  obtain⟨k1,k2⟩:=h3;have k1:b=[43]∨b=[42]∨b=[94]:=k1;have k2:e=b:=k2;subst k2;have h4:qa2 a e c=some s:=h4;rcases k1 with rfl|rfl|rfl;exact .regroup (.inl rfl) h4;exact .regroup (.inr (.inl rfl)) h4;exact .regroup (.inr (.inr rfl)) h4
 have h3:¬ qa1 v∨qbn v=Option.none:=by
  by_cases hc:qa1 v
  exact zT24;exact .inl hc
 by_cases h4:qhg v
 rw[quA h1 h2 h3 h4];have hlt:3<v.length:=qbU (by rw[h4.2.2.2];decide)
 match v,hlt,h4 with
 |a::b::c::e::r,_,h4=>
  obtain⟨k1,k2,k3,k4⟩:=h4;have k1:(numW a).isSome=true:=k1;have k2:b=[64]:=k2;have k3:c=a:=k3;have k4:e=[33]:=k4;obtain⟨n,hn⟩:=Option.isSome_iff_exists.1 k1;rw[k2,k3,k4];exact .same hn
 by_cases h5:qc6 v
 rw[quW h1 h2 h3 h4 h5];obtain⟨l,hl⟩:=Option.isSome_iff_exists.1 h5.1;have h6:=qcF hl
 match v,h6,h5,hl with
 |a::b::c::e::f::g::r,_,h5,hl=>
  obtain⟨_,k2,k3,k4,k5⟩:=h5;have k2:a=[49]:=k2;have k3:b=[60]:=k3;have k4:c=[49]:=k4;have k5:e=[60]:=k5;subst k2 k3 k4 k5;unfold qdd at hl;split at hl
  rename_i x hx
  split at hl
  rename_i hy
  have hx:refW f=some x:=hx;have hy:g=[63]:=hy;subst hy;exact .double hx;cases hl;cases hl
 have jk:∀ {v:List Wd} {l:Wd},qdd v 1=some l->∃ a w r,v=a::w::[63]::r/\refW w=some l:=by
  intro v l hl;have h6:=qcF hl
  match v,h6,hl with
  |a::b::c::r,_,hl=>
   unfold qdd at hl;split at hl
   rename_i x hx
   split at hl
   rename_i hy
   have hx:refW b=some x:=hx;have hy:c=[63]:=hy;subst hy;injection hl with hl;subst hl;exact⟨_,_,_,rfl,hx⟩;cases hl;cases hl
 cases h6:qen v with
 |true=>
  rw[qt0 h1 h2 h3 h4 h5 h6];unfold qen at h6;split at h6
  rename_i n hn
  have h7:n≠0/\(qdd v 1).isSome=true:=by simpa using h6
  obtain⟨l,hl⟩:=Option.isSome_iff_exists.1 h7.2;obtain⟨a,w,r,rfl,hw⟩:=jk hl;exact .never hn h7.1 hw
  cases h6
 |false=>
  cases h7:qia v with
  |true=>
   rw[quk h1 h2 h3 h4 h5 h6 h7];unfold qia at h7;split at h7
   ·rename_i l hl
    obtain⟨a,w,r,rfl,hw⟩:=jk hl;have h8:a=[48]/\qf0 l r=true:=by simpa [wdAt] using h7
    obtain⟨rfl,h8⟩:=h8;exact .next hw h8
   cases h7
  |false=>
   by_cases h8:qku v
   rw[qt4 h1 h2 h3 h4 h5 h6 h7 h8];obtain⟨k1,k2⟩:=h8;simp only;unfold qcv at k1 k2 ⊢;split at k1
   rename_i hj
   rw[zp hj] at k2 ⊢;obtain⟨l,hl⟩:=Option.isSome_iff_exists.1 hj.1;obtain⟨a,w,r,rfl,hw⟩:=jk hl;have ha:a=[48]:=hj.2;subst ha;obtain⟨dead,rest,e1,e2,e3,e4⟩:=qkS r;have hd:([48]::w::[63]::r).drop 3=r:=rfl;rw[hd,<-e2,e1]
   have h9:([48]::w::[63]::(dead++rest)).drop (3+dead.length)=rest:=by
    rw[Nat.add_comm,<-List.drop_drop]
    simp
   rw[h9];exact .deadJ hw e3 e4
   rename_i hj
   rw[zn hj] at k2 ⊢;split at k1
   rename_i hs
   rw[zp hs] at k2 ⊢
   match v,hs,k2 with
   |[],hs,_=>rcases hs with h|h <;> (exact absurd h zDd)
   |a::r,hs,k2=>
    have hs:a=[59]∨a=[36]:=hs;obtain⟨dead,rest,e1,e2,e3,e4⟩:=qkS r;have hd:(a::r).drop 1=r:=rfl;rw[hd,<-e2,e1]
    have h9:(a::(dead++rest)).drop (1+dead.length)=rest:=by
     rw[Nat.add_comm,<-List.drop_drop]
     simp
    rw[h9];rcases hs with rfl|rfl;exact .deadS (.inl rfl) e3 e4;exact .deadS (.inr rfl) e3 e4
   exact absurd k1 zDd;rw[qtC h1 h2 h3 h4 h5 h6 h7 h8] at h ⊢;unfold qcB at h ⊢;split at h
   rename_i l hl
   split at h;exact absurd rfl h
   rename_i hu
   rw[zn hu]
   match v,hl with
   |[],hl=>
    have h0:defW (wdAt [] 0)=none:=by decide
    rw[h0] at hl
    cases hl
   |a::r,hl=>
    have hl:defW a=some l:=hl;exact .unused hl (by simpa using hu)
   exact absurd rfl h
theorem qeM(used:Wd->Bool):∀ (f:Nat) (v:List Wd),v.length<=f->qcC used f v=qcC used v.length v
 |0,v,h=>by
  obtain rfl:=eq_nil_of_length_eq_zero (Nat.le_zero.1 h)
  rfl
 |f+1,[],_=>rfl
 |f+1,w::r,h=>by
  simp only[zLc] at h ⊢;rw[qcC,qcC];split;rw[qeM used f r (by omega)]
  rename_i h0
  have:=qft used (w::r) h0
  have hl:((w::r).drop (qa3 used (w::r)).1).length<=r.length:=by
   rw[length_drop,zLc];omega
  rw[qeM used f _ (by omega),qeM used r.length _ hl]
def O(used:Wd->Bool)(v:List Wd):List Wd:=qcC used v.length v
theorem qkA(used:Wd->Bool)(w:Wd)(r:List Wd):(O used (w::r)=w::O used r/\(qa3 used (w::r)).1=0)∨∃ p rest,Kind used (w::r) p rest/\O used (w::r)=p++O used rest/\rest.length<=r.length:=by
 unfold O;rw[zLc,qcC];split
 rename_i h
 exact .inl ⟨rfl,h⟩
 rename_i h
 have hok:=qft used (w::r) h
 have hl:((w::r).drop (qa3 used (w::r)).1).length<=r.length:=by
  rw[length_drop,zLc];omega
 exact .inr ⟨_,_,qsG used _ h,by rw[qeM used r.length _ hl],hl⟩
theorem qip(h:qlp n c):isOp c:=by
 unfold isOp;rcases h with⟨_,rfl|rfl|rfl⟩|⟨_,rfl|rfl⟩ <;> decide
theorem qrb{used:Wd->Bool}{p rest:List Wd}(hc:c=63∨c=58)(h:Kind used ([c]::r) p rest):False:=by
 have hn:numW [c]=none/\defW [c]=none:=by rcases hc with rfl|rfl <;> decide +kernel
 generalize hv:[c]::r=v at h
 have hj:∀ {x op y z:Wd},qa2 x op y=some z->numW x≠none:=λhj e=>by
  unfold qa2 at hj;rw[e] at hj;cases hj
 cases h with
 |fold h1=>injection hv with e _;exact hj h1 (by rw[<-e];exact hn.1)
 |neutral h1 _=>injection hv with e _;rw[<-e,hn.1] at h1;cases h1
 |regroup _ h1=>injection hv with e _;exact hj h1 (by rw[<-e];exact hn.1)
 |same h1=>injection hv with e _;rw[<-e,hn.1] at h1;cases h1
 |double _=>injection hv with e _;injection e with e _;rcases hc with rfl|rfl <;> exact absurd e zDd
 |never h1 _ _=>injection hv with e _;rw[<-e,hn.1] at h1;cases h1
 |next _ _=>injection hv with e _;injection e with e _;rcases hc with rfl|rfl <;> exact absurd e zDd
 |deadJ _ _ _=>injection hv with e _;injection e with e _;rcases hc with rfl|rfl <;> exact absurd e zDd
 |deadS h1 _ _=>injection hv with e _;injection e with e _;rw[<-e] at h1;rcases hc with rfl|rfl <;> exact absurd h1 zDd
 |unused h1 _=>injection hv with e _;rw[<-e,hn.2] at h1;cases h1
theorem qmG(used:Wd->Bool)(hc:c=63∨c=58)(r:List Wd):O used ([c]::r)=[c]::O used r:=by
 rcases qkA used [c] r with⟨h,_⟩|⟨p,rest,h,_⟩;exact h;exact(qrb hc h).elim
theorem qtT{used:Wd->Bool}{p rest:List Wd}(hw:refW w=some x)(h:Kind used (w::r) p rest):False:=by
 have hn:numW w=none/\defW w=none:=⟨qhb hw,qbe hw⟩
 have hc:∀ c:UInt8,c≠38->w≠[c]:=λc h38 e=>by
  rw[e] at hw;unfold refW at hw;simp only[h38,false_and,if_false] at hw;cases hw
 generalize hv:w::r=v at h
 have hj:∀ {x op y z:Wd},qa2 x op y=some z->numW x≠none:=λhj e=>by
  unfold qa2 at hj;rw[e] at hj;cases hj
 cases h with
 |fold h1=>injection hv with e _;exact hj h1 (by rw[<-e];exact hn.1)
 |neutral h1 _=>injection hv with e _;rw[<-e,hn.1] at h1;cases h1
 |regroup _ h1=>injection hv with e _;exact hj h1 (by rw[<-e];exact hn.1)
 |same h1=>injection hv with e _;rw[<-e,hn.1] at h1;cases h1
 |double _=>injection hv with e _;exact hc 49 zDd e
 |never h1 _ _=>injection hv with e _;rw[<-e,hn.1] at h1;cases h1
 |next _ _=>injection hv with e _;exact hc 48 zDd e
 |deadJ _ _ _=>injection hv with e _;exact hc 48 zDd e
 |deadS h1 _ _=>
  injection hv with e _;rcases h1 with rfl|rfl;exact hc 59 zDd e
  exact hc 36 zDd e
 |unused h1 _=>injection hv with e _;rw[<-e,hn.2] at h1;cases h1
theorem O_ref(used:Wd->Bool)(hw:refW w=some x)(r:List Wd):O used (w::r)=w::O used r:=by
 rcases qkA used w r with⟨h,_⟩|⟨p,rest,h,_⟩;exact h;exact(qtT hw h).elim
inductive Ends (C:PW):Nat->MS->Nat->Wd->Nat->Prop
 |stop {s:MS} {e:Nat} {o:Wd}:stepM C s=.stop e o->e≠99->Ends C 0 s e o 1
 |step {n k e:Nat} {o:Wd} {s s':MS}:stepM C s=.run s'->Ends C n s' e o k->Ends C (n+1) s e o (qbZ s+k)
theorem qu2{C:PW}{s':MS}{e:Nat}{o:Wd}(h:Stp C k s s')(hs:stepM C s'=.stop e o)(he:e≠99):∃ n,Ends C n s e o (k+1):=by
 induction h with
 |zero s=>exact⟨0,.stop hs he⟩
 |@step k s s' s2 h1 _ ih=>
  obtain⟨n,h2⟩:=ih hs;refine⟨n+1,?_⟩;rw[add_assoc];exact .step h1 h2
section
variable{C:PW}{n k e:Nat}{o:Wd}{s s':MS}{r:List Wd}
theorem qdO(h:Ends C n s e o k)(hs:stepM C s=.run s'):∃ m j,n=m+1/\k=qbZ s+j/\Ends C m s' e o j:=by
 cases h with
 |stop h1 _=>rw[h1] at hs;cases hs
 |step h1 h2=>
  rw[h1] at hs;injection hs with hs;subst hs;exact⟨_,_,rfl,rfl,h2⟩
theorem qbk(h:Ends C n s e o k){o':Wd}(hs:stepM C s=.stop 99 o'):False:=by
 cases h with
 |stop h1 h2=>rw[h1] at hs;injection hs with hs;exact h2 hs
 |step h1 _=>rw[h1] at hs;cases hs
theorem qjl{t:MS}{f:Bool}(h:Ends C n s e o k)(hs:stepM C s=qdg t r d v f)(ht:t.out=s.out):d.length<256/\∃ m j,n=m+1/\k=qbZ s+j/\Ends C m { t with pc:=r,data:=v::d,digit:=f } e o j:=by
 unfold qdg at hs;split at hs
 rename_i hl
 exact⟨hl,qdO h hs⟩;exact(qbk h hs).elim
theorem qcx(hw:numW w=some v)(hv:s.pc=w::r)(h:Ends C n s e o k):s.data.length<256/\∃ m j,n=m+1/\k=w.length+Go.Stele.one s.digit+j/\Ends C m { s with pc:=r,data:=v::s.data,digit:=true } e o j:=by
 have h1:=qjl (t:=s) h (by rw[qa5 hv,qfe hw]) rfl;have hc:qbZ s=w.length+Go.Stele.one s.digit:=by unfold qbZ;rw[hv];exact qfg hw
 rw[hc] at h1;exact h1
theorem qk0(hc:c∈qcO)(hv:s.pc=[c]::r):qbZ s=1:=by unfold qbZ;rw[hv];exact qjx hc
theorem qh3(hc:isOp c)(hv:s.pc=[c]::r)(hd:s.data=b::a::d)(hb:binM c.toNat a b=some v)(h:Ends C n s e o k):∃ m j,n=m+1/\k=1+j/\Ends C m { s with pc:=r,data:=v::d,digit:=false } e o j:=by
 have h1:=qjl (t:=s) h (by
  rw[qa5 hv,qbE (qcS hc),qjJ hc];unfold binW;rw[hd];simp only
  rw[hb]) rfl
 rw[qk0 (qcS hc) hv] at h1;exact h1.2
theorem qho{l:Wd}(hr:refW w=some l)(hv:s.pc=w::[63]::r)(hd:s.data=a::d)(h:Ends C n s e o k):∃ t,qby l C.W=some t/\s.data.length<256/\∃ m j,n=m+1/\k=7+Go.Stele.one s.digit+j/\Ends C m { s with pc:=if a=0 then t else r,data:=d,digit:=false } e o j:=by
 have hs:stepM C s=qhQ C s l ([63]::r):=by rw[qa5 hv,qdN hr]
 have hc:qbZ s=7+Go.Stele.one s.digit:=by unfold qbZ;rw[hv];exact qep hr
 unfold qhQ at hs
 cases ht:qby l C.W with
 |none=>rw[ht] at hs;exact(qbk h hs).elim
 |some t=>
  rw[ht] at hs;simp only at hs;split at hs
  rename_i hl
  unfold qnk at hs;rw[hd] at hs;simp only[if_true] at hs;have h1:=qdO h hs;rw[hc] at h1;exact⟨t,rfl,hl,h1⟩;exact(qbk h hs).elim
end
theorem qgT{x:Wd}:∀ (a b:List Wd),x ∉ defs a->qby x (a++b)=qby x b
 |[],b,_=>rfl
 |w::a,b,h=>by
  rw[qcT] at h;have hne:¬ defW w=some x:=λe=>h (by rw[e];simp);rw[cons_append,qby,zn hne];exact qgT a b λhx=>h (List.mem_append.2 (.inr hx))
theorem qqo{used:Wd->Bool}{w:Wd}{r:List Wd}(h:(qa3 used (w::r)).1≠0):(∀ d∈defs ((w::r).take (qa3 used (w::r)).1),used d=false)/\defs (qa3 used (w::r)).2=[]:=⟨(qg2 used _ h).took,(qg2 used _ h).put⟩
theorem qwH(used:Wd->Bool)(hx:used x=true):∀ (n:Nat) (v k:List Wd),v.length<=n->qby x v=some k->qby x (O used v)=some (O used k):=by
 intro n
 induction n with
 |zero=>
  intro v k hn h;obtain rfl:=eq_nil_of_length_eq_zero (Nat.le_zero.1 hn)
  cases h
 |succ n ih=>
  intro v k hn h
  cases v with
  |nil=>cases h
  |cons w r=>
   rw[zLc] at hn
   by_cases h0:(qa3 used (w::r)).1=0
   have e:O used (w::r)=w::O used r:=by
    unfold O;rw[zLc,qcC,zp h0]
   rw[e,qby];rw[qby] at h;split at h
   rename_i hd
   rw[zp hd];injection h with h;rw[h]
   rename_i hd
   rw[zn hd];exact ih r k (by omega) h;have hok:=qft used (w::r) h0;obtain⟨f1,f2⟩:=qqo h0
   have e:O used (w::r)=(qa3 used (w::r)).2++O used ((w::r).drop (qa3 used (w::r)).1):=by
    unfold O;rw[zLc,qcC,zn h0,qeM used r.length _ (by rw[length_drop,zLc];omega)]
   rw[e,qgT _ _ (by rw[f2];simp)]
   have h2:qby x (w::r)=qby x ((w::r).drop (qa3 used (w::r)).1):=by
    conv=>lhs;rw[<-List.take_append_drop (qa3 used (w::r)).1 (w::r)]
    exact qgT _ _ λhm=>by rw[f1 x hm] at hx;cases hx
   rw[h2] at h;exact ih _ k (by rw[length_drop,zLc];omega) h
theorem qet{x:Wd}:∀ {W k:List Wd},qby x W=some k->∃ p w,W=p++w::k/\defW w=some x
 |[],k,h=>by cases h
 |w::r,k,h=>by
  rw[qby] at h;split at h
  rename_i hd
  injection h with h;subst h;exact⟨[],w,rfl,hd⟩;obtain⟨p,w',h1,h2⟩:=qet h;exact⟨w::p,w',by rw[h1];try rfl,h2⟩
theorem qt1{l:List Wd}(h:w∈l)(hd:defW w=some x):x∈defs l:=List.mem_filterMap.2 ⟨w,h,hd⟩
theorem qky{l:Wd}:∀ {rest:List Wd},qf0 l rest=true->∃ ds k,rest=ds++k/\qby l rest=some k/\(∀ w∈ds,(defW w).isSome=true)
 |[],h=>by cases h
 |w::r,h=>by
  rw[qf0] at h
  cases hd:defW w with
  |none=>rw[hd] at h;cases h
  |some d=>
   rw[hd] at h;simp only[Bool.or_eq_true,zDe] at h
   by_cases he:d=l
   ·subst he;exact⟨[w],r,rfl,by rw[qby,zp hd],λy hy=>by rw[List.mem_singleton.1 hy,hd];try rfl⟩
   obtain⟨ds,k,h1,h2,h3⟩:=qky (rest:=r) (by rcases h with h|h;exact absurd h he;exact h);refine⟨w::ds,k,by rw[h1];try rfl,?_,λy hy=>?_⟩;rw[qby,zn (by rw[hd];intro e;injection e with e;exact he e)];exact h2;rcases zMi.1 hy with rfl|hy
   ·rw[hd];try rfl
   exact h3 y hy
theorem qqw{W p rest k:List Wd}{l:Wd}(hn:(defs W).Nodup)(hW:W=p++rest)(h:qby l rest=some k):qby l W=some k:=by
 obtain⟨q,w,h1,h2⟩:=qet h;rw[hW,qgc] at hn;have h3:=(List.nodup_append.1 hn).2.2;rw[hW,qgT _ _ λhm=>h3 l hm l (qt1 (by rw[h1];simp) h2) rfl];exact h
theorem qvt(used:Wd->Bool):∀ (ds k:List Wd),(∀ w∈ds,(defW w).isSome=true)->∃ es,O used (ds++k)=es++O used k/\∀ w∈es,(defW w).isSome=true
 |[],k,_=>⟨[],rfl,λw hw=>by cases hw⟩
 |w::ds,k,h=>by
  obtain⟨es,h1,h2⟩:=qvt used ds k λy hy=>h y (zMo _ hy);obtain⟨x,hx⟩:=Option.isSome_iff_exists.1 (h w zMs);rw[cons_append];rcases qkA used w (ds++k) with⟨e,_⟩|⟨p,rest,q,e,_⟩
  ·refine⟨w::es,by rw[e,h1];try rfl,λy hy=>?_⟩;rcases zMi.1 hy with rfl|hy
   ·rw[hx];try rfl
   exact h2 y hy
  rw[e];generalize hv:w::(ds++k)=v at q
  have hnum:numW w=none:=by
   cases hq:numW w with
   |none=>rfl
   |some n=>rw[(qbu hq).1] at hx;cases hx
  have hne:∀ c:UInt8,defW [c]=none->w≠[c]:=λc hc e=>by rw[e,hc] at hx;cases hx
  have hj:∀ {x op y z:Wd},qa2 x op y=some z->numW x≠none:=λhj e=>by
   unfold qa2 at hj;rw[e] at hj;cases hj
  cases q with
  |fold q=>injection hv with e _;exact absurd (by rw[<-e];exact hnum) (hj q)
  |neutral q _=>injection hv with e _;rw[<-e,hnum] at q;cases q
  |regroup _ q=>injection hv with e _;exact absurd (by rw[<-e];exact hnum) (hj q)
  |same q=>injection hv with e _;rw[<-e,hnum] at q;cases q
  |double _=>injection hv with e _;exact absurd e (hne 49 (qbu qla).1)
  |never q _ _=>injection hv with e _;rw[<-e,hnum] at q;cases q
  |next _ _=>injection hv with e _;exact absurd e (hne 48 (qbu qeI).1)
  |deadJ _ _ _=>injection hv with e _;exact absurd e (hne 48 (qbu qeI).1)
  |@deadS c _ _ q _ _=>injection hv with e _;exact absurd e (hne c (by rcases q with rfl|rfl <;> decide +kernel))
  |unused q _=>
   injection hv with e1 e2;subst e2;exact⟨es,h1,h2⟩
structure Sim(used:Wd->Bool)(s t:MS):Prop where
 pc:t.pc=O used s.pc
 data:t.data=s.data
 calls:t.calls=s.calls.map (O used)
 mem:t.mem=s.mem
 inp:t.inp=s.inp
 out:t.out=s.out
structure Fine(W:List Wd)(s:MS):Prop where
 data:∀ v∈s.data,v<4294967296
 mem:∀ a,s.mem a<4294967296
 inp:∀ v∈s.inp,v<4294967296
 here:∃ p,W=p++s.pc
 calls:∀ c∈s.calls,∃ p,W=p++c
def pen(g f:Bool):Nat:=if g=true/\f=false then 1 else 0
theorem qv1(g f:Bool):Go.Stele.one g<=Go.Stele.one f+pen g f:=by cases g <;> cases f <;> decide
theorem qkQ(g f:Bool):pen g f<=1:=by cases g <;> cases f <;> decide
theorem qer(f:Bool):pen f f=0:=by cases f <;> decide
theorem qo0{c:Nat}(ha:a<4294967296)(hb:b<4294967296)(h:binM c a b=some v):v<4294967296:=by
 unfold binM at h;split at h;injection h with h;omega;split at h;injection h with h;omega;split at h;injection h with h;rw[<-h];exact Nat.mod_lt _ zDd;split at h;split at h;cases h;injection h with h;rw[<-h];exact Nat.lt_of_le_of_lt (Nat.div_le_self a b) ha;split at h;split at h;cases h;injection h with h;rw[<-h];exact Nat.lt_of_le_of_lt (Nat.mod_le a b) ha;split at h;injection h with h;rw[<-h];exact Nat.xor_lt_two_pow (n:=32) ha hb;injection h with h;rw[<-h];split <;> decide
theorem qnz(ha:a<4294967296)(h:qlp n c):binM c.toNat a n=some a:=by
 rcases h with⟨rfl,rfl|rfl|rfl⟩|⟨rfl,rfl|rfl⟩;show some ((a+0) % 4294967296)=_;rw[add_zero,Nat.mod_eq_of_lt ha];show some ((a+4294967296-0) % 4294967296)=_;rw[Nat.sub_zero,Nat.add_mod_right,Nat.mod_eq_of_lt ha];show some (a ^^^ 0)=_;rw[Nat.xor_zero];show some (a * 1 % 4294967296)=_;rw[Nat.mul_one,Nat.mod_eq_of_lt ha];show some (a / 1)=_;rw[Nat.div_one]
section
variable{W:List Wd}{D:Nat->Bool}{n k e:Nat}{o:Wd}{s s' t:MS}{r:List Wd}
theorem qtU{C:PW}{c:Nat}(h:Stp C c s s')(g:Ends C n s' e o k):∃ m,Ends C m s e o (c+k):=by
 induction h with
 |zero s=>exact⟨n,by rw[zero_add];exact g⟩
 |@step c s s' s2 h1 _ ih=>
  obtain⟨m,h2⟩:=ih g;exact⟨m+1,by rw[add_assoc];exact .step h1 h2⟩
theorem qll{C:PW}(hc:isOp c)(hv:s.pc=[c]::r)(h:Ends C n s e o k):∃ b a d,s.data=b::a::d:=by
 have hs:stepM C s=binW s c r:=by rw[qa5 hv,qbE (qcS hc),qjJ hc]
 unfold binW at hs
 match hd:s.data with
 |b::a::d=>exact⟨b,a,d,rfl⟩
 |[]=>rw[hd] at hs;exact(qbk h hs).elim
 |[_]=>rw[hd] at hs;exact(qbk h hs).elim
theorem qtd{C:PW}(hv:s.pc=[64]::r)(hd:s.data=a::d)(h:Ends C n s e o k):C.D a=true/\∃ m j,n=m+1/\k=1+j/\Ends C m { s with pc:=r,data:=s.mem a::d,digit:=false } e o j:=by
 have hs:stepM C s=qos C.D s r:=by rw[qa5 hv,qbE zDd];try rfl
 unfold qos at hs;rw[hd] at hs;simp only at hs;split at hs
 rename_i hD
 have h1:=qjl (t:=s) h hs rfl;rw[qk0 zDd hv] at h1;exact⟨hD,h1.2⟩;exact(qbk h hs).elim
theorem qp9{C:PW}{x:Nat}(hv:s.pc=[33]::r)(hd:s.data=a::x::d)(h:Ends C n s e o k):∃ m j,n=m+1/\k=1+j/\Ends C m { s with pc:=r,data:=d,mem:=λi=>if i=a then x else s.mem i,digit:=false } e o j:=by
 have hs:stepM C s=qi7 C.D s r:=by rw[qa5 hv,qbE zDd];try rfl
 unfold qi7 at hs;rw[hd] at hs;simp only at hs;split at hs;have h1:=qdO h hs;rw[qk0 zDd hv] at h1;exact h1;exact(qbk h hs).elim
theorem Fine.to(h:Fine W s)(hpc:∃ p,W=p++s'.pc)(hd:∀ v∈s'.data,v<4294967296)(hm:s'.mem=s.mem)(hi:s'.inp=s.inp)(hc:s'.calls=s.calls):Fine W s':=
 ⟨hd,by rw[hm];exact h.mem,by rw[hi];exact h.inp,hpc,by rw[hc];exact h.calls⟩
theorem qaX(h:∃ p,W=p++w::r):∃ p,W=p++r:=by
 obtain⟨p,hp⟩:=h;exact⟨p++[w],by rw[hp,zAs];try rfl⟩
theorem qeW{q:List Wd}(h:qby x W=some q):∃ p,W=p++q:=by
 obtain⟨p,w,h1,_⟩:=qet h;exact qaX ⟨p,h1⟩
theorem qom(h:∃ p,W=p++w::r)(hx:refW w=some x):qaN W x=true:=by
 obtain⟨p,hp⟩:=h;exact List.any_eq_true.2 ⟨w,by rw[hp];simp,by simp[hx]⟩
theorem qh5{q:List Wd}(hu:qaN W x=true)(h:qby x W=some q):qby x (O (qaN W) W)=some (O (qaN W) q):=qwH _ hu _ _ _ (zNr _) h
theorem quE(hS:Sim (qaN W) s t)(hF:Fine W s)(hr:∃ p,W=p++r):match qeB D s c r with
  |.run s1=>∃ t1,qeB D t c (O (qaN W) r)=.run t1/\Sim (qaN W) s1 t1/\t1.digit=false/\s1.digit=false/\Fine W s1
  |.stop e o=>qeB D t c (O (qaN W) r)=.stop e o:=by
 obtain⟨mem,pc,data,calls,inp,out,digit⟩:=s;obtain⟨mem',pc',data',calls',inp',out',digit'⟩:=t;obtain⟨h1,h2,h3,h4,h5,h6⟩:=hS;simp only at h1 h2 h3 h4 h5 h6;subst h1 h2 h3 h4 h5 h6;obtain⟨f1,f2,f3,f4,f5⟩:=hF;simp only at f1 f2 f3 f4 f5
 have hpush:∀ (i:List Nat) (d:List Nat) (v:Nat),(∀ x∈i,x<4294967296)->(∀ x∈d,x<4294967296)->v<4294967296->∀ (q q':List Wd) (b b':Bool),match qdg ⟨mem',q,data',calls,i,out',b⟩ r d v false with
   |.run s1=>∃ t1,qdg ⟨mem',q',data',calls.map (O (qaN W)),i,out',b'⟩ (O (qaN W) r) d v false=.run t1/\Sim (qaN W) s1 t1/\t1.digit=false/\s1.digit=false/\Fine W s1
   |.stop e o=>qdg ⟨mem',q',data',calls.map (O (qaN W)),i,out',b'⟩ (O (qaN W) r) d v false=.stop e o:=by
  intro i d v hi hd hv q q' b b';unfold qdg
  by_cases hl:d.length<256
  rw[zp hl,zp hl];refine⟨_,rfl,⟨rfl,rfl,rfl,rfl,rfl,rfl⟩,rfl,rfl,⟨λx hx=>?_,f2,hi,hr,f5⟩⟩;rcases zMi.1 hx with rfl|hx;exact hv;exact hd x hx;rw[zn hl,zn hl]
  try rfl
 unfold qeB
 by_cases c1:c=64
 ·rw[zp c1,zp c1];unfold qos
  cases data' with
  |nil=>rfl
  |cons a d=>
   simp only
   by_cases hD:D a=true
   ·rw[zp hD,zp hD];have hd:=λx hx=>f1 x (zMo a hx);unfold qdg
    by_cases hl:d.length<256
    rw[zp hl,zp hl];refine⟨_,rfl,⟨rfl,rfl,rfl,rfl,rfl,rfl⟩,rfl,rfl,⟨λx hx=>?_,f2,f3,hr,f5⟩⟩;rcases zMi.1 hx with rfl|hx;exact f2 a;exact hd x hx;rw[zn hl,zn hl]
    try rfl
   rw[zn hD,zn hD]
   try rfl
 rw[zn c1,zn c1]
 by_cases c2:c=33
 ·rw[zp c2,zp c2];unfold qi7
  match data',f1 with
  |[],_=>rfl
  |[_],_=>rfl
  |a::x::d,f1=>
   simp only
   by_cases hD:D a=true
   rw[zp hD,zp hD];refine⟨_,rfl,⟨rfl,rfl,rfl,rfl,rfl,rfl⟩,rfl,rfl,⟨λy hy=>f1 y (zMo _ (zMo _ hy)),λi=>?_,f3,hr,f5⟩⟩;simp only;split;exact f1 x (by simp);exact f2 i;rw[zn hD,zn hD]
   try rfl
 rw[zn c2,zn c2]
 by_cases c3:c=59
 rw[zp c3,zp c3];unfold qmF
 cases calls with
 |nil=>rfl
 |cons q l=>exact⟨_,rfl,⟨rfl,rfl,rfl,rfl,rfl,rfl⟩,rfl,rfl,⟨f1,f2,f3,f5 q zMs,λc hc=>f5 c (zMo _ hc)⟩⟩
 rw[zn c3,zn c3]
 by_cases c4:c=44
 rw[zp c4,zp c4];refine hpush inp'.tail data' _ (λx hx=>f3 x (List.mem_of_mem_tail hx)) f1 ?_ _ _ _ _
 cases inp' with
 |nil=>show(4294967295:Nat)<_;decide
 |cons v l=>exact f3 v zMs
 rw[zn c4,zn c4]
 by_cases c5:c=46
 rw[zp c5,zp c5];unfold qmt
 cases data' with
 |nil=>rfl
 |cons a d=>exact⟨_,rfl,⟨rfl,rfl,rfl,rfl,rfl,rfl⟩,rfl,rfl,⟨λx hx=>f1 x (zMo _ hx),f2,f3,hr,f5⟩⟩
 rw[zn c5,zn c5]
 by_cases c6:c=36
 rw[zp c6,zp c6];rw[zn c6,zn c6]
 by_cases c7:c=43∨c=45∨c=42∨c=47∨c=37∨c=94∨c=60
 ·rw[zp c7,zp c7];unfold binW
  match data',f1 with
  |[],_=>rfl
  |[_],_=>rfl
  |b::a::d,f1=>
   simp only
   cases hb:binM c.toNat a b with
   |none=>rfl
   |some v=>
    simp only;have hv:=qo0 (f1 a (by simp)) (f1 b (by simp)) hb;unfold qdg
    by_cases hl:d.length<256
    rw[zp hl,zp hl];refine⟨_,rfl,⟨rfl,rfl,rfl,rfl,rfl,rfl⟩,rfl,rfl,⟨λx hx=>?_,f2,f3,hr,f5⟩⟩;rcases zMi.1 hx with rfl|hx;exact hv;exact f1 x (zMo _ (zMo _ hx));rw[zn hl,zn hl]
    try rfl
 rw[zn c7,zn c7]
 try rfl
def oneW(C:PW)(u:MS)(w:Wd)(v:List Wd):MR:=match w with
 |[c]=>qeB C.D u c v
 |_=>lost u
theorem qhT{C:PW}{u:MS}{v:List Wd}(hd:defW w=none)(hn:numW w=none)(hr:refW w=none):qhF C u w v=oneW C u w v:=by
 unfold qhF oneW;rw[hd];simp only;rw[hn];simp only;rw[hr]
 try rfl
theorem qix{op y z:Wd}(h:qa2 x op y=some z):∃ a b c ch,numW x=some a/\numW y=some b/\op=[ch]/\isOp ch/\binM ch.toNat a b=some c/\numW z=some c/\z.length<=x.length+y.length+1/\c<4294967296:=by
 have hl:=qeR h;unfold qa2 at h;split at h
 rename_i a b ha hb
 split at h
 rename_i c hc
 split at h;injection h with h;have hlt:=qkg ((qcP _ _).1 ha).1 ((qcP _ _).1 hb).1 hc;obtain⟨ch,h1,h2,h3⟩:=qtz hc;exact⟨a,b,c,ch,ha,hb,h1,h2,h3,by rw[<-h];exact qgb hlt,hl,hlt⟩;cases h;cases h;cases h
end
theorem qrq{W:List Wd}{D:Nat->Bool}(hn:(defs W).Nodup):∀ (n:Nat) (s t:MS) (e:Nat) (o:Wd) (k:Nat),Ends ⟨W,D⟩ n s e o k->Sim (qaN W) s t->Fine W s->∃ n' k',Ends ⟨O (qaN W) W,D⟩ n' t e o k'/\k'<=k+pen t.digit s.digit:=by
 intro n
 induction n using Nat.strongRecOn with
 |ind n ih=>
 intro s t e o k h hS hF;have hT:=hF.here
 cases hv:s.pc with
 |nil=>
  exact(qbk h (o':=s.out) (by unfold stepM;rw[hv];try rfl)).elim
 |cons w r=>
  rw[hv] at hT;have hp:=hS.pc;rw[hv] at hp;have hpo:=qv1 t.digit s.digit;have hple:=qkQ t.digit s.digit;rcases qkA (qaN W) w r with⟨eO,_⟩|⟨p,rest,q,eO,_⟩
  ·rw[eO] at hp
   cases hd:defW w with
   |some x=>
    obtain⟨m,j,rfl,rfl,h1⟩:=qdO h (qiV hv hd);obtain⟨n',k',g1,g2⟩:=ih m (by omega) _ { t with pc:=O (qaN W) r } e o j h1 ⟨rfl,hS.data,hS.calls,hS.mem,hS.inp,hS.out⟩ (hF.to (qaX hT) hF.data rfl rfl rfl);refine⟨_,_,.step (qiV hp hd) g1,?_⟩;rw[qgU hp hd,qgU hv hd];simp only at g2
    omega
   |none=>
    cases hnum:numW w with
    |some v=>
     obtain⟨hl,m,j,rfl,rfl,h1⟩:=qcx hnum hv h
     obtain⟨n',k',g1,g2⟩:=ih m (by omega) _ { t with pc:=O (qaN W) r,data:=v::s.data,digit:=true } e o j h1 ⟨rfl,rfl,hS.calls,hS.mem,hS.inp,hS.out⟩ (hF.to (qaX hT) (λx hx=>by
      rcases zMi.1 hx with rfl|hx;exact qjh hnum
      exact hF.data x hx) rfl rfl rfl)
     refine⟨_,_,.step (s':={ t with pc:=O (qaN W) r,data:=v::s.data,digit:=true }) ?_ g1,?_⟩;rw[qa5 hp,qfe hnum];unfold qdg;rw[hS.data,zp hl];have hc:qbZ t=w.length+Go.Stele.one t.digit:=by unfold qbZ;rw[hp];exact qfg hnum
     rw[hc];simp only[qer] at g2
     omega
    |none=>
     cases hr:refW w with
     |some x=>
      have hu:=qom hT hr;have hs:stepM ⟨W,D⟩ s=qhQ ⟨W,D⟩ s x r:=by rw[qa5 hv,qdN hr]
      have hc:qbZ s=7+Go.Stele.one s.digit:=by unfold qbZ;rw[hv];exact qep hr
      have hct:qbZ t=7+Go.Stele.one t.digit:=by unfold qbZ;rw[hp];exact qep hr
      unfold qhQ at hs
      cases hk:qby x W with
      |none=>simp only[hk] at hs;exact(qbk h hs).elim
      |some kk=>
       have hk2:=qh5 hu hk
       cases r with
       |nil=>simp only[hk] at hs;exact(qbk h hs).elim
       |cons y r=>
        simp only[hk] at hs
        by_cases hl:s.data.length<256
        rotate_left;rw[zn hl] at hs;exact(qbk h hs).elim;rw[zp hl] at hs
        by_cases hy:y=[63]
        subst hy;rw[zp rfl] at hs;rw[qmG _ (.inl rfl)] at hp;unfold qnk at hs
        cases hdat:s.data with
        |nil=>rw[hdat] at hs;exact(qbk h hs).elim
        |cons a d=>
         rw[hdat] at hs;simp only at hs;obtain⟨m,j,rfl,rfl,h1⟩:=qdO h hs;have hf:=hF.data;rw[hdat] at hf
         obtain⟨n',k',g1,g2⟩:=ih m (by omega) _ { t with pc:=if a=0 then O (qaN W) kk else O (qaN W) r,data:=d,digit:=false } e o j h1 ⟨by simp only;split <;> rfl,rfl,hS.calls,hS.mem,hS.inp,hS.out⟩ (hF.to (by
          simp only;split;exact qeW hk
          exact qaX (qaX hT)) (λx hx=>hf x (zMo _ hx)) rfl rfl rfl)
         refine⟨_,_,.step (s':={ t with pc:=if a=0 then O (qaN W) kk else O (qaN W) r,data:=d,digit:=false }) ?_ g1,?_⟩;rw[qa5 hp,qdN hr];unfold qhQ qnk;have hl':(a::d).length<256:=by rw[<-hdat];exact hl
         simp only[hk2,hS.data,hdat,if_true];rw[zp hl'];rw[hct,hc];simp only[qer] at g2;omega
        rw[zn hy] at hs
        by_cases hy2:y=[58]
        rotate_left;rw[zn hy2] at hs;exact(qbk h hs).elim;subst hy2;rw[zp rfl] at hs;rw[qmG _ (.inr rfl)] at hp
        by_cases hcl:s.calls.length<64
        rotate_left;rw[zn hcl] at hs;exact(qbk h hs).elim;rw[zp hcl] at hs;obtain⟨m,j,rfl,rfl,h1⟩:=qdO h hs
        obtain⟨n',k',g1,g2⟩:=ih m (by omega) _ { t with pc:=O (qaN W) kk,calls:=O (qaN W) r::t.calls,digit:=false } e o j h1 ⟨rfl,hS.data,by simp only[zMc];rw[hS.calls],hS.mem,hS.inp,hS.out⟩ ⟨hF.data,hF.mem,hF.inp,qeW hk,λc hc=>by
         rcases zMi.1 hc with rfl|hc;exact qaX (qaX hT)
         exact hF.calls c hc⟩
        refine⟨_,_,.step (s':={ t with pc:=O (qaN W) kk,calls:=O (qaN W) r::t.calls,digit:=false }) ?_ g1,?_⟩;rw[qa5 hp,qdN hr];unfold qhQ;have hcl2:t.calls.length<64:=by rw[hS.calls,zLm];exact hcl
        simp[hk2,hS.data,hl,hcl2];rw[hct,hc];simp only[qer] at g2
        omega
     |none=>
      have hcost:∀ (u:MS) (v:List Wd),u.pc=w::v->qbZ u=1:=λu v hu=>by
       unfold qbZ qjI;rw[hu];simp[hd,hnum,hr]
      have hs:stepM ⟨W,D⟩ s=_:=(qa5 hv).trans (qhT hd hnum hr);have hs2:stepM ⟨O (qaN W) W,D⟩ t=_:=(qa5 hp).trans (qhT hd hnum hr);rcases w with _|⟨c,_|⟨c2,w2⟩⟩;exact(qbk h hs).elim;rotate_left;exact(qbk h hs).elim;have hs:stepM ⟨W,D⟩ s=qeB D s c r:=hs;have hs2:stepM ⟨O (qaN W) W,D⟩ t=qeB D t c (O (qaN W) r):=hs2;have key:=quE (D:=D) (c:=c) hS hF (qaX hT)
      cases hsg:qeB D s c r with
      |stop e2 o2=>
       rw[hsg] at key hs;simp only at key;rw[key] at hs2
       cases h with
       |stop h1 h2=>
        rw[hs] at h1;injection h1 with h1 h3;subst h1 h3
        exact⟨_,_,.stop hs2 h2,by omega⟩
       |step h1 _=>rw[hs] at h1;cases h1
      |run s1=>
       rw[hsg] at key hs;obtain⟨t1,k1,k2,k3,k4,k5⟩:=key;rw[k1] at hs2;obtain⟨m,j,rfl,rfl,h1⟩:=qdO h hs;obtain⟨n',k',g1,g2⟩:=ih m (by omega) _ t1 e o j h1 k2 k5;refine⟨_,_,.step hs2 g1,?_⟩;rw[hcost t _ hp,hcost s _ hv];rw[k3,k4,qer] at g2;omega
  rw[eO] at hp;generalize hvv:w::r=v at q;rw[hvv] at hv hT;clear hvv eO
  cases q with
  |@fold x y op z rest h1=>
   obtain⟨a,b,c,ch,p1,p2,rfl,p4,p5,p6,p7,p8⟩:=qix h1;obtain⟨hl,m1,j1,rfl,rfl,h2⟩:=qcx p1 hv h;obtain⟨hl2,m2,j2,rfl,rfl,h3⟩:=qcx p2 rfl h2;obtain⟨m3,j3,rfl,rfl,h4⟩:=qh3 p4 rfl rfl p5 h3
   obtain⟨n',k',g1,g2⟩:=ih m3 (by omega) _ { t with pc:=O (qaN W) rest,data:=c::s.data,digit:=true } e o j3 h4 ⟨rfl,rfl,hS.calls,hS.mem,hS.inp,hS.out⟩ (hF.to (qaX (qaX (qaX hT))) (λx hx=>by
     rcases zMi.1 hx with rfl|hx;exact p8
     exact hF.data x hx) rfl rfl rfl)
   have hp:t.pc=z::O (qaN W) rest:=hp;refine⟨_,_,.step (s':={ t with pc:=O (qaN W) rest,data:=c::s.data,digit:=true }) ?_ g1,?_⟩;rw[qa5 hp,qfe p6];unfold qdg;rw[hS.data,zp hl];have hc:qbZ t=z.length+Go.Stele.one t.digit:=by unfold qbZ;rw[hp];exact qfg p6
   rw[hc];simp only at g2 ⊢;have:=qkQ true false;have e1:Go.Stele.one true=1:=rfl
   omega
  |@neutral x nn c rest h1 h2=>
   have hop:=qip h2;obtain⟨hl,m1,j1,rfl,rfl,h3⟩:=qcx h1 hv h;obtain⟨b,a,d,hd⟩:=qll hop rfl h3;simp only at hd;injection hd with hd1 hd;subst hd1;obtain⟨m2,j2,rfl,rfl,h4⟩:=qh3 hop rfl (by simp only;rw[hd]) (qnz (hF.data a (by rw[hd];simp)) h2) h3;obtain⟨n',k',g1,g2⟩:=ih m2 (by omega) _ t e o j2 h4 ⟨hp,by simp only;rw[hS.data,hd],hS.calls,hS.mem,hS.inp,hS.out⟩ (hF.to (qaX (qaX hT)) (by simp only;rw[<-hd];exact hF.data) rfl rfl rfl);refine⟨n',k',g1,?_⟩;have:=qkQ t.digit false;simp only at g2
   omega
  |@regroup x y z c rest hc h1=>
   obtain⟨a,b,cc,ch,p1,p2,p3,p4,p5,p6,p7,p8⟩:=qix h1;injection p3 with p3 _;subst p3;obtain⟨hl,m1,j1,rfl,rfl,h3⟩:=qcx p1 hv h;obtain⟨b',a',d,hd⟩:=qll p4 rfl h3;simp only at hd;injection hd with hd1 hd;subst hd1;obtain⟨u,z',b1,b2,b3⟩:=qnP hc a' a b;rw[p5] at b2;injection b2 with b2;subst b2;obtain⟨m2,j2,rfl,rfl,h4⟩:=qh3 p4 rfl (by simp only;rw[hd]) b1 h3;obtain⟨hl2,m3,j3,rfl,rfl,h5⟩:=qcx p2 rfl h4
   have hv3:∃ v,binM c.toNat u b=some v:=by
    rcases hc with rfl|rfl|rfl <;> exact⟨_,rfl⟩
   obtain⟨v,hv3⟩:=hv3;obtain⟨m4,j4,rfl,rfl,h6⟩:=qh3 p4 rfl rfl hv3 h5;have ha:=hF.data a' (by rw[hd];simp);have hvlt:=qo0 ha p8 (by rw[<-b3];exact hv3)
   obtain⟨n',k',g1,g2⟩:=ih m4 (by omega) _ { t with pc:=O (qaN W) rest,data:=v::d,digit:=false } e o j4 h6 ⟨rfl,rfl,hS.calls,hS.mem,hS.inp,hS.out⟩ (hF.to (qaX (qaX (qaX (qaX hT)))) (λx hx=>by
     rcases zMi.1 hx with rfl|hx;exact hvlt
     exact hF.data x (by rw[hd];exact zMo _ hx)) rfl rfl rfl)
   have hp:t.pc=z::[c]::O (qaN W) rest:=hp;rw[hd] at hl;simp only[zLc] at hl;refine⟨_,_,.step (s':={ t with pc:=[c]::O (qaN W) rest,data:=cc::s.data,digit:=true }) ?_ (.step (s':={ t with pc:=O (qaN W) rest,data:=v::d,digit:=false }) ?_ g1),?_⟩;rw[qa5 hp,qfe p6];unfold qdg;rw[hS.data,hd,zp (by simp only[zLc];omega)];rw[qa5 rfl,qbE (qcS p4),qjJ p4];unfold binW;simp only[hd];rw[<-b3,hv3];simp only;unfold qdg;rw[zp (by omega)];have hc:qbZ t=z.length+Go.Stele.one t.digit:=by unfold qbZ;rw[hp];exact qfg p6
   rw[hc,qk0 (qcS p4) rfl];simp only[qer] at g2 ⊢;have e1:Go.Stele.one false=0:=rfl
   omega
  |@same x nn rest h1=>
   obtain⟨hl,m1,j1,rfl,rfl,h3⟩:=qcx h1 hv h;obtain⟨hD,m2,j2,rfl,rfl,h4⟩:=qtd rfl rfl h3;obtain⟨hl2,m3,j3,rfl,rfl,h5⟩:=qcx h1 rfl h4;obtain⟨m4,j4,rfl,rfl,h6⟩:=qp9 rfl rfl h5
   have hm:(λi=>if i=nn then s.mem nn else s.mem i)=s.mem:=by
    funext i;split
    rename_i e;rw[e]
    rfl
   obtain⟨n',k',g1,g2⟩:=ih m4 (by omega) _ t e o j4 h6 ⟨hp,hS.data,hS.calls,hS.mem.trans hm.symm,hS.inp,hS.out⟩ (hF.to (qaX (qaX (qaX (qaX hT)))) hF.data hm rfl rfl);refine⟨n',k',g1,?_⟩;have:=qkQ t.digit false;simp only at g2
   omega
  |@double w l rest h1=>
   have ho:isOp 60:=by unfold isOp;decide
   obtain⟨hl,m1,j1,rfl,rfl,h3⟩:=qcx qla hv h;obtain⟨b',a,d,hd⟩:=qll ho rfl h3;simp only at hd;injection hd with hd1 hd;subst hd1;obtain⟨m2,j2,rfl,rfl,h4⟩:=qh3 ho rfl (v:=if a<1 then 1 else 0) (by simp only;rw[hd]) (by unfold binM;simp) h3;obtain⟨hl2,m3,j3,rfl,rfl,h5⟩:=qcx qla rfl h4;obtain⟨m4,j4,rfl,rfl,h6⟩:=qh3 ho rfl (v:=if (if a<1 then 1 else 0)<1 then 1 else 0) rfl (by unfold binM;simp) h5;obtain⟨kk,hk,_,m5,j5,rfl,rfl,h7⟩:=qho h1 rfl rfl h6;have hT5:=qaX (qaX (qaX (qaX hT)));have hk2:=qh5 (qom hT5 h1) hk
   have hz:((if (if a<1 then 1 else 0)<1 then 1 else 0)=0)=(a=0):=by
    by_cases ha:a=0
    subst ha;simp;rw[zn (show ¬ a<1 by omega)];simp[ha]
   simp only[hz] at h7
   obtain⟨n',k',g1,g2⟩:=ih m5 (by omega) _ { t with pc:=if a=0 then O (qaN W) kk else O (qaN W) rest,data:=d,digit:=false } e o j5 h7 ⟨by simp only;split <;> rfl,rfl,hS.calls,hS.mem,hS.inp,hS.out⟩ (hF.to (by
     simp only;split;exact qeW hk
     exact qaX (qaX hT5)) (λx hx=>hF.data x (by rw[hd];exact zMo _ hx)) rfl rfl rfl)
   have hp:t.pc=w::[63]::O (qaN W) rest:=hp;have hct:qbZ t=7+Go.Stele.one t.digit:=by unfold qbZ;rw[hp];exact qep h1
   refine⟨_,_,.step (s':={ t with pc:=if a=0 then O (qaN W) kk else O (qaN W) rest,data:=d,digit:=false }) ?_ g1,?_⟩;rw[qa5 hp,qdN h1];unfold qhQ qnk;have hl':(a::d).length<256:=by rw[<-hd];exact hl
   simp only[hk2,hS.data,hd,if_true];rw[zp hl'];rw[hct];simp only[qer] at g2 ⊢;have e1:Go.Stele.one false=0:=rfl;have e2:([49]:Wd).length=1:=rfl
   omega
  |@never x w l nn rest h1 h2 h3=>
   obtain⟨hl,m1,j1,rfl,rfl,h4⟩:=qcx h1 hv h;obtain⟨kk,hk,_,m2,j2,rfl,rfl,h5⟩:=qho h3 rfl rfl h4;rw[zn h2] at h5;obtain⟨n',k',g1,g2⟩:=ih m2 (by omega) _ t e o j2 h5 ⟨hp,hS.data,hS.calls,hS.mem,hS.inp,hS.out⟩ (hF.to (qaX (qaX (qaX hT))) hF.data rfl rfl rfl);refine⟨n',k',g1,?_⟩;have:=qkQ t.digit false;simp only at g2
   omega
  |@next w l rest h1 h2=>
   obtain⟨hl,m1,j1,rfl,rfl,h4⟩:=qcx qeI hv h;obtain⟨kk,hk,_,m2,j2,rfl,rfl,h5⟩:=qho h1 rfl rfl h4;rw[zp rfl] at h5;obtain⟨ds,k2,e1,e2,e3⟩:=qky h2;have hT3:=qaX (qaX (qaX hT));obtain⟨p0,hp0⟩:=hT3;have hk':=qqw hn hp0 e2;rw[hk] at hk';injection hk' with hk';subst hk';obtain⟨es,q1,q2⟩:=qvt (qaN W) ds kk e3;have hp:t.pc=es++O (qaN W) kk:=by rw[<-q1,<-e1];exact hp
   obtain⟨n',k',g1,g2⟩:=ih m2 (by omega) _ { t with pc:=O (qaN W) kk } e o j2 h5 ⟨rfl,hS.data,hS.calls,hS.mem,hS.inp,hS.out⟩ (hF.to (qeW hk) hF.data rfl rfl rfl);obtain⟨n2,g3⟩:=qtU (qj9 es t _ hp q2) g1;refine⟨n2,_,g3,?_⟩;have:=qkQ t.digit false;simp only at g2
   omega
  |@deadJ w l dead rest h1 h2 h3=>
   obtain⟨hl,m1,j1,rfl,rfl,h4⟩:=qcx qeI hv h;obtain⟨kk,hk,hl2,m2,j2,rfl,rfl,h5⟩:=qho h1 rfl rfl h4;rw[zp rfl] at h5;have hk2:=qh5 (qom (qaX hT) h1) hk;have hp:t.pc=[48]::w::[63]::O (qaN W) rest:=hp;obtain⟨n',k',g1,g2⟩:=ih m2 (by omega) _ { t with pc:=O (qaN W) kk,digit:=false } e o j2 h5 ⟨rfl,hS.data,hS.calls,hS.mem,hS.inp,hS.out⟩ (hF.to (qeW hk) hF.data rfl rfl rfl);refine⟨_,_,.step (s':={ t with pc:=w::[63]::O (qaN W) rest,data:=0::s.data,digit:=true }) ?_ (.step (s':={ t with pc:=O (qaN W) kk,digit:=false }) ?_ g1),?_⟩;rw[qa5 hp,qfe qeI];unfold qdg;rw[hS.data,zp hl];rw[qa5 rfl,qdN h1];unfold qhQ qnk;have hl3:(0::s.data).length<256:=hl2;simp only[hk2,if_true];rw[zp hl3,<-hS.data];have hc:qbZ t=([48]:Wd).length+Go.Stele.one t.digit:=by unfold qbZ;rw[hp];exact qfg qeI
   have hc2:qbZ { t with pc:=w::[63]::O (qaN W) rest,data:=0::s.data,digit:=true }=7+Go.Stele.one true:=qep h1;rw[hc,hc2];simp only[qer] at g2 ⊢
   omega
  |@deadS c dead rest h1 h2 h3=>
   have hp:t.pc=[c]::O (qaN W) rest:=hp;have hsig:c∈qcO:=by rcases h1 with rfl|rfl <;> decide
   have hs:stepM ⟨W,D⟩ s=qeB D s c (dead++rest):=by rw[qa5 hv,qbE hsig]
   have hs2:stepM ⟨O (qaN W) W,D⟩ t=qeB D t c (O (qaN W) rest):=by rw[qa5 hp,qbE hsig]
   have hc:=qk0 hsig hv;have hct:=qk0 hsig hp;rcases h1 with rfl|rfl;have hs:stepM ⟨W,D⟩ s=qmF s:=hs;have hs2:stepM ⟨O (qaN W) W,D⟩ t=qmF t:=hs2;unfold qmF at hs hs2
   cases hcl:s.calls with
   |nil=>rw[hcl] at hs;exact(qbk h hs).elim
   |cons kk l=>
    rw[hcl] at hs;rw[hS.calls,hcl,zMc] at hs2;simp only at hs hs2;obtain⟨m1,j1,rfl,rfl,h4⟩:=qdO h hs;obtain⟨n',k',g1,g2⟩:=ih m1 (by omega) _ { t with pc:=O (qaN W) kk,calls:=l.map (O (qaN W)),digit:=false } e o j1 h4 ⟨rfl,hS.data,rfl,hS.mem,hS.inp,hS.out⟩ ⟨hF.data,hF.mem,hF.inp,hF.calls kk (by rw[hcl];simp),λc hc=>hF.calls c (by rw[hcl];exact zMo _ hc)⟩;refine⟨_,_,.step hs2 g1,?_⟩;rw[hct,hc];simp only[qer] at g2;omega
   have hs:stepM ⟨W,D⟩ s=.stop 0 s.out:=hs;have hs2:stepM ⟨O (qaN W) W,D⟩ t=.stop 0 t.out:=hs2
   cases h with
   |stop h4 h5=>
    rw[hs] at h4;injection h4 with h4 h6;subst h4 h6;rw[hS.out] at hs2
    exact⟨_,_,.stop hs2 h5,by omega⟩
   |step h4 _=>rw[hs] at h4;cases h4
  |@unused w l rest h1 h2=>
   obtain⟨m1,j1,rfl,rfl,h4⟩:=qdO h (qiV hv h1);obtain⟨n',k',g1,g2⟩:=ih m1 (by omega) _ t e o j1 h4 ⟨hp,hS.data,hS.calls,hS.mem,hS.inp,hS.out⟩ (hF.to (qaX hT) hF.data rfl rfl rfl);refine⟨n',k',g1,?_⟩;rw[qgU hv h1];simp only at g2;omega
theorem qqZ{W:List Wd}{D:Nat->Bool}{inp:List Nat}(hn:(defs W).Nodup)(hi:∀ v∈inp,v<4294967296){e:Nat}{o:Wd}(h:Ends ⟨W,D⟩ n ⟨λ_=>0,W,[],[],inp,[],false⟩ e o k):∃ n' k',Ends ⟨qei W,D⟩ n' ⟨λ_=>0,qei W,[],[],inp,[],false⟩ e o k'/\k'<=k:=
 qrq hn n _ ⟨λ_=>0,qei W,[],[],inp,[],false⟩ e o k h ⟨rfl,rfl,rfl,rfl,rfl,rfl⟩ ⟨λv hv=>(not_mem_nil hv).elim,λ_=>(by show(0:Nat)<_;decide),hi,⟨[],rfl⟩,λc hc=>(not_mem_nil hc).elim⟩
theorem qkI{D:Nat->Bool}{inp:List Nat}(hi:∀ v∈inp,v<4294967296){e:Nat}{o:Wd}:∀ (f:Nat) {W:List Wd} {n k:Nat},qgn W->Ends ⟨W,D⟩ n ⟨λ_=>0,W,[],[],inp,[],false⟩ e o k->∃ n' k',Ends ⟨optF f W,D⟩ n' ⟨λ_=>0,optF f W,[],[],inp,[],false⟩ e o k'/\k'<=k
 |0,W,n,k,_,h=>⟨n,k,h,zNr _⟩
 |f+1,W,n,k,hA,h=>by
  rw[optF];split;exact⟨n,k,h,zNr _⟩;obtain⟨n1,k1,h1,h2⟩:=qqZ hA.1 hi h;obtain⟨n2,k2,h3,h4⟩:=qkI hi f (qo5 hA) h1;exact⟨n2,k2,h3,zNt h4 h2⟩
theorem qtw{D:Nat->Bool}{inp:List Nat}(hi:∀ v∈inp,v<4294967296){e:Nat}{o:Wd}{W:List Wd}(hA:qgn W)(h:Ends ⟨W,D⟩ n ⟨λ_=>0,W,[],[],inp,[],false⟩ e o k):∃ n' k',Ends ⟨optP W,D⟩ n' ⟨λ_=>0,optP W,[],[],inp,[],false⟩ e o k'/\k'<=k:=qkI hi _ hA h
def effW(c:UInt8):Option (Nat×Nat):=
 if c=64 then some (1,1) else if c=33 then some (2,0) else if c=44 then some (0,1) else if c=46 then some (1,0)
 else if c=43∨c=45∨c=42∨c=47∨c=37∨c=94∨c=60 then some (2,1) else none
inductive Ty (L:Wd->Nat):Option Nat->List Wd->Prop
 |nil {o:Option Nat}:Ty L o []
 |free {d:Nat} {v:List Wd}:Ty L (some d) v->Ty L none v
 |defn {w x:Wd} {r:List Wd}:defW w=some x->L x=0->Ty L (some 0) r->Ty L (some 0) (w::r)
 |fdef {w x:Wd} {r:List Wd}:defW w=some x->Ty L (some (L x)) r->Ty L none (w::r)
 |num {d n:Nat} {w:Wd} {r:List Wd}:numW w=some n->Ty L (some (d+1)) r->Ty L (some d) (w::r)
 |jump {w x:Wd} {r:List Wd}:refW w=some x->L x=0->Ty L (some 0) r->Ty L (some 1) (w::[63]::r)
 |goto {w x:Wd} {r:List Wd}:refW w=some x->L x=0->Ty L none r->Ty L (some 0) ([48]::w::[63]::r)
 |call {d:Nat} {w x:Wd} {r:List Wd}:refW w=some x->Ty L (some (d+1)) r->Ty L (some (d+L x)) (w::[58]::r)
 |sign {d a b:Nat} {c:UInt8} {r:List Wd}:effW c=some (a,b)->Ty L (some (d+b)) r->Ty L (some (d+a)) ([c]::r)
 |stop {d:Nat} {c:UInt8} {r:List Wd}:(c=59∨c=36)->Ty L none r->Ty L (some d) ([c]::r)
theorem qdJ{p:Nat×Nat}(h:effW c=some p):c∈qcO/\c≠59/\c≠36:=by
 have key:∀ n:Nat,n<256->(effW (UInt8.ofNat n)).isSome=true->UInt8.ofNat n∈qcO/\UInt8.ofNat n≠59/\UInt8.ofNat n≠36:=by decide +kernel
 have:=key c.toNat c.toNat_lt;rw[UInt8.ofNat_toNat] at this;exact this (by rw[h];try rfl)
theorem qbl(h:c∈qcO):defW [c]=none/\numW [c]=none/\refW [c]=none:=by
 obtain⟨e1,e2,e3⟩:=qbo h;exact⟨e1,qic e3,e2⟩
theorem qdw(h:c=59∨c=36):c∈qcO:=by rcases h with rfl|rfl <;> decide
section
variable{L:Wd->Nat}{d:Nat}{o:Option Nat}{w x:Wd}{r:List Wd}
theorem qhD(hn:numW w=some n)(hr:∀ y q,r=y::q->refW y=none)(h:Ty L (some d) (w::r)):Ty L (some (d+1)) r:=by
 obtain⟨k1,k2⟩:=qbu hn;generalize hv:w::r=v at h;generalize ho:some d=o at h
 cases h with
 |nil=>cases hv
 |free _=>cases ho
 |defn h1 _ _=>injection hv with e _;rw[<-e,k1] at h1;cases h1
 |fdef _ _=>cases ho
 |num _ h2=>injection hv with _ e;injection ho with ho;subst e ho;exact h2
 |jump h1 _ _=>injection hv with e _;rw[<-e,k2] at h1;cases h1
 |goto h1 _ _=>injection hv with _ e;rw[hr _ _ e] at h1;cases h1
 |call h1 _=>injection hv with e _;rw[<-e,k2] at h1;cases h1
 |sign h1 _=>injection hv with e _;rw[e,(qbl (qdJ h1).1).2.1] at hn;cases hn
 |stop h1 _=>injection hv with e _;rw[e,(qbl (qdw h1)).2.1] at hn;cases hn
theorem qfV(hc:effW c=some (a,b))(h:Ty L (some d) ([c]::r)):∃ e,d=e+a/\Ty L (some (e+b)) r:=by
 obtain⟨k0,k4,k5⟩:=qdJ hc;obtain⟨k1,k2,k3⟩:=qbl k0;generalize hv:[c]::r=v at h;generalize ho:some d=o at h
 cases h with
 |nil=>cases hv
 |free _=>cases ho
 |defn h1 _ _=>injection hv with e _;rw[<-e,k1] at h1;cases h1
 |fdef _ _=>cases ho
 |num h1 h2=>injection hv with e _;rw[<-e,k2] at h1;cases h1
 |jump h1 _ _=>injection hv with e _;rw[<-e,k3] at h1;cases h1
 |goto h1 _ _=>injection hv with e _;rw[e,qeI] at k2;cases k2
 |call h1 _=>injection hv with e _;rw[<-e,k3] at h1;cases h1
 |sign h1 h2=>
  injection hv with e e2;injection e with e _;subst e e2;rw[hc] at h1;injection h1 with h1;injection h1 with e1 e2;subst e1 e2;injection ho with ho
  exact⟨_,ho,h2⟩
 |stop h1 _=>
  injection hv with e _;injection e with e _;rw[<-e] at h1;rcases h1 with h1|h1;exact absurd h1 k4;exact absurd h1 k5
theorem qrs(hr:refW w=some x)(h:Ty L (some d) (w::[63]::r)):d=1/\L x=0/\Ty L (some 0) r:=by
 have k1:=qbe hr;have k2:=qhb hr;generalize hv:w::[63]::r=v at h;generalize ho:some d=o at h
 cases h with
 |nil=>cases hv
 |free _=>cases ho
 |defn h1 _ _=>injection hv with e _;rw[<-e,k1] at h1;cases h1
 |fdef _ _=>cases ho
 |num h1 h2=>injection hv with e _;rw[<-e,k2] at h1;cases h1
 |jump h1 h2 h3=>
  injection hv with e e2;injection e2 with _ e2;subst e e2;rw[hr] at h1;injection h1 with h1;subst h1;injection ho with ho
  exact⟨ho,h2,h3⟩
 |goto h1 _ _=>injection hv with e _;rw[e,qeI] at k2;cases k2
 |call h1 _=>injection hv with _ e;injection e with e _;exact absurd e zDd
 |sign h1 _=>injection hv with e _;rw[e,(qbl (qdJ h1).1).2.2] at hr;cases hr
 |stop h1 _=>injection hv with e _;rw[e,(qbl (qdw h1)).2.2] at hr;cases hr
theorem qok{z:Wd}(hz:numW z=some n)(hr:refW w=some x)(h:Ty L (some d) (z::w::[63]::r)):d=0/\L x=0/\Ty L none r/\(n≠0->Ty L (some 0) r):=by
 obtain⟨k1,k2⟩:=qbu hz;generalize hv:z::w::[63]::r=v at h;generalize ho:some d=o at h
 cases h with
 |nil=>cases hv
 |free _=>cases ho
 |defn h1 _ _=>injection hv with e _;rw[<-e,k1] at h1;cases h1
 |fdef _ _=>cases ho
 |num h1 h2=>
  injection hv with _ e;injection ho with ho;subst e ho;obtain⟨e1,e2,e3⟩:=qrs hr h2
  exact⟨by omega,e2,.free e3,λ_=>e3⟩
 |jump h1 _ _=>injection hv with e _;rw[<-e,k2] at h1;cases h1
 |goto h1 h2 h3=>
  injection hv with e0 e;injection e with e e2;injection e2 with _ e2;subst e e2;rw[hr] at h1;injection h1 with h1;subst h1;injection ho with ho;refine⟨ho,h2,h3,λhn=>?_⟩;rw[e0,qeI] at hz;injection hz with hz
  exact absurd hz.symm hn
 |call h1 _=>injection hv with e _;rw[<-e,k2] at h1;cases h1
 |sign h1 _=>injection hv with e _;rw[e,(qbl (qdJ h1).1).2.1] at hz;cases hz
 |stop h1 _=>injection hv with e _;rw[e,(qbl (qdw h1)).2.1] at hz;cases hz
theorem qwa(hc:c=59∨c=36)(h:Ty L (some d) ([c]::r)):Ty L none r:=by
 obtain⟨k1,k2,k3⟩:=qbl (qdw hc);generalize hv:[c]::r=v at h;generalize ho:some d=o at h
 cases h with
 |nil=>cases hv
 |free _=>cases ho
 |defn h1 _ _=>injection hv with e _;rw[<-e,k1] at h1;cases h1
 |fdef _ _=>cases ho
 |num h1 h2=>injection hv with e _;rw[<-e,k2] at h1;cases h1
 |jump h1 _ _=>injection hv with e _;rw[<-e,k3] at h1;cases h1
 |goto h1 _ _=>injection hv with e _;rw[e,qeI] at k2;cases k2
 |call h1 _=>injection hv with e _;rw[<-e,k3] at h1;cases h1
 |sign h1 h2=>
  injection hv with e e2;injection e with e _;subst e;rcases hc with rfl|rfl;exact absurd rfl (qdJ h1).2.1
  exact absurd rfl (qdJ h1).2.2
 |stop h1 h2=>injection hv with _ e;subst e;exact h2
theorem qrG(hd:defW w=some x)(h:Ty L (some d) (w::r)):d=0/\L x=0/\Ty L (some 0) r:=by
 generalize hv:w::r=v at h;generalize ho:some d=o at h
 cases h with
 |nil=>cases hv
 |free _=>cases ho
 |defn h1 h2 h3=>
  injection hv with e e2;subst e e2;rw[hd] at h1;injection h1 with h1;subst h1;injection ho with ho
  exact⟨ho,h2,h3⟩
 |fdef _ _=>cases ho
 |num h1 h2=>injection hv with e _;rw[e,(qbu h1).1] at hd;cases hd
 |jump h1 _ _=>injection hv with e _;rw[e,qbe h1] at hd;cases hd
 |goto h1 _ _=>injection hv with e _;rw[e,(qbu qeI).1] at hd;cases hd
 |call h1 _=>injection hv with e _;rw[e,qbe h1] at hd;cases hd
 |sign h1 h2=>injection hv with e _;rw[e,(qbl (qdJ h1).1).1] at hd;cases hd
 |stop h1 h2=>injection hv with e _;rw[e,(qbl (qdw h1)).1] at hd;cases hd
theorem qnT(h:Ty L none (w::r)):(∃ d,Ty L (some d) (w::r))∨∃ x,defW w=some x/\Ty L (some (L x)) r:=by
 cases h with
 |free h=>exact .inl ⟨_,h⟩
 |fdef h1 h2=>exact .inr ⟨_,h1,h2⟩
end
section
variable{L:Wd->Nat}
theorem qse{rest:List Wd}(hrest:∀ y r,rest=y::r->(defW y).isSome=true):∀ (n:Nat) (dead:List Wd) (o:Option Nat),dead.length<=n->(∀ y∈dead,defW y=none)->Ty L o (dead++rest)->Ty L none rest:=by
 have weak:∀ {o:Option Nat} {v:List Wd},Ty L o v->Ty L none v:=λ{o v} h=>by
  cases o with
  |none=>exact h
  |some d=>exact .free h
 have cut:∀ {dead r:List Wd} {z:Wd},dead++rest=z::r->defW z=none->∃ dead',dead=z::dead'/\r=dead'++rest:=by
  intro dead r z e hz
  cases dead with
  |nil=>
   have:=hrest z r e;rw[hz] at this
   cases this
  |cons y dead=>
   rw[cons_append] at e;injection e with e1 e2;subst e1 e2;exact⟨dead,rfl,rfl⟩
 intro n
 induction n with
 |zero=>
  intro dead o hn hd h;obtain rfl:=eq_nil_of_length_eq_zero (Nat.le_zero.1 hn)
  exact weak h
 |succ n ih=>
  intro dead o hn hd h
  cases dead with
  |nil=>exact weak h
  |cons y dead=>
   have hy:=hd y zMs;have hd2:=λz hz=>hd z (zMo y hz);rw[zLc] at hn
   have main:∀ d,Ty L (some d) (y::(dead++rest))->Ty L none rest:=by
    intro d h;generalize hv:y::(dead++rest)=v at h;generalize ho:some d=o at h
    cases h with
    |nil=>cases hv
    |free _=>cases ho
    |defn h1 _ _=>injection hv with e _;rw[<-e,hy] at h1;cases h1
    |fdef _ _=>cases ho
    |num h1 h2=>
     injection hv with _ e;subst e
     exact ih dead _ (by omega) hd2 h2
    |jump h1 _ h2=>
     injection hv with _ e;obtain⟨q,rfl,rfl⟩:=cut e (by decide +kernel)
     exact ih q _ (by simp only[zLc] at hn;omega) (λz hz=>hd2 z (zMo _ hz)) h2
    |goto h1 _ h2=>
     injection hv with _ e;obtain⟨q,rfl,e2⟩:=cut e (qbe h1);obtain⟨q2,rfl,rfl⟩:=cut e2.symm (by decide +kernel)
     exact ih q2 _ (by simp only[zLc] at hn;omega) (λz hz=>hd2 z (zMo _ (zMo _ hz))) h2
    |call h1 h2=>
     injection hv with _ e;obtain⟨q,rfl,rfl⟩:=cut e (by decide +kernel)
     exact ih q _ (by simp only[zLc] at hn;omega) (λz hz=>hd2 z (zMo _ hz)) h2
    |sign h1 h2=>
     injection hv with _ e;subst e
     exact ih dead _ (by omega) hd2 h2
    |stop h1 h2=>
     injection hv with _ e;subst e;exact ih dead _ (by omega) hd2 h2
   cases o with
   |some d=>exact main d h
   |none=>
    rcases qnT h with⟨d,h⟩|⟨x,h1,_⟩;exact main d h;rw[hy] at h1;cases h1
theorem qwI{l:Wd}(hl:L l=0):∀ {rest:List Wd},qf0 l rest=true->Ty L none rest->Ty L (some 0) rest
 |[],h,_=>by cases h
 |w::r,h,ht=>by
  rcases qnT ht with⟨d,ht⟩|⟨x,h1,h2⟩
  cases hd:defW w with
  |none=>rw[qf0,hd] at h;cases h
  |some x=>
   obtain⟨rfl,_,_⟩:=qrG hd ht;exact ht
  rw[qf0,h1] at h;simp only[Bool.or_eq_true,zDe] at h
  have h0:L x=0:=by
   rcases h with rfl|h;exact hl
   cases r with
   |nil=>cases h
   |cons y q=>
    cases hd:defW y with
    |none=>rw[qf0,hd] at h;cases h
    |some z=>exact(qrG hd h2).1
  rw[h0] at h2;exact .defn h1 h0 h2
theorem qkN(h:isOp c):effW c=some (2,1):=by
 unfold isOp at h;rcases h with rfl|rfl|rfl|rfl|rfl|rfl|rfl <;> decide
theorem qq4{y:Wd}(h:numW y=some n):refW y=none:=(qbu h).2
theorem qwm{used:Wd->Bool}{v p rest:List Wd}(h:Kind used v p rest){d:Nat}(ht:Ty L (some d) v)(T:List Wd)(hT:∀ o,Ty L o rest->Ty L o T):Ty L (some d) (p++T):=by
 have sgn:∀ {c:UInt8} {q:List Wd},c∈qcO->∀ y s,[c]::q=y::s->refW y=none:=λhc y s e=>by
  injection e with e _;rw[<-e];exact(qbl hc).2.2
 cases h with
 |@fold x y op z rest h1=>
  obtain⟨k1,k2,k3,k4⟩:=qfZ h1;unfold qa2 at h1;split at h1
  rename_i a b ha hb
  split at h1
  rename_i c hc
  split at h1;injection h1 with h1;have hlt:=qkg ((qcP _ _).1 ha).1 ((qcP _ _).1 hb).1 hc
  have hop:∃ ch,op=[ch]/\isOp ch:=by
   unfold qd7 at hc;unfold isOp;split at hc
   rename_i e;exact⟨_,e,by decide⟩
   split at hc
   rename_i e;exact⟨_,e,by decide⟩
   split at hc
   rename_i e;exact⟨_,e,by decide⟩
   split at hc
   rename_i e;exact⟨_,e,by decide⟩
   split at hc
   rename_i e;exact⟨_,e,by decide⟩
   split at hc
   rename_i e;exact⟨_,e,by decide⟩
   split at hc
   rename_i e;exact⟨_,e,by decide⟩
   cases hc
  obtain⟨ch,rfl,hop⟩:=hop;have t1:=qhD ha (λy s e=>by injection e with e _;rw[<-e];exact qq4 hb) ht;have t2:=qhD hb (sgn (qcS hop)) t1;obtain⟨e,he,t3⟩:=qfV (qkN hop) t2;obtain rfl:e=d:=by omega
  subst h1;exact .num (qgb hlt) (hT _ t3);cases h1;cases h1
  cases h1
 |@neutral x n c rest h1 h2=>
  have hop:=qip h2;have t1:=qhD h1 (sgn (qcS hop)) ht;obtain⟨e,he,t3⟩:=qfV (qkN hop) t1;obtain rfl:e+1=d:=by omega
  exact hT _ t3
 |@regroup x y z c rest hc h1=>
  have hop:isOp c:=by
   unfold isOp;rcases hc with rfl|rfl|rfl <;> decide
  unfold qa2 at h1;split at h1
  rename_i a b ha hb
  split at h1
  rename_i k hk
  split at h1;injection h1 with h1;have hlt:=qkg ((qcP _ _).1 ha).1 ((qcP _ _).1 hb).1 hk;have t1:=qhD ha (sgn (qcS hop)) ht;obtain⟨e,he,t2⟩:=qfV (qkN hop) t1;have t3:=qhD hb (sgn (qcS hop)) t2;obtain⟨e',he',t4⟩:=qfV (qkN hop) t3;subst h1;refine .num (qgb hlt) ?_;have e1:d+1=e'+2:=by omega
  rw[e1];exact .sign (qkN hop) (hT _ t4);cases h1;cases h1
  cases h1
 |@same x n rest h1=>
  have t1:=qhD h1 (sgn zDd) ht;obtain⟨e,he,t2⟩:=qfV (a:=1) (b:=1) zDd t1;have t3:=qhD h1 (sgn zDd) t2;obtain⟨e',he',t4⟩:=qfV (a:=2) (b:=0) zDd t3;obtain rfl:e'=d:=by omega
  exact hT _ t4
 |@double w l rest h1=>
  have t1:=qhD qla (sgn zDd) ht;obtain⟨e,he,t2⟩:=qfV (a:=2) (b:=1) zDd t1;have t3:=qhD qla (sgn zDd) t2;obtain⟨e',he',t4⟩:=qfV (a:=2) (b:=1) zDd t3;obtain⟨j1,j2,j3⟩:=qrs h1 t4;obtain rfl:d=1:=by omega
  exact .jump h1 j2 (hT _ j3)
 |@never x w l n rest h1 h2 h3=>
  obtain⟨j1,j2,j3,j4⟩:=qok h1 h3 ht;subst j1
  exact hT _ (j4 h2)
 |@next w l rest h1 h2=>
  obtain⟨j1,j2,j3,j4⟩:=qok qeI h1 ht;subst j1
  exact hT _ (qwI j2 h2 j3)
 |@deadJ w l dead rest h1 h2 h3=>
  obtain⟨j1,j2,j3,j4⟩:=qok qeI h1 ht;subst j1
  exact .goto h1 j2 (hT _ (qse h3 _ dead _ (zNr _) h2 j3))
 |@deadS c dead rest h1 h2 h3=>
  exact .stop h1 (hT _ (qse h3 _ dead _ (zNr _) h2 (qwa h1 ht)))
 |@unused w l rest h1 h2=>
  obtain⟨j1,j2,j3⟩:=qrG h1 ht;subst j1;exact hT _ j3
theorem qvU(used:Wd->Bool):∀ (n:Nat) (v:List Wd) (o:Option Nat),v.length<=n->Ty L o v->Ty L o (O used v):=by
 intro n
 induction n with
 |zero=>
  intro v o hn h;obtain rfl:=eq_nil_of_length_eq_zero (Nat.le_zero.1 hn)
  exact .nil
 |succ n ih=>
  intro v o hn h
  cases v with
  |nil=>exact .nil
  |cons w r=>
   rw[zLc] at hn
   have main:∀ d,Ty L (some d) (w::r)->Ty L (some d) (O used (w::r)):=by
    intro d h;rcases qkA used w r with⟨e,_⟩|⟨p,rest,k,e,hl⟩
    ·rw[e];generalize hv:w::r=v at h;generalize ho:some d=o at h
     cases h with
     |nil=>cases hv
     |free _=>cases ho
     |defn h1 h2 h3=>injection hv with e1 e2;subst e1 e2;exact .defn h1 h2 (ih _ _ (by omega) h3)
     |fdef _ _=>cases ho
     |num h1 h2=>injection hv with e1 e2;subst e1 e2;exact .num h1 (ih _ _ (by omega) h2)
     |jump h1 h2 h3=>
      injection hv with e1 e2;subst e1 e2;rw[qmG used (.inl rfl)];simp only[zLc] at hn
      exact .jump h1 h2 (ih _ _ (by omega) h3)
     |goto h1 h2 h3=>
      injection hv with e1 e2;subst e1 e2;rw[O_ref used h1,qmG used (.inl rfl)];simp only[zLc] at hn
      exact .goto h1 h2 (ih _ _ (by omega) h3)
     |call h1 h2=>
      injection hv with e1 e2;subst e1 e2;rw[qmG used (.inr rfl)];simp only[zLc] at hn
      exact .call h1 (ih _ _ (by omega) h2)
     |sign h1 h2=>injection hv with e1 e2;subst e1 e2;exact .sign h1 (ih _ _ (by omega) h2)
     |stop h1 h2=>injection hv with e1 e2;subst e1 e2;exact .stop h1 (ih _ _ (by omega) h2)
    rw[e];exact qwm k h _ λo ho=>ih _ _ (by omega) ho
   cases o with
   |some d=>exact main d h
   |none=>
    rcases qnT h with⟨d,h⟩|⟨x,h1,h2⟩;exact .free (main d h);have h3:=ih r _ (by omega) h2;rcases qkA used w r with⟨e,_⟩|⟨p,rest,k,e,hl⟩;rw[e];exact .fdef h1 h3;rw[e];generalize hv:w::r=v at k
    have hnum:numW w=none:=by
     cases hq:numW w with
     |none=>rfl
     |some n=>rw[(qbu hq).1] at h1;cases h1
    have hne:∀ c:UInt8,defW [c]=none->w≠[c]:=λc hc e=>by rw[e,hc] at h1;cases h1
    have hj:∀ {x op y z:Wd},qa2 x op y=some z->numW x≠none:=λhj e=>by
     unfold qa2 at hj;rw[e] at hj;cases hj
    cases k with
    |fold q=>injection hv with e _;exact absurd (by rw[<-e];exact hnum) (hj q)
    |neutral q _=>injection hv with e _;rw[<-e,hnum] at q;cases q
    |regroup _ q=>injection hv with e _;exact absurd (by rw[<-e];exact hnum) (hj q)
    |same q=>injection hv with e _;rw[<-e,hnum] at q;cases q
    |double _=>injection hv with e _;exact absurd e (hne 49 (qbu qla).1)
    |never q _ _=>injection hv with e _;rw[<-e,hnum] at q;cases q
    |next _ _=>injection hv with e _;exact absurd e (hne 48 (qbu qeI).1)
    |deadJ _ _ _=>injection hv with e _;exact absurd e (hne 48 (qbu qeI).1)
    |@deadS c _ _ q _ _=>injection hv with e _;exact absurd e (hne c (qbl (qdw q)).1)
    |unused q _=>
     injection hv with e1 e2;subst e1 e2;exact .free h3
theorem qvR{o:Option Nat}{v:List Wd}(h:Ty L o v):Ty L o (qei v):=qvU _ _ v o (zNr _) h
theorem qrB{o:Option Nat}:∀ (f:Nat) {v:List Wd},Ty L o v->Ty L o (optF f v)
 |0,v,h=>h
 |f+1,v,h=>by
  rw[optF];split;exact h;exact qrB f (qvR h)
theorem qxJ{o:Option Nat}{v:List Wd}(h:Ty L o v):Ty L o (optP v):=qrB _ h
theorem ty_nb(known:Wd->Nat){o:Option Nat}{v:List Wd}(h:Ty L o v):∀ (t:Wd),(qbb t=true->∃ d,o=some (d+1))->∀ (j:Nat) (w x:Wd),v[j]? = some w->defW w=some x->qbb ((v.take j).foldl (addT known) t)=false:=by
 have sgn:∀ {c:UInt8} (t:Wd),c∈qcO->qbb (addT known t [c])=false:=λ{c} t hc=>by
  obtain⟨e1,e2,e3⟩:=qbo hc;have h1:=(qhy known t [c] e1 (by simp)).2.1;rw[h1];unfold qaG;rw[e2];unfold qbb;simp[e3]
 have pass:∀ {t w x:Wd},defW w=some x->addT known t w=t:=λhd=>by unfold addT;rw[hd]
 have no:∀ {t:Wd},qbb t=false->∀ {P:Prop},qbb t=true->P:=λh1 _ h2=>by rw[h1] at h2;cases h2
 induction h with
 |nil=>intro t ht j w x hw;simp at hw
 |free _ ih=>
  intro t ht
  exact ih t λh=>by obtain⟨d,hd⟩:=ht h;cases hd
 |@defn w x r h1 h2 h3 ih=>
  intro t ht j y z hy hz
  have h0:qbb t=false:=by
   cases hl:qbb t with
   |false=>rfl
   |true=>obtain⟨d,hd⟩:=ht hl;injection hd with hd;omega
  cases j with
  |zero=>exact h0
  |succ j=>
   rw[take_succ_cons,foldl_cons,pass h1]
   exact ih t (no h0) j y z (by simpa using hy) hz
 |@fdef w x r h1 h2 ih=>
  intro t ht j y z hy hz
  have h0:qbb t=false:=by
   cases hl:qbb t with
   |false=>rfl
   |true=>obtain⟨d,hd⟩:=ht hl;cases hd
  cases j with
  |zero=>exact h0
  |succ j=>
   rw[take_succ_cons,foldl_cons,pass h1]
   exact ih t (no h0) j y z (by simpa using hy) hz
 |@num d n w r h1 h2 ih=>
  intro t ht j y z hy hz
  cases j with
  |zero=>
   simp only[List.getElem?_cons_zero,Option.some.injEq] at hy;rw[<-hy,(qbu h1).1] at hz
   cases hz
  |succ j=>
   rw[take_succ_cons,foldl_cons]
   exact ih _ (λ_=>⟨d,rfl⟩) j y z (by simpa using hy) hz
 |@jump w x r h1 h2 h3 ih=>
  intro t ht j y z hy hz
  match j,hy with
  |0,hy=>
   simp only[List.getElem?_cons_zero,Option.some.injEq] at hy;rw[<-hy,qbe h1] at hz
   cases hz
  |1,hy=>
   simp only[List.getElem?_cons_zero,List.getElem?_cons_succ,Option.some.injEq] at hy;rw[<-hy,(qbl (c:=63) zDd).1] at hz
   cases hz
  |j+2,hy=>
   rw[take_succ_cons,take_succ_cons,foldl_cons,foldl_cons]
   exact ih _ (no (sgn _ zDd)) j y z (by simpa using hy) hz
 |@goto w x r h1 h2 h3 ih=>
  intro t ht j y z hy hz
  match j,hy with
  |0,hy=>
   simp only[List.getElem?_cons_zero,Option.some.injEq] at hy;rw[<-hy,(qbu qeI).1] at hz
   cases hz
  |1,hy=>
   simp only[List.getElem?_cons_zero,List.getElem?_cons_succ,Option.some.injEq] at hy;rw[<-hy,qbe h1] at hz
   cases hz
  |2,hy=>
   simp only[List.getElem?_cons_zero,List.getElem?_cons_succ,Option.some.injEq] at hy;rw[<-hy,(qbl (c:=63) zDd).1] at hz
   cases hz
  |j+3,hy=>
   rw[take_succ_cons,take_succ_cons,take_succ_cons,foldl_cons,foldl_cons,foldl_cons]
   exact ih _ (no (sgn _ zDd)) j y z (by simpa using hy) hz
 |@call d w x r h1 h2 ih=>
  intro t ht j y z hy hz
  match j,hy with
  |0,hy=>
   simp only[List.getElem?_cons_zero,Option.some.injEq] at hy;rw[<-hy,qbe h1] at hz
   cases hz
  |1,hy=>
   simp only[List.getElem?_cons_zero,List.getElem?_cons_succ,Option.some.injEq] at hy;rw[<-hy,(qbl (c:=58) zDd).1] at hz
   cases hz
  |j+2,hy=>
   rw[take_succ_cons,take_succ_cons,foldl_cons,foldl_cons]
   exact ih _ (no (sgn _ zDd)) j y z (by simpa using hy) hz
 |@sign d a b c r h1 h2 ih=>
  intro t ht j y z hy hz
  cases j with
  |zero=>
   simp only[List.getElem?_cons_zero,Option.some.injEq] at hy;rw[<-hy,(qbl (qdJ h1).1).1] at hz
   cases hz
  |succ j=>
   rw[take_succ_cons,foldl_cons]
   exact ih _ (no (sgn _ (qdJ h1).1)) j y z (by simpa using hy) hz
 |@stop d c r h1 h2 ih=>
  intro t ht j y z hy hz
  cases j with
  |zero=>
   simp only[List.getElem?_cons_zero,Option.some.injEq] at hy;rw[<-hy,(qbl (qdw h1)).1] at hz
   cases hz
  |succ j=>
   rw[take_succ_cons,foldl_cons];exact ih _ (no (sgn _ (qdw h1))) j y z (by simpa using hy) hz
end
end Go.Stele.Wi
