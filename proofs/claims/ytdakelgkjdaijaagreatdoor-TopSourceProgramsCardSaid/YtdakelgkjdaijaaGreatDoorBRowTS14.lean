/- Texts joined: PtC, PtD, PtE, PtF, PtG, PtH, PtI, PtJ, PtK, PtL, PtN, PtO, Fmt1, Fmt2, LawA0, Fmt5, RtSize. -/
import Derived.Test.YtdakelgkjdaijaaGreatDoorBRowTS2
import Derived.Test.YtdakelgkjdaijaaGreatDoorBRowTS4
import Derived.Test.YtdakelgkjdaijaaGreatDoorBRowTS5
import Derived.Test.YtdakelgkjdaijaaGreatDoorBRowTS6
import Derived.Test.YtdakelgkjdaijaaGreatDoorBRowTS7
import Derived.Test.YtdakelgkjdaijaaGreatDoorBRowTS8
import Derived.Test.YtdakelgkjdaijaaGreatDoorBRowTS9
import Derived.Test.YtdakelgkjdaijaaGreatDoorBRowTS13
set_option linter.unusedVariables false
set_option linter.unusedSimpArgs false
set_option maxRecDepth 100000
set_option maxHeartbeats 4000000
namespace Go.Proofs.YtdakelgkjdaijaaGreatDoor.Pp
open Go.GL Go.RowKit Go.Stele
open Asm (qbh qbh.mk qbu)
theorem xor32 {a b:Nat} (ha:a<4294967296) (hb:b<4294967296):IntKind.u32.wrap (((BitVec.ofInt IntKind.u32.bits (a:Int) ^^^ BitVec.ofInt IntKind.u32.bits (b:Int)).toNat:Nat):Int)=((a ^^^ b:Nat):Int):=by
 have h1:(BitVec.ofInt 32 (a:Int) ^^^ BitVec.ofInt 32 (b:Int)).toNat=a ^^^ b:=by
  rw[BitVec.ofInt_natCast,BitVec.ofInt_natCast,BitVec.toNat_xor,BitVec.toNat_ofNat,BitVec.toNat_ofNat,Nat.mod_eq_of_lt ha,Nat.mod_eq_of_lt hb]
 have h2:a ^^^ b<4294967296:=Nat.xor_lt_two_pow (n:=32) ha hb;show IntKind.u32.wrap (((BitVec.ofInt 32 (a:Int) ^^^ BitVec.ofInt 32 (b:Int)).toNat:Nat):Int)=_;rw[h1,qnB zo]
theorem wadd (a b:Nat):IntKind.u32.wrap ((a:Int)+b)=(((a+b) % 4294967296:Nat):Int):=by
 rw[qlN];omega
theorem wsub {a b:Nat} (hb:b<4294967296):IntKind.u32.wrap ((a:Int)-b)=(((a+4294967296-b) % 4294967296:Nat):Int):=by
 rw[qlN];omega
theorem wmul (a b:Nat):IntKind.u32.wrap ((a:Int) * b)=((a * b % 4294967296:Nat):Int):=by
 rw[qlN,Int.natCast_emod,Int.natCast_mul];rfl
theorem resT {n:Int} {m:Nat} {o:Option Nat} (ho:o=some m) (h:n=(m:Int)):qbq [int .u32 n,bool true]=LV.tuple [int .u32 ((o.getD 0:Nat):Int),bool o.isSome]:=by
 subst h;subst ho;rfl
attribute [local irreducible] LOps qae qad LCalls Go.GL.Pure qax qaj qac LQ LAny qaE qal
section
variable {B0:Nat} {w0:World}
theorem qmb (a b:Nat) (op:Wd) (ha:a<4294967296) (hb:b<4294967296):LCalls (KC B0 w0) 148 [int .u32 a,str op,int .u32 b] [] (Ret (.tuple [int .u32 ((qe5 a op b).getD 0:Nat),bool (qe5 a op b).isSome])):=by
 have hC:qe5 a op b=qe5 a op b:=rfl
 conv at hC=>rhs;unfold qe5
 refine cI Tryz.func148 rfl (n:=47) rfl rfl rfl ?_;refine gaa ?_;refine oC rfl (fun h1=>?_) (fun h1=>?_)
 ·rw[if_pos (zt h1)] at hC;refine gag ?_;refine oP (Pure.addW rfl rfl) rfl ?_;refine gab ?_;exact qaf rfl (rC (zrt rfl) (zra rfl)) (resT hC (wadd a b))
 rw[if_neg (zf h1)] at hC;refine gas ?_;refine oC rfl (fun h2=>?_) (fun h2=>?_)
 ·rw[if_pos (zt h2)] at hC;refine gag ?_;refine oP (Pure.subW rfl rfl) rfl ?_;refine gab ?_;exact qaf rfl (rC (zrt rfl) (zra rfl)) (resT hC (wsub hb))
 rw[if_neg (zf h2)] at hC;refine gas ?_;refine oC rfl (fun h3=>?_) (fun h3=>?_)
 ·rw[if_pos (zt h3)] at hC;refine gag ?_;refine oP (Pure.mulW rfl rfl) rfl ?_;refine gab ?_;exact qaf rfl (rC (zrt rfl) (zra rfl)) (resT hC (wmul a b))
 rw[if_neg (zf h3)] at hC;refine gas ?_;refine oC rfl (fun h4=>?_) (fun h4=>?_)
 ·rw[if_pos (zt h4)] at hC;refine gag ?_;refine oP (Pure.xorW rfl rfl) rfl ?_;refine gab ?_;exact qaf rfl (rC (zrt rfl) (zra rfl)) (resT hC (xor32 ha hb))
 rw[if_neg (zf h4)] at hC;refine gas ?_;refine oC rfl (fun h5=>?_) (fun h5=>?_)
 ·rw[if_pos (zt h5)] at hC;refine gaa ?_;refine oC rfl (fun h6=>?_) (fun h6=>?_)
  ·have hlt:a<b:=by have:=zt h6;omega
   refine gaa ?_;exact qaf rfl (rC (zrt rfl) (zra rfl)) (by rw[hC,if_pos hlt];rfl)
  ·have hlt:¬ a<b:=by have:=zf h6;omega
   refine gaa ?_;exact qaf rfl (rC (zrt rfl) (zra rfl)) (by rw[hC,if_neg hlt];rfl)
 rw[if_neg (zf h5)] at hC;refine gas ?_;refine cC [(0,int .u32 a),(1,str op),(2,int .u32 b),(34,bool (decide (op=[47]∨op=[37])))] ?_ (fun j hj=>?_)
 ·refine oC rfl (fun h6=>?_) (fun h6=>?_)
  ·refine gaq ?_;exact ⟨⟨rfl,rfl,rfl,qas (by simp[zt h6]),trivial⟩,rfl,rfl⟩
  ·refine gas ?_;exact ⟨⟨rfl,rfl,rfl,qas (by simp[zf h6]),trivial⟩,rfl,rfl⟩
 refine oC rfl (fun h6=>?_) (fun h6=>?_)
 ·have h6':op=[47]∨op=[37]:=zt h6;refine gaa ?_;refine oC rfl (fun h7=>?_) (fun h7=>?_)
  ·have hb0:b=0:=by have:=zt h7;omega
   have hCn:qe5 a op b=none:=by
    rw[hC];rcases h6' with h|h
    ·rw[if_pos h,if_pos hb0]
    ·rw[if_neg (by rw[h];decide),if_pos h,if_pos hb0]
   refine gaa ?_;exact qaf hj (rC (zrt rfl) (zra rfl)) (by rw[hCn];rfl)
  ·have hb0:¬ b=0:=by have:=zf h7;omega
   refine gaa ?_;refine oC rfl (fun h8=>?_) (fun h8=>?_)
   ·rw[if_pos (zt h8),if_neg hb0] at hC;have hle:a / b<=a:=Nat.div_le_self _ _
    have e1:IntKind.u32.wrap ((a:Int).tdiv (b:Int))=((a / b:Nat):Int):=by
     rw[Int.tdiv_eq_ediv_of_nonneg zo,<-Int.natCast_ediv];exact qnB ⟨Int.natCast_nonneg _,Int.ofNat_le.2 (show a / b<=4294967295 by omega)⟩
    refine gag ?_;refine oP (Pure.quoW rfl rfl zo) rfl ?_;refine gab ?_;exact qaf hj (rC (zrt rfl) (zra rfl)) (resT hC e1)
   ·have h9:op=[37]:=by
     rcases h6' with h|h
     ·exact absurd h (zf h8)
     ·exact h
    rw[if_neg (zf h8),if_pos h9,if_neg hb0] at hC
    have e1:(a:Int).tmod (b:Int)=((a % b:Nat):Int):=by
     rw[Int.tmod_eq_emod_of_nonneg zo,<-Int.natCast_emod]
    refine gaa ?_;refine oP (Pure.remW rfl rfl zo) rfl ?_;refine gab ?_;exact qaf hj (rC (zrt rfl) (zra rfl)) (resT hC e1)
 ·have h6':¬ (op=[47]∨op=[37]):=zf h6
  have hCn:qe5 a op b=none:=by
   rw[hC,if_neg (fun h=>h6' (.inl h)),if_neg (fun h=>h6' (.inr h))]
  refine gaa ?_;exact qaf hj (rC (zrt rfl) (zra rfl)) (by rw[hCn];rfl)
theorem qjC (hG:GW B0 w0) (x op y:Wd) (hx:x.length<=1000000) (hy:y.length<=1000000):LCalls (KC B0 w0) 71 [str x,str op,str y] [] (qgz (qbh (qcn x op y))):=by
 have n1:=qc4 hG x zo;have n2:=qc4 hG y zo
 have hJ:qcn x op y=match numW x,numW y with
  |some a,some b=>match qe5 a op b with
   |some c=>if (Go.Lib.decDigits c).length<=x.length+y.length+1 then some (Go.Lib.decDigits c) else none
   |none=>none
  |_,_=>none:=rfl
 have ha:(numW x).getD 0<4294967296:=by
  cases h:numW x with
  |none=>decide
  |some u=>exact qk0 h
 have hb:(numW y).getD 0<4294967296:=by
  cases h:numW y with
  |none=>decide
  |some u=>exact qk0 h
 have n3:=qmb (B0:=B0) (w0:=w0) _ _ op ha hb
 have hc:(qe5 ((numW x).getD 0) op ((numW y).getD 0)).getD 0<4294967296:=by
  cases h:qe5 ((numW x).getD 0) op ((numW y).getD 0) with
  |none=>decide
  |some u=>exact qqM ha hb h
 have hdl:=qel hc;refine cI Tryz.func71 rfl (n:=54) rfl rfl rfl ?_;refine gao ?_;refine oS (sF [_] rfl n1 ?_) rfl;refine gau ?_;refine oS (sF [_] rfl n2 ?_) rfl;refine gau ?_;refine oS (sF [_,_,_] rfl n3 ?_) rfl;refine gac ?_;refine oS (sF [_,_] (show _=[int .u64 (IntKind.u64.wrap (((qe5 ((numW x).getD 0) op ((numW y).getD 0)).getD 0:Nat):Int)),int .i64 10] from rfl) (by rw[qkD zo];exact fmtUint_spec hG _ zo) ?_) rfl;refine gao ?_;refine oB 37 rfl (fun h1=>?_) (fun h1=>?_)
 ·obtain ⟨a,ha2⟩:=Option.isSome_iff_exists.1 h1;refine gab ?_;refine oB 40 rfl (fun h2=>?_) (fun h2=>?_)
  ·obtain ⟨b,hb2⟩:=Option.isSome_iff_exists.1 h2;rw[ha2,hb2] at hJ;rw[ha2,hb2];simp only at hJ;simp only[Option.getD_some];refine gab ?_;refine oB 43 rfl (fun h3=>?_) (fun h3=>?_)
   ·obtain ⟨c,hc2⟩:=Option.isSome_iff_exists.1 h3;rw[ha2,hb2] at hdl;simp only[Option.getD_some] at hdl;rw[hc2] at hJ hdl;rw[hc2];simp only[Option.getD_some] at hJ hdl ⊢;refine gad ?_
    exact qb0 rfl (rC (zrt rfl) (zra rfl)) (qbh.mk (by
     rw[hJ]
     by_cases hle:(Go.Lib.decDigits c).length<=x.length+y.length+1
     ·rw[if_pos hle,decide_eq_true zo];rfl
     ·rw[if_neg hle,decide_eq_false zo];rfl) (by
     intro l' h';rw[hJ] at h';split at h'
     ·injection h'
     ·cases h'))
   ·have hn:qe5 a op b=none:=by
     cases h4:qe5 a op b with
     |none=>rfl
     |some l=>rw[h4] at h3;cases h3
    rw[hn] at hJ;refine gab ?_
    exact qb0 rfl (rC (zrt rfl) (zra rfl)) (qbh.mk (by rw[hJ];rfl) (by
     intro l' h';rw[hJ] at h'
     cases h'))
  ·have hn:numW y=none:=by
    cases h3:numW y with
    |none=>rfl
    |some l=>rw[h3] at h2;cases h2
   rw[ha2,hn] at hJ;refine gab ?_
   exact qb0 rfl (rC (zrt rfl) (zra rfl)) (qbh.mk (by rw[hJ];rfl) (by
    intro l' h';rw[hJ] at h'
    cases h'))
 ·have hn:numW x=none:=by
   cases h3:numW x with
   |none=>rfl
   |some l=>rw[h3] at h1;cases h1
  rw[hn] at hJ;refine gab ?_
  exact qb0 rfl (rC (zrt rfl) (zra rfl)) (qbh.mk (by rw[hJ];rfl) (by
   intro l' h';rw[hJ] at h'
   cases h'))
end
end Go.Proofs.YtdakelgkjdaijaaGreatDoor.Pp
namespace Go.Proofs.YtdakelgkjdaijaaGreatDoor.Pp
open Go.GL Go.RowKit Go.Stele
open Asm (qbh qbh.mk qbu)
def qhb (r:qe6):LV:=.tuple [int .i64 r.1,.list (r.2.map str)]
attribute [local irreducible] LOps qae qad LCalls Go.GL.Pure qax qaj qac LQ LAny qaE qal
section
variable {B0:Nat} {w0:World}
theorem qqw (hG:GW B0 w0) (v:List Wd) (m:Nat) (hv:Small v):LCalls (KC B0 w0) 32 [qbT v m] [] (Ret (qhb (qhC v))):=by
 have k0:=qaP (B0:=B0) (w0:=w0) v m 0 (by have:=hv.1;omega);have k1:=qaP (B0:=B0) (w0:=w0) v m 1 (by have:=hv.1;omega);have k2:=qaP (B0:=B0) (w0:=w0) v m 2 (by have:=hv.1;omega);have kj:=qjC hG (wdAt v 0) (wdAt v 2) (wdAt v 1) (hv.at 0) (hv.at 1)
 have hF:qhC v=match qcn (wdAt v 0) (wdAt v 2) (wdAt v 1) with
  |some s=>(3,[s])
  |none=>(0,[]):=rfl
 unfold qbT at k0 k1 k2 ⊢;generalize qcn (wdAt v 0) (wdAt v 2) (wdAt v 1)=o at kj hF;refine cI Tryz.func32 rfl (n:=19) rfl rfl rfl ?_;refine gah ?_;refine oS (sB (cs:=[.list (v.map str),.atom (.map (some m))]) rfl fun b1=>?_) rfl;refine gab ?_;refine cD (m:=12) rfl [(b1,.cells 92 [.list (v.map str),.atom (.map (some m))])] ?_;refine aT 0 rfl rfl (pG (cs':=[_,_]) rfl zm0 rfl rfl) ?_;refine aT 2 rfl rfl (pG (cs':=[_,_]) rfl zm0 rfl rfl) ?_;refine aT 4 rfl rfl (pG (cs':=[_,_]) rfl zm0 rfl rfl) ?_;refine aL ?_ zhr;refine lO 1 (lS (H1:=[]) rfl (.inl rfl) rfl zpr zhr (sF [_,_] rfl k0 ?_));refine lO 3 (lS (H1:=[]) rfl (.inl rfl) rfl zpr zhr (sF [_,_] rfl k2 ?_));refine lO 5 (lS (H1:=[]) rfl (.inl rfl) rfl zpr zhr (sF [_,_] rfl k1 ?_));refine lO 6 (lS (H1:=[]) rfl (.inl rfl) rfl zpr zhr (S.fnIf [_,_,_] rfl kj ?_));rintro lv ⟨s,rfl,hs⟩;refine qaE.any [(b1,.cells 92 [.list (v.map str),.atom (.map (some m))])] (fun _ h=>h) ?_;refine aT 7 rfl rfl (pM (lv:=.tuple _) rfl) ?_;refine aT 8 rfl rfl (Pure.extract (c:=.atom _) rfl rfl) ?_;refine aT 9 rfl rfl (Pure.extract (c:=.atom _) rfl rfl) ?_;refine aT 10 rfl rfl (pA (lv:=.atom _) rfl) ?_;refine aT 11 rfl rfl (pA (lv:=.atom _) rfl) ?_;refine aL ?_ zhr;refine lD zk ?_;refine gap ?_;refine oC rfl (fun h=>?_) (fun h=>?_)
 ·obtain ⟨l,rfl⟩:=Option.isSome_iff_exists.1 h;obtain rfl:=hs l rfl;refine gag ?_;refine zQ2 ?_;refine gad ?_;exact qaf rfl (rC (zrt rfl) (rC (rT (v:=.list _) rfl zsr) rN)) (by rw[hF];rfl)
 ·obtain rfl:o=none:=by
   cases o with
   |none=>rfl
   |some l=>cases h
  refine gaa ?_;exact qaf rfl (rC (zrt rfl) (rC (rT (v:=qab) rfl vN) rN)) (by rw[hF];rfl)
theorem qpx (hG:GW B0 w0) (v:List Wd) (m:Nat) (hv:Small v):LCalls (KC B0 w0) 37 [qbT v m] [] (Ret (qhb (qey v))):=by
 have k0:=qaP (B0:=B0) (w0:=w0) v m 0 (by have:=hv.1;omega);have kn:=qc4 hG (wdAt v 0) (by have:=hv.at 0;omega);have kj:=qgr (B0:=B0) (w0:=w0) v m 1 hv zo
 have hF:qey v=match numW (wdAt v 0) with
  |some n=>if n≠0/\(qeq v 1).isSome=true then (3,[]) else (0,[])
  |none=>(0,[]):=rfl
 unfold qbT at k0 kj ⊢;generalize numW (wdAt v 0)=on at kn hF;generalize qeq v 1=oj at kj hF;refine cI Tryz.func37 rfl (n:=27) rfl rfl rfl ?_;refine gah ?_;refine oS (sB (cs:=[.list (v.map str),.atom (.map (some m))]) rfl fun b1=>?_) rfl;refine gac ?_;refine oS (sF [_,_] rfl k0 ?_) rfl;refine oS (sF [_] rfl kn ?_) rfl;refine gac ?_;refine oS (S.fnIf [_,_] rfl kj ?_) rfl;rintro lv ⟨s,rfl,hs⟩;refine gau ?_;refine oB 20 rfl (fun h1=>?_) (fun h1=>?_)
 ·rw[h1] at hF
  cases on with
  |none=>
   refine gab ?_;refine oC rfl (fun h=>?_) (fun h=>?_)
   ·cases h
   ·exact zT37
  |some n=>
   refine gab ?_;refine oC rfl (fun h=>?_) (fun h=>?_)
   ·have hn:n≠0:=by
     intro h0;subst h0;exact absurd h zDd
    simp only[hn,ne_eq,not_false_eq_true,and_self,if_true] at hF;refine gar ?_;exact qaf rfl (rC (zrt rfl) (rC (rT (v:=qab) rfl vN) rN)) (by rw[hF];rfl)
   ·have hn:n=0:=by
     have h0:¬ ¬ ((n:Int)=0):=by simpa using h
     omega
    subst hn;refine gaa ?_;exact qaf rfl (rC (zrt rfl) (rC (rT (v:=qab) rfl vN) rN)) (by rw[hF];rfl)
 ·rw[h1] at hF;refine gab ?_;refine oC rfl (fun h=>?_) (fun h=>?_)
  ·cases h
  ·refine gaa ?_
   exact qaf rfl (rC (zrt rfl) (rC (rT (v:=qab) rfl vN) rN)) (by
    rw[hF]
    cases on <;> simp <;> rfl)
theorem qnc (v:List Wd) (m:Nat) (hv:Small v) {es:Array MapEntry} {clock:Nat} {p:List UInt8->Bool} (hs:SetMap es p):LCalls (KC B0 w0) 40 [qbT v m] [(m,.obj (.map es clock))] (fun r H=>r=.ret (qhb (qcQ p v))/\H=[(m,.obj (.map es clock))]):=by
 have k0:=qaP (B0:=B0) (w0:=w0) v m 0 (by have:=hv.1;omega);have kd:=qd5 (B0:=B0) (w0:=w0) (wdAt v 0) (by have:=hv.at 0;omega)
 have hF:qcQ p v=match defW (wdAt v 0) with
  |some l=>if p l=true then (0,[]) else (1,[])
  |none=>(0,[]):=rfl
 unfold qbT at k0 ⊢;generalize defW (wdAt v 0)=o at kd hF;refine cI Tryz.func40 rfl (n:=20) rfl rfl rfl ?_;refine gah ?_;refine oS (sB (cs:=[.list (v.map str),.atom (.map (some m))]) rfl fun b1=>?_) rfl;refine gac ?_;refine oS (sF [_,_] rfl k0 ?_) rfl;refine oS (S.fnIf [_] rfl kd ?_) rfl;rintro lv ⟨s,rfl,hs2⟩;refine gau ?_;refine oB 13 rfl (fun h1=>?_) (fun h1=>?_)
 ·obtain ⟨l,rfl⟩:=Option.isSome_iff_exists.1 h1;obtain rfl:=hs2 l rfl;simp only at hF;refine gab ?_;refine oP (Pure.setGet (t:=84) (kt:=9) (el:=4) zk zk (fun w=>(Go.zero_of_info (P:=Tryz.prog) (n:=1) zk).1 w) rfl rfl zm1 hs) rfl ?_;refine gad ?_;refine oC rfl (fun h=>?_) (fun h=>?_)
  ·have hp:p s=false:=by simpa using h
   refine gar ?_;exact rR rfl (rC (zrt rfl) (rC (rT (v:=qab) rfl vN) rN)) (zhD zhr) ⟨by rw[hF,hp];rfl,rfl⟩
  ·have hp:p s=true:=by simpa using h
   refine gaa ?_;exact rR rfl (rC (zrt rfl) (rC (rT (v:=qab) rfl vN) rN)) (zhD zhr) ⟨by rw[hF,hp];rfl,rfl⟩
 ·obtain rfl:o=none:=by
   cases o with
   |none=>rfl
   |some l=>cases h1
  refine gab ?_;refine oC rfl (fun h=>?_) (fun h=>?_)
  ·cases h
  ·refine gaa ?_;exact rR rfl (rC (zrt rfl) (rC (rT (v:=qab) rfl vN) rN)) (zhD zhr) ⟨by rw[hF];rfl,rfl⟩
end
end Go.Proofs.YtdakelgkjdaijaaGreatDoor.Pp
namespace Go.Proofs.YtdakelgkjdaijaaGreatDoor.Pp
open Go.GL Go.RowKit Go.Stele
open Asm (qbh qbh.mk qbu)
def isW (v:List Wd):Nat->List Wd->Bool
 |_,[]=>true
 |i,w::r=>decide (wdAt v i=w) && isW v (i+1) r
attribute [local irreducible] LOps qae qad LCalls Go.GL.Pure qax qaj qac LQ LAny qaE qal
section
variable {B0:Nat} {w0:World}
theorem qce (v:List Wd) (m i:Nat) (ws:List Wd) (hv:Small v) (hi:i<=1000) (hw:ws.length<=1000):LCalls (KC B0 w0) 74 [qbT v m,int .i64 i,.list (ws.map str)] [] (Ret (bool (isW v i ws))):=by
 have hla:(ws.map str).length=ws.length:=zLm _;have kw:∀ k,LCalls (KC B0 w0) 72 [qbT v m,int .i64 (k:Nat)] [] (Ret (str (wdAt v k))):=fun k=>qaP v m k (by have:=hv.1;omega);unfold qbT at kw ⊢;refine cI Tryz.func74 rfl (n:=24) rfl rfl rfl ?_;refine gah ?_;refine oS (sB (cs:=[.list (v.map str),.atom (.map (some m))]) rfl fun b3=>?_) rfl;refine gaa ?_
 refine oL (fun k ls H=>∃ j,j<=ws.length/\k=ws.length-j/\ls=[(1,int .i64 i),(3,ptr b3 0),(9,.list (ws.map str)),(10,int .i64 ws.length),(11,int .i64 j)]/\H=[(b3,.cells 92 [.list (v.map str),.atom (.map (some m))])]/\isW v i ws=isW v (i+j) (ws.drop j))
  ⟨_,_,_,⟨0,Nat.zero_le _,rfl,rfl,rfl,rfl⟩,⟨rfl,rfl,rfl,qak zo,rfl,trivial⟩,zhR _⟩ ?_
 rintro k ls H ⟨j,hj,rfl,rfl,rfl,hE⟩ j1 hj1;refine gaj ?_;refine oC rfl (fun hc=>?_) (fun hc=>?_)
 ·have hlt:j<ws.length:=by have:=zt hc;omega
  rw[List.drop_eq_getElem_cons hlt,isW] at hE;have k1:=kw (i+j);have e1:int .i64 ((i+j:Nat):Int)=int .i64 ((i:Int)+j):=qak zo;rw[e1] at k1;refine gaa ?_;refine oP (xR (el':=str ws[j]) (cs:=[str ws[j]]) rfl rfl zo (qbd _ _ _ hlt) rfl rfl) rfl ?_;refine gac ?_;refine oS (sF [_,_] rfl k1 ?_) rfl;refine gad ?_;refine oC rfl (fun h=>?_) (fun h=>?_)
  ·have hne:¬ wdAt v (i+j)=ws[j]:=by simpa using h
   rw[decide_eq_false hne,Bool.false_and] at hE;refine gaa ?_;exact qaf hj1 (zra rfl) (qas hE.symm)
  ·have he:wdAt v (i+j)=ws[j]:=by simpa using h
   rw[decide_eq_true he,Bool.true_and] at hE;refine gaa ?_;exact ⟨_,_,_,by omega,⟨j+1,by omega,rfl,rfl,rfl,by rw[hE,Nat.add_assoc]⟩,⟨rfl,rfl,rfl,rfl,qak zo,trivial⟩,zhR _,hj1⟩
 ·have hj':j=ws.length:=by have:=zf hc;omega
  subst hj';rw[List.drop_length,isW] at hE;refine gaa ?_;exact qaf hj1 (zra rfl) (qas hE.symm)
theorem qml (v:List Wd) (m:Nat) (hv:Small v):LCalls (KC B0 w0) 33 [qbT v m] [] (Ret (qhb (qcN v))):=by
 have k0:=qaP (B0:=B0) (w0:=w0) v m 0 (by have:=hv.1;omega);have k1:=qaP (B0:=B0) (w0:=w0) v m 1 (by have:=hv.1;omega);have hF:qcN v=if wdAt v 0=[48]/\(wdAt v 1=[43]∨wdAt v 1=[45]∨wdAt v 1=[94])∨wdAt v 0=[49]/\(wdAt v 1=[42]∨wdAt v 1=[47]) then (2,[]) else (0,[]):=rfl
 unfold qbT at k0 k1 ⊢;generalize wdAt v 0=a at k0 hF;generalize wdAt v 1=b at k1 hF;refine cI Tryz.func33 rfl (n:=36) rfl rfl rfl ?_;refine gah ?_;refine oS (sB (cs:=[.list (v.map str),.atom (.map (some m))]) rfl fun b1=>?_) rfl;refine gab ?_;refine cD (m:=6) rfl [(b1,.cells 92 [.list (v.map str),.atom (.map (some m))])] ?_;refine aT 0 rfl rfl (pG (cs':=[_,_]) rfl zm0 rfl rfl) ?_;refine aT 2 rfl rfl (pG (cs':=[_,_]) rfl zm0 rfl rfl) ?_;refine aL ?_ zhr;refine lO 1 (lS (H1:=[]) rfl (.inl rfl) rfl zpr zhr (sF [_,_] rfl k0 ?_));refine lO 3 (lS (H1:=[]) rfl (.inl rfl) rfl zpr zhr (sF [_,_] rfl k1 ?_));refine qaE.any [(b1,.cells 92 [.list (v.map str),.atom (.map (some m))])] (fun _ h=>h) ?_;refine aT 4 rfl rfl (pA (lv:=.atom _) rfl) ?_;refine aT 5 rfl rfl (pA (lv:=.atom _) rfl) ?_;refine aL ?_ zhr;refine lD zk ?_;refine gaa ?_;refine LOps.cut [(1,ptr b1 0),(35,bool (decide (a=[48]/\(b=[43]∨b=[45]∨b=[94])∨a=[49]/\(b=[42]∨b=[47]))))] ?_ (fun j hj=>?_)
 ·refine oB 12 rfl (fun h1=>?_) (fun h1=>?_)
  ·have e1:a=[48]:=zt h1;have n1:¬ a=[49]:=by rw[e1];decide
   refine gab ?_;refine oB 15 rfl (fun h2=>?_) (fun h2=>?_)
   ·have e2:b=[43]:=zt h2;refine gad ?_;exact ⟨⟨rfl,qas (by simp[e1,e2]),trivial⟩,rfl,rfl⟩
   ·have e2:¬ b=[43]:=zf h2;refine gab ?_;refine oB 19 rfl (fun h3=>?_) (fun h3=>?_)
    ·have e3:b=[45]:=zt h3;refine gad ?_;exact ⟨⟨rfl,qas (by simp[e1,e3]),trivial⟩,rfl,rfl⟩
    ·have e3:¬ b=[45]:=zf h3;refine gab ?_;refine oB 24 rfl (fun h4=>?_) (fun h4=>?_)
     ·have e4:b=[94]:=zt h4;refine gad ?_;exact ⟨⟨rfl,qas (by simp[e1,e4]),trivial⟩,rfl,rfl⟩
     ·have e4:¬ b=[94]:=zf h4;refine gab ?_;refine oB 27 rfl (fun h5=>absurd (zt h5) n1) (fun h5=>?_);refine gad ?_;exact ⟨⟨rfl,qas (by simp[e2,e3,e4,n1]),trivial⟩,rfl,rfl⟩
  ·have e1:¬ a=[48]:=zf h1;refine gad ?_;refine oB 27 rfl (fun h2=>?_) (fun h2=>?_)
   ·have e2:a=[49]:=zt h2;refine gab ?_;refine oB 30 rfl (fun h3=>?_) (fun h3=>?_)
    ·have e3:b=[42]:=zt h3;refine gab ?_;exact ⟨⟨rfl,qas (by simp[e2,e3]),trivial⟩,rfl,rfl⟩
    ·have e3:¬ b=[42]:=zf h3;refine gab ?_;exact ⟨⟨rfl,qas (by simp[e2,e3]),trivial⟩,rfl,rfl⟩
   ·have e2:¬ a=[49]:=zf h2;refine gad ?_;exact ⟨⟨rfl,qas (by simp[e1,e2]),trivial⟩,rfl,rfl⟩
 refine oC rfl (fun h=>?_) (fun h=>?_)
 ·rw[if_pos (zt h)] at hF;refine gar ?_;exact qaf hj (rC (zrt rfl) (rC (rT (v:=qab) rfl vN) rN)) (by rw[hF];rfl)
 ·rw[if_neg (zf h)] at hF;refine gaa ?_;exact qaf hj (rC (zrt rfl) (rC (rT (v:=qab) rfl vN) rN)) (by rw[hF];rfl)
end
end Go.Proofs.YtdakelgkjdaijaaGreatDoor.Pp
namespace Go.Proofs.YtdakelgkjdaijaaGreatDoor.Pp
open Go.GL Go.RowKit Go.Stele
open Asm (qbh qbh.mk qbu)
theorem qpF (l:Wd) (v:List Wd) (i:Nat):qlb l (v.drop i)=match defW (wdAt v i) with
  |some d=>decide (d=l) || qlb l (v.drop (i+1))
  |none=>false:=by
 by_cases h:i<v.length
 ·have e:wdAt v i=v[i]:=by unfold wdAt;rw[List.getElem?_eq_getElem h];rfl
  rw[List.drop_eq_getElem_cons h,qlb,e]
  first|done|(cases defW v[i] <;> rfl)
 ·have e:wdAt v i=[]:=by unfold wdAt;rw[List.getElem?_eq_none zo];rfl
  rw[List.drop_eq_nil_of_le zo,e];rfl
theorem qu2 {v:List Wd} {i:Nat} {d:Wd} (h:defW (wdAt v i)=some d):i<v.length:=by
 by_cases hl:i<v.length
 ·exact hl
 ·have e:wdAt v i=[]:=by unfold wdAt;rw[List.getElem?_eq_none zo];rfl
  rw[e] at h;cases h
attribute [local irreducible] LOps qae qad LCalls Go.GL.Pure qax qaj qac LQ LAny qaE qal
section
variable {B0:Nat} {w0:World}
theorem qrI (v:List Wd) (m:Nat) (hv:Small v):LCalls (KC B0 w0) 38 [qbT v m] [] (Ret (qhb (qhp v))):=by
 have k0:=qaP (B0:=B0) (w0:=w0) v m 0 (by have:=hv.1;omega);have kj:=qgr (B0:=B0) (w0:=w0) v m 1 hv zo;have kw:∀ k,LCalls (KC B0 w0) 72 [qbT v m,int .i64 (k:Nat)] [] (Ret (str (wdAt v k))):=fun k=>qaP v m k (by have:=hv.1;omega);have kd:∀ k,LCalls (KC B0 w0) 76 [str (wdAt v k)] [] (qgz (qbh (defW (wdAt v k)))):=fun k=>qd5 (wdAt v k) (by have:=hv.at k;omega)
 have hF:qhp v=match qeq v 1 with
  |some l=>if wdAt v 0=[48]/\qlb l (v.drop 3)=true then (3,[]) else (0,[])
  |none=>(0,[]):=rfl
 unfold qbT at k0 kj kw ⊢;generalize qeq v 1=oj at kj hF;generalize wdAt v 0=a at k0 hF;refine cI Tryz.func38 rfl (n:=35) rfl rfl rfl ?_;refine gah ?_;refine oS (sB (cs:=[.list (v.map str),.atom (.map (some m))]) rfl fun b1=>?_) rfl;refine gac ?_;refine oS (S.fnIf [_,_] rfl kj ?_) rfl;rintro lv ⟨s,rfl,hs⟩;refine gac ?_;refine oB 16 rfl (fun h1=>?_) (fun h1=>?_)
 ·obtain rfl:oj=none:=by
   cases oj with
   |none=>rfl
   |some l=>cases h1
  refine gab ?_;refine oC rfl (fun h=>?_) (fun h=>?_)
  ·refine gar ?_;exact qaf rfl (rC (zrt rfl) (rC (rT (v:=qab) rfl vN) rN)) (by rw[hF];rfl)
  ·cases h
 ·obtain ⟨l,rfl⟩:∃ l,oj=some l:=by
   cases oj with
   |none=>cases h1
   |some l=>exact ⟨l,rfl⟩
  obtain rfl:=hs l rfl;simp only at hF;refine gad ?_;refine oS (sF [_,_] rfl k0 ?_) rfl;refine gad ?_;refine oC rfl (fun h=>?_) (fun h=>?_)
  ·have hne:¬ a=[48]:=by simpa using h
   rw[if_neg (fun hc=>hne hc.1)] at hF;refine gar ?_;exact qaf rfl (rC (zrt rfl) (rC (rT (v:=qab) rfl vN) rN)) (by rw[hF];rfl)
  ·have he:a=[48]:=by simpa using h
   subst he;simp only[true_and] at hF;refine gaa ?_
   refine oL (fun k ls H=>∃ i,(i<=v.length∨i=3)/\k=v.length+4-i/\ls=[(1,ptr b1 0),(4,str s),(6,int .i64 (i:Nat))]/\H=[(b1,.cells 92 [.list (v.map str),.atom (.map (some m))])]/\qlb s (v.drop 3)=qlb s (v.drop i))
    ⟨_,_,_,⟨3,Or.inr rfl,rfl,rfl,rfl,rfl⟩,⟨rfl,rfl,rfl,trivial⟩,zhR _⟩ ?_
   rintro k ls H ⟨i,hi,rfl,rfl,rfl,hE⟩ j1 hj1;have hl:=hv.1;rw[qpF s v i] at hE;refine gac ?_;refine oS (sF [_,_] rfl (kw i) ?_) rfl;refine oS (S.fnIf [_] rfl (kd i) ?_) rfl;rintro lv ⟨d,rfl,hd⟩;refine gac ?_;refine oC rfl (fun h=>?_) (fun h=>?_)
   ·have hn:defW (wdAt v i)=none:=by
     cases ho:defW (wdAt v i) with
     |none=>rfl
     |some l=>rw[ho] at h;cases h
    rw[hn] at hE;rw[hE] at hF;refine gaa ?_;exact qaf hj1 (rC (zrt rfl) (rC (rT (v:=qab) rfl vN) rN)) (by rw[hF];rfl)
   ·obtain ⟨e,ho⟩:∃ e,defW (wdAt v i)=some e:=by
     cases ho:defW (wdAt v i) with
     |none=>rw[ho] at h;cases h
     |some l=>exact ⟨l,rfl⟩
    have hlt:=qu2 ho;obtain rfl:=hd e ho;rw[ho] at hE;simp only at hE;refine gaa ?_;refine oC rfl (fun h2=>?_) (fun h2=>?_)
    ·have he:d=s:=zt h2;rw[decide_eq_true he,Bool.true_or] at hE;rw[hE] at hF;refine gaa ?_;exact qaf hj1 (rC (zrt rfl) (rC (rT (v:=qab) rfl vN) rN)) (by rw[hF];rfl)
    ·have he:¬ d=s:=zf h2;rw[decide_eq_false he,Bool.false_or] at hE;refine gaa ?_;exact ⟨_,_,_,by omega,⟨i+1,Or.inl zo,rfl,rfl,rfl,hE⟩,⟨rfl,rfl,qak zo,trivial⟩,zhR _,hj1⟩
end
end Go.Proofs.YtdakelgkjdaijaaGreatDoor.Pp
namespace Go.Proofs.YtdakelgkjdaijaaGreatDoor.Pp
open Go.GL Go.RowKit Go.Stele
open Asm (qbh qbh.mk qbu)
attribute [local irreducible] LOps qae qad LCalls Go.GL.Pure qax qaj qac LQ LAny qaE qal
section
variable {B0:Nat} {w0:World}
theorem qrZ (hG:GW B0 w0) (v:List Wd) (m:Nat) (hv:Small v):LCalls (KC B0 w0) 35 [qbT v m] [] (Ret (qhb (qh5 v))):=by
 have k0:=qaP (B0:=B0) (w0:=w0) v m 0 (by have:=hv.1;omega);have kn:=qc4 hG (wdAt v 0) (by have:=hv.at 0;omega);have ki:=qce (B0:=B0) (w0:=w0) v m 1 [[64],wdAt v 0,[33]] hv zo (by simp only[zLc,zLn];omega)
 have hF:qh5 v=if (numW (wdAt v 0)).isSome=true/\isW v 1 [[64],wdAt v 0,[33]]=true then (4,[]) else (0,[]):=by
  simp only[qh5,isW,zBa,zDe,and_true]
 unfold qbT at k0 ki ⊢;generalize numW (wdAt v 0)=on at kn hF;generalize isW v 1 [[64],wdAt v 0,[33]]=q at ki hF;generalize wdAt v 0=a at k0 kn ki;refine cI Tryz.func35 rfl (n:=20) rfl rfl rfl ?_;refine gah ?_;refine oS (sB (cs:=[.list (v.map str),.atom (.map (some m))]) rfl fun b1=>?_) rfl;refine gac ?_;refine oS (sF [_,_] rfl k0 ?_) rfl;refine oS (sF [_] rfl kn ?_) rfl;refine gab ?_
 cases on with
 |none=>
  refine cD (m:=8) rfl [(b1,.cells 92 [.list (v.map str),.atom (.map (some m))])] ?_;refine aT 0 rfl rfl (pM (lv:=.atom _) rfl) ?_;refine aT 1 rfl rfl (pM (lv:=.atom _) rfl) ?_;refine LAny.takeSkip (i:=2) rfl rfl rfl rfl zk zk zk rfl ?_;refine zQ37 ?_;refine aT 7 rfl rfl (Pure.pickF (lv:=.atom _) rfl rfl) ?_;refine aL ?_ zhr;refine lD zk ?_;refine gaq ?_;refine oC rfl (fun h=>?_) (fun h=>?_)
  ·cases h
  ·exact zT37
 |some n=>
  refine cD (m:=8) rfl [(b1,.cells 92 [.list (v.map str),.atom (.map (some m))])] ?_;refine aT 0 rfl rfl (pM (lv:=.atom _) rfl) ?_;refine aT 1 rfl rfl (pM (lv:=.atom _) rfl) ?_;refine LAny.tkW 2 rfl rfl rfl rfl (pG (cs':=[_,_]) rfl zm0 rfl rfl) ?_;refine LAny.tkW 3 rfl rfl rfl rfl (pG (cs':=[_,_]) rfl zm0 rfl rfl) ?_;refine aL ?_ zhr;refine lO 4 (lS (H1:=[]) rfl (.inr ⟨1,true,13,rfl,rfl,rfl⟩) rfl zpr zhr (sF [_,_] rfl k0 ?_));refine lO 5 (lS (H1:=[]) rfl (.inr ⟨1,true,13,rfl,rfl,rfl⟩) rfl zpr zhr ?_);refine sL [.const (.string { data:=#[64] }),.tmp 16,.const (.string { data:=#[33] })] rfl (eC rfl rfl (eC rfl rfl (eC rfl rfl eN))) rfl rfl rfl ?_;refine lO 6 (lS (H1:=[]) rfl (.inr ⟨1,true,13,rfl,rfl,rfl⟩) rfl zpr zhr (sF [_,_,_] rfl ki ?_));refine qaE.any [(b1,.cells 92 [.list (v.map str),.atom (.map (some m))])] (fun _ h=>h) ?_;refine aT 7 rfl rfl (Pure.pickT (lv:=.atom _) rfl rfl) ?_;refine aL ?_ zhr;refine lD zk ?_;refine gaq ?_;refine oC rfl (fun h=>?_) (fun h=>?_)
  ·have hq:q=true:=h;subst hq;refine gar ?_;exact qaf rfl (rC (zrt rfl) (rC (rT (v:=qab) rfl vN) rN)) (by rw[hF];rfl)
  ·have hq:q=false:=h;subst hq;refine gaa ?_;exact qaf rfl (rC (zrt rfl) (rC (rT (v:=qab) rfl vN) rN)) (by rw[hF];rfl)
end
end Go.Proofs.YtdakelgkjdaijaaGreatDoor.Pp
namespace Go.Proofs.YtdakelgkjdaijaaGreatDoor.Pp
open Go.GL Go.RowKit Go.Stele
open Asm (qbh qbh.mk qbu)
theorem qnO {v:List Wd} (h:5<v.length):((v.map str).take 6).drop 4=[str (wdAt v 4),str (wdAt v 5)]:=by
 have e4:wdAt v 4=v[4]:=by unfold wdAt;rw[List.getElem?_eq_getElem zo];rfl
 have e5:wdAt v 5=v[5]:=by unfold wdAt;rw[List.getElem?_eq_getElem h];rfl
 rw[e4,e5,<-List.map_take,<-List.map_drop]
 have:(v.take 6).drop 4=[v[4],v[5]]:=by
  rw[List.drop_take,List.drop_eq_getElem_cons (by omega:4<v.length),List.drop_eq_getElem_cons h];rfl
 rw[this];rfl
attribute [local irreducible] LOps qae qad LCalls Go.GL.Pure qax qaj qac LQ LAny qaE qal
section
variable {B0:Nat} {w0:World}
theorem qnn (v:List Wd) (m:Nat) (hv:Small v):LCalls (KC B0 w0) 36 [qbT v m] [] (Ret (qhb (qdq v))):=by
 have kj:=qgr (B0:=B0) (w0:=w0) v m 4 hv zo;have ki:=qce (B0:=B0) (w0:=w0) v m 0 [[49],[60],[49],[60]] hv zo zDd
 have hF:qdq v=if (qeq v 4).isSome=true/\isW v 0 [[49],[60],[49],[60]]=true then (6,[wdAt v 4,wdAt v 5]) else (0,[]):=by
  simp only[qdq,isW,zBa,zDe,and_true]
 have hlen:∀ l,qeq v 4=some l->5<v.length:=fun l h=>qeY h;unfold qbT at kj ki ⊢;generalize qeq v 4=oj at kj hF hlen;generalize isW v 0 [[49],[60],[49],[60]]=q at ki hF;refine cI Tryz.func36 rfl (n:=20) rfl rfl rfl ?_;refine gah ?_;refine oS (sB (cs:=[.list (v.map str),.atom (.map (some m))]) rfl fun b1=>?_) rfl;refine gac ?_;refine oS (S.fnIf [_,_] rfl kj ?_) rfl;rintro lv ⟨s,rfl,hs⟩;refine gau ?_
 cases oj with
 |none=>
  refine gab ?_;refine oC rfl (fun h=>?_) (fun h=>?_)
  ·cases h
  ·exact zT37
 |some l=>
  have h5:=hlen l rfl;refine gad ?_;refine oS (sL [.const (.string { data:=#[49] }),.const (.string { data:=#[60] }),.const (.string { data:=#[49] }),.const (.string { data:=#[60] })] rfl (eC rfl rfl (eC rfl rfl (eC rfl rfl (eC rfl rfl eN)))) rfl rfl rfl ?_) rfl;refine gab ?_;refine oS (sF [_,_,_] rfl ki ?_) rfl;refine gab ?_;refine oC rfl (fun h=>?_) (fun h=>?_)
  ·have hq:q=true:=h;subst hq;refine gab ?_;refine cD (m:=5) rfl [(b1,.cells 92 [.list (v.map str),.atom (.map (some m))])] ?_;refine aT 0 rfl rfl (pF rfl) ?_;refine aT 1 rfl rfl (pL (c:=.list _) rfl zm0 rfl) ?_;refine LAny.take (i:=2) zhr rfl zk zk zk rfl (Pure.lslice (es:=v.map str) (i:=4) (j:=6) rfl ⟨_,rfl⟩ ⟨_,rfl⟩ zo zo (by rw[zLm];omega) (qef v)) ?_;refine aT 3 rfl rfl (pA (lv:=.atom _) rfl) ?_;refine aT 4 rfl rfl (pA (lv:=.list _) rfl) ?_;refine aL ?_ zhr;refine lD zk ?_;refine gab ?_;exact qaf rfl (rC (zrt rfl) (rC (rT (v:=.list _) rfl zsr) rN)) (by rw[hF];exact congrArg (fun x=>LV.tuple [int .i64 6,.list x]) (qnO h5))
  ·have hq:q=false:=h;subst hq;refine gaa ?_;exact qaf rfl (rC (zrt rfl) (rC (rT (v:=qab) rfl vN) rN)) (by rw[hF];rfl)
end
end Go.Proofs.YtdakelgkjdaijaaGreatDoor.Pp
namespace Go.Proofs.YtdakelgkjdaijaaGreatDoor.Pp
open Go.GL Go.RowKit Go.Stele
open Asm (qbh qbh.mk qbu)
attribute [local irreducible] LOps qae qad LCalls Go.GL.Pure qax qaj qac LQ LAny qaE qal
section
variable {B0:Nat} {w0:World}
theorem qmw (hG:GW B0 w0) (v:List Wd) (m:Nat) (hv:Small v):LCalls (KC B0 w0) 34 [qbT v m] [] (Ret (qhb (qcl v))):=by
 have k0:=qaP (B0:=B0) (w0:=w0) v m 0 (by have:=hv.1;omega);have k1:=qaP (B0:=B0) (w0:=w0) v m 1 (by have:=hv.1;omega);have k2:=qaP (B0:=B0) (w0:=w0) v m 2 (by have:=hv.1;omega);have k3:=qaP (B0:=B0) (w0:=w0) v m 3 (by have:=hv.1;omega);have kj:=qjC hG (wdAt v 0) (wdAt v 1) (wdAt v 2) (hv.at 0) (hv.at 2)
 have hF:qcl v=if (wdAt v 1=[43]∨wdAt v 1=[42]∨wdAt v 1=[94])/\wdAt v 3=wdAt v 1 then
  (match qcn (wdAt v 0) (wdAt v 1) (wdAt v 2) with
  |some s=>(4,[s,wdAt v 1])
  |none=>(0,[]))
 else (0,[]):=rfl
 unfold qbT at k0 k1 k2 k3 ⊢;generalize qcn (wdAt v 0) (wdAt v 1) (wdAt v 2)=o at kj hF;generalize wdAt v 1=b at k1 kj hF;generalize wdAt v 3=d at k3 hF;refine cI Tryz.func34 rfl (n:=38) rfl rfl rfl ?_;refine gah ?_;refine oS (sB (cs:=[.list (v.map str),.atom (.map (some m))]) rfl fun b1=>?_) rfl;refine gac ?_;refine oS (sF [_,_] rfl k1 ?_) rfl;refine gal ?_;refine LOps.cut [(1,ptr b1 0),(4,str b),(24,bool (!decide ((b=[43]∨b=[42]∨b=[94])/\d=b)))] ?_ (fun j hj=>?_)
 ·refine oB 11 rfl (fun h1=>?_) (fun h1=>?_)
  ·have e1:¬ b=[43]:=by simpa using h1
   refine gad ?_;refine oB 15 rfl (fun h2=>?_) (fun h2=>?_)
   ·have e2:¬ b=[42]:=by simpa using h2
    refine gad ?_;refine oB 19 rfl (fun h3=>?_) (fun h3=>?_)
    ·have e3:¬ b=[94]:=by simpa using h3
     refine gab ?_;exact ⟨⟨rfl,rfl,qas (by simp[e1,e2,e3]),trivial⟩,rfl,rfl⟩
    ·have e3:b=[94]:=by simpa using h3
     refine gad ?_;refine oS (sF [_,_] rfl k3 ?_) rfl;refine gad ?_;exact ⟨⟨rfl,rfl,qas (by simp[e3]),trivial⟩,rfl,rfl⟩
   ·have e2:b=[42]:=by simpa using h2
    refine gad ?_;refine oS (sF [_,_] rfl k3 ?_) rfl;refine gad ?_;exact ⟨⟨rfl,rfl,qas (by simp[e2]),trivial⟩,rfl,rfl⟩
  ·have e1:b=[43]:=by simpa using h1
   refine gad ?_;refine oS (sF [_,_] rfl k3 ?_) rfl;refine gad ?_;exact ⟨⟨rfl,rfl,qas (by simp[e1]),trivial⟩,rfl,rfl⟩
 refine oC rfl (fun h=>?_) (fun h=>?_)
 ·have hn:¬ ((b=[43]∨b=[42]∨b=[94])/\d=b):=zf (Bool.not_eq_true' _▸h);rw[if_neg hn] at hF;refine gar ?_;exact qaf hj (rC (zrt rfl) (rC (rT (v:=qab) rfl vN) rN)) (by rw[hF];rfl)
 ·have hn:(b=[43]∨b=[42]∨b=[94])/\d=b:=by
   by_cases hc:(b=[43]∨b=[42]∨b=[94])/\d=b
   ·exact hc
   ·rw[decide_eq_false hc] at h;cases h
  rw[if_pos hn] at hF;refine gab ?_;refine cD (m:=11) rfl [(b1,.cells 92 [.list (v.map str),.atom (.map (some m))])] ?_;refine aT 0 rfl rfl (pG (cs':=[_,_]) rfl zm0 rfl rfl) ?_;refine zQ39 ?_;refine aT 3 rfl rfl (pG (cs':=[_,_]) rfl zm0 rfl rfl) ?_;refine aL ?_ zhr;refine lO 1 (lS (H1:=[]) rfl (.inl rfl) rfl zpr zhr (sF [_,_] rfl k0 ?_));refine lO 4 (lS (H1:=[]) rfl (.inl rfl) rfl zpr zhr (sF [_,_] rfl k2 ?_));refine lO 5 (lS (H1:=[]) rfl (.inl rfl) rfl zpr zhr (S.fnIf [_,_,_] rfl kj ?_));rintro lv ⟨s,rfl,hs⟩;refine qaE.any [(b1,.cells 92 [.list (v.map str),.atom (.map (some m))])] (fun _ h=>h) ?_;refine aT 6 rfl rfl (pM (lv:=.tuple _) rfl) ?_;refine aT 7 rfl rfl (Pure.extract (c:=.atom _) rfl rfl) ?_;refine aT 8 rfl rfl (Pure.extract (c:=.atom _) rfl rfl) ?_;refine aT 9 rfl rfl (pA (lv:=.atom _) rfl) ?_;refine aT 10 rfl rfl (pA (lv:=.atom _) rfl) ?_;refine aL ?_ zhr;refine lD zk ?_;refine gap ?_;refine oC rfl (fun h=>?_) (fun h=>?_)
  ·obtain ⟨l,rfl⟩:=Option.isSome_iff_exists.1 h;obtain rfl:=hs l rfl;refine gag ?_;refine oS (sL [.tmp 35,.tmp 36] rfl (eC rfl rfl (eC rfl rfl eN)) rfl rfl rfl ?_) rfl;refine gad ?_;exact qaf hj (rC (zrt rfl) (rC (rT (v:=.list _) rfl zsr) rN)) (by rw[hF];rfl)
  ·obtain rfl:o=none:=by
    cases o with
    |none=>rfl
    |some l=>cases h
   refine gaa ?_;exact qaf hj (rC (zrt rfl) (rC (rT (v:=qab) rfl vN) rN)) (by rw[hF];rfl)
end
end Go.Proofs.YtdakelgkjdaijaaGreatDoor.Pp
namespace Go.Proofs.YtdakelgkjdaijaaGreatDoor.Pp
open Go.GL Go.RowKit Go.Stele
open Asm (qbh qbh.mk qbu)
theorem ql2 {v:List Wd} {i:Nat} (h:v.length<=i):qcd (v.drop i)=0:=by
 rw[List.drop_eq_nil_of_le h];rfl
theorem qm8 {v:List Wd} {i:Nat} (h:i<v.length) (hd:(defW v[i]).isSome=true):qcd (v.drop i)=0:=by
 unfold qcd
 rw[List.drop_eq_getElem_cons h,List.takeWhile_cons_of_neg (fun hc=>absurd (show (defW v[i]).isNone=true from hc) (by
  cases hx:defW v[i] with
  |none=>rw[hx] at hd;cases hd
  |some d=>simp))]
 rfl
theorem qmR {v:List Wd} {i:Nat} (h:i<v.length) (hd:(defW v[i]).isSome=false):qcd (v.drop i)=qcd (v.drop (i+1))+1:=by
 unfold qcd;rw[List.drop_eq_getElem_cons h,List.takeWhile_cons_of_pos (by simpa using hd)];rfl
theorem qvM {v:List Wd} {n i:Nat} (hn:n=qdt v) (h0:n=0->i=0) (hi:n<=i) (hE:0<n->qcd (v.drop n)=i-n):qh9 v=if n<i then (i,v.take n) else (0,[]):=by
 unfold qh9;rw[<-hn]
 by_cases h:0<n
 ·rw[hE h]
  by_cases hj:n<i
  ·rw[if_pos ⟨h,by omega⟩,if_pos hj,show n+(i-n)=i by omega]
  ·rw[if_neg (fun hc=>hj zo),if_neg hj]
 ·rw[if_neg (fun hc=>h hc.1),if_neg (by have:=h0 zo;omega)]
attribute [local irreducible] LOps qae qad LCalls Go.GL.Pure qax qaj qac LQ LAny qaE qal
section
variable {B0:Nat} {w0:World}
theorem qqU (v:List Wd) (m:Nat) (hv:Small v):LCalls (KC B0 w0) 39 [qbT v m] [] (Ret (qhb (qh9 v))):=by
 have hla:(v.map str).length=v.length:=zLm _;have hl:=hv.1;have k0:=qaP (B0:=B0) (w0:=w0) v m 0 (by have:=hv.1;omega);have kj:=qgr (B0:=B0) (w0:=w0) v m 1 hv zo;have hS:qdt v=if (qeq v 1).isSome=true/\wdAt v 0=[48] then 3 else if wdAt v 0=[59]∨wdAt v 0=[36] then 1 else 0:=rfl
 have hD:=@qvM v;unfold qbT at k0 kj ⊢;generalize qdt v=n at hS hD;generalize qeq v 1=oj at kj hS;generalize wdAt v 0=a at k0 hS
 have hn3:n<=3:=by
  rw[hS];split
  ·omega
  ·split <;> omega
 refine cI Tryz.func39 rfl (n:=59) rfl rfl rfl ?_;refine gah ?_;refine oS (sB (cs:=[.list (v.map str),.atom (.map (some m))]) rfl fun b1=>?_) rfl
 repeat (first|refine LOps.nil ?_|refine qN ?_|refine oP (pA (lv:=.atom _) rfl) rfl ?_)
 refine gah ?_
 repeat (first|refine LOps.nil ?_|refine qN ?_|refine oP (pA (lv:=.atom _) rfl) rfl ?_)
 refine qae.seq ?_;refine cC [(1,ptr b1 0),(4,int .i64 (n:Nat))] ?_ (fun j hj=>?_)
 ·refine gac ?_;refine oS (S.fnIf [_,_] rfl kj ?_) rfl;rintro lv ⟨s,rfl,hs⟩;refine gau ?_;refine LOps.cut [(1,ptr b1 0),(4,int .i64 0),(20,bool (decide (oj.isSome=true/\a=[48])))] ?_ (fun j2 hj2=>?_)
  ·cases oj with
   |none=>
    refine gab ?_
    exact ⟨⟨rfl,rfl,qas (by simp),trivial⟩,rfl,rfl⟩
   |some l=>
    refine gad ?_;refine oS (sF [_,_] rfl k0 ?_) rfl;refine gab ?_;exact ⟨⟨rfl,rfl,qas (by simp),trivial⟩,rfl,rfl⟩
  refine oC rfl (fun h=>?_) (fun h=>?_)
  ·rw[if_pos (zt h)] at hS;subst hS;refine gai ?_;exact ⟨⟨rfl,rfl,trivial⟩,rfl,hj2⟩
  ·rw[if_neg (zf h)] at hS;refine gac ?_;refine oS (sF [_,_] rfl k0 ?_) rfl;refine gab ?_;refine LOps.cut [(1,ptr b1 0),(4,int .i64 0),(28,bool (decide (a=[59]∨a=[36])))] ?_ (fun j3 hj3=>?_)
   ·refine oB 24 rfl (fun h1=>?_) (fun h1=>?_)
    ·have e1:a=[59]:=zt h1;refine gab ?_;exact ⟨⟨rfl,rfl,qas (by simp[e1]),trivial⟩,rfl,rfl⟩
    ·have e1:¬ a=[59]:=zf h1;refine gad ?_;refine oS (sF [_,_] rfl k0 ?_) rfl;refine gab ?_;exact ⟨⟨rfl,rfl,qas (by simp[e1]),trivial⟩,rfl,rfl⟩
   refine oC rfl (fun h=>?_) (fun h=>?_)
   ·rw[if_pos (zt h)] at hS;subst hS;refine gai ?_;exact ⟨⟨rfl,rfl,trivial⟩,rfl,hj3.trans hj2⟩
   ·rw[if_neg (zf h)] at hS;subst hS;refine gaq ?_;exact ⟨⟨rfl,rfl,trivial⟩,rfl,hj3.trans hj2⟩
 refine gaa ?_
 refine oL (fun k ls H=>∃ i:Nat,n<=i/\(i<=v.length∨i=n)/\(n=0->i=0)/\k=v.length+4-i/\ls=[(1,ptr b1 0),(4,int .i64 (n:Nat)),(7,int .i64 (i:Nat))]/\H=[(b1,.cells 92 [.list (v.map str),.atom (.map (some m))])]/\qcd (v.drop n)=(i-n)+qcd (v.drop i))
  ⟨_,_,_,⟨n,zNr _,Or.inr rfl,id,rfl,rfl,rfl,by omega⟩,⟨rfl,rfl,rfl,trivial⟩,zhR _⟩ ?_
 rintro k ls H ⟨i,hni,hi,h0,rfl,rfl,rfl,hE⟩ j1 hj1;refine gal ?_;refine LOps.cut [(1,ptr b1 0),(4,int .i64 (n:Nat)),(7,int .i64 (i:Nat)),(38,bool (decide (0<n/\i<v.length)))] ?_ (fun j2 hj2=>?_)
 ·refine oB 32 rfl (fun h1=>?_) (fun h1=>?_)
  ·have e1:0<n:=by have:=zt h1;omega
   refine gab ?_;exact ⟨⟨rfl,rfl,rfl,qas (by rw[decide_eq_decide];omega),trivial⟩,rfl,rfl⟩
  ·have e1:¬ 0<n:=by have:=zf h1;omega
   refine gab ?_;exact ⟨⟨rfl,rfl,rfl,qas (by simp[e1]),trivial⟩,rfl,rfl⟩
 refine oC rfl (fun h=>?_) (fun h=>?_)
 ·obtain ⟨hn0,hlt⟩:=zt h;have kd:=qd5 (B0:=B0) (w0:=w0) v[i] (by have:=hv.2 _ (List.getElem_mem hlt);omega);refine gaa ?_;refine oP (xR (el':=str v[i]) (cs:=[str v[i]]) rfl rfl zo (qbd _ _ _ hlt) rfl rfl) rfl ?_;refine gad ?_;refine oS (S.fnIf [_] rfl kd ?_) rfl;rintro lv ⟨s,rfl,hs⟩;refine gau ?_;refine oC rfl (fun h2=>?_) (fun h2=>?_)
  ·rw[qm8 hlt h2] at hE
   replace hD:=hD rfl h0 hni (fun _=>by omega)
   refine gat ?_;refine oC rfl (fun h3=>?_) (fun h3=>?_)
   ·exact zT38
   ·exact zT22
  ·rw[qmR hlt (by simpa using h2)] at hE;refine gaa ?_;exact ⟨_,_,_,by omega,⟨i+1,by omega,Or.inl zo,by omega,rfl,rfl,rfl,by omega⟩,⟨rfl,rfl,qak zo,trivial⟩,zhR _,hj2.trans hj1⟩
 ·have hc:=zf h
  replace hD:=hD rfl h0 hni (fun h=>by rw[ql2 (v:=v) (i:=i) zo] at hE;omega)
  refine gaa ?_;refine oC rfl (fun h3=>?_) (fun h3=>?_)
  ·exact zT38
  ·exact zT22
end
end Go.Proofs.YtdakelgkjdaijaaGreatDoor.Pp
namespace Go.Proofs.YtdakelgkjdaijaaGreatDoor.Pp
open Go.GL Go.RowKit Go.Stele
open Asm (qbh qbh.mk qbu)
def qpH (used:Wd->Bool) (v:List Wd):List qe6:=[qhC v,qcN v,qcl v,qh5 v,qdq v,qey v,qhp v,qh9 v,qcQ used v]
def qh2:List qe6->qe6
 |[]=>(0,[])
 |r::l=>if r.1≠0 then r else qh2 l
theorem qnF {used:Wd->Bool} {v:List Wd} (h:(qcQ used v).1=0):qcQ used v=(0,[]):=by
 unfold qcQ at h ⊢;revert h
 cases defW (wdAt v 0) with
 |none=>exact fun _=>rfl
 |some l=>
  intro h;simp only at h ⊢
  by_cases hu:used l=true
  ·rw[if_pos hu]
  ·rw[if_neg hu] at h;cases h
theorem qns (used:Wd->Bool) (v:List Wd):qbE used v=qh2 (qpH used v):=by
 have hz:=@qnF used v;unfold qbE qpH;generalize qhC v=a1;generalize qcN v=a2;generalize qcl v=a3;generalize qh5 v=a4;generalize qdq v=a5;generalize qey v=a6;generalize qhp v=a7;generalize qh9 v=a8;generalize qcQ used v=a9 at hz;simp only[qh2]
 by_cases h9:a9.1≠0
 ·rw[if_pos h9]
 ·rw[if_neg h9,hz (Decidable.not_not.1 h9)]
theorem qnv {l:List qe6} {i:Nat} (h:i<l.length):qh2 (l.drop i)=if l[i].1≠0 then l[i] else qh2 (l.drop (i+1)):=by
 rw[List.drop_eq_getElem_cons h,qh2]
theorem qpB {l:List qe6} {i:Nat} (h:l.length<=i):qh2 (l.drop i)=(0,[]):=by
 rw[List.drop_eq_nil_of_le h]
 try rfl
theorem qrY (used:Wd->Bool) (v:List Wd):(qpH used v).length=9:=rfl
theorem qsQ (used:Wd->Bool) (f:Nat):qfj used f []=[]:=by
 cases f <;> rfl
theorem qpn (used:Wd->Bool) (f:Nat) (w:Wd) (r:List Wd):qfj used (f+1) (w::r)=if (qbE used (w::r)).1=0 then w::qfj used f r else (qbE used (w::r)).2++qfj used f ((w::r).drop (qbE used (w::r)).1):=rfl
theorem qpd (l:List Wd) (k:Nat) (h:k<l.length) (s:Wd):qdI (l.take (k+1)) s=(qdI (l.take k) s || decide (refW l[k]=some s)):=by
 unfold qdI;rw[List.take_succ_eq_append_getElem h,List.any_append]
 simp
end Go.Proofs.YtdakelgkjdaijaaGreatDoor.Pp
namespace Go.Proofs.YtdakelgkjdaijaaGreatDoor.Pp
open Go.GL Go.RowKit Go.Stele
open Asm (qbh qbh.mk qbu)
attribute [local irreducible] LOps qae qad LCalls Go.GL.Pure qax qaj qac LQ LAny qaE qal
theorem qgf (l:List Wd):((l.map str).flatMap LV.cells).all qc0=true:=by
 induction l with
 |nil=>rfl
 |cons a l ih=>
  rw[zMc,List.flatMap_cons,List.all_append,ih];rfl
theorem qsx (l:List Wd) (i:Nat):((l.map str).take (((l.map str).length:Nat):Int).toNat).drop ((i:Nat):Int).toNat=(l.drop i).map str:=by
 rw[Int.toNat_natCast,Int.toNat_natCast,List.take_length,List.map_drop]
theorem qsq {s:Nat} {v:LV} {es:List LV} {H:Heap} {q:Nat×LObj} (h:Acc s v es H [q]):∃ F,H.Perm ([q]++F):=by
 cases h with
 |nil=>exact ⟨[],List.Perm.refl _⟩
 |row=>exact ⟨[_],List.Perm.swap ..⟩
theorem Small.drop {l:List Wd} (h:Small l) (i:Nat):Small (l.drop i):=
 ⟨by have:=h.1;rw[List.length_drop];omega,fun w hw=>h.2 w (List.mem_of_mem_drop hw)⟩
def fnLV (k:Nat):LV:=.atom (.func (.func (32+k)) #[] #[])
section
variable {B0:Nat} {w0:World}
theorem qqO (hG:GW B0 w0) (l:List Wd) (hv:Small l):LCalls (KC B0 w0) 14 [.list (l.map str)] [] (Ret (.list ((qfb l).map str))):=by
 have hla:(l.map str).length=l.length:=zLm _;have hl:=hv.1;refine cI Tryz.func14 rfl (n:=73) rfl rfl rfl ?_;refine gai ?_;refine oS (S.makeMap fun m=>?_) rfl;refine gaa ?_
 refine oL (fun k ls H=>∃ (i:Nat) (es:Array MapEntry) (clock:Nat),i<=l.length/\k=l.length-i/\ls=[(0,.list (l.map str)),(3,.atom (.map (some m))),(17,.list (l.map str)),(18,int .i64 l.length),(19,int .i64 (i:Nat))]/\H=[(m,.obj (.map es clock))]/\SetMap es (qdI (l.take i)))
  ⟨_,_,_,⟨0,#[],0,Nat.zero_le _,rfl,rfl,rfl,SetMap.nil⟩,⟨rfl,rfl,rfl,qak zo,rfl,trivial⟩,zhR _⟩ ?_
 rintro k ls H ⟨i,es,clock,hi,rfl,rfl,rfl,hM⟩ j1 hj1;refine gaj ?_;refine oC rfl (fun hc=>?_) (fun hc=>?_)
 ·have hlt:i<l.length:=by have:=zt hc;omega
  have kr:=qgb (B0:=B0) (w0:=w0) l[i] (by have:=hv.2 _ (List.getElem_mem hlt);omega);have hU:qdI (l.take (i+1))=fun s=>qdI (l.take i) s || decide (refW l[i]=some s):=funext fun s=>qpd l i hlt s;refine gam ?_;refine oP (xR (el':=str l[i]) (cs:=[str l[i]]) rfl rfl zo (qbd _ _ _ hlt) rfl rfl) rfl ?_;refine gat ?_;refine oS (S.fnIf [_] rfl kr ?_) rfl;rintro lv ⟨s,rfl,hs⟩;refine gau ?_;refine oC rfl (fun h=>?_) (fun h=>?_)
  ·obtain ⟨d,hd⟩:=Option.isSome_iff_exists.1 h;obtain rfl:=hs d hd;refine gag ?_;refine oS (S.setPut (t:=84) (kt:=9) (el:=4) zk zk rfl rfl rfl pH hM fun es' clock' hM'=>?_) rfl;refine gan ?_
   exact ⟨_,_,_,by omega,⟨i+1,es',clock',by omega,rfl,rfl,rfl,by
    rw[hU,hd]
    exact cast (by congr;funext x;simp[eq_comm]) hM'⟩,⟨rfl,rfl,rfl,rfl,qak zo,trivial⟩,zhR _,hj1⟩
  ·have hn:refW l[i]=none:=by
    cases ho:refW l[i] with
    |none=>rfl
    |some d=>rw[ho] at h;cases h
   refine gaa ?_
   exact ⟨_,_,_,by omega,⟨i+1,es,clock,by omega,rfl,rfl,rfl,by
    rw[hU,hn]
    exact cast (by congr;funext x;simp) hM⟩,⟨rfl,rfl,rfl,rfl,qak zo,trivial⟩,zhR _,hj1⟩
 ·have hi':i=l.length:=by have:=zf hc;omega
  subst hi';rw[List.take_length] at hM;refine gaa ?_;refine oS (sL [.func 32,.func 33,.func 34,.func 35,.func 36,.func 37,.func 38,.func 39,.func 40] rfl (eC rfl rfl (eC rfl rfl (eC rfl rfl (eC rfl rfl (eC rfl rfl (eC rfl rfl (eC rfl rfl (eC rfl rfl (eC rfl rfl eN))))))))) rfl rfl rfl ?_) rfl;refine gat ?_
  refine oL (fun k ls H=>∃ (i f:Nat) (out:List Wd) (v:LV),i<=l.length/\k=l.length-i/\ls=[(0,.list (l.map str)),(3,.atom (.map (some m))),(8,.list ((List.range 9).map fnLV)),(9,v),(10,int .i64 (i:Nat))]/\Acc 1 v (out.map str) H [(m,.obj (.map es clock))]/\l.length-i<=f/\out.length<=i/\out++qfj (qdI l) f (l.drop i)=qfb l)
   ⟨_,_,_,⟨0,l.length,[],qab,Nat.zero_le _,rfl,rfl,Acc.nil,by omega,Nat.zero_le _,rfl⟩,⟨rfl,rfl,rfl,rfl,rfl,trivial⟩,zhR _⟩ ?_
  rintro k ls H ⟨i,f,out,v,hi,rfl,rfl,hacc,hf,hlen,hE⟩ j2 hj2;have hol:(out.map str).length=out.length:=zLm _;refine gaa ?_;refine oC rfl (fun hc=>?_) (fun hc=>?_)
  ·have hlt:i<l.length:=by have:=zt hc;omega
   obtain ⟨f,rfl⟩:∃ g,f=g+1:=⟨f-1,by omega⟩;have hR:(qbE (qdI l) (l.drop i)).1≠0->(qbE (qdI l) (l.drop i)).1<=(l.drop i).length/\(qbE (qdI l) (l.drop i)).2.length<(qbE (qdI l) (l.drop i)).1:=qni (qdI l) (l.drop i);have hF:=qns (qdI l) (l.drop i);have hl9:=qrY (qdI l) (l.drop i);rw[List.drop_eq_getElem_cons hlt,qpn,<-List.drop_eq_getElem_cons hlt,List.drop_drop] at hE;have hdl:(l.drop i).length=l.length-i:=List.length_drop
   repeat (first|refine LOps.nil ?_|refine qN ?_|refine qae.skip ?_|refine qae.block ?_)
   refine qae.seq ?_
   repeat (first|refine LOps.nil ?_|refine qN ?_|refine qae.region ?_|refine oP (pA (lv:=.atom _) rfl) rfl ?_)
   refine qae.seq ?_
   refine cM (A:=Nat×List Wd×LV×Heap) (fun a=>[(0,.list (l.map str)),(3,.atom (.map (some m))),(8,.list ((List.range 9).map fnLV)),(9,a.2.2.1),(10,int .i64 (i:Nat)),(11,int .i64 a.1)]) (fun a=>a.2.2.2)
    (fun a=>a.1=(qbE (qdI l) (l.drop i)).1/\a.2.1=(if (qbE (qdI l) (l.drop i)).1=0 then out else out++(qbE (qdI l) (l.drop i)).2)/\Acc 1 a.2.2.1 (a.2.1.map str) a.2.2.2 [(m,.obj (.map es clock))]) ?_ ?_
   ·refine gaa ?_;refine oL (fun k ls H1=>∃ x:Nat,x<=9/\k=9-x/\ls=[(0,.list (l.map str)),(3,.atom (.map (some m))),(8,.list ((List.range 9).map fnLV)),(9,v),(10,int .i64 (i:Nat)),(11,int .i64 0),(37,.list ((List.range 9).map fnLV)),(38,int .i64 9),(39,int .i64 (x:Nat))]/\H1=H/\qbE (qdI l) (l.drop i)=qh2 ((qpH (qdI l) (l.drop i)).drop x)) ?_ ?_
    ·exact ⟨_,_,_,⟨0,Nat.zero_le _,rfl,rfl,rfl,hF⟩,⟨rfl,rfl,rfl,rfl,rfl,rfl,rfl,rfl,rfl,trivial⟩,zhR _⟩
    rintro k ls H1 ⟨x,hx,rfl,rfl,rfl,hX⟩ j3 hj3;refine gaj ?_;refine oC rfl (fun hc=>?_) (fun hc=>?_)
    ·have hx9:x<9:=by have:=zt hc;omega
     rw[qnv zo] at hX;refine gam ?_
     refine oP (xR (el':=fnLV x) (cs:=[fnLV x]) rfl rfl zo (by
      have:=qbd fnLV (List.range 9) x (by simpa using hx9);rw[List.getElem_range] at this
      exact this) rfl rfl) rfl ?_
     refine gac ?_;refine oP (show Go.GL.Pure _ _ _ _ (.list ((l.drop i).map str)) from qsx l i▸Pure.lslice (es:=l.map str) (i:=((i:Nat):Int)) (j:=(((l.map str).length:Nat):Int)) rfl ⟨_,rfl⟩ rfl zo zo zo (qef l)) rfl ?_;refine gad ?_;have hv':=hv.drop i;have hxl:x<(qpH (qdI l) (l.drop i)).length:=by omega
     generalize hr:(qpH (qdI l) (l.drop i))[x]=r at hX;refine LOps.cut [(0,.list (l.map str)),(3,.atom (.map (some m))),(8,.list ((List.range 9).map fnLV)),(9,v),(10,int .i64 (i:Nat)),(11,int .i64 0),(14,int .i64 (r.1:Nat)),(15,.list (r.2.map str)),(37,.list ((List.range 9).map fnLV)),(38,int .i64 9),(39,int .i64 (x:Nat))] ?_ (fun j4 hj4=>?_)
     ·clear hX;have h9:x=0∨x=1∨x=2∨x=3∨x=4∨x=5∨x=6∨x=7∨x=8:=by omega
      rcases h9 with rfl|rfl|rfl|rfl|rfl|rfl|rfl|rfl|rfl
      ·obtain rfl:qhC (l.drop i)=r:=hr;refine oS (S.fnV (f:=32) [_] rfl rfl (qqw hG (l.drop i) m hv') ?_) rfl;refine gad ?_;exact ⟨⟨rfl,rfl,rfl,rfl,rfl,rfl,rfl,rfl,rfl,rfl,rfl,trivial⟩,rfl,rfl⟩
      ·obtain rfl:qcN (l.drop i)=r:=hr;refine oS (S.fnV (f:=33) [_] rfl rfl (qml (B0:=B0) (w0:=w0) (l.drop i) m hv') ?_) rfl;refine gad ?_;exact ⟨⟨rfl,rfl,rfl,rfl,rfl,rfl,rfl,rfl,rfl,rfl,rfl,trivial⟩,rfl,rfl⟩
      ·obtain rfl:qcl (l.drop i)=r:=hr;refine oS (S.fnV (f:=34) [_] rfl rfl (qmw hG (l.drop i) m hv') ?_) rfl;refine gad ?_;exact ⟨⟨rfl,rfl,rfl,rfl,rfl,rfl,rfl,rfl,rfl,rfl,rfl,trivial⟩,rfl,rfl⟩
      ·obtain rfl:qh5 (l.drop i)=r:=hr;refine oS (S.fnV (f:=35) [_] rfl rfl (qrZ hG (l.drop i) m hv') ?_) rfl;refine gad ?_;exact ⟨⟨rfl,rfl,rfl,rfl,rfl,rfl,rfl,rfl,rfl,rfl,rfl,trivial⟩,rfl,rfl⟩
      ·obtain rfl:qdq (l.drop i)=r:=hr;refine oS (S.fnV (f:=36) [_] rfl rfl (qnn (B0:=B0) (w0:=w0) (l.drop i) m hv') ?_) rfl;refine gad ?_;exact ⟨⟨rfl,rfl,rfl,rfl,rfl,rfl,rfl,rfl,rfl,rfl,rfl,trivial⟩,rfl,rfl⟩
      ·obtain rfl:qey (l.drop i)=r:=hr;refine oS (S.fnV (f:=37) [_] rfl rfl (qpx hG (l.drop i) m hv') ?_) rfl;refine gad ?_;exact ⟨⟨rfl,rfl,rfl,rfl,rfl,rfl,rfl,rfl,rfl,rfl,rfl,trivial⟩,rfl,rfl⟩
      ·obtain rfl:qhp (l.drop i)=r:=hr;refine oS (S.fnV (f:=38) [_] rfl rfl (qrI (B0:=B0) (w0:=w0) (l.drop i) m hv') ?_) rfl;refine gad ?_;exact ⟨⟨rfl,rfl,rfl,rfl,rfl,rfl,rfl,rfl,rfl,rfl,rfl,trivial⟩,rfl,rfl⟩
      ·obtain rfl:qh9 (l.drop i)=r:=hr;refine oS (S.fnV (f:=39) [_] rfl rfl (qqU (B0:=B0) (w0:=w0) (l.drop i) m hv') ?_) rfl;refine gad ?_;exact ⟨⟨rfl,rfl,rfl,rfl,rfl,rfl,rfl,rfl,rfl,rfl,rfl,trivial⟩,rfl,rfl⟩
      ·obtain rfl:qcQ (qdI l) (l.drop i)=r:=hr;obtain ⟨F,hp⟩:=qsq hacc;refine oS (S.callV (f:=40) (H1:=[(m,.obj (.map es clock))]) (F:=F) [_] rfl rfl hp (qnc (B0:=B0) (w0:=w0) (l.drop i) m hv' hM) (fun v' H' hh=>?_) (by rintro ch H' ⟨h,_⟩;cases h)) rfl;obtain ⟨hv1,rfl⟩:=hh;cases hv1;refine LOps.weak ⟨[],by simpa using hp.symm⟩ ?_;refine gad ?_;exact ⟨⟨rfl,rfl,rfl,rfl,rfl,rfl,rfl,rfl,rfl,rfl,rfl,trivial⟩,rfl,rfl⟩
     refine gal ?_;refine oC rfl (fun hn=>?_) (fun hn=>?_)
     ·have hn0:r.1≠0:=by have:=zt hn;omega
      rw[if_pos hn0] at hX;rw[hX] at hR;obtain ⟨hR1,hR2⟩:=hR hn0;have hrl:(r.2.map str).length=r.2.length:=zLm _;refine gao ?_;refine zQ17 ?_;refine gab ?_;refine oS (S.acc rfl hacc rfl (qef _) (qgf _) zo fun v' H' hacc'=>?_) rfl;refine zQ30 ?_;refine gad ?_;exact ⟨(r.1,out++r.2,v',H'),⟨by rw[hX],by rw[hX,if_neg hn0],by rw[zMa];exact hacc'⟩,⟨rfl,rfl,rfl,rfl,rfl,rfl,trivial⟩,zhR _,hj4.trans hj3⟩
     ·have hn0:r.1=0:=by have:=zf hn;omega
      rw[if_neg zo] at hX;refine gaa ?_;exact ⟨_,_,_,by omega,⟨x+1,by omega,rfl,rfl,rfl,hX⟩,⟨rfl,rfl,rfl,rfl,rfl,rfl,rfl,rfl,qak zo,trivial⟩,zhR _,hj4.trans hj3⟩
    ·have hx9:x=9:=by have:=zf hc;omega
     subst hx9;rw[qpB zo] at hX;refine gab ?_;exact ⟨(0,out,v,H1),⟨by rw[hX],by rw[hX];rfl,hacc⟩,⟨rfl,rfl,rfl,rfl,rfl,rfl,trivial⟩,zhR _,hj3⟩
   ·rintro ⟨n,out',v',H'⟩ ⟨hn1,ho1,hacc'⟩ j5 hj5;simp only at hn1 ho1 hacc';have hol':(out'.map str).length=out'.length:=zLm _;rw[<-hn1] at hR ho1 hE;refine gaa ?_;refine oC rfl (fun hn=>?_) (fun hn=>?_)
    ·have hn0:n=0:=by have:=zt hn;omega
     rw[if_pos hn0] at ho1 hE;subst ho1;refine gai ?_;refine oP (pM (lv:=v') rfl) rfl ?_;refine gab ?_;refine oP (xR (el':=str l[i]) (cs:=[str l[i]]) rfl rfl zo (qbd _ _ _ hlt) rfl rfl) rfl ?_;refine gad ?_;refine zQ2 ?_;refine oS (S.acc rfl hacc' rfl (by simp;rfl) rfl (by simp;omega) fun v2 H2 hacc2=>?_) rfl;refine oP (pA (lv:=v2) rfl) rfl ?_;refine gaa ?_;exact ⟨_,_,_,by omega,⟨i+1,f,out'++[l[i]],v2,by omega,rfl,rfl,by rw[zMa];exact hacc2,by omega,by simp;omega,by rw[zAs];exact hE⟩,⟨rfl,rfl,rfl,rfl,qak zo,trivial⟩,zhR _,hj5.trans hj2⟩
    ·have hn0:n≠0:=by have:=zf hn;omega
     rw[if_neg hn0] at ho1 hE;obtain ⟨hR1,hR2⟩:=hR hn0;have hlo:out'.length=out.length+(qbE (qdI l) (l.drop i)).2.length:=by rw[ho1,zLa]
     refine gaa ?_;exact ⟨_,_,_,by omega,⟨i+n,f,out',v',by omega,rfl,rfl,hacc',by omega,by omega,by rw[ho1,zAs];exact hE⟩,⟨rfl,rfl,rfl,rfl,qak zo,trivial⟩,zhR _,hj5.trans hj2⟩
  ·have hi':i=l.length:=by have:=zf hc;omega
   subst hi';rw[List.drop_length,qsQ,zLz] at hE;subst hE;refine qae.sub (d:=9) (v:=v) rfl hacc.sub ?_;refine cW zhn ?_;refine gac ?_;exact qaf (hj2.trans hj1) (rC (rT (v:=.list _) rfl zsr) rN) rfl
end
end Go.Proofs.YtdakelgkjdaijaaGreatDoor.Pp
namespace Go.Proofs.YtdakelgkjdaijaaGreatDoor.Pp
open Go.GL Go.RowKit Go.Stele
open Asm (qbh qbh.mk qbu qcg)
attribute [local irreducible] LOps qae qad LCalls Go.GL.Pure qax qaj qac LQ LAny qaE qal
section
variable {B0:Nat} {w0:World}
theorem joinS_spec (sep:List UInt8) (ws:List (List UInt8)) (hn:ws.length<=1000000000) (hl:(Go.Lib.join ws sep).length<=1000000000):LCalls (KC B0 w0) 16 [.list (ws.map str),str sep] [] (Ret (str (Go.Lib.join ws sep))):=Asm.joinS_spec sep ws hn hl
theorem qo4 (hG:GW B0 w0) (s:List UInt8) (hs:s.length<=1000000):LCalls (KC B0 w0) 44 [str s] [] (Ret (.list ((qbU s).map str))):=by
 have ht:=Asm.tokens_spec hG.base hG.mx s zo;have hla:((qgp s).map qcg).length=(qgp s).length:=zLm _
 have htl:(qgp s).length<=s.length+1:=by
  have h1:=qhG s;rw[<-qfJ,zLm] at h1;exact h1
 rw[<-qfJ];generalize qgp s=l at ht hla htl;refine cI Tryz.func44 rfl (n:=20) rfl rfl rfl ?_;refine gac ?_;refine oS (sF [_] rfl ht ?_) rfl;refine gac ?_
 refine oL (fun k ls H=>∃ (v:LV) (i:Nat),i<=l.length/\k=l.length-i/\ls=[(3,v),(7,.list (l.map qcg)),(8,int .i64 l.length),(9,int .i64 (i:Nat))]/\Acc 1 v (((l.take i).map (·.1)).map str) H [])
  ⟨_,_,_,⟨qab,0,Nat.zero_le _,rfl,rfl,by simpa using Acc.nil⟩,⟨rfl,rfl,qak zo,rfl,trivial⟩,zhR _⟩ ?_
 rintro k ls H ⟨v,i,hi,rfl,rfl,hacc⟩ j hj;refine gac ?_;refine oC rfl (fun hc=>?_) (fun hc=>?_)
 ·have hlt:i<l.length:=by have:=zt hc;omega
  refine gac ?_;refine zQ38 ?_;refine gac ?_;refine oS (sA fun b5=>?_) rfl;refine gac ?_;refine zQ17 ?_;refine gac ?_;refine zQ2 ?_;refine oS (S.acc1 rfl hacc rfl (by simp;rfl) rfl (by simp;omega) fun v' H' hacc'=>?_) rfl;refine zQ30 ?_;refine gac ?_
  exact ⟨_,_,_,by omega,⟨v',i+1,by omega,rfl,rfl,by
   rw[List.take_succ_eq_append_getElem hlt,zMa,zMa]
   exact hacc'⟩,⟨rfl,rfl,rfl,qak zo,trivial⟩,zhD zhr,hj⟩
 ·have hi':i=l.length:=by have:=zf hc;omega
  subst hi';rw[List.take_length] at hacc;refine qae.sub (d:=3) (v:=v) rfl hacc.sub ?_;refine cW zhn ?_;refine gac ?_;exact qaf hj (rC (rT (v:=.list _) rfl zsr) rN) rfl
end
end Go.Proofs.YtdakelgkjdaijaaGreatDoor.Pp
namespace Go.Proofs.YtdakelgkjdaijaaGreatDoor.Pp
open Go.GL Go.RowKit Go.Stele
open Asm (qbh qbh.mk qbu)
theorem qqe {l:List Wd} (h:tot l<=1000000):Small l:=⟨by have:=qlm l;omega,fun w hw=>by have:=qsg hw;omega⟩
attribute [local irreducible] LOps qae qad LCalls Go.GL.Pure qax qaj qac LQ LAny qaE qal
section
variable {B0:Nat} {w0:World}
theorem optimize_spec (hG:GW B0 w0) (s:List UInt8) (hs:s.length<=1000000):LCalls (KC B0 w0) 18 [str s] [] (Ret (.tuple [str (qdU s).1,int .i64 (qdU s).2])):=by
 refine cI Tryz.func18 rfl (n:=21) rfl rfl rfl ?_;refine gal ?_;refine oC rfl (fun h1=>?_) (fun h1=>?_)
 ·have hlt:400000<s.length:=by have:=zt h1;omega
  have hO:qdU s=([],6):=by unfold qdU;rw[if_pos hlt]
  refine gar ?_;exact qaf rfl (rC (zrt rfl) (zra rfl)) (by rw[hO];rfl)
 have hlt:¬ 400000<s.length:=by have:=zf h1;omega
 have hO:qdU s=(Go.Lib.join (optP (qbU s)) [32],0):=by unfold qdU;rw[if_neg hlt]
 have ht:=qjF s;have hc:=qhW s;refine gaa ?_;refine oS (sF [_] rfl (qo4 hG s hs) ?_) rfl;refine gad ?_
 refine oL (fun k ls H=>∃ l:List Wd,k=l.length/\ls=[(4,.list (l.map str))]/\H=[]/\tot l<=400001/\(∀ w∈l,qfI w)/\optP (qbU s)=optP l)
  ⟨_,_,_,⟨_,rfl,rfl,rfl,by omega,hc,rfl⟩,⟨rfl,trivial⟩,zhR _⟩ ?_
 rintro k ls H ⟨l,rfl,rfl,rfl,htl,hcl,hE⟩ j hj;have h1:=qqO hG l (qqe zo);have h2:=qsz l;have hcl2:=qpY hcl;have hjt:=qgY l;have hjt2:=qgY (qfb l);have hln:=qlm l;have hln2:=qlm (qfb l);have hor:=qlC l;have j1:=joinS_spec (B0:=B0) (w0:=w0) [32] l zo zo;have j2:=joinS_spec (B0:=B0) (w0:=w0) [32] (qfb l) zo zo;refine gaa ?_;refine oS (sF [_] rfl h1 ?_) rfl;refine gac ?_;refine oS (sF [_,_] rfl j2 ?_) rfl;refine gab ?_;refine oS (sF [_,_] rfl j1 ?_) rfl;refine gab ?_;refine oC rfl (fun h3=>?_) (fun h3=>?_)
 ·have he:=qtP hcl2 hcl (zt h3);rw[qvF he] at hE;rw[hE] at hO;refine gaa ?_;refine oS (sF [_,_] rfl j1 ?_) rfl;refine gab ?_;exact qaf hj (rC (zrt rfl) (zra rfl)) (by rw[hO];rfl)
 ·have hne:¬ qfb l=l:=fun h=>zf h3 (by rw[h]);rw[qrx hne] at hE;refine gac ?_;exact ⟨_,_,_,by rcases hor with h|h;exact absurd h hne;exact h,⟨qfb l,rfl,rfl,rfl,by omega,hcl2,hE⟩,⟨rfl,trivial⟩,zhR _,hj⟩
end
end Go.Proofs.YtdakelgkjdaijaaGreatDoor.Pp
namespace Go.Proofs.YtdakelgkjdaijaaGreatDoor
open Go.GL Go.RowKit Go.Stele
def quG (op:List UInt8):Nat->Nat
 |0=>if op=nNeg∨op=nNot then 6 else 7
 |k+1=>if (qaZ (5-k)).contains op then 5-k else quG op k
theorem qpb (i:Nat) (h:i<6):qdH[i]? = some (lvLV i):=by
 match i,h with
 |0,_=>rfl
 |1,_=>rfl
 |2,_=>rfl
 |3,_=>rfl
 |4,_=>rfl
 |5,_=>rfl
theorem qr5 (i:Nat):(qaZ i).length<=6:=by
 match i with
 |0=>decide
 |1=>decide
 |2=>decide
 |3=>decide
 |4=>decide
 |5=>decide
 |n+6=>exact Nat.zero_le _
section
variable {B0:Nat} {w0:World}
theorem qgZ (op:List UInt8):LCalls (KC B0 w0) 175 [str op] [] (Ret (int .i64 (qam op))):=by
 refine cI Tryz.func175 rfl (n:=30) rfl rfl rfl ?_;refine gai ?_;refine oS (sF [] rfl qjr ?_) rfl;refine gac ?_
 refine oL (fun k ls H=>∃ i,k=6-i/\i<=6/\ls=[(0,str op),(3,.list qdH),(7,.list qdH),(8,int .i64 6),(9,int .i64 i)]/\H=[]/\qam op=quG op (6-i))
  ⟨_,_,_,⟨0,rfl,Nat.zero_le _,rfl,rfl,rfl⟩,⟨rfl,rfl,rfl,rfl,rfl,trivial⟩,zhR _⟩ ?_
 rintro k ls H ⟨i,rfl,hi,rfl,rfl,hE⟩ j hj;refine gaj ?_;refine oC rfl (fun hc=>?_) (fun hc=>?_)
 ·have hlt:i<6:=by have:=zt hc;omega
  refine gaa ?_;refine oP (xR (el':=lvLV i) (cs:=[lvLV i]) rfl rfl zo (qpb i hlt) rfl rfl) rfl ?_;refine gac ?_;refine oS (sF [_,_] rfl (qcS (qaZ i) op (by have:=qr5 i;omega)) ?_) rfl;refine gaf ?_;obtain ⟨k,hk⟩:∃ k,6-i=k+1:=⟨5-i,by omega⟩;rw[hk,quG] at hE;have hk':5-k=i:=by omega
  rw[hk'] at hE;refine oC rfl (fun hd=>?_) (fun hd=>?_)
  ·rw[if_pos hd] at hE;refine gaa ?_;exact qaf hj (zra rfl) (qak zo)
  ·rw[if_neg (by rw[hd];simp)] at hE;refine gaa ?_;exact ⟨_,_,_,by omega,⟨i+1,rfl,by omega,rfl,rfl,by rw[hE];congr 1;omega⟩,⟨rfl,rfl,rfl,rfl,qak zo,trivial⟩,zhR _,hj⟩
 ·have hge:i=6:=by have:=zf hc;omega
  subst hge;have hE':qam op=if op=nNeg∨op=nNot then 6 else 7:=hE
  have hll:qdH.length=6:=rfl;refine gaa ?_;refine oB 21 rfl (fun h1=>?_) (fun h1=>?_)
  ·refine gab ?_;refine oC rfl (fun hd=>?_) (fun hd=>?_)
   ·refine gaa ?_;exact qaf hj (zra rfl) (qak (by rw[if_pos (show op=nNeg∨op=nNot from Or.inl (zt h1))] at hE';omega))
   ·cases hd
  ·refine gab ?_;refine oC rfl (fun hd=>?_) (fun hd=>?_)
   ·refine gaa ?_;exact qaf hj (zra rfl) (qak (by rw[if_pos (show op=nNeg∨op=nNot from Or.inr (zt hd))] at hE';omega))
   ·refine gaa ?_;exact qaf hj (zra rfl) (qak (by rw[if_neg (fun h=>h.elim (zf h1) (zf hd))] at hE';omega))
end
end Go.Proofs.YtdakelgkjdaijaaGreatDoor
namespace Go.Proofs.YtdakelgkjdaijaaGreatDoor
open Go.GL Go.RowKit Go.Stele
attribute [local irreducible] LOps qae qad LCalls Go.GL.Pure qax qaj qac LQ LAny qaE qal
theorem qsV {n:Int} (h:0<=n/\n<=4294967295):IntKind.u64.wrap n=n:=by
 simp only[IntKind.wrap,IntKind.bits,IntKind.signed,Bool.false_and]
 simp
 omega
theorem qih (x:OpT) (least:Nat):x.2.length<=(opnd x least).length:=by
 unfold opnd;split
 ·simp
  omega
 ·exact zNr _
theorem qls (sep:List UInt8):∀ {ws:List (List UInt8)} {x:List UInt8},x∈ws->x.length<=(Go.Lib.join ws sep).length
 |[a],x,h=>by
  obtain rfl:=List.mem_singleton.mp h
  simp[Go.Lib.join]
 |a::b::r,x,h=>by
  have e:Go.Lib.join (a::b::r) sep=a++sep++Go.Lib.join (b::r) sep:=by simp[Go.Lib.join]
  rw[e];rcases zMi.mp h with h|h
  ·subst h;simp only[zLa];omega
  ·have:=qls sep h;simp only[zLa];omega
section
variable {B0:Nat} {w0:World}
theorem qfd (e:Ex) (least:Nat) (hl:(fE e).length<=1000000000) (he:LCalls (KC B0 w0) 120 [encE e] [] (Ret (str (fE e)))) :
  LCalls (KC B0 w0) 176 [encE e,int .i64 least] [] (Ret (str (opnd (exOp e,fE e) least))):=by
 obtain ⟨op,num,name,args⟩:=e;simp only[exOp];rw[qcx] at he ⊢;refine cI Tryz.func176 rfl (n:=17) rfl rfl rfl ?_;refine gah ?_;refine oS (sB (cs:=[str op,int .u32 num,str name,.list (args.map encE)]) rfl fun b1=>?_) rfl;refine gac ?_;refine oS (sF [_] rfl he ?_) rfl;refine gaa ?_;refine oS (sF [_] rfl (qgZ op) ?_) rfl;refine gab ?_;refine oC rfl (fun hd=>?_) (fun hd=>?_)
 ·have hd':qam op<least:=by have:=zt hd;omega
  refine gac ?_;exact qaf rfl (zra rfl) (qdl (by simp only[opnd];rw[if_pos hd']))
 ·have hd':¬ qam op<least:=by have:=zf hd;omega
  refine gaa ?_;exact qaf rfl (zra rfl) (qdl (by simp only[opnd];rw[if_neg hd']))
theorem qmj (l:List Ex) (hn:l.length<=1000000000) (hl:(Go.Lib.join (l.map fE) qcI).length<=1000000000) (he:∀ e∈l,LCalls (KC B0 w0) 120 [encE e] [] (Ret (str (fE e)))) :
  LCalls (KC B0 w0) 63 [.list (l.map encE)] [] (Ret (str (Go.Lib.join (l.map fE) qcI))):=by
 have hla:(l.map encE).length=l.length:=zLm _;refine cI Tryz.func63 rfl (n:=20) rfl rfl rfl ?_;refine gaa ?_
 refine oL (fun k ls H=>∃ (v:LV) (i:Nat),i<=l.length/\k=l.length-i/\ls=[(0,.list (l.map encE)),(3,v),(6,.list (l.map encE)),(7,int .i64 l.length),(8,int .i64 i)]/\Acc 1 v (((l.take i).map fE).map str) H [])
  ⟨_,_,_,⟨qab,0,Nat.zero_le _,rfl,rfl,by simpa using Acc.nil⟩,⟨rfl,rfl,rfl,qak zo,rfl,trivial⟩,zhR _⟩ ?_
 rintro k ls H ⟨v,i,hi,rfl,rfl,hacc⟩ j hj;refine gaj ?_;refine oC rfl (fun hc=>?_) (fun hc=>?_)
 ·have hlt:i<l.length:=by have:=zt hc;omega
  refine gam ?_;refine oP (xR (el':=encE l[i]) (cs:=[_,_,_,_]) rfl rfl zo (qbd _ _ _ hlt) rfl rfl) rfl ?_;refine gad ?_;refine oS (sA fun b5=>?_) rfl;refine gac ?_;refine zQ17 ?_;refine gad ?_;refine oS (sF [_] rfl (he l[i] (List.getElem_mem hlt)) ?_) rfl;refine zQ2 ?_;refine oS (S.acc1 rfl hacc rfl (by simp;rfl) rfl (by simp;omega) fun v' H' hacc'=>?_) rfl;refine zQ30 ?_;refine gan ?_
  exact ⟨_,_,_,by omega,⟨v',i+1,by omega,rfl,rfl,by
   rw[List.take_succ_eq_append_getElem hlt,zMa,zMa]
   exact hacc'⟩,⟨rfl,rfl,rfl,rfl,qak zo,trivial⟩,zhD zhr,hj⟩
 ·have hi':i=l.length:=by have:=zf hc;omega
  subst hi';rw[List.take_length] at hacc;refine qae.sub (d:=3) (v:=v) rfl hacc.sub ?_;refine cW zhn ?_;refine gaa ?_;refine oS (sF [_,_] rfl (joinS_spec qcI (l.map fE) (by rw[zLm];omega) hl) ?_) rfl;refine gaf ?_;exact qaf hj (zra rfl) rfl
theorem qri (hG:GW B0 w0) (op:List UInt8) (num:Nat) (name:List UInt8) (args:List Ex) (hnum:num<4294967296) (hn:args.length<=1000000000) (hl:(fE (.mk op num name args)).length<=1000000000)
  (he:∀ e∈args,(fE e).length<=1000000000->LCalls (KC B0 w0) 120 [encE e] [] (Ret (str (fE e)))) :
  LCalls (KC B0 w0) 120 [encE (.mk op num name args)] [] (Ret (str (fE (.mk op num name args)))):=by
 have hF:=qmH op num name args;have hla:(args.map encE).length=args.length:=zLm _;rw[qj3,zLm,List.map_map] at hF;rw[qcx];refine cI Tryz.func120 rfl (n:=113) rfl rfl rfl ?_;refine gah ?_;refine oS (sB (cs:=[str op,int .u32 num,str name,.list (args.map encE)]) rfl fun b1=>?_) rfl;refine gab ?_;refine cC [(1,ptr b1 0),(2,str []),(3,int .i64 args.length),(4,int .i64 (qam op))] ?_ (fun j hj=>?_)
 ·refine zQ32 ?_;refine LQ.call (args:=[_]) (v:=.int .i64 (qam op)) (qiZ (qgZ op)) rfl ?_;refine gad ?_;exact ⟨⟨rfl,rfl,qak zo,rfl,trivial⟩,rfl,rfl⟩
 refine gaa ?_;refine oC rfl (fun h1=>?_) (fun h1=>?_)
 ·have e1:op=nNum:=zt h1;rw[if_pos e1] at hF;refine gac ?_;refine oS (sF [_,_] (show _=[int .u64 (IntKind.wrap .u64 num),int .i64 10] from rfl) (by rw[qsV zo];exact fmtUint_spec hG num zo) ?_) rfl;refine gab ?_;exact qaf hj (zra rfl) (qdl hF.symm)
 have e1:¬ op=nNum:=zf h1;rw[if_neg e1] at hF;refine gaa ?_;refine oC rfl (fun h2=>?_) (fun h2=>?_)
 ·have e2:op=nVar:=zt h2;rw[if_pos e2] at hF;refine gaa ?_;exact qaf hj (zra rfl) (qdl hF.symm)
 have e2:¬ op=nVar:=zf h2;rw[if_neg e2] at hF;refine gaa ?_;refine LOps.cut [(1,ptr b1 0),(2,str []),(3,int .i64 args.length),(4,int .i64 (qam op)),(26,bool (decide (op=qcY/\args.length=1)))] ?_ (fun j3 hj3=>?_)
 ·refine oB 30 rfl (fun h=>?_) (fun h=>?_)
  ·have h':op=qcY:=zt h;refine gab ?_;exact ⟨⟨rfl,rfl,rfl,rfl,qas (by simp only[h',true_and];exact decide_eq_decide.mpr zo),trivial⟩,rfl,rfl⟩
  ·have h':¬ op=qcY:=zf h;refine gab ?_;exact ⟨⟨rfl,rfl,rfl,rfl,qas (by simp only[h',false_and];rfl),trivial⟩,rfl,rfl⟩
 refine oC rfl (fun h3=>?_) (fun h3=>?_)
 ·obtain ⟨e3,hlen⟩:op=qcY/\args.length=1:=zt h3;obtain ⟨a,rfl⟩:=List.length_eq_one_iff.mp hlen;rw[if_pos ⟨e3,hlen⟩] at hF;simp only[zMc,List.headD_cons] at hF;rw[hF] at hl;simp only[zLa,zLc,zLn] at hl;refine gab ?_;refine cC [(2,str (name++[91]++fE a++[93]))] ?_ (fun j4 hj4=>?_)
  ·refine zQ32 ?_;refine qP (xR (el':=encE a) (cs:=[_,_,_,_]) rfl rfl zo rfl rfl rfl) rfl ?_;refine gad ?_;refine LQ.call (args:=[_]) (v:=.string ⟨(fE a).toArray⟩) (qiZ (he a (List.mem_singleton.mpr rfl) zo)) rfl ?_;refine gad ?_;exact ⟨⟨rfl,trivial⟩,rfl,rfl⟩
  refine gab ?_;exact qaf (hj4.trans (hj3.trans hj)) (zra rfl) (qdl hF.symm)
 have e3:¬ (op=qcY/\args.length=1):=zf h3;rw[if_neg e3] at hF;refine gaa ?_;refine oC rfl (fun h4=>?_) (fun h4=>?_)
 ·have e4:op=qbG:=zt h4;rw[if_pos e4] at hF;have hmm:List.map ((fun x=>x.snd)∘fun e=>(exOp e,fE e)) args=args.map fE:=rfl;rw[hmm] at hF;rw[hF] at hl;simp only[zLa,zLc,zLn] at hl;refine gab ?_;refine cC [(2,str (name++[40]++Go.Lib.join (args.map fE) qcI++[41]))] ?_ (fun j4 hj4=>?_)
  ·refine zQ32 ?_;refine LQ.call (args:=[_]) (v:=.string ⟨(Go.Lib.join (args.map fE) qcI).toArray⟩) (qiZ (qmj args hn zo fun e he'=>he e he' (by have:=qls qcI (List.mem_map_of_mem (f:=fE) he');omega))) rfl ?_;refine gad ?_;exact ⟨⟨rfl,trivial⟩,rfl,rfl⟩
  refine gab ?_;exact qaf (hj4.trans (hj3.trans hj)) (zra rfl) (qdl hF.symm)
 have e4:¬ op=qbG:=zf h4;rw[if_neg e4] at hF;refine gaa ?_;refine LOps.cut [(1,ptr b1 0),(2,str []),(3,int .i64 args.length),(4,int .i64 (qam op)),(56,bool (decide (op=nNeg/\args.length=1)))] ?_ (fun j5 hj5=>?_)
 ·refine oB 60 rfl (fun h=>?_) (fun h=>?_)
  ·have h':op=nNeg:=zt h;refine gab ?_;exact ⟨⟨rfl,rfl,rfl,rfl,qas (by simp only[h',true_and];exact decide_eq_decide.mpr zo),trivial⟩,rfl,rfl⟩
  ·have h':¬ op=nNeg:=zf h;refine gab ?_;exact ⟨⟨rfl,rfl,rfl,rfl,qas (by simp only[h',false_and];rfl),trivial⟩,rfl,rfl⟩
 refine oC rfl (fun h5=>?_) (fun h5=>?_)
 ·obtain ⟨e5,hlen⟩:op=nNeg/\args.length=1:=zt h5;obtain ⟨a,rfl⟩:=List.length_eq_one_iff.mp hlen;rw[if_pos ⟨e5,hlen⟩] at hF;simp only[zMc,List.headD_cons] at hF;rw[hF] at hl;simp only[zLa,zLc,zLn] at hl;have hol:=qih (exOp a,fE a) (qam op);simp only at hol;refine zQ40 ?_;exact qaf (hj5.trans (hj3.trans hj)) (zra rfl) (qdl hF.symm)
 have e5:¬ (op=nNeg/\args.length=1):=zf h5;rw[if_neg e5] at hF;refine gaa ?_;refine LOps.cut [(1,ptr b1 0),(2,str []),(3,int .i64 args.length),(4,int .i64 (qam op)),(71,bool (decide (op=nNot/\args.length=1)))] ?_ (fun j6 hj6=>?_)
 ·refine oB 75 rfl (fun h=>?_) (fun h=>?_)
  ·have h':op=nNot:=zt h;refine gab ?_;exact ⟨⟨rfl,rfl,rfl,rfl,qas (by simp only[h',true_and];exact decide_eq_decide.mpr zo),trivial⟩,rfl,rfl⟩
  ·have h':¬ op=nNot:=zf h;refine gab ?_;exact ⟨⟨rfl,rfl,rfl,rfl,qas (by simp only[h',false_and];rfl),trivial⟩,rfl,rfl⟩
 refine oC rfl (fun h6=>?_) (fun h6=>?_)
 ·obtain ⟨e6,hlen⟩:op=nNot/\args.length=1:=zt h6;obtain ⟨a,rfl⟩:=List.length_eq_one_iff.mp hlen;rw[if_pos ⟨e6,hlen⟩] at hF;simp only[zMc,List.headD_cons] at hF;rw[hF] at hl;simp only[zLa,zLc,zLn] at hl;have hol:=qih (exOp a,fE a) (qam op);simp only at hol;refine zQ40 ?_;exact qaf (hj6.trans (hj5.trans (hj3.trans hj))) (zra rfl) (qdl hF.symm)
 have e6:¬ (op=nNot/\args.length=1):=zf h6;rw[if_neg e6] at hF;refine gaa ?_;refine oC rfl (fun h7=>?_) (fun h7=>?_)
 ·have e7:args.length=2:=by have:=zt h7;omega
  obtain ⟨a,b,rfl⟩:∃ a b,args=[a,b]:=by
   match args,e7 with
   |[a,b],_=>exact ⟨a,b,rfl⟩
  rw[if_pos e7] at hF;simp only[zMc,List.headD_cons,List.tail_cons] at hF;rw[hF] at hl;simp only[zLa,zLc,zLn] at hl;have hola:=qih (exOp a,fE a) (qbS (qam op));have holb:=qih (exOp b,fE b) (qam op+1);have hs7:=qmz op;simp only at hola holb;have sa:=qfd a (qbS (qam op)) zo (he a (by simp) zo);have sb:=qfd b (qam op+1) zo (he b (by simp) zo);refine gaa ?_;refine cC [(1,ptr b1 0),(2,str []),(4,int .i64 (qam op)),(5,int .i64 (qbS (qam op)))] ?_ (fun j7 hj7=>?_)
  ·refine oC rfl (fun h8=>?_) (fun h8=>?_)
   ·have h8':qam op=2:=by have:=zt h8;omega
    refine gaa ?_;exact ⟨⟨rfl,rfl,rfl,qak (by rw[qbS,if_pos h8'];omega),trivial⟩,rfl,rfl⟩
   ·have h8':¬ qam op=2:=by have:=zf h8;omega
    refine gaq ?_;exact ⟨⟨rfl,rfl,rfl,qak (by rw[qbS,if_neg h8']),trivial⟩,rfl,rfl⟩
  refine gab ?_;refine cC [(2,str (opnd (exOp a,fE a) (qbS (qam op))++[32]++op++[32]++opnd (exOp b,fE b) (qam op+1)))] ?_ (fun j8 hj8=>?_)
  ·refine qae.quiet zk ?_;refine gav ?_;refine qP (xR (el':=encE a) (cs:=[_,_,_,_]) rfl rfl zo rfl rfl rfl) rfl ?_;refine gad ?_;refine LQ.call (args:=[_,_]) (v:=.string ⟨(opnd (exOp a,fE a) (qbS (qam op))).toArray⟩) (qiZ sa) rfl ?_;refine gad ?_;refine qP (xR (el':=encE b) (cs:=[_,_,_,_]) rfl rfl zo rfl rfl rfl) rfl ?_;refine gad ?_
   refine LQ.call (args:=[_,_]) (v:=.string ⟨(opnd (exOp b,fE b) (qam op+1)).toArray⟩) (qiZ (by
    have e9:int .i64 ((qam op:Int)+1)=int .i64 ((qam op+1:Nat):Int):=qak zo;rw[<-e9] at sb
    exact sb)) rfl ?_
   refine gad ?_;exact ⟨⟨rfl,trivial⟩,rfl,rfl⟩
  refine gab ?_;exact qaf (hj8.trans (hj7.trans (hj6.trans (hj5.trans (hj3.trans hj))))) (zra rfl) (qdl hF.symm)
 ·have e7:¬ args.length=2:=by have:=zf h7;omega
  rw[if_neg e7] at hF;refine gaa ?_;exact qaf (hj6.trans (hj5.trans (hj3.trans hj))) (zra rfl) (qdl hF.symm)
mutual
def okE:Ex->Prop
 |.mk _ num _ args=>num<4294967296/\args.length<=1000000000/\okEs args
def okEs:List Ex->Prop
 |[]=>True
 |e::r=>okE e/\okEs r
end
theorem qli:∀ {l:List Ex} {e:Ex},okEs l->e∈l->okE e
 |e::r,x,h,hx=>by
  rw[okEs] at h;rcases zMi.mp hx with hx|hx
  ·exact hx▸h.1
  ·exact qli h.2 hx
theorem qpQ (hG:GW B0 w0):∀ (n:Nat) (e:Ex),nEx e<=n->okE e->(fE e).length<=1000000000->LCalls (KC B0 w0) 120 [encE e] [] (Ret (str (fE e))):=by
 intro n
 induction n with
 |zero=>
  intro e hn;obtain ⟨op,num,name,args⟩:=e;rw[nEx] at hn
  omega
 |succ n ih=>
  intro e hn hk hl;obtain ⟨op,num,name,args⟩:=e;rw[nEx] at hn;rw[okE] at hk;exact qri hG op num name args hk.1 hk.2.1 hl fun e he hle=>ih e (by have:=qfL he;omega) (qli hk.2.2 he) hle
end
end Go.Proofs.YtdakelgkjdaijaaGreatDoor
namespace Go.Proofs.YtdakelgkjdaijaaGreatDoor
open Go.GL Go.RowKit Go.Stele
theorem qip {T:List Tok}:∀ (f:Nat) (p:Pr) (i op:Nat) (q:Pr) (i' op':Nat),i<=T.length->qbH T f p i op=some (.ok q i' op')->i'<=T.length
 |0,_,_,_,_,_,_,_,h=>by rw[qbH] at h;cases h
 |f+1,p,i,op,q,i',op',hi,h=>by
  rw[qbH] at h;split at h
  ·cases h;exact hi
  ·split at h
   ·rcases qau h with ⟨l,i1,op1,h1,h⟩|⟨l,e,_,h⟩
    ·exact qip f _ i1 op1 q i' op' ((qbY T f _ _ _ _ h1).2.2.1 hi) h
    ·cases h
   ·split at h
    ·rename_i h0
     have:=qaL h0;rcases qau h with ⟨a,i1,op1,h1,h⟩|⟨l,e,_,h⟩
     ·exact qip f _ i1 op1 q i' op' ((qc6 T _ _ _ h1).2.2.1 zo) h
     ·cases h
    ·split at h
     ·rename_i h0
      have:=qaL h0;rcases qau h with ⟨a,i1,op1,h1,h⟩|⟨l,e,_,h⟩
      ·exact qip f _ i1 op1 q i' op' ((qdL T f _ _ _ h1).2.2.1 zo) h
      ·cases h
     ·cases h
theorem qnj:PrOk noPr:=⟨by decide,by intro a ha;cases ha⟩
theorem qqS (s:List UInt8):PrOk (qaW s).1:=by
 unfold qaW;split
 ·exact qnj
 ·rename_i T hT
  have ht:=qsH hT
  have hk:∀ t∈T,qqG t:=by
   unfold qbR at hT;split at hT
   ·cases hT
   ·exact (qhJ _ _ _ _ hT).2
  split
  ·rename_i p i op hp
   obtain ⟨h1,h2⟩:=qkH hk _ _ _ _ _ _ _ (by intro a ha;cases ha) hp;have h3:=qip _ _ _ _ _ _ _ (Nat.zero_le _) hp;have:=ht.len;have h0:nPr noPr=0:=rfl;exact ⟨by show nPr p<=_;omega,h2⟩
  ·exact qnj
  ·exact qnj
end Go.Proofs.YtdakelgkjdaijaaGreatDoor
namespace Go.Proofs.YtdakelgkjdaijaaGreatDoor
open Go.GL Go.RowKit Go.Stele
section
variable {C:Ctx} {e:Env} {dst:Option Nat} {ty:TypeId} {pos:String} {aft:Array Edge} {g:Option (Nat×Bool)} {K:LV->Heap->Prop} {X:List PanicEntry->Heap->Prop}
theorem S.callBH {f:FuncId} [TEnter C.P f] (args:List Operand) {ats:Array TypeId} {avs:List LV} {R:Heap->Prop} {q:Nat×LObj} {H1:Heap} (has:args.map e.ev=avs)
  (hc:LCalls C f avs H1 (fun r H'=>(∃ x,r=.ret x)/\R H')) (hk:∀ v H',R H'->K v (q::H')) :
  qad C ⟨dst,.call { callee:=.value (.func f),args:=args.toArray,argTypes:=ats },ty,pos,aft,g⟩ e (q::H1) K X:=by
 refine qad.conseq (K:=fun lv H'=>∃ H2,H'=H2++[q]/\R H2) (S.callH (H1:=H1) (F:=[q]) args has (List.perm_append_singleton _ _).symm hc (fun v H' h=>⟨H',rfl,h.2⟩) (fun ch H' h=>by
  obtain ⟨⟨x,hx⟩,_⟩:=h
  cases hx)) ?_
 rintro lv H' ⟨H2,rfl,h⟩;exact ⟨lv,[q]++H2,vR _,⟨[],by simp⟩,hk _ _ h⟩
end
attribute [local irreducible] LOps qae qad LCalls Go.GL.Pure qax qaj qac LQ LAny qaE qal
section
variable {B0:Nat} {w0:World}
theorem qtX (l:List Ex) (hn:l.length<=1000000000) (hl:(fOne l).length<=1000000000) (he:∀ e∈l,LCalls (KC B0 w0) 120 [encE e] [] (Ret (str (fE e)))) :
  LCalls (KC B0 w0) 62 [.list (l.map encE)] [] (Ret (str (fOne l))):=by
 refine cI Tryz.func62 rfl (n:=5) rfl rfl rfl ?_;refine gaa ?_;refine oS (sF [_] rfl (qmj l hn hl he) ?_) rfl;refine gaf ?_;exact qaf rfl (zra rfl) rfl
theorem qlO:∀ l:List Ex,l.length<=nExs l
 |[]=>Nat.zero_le _
 |e::r=>by
  have h1:=qlO r;obtain ⟨op,num,name,args⟩:=e;rw[nExs,nEx,zLc];omega
theorem qkw (hG:GW B0 w0) (l:List Ex) (hk:okEs l) (hn:nExs l<=1000000000) (hl:(fOne l).length<=1000000000):LCalls (KC B0 w0) 62 [.list (l.map encE)] [] (Ret (str (fOne l))):=
 qtX l (by have:=qlO l;omega) hl fun e he=>qpQ hG _ e (zNr _) (qli hk he) (by
  have:=qls qcI (List.mem_map_of_mem (f:=fE) he);have h2:(Go.Lib.join (l.map fE) qcI).length<=1000000000:=hl
  omega)
mutual
def okS:Sm->Prop
 |.mk _ _ index value thn els=>okEs index/\okEs value/\okSs thn/\okSs els
def okSs:List Sm->Prop
 |[]=>True
 |s::r=>okS s/\okSs r
end
theorem qo1:∀ {l:List Sm} {s:Sm},okSs l->s∈l->okS s
 |s::r,x,h,hx=>by
  rw[okSs] at h;rcases zMi.mp hx with hx|hx
  ·exact hx▸h.1
  ·exact qo1 h.2 hx
theorem quQ (ind:List UInt8):∀ {l:List Sm} {i:Nat} (h:i<l.length),(fSs ind (l.take i)).length+(fS ind l[i]).length<=(fSs ind l).length:=by
 intro l i h;have h1:=qoG ind h;have h2:fSs ind l=fSs ind (l.take (i+1))++fSs ind (l.drop (i+1)):=by rw[<-qhm,List.take_append_drop]
 rw[h2,h1];simp only[zLa];omega
theorem qlT:∀ l:List Sm,l.length<=nSms l
 |[]=>Nat.zero_le _
 |s::r=>by
  have h1:=qlT r;obtain ⟨k,name,i,v,t,e⟩:=s;rw[nSms,nSm,zLc];omega
theorem qkg (hG:GW B0 w0) (n:Nat) (ih:∀ (l:List Sm) (ind acc:List UInt8) (b:Nat) (H:Heap),nSms l<n->okSs l->acc.length+(fSs ind l).length<=1000000000->BH b acc H ->
   LCalls (KC B0 w0) 26 [ptr b 0,.list (l.map encS),str ind] H (fun r H'=>(∃ x,r=.ret x)/\BH b (acc++fSs ind l) H'))
  (l:List Sm) (ind acc:List UInt8) (b:Nat) (H:Heap) (hn:nSms l<=n) (hn2:n<=1000000000) (hk:okSs l) (hl:acc.length+(fSs ind l).length<=1000000000) (hB:BH b acc H) :
  LCalls (KC B0 w0) 26 [ptr b 0,.list (l.map encS),str ind] H (fun r H'=>(∃ x,r=.ret x)/\BH b (acc++fSs ind l) H'):=by
 have hla:(l.map encS).length=l.length:=zLm _;have hlen:=qlT l;refine cI Tryz.func26 rfl (n:=116) rfl rfl rfl ?_;refine gaa ?_
 refine oL (fun k ls H=>∃ i,i<=l.length/\k=l.length-i/\ls=[(0,ptr b 0),(2,str ind),(6,.atom (.func (.func 62) #[] #[])),(10,.list (l.map encS)),(11,int .i64 l.length),(12,int .i64 i)]/\BH b (acc++fSs ind (l.take i)) H)
  ⟨_,_,_,⟨0,Nat.zero_le _,rfl,rfl,by simpa [fSs] using hB⟩,⟨rfl,rfl,rfl,rfl,qak zo,rfl,trivial⟩,zhR _⟩ ?_
 rintro k ls H ⟨i,hi,rfl,rfl,hB⟩ j hj;refine gaj ?_;refine oC rfl (fun hc=>?_) (fun hc=>?_)
 ·have hlt:i<l.length:=by have:=zt hc;omega
  have hm:=quQ ind hlt;have hke:=qo1 hk (List.getElem_mem hlt);have hne:=qfZ (List.getElem_mem hlt);have hta:=qoG ind hlt;refine gam ?_;refine oP (xR (el':=encS l[i]) (cs:=[_,_,_,_,_,_]) rfl rfl zo (qbd _ _ _ hlt) rfl rfl) rfl ?_;refine gad ?_;refine oS (sA fun b8=>?_) rfl;refine gac ?_;generalize l[i]=s at hm hke hne hta ⊢;obtain ⟨kind,name,index,value,thn,els⟩:=s;rw[qfB] at hm hta;simp only[zLa] at hm;rw[okS] at hke;rw[nSm] at hne;obtain ⟨hk1,hk2,hk3,hk4⟩:=hke;refine oS (S.callBH [_,_] rfl (qaD b _ ind H hB (by simp only[zLa];omega)) fun v H2 hB2=>?_) rfl;refine gaa ?_;refine oC rfl (fun h1=>?_) (fun h1=>?_)
  ·have e1:kind=1:=zt h1;rw[qdv,if_pos e1] at hm hta;simp only[zLa,zLc,zLn] at hm;refine cD (m:=11) rfl [(b8,.cells 134 [int .i64 kind,str name,.list (index.map encE),.list (value.map encE),.list (qdT (.mk kind name index value thn els)),.list (qdu (.mk kind name index value thn els))])] ?_;refine zQ21 ?_;refine aL ?_ zhp;refine lO 7 (lS (H1:=[]) rfl (.inl rfl) rfl zpr zhp (S.fnV [_] rfl rfl (qkw hG value hk2 zo zo) ?_));refine lO 8 (lH rfl rfl (Pure.sadd rfl rfl (by simp only[zLa,zLc,zLn];omega)) ?_);refine lO 9 (lH rfl rfl (Pure.sadd rfl rfl (by simp only[zLa,zLc,zLn];omega)) ?_);refine lO 10 (lS (H1:=H2) (F:=[(b8,.cells 134 [int .i64 kind,str name,.list (index.map encE),.list (value.map encE),.list (qdT (.mk kind name index value thn els)),.list (qdu (.mk kind name index value thn els))])]) rfl (.inl rfl) rfl (List.perm_append_singleton _ _).symm zhr (qad.call (args:=[_,_]) (qaD b _ (name++[32,61,32]++fOne value++[59,10]) H2 hB2 (by simp only[zLa,zLc,zLn];omega)) (fun v3 H3 h3=>?_) (fun ch H3 h3=>?_)));rotate_left
   ·obtain ⟨⟨x,hx⟩,_⟩:=h3;cases hx
   obtain ⟨_,hB3⟩:=h3;refine lD zk ?_;refine gan ?_;exact ⟨_,_,_,by omega,⟨i+1,by omega,rfl,rfl,by rw[hta];simpa only[zAs] using hB3⟩,⟨rfl,rfl,rfl,rfl,rfl,qak zo,trivial⟩,⟨_,List.Perm.refl _⟩,hj⟩
  have e1:¬ kind=1:=zf h1;refine gai ?_;refine oC rfl (fun h2=>?_) (fun h2=>?_)
  ·have e2:kind=2:=zt h2;rw[qdv,if_neg e1,if_pos e2] at hm hta;simp only[zLa,zLc,zLn] at hm;refine cD (m:=17) rfl [(b8,.cells 134 [int .i64 kind,str name,.list (index.map encE),.list (value.map encE),.list (qdT (.mk kind name index value thn els)),.list (qdu (.mk kind name index value thn els))])] ?_;refine zQ21 ?_;refine aT 10 rfl rfl (pM (lv:=.atom _) rfl) ?_;refine aT 11 rfl rfl (pF rfl) ?_;refine aT 12 rfl rfl (pL (c:=.list _) rfl zm0 rfl) ?_;refine aL ?_ zhp;refine lO 7 (lS (H1:=[]) rfl (.inl rfl) rfl zpr zhp (S.fnV [_] rfl rfl (qkw hG index hk1 zo zo) ?_));refine qaE.any [(b8,.cells 134 [int .i64 kind,str name,.list (index.map encE),.list (value.map encE),.list (qdT (.mk kind name index value thn els)),.list (qdu (.mk kind name index value thn els))])] (fun _ h=>h) ?_;refine aT 8 rfl rfl (Pure.sadd rfl rfl (by first|omega|(simp only[zLa,zLc,zLn];omega))) ?_;refine aT 9 rfl rfl (Pure.sadd rfl rfl (by first|omega|(simp only[zLa,zLc,zLn];omega))) ?_;refine aL ?_ zhp;refine lO 13 (lS (H1:=[]) rfl (.inl rfl) rfl zpr zhp (S.fnV [_] rfl rfl (qkw hG value hk2 zo zo) ?_));refine lO 14 (lH rfl rfl (Pure.sadd rfl rfl (by simp only[zLa,zLc,zLn];omega)) ?_);refine lO 15 (lH rfl rfl (Pure.sadd rfl rfl (by simp only[zLa,zLc,zLn];omega)) ?_);refine lO 16 (lS (H1:=H2) (F:=[(b8,.cells 134 [int .i64 kind,str name,.list (index.map encE),.list (value.map encE),.list (qdT (.mk kind name index value thn els)),.list (qdu (.mk kind name index value thn els))])]) rfl (.inl rfl) rfl (List.perm_append_singleton _ _).symm zhr (qad.call (args:=[_,_]) (qaD b _ (name++[91]++fOne index++[93,32,61,32]++fOne value++[59,10]) H2 hB2 (by simp only[zLa,zLc,zLn];omega)) (fun v3 H3 h3=>?_) (fun ch H3 h3=>?_)));rotate_left
   ·obtain ⟨⟨x,hx⟩,_⟩:=h3;cases hx
   obtain ⟨_,hB3⟩:=h3;refine lD zk ?_;refine gan ?_;exact ⟨_,_,_,by omega,⟨i+1,by omega,rfl,rfl,by rw[hta];simpa only[zAs] using hB3⟩,⟨rfl,rfl,rfl,rfl,rfl,qak zo,trivial⟩,⟨_,List.Perm.refl _⟩,hj⟩
  have e2:¬ kind=2:=zf h2;refine gai ?_;refine oC rfl (fun h3=>?_) (fun h3=>?_)
  ·have e3:kind=6:=zt h3;rw[qdv,if_neg e1,if_neg e2,if_pos e3] at hm hta;simp only[zLa,zLc,zLn] at hm;refine gaa ?_;refine oS (S.fnV [_] rfl rfl (qkw hG value hk2 zo zo) ?_) rfl;refine gad ?_;refine oS (S.callBH [_,_] rfl (qaD b _ (fOne value++[59,10]) H2 hB2 (by simp only[zLa,zLc,zLn];omega)) fun v3 H3 hB3=>?_) rfl;refine gan ?_;exact ⟨_,_,_,by omega,⟨i+1,by omega,rfl,rfl,by rw[hta];simpa only[zAs] using hB3⟩,⟨rfl,rfl,rfl,rfl,rfl,qak zo,trivial⟩,zhD zhr,hj⟩
  have e3:¬ kind=6:=zf h3;refine gai ?_;refine oC rfl (fun h4=>?_) (fun h4=>?_)
  ·have e4:kind=5:=zt h4;rw[qdv,if_neg e1,if_neg e2,if_neg e3,if_pos e4] at hm hta;simp only[zLa,zLc,zLn] at hm;refine gaa ?_;refine oS (S.fnV [_] rfl rfl (qkw hG value hk2 zo zo) ?_) rfl;refine gad ?_;refine oS (S.callBH [_,_] rfl (qaD b _ ([114,101,116,117,114,110,32]++fOne value++[59,10]) H2 hB2 (by simp only[zLa,zLc,zLn];omega)) fun v3 H3 hB3=>?_) rfl;refine gan ?_;exact ⟨_,_,_,by omega,⟨i+1,by omega,rfl,rfl,by rw[hta];simpa only[zAs] using hB3⟩,⟨rfl,rfl,rfl,rfl,rfl,qak zo,trivial⟩,zhD zhr,hj⟩
  have e4:¬ kind=5:=zf h4;refine gai ?_;refine oC rfl (fun h5=>?_) (fun h5=>?_)
  ·have e5:kind=7:=zt h5;rw[qdv,if_neg e1,if_neg e2,if_neg e3,if_neg e4,if_pos e5] at hm hta;simp only[zLa,zLc,zLn] at hm;refine gag ?_;refine oS (S.callBH [_,_] rfl (qaD b _ ([104,97,108,116,59,10]) H2 hB2 (by simp only[zLa,zLc,zLn];omega)) fun v3 H3 hB3=>?_) rfl;refine gan ?_;exact ⟨_,_,_,by omega,⟨i+1,by omega,rfl,rfl,by rw[hta];simpa only[zAs] using hB3⟩,⟨rfl,rfl,rfl,rfl,rfl,qak zo,trivial⟩,zhD zhr,hj⟩
  have e5:¬ kind=7:=zf h5;refine gai ?_;refine cC [(0,ptr b 0),(2,str ind),(6,.atom (.func (.func 62) #[] #[])),(8,ptr b8 0),(10,.list (l.map encS)),(11,int .i64 l.length),(12,int .i64 i),(76,bool (decide (kind=3∨kind=4)))] ?_ (fun j2 hj2=>?_)
  ·refine oC rfl (fun h6=>?_) (fun h6=>?_)
   ·have e6:kind=3:=zt h6;refine gaq ?_;exact ⟨⟨rfl,rfl,rfl,rfl,rfl,rfl,rfl,qas (by simp[e6];rfl),trivial⟩,rfl,rfl⟩
   ·have e6:¬ kind=3:=zf h6;refine gai ?_;exact ⟨⟨rfl,rfl,rfl,rfl,rfl,rfl,rfl,qas (by simp[e6];exact Iff.rfl),trivial⟩,rfl,rfl⟩
  refine oC rfl (fun h6=>?_) (fun h6=>?_)
  ·have e6:kind=3∨kind=4:=zt h6;rw[qdv,if_neg e1,if_neg e2,if_neg e3,if_neg e4,if_neg e5,if_pos e6] at hm hta;obtain ⟨word,hw⟩:∃ w:List UInt8,w=(if kind=4 then [119,104,105,108,101,32] else [105,102,32]):=⟨_,rfl⟩;rw[<-hw] at hm hta;simp only[zLa,zLc,zLn] at hm;refine gaa ?_;refine cC [(0,ptr b 0),(2,str ind),(6,.atom (.func (.func 62) #[] #[])),(8,ptr b8 0),(9,str word),(10,.list (l.map encS)),(11,int .i64 l.length),(12,int .i64 i)] ?_ (fun j3 hj3=>?_)
   ·refine oC rfl (fun h7=>?_) (fun h7=>?_)
    ·have e7:kind=4:=zt h7;refine gai ?_;exact ⟨⟨rfl,rfl,rfl,rfl,qdl (by rw[hw,if_pos e7]),rfl,rfl,rfl,trivial⟩,rfl,rfl⟩
    ·have e7:¬ kind=4:=zf h7;refine gaq ?_;exact ⟨⟨rfl,rfl,rfl,rfl,qdl (by rw[hw,if_neg e7]),rfl,rfl,rfl,trivial⟩,rfl,rfl⟩
   refine gaa ?_;refine oS (S.fnV [_] rfl rfl (qkw hG value hk2 zo zo) ?_) rfl;refine gad ?_;refine oS (S.callBH [_,_] rfl (qaD b _ (word++fOne value++[32,123,10]) H2 hB2 (by simp only[zLa,zLc,zLn];omega)) fun v3 H3 hB3=>?_) rfl;refine gac ?_
   refine oS (S.callBH [_,_,_] (show _=[ptr b 0,.list (qdT (.mk kind name index value thn els)),str (ind2 ind)] from rfl) (by
    rw[qpc]
    exact ih thn (ind2 ind) _ b H3 zo hk3 (by simp only[zLa,zLc,zLn];omega) hB3) fun v4 H4 hB4=>?_) rfl
   refine gac ?_
   have hel:(qdu (.mk kind name index value thn els)).length=els.length:=by
    rw[qkm,zLm];rfl
   refine oC rfl (fun h8=>?_) (fun h8=>?_)
   ·have hne:els.isEmpty=false:=by
     have:=zt h8
     cases els with
     |nil=>simp only[zLn] at hel;omega
     |cons _ _=>rfl
    rw[hne,if_neg zDd] at hm hta;simp only[zLa,zLc,zLn] at hm;refine gac ?_;refine oS (S.callBH [_,_] rfl (qaD b _ (ind++[125,32,101,108,115,101,32,123,10]) H4 hB4 (by simp only[zLa,zLc,zLn];omega)) fun v5 H5 hB5=>?_) rfl;refine gac ?_
    refine oS (S.callBH [_,_,_] (show _=[ptr b 0,.list (qdu (.mk kind name index value thn els)),str (ind2 ind)] from rfl) (by
     rw[qkm]
     exact ih els (ind2 ind) _ b H5 zo hk4 (by simp only[zLa,zLc,zLn];omega) hB5) fun v6 H6 hB6=>?_) rfl
    refine gac ?_;refine oS (S.callBH [_,_] rfl (qaD b _ (ind++[125,10]) H6 hB6 (by simp only[zLa,zLc,zLn];omega)) fun v7 H7 hB7=>?_) rfl;refine gan ?_;exact ⟨_,_,_,by omega,⟨i+1,by omega,rfl,rfl,by rw[hta];simpa only[zAs] using hB7⟩,⟨rfl,rfl,rfl,rfl,rfl,qak zo,trivial⟩,zhD zhr,hj3.trans (hj2.trans hj)⟩
   ·have hne:els.isEmpty=true:=by
     have:=zf h8
     cases els with
     |nil=>rfl
     |cons _ _=>simp only[zLc] at hel;omega
    rw[hne,if_pos rfl] at hm hta;simp only[zLa,zLc,zLn] at hm;refine gac ?_;refine oS (S.callBH [_,_] rfl (qaD b _ (ind++[125,10]) H4 hB4 (by simp only[zLa,zLc,zLn];omega)) fun v7 H7 hB7=>?_) rfl;refine gan ?_;exact ⟨_,_,_,by omega,⟨i+1,by omega,rfl,rfl,by rw[hta];simpa only[zAs,zLz,List.nil_append] using hB7⟩,⟨rfl,rfl,rfl,rfl,rfl,qak zo,trivial⟩,zhD zhr,hj3.trans (hj2.trans hj)⟩
  ·have e6:¬ (kind=3∨kind=4):=zf h6;rw[qdv,if_neg e1,if_neg e2,if_neg e3,if_neg e4,if_neg e5,if_neg e6] at hm hta;refine gaa ?_;exact ⟨_,_,_,by omega,⟨i+1,by omega,rfl,rfl,by rw[hta];simpa only[zAs,zLz] using hB2⟩,⟨rfl,rfl,rfl,rfl,rfl,qak zo,trivial⟩,zhD zhr,hj2.trans hj⟩
 ·have hi':i=l.length:=by have:=zf hc;omega
  subst hi';rw[List.take_length] at hB;refine gab ?_;exact rO hj rN zhr ⟨⟨_,rfl⟩,hB⟩
theorem qko (hG:GW B0 w0):∀ (n:Nat) (l:List Sm) (ind acc:List UInt8) (b:Nat) (H:Heap),nSms l<=n->n<=1000000000->okSs l->acc.length+(fSs ind l).length<=1000000000->BH b acc H ->
   LCalls (KC B0 w0) 26 [ptr b 0,.list (l.map encS),str ind] H (fun r H'=>(∃ x,r=.ret x)/\BH b (acc++fSs ind l) H'):=by
 intro n
 induction n with
 |zero=>exact fun l ind acc b H hn hn2 hk hl hB=>qkg hG 0 (fun _ _ _ _ _ h=>by omega) l ind acc b H hn hn2 hk hl hB
 |succ n ih=>exact fun l ind acc b H hn hn2 hk hl hB=>qkg hG (n+1) (fun l ind acc b H h hk hl hB=>ih l ind acc b H zo zo hk hl hB) l ind acc b H hn hn2 hk hl hB
end
end Go.Proofs.YtdakelgkjdaijaaGreatDoor
namespace Go.Stele
open Go.Lib
theorem qc1.len {s:List UInt8} (h:qc1 s):s.length<=24:=h.1
theorem qvb (o t:List UInt8) (k:Nat):(opnd (o,t) k).length<=t.length+2:=by
 unfold opnd;split
 ·simp only[zLa,zLc,zLn];omega
 ·simp only;omega
def ZE (e:Ex):Prop:=∀ (k:Nat) (ts:List KT) (d:Nat),k<=6->PE e k ts d->(opnd (exOp e,fE e) k).length<=26 * ts.length
theorem ZE.zero {e:Ex} (h:ZE e) {ts:List KT} {d:Nat} (hp:PE e 0 ts d):(fE e).length<=26 * ts.length:=by
 have:=h 0 ts d (by omega) hp
 rwa [qbo (Nat.zero_le _)] at this
theorem qiY:∀ (l:List Ex) (ts:List KT) (d:Nat),(∀ x∈l,ZE x)->PEs l ts d->(join (l.map fE) qcI).length<=26 * ts.length
 |[],ts,d,_,hp=>Nat.zero_le _
 |a::l,ts,d,hl,hp=>by
  cases hp with
  |one ha=>
   rw[show List.map fE [a]=[fE a] from rfl,join_one]
   exact (hl a zMs).zero ha
  |@more _ b l t1 t2 d1 d2 ha hr=>
   have h1:=(hl a zMs).zero ha;have h2:=qiY (b::l) t2 d2 (fun x hx=>hl x (zMo _ hx)) hr;rw[zMc] at h2;rw[zMc,zMc,qio];simp only[zLa,zLc];omega
theorem qgo:∀ (n:Nat) (e:Ex),nEx e<=n->ZE e
 |0,.mk _ _ _ _,hn=>by rw[nEx] at hn;omega
 |n+1,e,hn=>by
  intro k ts d hk hp
  have bin:∀ {s:Nat} {o:List UInt8} {a b:Ex} {t1 t2:List KT} {d1 d2:Nat},nEx (.mk o 0 [] [a,b])<=n+1->s<6->o∈qaZ s->PE a (qbS s) t1 d1->PE b (s+1) t2 d2->(fE (.mk o 0 [] [a,b])).length<=26 * (t1++(4,o)::t2).length:=by
   intro s o a b t1 t2 d1 d2 hn hs ho pa pb;obtain ⟨_,_,_,_,_,_,_,h8⟩:=qee s hs o ho;have h9:o.length<=24:=(qk9 h8).1;simp only[nEx,nExs] at hn;have h1:=qgo n a (by omega) (qbS s) t1 d1 (by unfold qbS;split <;> omega) pa;have h2:=qgo n b (by omega) (s+1) t2 d2 (by omega) pb;rw[qqu hs ho];simp only[zLa,zLc,zLn];omega
  cases hp with
  |num h=>
   rename_i m
   show (opnd (nNum,fE _) k).length<=_;rw[qbo (by rw[show qam nNum=7 from rfl];omega),qrf];have:=qel h;simp only[zLc,zLn]
   omega
  |var h=>
   show (opnd (nVar,fE _) k).length<=_;rw[qbo (by rw[show qam nVar=7 from rfl];omega),qq5];have:=h.len;simp only[zLc,zLn]
   omega
  |elem h ha=>
   rename_i s a t1 d1
   simp only[nEx,nExs] at hn;show (opnd (qcY,fE _) k).length<=_;rw[qbo (by rw[show qam qcY=7 from rfl];omega),qnN];have:=h.len;have h1:=(qgo n a (by omega)).zero ha;simp only[zLa,zLc,zLn]
   omega
  |call h ha=>
   rename_i s l t1 d1
   simp only[nEx] at hn;show (opnd (qbG,fE _) k).length<=_;rw[qbo (by rw[show qam qbG=7 from rfl];omega),qiS];have:=h.len;have h1:=qiY l t1 d1 (fun x hx=>qgo n x (by have:=qfL hx;omega)) ha;simp only[zLa,zLc,zLn]
   omega
  |neg ha=>
   simp only[nEx,nExs] at hn;show (opnd (nNeg,fE _) k).length<=_;rw[qbo (by rw[show qam nNeg=6 from rfl];omega),qrA];have h1:=qgo n _ (by omega) 6 _ _ (by omega) ha;simp only[zLc]
   omega
  |not ha=>
   simp only[nEx,nExs] at hn;show (opnd (nNot,fE _) k).length<=_;rw[qbo (by rw[show qam nNot=6 from rfl];omega),qqX];have h1:=qgo n _ (by omega) 6 _ _ (by omega) ha;simp only[zLc]
   omega
  |par hs ho hk2 ha hb=>
   have h1:=bin hn hs ho ha hb;refine zNt (qvb _ _ k) ?_;simp only[zLa,zLc,zLn] at h1 ⊢
   omega
  |bin hs ho hk2 ha hb=>
   obtain ⟨_,_,_,_,_,_,h7,_⟩:=qee _ hs _ ho;simp only[exOp];rw[qbo (by omega)];exact bin hn hs ho ha hb
theorem ze (e:Ex):ZE e:=qgo _ e (zNr _)
theorem qit (ind:List UInt8):(ind2 ind).length=ind.length+2:=by simp[ind2]
theorem qrW:∀ (n:Nat),(∀ (s:Sm),nSm s<=n->∀ (ts:List KT) (d M:Nat) (ind:List UInt8),PS s ts d->ind.length+2 * d+40<=M->(fS ind s).length<=ts.length * M) /\
  (∀ (l:List Sm),nSms l<=n->∀ (ts:List KT) (d M:Nat) (ind:List UInt8),PSs l ts d->ind.length+2 * d+40<=M->(fSs ind l).length<=ts.length * M)
 |0=>by
  refine ⟨fun s hn=>?_,fun l hn ts d M ind hp hM=>?_⟩
  ·obtain ⟨k,a,b,c,d,e⟩:=s;rw[nSm] at hn;omega
  ·cases hp with
   |nil=>exact Nat.zero_le _
   |cons h1 h2=>
    rename_i s _ _ _ _ _
    obtain ⟨k,a,b,c,d,e⟩:=s;rw[nSms,nSm] at hn
    omega
 |n+1=>by
  obtain ⟨hS,hL⟩:=qrW n
  have hS':∀ (s:Sm),nSm s<=n+1->∀ (ts:List KT) (d M:Nat) (ind:List UInt8),PS s ts d->ind.length+2 * d+40<=M->(fS ind s).length<=ts.length * M:=by
   intro s hn ts d M ind hp hM;have em:∀ (t:Nat),26 * t<=t * M:=fun t=>by rw[Nat.mul_comm];exact Nat.mul_le_mul_left t (by omega)
   cases hp with
   |assign hs he=>
    rename_i s e t1
    have h1:=(ze e).zero he;have h2:=em t1.length;have h3:=hs.len;rw[qfB,qdv,if_pos rfl,qbM];simp only[zLa,zLc,zLn,Nat.add_mul,Nat.one_mul,Nat.zero_mul,Nat.zero_add]
    omega
   |store hs hx he=>
    rename_i s x e t1 t2 d1 d2
    have h1:=(ze x).zero hx;have h1':=(ze e).zero he;have h2:=em t1.length;have h2':=em t2.length;have h3:=hs.len;rw[qfB,qdv,if_neg zDd,if_pos rfl,qbM,qbM];simp only[zLa,zLc,zLn,Nat.add_mul,Nat.one_mul,Nat.zero_mul,Nat.zero_add]
    omega
   |call hs hl=>
    rename_i s l t1 d1
    have h1:=qiY l t1 d1 (fun x _=>ze x) hl;have h2:=em t1.length;have h3:=hs.len;rw[qfB,qdv,if_neg zDd,if_neg zDd,if_pos rfl,qbM,qiS];simp only[zLa,zLc,zLn,Nat.add_mul,Nat.one_mul,Nat.zero_mul,Nat.zero_add]
    omega
   |ret he=>
    rename_i e t1
    have h1:=(ze e).zero he;have h2:=em t1.length;rw[qfB,qdv,if_neg zDd,if_neg zDd,if_neg zDd,if_pos rfl,qbM];simp only[zLa,zLc,zLn,Nat.add_mul,Nat.one_mul,Nat.zero_mul,Nat.zero_add]
    omega
   |halt=>
    rw[qfB,qdv,if_neg zDd,if_neg zDd,if_neg zDd,if_neg zDd,if_pos rfl];simp only[zLa,zLc,zLn,Nat.add_mul,Nat.one_mul,Nat.zero_mul,Nat.zero_add]
    omega
   |ifElse he g1 g2 hne=>
    rename_i e th el t0 t1 t2 d0 d1 d2
    simp only[nSm] at hn;have h1:=(ze e).zero he;have h2:=em t0.length;have k1:=hL th (by omega) t1 d1 M (ind2 ind) g1 (by rw[qit];omega);have k2:=hL el (by omega) t2 d2 M (ind2 ind) g2 (by rw[qit];omega);have hem:el.isEmpty=false:=by cases el <;> simp_all
    rw[qfB,qdv,if_neg zDd,if_neg zDd,if_neg zDd,if_neg zDd,if_neg zDd,if_pos zDd,if_neg zDd,qbM,hem,if_neg zDd];simp only[zLa,zLc,zLn,Nat.add_mul,Nat.one_mul,Nat.zero_mul,Nat.zero_add]
    omega
   |ifThen he g1=>
    rename_i e th t0 t1 d0 d1
    simp only[nSm] at hn;have h1:=(ze e).zero he;have h2:=em t0.length;have k1:=hL th (by omega) t1 d1 M (ind2 ind) g1 (by rw[qit];omega);rw[qfB,qdv,if_neg zDd,if_neg zDd,if_neg zDd,if_neg zDd,if_neg zDd,if_pos zDd,if_neg zDd,qbM,if_pos (by rfl)];simp only[zLa,zLc,zLn,Nat.add_mul,Nat.one_mul,Nat.zero_mul,Nat.zero_add]
    omega
   |«while» he g1=>
    rename_i e th t0 t1 d0 d1
    simp only[nSm] at hn;have h1:=(ze e).zero he;have h2:=em t0.length;have k1:=hL th (by omega) t1 d1 M (ind2 ind) g1 (by rw[qit];omega);rw[qfB,qdv,if_neg zDd,if_neg zDd,if_neg zDd,if_neg zDd,if_neg zDd,if_pos zDd,if_pos rfl,qbM,if_pos (by rfl)];simp only[zLa,zLc,zLn,Nat.add_mul,Nat.one_mul,Nat.zero_mul,Nat.zero_add];omega
  refine ⟨hS',fun l hn ts d M ind hp hM=>?_⟩
  cases hp with
  |nil=>exact Nat.zero_le _
  |cons h1 h2=>
   rename_i s l t1 t2 d1 d2
   have hpos:0<nSm s:=by obtain ⟨k,a,b,c,d,e⟩:=s;rw[nSm];omega
   rw[nSms] at hn;have k1:=hS' s (by omega) t1 d1 M ind h1 (by omega);have k2:=hL l (by omega) t2 d2 M ind h2 (by omega);rw[fSs,zLa,zLa,Nat.add_mul];omega
theorem qhK:∀ (l:List (List UInt8)),qeG l->(join l qcI).length<=26 * (qbp l).length
 |[],_=>Nat.zero_le _
 |[a],ha=>by
  rw[join_one];have:=(ha a zMs).len;simp only[qbp,zLc,zLn]
  omega
 |a::b::l,ha=>by
  have h1:=qhK (b::l) fun x hx=>ha x (zMo _ hx);have:=(ha a zMs).len;rw[qio];simp only[qbp,zLa,zLc];omega
theorem qky {l:List (List UInt8)} (hl:qeG l):(if l=[] then [] else qia l).length<=26 * (varK l).length:=by
 have h1:=qhK l hl;unfold varK qia;split
 ·exact Nat.zero_le _
 ·simp only[zLa,zLc,zLn];omega
theorem qvo {a:FnD} {ts:List KT} {d:Nat} (hp:PF a ts d) (hd:d<=100):(fFn a).length<=242 * ts.length:=by
 cases hp with
 |mk hn hps hls hb=>
  rename_i nm ps ls b t1 d1
  have h1:=qhK ps hps;have h2:=qky hls;have h3:=hn.len;have h4:=(qrW _).2 b (zNr _) t1 d1 242 [32,32] hb (by simp only[zLc,zLn];omega);unfold fFn
  by_cases hl0:ls=[]
  ·rw[if_pos hl0];simp only[zLa,zLc,zLn];omega
  ·rw[if_neg hl0] at h2;rw[if_neg hl0];simp only[zLa,zLc,zLn] at h2 ⊢;omega
theorem qo3:∀ (l:List Ar),qpf l->((l.map fAr).flatten).length<=242 * ((l.map arK).flatten).length
 |[],_=>Nat.zero_le _
 |a::l,hl=>by
  have h1:=qo3 l fun x hx=>hl x (zMo _ hx);have h2:=(hl a zMs).1.len;have h3:=qel (hl a zMs).2;rw[zMc,zMc,List.flatten_cons,List.flatten_cons,zLa,zLa]
  have h4:(fAr a).length<=242 * (arK a).length:=by
   unfold fAr arK;simp only[zLa,zLc,zLn];omega
  omega
theorem qol:∀ (l:List FnD) {ts:List KT},PFs l ts->((l.map fFn).flatten).length<=242 * ts.length
 |[],_,hp=>Nat.zero_le _
 |a::l,_,hp=>by
  cases hp with
  |cons hf hd hl=>
   have h1:=qvo hf hd;have h2:=qol l hl;rw[zMc,List.flatten_cons,zLa,zLa];omega
theorem qpq {p:Pr} {ts:List KT} (hp:PP p ts):(qbx p).length<=242 * ts.length:=by
 cases hp with
 |mk hv ha hf=>
  have h1:=qky hv;have h2:=qo3 _ ha;have h3:=qol _ hf;unfold qbx;simp only[zLa] at h1 h2 h3 ⊢;omega
theorem qq1:∀ (l:List Ex) (ts:List KT) (d:Nat),PEs l ts d->l.length<=ts.length+1
 |[],_,_,_=>Nat.zero_le _
 |a::l,ts,d,hp=>by
  cases hp with
  |one ha=>simp only[zLc,zLn];omega
  |@more _ b l t1 t2 d1 d2 ha hr=>
   have:=qq1 (b::l) t2 d2 hr;simp only[zLc,zLa] at this ⊢;omega
theorem qqN:∀ (l:List Ex) (ts:List KT) (d:Nat),PEs l ts d->∀ x∈l,∃ t d',PE x 0 t d'/\t.length<=ts.length
 |[],_,_,_,_,hx=>by cases hx
 |a::l,ts,d,hp,x,hx=>by
  cases hp with
  |one ha=>
   rcases zMi.1 hx with rfl|hx
   ·exact ⟨_,_,ha,zNr _⟩
   ·cases hx
  |@more _ b l t1 t2 d1 d2 ha hr=>
   rcases zMi.1 hx with rfl|hx
   ·exact ⟨_,_,ha,by simp only[zLa];omega⟩
   ·obtain ⟨t,d',h1,h2⟩:=qqN (b::l) t2 d2 hr x hx;exact ⟨t,d',h1,by simp only[zLa,zLc];omega⟩
end Go.Stele
