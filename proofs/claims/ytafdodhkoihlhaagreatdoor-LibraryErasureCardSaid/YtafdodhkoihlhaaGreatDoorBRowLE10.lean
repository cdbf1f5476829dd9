import Derived.Test.YtafdodhkoihlhaaGreatDoorBRowLE9
set_option linter.unusedVariables false
set_option linter.unusedSimpArgs false
set_option maxRecDepth 100000
set_option maxHeartbeats 0
open Go.GL (zk)
open List (not_mem_nil length_range)
open Nat (zero_le)
namespace Go.Proofs.Y.Lb
open Go.GL Go.RowKit Go.ia
noncomputable def rc(f:Go.Func):List UInt8:=match f.body with
 |some (.seq _ (.seq (.region _ Sa _) _))=>(match Sa.toList with
  |o::_=>(match o.op with
   |.assign (.const (.string s))=>s.data.toList
   |_=>[])
  |[]=>[])
 |_=>[]
noncomputable def OP:List UInt8:=(rc Go.Proofs.Tryz.f117)
noncomputable def Dz:List UInt8:=(rc Go.Proofs.Tryz.f118)
noncomputable def Bi:List UInt8:=(rc Go.Proofs.Tryz.f175)++(rc Go.Proofs.Tryz.f176)
noncomputable def LM:List UInt8:=(rc Go.Proofs.Tryz.f177)++(rc Go.Proofs.Tryz.f178)
noncomputable def cn:List UInt8:=(rc Go.Proofs.Tryz.f179)++(rc Go.Proofs.Tryz.f180)++(rc Go.Proofs.Tryz.f181)
noncomputable def Rj:List UInt8:=(rc Go.Proofs.Tryz.f122)
noncomputable def yw:List UInt8:=(rc Go.Proofs.Tryz.f182)++(rc Go.Proofs.Tryz.f183)++(rc Go.Proofs.Tryz.f184)
noncomputable def Gs:List UInt8:=(rc Go.Proofs.Tryz.f185)++(rc Go.Proofs.Tryz.f186)++(rc Go.Proofs.Tryz.f187)++(rc Go.Proofs.Tryz.f188)
noncomputable def Sl:List UInt8:=(rc Go.Proofs.Tryz.f125)
noncomputable def Rl:List UInt8:=(rc Go.Proofs.Tryz.f126)
noncomputable def ry:List UInt8:=(rc Go.Proofs.Tryz.f127)
noncomputable def Jp:List UInt8:=(rc Go.Proofs.Tryz.f128)
noncomputable def tf:List UInt8:=(rc Go.Proofs.Tryz.f129)
noncomputable def Kp:List UInt8:=(rc Go.Proofs.Tryz.f130)
noncomputable def Fs:List UInt8:=(rc Go.Proofs.Tryz.f189)++(rc Go.Proofs.Tryz.f190)++(rc Go.Proofs.Tryz.f191)++(rc Go.Proofs.Tryz.f192)
attribute [local irreducible] Ea kb ab ca Go.GL.Pure Ie pf ke LQ Rb oi Nj LS
variable{B0:Nat}{w0:World}
theorem UP:ca (KC B0 w0) 117 [] [] (Ub (str OP)):=by refine jb Tryz.func117 rfl (n:=1) rfl rfl rfl ?_;refine Ln ?_;exact qb rfl (eb rfl) rfl
theorem qA8:ca (KC B0 w0) 118 [] [] (Ub (str Dz)):=by refine jb Tryz.func118 rfl (n:=1) rfl rfl rfl ?_;refine Ln ?_;exact qb rfl (eb rfl) rfl
theorem qpH:ca (KC B0 w0) 175 [] [] (Ub (str (rc Go.Proofs.Tryz.f175))):=by refine jb Tryz.func175 rfl (n:=1) rfl rfl rfl ?_;refine Ln ?_;exact qb rfl (eb rfl) rfl
theorem qoI:ca (KC B0 w0) 176 [] [] (Ub (str (rc Go.Proofs.Tryz.f176))):=by refine jb Tryz.func176 rfl (n:=1) rfl rfl rfl ?_;refine Ln ?_;exact qb rfl (eb rfl) rfl
theorem qsa:ca (KC B0 w0) 119 [] [] (Ub (str Bi)):=by have h1:=qpH (B0:=B0) (w0:=w0);have h2:=qoI (B0:=B0) (w0:=w0);have n1:(rc Go.Proofs.Tryz.f175).length<=10000:=zt zk;have n2:(rc Go.Proofs.Tryz.f176).length<=10000:=zt zk;unfold Bi;generalize (rc Go.Proofs.Tryz.f175)=x1 at h1 n1 ⊢;generalize (rc Go.Proofs.Tryz.f176)=x2 at h2 n2 ⊢;refine jb Tryz.func119 rfl (n:=4) rfl rfl rfl ?_;refine Ep ?_;refine oS (sF [] rfl h1<|oS (sF [] rfl h2 ?_));refine LF ?_;exact qb rfl (eb rfl) rfl
theorem qBI:ca (KC B0 w0) 177 [] [] (Ub (str (rc Go.Proofs.Tryz.f177))):=by refine jb Tryz.func177 rfl (n:=1) rfl rfl rfl ?_;refine Ln ?_;exact qb rfl (eb rfl) rfl
theorem qBK:ca (KC B0 w0) 178 [] [] (Ub (str (rc Go.Proofs.Tryz.f178))):=by refine jb Tryz.func178 rfl (n:=1) rfl rfl rfl ?_;refine Ln ?_;exact qb rfl (eb rfl) rfl
theorem TP:ca (KC B0 w0) 120 [] [] (Ub (str LM)):=by have h1:=qBI (B0:=B0) (w0:=w0);have h2:=qBK (B0:=B0) (w0:=w0);have n1:(rc Go.Proofs.Tryz.f177).length<=10000:=zt zk;have n2:(rc Go.Proofs.Tryz.f178).length<=10000:=zt zk;unfold LM;generalize (rc Go.Proofs.Tryz.f177)=x1 at h1 n1 ⊢;generalize (rc Go.Proofs.Tryz.f178)=x2 at h2 n2 ⊢;refine jb Tryz.func120 rfl (n:=4) rfl rfl rfl ?_;refine Ep ?_;refine oS (sF [] rfl h1<|oS (sF [] rfl h2 ?_));refine LF ?_;exact qb rfl (eb rfl) rfl
theorem qtT:ca (KC B0 w0) 179 [] [] (Ub (str (rc Go.Proofs.Tryz.f179))):=by refine jb Tryz.func179 rfl (n:=1) rfl rfl rfl ?_;refine Ln ?_;exact qb rfl (eb rfl) rfl
theorem qs1:ca (KC B0 w0) 180 [] [] (Ub (str (rc Go.Proofs.Tryz.f180))):=by refine jb Tryz.func180 rfl (n:=1) rfl rfl rfl ?_;refine Ln ?_;exact qb rfl (eb rfl) rfl
theorem qsN:ca (KC B0 w0) 181 [] [] (Ub (str (rc Go.Proofs.Tryz.f181))):=by refine jb Tryz.func181 rfl (n:=1) rfl rfl rfl ?_;refine Ln ?_;exact qb rfl (eb rfl) rfl
theorem qw5:ca (KC B0 w0) 121 [] [] (Ub (str cn)):=by have h1:=qtT (B0:=B0) (w0:=w0);have h2:=qs1 (B0:=B0) (w0:=w0);have h3:=qsN (B0:=B0) (w0:=w0);have n1:(rc Go.Proofs.Tryz.f179).length<=10000:=zt zk;have n2:(rc Go.Proofs.Tryz.f180).length<=10000:=zt zk;have n3:(rc Go.Proofs.Tryz.f181).length<=10000:=zt zk;unfold cn;generalize (rc Go.Proofs.Tryz.f179)=x1 at h1 n1 ⊢;generalize (rc Go.Proofs.Tryz.f180)=x2 at h2 n2 ⊢;generalize (rc Go.Proofs.Tryz.f181)=x3 at h3 n3 ⊢;refine jb Tryz.func121 rfl (n:=6) rfl rfl rfl ?_;refine CU ?_;refine Ad ?_;exact qb rfl (eb rfl) rfl
theorem qrY:ca (KC B0 w0) 122 [] [] (Ub (str Rj)):=by refine jb Tryz.func122 rfl (n:=1) rfl rfl rfl ?_;refine Ln ?_;exact qb rfl (eb rfl) rfl
theorem qts:ca (KC B0 w0) 182 [] [] (Ub (str (rc Go.Proofs.Tryz.f182))):=by refine jb Tryz.func182 rfl (n:=1) rfl rfl rfl ?_;refine Ln ?_;exact qb rfl (eb rfl) rfl
theorem qu4:ca (KC B0 w0) 183 [] [] (Ub (str (rc Go.Proofs.Tryz.f183))):=by refine jb Tryz.func183 rfl (n:=1) rfl rfl rfl ?_;refine Ln ?_;exact qb rfl (eb rfl) rfl
theorem quc:ca (KC B0 w0) 184 [] [] (Ub (str (rc Go.Proofs.Tryz.f184))):=by refine jb Tryz.func184 rfl (n:=1) rfl rfl rfl ?_;refine Ln ?_;exact qb rfl (eb rfl) rfl
theorem qwu:ca (KC B0 w0) 123 [] [] (Ub (str yw)):=by have h1:=qts (B0:=B0) (w0:=w0);have h2:=qu4 (B0:=B0) (w0:=w0);have h3:=quc (B0:=B0) (w0:=w0);have n1:(rc Go.Proofs.Tryz.f182).length<=10000:=zt zk;have n2:(rc Go.Proofs.Tryz.f183).length<=10000:=zt zk;have n3:(rc Go.Proofs.Tryz.f184).length<=10000:=zt zk;unfold yw;generalize (rc Go.Proofs.Tryz.f182)=x1 at h1 n1 ⊢;generalize (rc Go.Proofs.Tryz.f183)=x2 at h2 n2 ⊢;generalize (rc Go.Proofs.Tryz.f184)=x3 at h3 n3 ⊢;refine jb Tryz.func123 rfl (n:=6) rfl rfl rfl ?_;refine CU ?_;refine Ad ?_;exact qb rfl (eb rfl) rfl
theorem qr3:ca (KC B0 w0) 185 [] [] (Ub (str (rc Go.Proofs.Tryz.f185))):=by refine jb Tryz.func185 rfl (n:=1) rfl rfl rfl ?_;refine Ln ?_;exact qb rfl (eb rfl) rfl
theorem qsr:ca (KC B0 w0) 186 [] [] (Ub (str (rc Go.Proofs.Tryz.f186))):=by refine jb Tryz.func186 rfl (n:=1) rfl rfl rfl ?_;refine Ln ?_;exact qb rfl (eb rfl) rfl
theorem qrN:ca (KC B0 w0) 187 [] [] (Ub (str (rc Go.Proofs.Tryz.f187))):=by refine jb Tryz.func187 rfl (n:=1) rfl rfl rfl ?_;refine Ln ?_;exact qb rfl (eb rfl) rfl
theorem qrV:ca (KC B0 w0) 188 [] [] (Ub (str (rc Go.Proofs.Tryz.f188))):=by refine jb Tryz.func188 rfl (n:=1) rfl rfl rfl ?_;refine Ln ?_;exact qb rfl (eb rfl) rfl
theorem qsJ:ca (KC B0 w0) 124 [] [] (Ub (str Gs)):=by have h1:=qr3 (B0:=B0) (w0:=w0);have h2:=qsr (B0:=B0) (w0:=w0);have h3:=qrN (B0:=B0) (w0:=w0);have h4:=qrV (B0:=B0) (w0:=w0);have n1:(rc Go.Proofs.Tryz.f185).length<=10000:=zt zk;have n2:(rc Go.Proofs.Tryz.f186).length<=10000:=zt zk;have n3:(rc Go.Proofs.Tryz.f187).length<=10000:=zt zk;have n4:(rc Go.Proofs.Tryz.f188).length<=10000:=zt zk;unfold Gs;generalize (rc Go.Proofs.Tryz.f185)=x1 at h1 n1 ⊢;generalize (rc Go.Proofs.Tryz.f186)=x2 at h2 n2 ⊢;generalize (rc Go.Proofs.Tryz.f187)=x3 at h3 n3 ⊢;generalize (rc Go.Proofs.Tryz.f188)=x4 at h4 n4 ⊢;refine jb Tryz.func124 rfl (n:=8) rfl rfl rfl ?_;refine CU ?_;refine oS (sF [] rfl h4 ?_);refine LF ?_;exact qb rfl (eb rfl) rfl
theorem qsb:ca (KC B0 w0) 125 [] [] (Ub (str Sl)):=by refine jb Tryz.func125 rfl (n:=1) rfl rfl rfl ?_;refine Ln ?_;exact qb rfl (eb rfl) rfl
theorem qkW:ca (KC B0 w0) 126 [] [] (Ub (str Rl)):=by refine jb Tryz.func126 rfl (n:=1) rfl rfl rfl ?_;refine Ln ?_;exact qb rfl (eb rfl) rfl
theorem qtr:ca (KC B0 w0) 127 [] [] (Ub (str ry)):=by refine jb Tryz.func127 rfl (n:=1) rfl rfl rfl ?_;refine Ln ?_;exact qb rfl (eb rfl) rfl
theorem qn2:ca (KC B0 w0) 128 [] [] (Ub (str Jp)):=by refine jb Tryz.func128 rfl (n:=1) rfl rfl rfl ?_;refine Ln ?_;exact qb rfl (eb rfl) rfl
theorem qkX:ca (KC B0 w0) 129 [] [] (Ub (str tf)):=by refine jb Tryz.func129 rfl (n:=1) rfl rfl rfl ?_;refine Ln ?_;exact qb rfl (eb rfl) rfl
theorem qm8:ca (KC B0 w0) 130 [] [] (Ub (str Kp)):=by refine jb Tryz.func130 rfl (n:=1) rfl rfl rfl ?_;refine Ln ?_;exact qb rfl (eb rfl) rfl
theorem qr6:ca (KC B0 w0) 189 [] [] (Ub (str (rc Go.Proofs.Tryz.f189))):=by refine jb Tryz.func189 rfl (n:=1) rfl rfl rfl ?_;refine Ln ?_;exact qb rfl (eb rfl) rfl
theorem qsq:ca (KC B0 w0) 190 [] [] (Ub (str (rc Go.Proofs.Tryz.f190))):=by refine jb Tryz.func190 rfl (n:=1) rfl rfl rfl ?_;refine Ln ?_;exact qb rfl (eb rfl) rfl
theorem qrm:ca (KC B0 w0) 191 [] [] (Ub (str (rc Go.Proofs.Tryz.f191))):=by refine jb Tryz.func191 rfl (n:=1) rfl rfl rfl ?_;refine Ln ?_;exact qb rfl (eb rfl) rfl
theorem qrK:ca (KC B0 w0) 192 [] [] (Ub (str (rc Go.Proofs.Tryz.f192))):=by refine jb Tryz.func192 rfl (n:=1) rfl rfl rfl ?_;refine Ln ?_;exact qb rfl (eb rfl) rfl
theorem qsS:ca (KC B0 w0) 131 [] [] (Ub (str Fs)):=by have h1:=qr6 (B0:=B0) (w0:=w0);have h2:=qsq (B0:=B0) (w0:=w0);have h3:=qrm (B0:=B0) (w0:=w0);have h4:=qrK (B0:=B0) (w0:=w0);have n1:(rc Go.Proofs.Tryz.f189).length<=10000:=zt zk;have n2:(rc Go.Proofs.Tryz.f190).length<=10000:=zt zk;have n3:(rc Go.Proofs.Tryz.f191).length<=10000:=zt zk;have n4:(rc Go.Proofs.Tryz.f192).length<=10000:=zt zk;unfold Fs;generalize (rc Go.Proofs.Tryz.f189)=x1 at h1 n1 ⊢;generalize (rc Go.Proofs.Tryz.f190)=x2 at h2 n2 ⊢;generalize (rc Go.Proofs.Tryz.f191)=x3 at h3 n3 ⊢;generalize (rc Go.Proofs.Tryz.f192)=x4 at h4 n4 ⊢;refine jb Tryz.func131 rfl (n:=8) rfl rfl rfl ?_;refine CU ?_;refine oS (sF [] rfl h4 ?_);refine LF ?_;exact qb rfl (eb rfl) rfl
noncomputable def dq:List (List UInt8×Nat×List UInt8):=[([103,102],117,OP),([99,114,99],118,Dz),([118,105,116,101,114,98,105],119,Bi),([114,115],120,LM),([102,114,97,109,101],121,cn),([101,114,97,115,117,114,101],122,Rj),([98,108,97,107,101],123,yw),([114,101,97,100,101,114],124,Gs),([99,114,99,109,97,105,110],125,Sl),([118,105,116,101,114,98,105,109,97,105,110],126,Rl),([114,115,109,97,105,110],127,ry),([102,114,97,109,101,109,97,105,110],128,Jp),([101,114,97,115,117,114,101,109,97,105,110],129,tf),([98,108,97,107,101,109,97,105,110],130,Kp),([114,101,110,100,101,114],131,Fs)]
def xy(m:List UInt8×Nat×List UInt8):LV:=.agg [str m.1,.atom (.func (.func m.2.1) #[] #[])]
theorem qnU:ca (KC B0 w0) 70 [] [] (Ub (.list (dq.map xy))):=by refine jb Tryz.func70 rfl (n:=17) rfl rfl rfl ?_;refine xa ?_;refine oS (sL (s:=2) [_,_,_,_,_,_,_,_,_,_,_,_,_,_,_] rfl (Qd rfl rfl (Qd rfl rfl (Qd rfl rfl (Qd rfl rfl (Qd rfl rfl (Qd rfl rfl (Qd rfl rfl (Qd rfl rfl (Qd rfl rfl (Qd rfl rfl (Qd rfl rfl (Qd rfl rfl (Qd rfl rfl (Qd rfl rfl (Qd rfl rfl pj))))))))))))))) rfl rfl rfl ?_);refine Ra ?_;exact qb rfl (rC (rT (v:=.list _) rfl ie) rN) rfl
open nj (u32 Same Rp)
abbrev Md:=List UInt8×Nat×List UInt8
noncomputable def Ii(name:List UInt8):List UInt8×Int:=match dq.find? λm=>decide (m.1=name) with
 |some m=>(m.2.2,0)
 |none=>([],9)
noncomputable def xh:List (List UInt8)->List UInt8->List UInt8×Int
 |[],acc=>(acc,0)
 |n::l,acc=>if (Ii n).2≠0 then ([],(Ii n).2) else xh l (acc++(Ii n).1)
@[reducible] def uL(b:Nat)(name:List UInt8):Nat×ja:=(b,.cells 9 [str name])
@[reducible] def fU(b:Nat):LV:=.atom (.func (.func 72) #[] #[.pointer (some ⟨b,0,none⟩)])
theorem qwZ:dq.length=15:=rfl
theorem qyS:∀ m∈dq,m.2.2.length<=10000:=by
 have h:(dq.all λm=>decide (m.2.2.length<=10000))=true:=by kernel_rfl
 intro m hm;exact zt (List.all_eq_true.1 h m hm)
theorem qwf(n:List UInt8):(Ii n).1.length<=10000:=by unfold Ii;split;rename_i m h;exact qyS m (List.mem_of_find?_eq_some h);exact zero_le _
theorem quK:∀ (l:List Md) (name:List UInt8) (i:Nat) (h:i<l.length),(∀ j (hj:j<i),(l[j]'zo).1≠name)->l[i].1=name->(l.find? λm=>decide (m.1=name))=some l[i]
 |[],name,i,h,_,_=>by cases h
 |m::l,name,0,h,_,hn=>by have hn:m.1=name:=hn;rw[List.find?_cons,Dg hn];rfl
 |m::l,name,i+1,h,hb,hn=>by have h0:m.1≠name:=hb 0 zo;rw[List.find?_cons,decide_eq_false h0];exact quK l name i (by simpa using h) (λj hj=>hb (j+1) zo) hn
theorem qwj(m:Md)(name:List UInt8)(b:Nat):ca (KC B0 w0) 72 [xy m,ptr b 0] [uL b name] (Same (bool (decide (m.1=name))) [uL b name]):=by obtain⟨n,f,t⟩:=m;unfold xy;refine jb Tryz.func72 rfl (n:=8) rfl rfl rfl ?_;refine Xe ?_;refine oS (sB rfl λb2=>?_);refine xa ?_;exact Rp rfl (eb rfl) rfl (Yg ob)
theorem qBx:∀ m∈dq,ca (KC B0 w0) m.2.1 [] [] (Ub (str m.2.2)):=by intro m hm;simp only[dq,Dc,not_mem_nil,or_false] at hm;rcases hm with rfl|rfl|rfl|rfl|rfl|rfl|rfl|rfl|rfl|rfl|rfl|rfl|rfl|rfl|rfl;exact UP;exact qA8;exact qsa;exact TP;exact qw5;exact qrY;exact qwu;exact qsJ;exact qsb;exact qkW;exact qtr;exact qn2;exact qkX;exact qm8;exact qsS
theorem qBv:∀ m∈dq,Wb (KC B0 w0).P m.2.1:=by intro m hm;simp only[dq,Dc,not_mem_nil,or_false] at hm;rcases hm with rfl|rfl|rfl|rfl|rfl|rfl|rfl|rfl|rfl|rfl|rfl|rfl|rfl|rfl|rfl <;> (show Wb Tryz.prog _;infer_instance)
theorem S3(ms:List Md)(IB:ms.length=15)(name:List UInt8)(b:Nat):ca (KC B0 w0) 71 [.list (ms.map xy),fU b] [uL b name]
  (λr H'=>H'=[uL b name]/\((r=.ret (int .i64 (-1))/\(ms.find? λm=>decide (m.1=name))=none)∨∃ i,∃ h:i<ms.length,r=.ret (int .i64 (i:Nat))/\(ms.find? λm=>decide (m.1=name))=some ms[i])):=by
 have JB:(ms.map xy).length=ms.length:=Mb _;have ed:(∀ j (hj:j<ms.length),(ms[j]'hj).1≠name)->(ms.find? λm=>decide (m.1=name))=none:=λh=>List.find?_eq_none.2 λm hm=>by obtain⟨j,hj,rfl⟩:=List.mem_iff_getElem.1 hm;simpa using h j hj
 refine jb Tryz.func71 rfl (n:=19) rfl rfl rfl ?_;refine wa ?_;refine oL (λk sl H=>∃ i:Nat,i<=ms.length/\k=ms.length-i/\(∀ j (hj:j<i) (hl:j<ms.length),(ms[j]'hl).1≠name)/\sl=[(0,.list (ms.map xy)),(1,fU b),(7,int .i64 ms.length),(8,int .i64 i)]/\H=[uL b name])
  ⟨_,_,_,⟨0,zero_le _,rfl,λj hj=>by omega,rfl,rfl⟩,Kb,bc _⟩ ?_
 rintro k sl H ⟨i,hi,rfl,hb,rfl,rfl⟩ j1 Me;refine wh ?_;refine Oa (λhc=>?_) λhc=>?_
 ·have Ka:i<ms.length:=by have:=zt hc;omega
  have hg:(ms.map xy)[((i:Nat):Int).toNat]? = some (xy ms[i]):=Mo _ _ _ Ka;have cf:=qwj (B0:=B0) (w0:=w0) ms[i] name b;have bM:=quK ms name i Ka λj hj=>hb j hj zo;refine wa ?_;refine qa (xR (Ud:=xy ms[i]) (cs:=[_,_]) rfl rfl zo hg rfl rfl)<|Ra ?_;refine oS (S.Cm (f:=72) (first:=#[]) (db:=#[.pointer (some ⟨b,0,none⟩)]) (H1:=[uL b name]) (F:=[]) [_] rfl rfl (by simp) cf ?_ ?_);rotate_left;rintro ch H' ⟨h,_⟩;cases h;rintro v H' ⟨h,rfl⟩;cases h;refine Ad ?_;refine Oa (λh=>?_) λh=>?_;refine wa ?_;exact rR Me (eb rfl) ob ⟨rfl,.inr ⟨i,Ka,rfl,bM (zt h)⟩⟩;have xb:=zf h;refine wa ?_
  exact⟨_,_,_,by omega,⟨i+1,by omega,rfl,λj hj hl=>by
   by_cases hji:j<i;exact hb j hji hl;obtain rfl:j=i:=by omega
   exact xb,rfl,rfl⟩,Kb,bc _,Me⟩
 have Wg:i=ms.length:=by have:=zf hc;omega
 subst Wg;refine wa ?_;exact rR Me (eb rfl) ob ⟨rfl,.inl ⟨rfl,ed λj hj=>hb j hj hj⟩⟩
theorem qpK(ms:List Md)(IB:ms.length=15)(hmo:ca (KC B0 w0) 70 [] [] (Ub (.list (ms.map xy))))(q7:∀ m∈ms,ca (KC B0 w0) m.2.1 [] [] (Ub (str m.2.2)))(hmt:∀ m∈ms,Wb (KC B0 w0).P m.2.1)(name:List UInt8) :
  ca (KC B0 w0) 41 [str name] [] (Ub (match ms.find? λm=>decide (m.1=name) with
   |some m=>.tuple [str m.2.2,int .i64 0]
   |none=>.tuple [str [],int .i64 9])):=by
 have DX:=λb=>S3 (B0:=B0) (w0:=w0) ms IB name b;have JB:(ms.map xy).length=ms.length:=Mb _;generalize (ms.find? λm=>decide (m.1=name))=MP at DX ⊢;refine jb Tryz.func41 rfl (n:=18) rfl rfl rfl ?_;refine Xe ?_;refine oS (sB rfl λb1=>?_);refine Ep ?_;refine oS (sF [] rfl hmo ?_);refine xa ?_;refine oS (S.Uc (H1:=[uL b1 name]) (F:=[]) [_,_] rfl dc (DX b1) (λv H' h=>?_) λch H' h=>?_);rotate_left;obtain⟨_,⟨h,_⟩|⟨_,_,h,_⟩⟩:=h <;> cases h;obtain⟨rfl,⟨h,hm⟩|⟨i,hi,h,hm⟩⟩:=h;cases h;subst hm;refine wa ?_;refine oC rfl (λ_=>?_) (λh=>by cases h);refine Ak ?_;exact qb rfl (rC (Xc rfl) (eb rfl)) rfl;cases h;subst hm;have hg:(ms.map xy)[((i:Nat):Int).toNat]? = some (xy ms[i]):=Mo _ _ _ hi
 haveI:=hmt ms[i] (List.getElem_mem hi)
 have hf:=q7 ms[i] (List.getElem_mem hi);refine wa ?_;refine Oa (λh=>?_) λ_=>?_;have:=zt h;omega;refine wa ?_;refine qa (xR (Ud:=xy ms[i]) (cs:=[_,_]) rfl rfl zo hg rfl rfl)<|Ra ?_;refine oS (S.qF (f:=ms[i].2.1) [] rfl rfl hf ?_);refine Ad ?_;exact qb rfl (rC (Xc rfl) (eb rfl)) rfl
theorem qoN(name:List UInt8):ca (KC B0 w0) 41 [str name] [] (Ub (.tuple [str (Ii name).1,int .i64 (Ii name).2])):=by have h:=qpK dq qwZ qnU qBx qBv (B0:=B0) (w0:=w0) name;unfold Ii;generalize (dq.find? λm=>decide (m.1=name))=MP at h ⊢;cases MP <;> exact h
@[reducible] def qAM(r:List UInt8×Int):LV:=.tuple [str r.1,int .i64 r.2]
theorem qsx{l:List (List UInt8)}{acc:List UInt8}{i:Nat}(h:i<l.length):xh (l.drop i) acc=if (Ii l[i]).2≠0 then ([],(Ii l[i]).2) else xh (l.drop (i+1)) (acc++(Ii l[i]).1):=by rw[List.drop_eq_getElem_cons h,xh]
theorem qo0(l:List (List UInt8))(hl:l.length<=1000):ca (KC B0 w0) 25 [.list (l.map str)] [] (Ub (qAM (xh l []))):=by
 have JB:(l.map str).length=l.length:=Mb _;generalize hR:xh l []=R;refine jb Tryz.func25 rfl (n:=27) rfl rfl rfl ?_;refine Ep ?_;refine oS (Sd λb4=>?_);refine wa ?_;have A8:BH b4 [] [(b4,.cells 97 [.atom (.pointer none),.atom (.slice none 0 0)])]:=⟨_,_,[],.inl rfl,ph.nil,rfl⟩;refine oL (λk sl H=>∃ (i:Nat) (acc:List UInt8),i<=l.length/\k=l.length-i/\acc.length<=i * 10000/\xh (l.drop i) acc=R/\BH b4 acc H/\sl=[(4,ptr b4 0),(9,.list (l.map str)),(10,int .i64 l.length),(11,int .i64 i)])
  ⟨_,_,_,⟨0,[],zero_le _,rfl,zero_le _,hR,A8,rfl⟩,Kb,bc _⟩ ?_
 rintro k sl H ⟨i,acc,hi,rfl,Eb,hP,hB,rfl⟩ j1 Me;refine wh ?_;refine Oa (λhc=>?_) λhc=>?_
 ·have Ka:i<l.length:=by have:=zt hc;omega
  have hg:(l.map str)[((i:Nat):Int).toNat]? = some (str l[i]):=Mo _ _ _ Ka;have hm:=qoN (B0:=B0) (w0:=w0) l[i];have IB:=qwf l[i];rw[qsx Ka] at hP;generalize l[i]=n at *;generalize Ii n=q at *;obtain⟨t,e⟩:=q;simp only at hP hm IB;refine Zi ?_;refine qa (xR (Ud:=str n) (cs:=[str n]) rfl rfl zo hg rfl rfl)<|xa ?_;refine oS (sF [_] rfl hm ?_);refine xa ?_;by_cases he:e=0;rotate_left;rw[zp he] at hP;subst hP;refine Oa (λ_=>?_) λhc=>?_;refine wa ?_;exact qb Me (rC (Xc rfl) (eb rfl)) rfl;have h2:(!decide (e=0))=false:=hc;simp at h2;exact absurd h2 he;subst he;rw[zn ea] at hP;refine oC rfl (λhc=>by cases hc) λ_=>?_;refine wa ?_;refine oS (S.Uc (H1:=H) (F:=[]) [_,_] rfl (by simp) (qfD b4 acc t H hB zo) (λv' H' h=>?_) (λch H' h=>by obtain⟨⟨x,h⟩,_⟩:=h;cases h));obtain⟨⟨x,hx⟩,OX⟩:=h;cases hx;rw[ue];refine zm ?_;exact⟨_,_,_,by omega,⟨i+1,acc++t,by omega,rfl,by rw[Ga];omega,hP,OX,rfl⟩,Kb,bc _,Me⟩
 have Wg:i=l.length:=by have:=zf hc;omega
 subst Wg;rw[List.drop_length,xh] at hP;subst hP;refine wa ?_;refine oS (S.Uc (H1:=H) (F:=[]) [_] rfl (by simp) (X3 b4 acc H hB zo) (λv' H' h=>?_) (λch H' h=>by obtain⟨h,_⟩:=h;cases h));obtain⟨h,rfl⟩:=h;cases h;refine Ad ?_;exact qb Me (rC (Xc rfl) (eb rfl)) rfl
theorem qsg:ca (KC B0 w0) 25 [fc] [] (Ub (qAM ([],0))):=by
 refine jb Tryz.func25 rfl (n:=27) rfl rfl rfl ?_;refine Ep ?_;refine oS (Sd λb4=>?_);refine wa ?_;have A8:BH b4 [] [(b4,.cells 97 [.atom (.pointer none),.atom (.slice none 0 0)])]:=⟨_,_,[],.inl rfl,ph.nil,rfl⟩;refine oL (λk sl H=>k=0/\BH b4 [] H/\sl=[(4,ptr b4 0),(10,int .i64 0),(11,int .i64 0)])
  ⟨_,_,_,⟨rfl,A8,rfl⟩,Kb,bc _⟩ ?_
 rintro k sl H ⟨rfl,hB,rfl⟩ j1 Me;refine wh ?_;refine oC rfl (λhc=>by cases hc) λhc=>?_;refine wa ?_;refine oS (S.Uc (H1:=H) (F:=[]) [_] rfl (by simp) (X3 b4 [] H hB ea) (λv' H' h=>?_) (λch H' h=>by obtain⟨h,_⟩:=h;cases h));obtain⟨h,rfl⟩:=h;cases h;refine Ad ?_;exact qb Me (rC (Xc rfl) (eb rfl)) rfl
end Go.Proofs.Y.Lb
namespace Go.Proofs.Y.Lb
open Go.GL Go.RowKit Go.ia
theorem PR:Ii [103,102]=(OP,0):=zk
theorem qxS:Ii [99,114,99]=(Dz,0):=zk
theorem qrI:Ii [118,105,116,101,114,98,105]=(Bi,0):=zk
theorem NR:Ii [114,115]=(LM,0):=zk
theorem qv1:Ii [102,114,97,109,101]=(cn,0):=zk
theorem qrA:Ii [101,114,97,115,117,114,101]=(Rj,0):=zk
theorem qrG:Ii [99,114,99,109,97,105,110]=(Sl,0):=zk
theorem qkT:Ii [101,114,97,115,117,114,101,109,97,105,110]=(tf,0):=zk
end Go.Proofs.Y.Lb
namespace Go.ia.Wi.Wc.Ao
open Go.Lib
def Np:Ex:=(.mk [60] 0 [] [(.mk [118,97,114] 0 [105] []),(.mk [110,117,109] 8 [] [])])
def Qp:List Sm:=[(.mk 1 [116] [] [(.mk [47] 0 [] [(.mk [118,97,114] 0 [99] []),(.mk [110,117,109] 2147483648 [] [])])] [] []),(.mk 1 [99] [] [(.mk [42] 0 [] [(.mk [118,97,114] 0 [99] []),(.mk [110,117,109] 2 [] [])])] [] []),(.mk 3 [] [] [(.mk [118,97,114] 0 [116] [])] [(.mk 1 [99] [] [(.mk [94] 0 [] [(.mk [118,97,114] 0 [99] []),(.mk [110,117,109] 79764919 [] [])])] [] [])] []),(.mk 1 [105] [] [(.mk [43] 0 [] [(.mk [118,97,114] 0 [105] []),(.mk [110,117,109] 1 [] [])])] [] [])]
def Pt:Sm:=(.mk 1 [99] [] [(.mk [94] 0 [] [(.mk [118,97,114] 0 [99] []),(.mk [42] 0 [] [(.mk [118,97,114] 0 [98] []),(.mk [110,117,109] 16777216 [] [])])])] [] [])
def my:Sm:=(.mk 1 [105] [] [(.mk [110,117,109] 0 [] [])] [] [])
def uE:Sm:=(.mk 5 [] [] [(.mk [118,97,114] 0 [99] [])] [] [])
def Rh:yb:=⟨[99,114,99,98,121,116,101],[[99],[98]],[[105],[116]],[Pt,my,.mk 4 [] [] [Np] Qp [],uE]⟩
def oz:Ex:=(.mk [60] 0 [] [(.mk [118,97,114] 0 [98] []),(.mk [110,117,109] 256 [] [])])
def rE:List Sm:=[(.mk 1 [99] [] [(.mk [99,97,108,108] 0 [99,114,99,98,121,116,101] [(.mk [118,97,114] 0 [99] []),(.mk [118,97,114] 0 [98] [])])] [] []),(.mk 1 [98] [] [(.mk [99,97,108,108] 0 [105,110] [])] [] [])]
def SC(n:Nat):Sm:=(.mk 6 [] [] [(.mk [99,97,108,108] 0 [111,117,116] [(.mk [47] 0 [] [(.mk [118,97,114] 0 [99] []),(.mk [110,117,109] n [] [])])])] [] [])
def Ff:yb:=⟨[109,97,105,110],[],[[98],[99]],[(.mk 1 [99] [] [(.mk [110,117,109] 4294967295 [] [])] [] []),(.mk 1 [98] [] [(.mk [99,97,108,108] 0 [105,110] [])] [] []),.mk 4 [] [] [oz] rE [],SC 16777216,SC 65536,SC 256,(.mk 6 [] [] [(.mk [99,97,108,108] 0 [111,117,116] [(.mk [118,97,114] 0 [99] [])])] [] [])]⟩
def P:Pr:=⟨[],[],[Rh,Ff]⟩
abbrev cC:=jc Rh [99]
abbrev cB:=jc Rh [98]
abbrev cI:=jc Rh [105]
abbrev cT:=jc Rh [116]
abbrev mB:=jc Ff [98]
abbrev mC:=jc Ff [99]
def iQ(c:Nat):Nat:=if c / 2147483648=0 then c * 2 % 4294967296 else (c * 2 % 4294967296) ^^^ 79764919
def cV:Nat->Nat->Nat
 |0,c=>c
 |n+1,c=>cV n (iQ c)
def vp(c b:Nat):Nat:=cV 8 (c ^^^ (b * 16777216 % 4294967296))
def Fr(ks:List Nm)(s s':IS):Prop:=(∀ k,k ∉ ks->s'.sc k=s.sc k)/\s'.ar=s.ar/\s'.Ia=s.Ia/\s'.out=s.out
theorem Fr.refl(ks:List Nm)(s:IS):Fr ks s s:=⟨λ_ _=>rfl,rfl,rfl,rfl⟩
theorem Fr.set{ks:List Nm}{s s':IS}(h:Fr ks s s'){k:Nm}(hk:k∈ks)(v:Nat):Fr ks s (Yf s' k v):=
 ⟨λx hx=>by
  unfold Yf;simp only;rw[zn (λe=>hx (by rw[e];exact hk))]
  exact h.1 x hx,h.2.1,h.2.2.1,h.2.2.2⟩
theorem Fr.trans{ks:List Nm}{s s1 s2:IS}(h:Fr ks s s1)(g:Fr ks s1 s2):Fr ks s s2:=
 ⟨λk hk=>(g.1 k hk).trans (h.1 k hk),g.2.1.trans h.2.1,g.2.2.1.trans h.2.2.1,g.2.2.2.trans h.2.2.2⟩
theorem Fr.sub{ks aJ:List Nm}{s s':IS}(h:Fr ks s s')(hs:∀ k∈ks,k∈aJ):Fr aJ s s':=⟨λk hk=>h.1 k λe=>hk (hs k e),h.2⟩
theorem round(s:IS)(h8:s.sc cI<8):∃ s',Bl P Rh Qp s 124 none s'/\s'.sc cC=iQ (s.sc cC)/\s'.sc cI=s.sc cI+1/\Fr [cC,cI,cT] s s':=by
 have e1:(s.sc cI+1) % 4294967296=s.sc cI+1:=Nat.mod_eq_of_lt ga;by_cases h:s.sc cC / 2147483648=0;refine⟨Yf (Yf (Yf s cT (s.sc cC / 2147483648)) cC (s.sc cC * 2 % 4294967296)) cI ((s.sc cI+1) % 4294967296),?_,?_,?_,?_⟩;have ht:vE Rh (Yf (Yf s cT (s.sc cC / 2147483648)) cC (s.sc cC * 2 % 4294967296)) (.mk [118,97,114] 0 [116] [])=0:=by
  refine Eq.trans ?_ h
  kernel_rfl
 exact(Bl.cons (St.pz (v:=s.sc cC / 2147483648) (Ev.of _ zk zk)) (Bl.cons (St.pz (v:=s.sc cC * 2 % 4294967296) (Ev.of _ zk zk)) (Bl.cons (St.iff (Ev.of _ zk ht) Bl.nil) (Bl.cons (St.pz (v:=(s.sc cI+1) % 4294967296) (Ev.of _ zk zk)) Bl.nil)))).mono ea;unfold iQ;rw[zp h]
 kernel_rfl
 refine Eq.trans ?_ e1
 kernel_rfl
 exact(((Fr.refl _ s).set ea _).set ea _).set ea _;refine⟨Yf (Yf (Yf (Yf s cT (s.sc cC / 2147483648)) cC (s.sc cC * 2 % 4294967296)) cC ((s.sc cC * 2 % 4294967296) ^^^ 79764919)) cI ((s.sc cI+1) % 4294967296),?_,?_,?_,?_⟩;exact(Bl.cons (St.pz (v:=s.sc cC / 2147483648) (Ev.of _ zk zk)) (Bl.cons (St.pz (v:=s.sc cC * 2 % 4294967296) (Ev.of _ zk zk)) (Bl.cons (St.oO (v:=s.sc cC / 2147483648) (Ev.of _ zk zk) h (Bl.cons (St.pz (v:=(s.sc cC * 2 % 4294967296) ^^^ 79764919) (Ev.of _ zk zk)) Bl.nil)) (Bl.cons (St.pz (v:=(s.sc cI+1) % 4294967296) (Ev.of _ zk zk)) Bl.nil)))).mono ea;unfold iQ;rw[zn h]
 kernel_rfl
 refine Eq.trans ?_ e1
 kernel_rfl
 exact((((Fr.refl _ s).set ea _).set ea _).set ea _).set ea _
theorem qmU(s:IS):Ev P Rh Np s 14 (sf (decide (s.sc cI<8))) s:=Ev.of _ zk zk
theorem rounds:∀ (j:Nat) (s:IS),s.sc cI+j=8->∃ s',Wh P Rh Np Qp (sf (decide (s.sc cI<8))) s (156 * j) none s'/\s'.sc cC=cV j (s.sc cC)/\Fr [cC,cI,cT] s s'
 |0,s,h=>⟨s,by
  rw[show decide (s.sc cI<8)=false from decide_eq_false (by omega)];exact Wh.done,rfl,Fr.refl _ s⟩
 |j+1,s,h=>by obtain⟨s1,h1,h2,h3,h4⟩:=round s ga;obtain⟨s2,g1,g2,g3⟩:=rounds j s1 ga;refine⟨s2,?_,by rw[g2,h2];try rfl,h4.trans g3⟩;rw[show decide (s.sc cI<8)=true from Dg (by omega)];exact(Wh.next ea h1 (qmU s1) g1).mono ga
theorem qxo(s:IS):St P Rh Pt s 44 none (Yf s cC (s.sc cC ^^^ (s.sc cB * 16777216 % 4294967296))):=St.pz (K:=36) (Ev.of _ zk (by simp only[qAC,qBy,qBD,qAP]))
theorem qzF(s:IS):St P Rh my s 10 none (Yf s cI 0):=St.pz (K:=2) (Ev.of _ zk zk)
theorem qyV(s:IS):St P Rh uE s 9 (some (s.sc cC)) s:=St.ret (K:=8) (Ev.of _ zk zk)
theorem qwO(s:IS):∃ s',Bl P Rh Rh.body s 1333 (some (vp (s.sc cC) (s.sc cB))) s'/\Fr [cC,cB,cI,cT] s s':=by
 obtain⟨s',h1,h2,h3⟩:=rounds 8 (Yf (Yf s cC (s.sc cC ^^^ (s.sc cB * 16777216 % 4294967296))) cI 0) rfl;have RL:(Yf (Yf s cC (s.sc cC ^^^ (s.sc cB * 16777216 % 4294967296))) cI 0).sc cC=s.sc cC ^^^ (s.sc cB * 16777216 % 4294967296):=by kernel_rfl
 rw[RL] at h2;have e:vp (s.sc cC) (s.sc cB)=s'.sc cC:=by unfold vp;exact h2.symm
 refine⟨s',?_,?_⟩;rw[e];have q1:St P Rh Pt s 44 none (Yf s cC (s.sc cC ^^^ (s.sc cB * 16777216 % 4294967296))):=qxo s;have q2:St P Rh my (Yf s cC (s.sc cC ^^^ (s.sc cB * 16777216 % 4294967296))) 10 none (Yf (Yf s cC (s.sc cC ^^^ (s.sc cB * 16777216 % 4294967296))) cI 0):=qzF _;have q3:St P Rh (.mk 4 [] [] [Np] Qp []) (Yf (Yf s cC (s.sc cC ^^^ (s.sc cB * 16777216 % 4294967296))) cI 0) (8+14+156 * 8) none s':=St.nY (qmU _) h1;have q:Bl P Rh Rh.body s (44+(10+(8+14+156 * 8+9))) (some (s'.sc cC)) s':=Bl.cons q1 (Bl.cons q2 (Bl.cons q3 (Bl.ret (qyV s'))));exact q.mono ea;refine Fr.trans (Fr.set (Fr.set (Fr.refl _ s) ea _) ea _) (h3.sub λk hk=>?_);simp only[Dc,not_mem_nil,or_false] at hk ⊢;rcases hk with h|h|h <;> simp[h]
theorem qAK:Xg P [99,114,99,98,121,116,101]=Rh:=zk
theorem qwi(s:IS)(c b:Nat):∃ s',Op P Ff tg 0 [99,114,99,98,121,116,101] [c,b] s 1333 (vp c b) s'/\Fr [cC,cB,cI,cT] s s':=by obtain⟨s',h1,h2⟩:=qwO (Yf (Yf s cC c) cB b);refine⟨s',?_,Fr.trans (Fr.set (Fr.set (Fr.refl _ s) ea _) ea _) h2⟩;have:=Op.call (P:=P) (f:=Ff) (num:=0) (name:=[99,114,99,98,121,116,101]) (vs:=[c,b]) (s:=s) (K:=1333) (r:=some (vp c b)) (s':=s') ea ea (by rw[qAK];exact h1);exact this
theorem qAu(s:IS)(l:List Nat)(k:Nm)(h:s.Ia=l):Yf { s with Ia:=s.Ia.tail } k (s.Ia.headD 4294967295)=Yf { s with Ia:=l.tail } k (l.headD 4294967295):=by rw[h]
theorem qql(s:IS):Ev P Ff oz s 16 (sf (decide (s.sc mB<256))) s:=Ev.of _ zk zk
theorem qk5:∀ (l:List Nat) (s:IS),(∀ v∈l,v<256)->s.sc mB=l.headD 4294967295->s.Ia=l.tail->∃ s',Wh P Ff oz rE (sf (decide (s.sc mB<256))) s (1430 * l.length) none s'/\s'.sc mC=l.foldl vp (s.sc mC)/\s'.out=s.out
 |[],s,_,hb,_=>⟨s,by
  rw[hb];exact Wh.done,rfl,rfl⟩
 |b::l,s,hl,hb,hi=>by
  obtain⟨s1,h1,h2⟩:=qwi s (s.sc mC) (s.sc mB);have oo:s.sc mB<256:=by rw[hb];exact hl b (by simp)
  have NB:(Yf s1 mC (vp (s.sc mC) (s.sc mB))).Ia=l:=by show s1.Ia=l;rw[h2.2.2.1,hi];try rfl
  obtain⟨s',g1,g2,g3⟩:=qk5 l (Yf { Yf s1 mC (vp (s.sc mC) (s.sc mB)) with Ia:=l.tail } mB (l.headD 4294967295)) (λv hv=>hl v (by simp[hv])) rfl rfl;refine⟨s',?_,?_,?_⟩
  ·rw[show decide (s.sc mB<256)=true from Dg oo];have mv:vq P Ff [.mk [118,97,114] 0 [99] [],.mk [118,97,114] 0 [98] []] s 16 [s.sc mC,s.sc mB] s:=(vq.pure _ zk);have st1:St P Ff _ s (8+(27+16+1333)) none (Yf s1 mC (vp (s.sc mC) (s.sc mB))):=St.pz (name:=[99]) (ix:=[]) (vr:=[]) (th:=[]) (el:=[]) (Ev.mk mv h1)
   have st2:St P Ff (.mk 1 [98] [] [.mk [99,97,108,108] 0 [105,110] []] [] []) (Yf s1 mC (vp (s.sc mC) (s.sc mB))) 9 none (Yf { Yf s1 mC (vp (s.sc mC) (s.sc mB)) with Ia:=l.tail } mB (l.headD 4294967295)):=by rw[<-qAu _ l mB NB];exact St.pz (Ev.mk vq.nil Op.Ia)
   exact(Wh.next ea (Bl.cons st1 (Bl.cons st2 Bl.nil)) (qql _) g1).mono (by rw[Ma];omega)
  ·rw[g2];show l.foldl vp (vp (s.sc mC) (s.sc mB))=l.foldl vp (vp (s.sc mC) b);rw[hb]
   try rfl
  rw[g3];exact h2.2.2.2
def Ju(c:Nat):List UInt8:=[UInt8.ofNat (c / 16777216),UInt8.ofNat (c / 65536),UInt8.ofNat (c / 256),UInt8.ofNat c]
theorem IY(s:IS)(n:Nat)(hn:n≠0):St P Ff (SC n) s 39 none { s with out:=s.out++[UInt8.ofNat (s.sc mC / n)] }:=by
 have Kc:KR Ff s (.mk [47] 0 [] [.mk [118,97,114] 0 [99] [],.mk [110,117,109] n [] []])=true:=by show(true && (true && (true && true)) && (if n=0 then none else some (s.sc mC / n):Option Nat).isSome)=true;rw[zn hn];try rfl
 have hv:vE Ff s (.mk [47] 0 [] [.mk [118,97,114] 0 [99] [],.mk [110,117,109] n [] []])=s.sc mC / n:=by show(if n=0 then none else some (s.sc mC / n):Option Nat).getD 0=_;rw[zn hn];try rfl
 have hc:cE (.mk [47] 0 [] [.mk [118,97,114] 0 [99] [],.mk [110,117,109] n [] []])<=24:=by
  show 4+(8+0+(wN n+0+0))<=24;unfold wN;repeat' split
  all_goals omega
 have h:=(Ev.of (P:=P) _ Kc hv).mono hc;refine(St.exp (ix:=[]) (vr:=[]) (th:=[]) (el:=[]) (name:=[]) (Ev.mk (vq.cons h vq.nil) Op.out)).mono ?_;show 8+(3+(24+0)+0)<=39;decide
theorem quu(s:IS)(hl:∀ v∈s.Ia,v<256):∃ s',Bl P Ff Ff.body s (1430 * s.Ia.length+250) none s'/\s'.out=s.out++Ju (s.Ia.foldl vp 4294967295):=by
 obtain⟨s',h1,h2,h3⟩:=qk5 s.Ia (Yf { Yf s mC 4294967295 with Ia:=s.Ia.tail } mB (s.Ia.headD 4294967295)) hl rfl rfl;have e:s.Ia.foldl vp 4294967295=s'.sc mC:=h2.symm;have q1:=IY s' 16777216 ea;have q2:=IY { s' with out:=s'.out++[UInt8.ofNat (s'.sc mC / 16777216)] } 65536 ea;have q3:=IY { s' with out:=(s'.out++[UInt8.ofNat (s'.sc mC / 16777216)])++[UInt8.ofNat (s'.sc mC / 65536)] } 256 ea;have q4:St P Ff (.mk 6 [] [] [.mk [99,97,108,108] 0 [111,117,116] [.mk [118,97,114] 0 [99] []]] [] []) { s' with out:=((s'.out++[UInt8.ofNat (s'.sc mC / 16777216)])++[UInt8.ofNat (s'.sc mC / 65536)])++[UInt8.ofNat (s'.sc mC / 256)] } 19 none { s' with out:=(((s'.out++[UInt8.ofNat (s'.sc mC / 16777216)])++[UInt8.ofNat (s'.sc mC / 65536)])++[UInt8.ofNat (s'.sc mC / 256)])++[UInt8.ofNat (s'.sc mC)] }:=
  (St.exp (Ev.mk (vq.cons (Ev.of (v:=s'.sc mC) _ zk zk) vq.nil) Op.out)).mono ea
 refine⟨_,(Bl.cons (St.pz (name:=[99]) (v:=4294967295) (Ev.of _ zk zk)) (Bl.cons (St.pz (name:=[98]) (Ev.mk vq.nil Op.Ia)) (Bl.cons (St.nY (qql _) h1) (Bl.cons q1 (Bl.cons q2 (Bl.cons q3 (Bl.cons q4 Bl.nil))))))).mono ?_,?_⟩;have e1:wE tg 0 [105,110] ([]:List Ex).length=1:=rfl;have e2:cE (.mk [110,117,109] 4294967295 [] [])=12:=rfl;omega;show(((s'.out++[UInt8.ofNat (s'.sc mC / 16777216)])++[UInt8.ofNat (s'.sc mC / 65536)])++[UInt8.ofNat (s'.sc mC / 256)])++[UInt8.ofNat (s'.sc mC)]=_;rw[h3,e,Yc,Yc,Yc];try rfl
theorem qva(l:List Nat)(hl:∀ v∈l,v<256)(Ca:Nat)(h:1430 * l.length+250<=Ca):∃ Ba s2,Cg (Sg P Ba (Tg P)) (Tg P).body (rr P l Ca)=.ok none s2/\s2.out=Ju (l.foldl vp 4294967295):=by obtain⟨s',h1,h2⟩:=quu (rr P l 0) hl;have hm:Tg P=Ff:=rfl;rw[hm];obtain⟨Ba,s2,g1,g2⟩:=S9 (P:=P) (Ia:=l) (Ca:=Ca) (h1.mono h);exact⟨Ba,s2,g1,g2.trans h2⟩
end Go.ia.Wi.Wc.Ao
namespace Go.Proofs.Y.Lb
open Go.GL Go.RowKit Go.ia
open nj (u32 Vq rB JZ AV)
open Go.ia.Wi.Wc.Ao (iQ cV vp Ju)
theorem Pure.to{C:Ctx}{o:Oper}{e:Env}{H:Heap}{lv zL:LV}(h:Go.GL.Pure C o e H lv)(he:lv=zL):Go.GL.Pure C o e H zL:=he▸h
theorem XU(n:Int):IntKind.u8.wrap n=n % 256:=by simp only[IntKind.wrap,IntKind.bits,IntKind.signed,wj];rfl
def Ms(s:List UInt8):List Nat:=s.map (·.toNat)
theorem qu1(c:UInt8):c.toNat<256:=c.toNat_lt
theorem U0(s:List UInt8):∀ v∈Ms s,v<256:=λv hv=>by obtain⟨c,_,rfl⟩:=Ni hv;exact qu1 c
attribute [local irreducible] Ea kb ab ca Go.GL.Pure Ie pf ke LQ Rb oi Nj LS
variable{B0:Nat}{w0:World}
theorem qiR(s:List UInt8)(hs:s.length<=1000000):ca (KC B0 w0) 6 [str s] [] (Ub (.list ((Ms s).map u32))):=by
 refine jb Tryz.func6 rfl (n:=20) rfl rfl rfl ?_;refine Ep ?_;refine oS (S.tA (s:=1) (es:=[]) [] rfl pj rfl rfl rfl λb=>?_);refine xa ?_
 refine oL (λk sl H=>∃ (i:Nat) (v:LV),i<=s.length/\k=s.length-i/\Acc 1 v ((Ms (s.take i)).map u32) H []/\sl=[(0,str s),(3,v),(4,int .i64 i)])
  ⟨_,_,_,⟨0,_,zero_le _,rfl,Acc.row,rfl⟩,Kb,bc _⟩ ?_
 rintro k sl H ⟨i,v,hi,rfl,Eb,rfl⟩ j1 Me;refine xa ?_;refine Oa (λhc=>?_) λhc=>?_;have Ka:i<s.length:=by have:=zt hc;omega
 have hb:=qu1 s[i];have e0:IntKind.u32.wrap ((s[i].toNat:Nat):Int)=((s[i].toNat:Nat):Int):=by rw[Vq];omega
 have lq:s[((i:Nat):Int).toNat]? = some s[i]:=by rw[Int.toNat_natCast];exact Yh Ka
 have hT:(Ms (s.take (i+1))).map u32=(Ms (s.take i)).map u32++[u32 s[i].toNat]:=by rw[List.take_succ_eq_append_getElem Ka];simp only[Ms,Te];rfl
 generalize s[i]=ch at *;refine Zi ?_;refine Cs ?_;refine qa (pI rfl rfl zo lq)<|qa (Pure.to (Pure.nE rfl) (rB e0))<|oS (sL [_] (es:=[u32 ch.toNat]) rfl (Qd rfl rfl pj) rfl rfl rfl ?_);refine oS (S.acc (F:=[]) rfl Eb rfl (by simp[LV.cells]) rfl (by simp only[Ms,Mb,List.length_take,Ma,qc];omega) λv' H' Ob=>?_);refine Ql ?_;refine wa ?_;exact⟨_,_,_,by omega,⟨i+1,v',by omega,rfl,by rw[hT];exact Ob,rfl⟩,Kb,bc _,Me⟩;have Wg:i=s.length:=by have:=zf hc;omega
 subst Wg;rw[List.take_length] at Eb;refine kb.sub (d:=3) (v:=v) rfl Eb.sub ?_;refine xa ?_;exact qb Me (rC (rT (v:=.list _) rfl ie) rN) rfl
open Go.ia.Wi.Wc.Q.Er (eK Az LP Ov fG S1)
open Go.ia.Wi.Wc.Q.Lb (ym pq)
variable{a b n:Nat}
theorem qto(a k bits:Nat)(hk:k<=bits):Int.fdiv (a:Int) (2 ^ min ((k:Nat):Int).toNat bits)=((Nat.shiftRight a k:Nat):Int):=by
 rw[Int.toNat_natCast,Nat.min_eq_left hk,Int.fdiv_eq_ediv_of_nonneg _ (by
  have:(0:Int)<2 ^ k:=Int.pow_pos ea;omega)]
 have e:Nat.shiftRight a k=a / 2 ^ k:=Nat.shiftRight_eq_div_pow a k;rw[e]
 push_cast
 rfl
theorem qum(a k:Nat)(hk:k<=8)(ha:a<512):IntKind.i64.wrap ((a:Int) * 2 ^ min ((k:Nat):Int).toNat IntKind.i64.bits)=((Nat.shiftLeft a k:Nat):Int):=by
 have e:Nat.shiftLeft a k=a * 2 ^ k:=Nat.shiftLeft_eq a k;have h1:(2:Nat) ^ k<=2 ^ 8:=Nat.pow_le_pow_right ea hk;have h2:a * 2 ^ k<=512 * 2 ^ 8:=Nat.mul_le_mul zo h1;rw[Int.toNat_natCast,Nat.min_eq_left (show k<=IntKind.i64.bits by show k<=64;omega),e];have e2:((a:Int) * 2 ^ k)=((a * 2 ^ k:Nat):Int):=by push_cast;rfl
 rw[e2];exact cA zo
theorem NN(h:n<2 ^ b):(BitVec.ofInt b (n:Int)).toNat=n:=by rw[BitVec.ofInt_natCast,BitVec.toNat_ofNat];exact Nat.mod_eq_of_lt h
theorem qp7(n:Nat):Nat.land n 1=n % 2:=Nat.and_one_is_mod n
theorem qBq(h:n<256):IntKind.u8.wrap ((BitVec.ofInt IntKind.u8.bits (n:Int) &&& BitVec.ofInt IntKind.u8.bits 1).toNat:Nat)=((Nat.land n 1:Nat):Int):=by rw[BitVec.toNat_and,NN (b:=IntKind.u8.bits) h,show(BitVec.ofInt IntKind.u8.bits 1).toNat=1 from rfl,XU];have:n &&& 1=n % 2:=Nat.and_one_is_mod n;rw[this,qp7];omega
theorem qzS(h:n<65536):IntKind.i64.wrap ((BitVec.ofInt IntKind.i64.bits (n:Int) &&& BitVec.ofInt IntKind.i64.bits 1).toNat:Nat)=((Nat.land n 1:Nat):Int):=by rw[BitVec.toNat_and,NN (b:=IntKind.i64.bits) (by show n<2 ^ 64;omega),show(BitVec.ofInt IntKind.i64.bits 1).toNat=1 from rfl];have:n &&& 1=n % 2:=Nat.and_one_is_mod n;rw[this,qp7];exact cA zo
theorem qur(ha:a<65536)(hb:b<65536):IntKind.i64.wrap ((BitVec.ofInt IntKind.i64.bits (a:Int) ^^^ BitVec.ofInt IntKind.i64.bits (b:Int)).toNat:Nat)=((Nat.xor a b:Nat):Int):=by rw[BitVec.toNat_xor,NN (b:=IntKind.i64.bits) (by show a<2 ^ 64;omega),NN (b:=IntKind.i64.bits) (by show b<2 ^ 64;omega)];have:a ^^^ b<65536:=Nat.xor_lt_two_pow (n:=16) ha hb;exact cA zo
theorem SY(ha:a<256)(hb:b<256):IntKind.u8.wrap ((BitVec.ofInt IntKind.u8.bits (a:Int) ^^^ BitVec.ofInt IntKind.u8.bits (b:Int)).toNat:Nat)=((a ^^^ b:Nat):Int):=by rw[BitVec.toNat_xor,NN (b:=IntKind.u8.bits) ha,NN (b:=IntKind.u8.bits) hb,XU];have:a ^^^ b<256:=Nat.xor_lt_two_pow (n:=8) ha hb;omega
theorem qxR(a b out k:Nat):eK a b out k=if Nat.land (Nat.shiftRight b k) 1=1 then Nat.xor out (Nat.shiftLeft a k) else out:=by unfold eK;by_cases h:Nat.land (Nat.shiftRight b k) 1=1;rw[zp h,h];rw[zn h];split;rename_i e;exact absurd (Nat.eq_of_beq_eq_true e) h;rfl
theorem qyC(out k:Nat):LP out k=if Nat.land (Nat.shiftRight out k) 1=1 then Nat.xor out (Nat.shiftLeft 285 (k-8)) else out:=by unfold LP;by_cases h:Nat.land (Nat.shiftRight out k) 1=1;rw[zp h,h];rfl;rw[zn h];split;rename_i e;exact absurd (Nat.eq_of_beq_eq_true e) h;rfl
theorem oV{k:Nat}(ha:a<512)(hk:k<8):Nat.shiftLeft a k<65536:=by have e:Nat.shiftLeft a k=a * 2 ^ k:=Nat.shiftLeft_eq a k;have h1:(2:Nat) ^ k<=2 ^ 7:=Nat.pow_le_pow_right ea zo;rw[e];exact Nat.lt_of_le_of_lt (Nat.mul_le_mul (show a<=511 by omega) h1) ea
theorem QY{a b:Nat}(ha:a<256):∀ k,k<=8->Az a b k<65536
 |0,_=>by unfold Az;decide
 |k+1,h=>by show eK a b (Az a b k) k<65536;rw[qxR];split;exact Nat.xor_lt_two_pow (n:=16) (QY ha k zo) (oV zo zo);exact QY ha k zo
theorem aZ{out:Nat}(h:out<65536):∀ m,m<=7->Ov out m<65536
 |0,_=>h
 |m+1,hm=>by show LP (Ov out m) (14-m)<65536;rw[qyC];split;exact Nat.xor_lt_two_pow (n:=16) (aZ h m zo) (oV ea zo);exact aZ h m zo
def b8(n:Nat):LV:=int .u8 (n:Int)
theorem Q4(ha:a<256)(hb:b<256):ca (KC B0 w0) 24 [b8 a,b8 b] [] (Ub (b8 (ym a b))):=by
 rw[<-S1 ha hb];have Ka:fG a b<256:=by rw[S1 ha hb];exact Go.ia.Wi.Wc.Q.Er.oq a b
 unfold fG at Ka ⊢;have hA:=QY (b:=b) ha;have hB:=aZ (hA 8 (Pb _));have e0:IntKind.i64.wrap (a:Int)=(a:Int):=cA zo;have vY:∀ k,k<8->Nat.shiftLeft 285 k<65536:=λk hk=>oV ea hk;have sa:∀ k,k<8->Nat.shiftLeft a k<65536:=λk hk=>oV zo hk;unfold b8;refine jb Tryz.func24 rfl (n:=41) rfl rfl rfl ?_;refine xa ?_
 refine oL (λq sl H=>∃ k:Nat,k<=8/\q=8-k/\sl=[(1,int .u8 (b:Nat)),(5,int .i64 (a:Nat)),(6,int .i64 (Az a b k:Nat)),(7,int .i64 k)]/\H=[])
  ⟨_,_,_,⟨0,zero_le _,rfl,rfl,rfl⟩,⟨rfl,qf e0,rfl,rfl,trivial⟩,bc _⟩ ?_
 rintro q sl H ⟨k,hk,rfl,rfl,rfl⟩ j1 Me;refine wa ?_;refine Oa (λhc=>?_) λhc=>?_;have MB:k<8:=by have:=zt hc;omega
 have hS:Az a b (k+1)=_:=qxR a b (Az a b k) k;have hx:=qur (hA k hk) (sa k MB);have hsb:Nat.shiftRight b k<256:=by have e:Nat.shiftRight b k=b / 2 ^ k:=Nat.shiftRight_eq_div_pow b k;rw[e];exact Nat.lt_of_le_of_lt (Nat.div_le_self _ _) hb
 have PB:=qBq hsb;have I6:=qto b k IntKind.u8.bits (by show k<=8;omega);have gr:=qum a k zo zo;generalize Nat.shiftRight b k=B1 at *;generalize Nat.shiftLeft a k=A1 at *;generalize Az a b k=O at *;generalize Nat.land B1 1=L at *;refine wa ?_;refine qa (Pure.to (Pure.shr rfl rfl zo) (congrArg (int .u8) I6))<|qa (Pure.to (Pure.oU rfl rfl) (congrArg (int .u8) PB))<|Aa ?_;refine Oa (λh1=>?_) λh1=>?_;have h1:(L:Int)=1:=zt h1;rw[zp zo] at hS;refine Yd ?_;refine qa (Pure.to (Pure.VP rfl rfl zo) (congrArg (int .i64) gr))<|qa (Pure.to (Pure.vw rfl rfl) (congrArg (int .i64) hx))<|wa ?_;exact⟨_,_,_,by omega,⟨k+1,by omega,rfl,rfl,rfl⟩,⟨rfl,rfl,qf (by rw[hS]),qf zo,trivial⟩,bc _,Me⟩;have h1:¬ (L:Int)=1:=zf h1;rw[zn zo] at hS;refine wa ?_;exact⟨_,_,_,by omega,⟨k+1,by omega,rfl,rfl,rfl⟩,⟨rfl,rfl,qf (by rw[hS]),qf zo,trivial⟩,bc _,Me⟩;have MB:k=8:=by have:=zf hc;omega
 subst MB;generalize Az a b 8=O at *;refine wa ?_;refine oL (λq sl H=>∃ m:Nat,m<=7/\q=7-m/\sl=[(6,int .i64 (Ov O m:Nat)),(8,int .i64 (14-(m:Int)))]/\H=[])
  ⟨_,_,_,⟨0,zero_le _,rfl,rfl,rfl⟩,Kb,bc _⟩ ?_
 rintro q sl H ⟨m,hm,rfl,rfl,rfl⟩ j2 Gc;refine xa ?_;refine Oa (λWe=>?_) λWe=>?_
 have hm7:m<7:=by have h:(14-(m:Int)) ≥ 8:=zt We;omega
 obtain⟨kk,hkk⟩:∃ kk,kk=14-m:=⟨_,rfl⟩;have C7:(14-(m:Int))=(kk:Int):=by omega
 have hS:Ov O (m+1)=_:=qyC (Ov O m) (14-m);rw[<-hkk] at hS;have EJ:=hB m hm;have hx:=qur EJ (vY (kk-8) zo);have bF:Nat.shiftRight (Ov O m) kk<65536:=by have e:Nat.shiftRight (Ov O m) kk=Ov O m / 2 ^ kk:=Nat.shiftRight_eq_div_pow _ kk;rw[e];exact Nat.lt_of_le_of_lt (Nat.div_le_self _ _) EJ
 have PB:=qzS bF;have I6:=qto (Ov O m) kk IntKind.i64.bits (by show kk<=64;omega);have gr:=qum 285 (kk-8) zo ea;rw[C7];generalize Nat.shiftRight (Ov O m) kk=B1 at *;generalize Nat.shiftLeft 285 (kk-8)=A1 at *;generalize Ov O m=O1 at *;generalize Nat.land B1 1=L at *;have MB:(kk:Int)-8=((kk-8:Nat):Int):=by omega
 refine wa ?_;refine qa (Pure.to (Pure.shr rfl rfl zo) (congrArg (int .i64) I6))<|qa (Pure.to (Pure.oU rfl rfl) (congrArg (int .i64) PB))<|Aa ?_;refine Oa (λh1=>?_) λh1=>?_;have h1:(L:Int)=1:=zt h1;rw[zp zo] at hS;refine xa ?_;refine qa (Pure.to (Pure.VP rfl (qf MB) zo) (congrArg (int .i64) gr))<|qa (Pure.to (Pure.vw rfl rfl) (congrArg (int .i64) hx))<|xa ?_;exact⟨_,_,_,by omega,⟨m+1,by omega,rfl,rfl,rfl⟩,⟨qf (by rw[hS]),qf zo,trivial⟩,bc _,Gc⟩;have h1:¬ (L:Int)=1:=zf h1;rw[zn zo] at hS;refine xa ?_;exact⟨_,_,_,by omega,⟨m+1,by omega,rfl,rfl,rfl⟩,⟨qf (by rw[hS]),qf zo,trivial⟩,bc _,Gc⟩
 have hm7:m=7:=by have h:¬ (14-(m:Int)) ≥ 8:=zf We;omega
 subst hm7;have e8:IntKind.u8.wrap (Ov O 7:Int)=(Ov O 7:Int):=by rw[XU];omega
 refine xa ?_;exact qb (Gc.trans Me) (eb rfl) (qf e8)
open Go.ia.Wi.Wc.Q.Er (quj quM oq VY wT MU jg x8 DU)
variable{i:Nat}
theorem nV(h:n<256):int .u8 (IntKind.u8.wrap (n:Int))=b8 n:=by unfold b8;rw[XU];congr 1;omega
def fB(f:Nat->Nat)(n:Nat):List LV:=(List.range n).map λi=>b8 (f i)
theorem iN(f:Nat->Nat)(n:Nat):(fB f n).length=n:=by unfold fB;rw[Mb,length_range]
theorem GY(f:Nat->Nat)(h:i<n):(fB f n)[((i:Nat):Int).toNat]? = some (b8 (f i)):=by unfold fB;rw[Int.toNat_natCast,List.getElem?_map,List.getElem?_range h];rfl
theorem qwb(f:Nat->Nat)(n:Nat):fB f n=((List.range n).map λi=>Value.int .u8 (f i:Int)).map LV.atom:=by unfold fB;rw[List.map_map];rfl
theorem qAm(f:Nat->Nat)(hf:∀ i,f i<256)(n:Nat):fB f n=ig ((List.range n).map λi=>UInt8.ofNat (f i)):=by unfold fB ig;rw[List.map_map];refine List.map_congr_left λi _=>?_;show b8 (f i)=int .u8 ((UInt8.ofNat (f i)).toNat:Int);unfold b8;rw[UInt8.toNat_ofNat'];congr 1;have:=hf i;omega
theorem qn8(x:LV):∀ (l:List LV) (i:Nat),i<l.length->Mh l i [x]=l.set i x
 |_::l,0,_=>by cases l <;> rfl
 |y::l,i+1,h=>by show y::Mh l i [x]=y::l.set i x;rw[qn8 x l i (by simpa using h)]
theorem qBB(f:Nat->Nat)(n i x:Nat)(h:i<n):Mh (fB f n) i [b8 x]=fB (λj=>if j=i then x else f j) n:=by
 rw[qn8 _ _ _ (by rw[iN];exact h)];refine List.ext_getElem? λj=>?_;unfold fB;rw[List.getElem?_set,List.getElem?_map,List.getElem?_map,Mb,length_range]
 by_cases e:i=j;subst e;rw[zp rfl,zp h,List.getElem?_range h];show _=some (b8 (if i=i then x else f i));rw[zp rfl];rw[zn e];by_cases g:j<n;rw[List.getElem?_range g];show some (b8 (f j))=some (b8 (if j=i then x else f j));rw[zn (λh=>e h.symm)];rw[List.getElem?_eq_none (by rw[length_range];omega)];rfl
theorem qvq(ha:a<256)(hb:b<256)(b0:b≠0):ca (KC B0 w0) 40 [b8 a,b8 b] [] (Ub (b8 (pq a b))):=by
 have hd:=VY a b;have hT:∀ x,x<256->ca (KC B0 w0) 24 [b8 x,b8 b] [] (Ub (b8 (ym x b))):=λx hx=>Q4 hx hb;have hq:∀ x,x<256->(ym x b=a ↔ x=pq a b):=λx hx=>⟨λh=>by rw[<-h,quM hx hb b0],λh=>by rw[h,quj ha hb b0]⟩;generalize pq a b=Q at hd hq ⊢;refine jb Tryz.func40 rfl (n:=18) rfl rfl rfl ?_;refine wa ?_
 refine oL (λq sl H=>∃ x:Nat,x<=Q/\q=Q-x/\sl=[(0,b8 a),(1,b8 b),(5,int .i64 x)]/\H=[])
  ⟨_,_,_,⟨0,zero_le _,rfl,rfl,rfl⟩,Kb,bc _⟩ ?_
 rintro q sl H ⟨x,hx,rfl,rfl,rfl⟩ j1 Me;have j6:x<256:=by omega
 have hTx:=hT x j6;have O6:=hq x j6;have ex:=nV j6;generalize ym x b=M at hTx O6;refine wa ?_;refine oC rfl (λ_=>?_) (λhc=>by
  have h:¬ (x:Int)<256:=zf hc;omega)
 refine xa ?_;refine oS (sF [_,_] (congrArg (λz=>[z,b8 b]) ex) hTx ?_);refine Aa ?_;refine Oa (λh1=>?_) λh1=>?_;have h1:(M:Int)=(a:Int):=zt h1;have hxQ:x=Q:=O6.1 zo;subst hxQ;refine xa ?_;exact qb Me (eb rfl) ex;have h1:¬ (M:Int)=(a:Int):=zf h1;have hxQ:x≠Q:=λe=>h1 (by rw[O6.2 e]);refine wa ?_;exact⟨_,_,_,by omega,⟨x+1,by omega,rfl,rfl,rfl⟩,Kb,bc _,Me⟩
theorem qpn(si:Nat->Nat)(hs:∀ i,si i<256)(n k x:Nat)(hn:n<=100)(hk:k<n)(hx:x<256)(hd:∀ j,j<n->j≠k->si k≠si j):ca (KC B0 w0) 23 [.list (fB si n),int .i64 k,b8 x] [] (Ub (b8 (wT si x k n))):=by
 have hO:∀ j,j<n->j≠k->ca (KC B0 w0) 40 [b8 (x ^^^ si j),b8 (si k ^^^ si j)] [] (Ub (b8 (pq (x ^^^ si j) (si k ^^^ si j)))):=λj hj xb=>qvq (x8 hx (hs j)) (x8 (hs k) (hs j)) (DU (hd j hj xb));have hT:∀ j w,w<256->ca (KC B0 w0) 24 [b8 w,b8 (pq (x ^^^ si j) (si k ^^^ si j))] [] (Ub (b8 (ym w (pq (x ^^^ si j) (si k ^^^ si j))))):=λj w hw=>Q4 hw (VY _ _);have mu:=λi (hi:i<n)=>GY si hi;have ma:=iN si n;generalize fB si n=es at mu ma ⊢;refine jb Tryz.func23 rfl (n:=37) rfl rfl rfl ?_;refine wa ?_
 refine oL (λq sl H=>∃ i:Nat,i<=n/\q=n-i/\sl=[(0,.list es),(1,int .i64 k),(2,b8 x),(7,b8 (wT si x k i)),(8,int .i64 i)]/\H=[])
  ⟨_,_,_,⟨0,zero_le _,rfl,rfl,rfl⟩,Kb,bc _⟩ ?_
 rintro q sl H ⟨i,hi,rfl,rfl,rfl⟩ j1 Me;refine wa ?_;refine Oa (λhc=>?_) λhc=>?_
 have Ka:i<n:=by have h:(i:Int)<((es.length:Nat):Int):=zt hc;omega
 have hW:wT si x k (i+1)=if i=k then wT si x k i else ym (wT si x k i) (pq (x ^^^ si i) (si k ^^^ si i)):=rfl
 have hw:=MU si x k i;have q8:=hO i Ka;have hTi:=hT i _ hw;have g1:=mu i Ka;have g2:=mu k hk;have x1:=SY hx (hs i);have x2:=SY (hs k) (hs i);have EB:=hs i;have hsk:=hs k;generalize wT si x k i=W at *;generalize pq (x ^^^ si i) (si k ^^^ si i)=D at *;generalize x ^^^ si i=X1 at *;generalize si k ^^^ si i=X2 at *;refine xa ?_;refine Oa (λh1=>?_) λh1=>?_
 have xb:i≠k:=λe=>by subst e;rw[Dg rfl] at h1;cases h1
 rw[zn xb] at hW;have q8:=q8 xb;refine cD (m:=19) rfl []<|aT 0 rfl rfl (Cc rfl)<|aT 1 rfl rfl (Cc rfl)<|aT 2 rfl rfl (Cc (lv:=.list es) rfl)<|aT 3 rfl rfl (Cc rfl)<|aT 4 rfl rfl (xR (es:=es) (Ud:=b8 (si i)) (cs:=[b8 (si i)]) rfl rfl zo g1 rfl rfl)<|aT 5 rfl rfl (pO (c:=b8 (si i)) rfl rfl)<|aT 6 rfl rfl (Pure.to (Pure.vw (k:=.u8) (a:=(x:Int)) (b:=(si i:Int)) rfl rfl) (congrArg (int .u8) x1))<|aT 7 rfl rfl (Cc (lv:=.list es) rfl)<|aT 8 rfl rfl (Cc rfl)<|aT 9 rfl rfl (xR (es:=es) (Ud:=b8 (si k)) (cs:=[b8 (si k)]) rfl rfl zo g2 rfl rfl)<|aT 10 rfl rfl (pO (c:=b8 (si k)) rfl rfl)<|aT 11 rfl rfl (Cc (lv:=.list es) rfl)<|aT 12 rfl rfl (Cc rfl)<|aT 13 rfl rfl (xR (es:=es) (Ud:=b8 (si i)) (cs:=[b8 (si i)]) rfl rfl zo g1 rfl rfl)<|aT 14 rfl rfl (pO (c:=b8 (si i)) rfl rfl)<|aT 15 rfl rfl (Pure.to (Pure.vw (k:=.u8) (a:=(si k:Int)) (b:=(si i:Int)) rfl rfl) (congrArg (int .u8) x2))<|aL ?_ sd;refine lO 16 (lS (H1:=[]) (F:=[]) rfl (.inl rfl) rfl dc sd (sF [_,_] rfl q8 ?_));refine lO 17 (lS (H1:=[]) (F:=[]) rfl (.inl rfl) rfl dc sd (sF [_,_] rfl hTi ?_));refine lO 18 (lH rfl rfl (pA (lv:=b8 _) rfl) ?_);refine lD zk ?_;refine wa ?_;exact⟨_,_,_,by omega,⟨i+1,by omega,rfl,rfl,rfl⟩,⟨rfl,rfl,rfl,congrArg b8 hW.symm,qf zo,trivial⟩,bc _,Me⟩;have xb:i=k:=Decidable.byContradiction λe=>by rw[decide_eq_false (show ¬ (i:Int)=(k:Int) by omega)] at h1;cases h1
 rw[zp xb] at hW;refine wa ?_;exact⟨_,_,_,by omega,⟨i+1,by omega,rfl,rfl,rfl⟩,⟨rfl,rfl,rfl,congrArg b8 hW.symm,qf zo,trivial⟩,bc _,Me⟩;have Wg:i=n:=by have h:¬ (i:Int)<((es.length:Nat):Int):=zf hc;omega
 subst Wg;refine wa ?_;exact qb Me (eb rfl) rfl
def dB(D:Nat->Nat->Nat)(i:Nat):List UInt8:=(List.range 28).map λk=>UInt8.ofNat (D i k)
def iw(D:Nat->Nat->Nat)(n:Nat):List LV:=(List.range n).map λi=>str (dB D i)
theorem qBg(D:Nat->Nat->Nat)(h:i<n):(iw D n)[((i:Nat):Int).toNat]? = some (str (dB D i)):=by unfold iw;rw[Int.toNat_natCast,List.getElem?_map,List.getElem?_range h];rfl
theorem dU(D:Nat->Nat->Nat)(i:Nat){k:Nat}(h:k<28):(dB D i)[((k:Nat):Int).toNat]? = some (UInt8.ofNat (D i k)):=by unfold dB;rw[Int.toNat_natCast,List.getElem?_map,List.getElem?_range h];rfl
theorem UY{si:Nat->Nat}{D:Nat->Nat->Nat}(x n k:Nat):∀ i,jg si D x n k i<256
 |0=>by unfold jg;decide
 |i+1=>x8 (UY x n k i) (oq _ _)
theorem quA(si:Nat->Nat)(hs:∀ i,si i<256)(D:Nat->Nat->Nat)(hD:∀ i k,D i k<256)(n x:Nat)(h0:0<n)(hn:n<=100)(hx:x<256)(hd:∀ i j,i<n->j<n->j≠i->si i≠si j):ca (KC B0 w0) 12 [.list (fB si n),.list (iw D n),b8 x] [] (Ub (str ((List.range 28).map λk=>UInt8.ofNat (jg si D x n k n)))):=by
 have hWt:=λk hk=>qpn (B0:=B0) (w0:=w0) si hs n k x hn hk hx λj hj=>hd k j hk hj;have u6:=λk=>MU si x k n;have hTm:∀ i k,ca (KC B0 w0) 24 [b8 (wT si x i n),b8 (D i k)] [] (Ub (b8 (ym (wT si x i n) (D i k)))):=λi k=>Q4 (u6 i) (hD i k);have lM:=λi (hi:i<n)=>qBg D hi;have tT:(iw D n).length=n:=by unfold iw;rw[Mb,length_range]
 have ma:=iN si n;have hz:(List.replicate 28 (LV.atom (.int .u8 0)))=fB (λk=>jg si D x n k 0) 28:=rfl;generalize fB si n=es at ma hWt ⊢;generalize iw D n=bs at lM tT ⊢;refine jb Tryz.func12 rfl (n:=53) rfl rfl rfl ?_;refine wa ?_;refine Oa (λhc=>?_) λ_=>?_;have h:((bs.length:Nat):Int)=0:=zt hc;omega;refine wa ?_;refine qa (xR (es:=bs) (Ud:=str (dB D 0)) (cs:=[str (dB D 0)]) rfl rfl zo (lM 0 h0) rfl rfl)<|qa (pO (c:=str (dB D 0)) rfl rfl)<|Ra ?_;refine oS (S.dt (n:=28) rfl rfl ea ea λb=>?_);rw[hz];refine wa ?_
 refine oL (λq sl H=>∃ i:Nat,i<=n/\q=n-i/\sl=[(0,.list es),(1,.list bs),(2,b8 x),(7,uC b 28),(8,int .i64 i)]/\H=[(b,.cells 5 (fB (λk=>jg si D x n k i) 28))])
  ⟨_,_,_,⟨0,zero_le _,rfl,rfl,rfl⟩,Kb,bc _⟩ ?_
 rintro q sl H ⟨i,hi,rfl,rfl,rfl⟩ j1 Me;refine wa ?_;refine Oa (λhc=>?_) λhc=>?_
 ·have Ka:i<n:=by
   have h:(i:Int)<((es.length:Nat):Int):=zt hc;omega
  refine wa ?_;refine oS (sF [_,_,_] rfl (hWt i Ka) ?_);refine wa ?_;refine oL (λq sl H=>∃ k:Nat,k<=28/\q=28-k/\sl=[(0,.list es),(1,.list bs),(2,b8 x),(7,uC b 28),(8,int .i64 i),(9,b8 (wT si x i n)),(10,int .i64 k)]/\H=[(b,.cells 5 (fB (λj=>if j<k then jg si D x n j (i+1) else jg si D x n j i) 28))])
   ⟨_,_,_,⟨0,zero_le _,rfl,rfl,rfl⟩,Kb,bc _⟩ ?_
  rintro q sl H ⟨k,hk,rfl,rfl,rfl⟩ j2 Gc;refine Yd ?_;refine qa (Pure.Is rfl)<|Aa ?_;refine Oa (λh1=>?_) λh1=>?_
  ·have MB:k<28:=by
    have h:(k:Int)<28:=zt h1;omega
   have g1:(fB (λj=>if j<k then jg si D x n j (i+1) else jg si D x n j i) 28)[k]? = some (b8 (jg si D x n k i)):=by have:=GY (λj=>if j<k then jg si D x n j (i+1) else jg si D x n j i) MB;simp only[Int.toNat_natCast,Nat.lt_irrefl,if_false] at this;exact this
   have g2:=qBB (λj=>if j<k then jg si D x n j (i+1) else jg si D x n j i) 28 k (jg si D x n k i ^^^ ym (wT si x i n) (D i k)) MB
   have e2:(λj=>if j=k then jg si D x n k i ^^^ ym (wT si x i n) (D i k) else if j<k then jg si D x n j (i+1) else jg si D x n j i)=λj=>if j<k+1 then jg si D x n j (i+1) else jg si D x n j i:=funext λj=>by by_cases e:j=k;rw[zp e,zp zo,e];rfl;rw[zn e];by_cases g:j<k;rw[zp g,zp zo];rw[zn g,zn zo]
   rw[e2] at g2;have hl8:=iN (λj=>if j<k then jg si D x n j (i+1) else jg si D x n j i) 28;have hA8:=UY (si:=si) (D:=D) x n k i;have hM8:=oq (wT si x i n) (D i k);have xo:=SY hA8 hM8;have hT:=hTm i k;have gb:=lM i Ka;have gd:=dU D i MB;have hDk:=hD i k
   have hd8:int .u8 ((UInt8.ofNat (D i k)).toNat:Int)=b8 (D i k):=by unfold b8;rw[UInt8.toNat_ofNat'];congr 1;omega
   generalize MX:fB (λj=>if j<k+1 then jg si D x n j (i+1) else jg si D x n j i) 28=C2 at g2;generalize fB (λj=>if j<k then jg si D x n j (i+1) else jg si D x n j i) 28=C1 at g1 g2 hl8 ⊢;generalize jg si D x n k i ^^^ ym (wT si x i n) (D i k)=Y at g2 xo;generalize jg si D x n k i=A at *;generalize ym (wT si x i n) (D i k)=M at *;generalize wT si x i n=W at *;generalize dB D i=dd at *;refine Aa ?_;refine cD (m:=17) rfl []<|aT 0 rfl rfl (Cc rfl)<|aT 1 rfl rfl (Cc rfl)<|aT 2 rfl rfl (Cc rfl)<|aT 3 rfl rfl (Cc rfl)<|aT 4 rfl rfl (Pure.to (Pure.gq rfl rfl zo zo) (show ptr b _=ptr b k from by rw[Int.toNat_natCast];congr 1;simp))<|aT 6 rfl rfl (Cc rfl)<|aT 7 rfl rfl (Cc (lv:=.list bs) rfl)<|aT 8 rfl rfl (Cc rfl)<|aT 9 rfl rfl (xR (es:=bs) (Ud:=str dd) (cs:=[str dd]) rfl rfl zo gb rfl rfl)<|aT 10 rfl rfl (pO (c:=str dd) rfl rfl)<|aT 11 rfl rfl (Cc rfl)<|aT 12 rfl rfl (Pure.to (pI (l:=dd) rfl rfl zo gd) hd8)<|aL ?_ sd;refine wq (i:=5) (j:=13) zk ?_ ?_;refine lH rfl rfl (pL (c:=b8 A) rfl xc g1)<|lO 13 (lS (H1:=[]) (F:=[_]) rfl (.inl rfl) rfl dc sd (sF [_,_] rfl hT ?_));rotate_left;refine lS (H1:=[]) (F:=[_]) rfl (.inl rfl) rfl dc sd (sF [_,_] rfl hT ?_);refine lO 5 (lH rfl rfl (pL (c:=b8 A) rfl xc g1) ?_)
   all_goals
    refine lO 14 (lH rfl rfl (Pure.to (Pure.vw (k:=.u8) (a:=(A:Int)) (b:=(M:Int)) rfl rfl) (congrArg (int .u8) xo)) ?_);refine lO 15 (lH rfl rfl (Pure.to (Pure.gq rfl rfl zo zo) (show ptr b _=ptr b k from by rw[Int.toNat_natCast];congr 1;simp)) ?_);refine lO 16 (lW rfl (.inl rfl) rfl (sS (n:=1) (Zb:=C2) (vs:=[b8 Y]) rfl pH rfl rfl (Nat.ble_eq_true_of_le zo) rfl g2 ?_));refine lD zk ?_;refine wa ?_;exact⟨_,_,_,by omega,⟨k+1,by omega,rfl,rfl,rfl⟩,Kb,(by rw[MX];exact bc _),Gc⟩
  have MB:k=28:=by have h:¬ (k:Int)<28:=zf h1;omega
  subst MB;have e3:fB (λj=>if j<28 then jg si D x n j (i+1) else jg si D x n j i) 28=fB (λj=>jg si D x n j (i+1)) 28:=by unfold fB;exact List.map_congr_left λj hj=>congrArg b8 (zp (List.mem_range.1 hj))
  rw[e3];refine wa ?_;exact⟨_,_,_,by omega,⟨i+1,by omega,rfl,rfl,rfl⟩,Kb,bc _,Gc.trans Me⟩
 have Wg:i=n:=by have h:¬ (i:Int)<((es.length:Nat):Int):=zf hc;omega
 subst Wg;have EO:=qAm (λk=>jg si D x i k i) (λk=>UY x i k i) 28;have mu:=qwb (λk=>jg si D x i k i) 28;have pX:((List.range 28).map λk=>Value.int .u8 (jg si D x i k i:Int)).length=28:=by rw[Mb,length_range]
 have um:GL.elems (.list (((List.range 28).map λk=>Value.int .u8 (jg si D x i k i:Int)).map LV.atom))=some (ig ((List.range 28).map λk=>UInt8.ofNat (jg si D x i k i))):=by rw[<-mu,EO];rfl
 rw[mu];generalize ((List.range 28).map λk=>Value.int .u8 (jg si D x i k i:Int))=vs at pX um ⊢;generalize ((List.range 28).map λk=>UInt8.ofNat (jg si D x i k i))=out at um ⊢;refine kb.XF 7 (vs:=vs) pH (by rw[pX];rfl) ?_;refine wa ?_;refine qa (Pure.Xr (l:=out) um)<|Ad ?_;exact qb Me (eb rfl) rfl
open Go.ia.Wi.Wc.Q.Er (jg qq2)
def Ez(i:Nat)(d:List UInt8):LV:=.agg [int .i64 (i:Int),str d]
def Pv(si:Nat->Nat)(D:Nat->Nat->Nat)(n:Nat):List LV:=(List.range n).map λi=>Ez (si i) (dB D i)
theorem V'(si:Nat->Nat)(D:Nat->Nat->Nat)(h:i<n):(Pv si D n)[((i:Nat):Int).toNat]? = some (Ez (si i) (dB D i)):=by unfold Pv;rw[Int.toNat_natCast,List.getElem?_map,List.getElem?_range h];rfl
theorem qzH(f:Nat->Nat)(n:Nat):fB f (n+1)=fB f n++[b8 (f n)]:=by unfold fB;rw[List.range_succ,Te];rfl
theorem qv9(D:Nat->Nat->Nat)(n:Nat):iw D (n+1)=iw D n++[str (dB D n)]:=by unfold iw;rw[List.range_succ,Te];rfl
theorem qzk(D:Nat->Nat->Nat)(n:Nat):(iw D n).length=n:=by unfold iw;rw[Mb,length_range]
theorem qla(si:Nat->Nat)(hs:∀ i,si i<256)(D:Nat->Nat->Nat)(n:Nat)(hn:n<=100)(hd:∀ i j,i<n->j<n->j≠i->si i≠si j):ca (KC B0 w0) 11 [.list (Pv si D n),int .i64 n] [] (Ub (.tuple [.list (fB si n),.list (iw D n)])):=by
 have mu:=λi (hi:i<n)=>V' si D hi;have ma:(Pv si D n).length=n:=by unfold Pv;rw[Mb,length_range]
 generalize Pv si D n=cj at mu ma ⊢;refine jb Tryz.func11 rfl (n:=66) rfl rfl rfl ?_;refine Ep ?_;refine oS (S.tA (s:=1) (es:=[]) [] rfl pj rfl rfl rfl λb1=>oS (S.tA (s:=1) (es:=[]) [] rfl pj rfl rfl rfl λb2=>?_));refine xa ?_
 refine oL (λq sl H=>∃ (i:Nat) (v1 v2:LV) (H1 H2:Heap),i<=n/\q=n-i/\Acc 1 v1 (fB si i) H1 []/\Acc 1 v2 (iw D i) H2 []/\sl=[(0,.list cj),(1,int .i64 n),(6,v1),(7,v2),(8,int .i64 i)]/\H=H1++H2)
  ⟨_,_,_,⟨0,.app b1 0 1 [],.app b2 0 1 [],[(b1,.row 0)],[(b2,.row 0)],zero_le _,rfl,Acc.row,Acc.row,rfl,rfl⟩,Kb,⟨[],by simpa using yq _ _ _⟩⟩ ?_
 rintro q sl H ⟨i,v1,v2,H1,H2,hi,rfl,Ch,ud,rfl,rfl⟩ j1 Me;have um:=Ch.elems;have yl:=iN si i;refine wa ?_;refine oB 17 rfl (λhc=>?_) λhc=>?_
 ·have Ka:i<n:=by
   have h:(i:Int)<((cj.length:Nat):Int):=zt hc;omega
  have hg:=mu i Ka;have hs8:=hs i;refine Aa ?_;refine qa (Cc (lv:=v1) rfl)<|Ea.want rfl rfl ?_;refine qa (Pure.Ro um)<|Aa ?_;refine Oa (λ_=>?_) λh=>?_;rotate_left;have h:¬ (((fB si i).length:Nat):Int)<(n:Int):=zf h;omega;refine wa ?_
  refine oL (λq sl H=>∃ k:Nat,k<=i/\q=i-k/\sl=[(0,.list cj),(1,int .i64 n),(6,v1),(7,v2),(8,int .i64 i),(9,bool false),(10,int .i64 k)]/\H=H1++H2)
   ⟨_,_,_,⟨0,zero_le _,rfl,rfl,rfl⟩,Kb,bc _⟩ ?_
  rintro q sl H ⟨k,hk,rfl,rfl,rfl⟩ j2 Gc;refine Yd ?_;refine qa (Cc (lv:=v1) rfl)<|qa (Pure.Ro um)<|Aa ?_;refine Oa (λh1=>?_) λh1=>?_
  have C7:k<i:=by have h:(k:Int)<(((fB si i).length:Nat):Int):=zt h1;omega
  have g1:=GY si C7;have MB:=hs k;have ek:IntKind.i64.wrap (si k:Int)=(si k:Int):=cA zo;have xb:decide ((si k:Int)=(si i:Int))=false:=decide_eq_false λe=>hd k i zo Ka zo zo;refine Aa ?_;refine cD (m:=15) rfl []<|aT 0 rfl rfl (Cc rfl)<|aT 1 rfl rfl (Cc rfl)<|Rb.su 2 rfl rfl rfl rfl (Cc (lv:=v1) rfl)<|Rb.su 3 rfl rfl rfl rfl (Cc rfl)<|Rb.su 4 rfl rfl rfl rfl (xR (Ud:=b8 (si k)) (cs:=[b8 (si k)]) um rfl zo g1 rfl rfl)<|Rb.su 5 rfl rfl rfl rfl (pO (c:=b8 (si k)) rfl rfl)<|Rb.su 6 rfl rfl rfl rfl (Pure.to (Pure.nE (k:=.u8) (n:=(si k:Int)) rfl) (congrArg (int .i64) ek))<|Rb.su 7 rfl rfl rfl rfl (Cc (lv:=.list cj) rfl)<|Rb.su 8 rfl rfl rfl rfl (Cc rfl)<|Rb.su 9 rfl rfl rfl rfl (xR (es:=cj) (Ud:=Ez (si i) (dB D i)) (cs:=[int .i64 (si i:Int),str (dB D i)]) rfl rfl zo hg rfl rfl)<|Rb.su 10 rfl rfl rfl rfl (Pure.Cl rfl rfl)<|Rb.su 11 rfl rfl rfl rfl (pO (c:=int .i64 (si i:Int)) rfl rfl)<|Rb.su 12 rfl rfl rfl rfl (Pure.to (Pure.eql rfl rfl) (Re xb))<|aL ?_ sd;refine lO 13 (lH rfl rfl (Pure.Yl (lv:=bool false) rfl rfl) ?_);refine lO 14 (lH rfl rfl (pA (lv:=bool false) rfl) ?_);refine lD zk ?_;refine wa ?_;exact⟨_,_,_,by omega,⟨k+1,by omega,rfl,rfl,rfl⟩,Kb,bc _,Gc⟩;refine xa ?_;refine oC rfl (λ_=>?_) (λh=>by cases h);have e8:=nV hs8;refine cD (m:=19) rfl []<|aT 0 rfl rfl (Cc (lv:=v1) rfl)<|aT 1 rfl rfl (Cc (lv:=.list cj) rfl)<|aT 2 rfl rfl (Cc rfl)<|aT 3 rfl rfl (xR (es:=cj) (Ud:=Ez (si i) (dB D i)) (cs:=[int .i64 (si i:Int),str (dB D i)]) rfl rfl zo hg rfl rfl)<|aT 4 rfl rfl (Pure.Cl rfl rfl)<|aT 5 rfl rfl (pO (c:=int .i64 (si i:Int)) rfl rfl)<|aT 6 rfl rfl (Pure.to (Pure.nE rfl) e8)<|aT 9 rfl rfl (Cc (lv:=v2) rfl)<|aT 10 rfl rfl (Cc (lv:=.list cj) rfl)<|aT 11 rfl rfl (Cc rfl)<|aT 12 rfl rfl (xR (es:=cj) (Ud:=Ez (si i) (dB D i)) (cs:=[int .i64 (si i:Int),str (dB D i)]) rfl rfl zo hg rfl rfl)<|aT 13 rfl rfl (Pure.Cl rfl rfl)<|aT 14 rfl rfl (pO (c:=str (dB D i)) rfl rfl)<|aL ?_ sd;refine wq (i:=7) (j:=15) zk ?_ ?_;refine lS (H1:=[]) (F:=_) rfl (.inl rfl) rfl dc sd (sL [_] (es:=[b8 (si i)]) rfl (Qd rfl rfl pj) rfl rfl rfl ?_);refine wq (i:=8) (j:=15) zk ?_ ?_;refine lS (H1:=H1) (F:=H2) rfl (.inl rfl) rfl dc sd (S.acc (F:=[]) rfl Ch rfl (by simp[LV.cells,b8]) rfl (by rw[yl];simp only[Ma,qc];omega) λGU gy Kx=>?_);refine lO 15 (lS (H1:=[]) (F:=_) rfl (.inl rfl) rfl dc sd (sL [_] (es:=[str (dB D i)]) rfl (Qd rfl rfl pj) rfl rfl rfl ?_));rotate_left;refine lS (H1:=[]) (F:=_) rfl (.inl rfl) rfl dc sd (sL [_] (es:=[str (dB D i)]) rfl (Qd rfl rfl pj) rfl rfl rfl ?_);refine lO 8 (lS (H1:=H1) (F:=H2) rfl (.inl rfl) rfl dc sd (S.acc (F:=[]) rfl Ch rfl (by simp[LV.cells,b8]) rfl (by rw[yl];simp only[Ma,qc];omega) λGU gy Kx=>?_));rotate_left;refine lS (H1:=[]) (F:=_) rfl (.inl rfl) rfl dc sd (sL [_] (es:=[str (dB D i)]) rfl (Qd rfl rfl pj) rfl rfl rfl ?_);refine lO 7 (lS (H1:=[]) (F:=_) rfl (.inl rfl) rfl dc sd (sL [_] (es:=[b8 (si i)]) rfl (Qd rfl rfl pj) rfl rfl rfl ?_));refine lO 8 (lS (H1:=H1) (F:=H2) rfl (.inl rfl) rfl dc sd (S.acc (F:=[]) rfl Ch rfl (by simp[LV.cells,b8]) rfl (by rw[yl];simp only[Ma,qc];omega) λGU gy Kx=>?_))
  all_goals
   refine lO 16 (lS (H1:=H2) (F:=gy) rfl (.inl rfl) rfl (show(gy++H2).Perm (H2++gy) from Lh) sd (S.acc (F:=[]) rfl ud rfl (by simp[LV.cells]) rfl (by rw[qzk];simp only[Ma,qc];omega) λF9 xU oM=>?_));refine lO 17 (lH rfl rfl (pA (lv:=GU) rfl) ?_);refine lO 18 (lH rfl rfl (pA (lv:=F9) rfl) ?_);refine lD zk ?_;refine wa ?_;exact⟨_,_,_,by omega,⟨i+1,GU,F9,gy,xU,by omega,rfl,by rw[qzH];exact Kx,by rw[qv9];exact oM,rfl,rfl⟩,Kb,⟨[],by simpa using Lh⟩,Gc.trans Me⟩
 have Wg:i=n:=by have h:¬ (i:Int)<((cj.length:Nat):Int):=zf hc;omega
 subst Wg;refine Aa ?_;refine oC rfl (λh=>by cases h) λ_=>?_;refine kb.sub (d:=6) (v:=v1) rfl Ch.sub ?_;refine kb.sub (d:=7) (v:=v2) rfl ud.sub ?_;refine xa ?_;exact qb Me (rC (rT (v:=.list _) rfl ie) (rC (rT (v:=.list _) rfl ie) rN)) rfl
theorem qwG{si:Nat->Nat}{D:Nat->Nat->Nat}{i:Nat}(hs:∀ k,si k<256)(hD:∀ i k,D i k<256)(hi:i<n)(hd:∀ i j,i<n->j<n->j≠i->si i≠si j):((List.range 28).map λk=>UInt8.ofNat (jg si D (si i) n k n))=dB D i:=by unfold dB;refine List.map_congr_left λk _=>?_;rw[qq2 hs hi hd hD]
theorem qn5(si:Nat->Nat)(hs:∀ i,si i<15)(D:Nat->Nat->Nat)(hD:∀ i k,D i k<256)(n:Nat)(h0:0<n)(hn:n<=15)(hd:∀ i j,i<n->j<n->j≠i->si i≠si j):ca (KC B0 w0) 10 [.list (Pv si D n),int .i64 n] [] (Ub (int .i64 0)):=by
 have Wy:∀ i,si i<256:=λi=>by have:=hs i;omega
 have hf:=qla (B0:=B0) (w0:=w0) si Wy D n zo hd;have hA:∀ i,i<n->ca (KC B0 w0) 12 [.list (fB si n),.list (iw D n),b8 (si i)] [] (Ub (str (dB D i))):=λi hi=>by have:=quA (B0:=B0) (w0:=w0) si Wy D hD n (si i) h0 zo (Wy i) hd;rw[qwG Wy hD hi hd] at this;exact this
 have mu:=λi (hi:i<n)=>V' si D hi;have ma:(Pv si D n).length=n:=by unfold Pv;rw[Mb,length_range]
 have yl:=iN si n;have OD:∀ i,(dB D i).length=28:=λi=>by unfold dB;rw[Mb,length_range]
 generalize Pv si D n=cj at mu ma hf ⊢;generalize fB si n=xs at yl hf hA;generalize iw D n=bs at hf hA;generalize dB D=dd at mu hA OD;refine jb Tryz.func10 rfl (n:=85) rfl rfl rfl ?_;refine wa ?_;refine oB 12 rfl (λh=>?_) λ_=>?_;have h:(n:Int)<1:=zt h;omega;refine Ra ?_;refine Oa (λh=>?_) λ_=>?_;have h:(n:Int) > 15:=zt h;omega;refine wa ?_
 refine oL (λq sl H=>∃ i:Nat,i<=n/\q=n-i/\sl=[(0,.list cj),(1,int .i64 n),(5,int .i64 i)]/\H=[])
  ⟨_,_,_,⟨0,zero_le _,rfl,rfl,rfl⟩,Kb,bc _⟩ ?_
 rintro q sl H ⟨i,hi,rfl,rfl,rfl⟩ j1 Me;refine wa ?_;refine Oa (λhc=>?_) λhc=>?_
 have Ka:i<n:=by have h:(i:Int)<((cj.length:Nat):Int):=zt hc;omega
 have hg:=mu i Ka;have EB:=hs i;refine wa ?_;refine qa (xR (es:=cj) (Ud:=Ez (si i) (dd i)) (cs:=[int .i64 (si i:Int),str (dd i)]) rfl rfl zo hg rfl rfl)<|Ra ?_;refine oB 28 rfl (λh=>?_) λ_=>?_;have h:(si i:Int)<0:=zt h;omega;refine qa (xR (es:=cj) (Ud:=Ez (si i) (dd i)) (cs:=[int .i64 (si i:Int),str (dd i)]) rfl rfl zo hg rfl rfl)<|Ra ?_;refine Oa (λh=>?_) λ_=>?_;have h:(si i:Int) > 14:=zt h;omega;refine wa ?_;exact⟨_,_,_,by omega,⟨i+1,by omega,rfl,rfl,rfl⟩,Kb,bc _,Me⟩;refine wa ?_
 refine oL (λq sl H=>∃ i:Nat,i<=n/\q=n-i/\sl=[(0,.list cj),(1,int .i64 n),(6,int .i64 i)]/\H=[])
  ⟨_,_,_,⟨0,zero_le _,rfl,rfl,rfl⟩,Kb,bc _⟩ ?_
 rintro q sl H ⟨i,hi,rfl,rfl,rfl⟩ j2 Gc;refine wa ?_;refine Oa (λhc=>?_) λhc=>?_
 have Ka:i<n:=by have h:(i:Int)<((cj.length:Nat):Int):=zt hc;omega
 have hg:=mu i Ka;have EX:=mu 0 h0;have EA:=OD i;have LB:=OD 0;refine Aa ?_;refine Tq ?_;refine qP (xR (es:=cj) (Ud:=Ez (si i) (dd i)) (cs:=[int .i64 (si i:Int),str (dd i)]) rfl rfl zo hg rfl rfl) rfl ?_;refine Ra ?_;refine qP (xR (es:=cj) (Ud:=Ez (si 0) (dd 0)) (cs:=[int .i64 (si 0:Int),str (dd 0)]) rfl rfl zo EX rfl rfl) rfl ?_;refine Ra ?_;refine Oa (λh=>?_) λ_=>?_;have h1:decide (((dd i).length:Int)=((dd 0).length:Int))=true:=Dg zo;rw[h1] at h;cases h;refine wa ?_;exact⟨_,_,_,by omega,⟨i+1,by omega,rfl,rfl,rfl⟩,Kb,bc _,Gc⟩;refine wa ?_;refine oS (sF [_,_] rfl hf ?_);refine xa ?_;refine Oa (λh=>?_) λ_=>?_;have h:((xs.length:Nat):Int)<(n:Int):=zt h;omega;refine wa ?_
 refine oL (λq sl H=>∃ i:Nat,i<=n/\q=n-i/\sl=[(0,.list cj),(7,.list xs),(8,.list bs),(9,int .i64 i)]/\H=[])
  ⟨_,_,_,⟨0,zero_le _,rfl,rfl,rfl⟩,Kb,bc _⟩ ?_
 rintro q sl H ⟨i,hi,rfl,rfl,rfl⟩ j3 Uo;refine wa ?_;refine Oa (λhc=>?_) λhc=>?_
 have Ka:i<n:=by have h:(i:Int)<((cj.length:Nat):Int):=zt hc;omega
 have hg:=mu i Ka;have hAi:=hA i Ka;have EB:=Wy i;have e8:=nV EB;refine Aa ?_;refine cD (m:=15) rfl []<|aT 0 rfl rfl (Cc (lv:=.list xs) rfl)<|aT 1 rfl rfl (Cc (lv:=.list bs) rfl)<|aT 2 rfl rfl (Cc (lv:=.list cj) rfl)<|aT 3 rfl rfl (Cc rfl)<|aT 4 rfl rfl (xR (es:=cj) (Ud:=Ez (si i) (dd i)) (cs:=[int .i64 (si i:Int),str (dd i)]) rfl rfl zo hg rfl rfl)<|aT 5 rfl rfl (Pure.Cl rfl rfl)<|aT 6 rfl rfl (pO (c:=int .i64 (si i:Int)) rfl rfl)<|aT 7 rfl rfl (Pure.to (Pure.nE rfl) e8)<|aT 9 rfl rfl (Cc (lv:=.list cj) rfl)<|aT 10 rfl rfl (Cc rfl)<|aT 11 rfl rfl (xR (es:=cj) (Ud:=Ez (si i) (dd i)) (cs:=[int .i64 (si i:Int),str (dd i)]) rfl rfl zo hg rfl rfl)<|aT 12 rfl rfl (Pure.Cl rfl rfl)<|aT 13 rfl rfl (pO (c:=str (dd i)) rfl rfl)<|aL ?_ sd;refine lO 8 (lS (H1:=[]) (F:=[]) rfl (.inl rfl) rfl dc sd (sF [_,_,_] rfl hAi ?_));refine lO 14 (lH rfl rfl (Pure.to (Pure.TF rfl rfl) (Re (b:=false) (by rw[Dg rfl];rfl))) ?_);refine lD zk ?_;refine Ad ?_;refine oC rfl (λh=>by cases h) λ_=>?_;refine wa ?_;exact⟨_,_,_,by omega,⟨i+1,by omega,rfl,rfl,rfl⟩,Kb,bc _,Uo⟩;refine wa ?_;exact qb (Uo.trans (Gc.trans Me)) (eb rfl) rfl
theorem qm5(si:Nat->Nat)(hs:∀ i,si i<15)(D:Nat->Nat->Nat)(hD:∀ i k,D i k<256)(n:Nat)(h0:0<n)(hn:n<=15)(hd:∀ i j,i<n->j<n->j≠i->si i≠si j)(x:Nat)(hx:x<=14):ca (KC B0 w0) 7 [.list (Pv si D n),int .i64 n,int .i64 x] [] (Ub (.tuple [str ((List.range 28).map λk=>UInt8.ofNat (jg si D x n k n)),int .i64 0])):=by
 have Wy:∀ i,si i<256:=λi=>by have:=hs i;omega
 have hc:=qn5 (B0:=B0) (w0:=w0) si hs D hD n h0 hn hd;have hf:=qla (B0:=B0) (w0:=w0) si Wy D n zo hd;have ha:=quA (B0:=B0) (w0:=w0) si Wy D hD n x h0 zo zo hd;have e8:=nV (show x<256 by omega);generalize Pv si D n=cj at hc hf ⊢;generalize fB si n=xs at hf ha;generalize iw D n=bs at hf ha;generalize ((List.range 28).map λk=>UInt8.ofNat (jg si D x n k n))=out at ha ⊢;refine jb Tryz.func7 rfl (n:=34) rfl rfl rfl ?_;refine xa ?_;refine Oa (λh=>?_) λ_=>?_;have h:(x:Int) > 14:=zt h;omega;refine wa ?_;refine oS (sF [_,_] rfl hc ?_);refine xa ?_;refine oC rfl (λh=>by cases h) λ_=>?_;refine wa ?_;refine oS (sF [_,_] rfl hf ?_);refine xa ?_;refine oS (sF [_,_,_] (congrArg (λz=>[LV.list xs,LV.list bs,z]) e8) ha ?_);refine Ad ?_;exact qb rfl (rC (Xc rfl) (eb rfl)) rfl
end Go.Proofs.Y.Lb
namespace Go.Proofs.Y.Pp
open Go.GL Go.RowKit Go.ia
open TO (OM)
open Go.Lib (decDigits join)
theorem qxA{p:Pr}{n:Nat}(ae:OH p n){o:il}{t:Wd}(hn:n<=2000000)(h:Uk p.vars (vf p) p.funcs o=.ok t):t.length<=60+60 * n:=by obtain⟨hc,Ge,ht,_⟩:=sQ ae.jA h;have hw:=(EZ (P:=p) (o:=o) hc ae.jA Ge (Xf ae.funcs hn)).1;have hj:=BN (fh p o);have:=ae.funcs;rw[ht];omega
theorem IG{p:Pr}{n:Nat}(ae:OH p n)(hn:n<=3100){o:il}{t:Wd}(h:Uk p.vars (vf p) p.funcs o=.ok t):t.length<=186060/\WE t=(join (Fi (vk t)) [32],0)/\(join (Fi (vk t)) [32]).length<=300000000:=by have h1:=qxA ae zo h;have h2:=qxJ t;refine⟨by omega,?_,by omega⟩;unfold WE;rw[zn zo]
end Go.Proofs.Y.Pp
namespace Go.Proofs.Y.Lb
open Go.GL Go.RowKit Go.ia
open nj (u32)
open XX (dQ qoh TU us)
open As (Iv Lj)
open TO (fy OM Yo BC L4 qlM)
instance:UA Gm 34:=.of zk
structure WA(l:List (List UInt8))(code:Wd):Prop where
 short:l.length<=1000
 ok:∃ src p n x y ub l0,xh l []=(src,0)/\Di src=(p,l0,0)/\OH p n/\n<=2000000/\Lq p=0/\Uk p.vars (vf p) p.funcs Yo=.ok x/\x.length<=1000000/\WE x=(y,0)/\y.length<=300000000/\Th y 10000=.ok (code,ub)
 len:code.length<=40000
attribute [local irreducible] Ea kb ab ca Go.GL.Pure Ie pf ke LQ Rb oi Nj LS
variable{B0:Nat}{w0:World}
theorem XK(hG:Pp.GW B0 w0){l:List (List UInt8)}{code:Wd}(h:WA l code):ca (KC B0 w0) 13 [.list (l.map str)] [] (Ub (.tuple [str code,int .i64 0])):=by obtain⟨hl,⟨src,p,n,x,y,ub,l0,h1,h2,h3,h4,h5,h6,h7,h8,h9,fw⟩,_⟩:=h;have uO:=qo0 (B0:=B0) (w0:=w0) l hl;rw[h1] at uO;have jo:=qnj hG.base src;rw[h2] at jo;have lu:=nj.Bm (B0:=B0) (w0:=w0) h3 h4;rw[h5] at lu;have CO:=qlM hG.base hG.mx h3 h4 Yo (by unfold fy;decide) (by unfold fy;decide) (by unfold fy;decide);rw[h6] at CO;have ld:=Pp.br hG x h7;rw[h8] at ld;have has:=As.fl hG.base hG.mx y 10000 h9;rw[fw] at has;have hd:=L4 (B0:=B0) (w0:=w0);have eD:BC Yo=.agg [int .i64 10000,int .i64 0,int .i64 100000]:=rfl;have eP:Cw p=.agg [.list (p.vars.map str),.list (p.ba.map mK),.list (p.funcs.map Eg)]:=rfl;rw[eD] at hd CO;unfold OZ at jo;unfold OM at CO;unfold Iv at has;simp only at uO jo CO ld has;rw[eP] at jo CO lu;clear h1 h2 h3 h4 h5 h6 h7 h8 h9 fw eP eD;refine jb Tryz.func13 rfl (n:=69) rfl rfl rfl ?_;refine wa ?_;refine oS (sF [_] rfl uO ?_);refine xa ?_;refine oC rfl (λhc=>by cases hc) λ_=>?_;refine wa ?_;refine oS (sF [_] rfl jo ?_);refine Ra ?_;refine oS (Sd λb6=>?_);refine xa ?_;refine oC rfl (λhc=>by cases hc) λ_=>?_;refine xa ?_;refine oS (S.Wr [_] rfl lu (λv H' h=>?_) λch H' h=>?_);rotate_left;obtain⟨_,_,h⟩:=h;cases h;obtain⟨rfl,nm,h⟩:=h;cases h;refine xa ?_;refine oC rfl (λhc=>by cases hc) λ_=>?_;refine Zi ?_;refine oS (sF [] rfl hd<|oS (Sd λT8=>?_));refine xa ?_;refine oS (sF [_,_] rfl CO ?_);refine xa ?_;refine oC rfl (λhc=>by cases hc) λ_=>?_;refine wa ?_;refine oS (sF [_] rfl ld ?_);refine xa ?_;refine oC rfl (λhc=>by cases hc) λ_=>?_;refine wa ?_;refine oS (sF [_,_] rfl has ?_);refine xa ?_;exact qb rfl (rC (Xc rfl) (eb rfl)) rfl
theorem qiS(hG:Pp.GW B0 w0){l:List (List UInt8)}{code:Wd}(h:WA l code){Ia:List Nat}(Og:∀ v∈Ia,v<4294967296){steps:Nat}(h0:0<steps)(h1:steps<=100000000) :
  ca (KC B0 w0) 8 [.list (us Ia),int .i64 (steps:Nat),.list (l.map str)] [] (Ub (dQ (runM steps (Ew code 10000 Ia)))):=by
 have W6:=XK hG h;have Cf:=qoh (B0:=B0) (w0:=w0) (code:=code) (og:=10000) (Ia:=Ia) (steps:=steps) (by have:=h.len;omega) ea Og h0 h1;have hd:=L4 (B0:=B0) (w0:=w0);have eD:BC Yo=.agg [int .i64 10000,int .i64 0,int .i64 100000]:=rfl;rw[eD] at hd;generalize runM steps (Ew code 10000 Ia)=R at Cf ⊢;unfold dQ at Cf ⊢;unfold TU at Cf;refine jb Tryz.func8 rfl (n:=30) rfl rfl rfl ?_;refine Xe ?_;refine oS (Sd λb6=>?_);refine wa ?_;refine oS (sF [_] rfl W6 ?_);refine xa ?_;refine oC rfl (λhc=>by cases hc) λ_=>?_;refine Zi ?_;refine oS (sF [] rfl hd<|oS (Sd λb9=>?_));refine xa ?_;refine Kj ?_;refine Aa ?_;refine oS (sF [_,_,_,_] rfl Cf ?_);refine Ra ?_;exact qb rfl (rC (rA rfl xc rfl ie) rN) rfl
theorem qBp:Di []=(⟨[],[],[]⟩,0,0):=zk
theorem qo2(hG:Pp.GW B0 w0):ca (KC B0 w0) 13 [fc] [] (Ub (.tuple [str [],int .i64 9])):=by
 have uO:=qsg (B0:=B0) (w0:=w0);have jo:=qnj hG.base [];rw[qBp] at jo;have lu:=nj.Bm (B0:=B0) (w0:=w0) (p:=⟨[],[],[]⟩) (n:=0) ⟨Pb _,Pb _,λa ha=>(by cases ha),Pb _,λa ha=>(by cases ha)⟩ ea;have h9:Lq ⟨[],[],[]⟩=9:=by kernel_rfl
 rw[h9] at lu;have eP:Cw ⟨[],[],[]⟩=.agg [.list [],.list [],.list []]:=rfl;unfold OZ at jo;simp only at uO jo;rw[eP] at jo lu;refine jb Tryz.func13 rfl (n:=69) rfl rfl rfl ?_;refine cl ?_;refine oS (sF [_] rfl uO ?_);refine xa ?_;refine oC rfl (λhc=>by cases hc) λ_=>?_;refine wa ?_;refine oS (sF [_] rfl jo ?_);refine Ra ?_;refine oS (Sd λb6=>?_);refine xa ?_;refine oC rfl (λhc=>by cases hc) λ_=>?_;refine xa ?_;refine oS (S.Wr [_] rfl lu (λv H' h=>?_) λch H' h=>?_);rotate_left;obtain⟨_,_,h⟩:=h;cases h;obtain⟨rfl,nm,h⟩:=h;cases h;refine xa ?_;refine oC rfl (λ_=>?_) (λhc=>by cases hc);refine wa ?_;exact qb rfl (rC (Xc rfl) (eb rfl)) rfl
theorem qoC(hG:Pp.GW B0 w0):ca (KC B0 w0) 8 [fc,int .i64 100,fc] [] (Ub (.agg [str [],int .i64 9,int .i64 0])):=by have W6:=qo2 (B0:=B0) (w0:=w0) hG;refine jb Tryz.func8 rfl (n:=30) rfl rfl rfl ?_;refine Xe ?_;refine oS (Sd λb6=>?_);refine Xi ?_;refine oS (sF [_] rfl W6 ?_);refine xa ?_;refine oC rfl (λ_=>?_) (λhc=>by cases hc);refine xa ?_;exact qb rfl (rC (rA rfl xc rfl ie) rN) rfl
open XX (dQ us)
open TO (fy OM Yo)
open Go.ia.Wi.Wc (Ue AM Sg y4)
open Go.ia.Wi.Wc.Ao (vp Ju qva)
open Go.Lib (join)
theorem qvR{P:Pr}{n:Nat}(ae:OH P n)(hn:n<=3100){x:Wd}(hm:Uk P.vars (vf P) P.funcs Yo=.ok x){i0:List Nat}(K7:∀ v∈i0,v<4294967296){f0 l0:Nat}(h0:(Ue P f0 i0 l0).1=0) :
  ∃ y code ub,x.length<=1000000/\WE x=(y,0)/\y.length<=300000000/\Th y 10000=.ok (code,ub)/\code.length<=40000 /\
   ∀ (Ia:List Nat),(∀ v∈Ia,v<4294967296)->∀ Ba Ca,(Ue P Ba Ia Ca).1=0->∃ K,∀ N,Ca+101<=N->runM N (Ew code 10000 Ia)=(0,(Ue P Ba Ia Ca).2.out,K):=by
 obtain⟨o1,o2,o3⟩:=Pp.IG ae hn hm;obtain⟨x1,l1,y1,l1',K1,K1',a1,a2,a3,a4,a5,a6,a7⟩:=y4 (o:=Yo) ae.jA hm K7 f0 l0 (.inl h0);refine⟨_,y1,l1',by omega,o2,o3,a2,by omega,λIa hi Ba Ca he=>?_⟩;obtain⟨x2,l2,y2,l2',K2,K2',b1,b2,b3,b4,b5,b6,b7⟩:=y4 (o:=Yo) ae.jA hm hi Ba Ca (.inl he);rw[a2] at b2;injection b2 with b2;injection b2 with b2 _;subst b2;refine⟨K2',λN hN=>?_⟩;have:=(b7 N zo).2;rw[he] at this;exact this
noncomputable def Qx:List UInt8:=Dz++Sl
abbrev YC:List UInt8:=[99,114,99]
abbrev PQ:List UInt8:=[99,114,99,109,97,105,110]
theorem qAy:xh [YC,PQ] []=(Qx,0):=by rw[xh,qxS,zn ea,xh,qrG,zn ea,xh];rfl
theorem qu0:Di Qx=(Go.ia.Wi.Wc.Ao.P,0,0):=zk
theorem qy0:Lq Go.ia.Wi.Wc.Ao.P=0:=zk
def qA6:Wd:=match Uk Go.ia.Wi.Wc.Ao.P.vars (vf Go.ia.Wi.Wc.Ao.P) Go.ia.Wi.Wc.Ao.P.funcs Yo with
 |.ok t=>t
 |.error _=>[]
theorem quI:Uk Go.ia.Wi.Wc.Ao.P.vars (vf Go.ia.Wi.Wc.Ao.P) Go.ia.Wi.Wc.Ao.P.funcs Yo=.ok qA6:=zk
theorem j':OH Go.ia.Wi.Wc.Ao.P 300:=by refine⟨by decide,by decide,λa ha=>(by cases ha),by decide,λf hf=>?_⟩;have hf:f∈[Go.ia.Wi.Wc.Ao.Rh,Go.ia.Wi.Wc.Ao.Ff]:=hf;rcases Dc.1 hf with rfl|hf;simp[Go.ia.Wi.Wc.Ao.Rh,Go.ia.Wi.Wc.Ao.Pt,Go.ia.Wi.Wc.Ao.my,Go.ia.Wi.Wc.Ao.uE,Go.ia.Wi.Wc.Ao.Np,Go.ia.Wi.Wc.Ao.Qp,Bj,aq,ml,fj,Lt];obtain rfl:=aj hf;simp[Go.ia.Wi.Wc.Ao.Ff,Go.ia.Wi.Wc.Ao.oz,Go.ia.Wi.Wc.Ao.rE,Go.ia.Wi.Wc.Ao.SC,Bj,aq,ml,fj,Lt]
theorem qxn:∃ code,WA [YC,PQ] code/\∀ l:List Nat,(∀ v∈l,v<256)->∀ N,1430 * l.length+351<=N->∃ K,runM N (Ew code 10000 l)=(0,Ju (l.foldl vp 4294967295),K):=by
 have run:∀ (l:List Nat),(∀ v∈l,v<256)->∃ Ba,(Ue Go.ia.Wi.Wc.Ao.P Ba l (1430 * l.length+250)).1=0/\(Ue Go.ia.Wi.Wc.Ao.P Ba l (1430 * l.length+250)).2.out=Ju (l.foldl vp 4294967295):=λl hl=>by obtain⟨Ba,s2,h1,h2⟩:=qva l hl (1430 * l.length+250) (Pb _);refine⟨Ba,?_⟩;unfold Ue;rw[h1];exact⟨rfl,h2⟩
 obtain⟨f0,h0,_⟩:=run [] λv hv=>(not_mem_nil hv).elim;obtain⟨y,code,ub,a1,a2,a3,a4,a5,a6⟩:=qvR j' ea quI (i0:=[]) (λv hv=>(not_mem_nil hv).elim) h0;refine⟨code,⟨by decide,⟨Qx,_,_,_,y,ub,0,qAy,qu0,j',by decide,qy0,quI,a1,a2,a3,a4⟩,a5⟩,λl hl N hN=>?_⟩;obtain⟨Ba,g1,g2⟩:=run l hl;obtain⟨K,hK⟩:=a6 l (λv hv=>by have:=hl v hv;omega) Ba _ g1;exact⟨K,by rw[hK N zo,g2]⟩
theorem qvf:Ju ((Ms [49,50,51,52,53,54,55,56,57]).foldl vp 4294967295)=[3,118,230,231]:=zk
theorem qwC(hG:Pp.GW B0 w0)(s:List UInt8){N:Nat}(hN:1430 * s.length+351<=N)(r8:N<=100000000):∃ K:Nat,ca (KC B0 w0) 8 [.list ((Ms s).map u32),int .i64 (N:Nat),.list [str YC,str PQ]] [] (Ub (.agg [str (Ju ((Ms s).foldl vp 4294967295)),int .i64 0,int .i64 (K:Nat)])):=by obtain⟨code,h1,h2⟩:=qxn;obtain⟨K,hK⟩:=h2 (Ms s) (U0 s) N (by unfold Ms;rw[Mb];exact hN);have:=qiS hG h1 (Ia:=Ms s) (λv hv=>by have:=U0 s v hv;omega) (steps:=N) zo r8;rw[hK] at this;exact⟨K,this⟩
theorem qrz(hG:Pp.GW B0 w0):ca (KC B0 w0) 5 [] [] (Ub (bool true)):=by obtain⟨K,hx⟩:=qwC hG [49,50,51,52,53,54,55,56,57] (N:=100000) ea ea;rw[qvf] at hx;have hb:=qiR (B0:=B0) (w0:=w0) [49,50,51,52,53,54,55,56,57] ea;have hy:=qoC (B0:=B0) (w0:=w0) hG;generalize (Ms [49,50,51,52,53,54,55,56,57]).map u32=ins at hx hb;refine jb Tryz.func5 rfl (n:=20) rfl rfl rfl ?_;refine Ep ?_;refine oS (sF [_] rfl hb<|oS (sL (s:=1) (es:=[str YC,str PQ]) [_,_] rfl (Zv [YC,PQ]) rfl rfl rfl ?_));refine oS (sF [_,_,_] rfl hx<|oS (Sd λb1=>?_));refine xa ?_;refine oS (sF [_,_,_] rfl hy<|oS (Sd λb2=>?_));refine xa ?_;refine oB 10 rfl (λ_=>?_) λh=>absurd rfl (zf h);refine oB 15 rfl (λ_=>?_) λh=>absurd rfl (zf h);refine qa (Pure.zM (a:=[]) (b:=[]) (i:=9) (k:=9) (j:=0) (l:=0) rfl rfl rfl rfl rfl)<|Aa ?_;exact qb rfl (eb rfl) rfl
