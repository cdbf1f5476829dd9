/- Texts joined: ChkW1, ChkW2, InpX1, InpX2, ChkSize, ChkW3, GlMax, ChkW4, ChkW5, ChkW6. -/
import Derived.Deep.WholeRow
import Derived.Test.YtdakelgkjdaijaaGreatDoorBRowTS2
import Derived.Test.YtdakelgkjdaijaaGreatDoorBRowTS3
import Derived.Test.YtdakelgkjdaijaaGreatDoorBRowTS5
import Derived.Test.YtdakelgkjdaijaaGreatDoorBRowTS8
import Derived.Test.YtdakelgkjdaijaaGreatDoorBRowTS9
set_option linter.unusedVariables false
set_option linter.unusedSimpArgs false
set_option maxRecDepth 100000
set_option maxHeartbeats 4000000
namespace Go.Proofs.YtdakelgkjdaijaaGreatDoor.Chk
open Go.GL Go.RowKit Go.Stele
def qoz (es:List LV) (r:LRes) (H:Heap):Prop:=∃ v,r=.ret v/\GL.Acc 1 v es H []
theorem get_mid {A B:Type} (g:A->B) (pre:List A) (a:A) (l:List A):((pre++a::l).map g)[((pre.length:Nat):Int).toNat]? = some (g a):=by
 rw[Int.toNat_natCast,List.getElem?_map,List.getElem?_append_right (zNr _),Nat.sub_self];rfl
theorem qaF {H F:Heap}:HSub H (H++F):=⟨F,List.Perm.refl _⟩
theorem qnP (l:List (List UInt8)):∀ v∈l.map str,v.cells.length=1:=fun v hv=>by
 obtain ⟨a,_,rfl⟩:=List.mem_map.1 hv;rfl
theorem qut (l:List (List UInt8)):((l.map str).flatMap LV.cells).all qc0=true:=by
 induction l with
 |nil=>rfl
 |cons a l ih=>
  simp only[zMc,List.flatMap_cons,List.all_append,ih,Bool.and_true];rfl
section
variable {C:Ctx} {n:Nat} {e:Env} {H H':Heap} {rs:List ResultVar} {vs:List LV} {es:List LV} {v:LV}
theorem qmW (hd:e.ds=[]) (h:qbA C n e H rs [v]) (hv:GL.Acc 1 v es H' []) (hH:HSub H' H):qac C n rs (qoz es) .ret e H:=rR hd h hH ⟨v,rfl,hv⟩
end
attribute [local irreducible] LOps qae qad LCalls Go.GL.Pure qax qaj qac LQ LAny qaE qal LS
section
variable {B0:Nat} {w0:World}
theorem qpE (l:List (List UInt8)) (hl:l.length<=2000000):LCalls (KC B0 w0) 83 [.list (l.map str)] [] (qoz (l.map str)):=by
 refine cI Tryz.func83 rfl (n:=8) rfl rfl rfl ?_;refine gaa ?_;refine oS (S.sliceNil (es:=l.map str) rfl fun b hb=>?_) rfl;refine gaf ?_;refine oC rfl (fun hc=>?_) (fun hc=>?_)
 ·have h0:=hb hc;refine gar ?_;exact qmW rfl (rC (rT (v:=qab) rfl zsr) rN) (by rw[h0];exact Acc.nil) zhr
 ·refine gam ?_;refine oS (S.litA [] rfl eN rfl rfl rfl fun b4=>?_) rfl;refine gab ?_;refine oS (S.acc (es:=[]) (F:=[]) rfl Acc.row rfl (qnP l) (qut l) (by simp;omega) fun v' H' hacc=>?_) rfl;refine zQ30 ?_;refine gaf ?_;exact qmW rfl (rC (rT (v:=v') rfl zsr) rN) hacc zhr
theorem qsb (k:Nat) (hk:k<=1000000000):LCalls (KC B0 w0) 162 [qab,int .i64 k] [] (qoz []):=by
 refine cI Tryz.func162 rfl (n:=27) rfl rfl rfl ?_;refine gaa ?_;refine oC rfl (fun hc=>?_) (fun _=>?_)
 ·have:=zt hc;omega
 refine gaa ?_;refine oP (Pure.rowCap rfl) rfl ?_;refine oP (pM (lv:=qab) rfl) rfl ?_;refine oP (Pure.rowLen rfl) rfl ?_;refine gac ?_;refine oC rfl (fun hc=>?_) (fun hc=>?_)
 ·have h0:0<k:=by
   have:=zt hc;simp at this;omega
  refine gag ?_;refine oP (Pure.rowCap rfl) rfl ?_;refine oP (Pure.rowSlice (n:=0) rfl rfl (zNr _)) rfl ?_;refine gab ?_;refine oS (S.appZeros (n:=k) rfl (qak (by simp)) h0 zo fun b cap hcap=>?_) rfl;refine gab ?_;refine oP (Pure.rowSlice (n:=0) rfl rfl zo) rfl ?_;refine LOps.rowOpen 25 1 pH rfl (by simp) ?_;refine oP (pA (lv:=.app b cap 1 []) rfl) rfl ?_;refine gac ?_;exact qmW rfl (rC (rT (v:=.app b cap 1 []) rfl zsr) rN) Acc.row zhr
 ·refine gaa ?_;exact qmW rfl (rC (rT (v:=qab) rfl zsr) rN) Acc.nil zhr
def qd7 (l:List (List UInt8)):LV:=.list (l.map str)
theorem quk (L:List (List (List UInt8))) (M:Nat) (h:∀ l∈L,l.length<=M):L.flatten.length<=L.length * M:=by
 induction L with
 |nil=>simp
 |cons a L ih=>
  rw[List.flatten_cons,zLa,zLc,Nat.add_mul];have h1:=h a zMs;have h2:=ih fun l hl=>h l (zMo _ hl);omega
theorem qjD (L:List (List (List UInt8))) (hL:L.length<=4) (hl:∀ l∈L,l.length<=2000000):LCalls (KC B0 w0) 84 [.list (L.map qd7)] [] (qoz (L.flatten.map str)):=by
 have hsum:=quk L 2000000 hl;refine cI Tryz.func84 rfl (n:=36) rfl rfl rfl ?_;refine gaa ?_
 refine oL (fun k ls H'=>∃ pre l1,L=pre++l1/\k=l1.length/\ls=[(0,.list (L.map qd7)),(3,int .i64 (pre.flatten.length:Int)),(9,.list (L.map qd7)),(10,int .i64 ((L.map qd7).length:Int)),(11,int .i64 (pre.length:Int))]/\H'=[])
  ⟨L.length,_,_,⟨[],L,rfl,rfl,rfl,rfl⟩,⟨rfl,rfl,rfl,rfl,rfl,trivial⟩,zhR _⟩ ?_
 rintro k ls H' ⟨pre,l1,hLe,rfl,rfl,rfl⟩ j hj
 have hb1:pre.flatten.length<=8000000:=by
  have h1:=hsum;rw[hLe,List.flatten_append,zLa] at h1;rw[hLe] at hL;omega
 have hb2:pre.length<=4:=by
  rw[hLe,zLa] at hL;omega
 refine gaj ?_;refine oC rfl (fun hc=>?_) (fun hc=>?_)
 ·have hlen:=zt hc;rw[zLm,hLe,zLa] at hlen
  obtain ⟨a,l2,rfl⟩:∃ a l2,l1=a::l2:=by
   cases l1 with
   |nil=>simp at hlen
   |cons a l2=>exact ⟨a,l2,rfl⟩
  have ha:(a.map str).length<=2000000:=by
   rw[zLm];exact hl a (by rw[hLe];exact List.mem_append_right _ zMs)
  refine gam ?_;refine oP (xR (el':=qd7 a) (cs:=[qd7 a]) rfl rfl zo (by rw[hLe];exact get_mid qd7 pre a l2) rfl rfl) rfl ?_;refine gac ?_;refine oC rfl (fun hd=>?_) (fun _=>?_)
  ·have:=zt hd;omega
  ·refine gaa ?_;exact ⟨l2.length,_,_,Nat.lt_succ_self _,⟨pre++[a],l2,by rw[hLe];simp,rfl,rfl,rfl⟩,⟨rfl,qak (by simp),rfl,rfl,qak (by simp),trivial⟩,zhR _,hj⟩
 ·have hlen:=zf hc;rw[zLm,hLe,zLa] at hlen
  obtain rfl:l1=[]:=by
   cases l1 with
   |nil=>rfl
   |cons a l2=>simp at hlen;omega
  rw[zLz] at hLe;subst hLe;refine gaa ?_;have hfl:L.flatten.length<=8000000:=by omega
  refine oS (S.callH (H1:=[]) (F:=[]) [_,_] rfl zpr (qsb L.flatten.length zo) ?_ (by rintro ch H' ⟨v,h,_⟩;cases h)) rfl;rintro v Ha ⟨_,h,hacc⟩;cases h;rw[zLz];refine oP (pA (lv:=v) rfl) rfl ?_;refine gaa ?_
  refine oL (fun k ls H'=>∃ pre l1 v1 Ha1,L=pre++l1/\k=l1.length/\ls=[(6,v1),(25,.list (L.map qd7)),(26,int .i64 ((L.map qd7).length:Int)),(27,int .i64 (pre.length:Int))]/\H'=Ha1/\GL.Acc 1 v1 (pre.flatten.map str) Ha1 [])
   ⟨L.length,_,_,⟨[],L,v,Ha,rfl,rfl,rfl,rfl,hacc⟩,⟨rfl,rfl,rfl,rfl,trivial⟩,zhR _⟩ ?_
  rintro k ls H' ⟨pre,l1,v1,Ha1,hLe,rfl,rfl,rfl,hacc1⟩ j2 hj2
  have hb1:pre.flatten.length<=8000000:=by
   have h1:=hsum;rw[hLe,List.flatten_append,zLa] at h1;rw[hLe] at hL;omega
  have hb2:pre.length<=4:=by
   rw[hLe,zLa] at hL;omega
  refine gaj ?_;refine oC rfl (fun hc=>?_) (fun hc=>?_)
  ·have hlen:=zt hc;rw[zLm,hLe,zLa] at hlen
   obtain ⟨a,l2,rfl⟩:∃ a l2,l1=a::l2:=by
    cases l1 with
    |nil=>simp at hlen
    |cons a l2=>exact ⟨a,l2,rfl⟩
   have ha:a.length<=2000000:=hl a (by rw[hLe];exact List.mem_append_right _ zMs);refine gam ?_;refine oP (xR (el':=qd7 a) (cs:=[qd7 a]) rfl rfl zo (by rw[hLe];exact get_mid qd7 pre a l2) rfl rfl) rfl ?_;refine gac ?_;refine oP (pM (lv:=v1) rfl) rfl ?_;refine gab ?_;refine oS (S.acc rfl hacc1 rfl (qnP a) (qut a) (by rw[zLm,zLm];omega) fun v' H' hacc=>?_) rfl;refine zQ30 ?_;refine gan ?_
   exact ⟨l2.length,_,_,Nat.lt_succ_self _,⟨pre++[a],l2,v',H',by rw[hLe];simp,rfl,rfl,rfl,by
    have e:((pre++[a]).flatten.map str)=pre.flatten.map str++a.map str:=by simp
    rw[e]
    exact hacc⟩,⟨rfl,rfl,rfl,qak (by simp),trivial⟩,zhR _,hj2⟩
  ·have hlen:=zf hc;rw[zLm,hLe,zLa] at hlen
   obtain rfl:l1=[]:=by
    cases l1 with
    |nil=>rfl
    |cons a l2=>simp at hlen;omega
   rw[zLz] at hLe;rw[<-hLe] at hacc1;refine gaa ?_;refine oP (pM (lv:=v1) rfl) rfl ?_;refine oP (pA (lv:=v1) rfl) rfl ?_;refine gaf ?_;exact qmW (hj2.trans hj) (rC (rT (v:=v1) rfl zsr) rN) hacc1 zhr
end
end Go.Proofs.YtdakelgkjdaijaaGreatDoor.Chk
namespace Go.Proofs.YtdakelgkjdaijaaGreatDoor.Chk
open Go.GL Go.RowKit Go.Stele
def ownS (f:FnD):List (List UInt8):=(f.params++f.locals).map fun x=>f.name++[46]++x
attribute [local irreducible] LOps qae qad LCalls Go.GL.Pure qax qaj qac LQ LAny qaE qal LS
section
variable {B0:Nat} {w0:World}
theorem scalars_specG {vars:List Nm} {fs:List FnD} (AL:LV) (hv6:vars.length<=2000000) (hf6:fs.length<=2000000) (hsm:∀ f∈fs,SmF f) (hn:∀ f∈fs,f.name.length<=1000/\∀ x∈f.params++f.locals,x.length<=1000):LCalls (KC B0 w0) 46 [.agg [.list (vars.map str),AL,.list (fs.map qaQ)]] [] (Ret (.list ((qan vars fs).map str))):=by
 have hown:∀ f∈fs,(ownS f).length<=4000000:=fun f hf=>by
  have h1:f.params.length<=2000000:=(hsm f hf).params;have h2:f.locals.length<=2000000:=(hsm f hf).locals;unfold ownS;rw[zLm,zLa];omega
 have hsum:∀ l:List FnD,(∀ f∈l,f∈fs)->((l.map ownS).flatten).length<=l.length * 4000000:=fun l hl=>by
  have:=quk (l.map ownS) 4000000 (fun x hx=>by
   obtain ⟨f,hf,rfl⟩:=List.mem_map.1 hx
   exact hown f (hl f hf))
  rwa [zLm] at this
 refine cI Tryz.func46 rfl (n:=40) rfl rfl rfl ?_;refine gah ?_;refine oS (sB rfl fun b1=>?_) rfl;refine gaa ?_;refine oS (S.callH (H1:=[]) (F:=[_]) [_] rfl zpr (qpE vars hv6) ?_ (by rintro ch H' ⟨v,h,_⟩;cases h)) rfl;rintro v Ha ⟨_,h,hacc⟩;cases h;refine LOps.perm (zPc (l₂:=[_])) ?_;refine oP (pA (lv:=v) rfl) rfl ?_;refine gaa ?_
 refine oL (fun k ls H'=>∃ pre l1 v1 Ha1,fs=pre++l1/\k=l1.length/\ls=[(3,v1),(12,.list (fs.map qaQ)),(13,int .i64 ((fs.map qaQ).length:Int)),(14,int .i64 (pre.length:Int))]/\H'=Ha1/\GL.Acc 1 v1 ((vars++(pre.map ownS).flatten).map str) Ha1 [])
  ⟨fs.length,_,_,⟨[],fs,v,Ha,rfl,rfl,rfl,rfl,by simpa using hacc⟩,⟨rfl,rfl,rfl,rfl,trivial⟩,zhD zhr⟩ ?_
 rintro k ls Ha1 ⟨pre,l1,v1,_,hLe,rfl,rfl,rfl,hacc1⟩ j hj
 have hb2:pre.length<=2000000:=by
  rw[hLe,zLa] at hf6;omega
 have hb1:((pre.map ownS).flatten).length<=8000000000000:=by
  have:=hsum pre (fun f hf=>by rw[hLe];exact List.mem_append_left _ hf);omega
 refine gaj ?_;refine oC rfl (fun hc=>?_) (fun hc=>?_)
 ·have hlen:=zt hc;rw[zLm,hLe,zLa] at hlen
  obtain ⟨f,l2,rfl⟩:∃ a l2,l1=a::l2:=by
   cases l1 with
   |nil=>simp at hlen
   |cons a l2=>exact ⟨a,l2,rfl⟩
  have hfm:f∈fs:=by rw[hLe];exact List.mem_append_right _ zMs
  obtain ⟨hn1,hn2⟩:=hn f hfm;have hp6:f.params.length<=2000000:=(hsm f hfm).params;have hl6:f.locals.length<=2000000:=(hsm f hfm).locals;refine gam ?_;refine oP (xR (el':=qaQ f) (cs:=[_,_,_,_]) rfl rfl zo (by rw[hLe];exact get_mid qaQ pre f l2) rfl rfl) rfl ?_;refine gad ?_;refine oS (sA fun b5=>?_) rfl;refine gac ?_;refine oS (sL (es:=[qd7 f.params,qd7 f.locals]) [_,_] rfl (eC rfl rfl (eC rfl rfl eN)) rfl rfl rfl ?_) rfl
  refine oS (S.callH (H1:=[]) (F:=(b5,.cells 79 [str f.name,qd7 f.params,qd7 f.locals,.list (f.body.map encS)])::Ha1) [_] rfl zpr (qjD [f.params,f.locals] (by simp) (by
   intro l hl;rcases zMi.1 hl with rfl|hl
   ·exact hp6
   ·rw[List.mem_singleton.1 hl]
    exact hl6)) ?_ (by rintro ch H' ⟨v,h,_⟩;cases h)) rfl
  rintro v2 Ha2 ⟨_,h,hacc2⟩;cases h;have hfl:[f.params,f.locals].flatten=f.params++f.locals:=by simp
  rw[hfl] at hacc2;refine LOps.sub 23 rfl hacc2.sub ?_;refine LOps.weak (H':=(b5,.cells 79 [str f.name,qd7 f.params,qd7 f.locals,.list (f.body.map encS)])::Ha1) ⟨Ha2,zPc⟩ ?_;refine gab ?_
  refine oL (fun k ls H'=>∃ pre2 l3 v3 Ha3,f.params++f.locals=pre2++l3/\k=l3.length/\ls=[(3,v3),(5,ptr b5 0),(12,.list (fs.map qaQ)),(13,int .i64 ((fs.map qaQ).length:Int)),(14,int .i64 (pre.length:Int)),(23,.list ((f.params++f.locals).map str)),(24,int .i64 (((f.params++f.locals).map str).length:Int)),(25,int .i64 (pre2.length:Int))] /\
    H'=(b5,.cells 79 [str f.name,qd7 f.params,qd7 f.locals,.list (f.body.map encS)])::Ha3/\GL.Acc 1 v3 ((vars++(pre.map ownS).flatten++pre2.map fun x=>f.name++[46]++x).map str) Ha3 [])
   ⟨(f.params++f.locals).length,_,_,⟨[],f.params++f.locals,v1,Ha1,rfl,rfl,rfl,rfl,by simpa using hacc1⟩,⟨rfl,rfl,rfl,rfl,rfl,rfl,rfl,rfl,trivial⟩,zhR _⟩ ?_
  rintro k ls H' ⟨pre2,l3,v3,Ha3,hLe2,rfl,rfl,rfl,hacc3⟩ j2 hj2
  have hb3:pre2.length<=4000000:=by
   have:(f.params++f.locals).length<=4000000:=by rw[zLa];omega
   rw[hLe2,zLa] at this;omega
  refine gaj ?_;refine oC rfl (fun hd=>?_) (fun hd=>?_)
  ·have hlen2:=zt hd;rw[zLm,hLe2,zLa] at hlen2
   obtain ⟨x,l4,rfl⟩:∃ a l2,l3=a::l2:=by
    cases l3 with
    |nil=>simp at hlen2
    |cons a l2=>exact ⟨a,l2,rfl⟩
   have hx:x.length<=1000:=hn2 x (by rw[hLe2];exact List.mem_append_right _ zMs);refine gam ?_;refine oP (xR (el':=str x) (cs:=[str x]) rfl rfl zo (by rw[hLe2];exact get_mid str pre2 x l4) rfl rfl) rfl ?_;refine gat ?_;refine oP (pM (lv:=v3) rfl) rfl ?_;refine gad ?_;refine oS (sL (es:=[str (f.name++[46]++x)]) [_] rfl (eC rfl rfl eN) rfl rfl rfl ?_) rfl;refine oS (S.acc1 rfl hacc3 rfl (qnP [f.name++[46]++x]) rfl (by rw[zLm,zLa,zLa,zLm,zLc,zLn];omega) fun v' H' hacc'=>?_) rfl;refine zQ30 ?_;refine gan ?_
   exact ⟨l4.length,_,_,Nat.lt_succ_self _,⟨pre2++[x],l4,v',H',by rw[hLe2];simp,rfl,rfl,rfl,by
    have e:((vars++(pre.map ownS).flatten++(pre2++[x]).map fun x=>f.name++[46]++x).map str)=((vars++(pre.map ownS).flatten++pre2.map fun x=>f.name++[46]++x).map str)++[str (f.name++[46]++x)]:=by simp
    rw[e]
    exact hacc'⟩,⟨rfl,rfl,rfl,rfl,rfl,rfl,rfl,qak (by simp),trivial⟩,zhR _,hj2⟩
  ·have hlen2:=zf hd;rw[zLm,hLe2,zLa] at hlen2
   obtain rfl:l3=[]:=by
    cases l3 with
    |nil=>rfl
    |cons a l2=>simp at hlen2;omega
   rw[zLz] at hLe2;refine gaa ?_
   exact ⟨l2.length,_,_,Nat.lt_succ_self _,⟨pre++[f],l2,v3,Ha3,by rw[hLe];simp,rfl,rfl,rfl,by
    have e:((vars++((pre++[f]).map ownS).flatten).map str)=(vars++(pre.map ownS).flatten++pre2.map fun x=>f.name++[46]++x).map str:=by
     rw[<-hLe2];simp[ownS]
    rw[e]
    exact hacc3⟩,⟨rfl,rfl,rfl,qak (by simp),trivial⟩,zhD zhr,hj2.trans hj⟩
 ·have hlen:=zf hc;rw[zLm,hLe,zLa] at hlen
  obtain rfl:l1=[]:=by
   cases l1 with
   |nil=>rfl
   |cons a l2=>simp at hlen;omega
  rw[zLz] at hLe;rw[<-hLe] at hacc1;refine gaa ?_;refine oP (pM (lv:=v1) rfl) rfl ?_;refine oP (pA (lv:=v1) rfl) rfl ?_;refine gaf ?_;exact rR hj (rC (rT (v:=v1) rfl hacc1.sub) rN) zhn ⟨rfl,rfl⟩
theorem scalars_spec {p:Pr} (hsm:SmP p) (hn:∀ f∈p.funcs,f.name.length<=1000/\∀ x∈f.params++f.locals,x.length<=1000):LCalls (KC B0 w0) 46 [qeL p] [] (Ret (.list ((qan p.vars p.funcs).map str))):=
 scalars_specG _ hsm.vars hsm.funcs hsm.each hn
end
end Go.Proofs.YtdakelgkjdaijaaGreatDoor.Chk
namespace Go.Proofs.YtdakelgkjdaijaaGreatDoor.Inp
open Go.GL Go.RowKit Go.Stele
section
variable {C:Ctx} {e:Env} {H:Heap} {dst:Option Nat} {ty:TypeId} {pos:String} {aft:Array Edge} {g:Option (Nat×Bool)} {x:Operand}
theorem Pure.bytesStr0 {s d el:TypeId} [hs:TSlice C.P s el 1] [he:TKind C.P el .u8] [hd:TStr C.P d] (hx:elems (e.ev x)=some []):Pure C ⟨dst,.convert s d x,ty,pos,aft,g⟩ e H (str []):=fun ρ w L h _=>by
 obtain ⟨a,cap,hv,hcap,hr⟩:=(h x).elems hx;refine ⟨_,qah,fun w' ha=>?_⟩;have h0:execOp ρ ⟨dst,.convert s d x,ty,pos,aft,g⟩=(do Pure.pure (.value (<-convert s d (ρ x)))):=rfl
 cases a with
 |none=>
  have:=run_convert_bytes_string (P:=C.P) w' s d el none 0 cap hs.und he.und hd.und;rw[h0,hv,Sem.run_bind];show ((convert s d (.slice none 0 cap)).run C.P w').andThen _=_;rw[this];simp[Conv.bytesToString]
  rfl
 |some a=>
  have:=run_convert_bytes_back (P:=C.P) w' s d el a cap [] hs.und he.und hd.und (fun j hj=>by simp at hj);rw[h0,hv,Sem.run_bind];show ((convert s d (.slice (some a) ([]:List UInt8).length cap)).run C.P w').andThen _=_;rw[this];rfl
end
attribute [local irreducible] LOps qae qad LCalls Go.GL.Pure qax qaj qac LQ LAny qaE qal LS
section
variable {B0:Nat} {w0:World}
theorem qj0:LCalls (KC B0 w0) 66 [] [] (fun r H=>∃ om db oc,r=.ret (.atom (.map (some om)))/\H=[(om,.map (kvs (qj4 db)) oc),divH db]):=by
 refine cI Tryz.func66 rfl (n:=6) rfl rfl rfl ?_;refine gai ?_;refine oS (sA fun db=>?_) rfl;refine gac ?_;refine oS (S.kvNew fun om=>?_) rfl;refine oS (S.kvIns (k:=[43]) rfl rfl rfl pH fun c0=>?_) rfl;refine oS (S.kvIns (k:=[45]) rfl rfl rfl pH fun c1=>?_) rfl;refine oS (S.kvIns (k:=[42]) rfl rfl rfl pH fun c2=>?_) rfl;refine oP (Pure.makeFunc rfl rfl) rfl ?_;refine oS (S.kvIns (k:=[47]) rfl rfl rfl pH fun c3=>?_) rfl;refine oP (Pure.makeFunc rfl rfl) rfl ?_;refine oS (S.kvIns (k:=[37]) rfl rfl rfl pH fun c4=>?_) rfl;refine oS (S.kvIns (k:=[94]) rfl rfl rfl pH fun c5=>?_) rfl;refine oS (S.kvIns (k:=[61,61]) rfl rfl rfl pH fun c6=>?_) rfl;refine oS (S.kvIns (k:=[33,61]) rfl rfl rfl pH fun c7=>?_) rfl;refine oS (S.kvIns (k:=[60]) rfl rfl rfl pH fun c8=>?_) rfl;refine oS (S.kvIns (k:=[62]) rfl rfl rfl pH fun c9=>?_) rfl;refine oS (S.kvIns (k:=[60,61]) rfl rfl rfl pH fun c10=>?_) rfl;refine oS (S.kvIns (k:=[62,61]) rfl rfl rfl pH fun c11=>?_) rfl;refine oS (S.kvIns (k:=[38,38]) rfl rfl rfl pH fun c12=>?_) rfl;refine oS (S.kvIns (k:=[124,124]) rfl rfl rfl pH fun c13=>?_) rfl;refine gab ?_;exact rR rfl (zra rfl) zhr ⟨om,db,c13,rfl,rfl⟩
end
end Go.Proofs.YtdakelgkjdaijaaGreatDoor.Inp
namespace Go.Proofs.YtdakelgkjdaijaaGreatDoor.Inp
open Go.GL Go.RowKit Go.Stele
def encO (o:OutI):LV:=.agg [str o.out,int .i64 o.err,int .i64 (o.steps:Int)]
def runQ (p:Pr) (inp:List Nat) (steps:Int):OutI:=if qbI p=0 then ql8 p inp steps else ⟨[],1,0⟩
@[reducible] def qiG (b:Nat) (p:Pr):Nat×LObj:=(b,.cells 28 [.list (p.vars.map str),.list (p.arrays.map qd8),.list (p.funcs.map qaQ)])
@[reducible] def outH (b:Nat):Nat×LObj:=(b,.cells 39 [str [],int .i64 0,int .i64 0])
@[reducible] def runH (rb om sm am fm:Nat) (p:Pr) (inp:List Nat) (steps:Int):Nat×LObj:=(rb,.cells 150 [.list (p.vars.map str),.list (p.arrays.map qd8),.list (p.funcs.map qaQ),.atom (.map (some om)),.list (inp.map u32),qab,int .i64 0,int .i64 steps,.atom (.map (some sm)),.atom (.map (some am)),.atom (.map (some fm))])
structure NewRun where
 rb:Nat
 om:Nat
 db:Nat
 oc:Nat
 sm:Nat
 am:Nat
 fm:Nat
def qw2 (a:NewRun) (b3 b6:Nat) (p:Pr) (inp:List Nat) (steps:Int):Heap:=[runH a.rb a.om a.sm a.am a.fm p inp steps,qiG b3 p,(a.sm,.map (kvs []) 0),(a.am,.map (kvs []) 0),(a.fm,.map (kvs []) 0),(a.om,.map (kvs (qj4 a.db)) a.oc),divH a.db,outH b6]
theorem qub {s b r q:Nat×LObj} {X S:Heap}:List.Perm (s::b::r::q::(X++S)) (r::q::s::(X++(S++[b]))):=by
 refine ((zPc (l₁:=[s,b]) (l₂:=[r,q])).append_right (X++S)).trans (List.Perm.cons _ (List.Perm.cons _ (List.Perm.cons _ ?_)));rw[<-zAs];exact swap1
theorem qry {t b r q s:Nat×LObj} {X S:Heap}:List.Perm (t::b::r::q::s::(X++S)) (r::q::s::t::(X++(S++[b]))):=by
 refine ((zPc (l₁:=[t,b]) (l₂:=[r,q,s])).append_right (X++S)).trans (List.Perm.cons _ (List.Perm.cons _ (List.Perm.cons _ (List.Perm.cons _ ?_))));rw[<-zAs];exact swap1
theorem qq6 {t b d r q s:Nat×LObj} {X S:Heap}:List.Perm (t::b::d::r::q::s::(X++S)) ((r::q::s::t::(X++(S++[b])))++[d]):=
 (List.Perm.cons t (List.Perm.cons b (swap1 (x:=d) (H:=r::q::s::(X++S))))).trans (qry.append_right [d])
theorem qrr {r q s a f o d u:Nat×LObj} {S A:Heap}:List.Perm (r::q::s::a::f::(([o,d,u]++S)++A)) (([r,s,a,f,o,d]++(S++A))++[q,u]):=by
 refine List.Perm.cons r ?_
 have h1:List.Perm (q::s::a::f::o::d::u::(S++A)) (q::u::s::a::f::o::d::(S++A)):=
  List.Perm.cons q ((zPc (l₁:=[s,a,f,o,d]) (l₂:=[u])).append_right (S++A))
 exact h1.trans qd0
def scH0 (sb:List (List UInt8×Nat)):Heap:=sb.map fun q=>(q.2,LObj.cells 56 [u32 0])
def arH0 (ab:List (List UInt8×Nat×Nat)):Heap:=ab.map fun q=>(q.2.1,LObj.cells 56 (List.replicate q.2.2 (u32 0)))
theorem qqD {p:Pr} (hnd:(p.arrays.map (·.name)).Nodup) {ab:List (List UInt8×Nat×Nat)} (hab:ab.map (fun q=>(q.1,q.2.2))=p.arrays.map (fun a=>(a.name,a.size))) (inp:List Nat) (lim:Nat):arH ab (qdf p inp lim)=arH0 ab/\∀ q∈ab,((qdf p inp lim).ar q.1).length=q.2.2:=by
 have key:∀ q∈ab,(qdf p inp lim).ar q.1=List.replicate q.2.2 0:=fun q hq=>by
  have h1:(q.1,q.2.2)∈p.arrays.map (fun a=>(a.name,a.size)):=by rw[<-hab];exact List.mem_map.2 ⟨q,hq,rfl⟩
  obtain ⟨a,ha,he⟩:=List.mem_map.1 h1;injection he with e1 e2
  show (match p.arrays.find? fun a=>decide (a.name=q.1) with
   |some a=>List.replicate a.size 0
   |none=>[])=_
  cases hf:p.arrays.find? fun a=>decide (a.name=q.1) with
  |none=>
   have:=List.find?_eq_none.1 hf a ha
   simp[e1] at this
  |some a2=>
   have h2:a2.name=q.1:=by simpa using List.find?_some hf
   have h3:a2=a:=by
    have hm2:=List.mem_of_find?_eq_some hf;clear hf h1 hab
    have:∀ (L:List Ar),(L.map (·.name)).Nodup->∀ {x y:Ar},x∈L->y∈L->x.name=y.name->x=y:=fun L=>by
     induction L with
     |nil=>intro _ x y hx;cases hx
     |cons z L ih=>
      intro hn x y hx hy he;rw[zMc,List.nodup_cons] at hn;rcases zMi.1 hx with hx1|hx1
      ·rcases zMi.1 hy with hy1|hy1
       ·rw[hx1,hy1]
       ·exact absurd (by rw[<-hx1,he];exact List.mem_map_of_mem (f:=Ar.name) hy1) hn.1
      ·rcases zMi.1 hy with hy1|hy1
       ·exact absurd (by rw[<-hy1,<-he];exact List.mem_map_of_mem (f:=Ar.name) hx1) hn.1
       ·exact ih hn.2 hx1 hy1 he
    exact this p.arrays hnd hm2 ha (h2.trans e1.symm)
   simp only[h3,e2]
 refine ⟨List.map_congr_left fun q hq=>?_,fun q hq=>by rw[key q hq,List.length_replicate]⟩;rw[key q hq,List.map_replicate]
theorem qvn {A:Type} (lim:Nat) (r:IR A):endI lim r=⟨r.st.out,qvC r,lim-r.st.left⟩:=by cases r <;> rfl
theorem lz {C:Ctx} {n:Nat} {ops:Array Oper} {Q:Post} {HF H:Heap} {fuel:Nat} {listed:Array Bool} {e:Env} {i:Nat} {dst:Option Nat} {op:Op} {ty:TypeId} {pos:String} {aft:Array Edge} (hi:ops[i]? = some ⟨dst,op,ty,pos,aft,none⟩) (hd:qcK n dst)
  (h:qad C ⟨dst,op,ty,pos,aft,none⟩ e [] (fun lv H'=>qaE C n ops Q HF fuel (listed.setIfInBounds i true) (e.put dst lv) (H'++H)) (fun ch H'=>∀ e',e'.ds=e.ds->Q (.panic ch) e' (H'++H)))
  (hHF:HSub HF H:=by first|exact zhP pH zhn|exact zhP zp1 zhn|exact zhP zp2 zhn|exact zhP zp3 zhn|exact zhP zp4 zhn|exact zhP zp5 zhn|exact zhP zp6 zhn|exact zhP zp7 zhn|exact zhP zp8 zhn):qal C n ops Q HF fuel listed e H i:=lS hi (.inl rfl) hd zpr hHF h
theorem hz {X H:Heap} (h:HSub X H:=by
 repeat first
  |exact HSub.nil _
  |refine zhP (by first|exact pH|exact pT pH|exact pT zp1|exact pT zp2|exact pT zp3|exact pT zp4|exact pT zp5|exact pT zp6|exact pT zp7) ?_):HSub X H:=h
attribute [local irreducible] LOps qae qad LCalls Go.GL.Pure qax qaj qac LQ LAny qaE qal LS
section
variable {B0:Nat} {w0:World}
theorem qec {p:Pr} (hsm:SmP p) (hnum:∀ f∈p.funcs,qb7 f.body) (hchk:LCalls (KC B0 w0) 28 [qeL p] [] (fun r H=>H=[]/\∃ nm,r=.ret (.tuple [str nm,int .i64 (qbI p)]))) {inp:List Nat} (hin:∀ v∈inp,Lt v) (steps:Int) :
  LCalls (KC B0 w0) 29 [qeL p,.list (inp.map u32),int .i64 steps] [] (Ret (encO (runQ p inp steps))):=by
 refine cI Tryz.func29 rfl (n:=101) rfl rfl rfl ?_;refine gah ?_;refine oS (sB rfl fun b3=>?_) rfl;refine oS (sA fun b6=>?_) rfl;refine gal ?_;refine oS (S.callH (H1:=[]) (F:=[_,_]) [_] rfl zpr hchk ?_ (by rintro ch H' ⟨_,nm,h⟩;cases h)) rfl;rintro lv H' ⟨rfl,nm,h⟩;cases h;refine gaa ?_
 by_cases hc0:qbI p=0
 rotate_left
 ·refine oC rfl (fun hc=>?_) (fun hc=>?_)
  ·refine gac ?_;exact qaf rfl (rC (rA rfl zm0 rfl zsr) rN) (by unfold runQ;rw[if_neg hc0];rfl)
  ·have h2:(!decide (qbI p=0))=false:=hc;simp at h2;exact absurd h2 hc0
 refine oC rfl (fun hc=>?_) (fun _=>?_)
 ·have h2:(!decide (qbI p=0))=true:=hc;simp[hc0] at h2
 have hq:runQ p inp steps=ql8 p inp steps:=by unfold runQ;rw[if_pos hc0]
 rw[hq];unfold ql8;refine gal ?_;refine oC rfl (fun hc=>?_) (fun hc=>?_)
 ·have h1:100000000<steps:=zt hc;rw[if_pos h1];refine gac ?_;exact qaf rfl (rC (rA rfl zm0 rfl zsr) rN) rfl
 have h1:¬ 100000000<steps:=zf hc;rw[if_neg h1];refine gac ?_;refine oC rfl (fun hc=>?_) (fun hc=>?_)
 ·have h2:steps<=0:=zt hc;rw[if_pos h2];refine gac ?_;exact qaf rfl (rC (rA rfl zm0 rfl zsr) rN) rfl
 have h2:¬ steps<=0:=zf hc;rw[if_neg h2];refine gab ?_;refine cM (A:=NewRun) (fun a=>[(3,ptr b3 0),(6,ptr b6 0),(9,ptr a.rb 0)]) (fun a=>qw2 a b3 b6 p inp steps) (fun _=>True) ?_ (fun a _ j hj=>?_)
 ·refine cD (m:=10) rfl [qiG b3 p] ?_;refine aT 0 rfl rfl (pG (cs':=[_,_,_]) rfl zm0 rfl rfl) ?_;refine aT 2 rfl rfl (pM (lv:=.list _) rfl) ?_;refine aT 3 rfl rfl (pM (lv:=.atom _) rfl) ?_;refine aL ?_ (zhP zp1 zhn);refine qaE.four (i:=1) (j:=4) (k:=5) (l:=6) zk ?_ ?_ ?_ ?_
  ·refine zQ4 ?_;rintro lv H' ⟨om,db,oc,h,rfl⟩;cases h;refine qaE.three (i:=4) (j:=5) (k:=6) zk ?_ ?_ ?_
   ·refine lz rfl rfl (S.kvNew fun sm=>?_);refine zl2 (i:=5) (j:=6) zk ?_ ?_
    ·refine lz rfl rfl (S.kvNew fun am=>?_);exact zT3
    ·refine lz rfl rfl (S.kvNew fun fm=>?_);exact zT4
   ·refine lz rfl rfl (S.kvNew fun am=>?_);refine zl2 (i:=4) (j:=6) zk ?_ ?_
    ·refine lz rfl rfl (S.kvNew fun sm=>?_);exact zT3
    ·refine lz rfl rfl (S.kvNew fun fm=>?_);exact zT5
   ·refine lz rfl rfl (S.kvNew fun fm=>?_);refine zl2 (i:=4) (j:=5) zk ?_ ?_
    ·refine lz rfl rfl (S.kvNew fun sm=>?_);exact zT4
    ·refine lz rfl rfl (S.kvNew fun am=>?_);exact zT5
  ·refine lz rfl rfl (S.kvNew fun sm=>?_);refine qaE.three (i:=1) (j:=5) (k:=6) zk ?_ ?_ ?_
   ·refine zQ4 ?_;rintro lv H' ⟨om,db,oc,h,rfl⟩;cases h;refine zl2 (i:=5) (j:=6) zk ?_ ?_
    ·refine lz rfl rfl (S.kvNew fun am=>?_);exact zT3
    ·refine lz rfl rfl (S.kvNew fun fm=>?_);exact zT4
   ·refine lz rfl rfl (S.kvNew fun am=>?_);refine zl2 (i:=1) (j:=6) zk ?_ ?_
    ·refine zQ4 ?_;rintro lv H' ⟨om,db,oc,h,rfl⟩;cases h;exact zT3
    ·refine lz rfl rfl (S.kvNew fun fm=>?_);exact zT2
   ·refine lz rfl rfl (S.kvNew fun fm=>?_);refine zl2 (i:=1) (j:=5) zk ?_ ?_
    ·refine zQ4 ?_;rintro lv H' ⟨om,db,oc,h,rfl⟩;cases h;exact zT4
    ·refine lz rfl rfl (S.kvNew fun am=>?_);exact zT2
  ·refine lz rfl rfl (S.kvNew fun am=>?_);refine qaE.three (i:=1) (j:=4) (k:=6) zk ?_ ?_ ?_
   ·refine zQ4 ?_;rintro lv H' ⟨om,db,oc,h,rfl⟩;cases h;refine zl2 (i:=4) (j:=6) zk ?_ ?_
    ·refine lz rfl rfl (S.kvNew fun sm=>?_);exact zT3
    ·refine lz rfl rfl (S.kvNew fun fm=>?_);exact zT5
   ·refine lz rfl rfl (S.kvNew fun sm=>?_);refine zl2 (i:=1) (j:=6) zk ?_ ?_
    ·refine zQ4 ?_;rintro lv H' ⟨om,db,oc,h,rfl⟩;cases h;exact zT3
    ·refine lz rfl rfl (S.kvNew fun fm=>?_);exact zT2
   ·refine lz rfl rfl (S.kvNew fun fm=>?_);refine zl2 (i:=1) (j:=4) zk ?_ ?_
    ·refine zQ4 ?_;rintro lv H' ⟨om,db,oc,h,rfl⟩;cases h;exact zT5
    ·refine lz rfl rfl (S.kvNew fun sm=>?_);exact zT2
  ·refine lz rfl rfl (S.kvNew fun fm=>?_);refine qaE.three (i:=1) (j:=4) (k:=5) zk ?_ ?_ ?_
   ·refine zQ4 ?_;rintro lv H' ⟨om,db,oc,h,rfl⟩;cases h;refine zl2 (i:=4) (j:=5) zk ?_ ?_
    ·refine lz rfl rfl (S.kvNew fun sm=>?_);exact zT4
    ·refine lz rfl rfl (S.kvNew fun am=>?_);exact zT5
   ·refine lz rfl rfl (S.kvNew fun sm=>?_);refine zl2 (i:=1) (j:=5) zk ?_ ?_
    ·refine zQ4 ?_;rintro lv H' ⟨om,db,oc,h,rfl⟩;cases h;exact zT4
    ·refine lz rfl rfl (S.kvNew fun am=>?_);exact zT2
   ·refine lz rfl rfl (S.kvNew fun am=>?_);refine zl2 (i:=1) (j:=4) zk ?_ ?_
    ·refine zQ4 ?_;rintro lv H' ⟨om,db,oc,h,rfl⟩;cases h;exact zT5
    ·refine lz rfl rfl (S.kvNew fun sm=>?_);exact zT2
 ·obtain ⟨rb,om,db,oc,sm,am,fm⟩:=a;have hv:=qkL hc0;have hshort:=qn9 hc0;have hnd:=hv.keys;have hand:(p.arrays.map (·.name)).Nodup:=(List.nodup_append.1 (List.nodup_append.1 (qa6 _ _ hv.names).1).1).2.1;have hfnd:(p.funcs.map (·.name)).Nodup:=(List.nodup_append.1 (qa6 _ _ hv.names).1).2.1;have hvars6:p.arrays.length<=2000000:=hsm.arrays;have hfun6:p.funcs.length<=2000000:=hsm.funcs;have hsc8:=hv.few
  change qae (KC B0 w0) 101 _ _ _ [runH rb om sm am fm p inp steps,qiG b3 p,(sm,.map (kvs (scKV [])) 0),(am,.map (kvs []) 0),(fm,.map (kvs []) 0),(om,.map (kvs (qj4 db)) oc),divH db,outH b6]
  refine gal ?_;refine oS (sF [_] rfl (Chk.scalars_spec hsm (qgD hc0)) ?_) rfl;refine gab ?_
  refine oL (fun k ls H'=>∃ (pre l1:List (List UInt8)) (sb:List (List UInt8×Nat)) (ck:Nat),qan p.vars p.funcs=pre++l1/\k=l1.length/\sb.map (·.1)=pre/\ls=[(3,ptr b3 0),(6,ptr b6 0),(9,ptr rb 0),(43,.list ((qan p.vars p.funcs).map str)),(44,int .i64 (((qan p.vars p.funcs).map str).length:Int)),(45,int .i64 (pre.length:Int))] /\
    H'=runH rb om sm am fm p inp steps::qiG b3 p::(sm,.map (kvs (scKV sb)) ck)::([(am,.map (kvs []) 0),(fm,.map (kvs []) 0),(om,.map (kvs (qj4 db)) oc),divH db,outH b6]++scH0 sb))
   ⟨_,_,_,⟨[],qan p.vars p.funcs,[],0,rfl,rfl,rfl,rfl,rfl⟩,⟨rfl,rfl,rfl,rfl,rfl,rfl,trivial⟩,zhR _⟩ ?_
  rintro k ls H' ⟨pre,l1,sb,ck,hLe,rfl,hsb,rfl,rfl⟩ j2 hj2
  have hb2:pre.length<=8000:=by
   rw[hLe,zLa] at hsc8;omega
  refine gaj ?_;refine oC rfl (fun hd=>?_) (fun hd=>?_)
  ·have hlen:=zt hd;rw[zLm,hLe,zLa] at hlen
   obtain ⟨x,l2,rfl⟩:∃ a l2,l1=a::l2:=by
    cases l1 with
    |nil=>simp at hlen
    |cons a l2=>exact ⟨a,l2,rfl⟩
   have hnew:x ∉ (scKV sb).map (·.1):=by
    have e:(scKV sb).map (·.1)=pre:=by
     rw[<-hsb];unfold scKV;rw[List.map_map];rfl
    rw[e];rw[hLe] at hnd;intro hm;exact (List.nodup_append.1 hnd).2.2 x hm x zMs rfl
   refine gam ?_;refine oP (xR (el':=str x) (cs:=[str x]) rfl rfl zo (by rw[hLe];exact get_mid str pre x l2) rfl rfl) rfl ?_;refine gac ?_;refine oS (sA fun b=>?_) rfl;refine oS (S.kvSet (k:=x) rfl rfl rfl zp3 fun ck2=>?_) rfl;rw[qjs hnew];refine gan ?_
   exact ⟨l2.length,_,_,Nat.lt_succ_self _,⟨pre++[x],l2,sb++[(x,b)],ck2,by rw[hLe];simp,rfl,by rw[zMa,hsb];rfl,rfl,rfl⟩,⟨rfl,rfl,rfl,rfl,rfl,qak (by simp),trivial⟩,⟨[],by
    rw[zLz];have e1:scKV (sb++[(x,b)])=scKV sb++[(x,ptr b 0)]:=by unfold scKV;rw[zMa];rfl
    have e2:scH0 (sb++[(x,b)])=scH0 sb++[(b,LObj.cells 56 [u32 0])]:=by unfold scH0;rw[zMa];rfl
    rw[e1,e2]
    exact qub⟩,hj2⟩
  have hlen:=zf hd;rw[zLm,hLe,zLa] at hlen
  obtain rfl:l1=[]:=by
   cases l1 with
   |nil=>rfl
   |cons a l2=>simp at hlen;omega
  rw[zLz] at hLe;rw[<-hLe] at hsb;refine gac ?_
  refine oL (fun k ls H'=>∃ (pre l1:List Ar) (ab:List (List UInt8×Nat×Nat)) (ca:Nat),p.arrays=pre++l1/\k=l1.length/\ab.map (fun q=>(q.1,q.2.2))=pre.map (fun a=>(a.name,a.size))/\ls=[(3,ptr b3 0),(6,ptr b6 0),(9,ptr rb 0),(57,.list (p.arrays.map qd8)),(58,int .i64 ((p.arrays.map qd8).length:Int)),(59,int .i64 (pre.length:Int))] /\
    H'=runH rb om sm am fm p inp steps::qiG b3 p::(sm,.map (kvs (scKV sb)) ck)::(am,.map (kvs (arKV ab)) ca)::(([(fm,.map (kvs []) 0),(om,.map (kvs (qj4 db)) oc),divH db,outH b6]++scH0 sb)++arH0 ab))
   ⟨_,_,_,⟨[],p.arrays,[],0,rfl,rfl,rfl,rfl,rfl⟩,⟨rfl,rfl,rfl,rfl,rfl,rfl,trivial⟩,⟨[],by
    rw[zLz];refine List.Perm.cons _ (List.Perm.cons _ (List.Perm.cons _ (List.Perm.cons _ ?_)));show List.Perm _ (_++([]:Heap));rw[zLz]
    exact List.Perm.refl _⟩⟩ ?_
  rintro k ls H' ⟨pre,l1,ab,ca,hLe,rfl,hab,rfl,rfl⟩ j3 hj3
  have hb2:pre.length<=2000000:=by
   rw[hLe,zLa] at hvars6;omega
  refine gaj ?_;refine oC rfl (fun hd=>?_) (fun hd=>?_)
  ·have hlen:=zt hd;rw[zLm,hLe,zLa] at hlen
   obtain ⟨x,l2,rfl⟩:∃ a l2,l1=a::l2:=by
    cases l1 with
    |nil=>simp at hlen
    |cons a l2=>exact ⟨a,l2,rfl⟩
   have hxs:=hv.sizes x (by rw[hLe];exact List.mem_append_right _ zMs)
   have hnew:x.name ∉ (arKV ab).map (·.1):=by
    have e:(arKV ab).map (·.1)=pre.map (·.name):=by
     have h1:(ab.map (fun q=>(q.1,q.2.2))).map (·.1)=(pre.map (fun a=>(a.name,a.size))).map (·.1):=by rw[hab]
     rw[List.map_map,List.map_map] at h1;unfold arKV;rw[List.map_map];exact h1
    rw[e];rw[hLe,zMa] at hand;intro hm;exact (List.nodup_append.1 hand).2.2 x.name hm x.name zMs rfl
   refine gam ?_;refine oP (xR (el':=qd8 x) (cs:=[_,_]) rfl rfl zo (by rw[hLe];exact get_mid qd8 pre x l2) rfl rfl) rfl ?_;refine gad ?_;refine oS (sA fun b13=>?_) rfl;refine gad ?_;refine cD (m:=10) rfl [(b13,.cells 76 [str x.name,int .i64 (x.size:Int)]),runH rb om sm am fm p inp steps] ?_;refine zQ29 ?_;refine aT 6 rfl rfl (pF rfl) ?_;refine aT 7 rfl rfl (pL (c:=.atom _) rfl zm0 rfl) ?_;refine aL ?_ (zhP pH zhp);refine lO 8 (lS (H1:=[]) rfl (.inl rfl) rfl zpr (zhP pH zhp) (S.makeRow (n:=x.size) rfl rfl zo zo fun b=>?_));refine lO 9 (lS (H1:=[_]) rfl (.inl rfl) rfl (show Pick (am,.map (kvs (arKV ab)) ca) _ _ from pT zp4) (zhD (zhP pH zhp)) (S.kvSet (k:=x.name) rfl rfl rfl pH fun ca2=>?_));rw[qjs hnew];refine lD zk ?_;refine gan ?_
   exact ⟨l2.length,_,_,Nat.lt_succ_self _,⟨pre++[x],l2,ab++[(x.name,b,x.size)],ca2,by rw[hLe];simp,rfl,by rw[zMa,zMa,hab];rfl,rfl,rfl⟩,⟨rfl,rfl,rfl,rfl,rfl,qak (by simp),trivial⟩,⟨[(b13,.cells 76 [str x.name,int .i64 (x.size:Int)])],by
    have e1:arKV (ab++[(x.name,b,x.size)])=arKV ab++[(x.name,rowV b x.size)]:=by unfold arKV;rw[zMa];rfl
    have e2:arH0 (ab++[(x.name,b,x.size)])=arH0 ab++[(b,LObj.cells 56 (List.replicate x.size (u32 0)))]:=by unfold arH0;rw[zMa];rfl
    rw[e1,e2]
    exact qq6⟩,hj3⟩
  have hlen:=zf hd;rw[zLm,hLe,zLa] at hlen
  obtain rfl:l1=[]:=by
   cases l1 with
   |nil=>rfl
   |cons a l2=>simp at hlen;omega
  rw[zLz] at hLe;rw[<-hLe] at hab;refine gac ?_
  refine oL (fun k ls H'=>∃ (pre l1:List FnD) (cf:Nat),p.funcs=pre++l1/\k=l1.length/\ls=[(3,ptr b3 0),(6,ptr b6 0),(9,ptr rb 0),(74,.list (p.funcs.map qaQ)),(75,int .i64 ((p.funcs.map qaQ).length:Int)),(76,int .i64 (pre.length:Int))] /\
    H'=runH rb om sm am fm p inp steps::qiG b3 p::(sm,.map (kvs (scKV sb)) ck)::(am,.map (kvs (arKV ab)) ca)::(fm,.map (kvs (fnKV pre)) cf)::(([(om,.map (kvs (qj4 db)) oc),divH db,outH b6]++scH0 sb)++arH0 ab))
   ⟨_,_,_,⟨[],p.funcs,0,rfl,rfl,rfl,rfl⟩,⟨rfl,rfl,rfl,rfl,rfl,rfl,trivial⟩,zhR _⟩ ?_
  rintro k ls H' ⟨pre,l1,cf,hLe,rfl,rfl,rfl⟩ j4 hj4
  have hb2:pre.length<=2000000:=by
   rw[hLe,zLa] at hfun6;omega
  refine gaj ?_;refine oC rfl (fun hd=>?_) (fun hd=>?_)
  ·have hlen:=zt hd;rw[zLm,hLe,zLa] at hlen
   obtain ⟨x,l2,rfl⟩:∃ a l2,l1=a::l2:=by
    cases l1 with
    |nil=>simp at hlen
    |cons a l2=>exact ⟨a,l2,rfl⟩
   have hnew:x.name ∉ (fnKV pre).map (·.1):=by
    have e:(fnKV pre).map (·.1)=pre.map (·.name):=by
     unfold fnKV;rw[List.map_map];rfl
    rw[e];rw[hLe,zMa] at hfnd;intro hm;exact (List.nodup_append.1 hfnd).2.2 x.name hm x.name zMs rfl
   refine gam ?_;refine oP (xR (el':=qaQ x) (cs:=[_,_,_,_]) rfl rfl zo (by rw[hLe];exact get_mid qaQ pre x l2) rfl rfl) rfl ?_;refine gad ?_;refine oS (sA fun b15=>?_) rfl;refine gad ?_;refine qae.tail 7 zk ?_;refine gav ?_;refine oS (S.kvSet (k:=x.name) (lv:=qaQ x) rfl rfl rfl zp5 fun cf2=>?_) rfl;rw[qjs hnew];refine gan ?_
   exact ⟨l2.length,_,_,Nat.lt_succ_self _,⟨pre++[x],l2,cf2,by rw[hLe];simp,rfl,rfl,rfl⟩,⟨rfl,rfl,rfl,rfl,rfl,qak (by simp),trivial⟩,⟨[(b15,.cells 79 [str x.name,.list (x.params.map str),.list (x.locals.map str),.list (x.body.map encS)])],by
    have e1:fnKV (pre++[x])=fnKV pre++[(x.name,qaQ x)]:=by unfold fnKV;rw[zMa];rfl
    rw[e1]
    exact ((zPc (l₁:=[_,_]) (l₂:=[_,_,_,_])).append_right _).trans (((List.Perm.refl [_,_,_,_,_]).append swap1).trans zpr)⟩,hj4⟩
  have hlen:=zf hd;rw[zLm,hLe,zLa] at hlen
  obtain rfl:l1=[]:=by
   cases l1 with
   |nil=>rfl
   |cons a l2=>simp at hlen;omega
  rw[zLz] at hLe;subst hLe;obtain ⟨lim,rfl⟩:∃ lim:Nat,steps=(lim:Int):=⟨steps.toNat,by omega⟩;have hlim:lim<=100000000:=by omega
  rw[Int.toNat_natCast];obtain ⟨har,hal⟩:=qqD hand hab inp lim
  have hC:CfgOk ⟨p,rb,db,om,sm,am,fm,oc,ck,ca,cf,sb,ab,lim⟩:=⟨hv,hnum,hsb,by
   have h1:(ab.map (fun q=>(q.1,q.2.2))).map (·.1)=(p.arrays.map (fun a=>(a.name,a.size))).map (·.1):=by rw[hab]
   rw[List.map_map,List.map_map] at h1;exact h1,hsm,fun q hq=>by
   have h1:(q.1,q.2.2)∈p.arrays.map (fun a=>(a.name,a.size)):=by rw[<-hab];exact List.mem_map.2 ⟨q,hq,rfl⟩
   obtain ⟨a,ha,he⟩:=List.mem_map.1 h1;injection he with e1 e2;rw[<-e2]
   exact (hv.sizes a ha).2,hlim,hshort.1,hshort.2⟩
  generalize hcdef:(⟨p,rb,db,om,sm,am,fm,oc,ck,ca,cf,sb,ab,lim⟩:Cfg)=c at hC;have hcp:c.p=p:=by rw[<-hcdef]
  have hcl:c.lim=lim:=by rw[<-hcdef]
  have hcr:c.rb=rb:=by rw[<-hcdef]
  have hst:St c (qdf p inp lim) (stH c (qdf p inp lim) qab []):=by
   refine ⟨?_,?_,qab,[],Acc.nil,rfl⟩
   ·rw[<-hcdef];exact hal
   ·rw[hcl];exact zNr _
  have hgood:Good c c.lim (qdf p inp lim):=by
   rw[hcl];refine ⟨⟨fun k=>by show Lt 0;unfold Lt;decide,fun x v hv=>?_,hin⟩,zNr _,by rw[hcl];show 0+lim<=lim;omega⟩
   have h1:v∈(match p.arrays.find? fun a=>decide (a.name=x) with
    |some a=>List.replicate a.size 0
    |none=>[]):=hv
   split at h1
   ·rw[(List.mem_replicate.1 h1).2];unfold Lt;decide
   ·cases h1
  have hmain:=qqQ (B0:=B0) (w0:=w0) hC hgood hst;rw[hcl,hcp,hcr] at hmain
  have ehd:hdH ⟨p,rb,db,om,sm,am,fm,oc,ck,ca,cf,sb,ab,lim⟩ (qdf p inp lim) qab=[runH rb om sm am fm p inp lim,(sm,.map (kvs (scKV sb)) ck),(am,.map (kvs (arKV ab)) ca),(fm,.map (kvs (fnKV p.funcs)) cf),(om,.map (kvs (qj4 db)) oc),divH db]:=by
   have e0:lim-(qdf p inp lim).left=0:=Nat.sub_self lim;unfold hdH runC;simp only[e0];rfl
  refine gaa ?_
  refine LOps.perm (H':=stH c (qdf p inp lim) qab []++[qiG b3 p,outH b6]) (by
   rw[<-hcdef,qr9];show List.Perm _ ((hdH _ _ _++(scH sb (qdf p inp lim)++(arH ab (qdf p inp lim)++[])))++[qiG b3 p,outH b6]);rw[har,zLz,ehd]
   exact qrr) ?_
  refine oS (S.callH (H1:=stH c (qdf p inp lim) qab []) (F:=[qiG b3 p,outH b6]) [_] rfl zpr hmain ?_ (by rintro ch H' ⟨_,h⟩;cases h)) rfl;rintro lv H' ⟨hs2,h⟩;cases h
  have hfin:runI p inp lim=⟨(blkR (stI p lim (qcG p)) (qcG p).body (qdf p inp lim)).st.out,qvC (blkR (stI p lim (qcG p)) (qcG p).body (qdf p inp lim)),lim-(blkR (stI p lim (qcG p)) (qcG p).body (qdf p inp lim)).st.left⟩:=by
   unfold runI;exact qvn _ _
  rw[hfin];generalize blkR (stI p lim (qcG p)) (qcG p).body (qdf p inp lim)=R at hs2 ⊢;obtain ⟨_,hle,v,Ha,hacc,rfl⟩:=hs2;refine LOps.perm (H':=outH b6::qiG b3 p::stH c R.st v Ha) ((zPc (l₂:=[_,_])).trans (List.Perm.swap _ _ _)) ?_;refine gab ?_;refine qae.tail 11 zk ?_
  have hmem:(rb,LObj.cells 150 (runC c R.st v))∈outH b6::qiG b3 p::stH c R.st v Ha:=by
   rw[<-hcr];exact List.Mem.tail _ zm1
  refine gav ?_;refine lP (pL (c:=v) rfl hmem rfl) rfl ?_
  have hconv:∀ (e:Env) (H:Heap) (dst:Option Nat) (ty:TypeId) (pos:String) (aft:Array Edge) (g:Option (Nat×Bool)) (x:Operand),e.ev x=v->GL.Pure (KC B0 w0) ⟨dst,.convert 68 9 x,ty,pos,aft,g⟩ e H (str R.st.out):=fun e H dst ty pos aft g x hx=>by
   have he:=hacc.elems
   by_cases h0:R.st.out=[]
   ·rw[h0] at he ⊢;exact Pure.bytesStr0 (by rw[hx,he];rfl)
   ·exact Pure.bytesStr (by rw[hx,he];rfl) h0
  refine lP (hconv _ _ _ _ _ _ _ _ rfl) rfl ?_;refine gav ?_;refine lP (pL (c:=int .i64 ((c.lim-R.st.left:Nat):Int)) rfl hmem rfl) rfl ?_;refine gad ?_;refine qaf ((hj4.trans hj3).trans (hj2.trans hj)) (rC (rA (k:=3) rfl zm0 rfl zsr) rN) ?_;rw[hcl];rfl
end
end Go.Proofs.YtdakelgkjdaijaaGreatDoor.Inp
namespace Go.Stele
mutual
def ndE:Ex->Nat
 |.mk op num name args=>1+ndEs args
def ndEs:List Ex->Nat
 |[]=>0
 |x::l=>ndE x+ndEs l
end
mutual
def ndS:Sm->Nat
 |.mk kind name index value thn els=>1+(ndEs index+ndEs value+ndSs thn+ndSs els)
def ndSs:List Sm->Nat
 |[]=>0
 |x::l=>ndS x+ndSs l
end
def ndF (f:FnD):Nat:=1+f.params.length+f.locals.length+ndSs f.body
def ndFs:List FnD->Nat
 |[]=>0
 |f::l=>ndF f+ndFs l
theorem qlu (x:Ex):1<=ndE x:=by
 obtain ⟨op,num,name,args⟩:=x;rw[ndE];omega
theorem qnp (x:Sm):1<=ndS x:=by
 obtain ⟨k,n,i,v,t,e⟩:=x;rw[ndS];omega
theorem qf1:∀ l:List Ex,l.length<=ndEs l
 |[]=>zNr _
 |x::l=>by
  have h1:=qlu x;have h2:=qf1 l;rw[ndEs,zLc];omega
theorem qeM:∀ l:List Sm,l.length<=ndSs l
 |[]=>zNr _
 |x::l=>by
  have h1:=qnp x;have h2:=qeM l;rw[ndSs,zLc];omega
theorem qgR:∀ l:List FnD,l.length<=ndFs l
 |[]=>zNr _
 |x::l=>by
  have h2:=qgR l;rw[ndFs,zLc];unfold ndF;omega
theorem qha:∀ {l:List FnD} {f:FnD},f∈l->ndF f<=ndFs l
 |g::l,f,h=>by
  rw[ndFs];rcases zMi.1 h with rfl|h
  ·omega
  ·have:=qha h;omega
theorem qkB:∀ {l:List Ex} {f:Ex},f∈l->ndE f<=ndEs l
 |g::l,f,h=>by
  rw[ndEs];rcases zMi.1 h with rfl|h
  ·omega
  ·have:=qkB h;omega
mutual
theorem qwm:∀ x:Ex,ndE x<=2000000->smE x
 |.mk op num name args,h=>by
  rw[ndE] at h;have:=qf1 args;exact ⟨show args.length<=2000000 by omega,qlA args (by omega)⟩
theorem qlA:∀ l:List Ex,ndEs l<=2000000->smEs l
 |[],_=>trivial
 |x::l,h=>by
  rw[ndEs] at h;exact ⟨qwm x (by omega),qlA l (by omega)⟩
end
mutual
theorem qwd:∀ x:Sm,ndS x<=2000000->smS x
 |.mk k n i v t e,h=>by
  rw[ndS] at h;have h1:=qf1 i;have h2:=qf1 v;have h3:=qeM t;have h4:=qeM e;exact ⟨show i.length<=2000000 by omega,show v.length<=2000000 by omega,show t.length<=2000000 by omega,show e.length<=2000000 by omega,qlA i (by omega),qlA v (by omega),qlD t (by omega),qlD e (by omega)⟩
theorem qlD:∀ l:List Sm,ndSs l<=2000000->smSs l
 |[],_=>trivial
 |x::l,h=>by
  rw[ndSs] at h;exact ⟨qwd x (by omega),qlD l (by omega)⟩
end
theorem qod {f:FnD} (h:ndF f<=2000000):SmF f:=by
 unfold ndF at h;have:=qeM f.body;exact ⟨show f.params.length<=2000000 by omega,show f.locals.length<=2000000 by omega,show f.body.length<=2000000 by omega,qlD _ (by omega)⟩
/-! ### Needs and depths -/
def KnB (B D:Nat) (known:List FSum):Prop:=∀ k∈known,k.need<=B/\k.params+1<=B/\k.depth<=D
theorem qoA (B:Nat) (c:CEnv):∀ (l:List Ex) (i m:Nat),(∀ x∈l,qdr c x<=4 * ndE x+B)->qmh i (qbN c l) m<=max m (4 * ndEs l+i+B)
 |[],i,m,_=>by rw[qbN,qmh];exact Nat.le_max_left _ _
 |x::l,i,m,h=>by
  rw[qbN,qmh,ndEs];have h1:=h x zMs;have h2:=qoA B c l (i+1) (max m (i+qdr c x)) (fun y hy=>h y (zMo _ hy));have h3:=qlu x;omega
mutual
theorem qf2 (B D:Nat) (c:CEnv) (hB:KnB B D c.funcs):∀ x:Ex,qdr c x<=4 * ndE x+B
 |.mk op num name args=>by
  rw[qdr,ndE];have ha:=qmB B D c hB args
  have h0:(qbN c args).headD 0<=4 * ndEs args+B:=by
   cases args with
   |nil=>rw[qbN];exact Nat.zero_le _
   |cons x l=>
    have:=ha x zMs;rw[qbN,ndEs];show qdr c x<=_;omega
  have h1:(qbN c args).tail.headD 0<=4 * ndEs args+B:=by
   cases args with
   |nil=>rw[qbN];exact Nat.zero_le _
   |cons x l=>
    cases l with
    |nil=>rw[qbN,qbN];exact Nat.zero_le _
    |cons y l=>
     have:=ha y (zMo _ zMs);rw[qbN,qbN,ndEs,ndEs];show qdr c y<=_;omega
  have hc:qnl c name (qbN c args)<=4 * (1+ndEs args)+B:=by
   unfold qnl;split
   ·omega
   split
   ·omega
   ·unfold CEnv.fn;split
    ·rename_i k hk
     have hkb:=hB k (List.mem_of_find?_eq_some hk);have:=qoA B c args 0 (max (k.params+1) k.need) ha;omega
    ·omega
  unfold opN;split
  ·omega
  split
  ·omega
  split
  ·exact hc
  split
  ·omega
  split
  ·omega
  split
  ·omega
  split
  ·omega
  split
  ·omega
  ·omega
theorem qmB (B D:Nat) (c:CEnv) (hB:KnB B D c.funcs):∀ (l:List Ex),∀ x∈l,qdr c x<=4 * ndE x+B
 |[],x,h=>(List.not_mem_nil h).elim
 |a::l,x,h=>by
  rcases zMi.1 h with h1|h1
  ·rw[h1];exact qf2 B D c hB a
  ·exact qmB B D c hB l x h1
end
theorem qtU {B D:Nat} {c:CEnv} (hB:KnB B D c.funcs) (op name:Nm):qgC c op name<=D+1:=by
 unfold qgC;split
 ·unfold CEnv.fn;split
  ·rename_i k hk
   have:=hB k (List.mem_of_find?_eq_some hk);omega
  ·omega
 ·omega
mutual
theorem qnr (B D:Nat) (c:CEnv) (hB:KnB B D c.funcs):∀ x:Ex,depE c x<=D+1
 |.mk op num name args=>by
  rw[depE];have h1:=qgL B D c hB args;have h2:=qtU hB op name;omega
theorem qgL (B D:Nat) (c:CEnv) (hB:KnB B D c.funcs):∀ l:List Ex,qde c l<=D+1
 |[]=>Nat.zero_le _
 |x::l=>by
  rw[qde];have h1:=qnr B D c hB x;have h2:=qgL B D c hB l;omega
end
theorem qi1 {B D:Nat} {c:CEnv} (hB:KnB B D c.funcs) (l:List Ex):qdr c (l.headD default)<=4 * (ndEs l+1)+B:=by
 cases l with
 |nil=>
  have:=qf2 B D c hB (default:Ex)
  have h1:ndE (default:Ex)=1:=by
   show ndE (.mk [] 0 [] [])=1;rw[ndE,ndEs]
  show qdr c default<=_;rw[ndEs]
  omega
 |cons x l=>
  have:=qf2 B D c hB x;show qdr c x<=_;rw[ndEs];omega
mutual
theorem qtt (B D:Nat) (c:CEnv) (hB:KnB B D c.funcs):∀ x:Sm,ql0 c x<=8 * ndS x+B
 |.mk k n i v t e=>by
  rw[ql0,ndS];have h1:=qi1 hB v;have h2:=qi1 hB i;have h3:=qfA B D c hB t;have h4:=qfA B D c hB e;split
  ·omega
  split
  ·omega
  split
  ·omega
  ·omega
theorem qfA (B D:Nat) (c:CEnv) (hB:KnB B D c.funcs):∀ l:List Sm,qcq c l<=8 * ndSs l+B
 |[]=>by rw[qcq];exact Nat.zero_le _
 |x::l=>by
  rw[qcq,ndSs];have h1:=qtt B D c hB x;have h2:=qfA B D c hB l;omega
end
mutual
theorem qr8 (B D:Nat) (c:CEnv) (hB:KnB B D c.funcs):∀ x:Sm,depS c x<=D+1
 |.mk k n i v t e=>by
  rw[depS];have h1:=qgL B D c hB v;have h2:=qgL B D c hB i;have h3:=qeB B D c hB t;have h4:=qeB B D c hB e;omega
theorem qeB (B D:Nat) (c:CEnv) (hB:KnB B D c.funcs):∀ l:List Sm,qcW c l<=D+1
 |[]=>by rw[qcW];exact Nat.zero_le _
 |x::l=>by
  rw[qcW];have h1:=qr8 B D c hB x;have h2:=qeB B D c hB l;omega
end
theorem qva {B D:Nat} {vars arrays later:List Nm} {known:List FSum} {f:FnD} (hB:KnB B D known):(sumF vars arrays later known f).need<=8 * ndF f+B/\(sumF vars arrays later known f).params+1<=8 * ndF f+B/\(sumF vars arrays later known f).depth<=D+1:=by
 have h1:=qfA B D (envF vars arrays later known f) hB f.body;have h2:=qeB B D (envF vars arrays later known f) hB f.body;unfold sumF ndF;simp only;omega
end Go.Stele
namespace Go.Proofs.YtdakelgkjdaijaaGreatDoor.Chk
open Go.GL Go.RowKit Go.Stele
def vio (nm:List UInt8) (e:Int):List PanicEntry:=[{ v:=.iface 137 (.agg #[.string ⟨nm.toArray⟩,.int .i64 e]),recovered:=false }]
def chkN:Nat->List UInt8->Bool
 |_,[]=>true
 |i,c::r=>(if i=0 then qaV c else qaM c) && chkN (i+1) r
theorem qkq:∀ (r:List UInt8) (i:Nat),i≠0->chkN i r=r.all qaM
 |[],_,_=>rfl
 |c::r,i,h=>by rw[chkN,if_neg h,qkq r (i+1) zo];rfl
theorem qvU {s:List UInt8} (h0:s≠[]) (h1:s.length<=24) (h2:qmN.contains s=false):isNm s=chkN 0 s:=by
 unfold isNm;rw[decide_eq_true h1,h2]
 cases s with
 |nil=>exact absurd rfl h0
 |cons c r=>
  rw[chkN,if_pos rfl,qkq r 1 zDd];rfl
theorem qqj (s:List UInt8):qmN.contains s=(qch.contains s || decide (s=[105,110]) || decide (s=[111,117,116])):=by
 have h:qmN.contains s=(qch.contains s || (decide (s=[105,110]) || decide (s=[111,117,116]))):=by
  unfold qmN;rw[Bool.eq_iff_iff]
  simp
 rw[h,Bool.or_assoc]
instance:TMap Tryz.prog 104 3 (.int .i64 0) (int .i64 0):=⟨⟨9,by kernel_rfl,by kernel_rfl⟩,fun w=>(Go.zero_of_info (P:=Tryz.prog) (n:=1) zk).1 w,fun _ _=>qah⟩
instance:TMap Tryz.prog 84 4 (.bool false) (bool false):=⟨⟨9,by kernel_rfl,by kernel_rfl⟩,fun w=>(Go.zero_of_info (P:=Tryz.prog) (n:=1) zk).1 w,fun _ _=>qah⟩
instance:TMap Tryz.prog 140 198 (.agg [.int .i64 0,.int .i64 0,.int .i64 0].toArray) (.agg ([.int .i64 0,.int .i64 0,.int .i64 0].map .atom)):=⟨⟨9,by kernel_rfl,by kernel_rfl⟩,fun w=>(Go.zero_of_info (P:=Tryz.prog) (n:=3) zk).1 w,fun w L=>qoN w L _⟩
def opKV:KV:=[([110,117,109],int .i64 0),([118,97,114],int .i64 0),([101,108,101,109],int .i64 1),([110,101,103],int .i64 1),([110,111,116],int .i64 1),([99,97,108,108],int .i64 (-1)),([124,124],int .i64 2),([38,38],int .i64 2),([61,61],int .i64 2),([33,61],int .i64 2),([60],int .i64 2),([62],int .i64 2),([60,61],int .i64 2),([62,61],int .i64 2),([94],int .i64 2),([43],int .i64 2),([45],int .i64 2),([42],int .i64 2),([47],int .i64 2),([37],int .i64 2)]
theorem qsT (op:List UInt8):GL.kvGet opKV op=if qci op = -2 then none else some (int .i64 (qci op)):=by
 have key:∀ x∈[[110,117,109],[118,97,114],[101,108,101,109],[110,101,103],[110,111,116],[99,97,108,108],[124,124],[38,38],[61,61],[33,61],[60],[62],[60,61],[62,61],[94],[43],[45],[42],[47],[37]],GL.kvGet opKV x=if qci x = -2 then none else some (int .i64 (qci x)):=by
  intro x hx;simp only[zMi,List.not_mem_nil,or_false] at hx;rcases hx with rfl|rfl|rfl|rfl|rfl|rfl|rfl|rfl|rfl|rfl|rfl|rfl|rfl|rfl|rfl|rfl|rfl|rfl|rfl|rfl <;> rfl
 by_cases h:op∈[[110,117,109],[118,97,114],[101,108,101,109],[110,101,103],[110,111,116],[99,97,108,108],[124,124],[38,38],[61,61],[33,61],[60],[62],[60,61],[62,61],[94],[43],[45],[42],[47],[37]]
 ·exact key op h
 ·simp only[zMi,List.not_mem_nil,or_false,not_or] at h
  have h2:qci op = -2:=by
   obtain ⟨a1,a2,a3,a4,a5,a6,a7,a8,a9,a10,a11,a12,a13,a14,a15,a16,a17,a18,a19,a20⟩:=h;unfold qci;rw[if_neg (fun h=>h.elim a1 a2),if_neg (fun h=>h.elim a3 (fun h=>h.elim a4 a5)),if_neg (show ¬ op=qbG from a6),if_neg];unfold qjL;simp only[zMi,List.not_mem_nil,or_false,not_or];exact ⟨a7,a8,a9,a10,a11,a12,a13,a14,a15,a16,a17,a18,a19,a20⟩
  rw[if_pos h2];obtain ⟨a1,a2,a3,a4,a5,a6,a7,a8,a9,a10,a11,a12,a13,a14,a15,a16,a17,a18,a19,a20⟩:=h;unfold opKV;simp only[GL.kvGet];rw[if_neg (Ne.symm a1),if_neg (Ne.symm a2),if_neg (Ne.symm a3),if_neg (Ne.symm a4),if_neg (Ne.symm a5),if_neg (Ne.symm a6),if_neg (Ne.symm a7),if_neg (Ne.symm a8),if_neg (Ne.symm a9),if_neg (Ne.symm a10),if_neg (Ne.symm a11),if_neg (Ne.symm a12),if_neg (Ne.symm a13),if_neg (Ne.symm a14),if_neg (Ne.symm a15),if_neg (Ne.symm a16),if_neg (Ne.symm a17),if_neg (Ne.symm a18),if_neg (Ne.symm a19),if_neg (Ne.symm a20)]
attribute [local irreducible] LOps qae qad LCalls Go.GL.Pure qax qaj qac LQ LAny qaE qal LS
section
variable {B0:Nat} {w0:World} {H:Heap}
theorem qmy (b:Bool) (nm:List UInt8) (e:Int):LCalls (KC B0 w0) 122 [bool b,str nm,int .i64 e] H (fun r H'=>H'=H/\r=if b=true then .ret (.tuple []) else .panic (vio nm e)):=by
 refine cI Tryz.func122 rfl (n:=12) rfl rfl rfl ?_;refine gac ?_;refine oC rfl (fun hc=>?_) (fun hc=>?_)
 ·have hb:b=false:=by simpa using hc
  subst hb;refine gac ?_;refine oS (qad.panic rfl fun e' he'=>?_) rfl;exact qac.panic (he'.trans rfl) zhr ⟨rfl,rfl⟩
 ·have hb:b=true:=by simpa using hc
  subst hb;refine gaq ?_;exact rO rfl rN zhr ⟨rfl,rfl⟩
theorem qlz (op:List UInt8):LCalls (KC B0 w0) 250 [str op] [] (Ret (int .i64 (qci op))):=by
 refine cI Tryz.func250 rfl (n:=15) rfl rfl rfl ?_;refine gai ?_;refine oS (S.kvNew fun om=>?_) rfl;refine oS (S.kvInsE (m:=opKV.take 0) (k:=[110,117,109]) (lv:=int .i64 (0)) (opKV.take 1) rfl rfl rfl pH zk fun c0=>?_) rfl;refine oS (S.kvInsE (m:=opKV.take 1) (k:=[118,97,114]) (lv:=int .i64 (0)) (opKV.take 2) rfl rfl rfl pH zk fun c1=>?_) rfl;refine oS (S.kvInsE (m:=opKV.take 2) (k:=[101,108,101,109]) (lv:=int .i64 (1)) (opKV.take 3) rfl rfl rfl pH zk fun c2=>?_) rfl;refine oS (S.kvInsE (m:=opKV.take 3) (k:=[110,101,103]) (lv:=int .i64 (1)) (opKV.take 4) rfl rfl rfl pH zk fun c3=>?_) rfl;refine oS (S.kvInsE (m:=opKV.take 4) (k:=[110,111,116]) (lv:=int .i64 (1)) (opKV.take 5) rfl rfl rfl pH zk fun c4=>?_) rfl;refine oS (S.kvInsE (m:=opKV.take 5) (k:=[99,97,108,108]) (lv:=int .i64 (-1)) (opKV.take 6) rfl rfl rfl pH zk fun c5=>?_) rfl;refine oS (S.kvInsE (m:=opKV.take 6) (k:=[124,124]) (lv:=int .i64 (2)) (opKV.take 7) rfl rfl rfl pH zk fun c6=>?_) rfl;refine oS (S.kvInsE (m:=opKV.take 7) (k:=[38,38]) (lv:=int .i64 (2)) (opKV.take 8) rfl rfl rfl pH zk fun c7=>?_) rfl;refine oS (S.kvInsE (m:=opKV.take 8) (k:=[61,61]) (lv:=int .i64 (2)) (opKV.take 9) rfl rfl rfl pH zk fun c8=>?_) rfl;refine oS (S.kvInsE (m:=opKV.take 9) (k:=[33,61]) (lv:=int .i64 (2)) (opKV.take 10) rfl rfl rfl pH zk fun c9=>?_) rfl;refine oS (S.kvInsE (m:=opKV.take 10) (k:=[60]) (lv:=int .i64 (2)) (opKV.take 11) rfl rfl rfl pH zk fun c10=>?_) rfl;refine oS (S.kvInsE (m:=opKV.take 11) (k:=[62]) (lv:=int .i64 (2)) (opKV.take 12) rfl rfl rfl pH zk fun c11=>?_) rfl;refine oS (S.kvInsE (m:=opKV.take 12) (k:=[60,61]) (lv:=int .i64 (2)) (opKV.take 13) rfl rfl rfl pH zk fun c12=>?_) rfl;refine oS (S.kvInsE (m:=opKV.take 13) (k:=[62,61]) (lv:=int .i64 (2)) (opKV.take 14) rfl rfl rfl pH zk fun c13=>?_) rfl;refine oS (S.kvInsE (m:=opKV.take 14) (k:=[94]) (lv:=int .i64 (2)) (opKV.take 15) rfl rfl rfl pH zk fun c14=>?_) rfl;refine oS (S.kvInsE (m:=opKV.take 15) (k:=[43]) (lv:=int .i64 (2)) (opKV.take 16) rfl rfl rfl pH zk fun c15=>?_) rfl;refine oS (S.kvInsE (m:=opKV.take 16) (k:=[45]) (lv:=int .i64 (2)) (opKV.take 17) rfl rfl rfl pH zk fun c16=>?_) rfl;refine oS (S.kvInsE (m:=opKV.take 17) (k:=[42]) (lv:=int .i64 (2)) (opKV.take 18) rfl rfl rfl pH zk fun c17=>?_) rfl;refine oS (S.kvInsE (m:=opKV.take 18) (k:=[47]) (lv:=int .i64 (2)) (opKV.take 19) rfl rfl rfl pH zk fun c18=>?_) rfl;refine oS (S.kvInsE (m:=opKV.take 19) (k:=[37]) (lv:=int .i64 (2)) (opKV.take 20) rfl rfl rfl pH zk fun c19=>?_) rfl;refine LOps.weak (H':=[(om,.map (kvs opKV) c19)]) zhr ?_;refine gab ?_;have hg:=qsT op
 by_cases h0:qci op = -2
 ·rw[if_pos h0] at hg;refine oP (Pure.kvMiss2 rfl rfl zm0 (show GL.kvGet opKV op=none from hg)) rfl ?_;refine gac ?_;refine oC rfl (fun _=>?_) (fun hc=>by cases hc);refine gar ?_;exact rR rfl (zra rfl) zhn ⟨by rw[h0];rfl,rfl⟩
 ·rw[if_neg h0] at hg;refine oP (Pure.kvHit2 rfl rfl zm0 (show GL.kvGet opKV op=some (int .i64 (qci op)) from hg)) rfl ?_;refine gac ?_;refine oC rfl (fun hc=>by cases hc) (fun _=>?_);refine gaa ?_;exact rR rfl (zra rfl) zhn ⟨rfl,rfl⟩
theorem qeX (s:List UInt8):LCalls (KC B0 w0) 177 [str s] [] (Ret (bool (isNm s))):=by
 refine cI Tryz.func177 rfl (n:=65) rfl rfl rfl ?_;refine gaa ?_
 have retF:∀ (h:isNm s=false) {e:Env} {C:Ctx} {n:Nat},e.ds=[]->e.s 2=bool false->qac C n [ResultVar.tmp 2] (Ret (bool (isNm s))) .ret e []:=fun h {e C n} hd he=>by
  rw[h];exact qaf hd (rC (rT he zsr) rN) rfl
 refine oB 7 rfl (fun h1=>?_) (fun h1=>?_)
 ·have h0:s=[]:=zt h1;refine gab ?_;refine oC rfl (fun _=>?_) (fun hc=>by cases hc);refine gar ?_;exact retF (by rw[h0];rfl) rfl rfl
 have h0:s≠[]:=zf h1;refine gad ?_;refine oB 12 rfl (fun h2=>?_) (fun h2=>?_)
 ·have hl:24<s.length:=by
   have:=zt h2;omega
  refine gab ?_;refine oC rfl (fun _=>?_) (fun hc=>by cases hc);refine gar ?_;exact retF (by unfold isNm;rw[decide_eq_false zo];rfl) rfl rfl
 have hl:s.length<=24:=by
  have:=zf h2;omega
 refine gab ?_;refine oB 16 rfl (fun h3=>?_) (fun h3=>?_)
 ·have h4:s=[105,110]:=zt h3;refine gab ?_;refine oC rfl (fun _=>?_) (fun hc=>by cases hc);refine gar ?_;exact retF (by rw[h4];rfl) rfl rfl
 refine gab ?_;refine oB 20 rfl (fun h5=>?_) (fun h5=>?_)
 ·have h4:s=[111,117,116]:=zt h5;refine gab ?_;refine oC rfl (fun _=>?_) (fun hc=>by cases hc);refine gar ?_;exact retF (by rw[h4];rfl) rfl rfl
 refine gab ?_;refine oS (sF [] rfl qgP ?_) rfl;refine gab ?_;refine oS (sF [_,_] rfl (qcS qch s zDd) ?_) rfl;refine gab ?_;have hnn:=qqj s;rw[h3,h5,Bool.or_false,Bool.or_false] at hnn;refine oC rfl (fun hk=>?_) (fun hk=>?_)
 ·have hk':qch.contains s=true:=hk;refine gar ?_
  exact retF (by
   unfold isNm
   rw[hnn,hk',Bool.not_true,Bool.and_false,Bool.false_and]) rfl rfl
 have hk':qch.contains s=false:=hk;rw[hk'] at hnn;have heq:=qvU h0 hl hnn;refine gal ?_
 refine oL (fun k ls H'=>∃ pre l1,s=pre++l1/\k=l1.length/\ls=[(0,str s),(26,int .i64 (s.length:Int)),(27,int .i64 (pre.length:Int))]/\H'=[]/\isNm s=chkN pre.length l1)
  ⟨s.length,_,_,⟨[],s,rfl,rfl,rfl,rfl,heq⟩,⟨rfl,rfl,rfl,trivial⟩,zhR _⟩ ?_
 rintro k ls H' ⟨pre,l1,hLe,rfl,rfl,rfl,hI⟩ j hj
 have hb2:pre.length<=24:=by
  rw[hLe,zLa] at hl;omega
 refine gaj ?_;refine oC rfl (fun hc=>?_) (fun hc=>?_);rotate_left
 ·have hlen:=zf hc;rw[hLe,zLa] at hlen
  obtain rfl:l1=[]:=by
   cases l1 with
   |nil=>rfl
   |cons a l2=>simp at hlen;omega
  refine gaa ?_;exact qaf hj (zra rfl) (by rw[hI];rfl)
 have hlen:=zt hc;rw[hLe,zLa] at hlen
 obtain ⟨a,l2,rfl⟩:∃ a l2,l1=a::l2:=by
  cases l1 with
  |nil=>simp at hlen
  |cons a l2=>exact ⟨a,l2,rfl⟩
 have hget:s[((pre.length:Nat):Int).toNat]? = some a:=by
  rw[Int.toNat_natCast,hLe,List.getElem?_append_right (zNr _),Nat.sub_self];rfl
 rw[chkN] at hI
 have next:∀ {e:Env} {ds:List Deferred} (h:(if pre.length=0 then qaV a else qaM a)=true),e.ds=ds->e.s 0=str s->e.s 26=int .i64 (s.length:Int)->e.s 27=int .i64 ((pre.length:Int)+1)->qdF (fun k ls H'=>∃ pre l1,s=pre++l1/\k=l1.length/\ls=[(0,str s),(26,int .i64 (s.length:Int)),(27,int .i64 (pre.length:Int))]/\H'=[]/\isNm s=chkN pre.length l1) (a::l2).length ds e []:=fun {e ds} h hd e0 e26 e27=>by
  rw[h,Bool.true_and] at hI;exact ⟨l2.length,_,_,Nat.lt_succ_self _,⟨pre++[a],l2,by rw[hLe];simp,rfl,rfl,rfl,by rw[hI,zLa];rfl⟩,⟨e0,e26,e27.trans (qak (by simp)),trivial⟩,zhR _,hd⟩
 refine gaa ?_;refine oP (pI (c:=a) rfl rfl zo hget) rfl ?_;refine gad ?_;refine LOps.cut [(0,str s),(3,int .i64 (pre.length:Int)),(4,bool (qaV a)),(26,int .i64 (s.length:Int)),(27,int .i64 (pre.length:Int))] ?_ (fun j2 hj2=>?_)
 ·refine oB 34 rfl (fun h6=>?_) (fun h6=>?_)
  ·refine gab ?_;refine oP (pI (c:=a) rfl rfl zo hget) rfl ?_;refine gav ?_;exact ⟨⟨rfl,rfl,qas (by unfold qaV;rw[show decide (97<=cv a)=true from h6,Bool.true_and]),rfl,rfl,trivial⟩,rfl,rfl⟩
  ·refine gab ?_;exact ⟨⟨rfl,rfl,qas (by unfold qaV;rw[show decide (97<=cv a)=false from h6,Bool.false_and]),rfl,rfl,trivial⟩,rfl,rfl⟩
 refine gac ?_;refine oB 42 rfl (fun h7=>?_) (fun h7=>?_);rotate_left
 ·have hl1:qaV a=true:=by simpa using h7
  refine gad ?_;refine oC rfl (fun hc=>by cases hc) (fun _=>?_);refine gaa ?_;refine next ?_ ?_ ?_ ?_ ?_
  ·rw[hl1];unfold qaM;rw[hl1];split <;> rfl
  ·exact hj2.trans hj
  ·rfl
  ·rfl
  ·rfl
 have hl0:qaV a=false:=by simpa using h7
 refine gab ?_;refine oB 45 rfl (fun h8=>?_) (fun h8=>?_)
 ·have hp0:pre.length=0:=by have:=zt h8;omega
  refine gad ?_;refine oC rfl (fun _=>?_) (fun hc=>by cases hc);refine gaa ?_;exact retF (by rw[hI,if_pos hp0,hl0,Bool.false_and]) (hj2.trans hj) rfl
 have hp0:¬ pre.length=0:=by have:=zf h8;omega
 rw[if_neg hp0] at hI;refine gab ?_;refine oP (pI (c:=a) rfl rfl zo hget) rfl ?_;refine gab ?_;refine oB 50 rfl (fun h9=>?_) (fun h9=>?_);rotate_left
 ·have h95:decide (cv a=95)=true:=by simpa using h9
  refine gad ?_;refine oC rfl (fun hc=>by cases hc) (fun _=>?_);refine gaa ?_;refine next ?_ ?_ ?_ ?_ ?_
  ·rw[if_neg hp0];unfold qaM;rw[h95,Bool.or_true]
  ·exact hj2.trans hj
  ·rfl
  ·rfl
  ·rfl
 have h95:decide (cv a=95)=false:=by simpa using h9
 refine gab ?_;refine oP (pI (c:=a) rfl rfl zo hget) rfl ?_;refine gab ?_;refine oB 55 rfl (fun h10=>?_) (fun h10=>?_)
 ·have h48:decide (48<=cv a)=false:=by
   have:cv a<48:=zt h10;exact decide_eq_false zo
  refine gab ?_;refine oC rfl (fun _=>?_) (fun hc=>by cases hc);refine gaa ?_;exact retF (by rw[hI];unfold qaM qaB;rw[hl0,h95,h48];rfl) (hj2.trans hj) rfl
 have h48:decide (48<=cv a)=true:=by
  have:¬ cv a<48:=zf h10;exact decide_eq_true zo
 refine gab ?_;refine oP (pI (c:=a) rfl rfl zo hget) rfl ?_;refine gad ?_;refine oC rfl (fun h11=>?_) (fun h11=>?_)
 ·have h57:decide (cv a<=57)=false:=by
   have:57<cv a:=zt h11;exact decide_eq_false zo
  refine gaa ?_;exact retF (by rw[hI];unfold qaM qaB;rw[hl0,h95,h57,Bool.and_false];rfl) (hj2.trans hj) rfl
 ·have h57:decide (cv a<=57)=true:=by
   have:¬ 57<cv a:=zf h11;exact decide_eq_true zo
  refine gaa ?_;refine next ?_ ?_ ?_ ?_ ?_
  ·rw[if_neg hp0];unfold qaM qaB;rw[h48,h57];simp
  ·exact hj2.trans hj
  ·rfl
  ·rfl
  ·rfl
end
end Go.Proofs.YtdakelgkjdaijaaGreatDoor.Chk
namespace Go.GL
open Go.RowKit
section
variable {C:Ctx} {e:Env} {H:Heap} {dst:Option Nat} {ty:TypeId} {pos:String} {aft:Array Edge} {g:Option (Nat×Bool)} {K:LV->Heap->Prop} {X:List PanicEntry->Heap->Prop} {x y z:Operand} {k:IntKind}
theorem qtK (a b:Nat):(if (a:Int)<(b:Int) then (b:Int) else (a:Int))=((max a b:Nat):Int):=by
 split <;> omega
theorem Pure.max2 {a b:Nat} (hx:e.ev x=int k (a:Int)) (hy:e.ev y=int k (b:Int)) {t u:TypeId}:Pure C ⟨dst,.call { callee:=.builtin .max,args:=#[x,y],argTypes:=#[t,u] },ty,pos,aft,g⟩ e H (int k ((max a b:Nat):Int)):=
 .of_any fun ρ _ _ h=>⟨_,qah,fun w'=>by
  have h0:∀ (cs:Array Bool) (args:Array Value),builtin .max #[t,u] ty cs args=(do Pure.pure (.value (<-Builtin.max_ #[t,u] ty args))):=fun _ _=>rfl;rw[qaC,h0];have:=qtK a b;simp[Builtin.max_,Builtin.max2,qag h hx,qag h hy]
  split <;> omega⟩
theorem Pure.max3 {a b c:Nat} (hx:e.ev x=int k (a:Int)) (hy:e.ev y=int k (b:Int)) (hz:e.ev z=int k (c:Int)) {t u v:TypeId}:Pure C ⟨dst,.call { callee:=.builtin .max,args:=#[x,y,z],argTypes:=#[t,u,v] },ty,pos,aft,g⟩ e H (int k ((max (max a b) c:Nat):Int)):=
 .of_any fun ρ _ _ h=>⟨_,qah,fun w'=>by
  have h0:∀ (cs:Array Bool) (args:Array Value),builtin .max #[t,u,v] ty cs args=(do Pure.pure (.value (<-Builtin.max_ #[t,u,v] ty args))):=fun _ _=>rfl;rw[qaC,h0];simp[Builtin.max_,Builtin.max2,qag h hx,qag h hy,qag h hz]
  repeat' split
  all_goals omega⟩
theorem Pure.max2e {A B:Int} (a b:Nat) (hx:e.ev x=int k A) (hy:e.ev y=int k B) (ha:A=(a:Int)) (hb:B=(b:Int)) {t u:TypeId}:Pure C ⟨dst,.call { callee:=.builtin .max,args:=#[x,y],argTypes:=#[t,u] },ty,pos,aft,g⟩ e H (int k ((max a b:Nat):Int)):=by
 subst ha hb;exact Pure.max2 hx hy
theorem Pure.max3e {A B D:Int} (a b d:Nat) (hx:e.ev x=int k A) (hy:e.ev y=int k B) (hz:e.ev z=int k D) (ha:A=(a:Int)) (hb:B=(b:Int)) (hd:D=(d:Int)) {t u v:TypeId}:Pure C ⟨dst,.call { callee:=.builtin .max,args:=#[x,y,z],argTypes:=#[t,u,v] },ty,pos,aft,g⟩ e H (int k ((max (max a b) d:Nat):Int)):=by
 subst ha hb hd;exact Pure.max3 hx hy hz
theorem Pure.eqlT {a b:Int} {xT yT:TypeId} (h:a=b) (hx:e.ev x=int k a) (hy:e.ev y=int k b):Pure C ⟨dst,.binOp .eql xT x y yT,ty,pos,aft,g⟩ e H (bool true):=by
 have:=Pure.eql (C:=C) (H:=H) (dst:=dst) (ty:=ty) (pos:=pos) (aft:=aft) (g:=g) (xT:=xT) (yT:=yT) hx hy
 rwa [decide_eq_true h] at this
theorem Pure.eqlF {a b:Int} {xT yT:TypeId} (h:¬ a=b) (hx:e.ev x=int k a) (hy:e.ev y=int k b):Pure C ⟨dst,.binOp .eql xT x y yT,ty,pos,aft,g⟩ e H (bool false):=by
 have:=Pure.eql (C:=C) (H:=H) (dst:=dst) (ty:=ty) (pos:=pos) (aft:=aft) (g:=g) (xT:=xT) (yT:=yT) hx hy
 rwa [decide_eq_false h] at this
def qdE (m:KV) (l:List (List UInt8)):Prop:=∀ k,kvGet m k=if k∈l then some (bool true) else none
theorem qdE.nil:qdE [] []:=fun k=>by simp[kvGet]
theorem qdE.add {m:KV} {l:List (List UInt8)} (h:qdE m l) (s:List UInt8):qdE (kvPut m s (bool true)) (l++[s]):=fun k=>by
 rw[kvGet_put,h k]
 by_cases h1:s=k
 ·rw[if_pos h1,if_pos (by rw[h1];simp)]
 ·rw[if_neg h1]
  by_cases h2:k∈l
  ·rw[if_pos h2,if_pos (List.mem_append_left _ h2)]
  ·rw[if_neg h2,if_neg (by
    intro h3;rcases List.mem_append.1 h3 with h3|h3
    ·exact h2 h3
    ·exact h1 (List.mem_singleton.1 h3).symm)]
theorem Pure.setHas {t el:TypeId} {zv:Value} [h:TMap C.P t el zv (bool false)] {b clock:Nat} {m:KV} {l:List (List UInt8)} {s:List UInt8} (hm:e.ev x=.atom (.map (some b))) (hx:e.ev y=str s) (hb:(b,.map (kvs m) clock)∈H) (hs:qdE m l) :
  Pure C ⟨dst,.lookup t x y false,ty,pos,aft,g⟩ e H (bool (decide (s∈l))):=by
 by_cases h1:s∈l
 ·rw[decide_eq_true h1];exact Pure.kvHit hm hx hb (by rw[hs s,if_pos h1])
 ·rw[decide_eq_false h1];exact Pure.kvMiss hm hx hb (by rw[hs s,if_neg h1])
end
end Go.GL
namespace Go.Proofs.YtdakelgkjdaijaaGreatDoor.Chk
open Go.GL Go.RowKit Go.Stele
structure KB where
 cb:Nat
 gm:Nat
 vm:Nat
 am:Nat
 fm:Nat
 om:Nat
 G:KV
 V:KV
 A:KV
 F:KV
 O:KV
 g1:Nat
 g2:Nat
 g3:Nat
 g4:Nat
 g5:Nat
 name:List UInt8
def qjg (f:FSum):LV:=.agg [int .i64 (f.params:Int),int .i64 (f.need:Int),int .i64 (f.depth:Int)]
structure KBok (k:KB) (c:CEnv):Prop where
 G:qdE k.G c.globals
 V:qdE k.V c.vars
 A:qdE k.A c.arrays
 O:qdE k.O c.own
 F:∀ n,GL.kvGet k.F n=(c.fn n).map qjg
def ckH (k:KB) (d:Nat):Heap:=[(k.cb,.cells 142 [.atom (.map (some k.gm)),.atom (.map (some k.vm)),.atom (.map (some k.am)),.atom (.map (some k.fm)),str k.name,.atom (.map (some k.om)),int .i64 (d:Int)]),(k.gm,.map (kvs k.G) k.g1),(k.vm,.map (kvs k.V) k.g2),(k.am,.map (kvs k.A) k.g3),(k.fm,.map (kvs k.F) k.g4),(k.om,.map (kvs k.O) k.g5)]
def qhz (err:Int) (lv:LV) (H':Heap) (r:LRes) (H:Heap):Prop:=(err=0/\r=.ret lv/\H=H')∨(err≠0/\(∃ nm,r=.panic (vio nm err))/\H=[])
section
variable {C:Ctx} {n:Nat} {e:Env} {H:Heap} {dst:Option Nat} {ty:TypeId} {pos:String} {aft:Array Edge} {g:Option (Nat×Bool)} {K:LV->Heap->Prop} {X:List PanicEntry->Heap->Prop}
theorem sK {err:Int} {lv:LV} {H1 H' F:Heap} {f:FuncId} [TEnter C.P f] (args:List Operand) {ats:Array TypeId} {av:List LV} (has:args.map e.ev=av) (hp:H.Perm (H1++F))
  (hc:LCalls C f av H1 (qhz err lv H')) (hk:err=0->K lv (H'++F)) (hx:∀ nm,err≠0->X (vio nm err) F):qad C ⟨dst,.call { callee:=.value (.func f),args:=args.toArray,argTypes:=ats },ty,pos,aft,g⟩ e H K X:=by
 refine S.callH args has hp hc ?_ ?_
 ·rintro v H2 (⟨h1,h2,rfl⟩|⟨_,⟨nm,h2⟩,_⟩)
  ·cases h2;exact hk h1
  ·cases h2
 ·rintro ch H2 (⟨_,h2,_⟩|⟨h1,⟨nm,h2⟩,rfl⟩)
  ·cases h2
  ·cases h2;exact hx nm h1
theorem qad.callK {err:Int} {lv:LV} {H':Heap} {f:FuncId} [TEnter C.P f] (args:List Operand) {ats:Array TypeId} {av:List LV} (has:args.map e.ev=av)
  (hc:LCalls C f av H (qhz err lv H')) (hk:err=0->K lv H') (hx:∀ nm,err≠0->X (vio nm err) []):qad C ⟨dst,.call { callee:=.value (.func f),args:=args.toArray,argTypes:=ats },ty,pos,aft,g⟩ e H K X:=by
 refine qad.conseq (sK (F:=[]) (K:=fun lv H'=>K lv H') (X:=X) args has (by rw[zLz]) hc (fun h=>by rw[zLz];exact hk h) hx) (fun lv H' h=>⟨lv,H',vR _,zhR _,h⟩)
theorem retK {err:Int} {lv:LV} {H':Heap} {rs:List ResultVar} {vs:List LV} (hd:e.ds=[]) (h:qbA C n e H rs vs) (he:err=0) (hv:qbq vs=lv) (hH:HSub H' H):qac C n rs (qhz err lv H') .ret e H:=
 rR hd h hH (.inl ⟨he,by rw[hv],rfl⟩)
theorem qvc {err:Int} {lv:LV} {H':Heap} {rs:List ResultVar} {vs:List LV} (hd:e.ds=[]) (h:qbA C n e H rs vs) (he:err=0) (hv:qbq vs=lv) (hH:HSub H' H):qac C n rs (qhz err lv H') .normal e H:=
 rO hd h hH (.inl ⟨he,by rw[hv],rfl⟩)
theorem panK {err er:Int} {lv:LV} {H':Heap} {rs:List ResultVar} {nm:List UInt8} (hd:e.ds=[]) (he:err=er) (h0:er≠0):qac C n rs (qhz err lv H') (.panic (vio nm er)) e H:=
 qac.panic hd zhn (.inr ⟨by rw[he];exact h0,⟨nm,by rw[he]⟩,rfl⟩)
end
attribute [local irreducible] LOps qae qad LCalls Go.GL.Pure qax qaj qac LQ LAny qaE qal LS
section
variable {B0:Nat} {w0:World}
theorem qaz (b:Bool) (nm:List UInt8) (er:Int) (h0:er≠0):LCalls (KC B0 w0) 122 [bool b,str nm,int .i64 er] [] (qhz (if b=true then 0 else er) (.tuple []) []):=
 LCalls.mono (qmy b nm er) fun r H ⟨h1,h2⟩=>by
  cases b with
  |true=>exact .inl ⟨rfl,h2,h1⟩
  |false=>exact .inr ⟨h0,⟨nm,h2⟩,h1⟩
theorem qbK {k:KB} {c:CEnv} (hk:KBok k c) (d:Nat) (name:List UInt8):LCalls (KC B0 w0) 239 [ptr k.cb 0,str name] (ckH k d) (qhz (qcA c name) (.tuple []) (ckH k d)):=by
 generalize hI:qcA c name=E;unfold qcA at hI;refine cI Tryz.func239 rfl (n:=34) rfl rfl rfl ?_;refine gaa ?_;refine oP (Pure.setHas rfl rfl zm2 hk.V) rfl ?_;have both:∀ {e:Env} {Q:Post} {ops:Array Oper} {rest:List Oper} {n:Nat},True:=fun {_ _ _ _ _}=>trivial;refine oB 10 rfl (fun h1=>?_) (fun h1=>?_)
 ·have hin:name∈c.vars∨name∈c.own:=.inl (zt h1);refine gaa ?_;refine oS (sK (H1:=[]) (F:=ckH k d) [_,_,_] rfl zpr (qaz true name 10 zDd) (fun _=>?_) (fun nm h=>absurd rfl h)) rfl;refine gap ?_;refine oS (sK (H1:=[]) (F:=ckH k d) [_,_,_] rfl zpr (qaz true name 7 zDd) (fun _=>?_) (fun nm h=>absurd rfl h)) rfl;refine gaf ?_;exact qvc rfl rN (by rw[<-hI,if_pos hin]) rfl zhr
 have hv:name ∉ c.vars:=zf h1;refine gab ?_;refine oP (Pure.setHas rfl rfl zm5 hk.O) rfl ?_;refine oB 17 rfl (fun h2=>?_) (fun h2=>?_)
 ·have hin:name∈c.vars∨name∈c.own:=.inr (zt h2);refine gaa ?_;refine oS (sK (H1:=[]) (F:=ckH k d) [_,_,_] rfl zpr (qaz true name 10 zDd) (fun _=>?_) (fun nm h=>absurd rfl h)) rfl;refine gap ?_;refine oS (sK (H1:=[]) (F:=ckH k d) [_,_,_] rfl zpr (qaz true name 7 zDd) (fun _=>?_) (fun nm h=>absurd rfl h)) rfl;refine gaf ?_;exact qvc rfl rN (by rw[<-hI,if_pos hin]) rfl zhr
 have ho:name ∉ c.own:=zf h2;rw[if_neg (fun h=>h.elim hv ho)] at hI;refine gaa ?_;refine oP (Pure.setHas rfl rfl zm1 hk.G) rfl ?_;refine oB 26 rfl (fun h3=>?_) (fun h3=>?_)
 ·rw[if_pos (zt h3)] at hI;refine gad ?_;refine oS (sK (H1:=[]) (F:=ckH k d) [_,_,_] rfl zpr (qaz false name 10 zDd) (fun h=>absurd h zDd) (fun nm _ e' he'=>?_)) rfl;refine gak ?_;exact panK (he'.trans rfl) (by rw[<-hI];rfl) zDd
 ·rw[if_neg (zf h3)] at hI;refine gad ?_;refine oS (sK (H1:=[]) (F:=ckH k d) [_,_,_] rfl zpr (qaz true name 10 zDd) (fun _=>?_) (fun nm h=>absurd rfl h)) rfl;refine gap ?_;refine oS (sK (H1:=[]) (F:=ckH k d) [_,_,_] rfl zpr (qaz false name 7 zDd) (fun h=>absurd h zDd) (fun nm _ e' he'=>?_)) rfl;exact panK (he'.trans rfl) (by rw[<-hI];rfl) zDd
theorem qer {k:KB} {c:CEnv} (hk:KBok k c) (d:Nat) (name:List UInt8):LCalls (KC B0 w0) 240 [ptr k.cb 0,str name] (ckH k d) (qhz (qfF c name) (.tuple []) (ckH k d)):=by
 generalize hI:qfF c name=E;unfold qfF at hI;refine cI Tryz.func240 rfl (n:=35) rfl rfl rfl ?_;refine gaa ?_;refine oP (Pure.setHas rfl rfl zm3 hk.A) rfl ?_;refine oB 10 rfl (fun h1=>?_) (fun h1=>?_)
 ·refine gal ?_;refine oS (sK (H1:=[]) (F:=ckH k d) [_,_,_] rfl zpr (qaz true name 10 zDd) (fun _=>?_) (fun nm h=>absurd rfl h)) rfl;refine gap ?_;refine oS (sK (H1:=[]) (F:=ckH k d) [_,_,_] rfl zpr (qaz true name 7 zDd) (fun _=>?_) (fun nm h=>absurd rfl h)) rfl;refine gaf ?_;exact qvc rfl rN (by rw[<-hI,if_pos (zt h1)]) rfl zhr
 rw[if_neg (zf h1)] at hI;refine gaa ?_;refine oP (Pure.setHas rfl rfl zm1 hk.G) rfl ?_;refine oB 18 rfl (fun h2=>?_) (fun h2=>?_)
 ·have hin:name∈c.globals∨name∈c.own:=.inl (zt h2);refine gad ?_;refine oS (sK (H1:=[]) (F:=ckH k d) [_,_,_] rfl zpr (qaz false name 10 zDd) (fun h=>absurd h zDd) (fun nm _ e' he'=>?_)) rfl;refine gak ?_;exact panK (he'.trans rfl) (by rw[<-hI,if_pos hin];rfl) zDd
 refine gad ?_;refine oP (Pure.setHas rfl rfl zm5 hk.O) rfl ?_;refine oB 26 rfl (fun h3=>?_) (fun h3=>?_)
 ·have hin:name∈c.globals∨name∈c.own:=.inr (zt h3);refine gad ?_;refine oS (sK (H1:=[]) (F:=ckH k d) [_,_,_] rfl zpr (qaz false name 10 zDd) (fun h=>absurd h zDd) (fun nm _ e' he'=>?_)) rfl;refine gak ?_;exact panK (he'.trans rfl) (by rw[<-hI,if_pos hin];rfl) zDd
 rw[if_neg (fun h=>h.elim (zf h2) (zf h3))] at hI;refine gad ?_;refine oS (sK (H1:=[]) (F:=ckH k d) [_,_,_] rfl zpr (qaz true name 10 zDd) (fun _=>?_) (fun nm h=>absurd rfl h)) rfl;refine gap ?_;refine oS (sK (H1:=[]) (F:=ckH k d) [_,_,_] rfl zpr (qaz false name 7 zDd) (fun h=>absurd h zDd) (fun nm _ e' he'=>?_)) rfl;exact panK (he'.trans rfl) (by rw[<-hI];rfl) zDd
end
end Go.Proofs.YtdakelgkjdaijaaGreatDoor.Chk
namespace Go.Proofs.YtdakelgkjdaijaaGreatDoor.Chk
open Go.GL Go.RowKit Go.Stele
@[reducible] def iv (n:Nat):LV:=int .i64 (n:Int)
attribute [local irreducible] LOps qae qad LCalls Go.GL.Pure qax qaj qac LQ LAny qaE qal LS
section
variable {B0:Nat} {w0:World}
theorem qi6 {k:KB} {c:CEnv} (hk:KBok k c) {B D:Nat} (hB:KnB B D c.funcs) (hB8:B<=100000000) (hD8:D<=100000000) (d:Nat) (hd:d<=1000000000) (name:List UInt8) (ns:List Nat) (hl:ns.length<=2000000) (hns:∀ n∈ns,n<=1000000000) :
  LCalls (KC B0 w0) 251 [ptr k.cb 0,str name,.list (ns.map iv)] (ckH k d) (qhz (callE c name ns.length) (iv (qnl c name ns)) (ckH k (max d (qgC c qbG name)))):=by
 generalize hI:callE c name ns.length=E;generalize hN:qnl c name ns=N;generalize hDD:qgC c qbG name=DD;unfold callE at hI;unfold qnl at hN;unfold qgC at hDD;have hll:(ns.map iv).length=ns.length:=zLm _;refine cI Tryz.func251 rfl (n:=110) rfl rfl rfl ?_;refine gaa ?_
 by_cases hin:name=[105,110]
 ·rw[if_pos hin] at hI hN;rw[if_neg (fun h=>h.2.1 hin)] at hDD;subst hDD;refine oC rfl (fun _=>?_) (fun hc=>absurd hin (zf hc));refine gaa ?_;refine oS (sK (H1:=[]) (F:=ckH k d) [_,_,_] rfl zpr (qaz (decide (((ns.map iv).length:Int)=0)) name 1 zDd) (fun h=>?_) (fun nm h e' he'=>?_)) rfl
  ·have h0:ns.length=0:=by
    by_cases h1:((ns.map iv).length:Int)=0
    ·omega
    ·rw[decide_eq_false h1] at h;cases h
   refine gaa ?_;exact retK rfl (zra rfl) (by rw[<-hI,if_pos h0]) (by rw[<-hN];rfl) (by rw[Nat.max_zero];exact zhR _)
  ·have h0:¬ ns.length=0:=by
    intro h1;rw[decide_eq_true (show ((ns.map iv).length:Int)=0 by omega)] at h;exact h rfl
   rw[show (if decide (((ns.map iv).length:Int)=0)=true then (0:Int) else 1)=1 by rw[if_neg];simp only[zDe];omega];refine gae ?_;exact panK (he'.trans rfl) (by rw[<-hI,if_neg h0]) zDd
 rw[if_neg hin] at hI hN;refine oC rfl (fun hc=>absurd (zt hc) hin) (fun _=>?_);refine gas ?_
 by_cases hout:name=[111,117,116]
 ·rw[if_pos hout] at hI hN;rw[if_neg (fun h=>h.2.2 hout)] at hDD;subst hDD;refine oC rfl (fun _=>?_) (fun hc=>absurd hout (zf hc));refine gaa ?_;refine oS (sK (H1:=[]) (F:=ckH k d) [_,_,_] rfl zpr (qaz (decide (((ns.map iv).length:Int)=1)) name 1 zDd) (fun h=>?_) (fun nm h e' he'=>?_)) rfl
  ·have h0:ns.length=1:=by
    by_cases h1:((ns.map iv).length:Int)=1
    ·omega
    ·rw[decide_eq_false h1] at h;cases h
   obtain ⟨a,l,rfl⟩:∃ a l,ns=a::l:=by
    cases ns with
    |nil=>simp at h0
    |cons a l=>exact ⟨a,l,rfl⟩
   refine gaa ?_;refine oP (xR (el':=iv a) (cs:=[iv a]) rfl rfl zo rfl rfl rfl) rfl ?_;refine gad ?_;exact retK rfl (zra rfl) (by rw[<-hI,if_pos h0]) (by rw[<-hN];rfl) (by rw[Nat.max_zero];exact zhR _)
  ·have h0:¬ ns.length=1:=by
    intro h1;rw[decide_eq_true (show ((ns.map iv).length:Int)=1 by omega)] at h;exact h rfl
   rw[show (if decide (((ns.map iv).length:Int)=1)=true then (0:Int) else 1)=1 by rw[if_neg];simp only[zDe];omega];refine gae ?_;exact panK (he'.trans rfl) (by rw[<-hI,if_neg h0]) zDd
 rw[if_neg hout] at hI hN;rw[if_pos ⟨rfl,hin,hout⟩] at hDD;refine oC rfl (fun hc=>absurd (zt hc) hout) (fun _=>?_);refine gaa ?_;have hF:=hk.F name
 cases hfn:c.fn name with
 |none=>
  rw[hfn] at hI hF;refine oP (Pure.kvMiss2 rfl rfl zm4 hF) rfl ?_;refine gad ?_;refine oS (sA fun b7=>?_) rfl;refine gac ?_;refine oP (Pure.setHas rfl rfl zm3 hk.V) rfl ?_;refine oB 46 rfl (fun h2=>?_) (fun h2=>?_)
  ·have hbad:name∈c.vars∨name∈c.arrays∨name∈c.own:=.inl (zt h2);refine gad ?_;refine oS (sK (H1:=[]) (F:=_::ckH k d) [_,_,_] rfl zpr (qaz false name 10 zDd) (fun h=>absurd h zDd) (fun nm _ e' he'=>?_)) rfl;refine gak ?_;exact panK (he'.trans rfl) (by rw[<-hI];exact if_pos hbad) zDd
  refine gad ?_;refine oP (Pure.setHas rfl rfl zm4 hk.A) rfl ?_;refine oB 54 rfl (fun h3=>?_) (fun h3=>?_)
  ·have hbad:name∈c.vars∨name∈c.arrays∨name∈c.own:=.inr (.inl (zt h3));refine gad ?_;refine oS (sK (H1:=[]) (F:=_::ckH k d) [_,_,_] rfl zpr (qaz false name 10 zDd) (fun h=>absurd h zDd) (fun nm _ e' he'=>?_)) rfl;refine gak ?_;exact panK (he'.trans rfl) (by rw[<-hI];exact if_pos hbad) zDd
  refine gad ?_;refine oP (Pure.setHas rfl rfl zm6 hk.O) rfl ?_;refine oB 63 rfl (fun h4=>?_) (fun h4=>?_)
  ·have hbad:name∈c.vars∨name∈c.arrays∨name∈c.own:=.inr (.inr (zt h4));refine gad ?_;refine oS (sK (H1:=[]) (F:=_::ckH k d) [_,_,_] rfl zpr (qaz false name 10 zDd) (fun h=>absurd h zDd) (fun nm _ e' he'=>?_)) rfl;refine gak ?_;exact panK (he'.trans rfl) (by rw[<-hI];exact if_pos hbad) zDd
  refine gad ?_;refine oS (sK (H1:=[]) (F:=_::ckH k d) [_,_,_] rfl zpr (qaz true name 10 zDd) (fun _=>?_) (fun nm h=>absurd rfl h)) rfl;refine gap ?_;refine oS (sK (H1:=[]) (F:=_::ckH k d) [_,_,_] rfl zpr (qaz false name 7 zDd) (fun h=>absurd h zDd) (fun nm _ e' he'=>?_)) rfl;refine gak ?_
  exact panK (he'.trans rfl) (by rw[<-hI];exact if_neg (fun h=>h.elim (zf h2) (fun h=>h.elim (zf h3) (zf h4)))) zDd
 |some f=>
  rw[hfn] at hI hF hN hDD;have hkb:=hB f (List.mem_of_find?_eq_some hfn);refine oP (Pure.kvHit2 rfl rfl zm4 hF) rfl ?_;refine gad ?_;refine oS (sA fun b7=>?_) rfl;refine gal ?_;refine oS (sK (H1:=[]) (F:=_::ckH k d) [_,_,_] rfl zpr (qaz true name 10 zDd) (fun _=>?_) (fun nm h=>absurd rfl h)) rfl;refine gap ?_;refine oS (sK (H1:=[]) (F:=_::ckH k d) [_,_,_] rfl zpr (qaz true name 7 zDd) (fun _=>?_) (fun nm h=>absurd rfl h)) rfl;refine gaa ?_
  by_cases h0:ns.length=f.params
  rotate_left
  ·have h0':¬ ((ns.map iv).length:Int)=(f.params:Int):=by omega
   refine oB 76 rfl (fun h=>absurd (zt h) h0') (fun _=>?_);refine oS (sK (H1:=[]) (F:=_::ckH k d) [_,_,_] rfl zpr (qaz false name 1 zDd) (fun h=>absurd h zDd) (fun nm _ e' he'=>?_)) rfl;refine gak ?_;exact panK (he'.trans rfl) (by rw[<-hI];exact if_neg h0) zDd
  have h0':((ns.map iv).length:Int)=(f.params:Int):=by omega
  refine oB 76 rfl (fun _=>?_) (fun h=>absurd h0' (zf h));have hI0:E=0:=by rw[<-hI];exact if_pos h0
  refine oS (sK (H1:=[]) (F:=_::ckH k d) [_,_,_] rfl zpr (qaz true name 1 zDd) (fun _=>?_) (fun nm h=>absurd rfl h)) rfl;refine gab ?_;refine cD (m:=12) rfl [(b7,.cells 198 [iv f.params,iv f.need,iv f.depth])] ?_;refine zQ48 ?_;refine aT 7 rfl rfl (Pure.add rfl rfl zo) ?_;refine aL ?_ zhp;refine lO 4 (lH rfl rfl (pL (c:=iv d) rfl zm1 rfl) ?_);refine lO 8 (lH rfl rfl (Pure.max2e d (f.depth+1) rfl rfl zo zo) ?_);refine lO 9 (lH rfl rfl (pN rfl) ?_);refine lO 10 (lH rfl rfl (pF rfl) ?_);refine lO 11 (lS (H1:=[(k.cb,.cells 142 [.atom (.map (some k.gm)),.atom (.map (some k.vm)),.atom (.map (some k.am)),.atom (.map (some k.fm)),str k.name,.atom (.map (some k.om)),int .i64 (d:Int)])]) rfl (.inl rfl) rfl (show Pick _ _ _ from pT pH) zhp (sS (n:=1) (cs':=[_,_,_,_,_,_,iv (max d (f.depth+1))]) rfl pH rfl rfl rfl rfl rfl ?_));refine lD zk ?_;have hdd:max d DD=max d (f.depth+1):=by rw[<-hDD]
  rw[hdd];refine qN ?_;refine qae.perm (H':=(b7,.cells 198 [iv f.params,iv f.need,iv f.depth])::ckH k (max d (f.depth+1))) (List.Perm.swap _ _ _) ?_;refine gaa ?_;refine oP (Pure.max2e (f.params+1) f.need rfl rfl zo zo) rfl ?_;refine gaa ?_
  refine oL (fun kk ls H'=>∃ (pre l1:List Nat) (m:Nat),ns=pre++l1/\kk=l1.length/\ls=[(9,iv m),(96,.list (ns.map iv)),(97,int .i64 ((ns.map iv).length:Int)),(98,iv pre.length)]/\H'=ckH k (max d (f.depth+1))/\qmh pre.length l1 m=N)
   ⟨ns.length,_,_,⟨[],ns,max (f.params+1) f.need,rfl,rfl,rfl,rfl,hN⟩,⟨rfl,rfl,rfl,rfl,trivial⟩,zhD zhr⟩ ?_
  rintro kk ls H' ⟨pre,l1,m,hLe,rfl,rfl,rfl,hS⟩ j hj
  have hb2:pre.length<=2000000:=by
   rw[hLe,zLa] at hl;omega
  refine gaj ?_;refine oC rfl (fun hc=>?_) (fun hc=>?_)
  ·have hlen:=zt hc;rw[zLm,hLe,zLa] at hlen
   obtain ⟨a,l2,rfl⟩:∃ a l2,l1=a::l2:=by
    cases l1 with
    |nil=>simp at hlen
    |cons a l2=>exact ⟨a,l2,rfl⟩
   have ha:a<=1000000000:=hns a (by rw[hLe];exact List.mem_append_right _ zMs);rw[qmh] at hS;refine gaa ?_;refine oP (xR (el':=iv a) (cs:=[iv a]) rfl rfl zo (by rw[hLe];exact get_mid iv pre a l2) rfl rfl) rfl ?_;refine gac ?_;refine oP (Pure.max2e m (pre.length+a) rfl rfl zo zo) rfl ?_;refine gaa ?_;exact ⟨l2.length,_,_,Nat.lt_succ_self _,⟨pre++[a],l2,max m (pre.length+a),by rw[hLe];simp,rfl,rfl,rfl,by rw[zLa];exact hS⟩,⟨rfl,rfl,rfl,qak (by simp),trivial⟩,zhR _,hj⟩
  ·have hlen:=zf hc;rw[zLm,hLe,zLa] at hlen
   obtain rfl:l1=[]:=by
    cases l1 with
    |nil=>rfl
    |cons a l2=>simp at hlen;omega
   rw[qmh] at hS;refine gaa ?_;exact retK hj (zra rfl) hI0 (by rw[<-hS];rfl) zhr
end
end Go.Proofs.YtdakelgkjdaijaaGreatDoor.Chk
namespace Go.Proofs.YtdakelgkjdaijaaGreatDoor.Chk
open Go.GL Go.RowKit Go.Stele
theorem qos {x y:Nat×LObj} {A B:Heap}:List.Perm (x::y::(A++B)) (A++(x::y::B)):=by
 have h:List.Perm (([x,y]++A)++B) ((A++[x,y])++B):=zPc.append_right B;rw[zAs A] at h;exact h
theorem qjQ {x:Nat×LObj} {A B:Heap}:List.Perm (x::(A++B)) (A++(x::B)):=by
 have h:List.Perm (([x]++A)++B) ((A++[x])++B):=zPc.append_right B;rw[zAs A] at h;exact h
theorem quH {x y:Nat×LObj} {A B:Heap}:List.Perm (A++(x::y::B)) (B++(x::y::A)):=by
 refine qos.symm.trans ?_;exact (zPc (l₁:=x::y::A) (l₂:=B))
theorem qwV (n:Nat):∀ v∈[iv n],v.cells.length=1:=fun v hv=>by rw[List.mem_singleton.1 hv];rfl
theorem qhk (c:CEnv):∀ l:List Ex,(qbN c l).length=l.length
 |[]=>rfl
 |x::l=>by rw[qbN,zLc,zLc,qhk c l]
theorem qkf (c:CEnv) (x:Ex):∀ l:List Ex,qbN c (l++[x])=qbN c l++[qdr c x]
 |[]=>rfl
 |y::l=>by
  show qbN c (y::(l++[x]))=_;rw[qbN,qkf c x l,qbN];rfl
theorem qmE (c:CEnv) (x:Ex):∀ l:List Ex,qde c (l++[x])=max (qde c l) (depE c x)
 |[]=>by
  show max (depE c x) 0=max 0 (depE c x)
  omega
 |y::l=>by
  show qde c (y::(l++[x]))=_;rw[qde,qmE c x l,qde,Nat.max_assoc]
theorem qks {c:CEnv} {B D:Nat} (hB:KnB B D c.funcs):∀ {l:List Ex} {n:Nat},n∈qbN c l->n<=4 * ndEs l+B
 |[],n,h=>by rw[qbN] at h;cases h
 |x::l,n,h=>by
  rw[qbN] at h;rw[ndEs];rcases zMi.1 h with rfl|h
  ·have:=qf2 B D c hB x;omega
  ·have:=qks hB h;omega
attribute [local irreducible] LOps qae qad LCalls Go.GL.Pure qax qaj qac LQ LAny qaE qal LS
section
variable {B0:Nat} {w0:World}
def qv1 (B0:Nat) (w0:World) (k:KB) (c:CEnv) (n:Nat):Prop:=∀ (x:Ex) (d:Nat),ndE x<=n->d<=200000000->LCalls (KC B0 w0) 238 [ptr k.cb 0,encE x] (ckH k d) (qhz (errE c x) (iv (qdr c x)) (ckH k (max d (depE c x))))
theorem qd3 {k:KB} {c:CEnv} (hk:KBok k c) {B D:Nat} (hB:KnB B D c.funcs) (hB8:B<=100000000) (hD8:D<=100000000):∀ n:Nat,n<=2000000->qv1 B0 w0 k c n
 |0,_=>fun x d h _=>by have:=qlu x;omega
 |n+1,hn6=>by
  have ih:=qd3 hk hB hB8 hD8 n zo;intro x d hnd hd;obtain ⟨op,num,name,args⟩:=x;rw[ndE] at hnd;have hal:=qf1 args;have hall:(args.map encE).length=args.length:=zLm _;generalize hI:errE c (Ex.mk op num name args)=E;rw[errE] at hI;rw[qdr,depE];rw[qcx];refine cI Tryz.func238 rfl (n:=121) rfl rfl rfl ?_;refine gah ?_;refine oS (sB rfl fun b3=>?_) rfl;refine gaa ?_;refine oS (sF [_] rfl (qlz op) ?_) rfl;refine gab ?_;refine cM (A:=Unit) (fun _=>[(0,ptr k.cb 0),(3,ptr b3 0)]) (fun _=>(b3,.cells 193 [str op,int .u32 (num:Int),str name,.list (args.map encE)])::ckH k d) (fun _=>qci op = -1∨qci op=args.length) ?_ (fun _ hop j hj=>?_)
  ·refine cD (m:=14) rfl [(b3,.cells 193 [str op,int .u32 (num:Int),str name,.list (args.map encE)]),(k.cb,.cells 142 [.atom (.map (some k.gm)),.atom (.map (some k.vm)),.atom (.map (some k.am)),.atom (.map (some k.fm)),str k.name,.atom (.map (some k.om)),int .i64 (d:Int)])] ?_;refine aT 0 rfl rfl (pM (lv:=.atom _) rfl) ?_
   by_cases h1:qci op = -1
   ·refine LAny.take (i:=1) (zhP pH zhp) rfl zk zk zk rfl (Pure.eqlT h1 rfl rfl) ?_;refine zQ39 ?_;refine zQ37 ?_;refine LAny.takeSkip (i:=7) rfl rfl rfl rfl zk zk zk rfl ?_;refine aT 8 rfl rfl (Pure.pickT (lv:=.atom _) rfl rfl) ?_;refine zQ19 ?_;refine lO 13 (lS (H1:=[]) rfl (.inl rfl) rfl zpr (zhP pH zhp) (qad.callK [_,_,_] rfl (qaz true k.name 3 zDd) (fun _=>?_) (fun nm h=>absurd rfl h)));refine lD zk ?_;refine qN ?_;exact ⟨(),.inl h1,⟨rfl,rfl,trivial⟩,zhR _,rfl⟩
   ·refine LAny.take (i:=1) (zhP pH zhp) rfl zk zk zk rfl (Pure.eqlF h1 rfl rfl) ?_;refine zQ39 ?_;refine LAny.tkW 3 rfl rfl rfl rfl (pM (lv:=.atom _) rfl) ?_;refine LAny.tkW 4 rfl rfl rfl rfl (pF rfl) ?_;refine LAny.tkW 5 rfl rfl rfl rfl (pL (c:=.list _) rfl zm0 rfl) ?_;refine LAny.tkW 6 rfl rfl rfl rfl (Pure.llen rfl) ?_
    by_cases h2:qci op=args.length
    ·refine LAny.takeWant (i:=7) (zhP pH zhp) rfl rfl rfl zk zk zk rfl (Pure.eqlT (show qci op=((args.map encE).length:Int) by rw[hall];exact h2) rfl rfl) ?_;refine aT 8 rfl rfl (Pure.pickF (lv:=.atom _) rfl rfl) ?_;refine zQ19 ?_;refine lO 13 (lS (H1:=[]) rfl (.inl rfl) rfl zpr (zhP pH zhp) (qad.callK [_,_,_] rfl (qaz true k.name 3 zDd) (fun _=>?_) (fun nm h=>absurd rfl h)));refine lD zk ?_;refine qN ?_;exact ⟨(),.inr h2,⟨rfl,rfl,trivial⟩,zhR _,rfl⟩
    ·refine LAny.takeWant (i:=7) (zhP pH zhp) rfl rfl rfl zk zk zk rfl (Pure.eqlF (show ¬ qci op=((args.map encE).length:Int) by rw[hall];exact h2) rfl rfl) ?_;refine aT 8 rfl rfl (Pure.pickF (lv:=.atom _) rfl rfl) ?_;refine zQ19 ?_;refine lO 13 (lS (H1:=[]) rfl (.inl rfl) rfl zpr (zhP pH zhp) (qad.callK [_,_,_] rfl (qaz false k.name 3 zDd) (fun h=>absurd h zDd) (fun nm _ e' he'=>?_)));refine gak ?_;exact panK (he'.trans rfl) (by rw[<-hI,if_neg (fun h=>h.elim h1 h2)];rfl) zDd
  rw[if_pos hop] at hI;refine gaa ?_
  refine oL (fun kk ls H'=>∃ (pre l1:List Ex) (v:LV) (Ha:Heap),args=pre++l1/\kk=l1.length/\ls=[(0,ptr k.cb 0),(3,ptr b3 0),(6,v),(29,.list (args.map encE)),(30,int .i64 ((args.map encE).length:Int)),(31,int .i64 (pre.length:Int))] /\
    H'=(b3,.cells 193 [str op,int .u32 (num:Int),str name,.list (args.map encE)])::(ckH k (max d (qde c pre))++Ha)/\GL.Acc 1 v ((qbN c pre).map iv) Ha []/\orE (qb6 c l1) (useE c op name args.length)=E)
   ⟨args.length,_,_,⟨[],args,qab,[],rfl,rfl,rfl,rfl,Acc.nil,hI⟩,⟨rfl,rfl,rfl,rfl,rfl,rfl,trivial⟩,⟨[],by
    rw[zLz,zLz,qde,Nat.max_zero]⟩⟩ ?_
  rintro kk ls H' ⟨pre,l1,v,Ha,hLe,rfl,rfl,rfl,hacc,hI2⟩ j2 hj2
  have hb2:pre.length<=2000000:=by
   have:=congrArg List.length hLe;rw[zLa] at this;omega
  have hdp:max d (qde c pre)<=200000000:=by
   have:=qgL B D c hB pre;omega
  refine gaj ?_;refine oC rfl (fun hc=>?_) (fun hc=>?_)
  ·have hlen:=zt hc;rw[zLm,hLe,zLa] at hlen
   obtain ⟨a,l2,rfl⟩:∃ a l2,l1=a::l2:=by
    cases l1 with
    |nil=>simp at hlen
    |cons a l2=>exact ⟨a,l2,rfl⟩
   have ham:ndE a<=ndEs args:=qkB (by rw[hLe];exact List.mem_append_right _ zMs);rw[qb6] at hI2;refine gam ?_;refine oP (xR (el':=encE a) (cs:=[_,_,_,_]) rfl rfl zo (by rw[hLe];exact get_mid encE pre a l2) rfl rfl) rfl ?_;refine gad ?_;refine oS (sA fun b8=>?_) rfl;refine gac ?_;refine zQ17 ?_;refine gad ?_;refine oS (sK [_,_] rfl qos (ih a _ zo hdp) (fun h0=>?_) (fun nm h0 e' he'=>?_)) rfl
   ·rw[h0] at hI2;refine oS (sL (es:=[iv (qdr c a)]) [_] rfl (eC rfl rfl eN) rfl rfl rfl ?_) rfl;refine oS (sG quH rfl hacc rfl (qwV _) rfl (by rw[zLm,qhk,zLc,zLn];omega) fun v' Ha' hacc'=>?_) rfl;refine zQ30 ?_;refine gan ?_
    exact ⟨l2.length,_,_,Nat.lt_succ_self _,⟨pre++[a],l2,v',Ha',by rw[hLe];simp,rfl,rfl,rfl,by rw[qkf,zMa];exact hacc',by rw[<-hI2];rfl⟩,⟨rfl,rfl,rfl,rfl,rfl,qak (by simp),trivial⟩,by
     rw[qmE,<-Nat.max_assoc]
     exact zhD zhr,hj2⟩
   ·refine gae ?_;exact panK ((he'.trans hj2).trans hj) (by rw[<-hI2];unfold orE;rw[if_pos h0,if_pos h0]) h0
  have hlen:=zf hc;rw[zLm,hLe,zLa] at hlen
  obtain rfl:l1=[]:=by
   cases l1 with
   |nil=>rfl
   |cons a l2=>simp at hlen;omega
  rw[zLz] at hLe;subst hLe;have hI3:useE c op name args.length=E:=by rw[<-hI2];rfl
  have hds:j2.ds=[]:=hj2.trans hj;generalize hd1:max d (qde c args)=d1 at hdp ⊢;have hdd:max d (max (qde c args) (qgC c op name))=max d1 (qgC c op name):=by rw[<-hd1,Nat.max_assoc]
  rw[hdd];generalize hns:qbN c args=ns at hacc ⊢;have hnl:ns.length=args.length:=by rw[<-hns,qhk]
  have hnb:∀ m∈ns,m<=1000000000:=fun m hm=>by
   rw[<-hns] at hm;have:=qks hB hm;omega
  have hel:=hacc.elems;refine gaa ?_
  have ret1:∀ (nd:LV) {e:Env} {H:Heap},E=0->e.ds=[]->e.s 4=nd->HSub (ckH k d1) H->qgC c op name=0->iv (opN c op name ns)=nd->qac (KC B0 w0) 121 [ResultVar.tmp 4] (qhz E (iv (opN c op name ns)) (ckH k (max d1 (qgC c op name)))) .ret e H:=fun nd {e H} h0 hd he hH hcd hn=>by
   rw[hcd,Nat.max_zero];exact retK hd (rC (rT he zsr) rN) h0 hn.symm hH
  have hcall0:¬ op=qbG->qgC c op name=0:=fun h=>by
   unfold qgC;rw[if_neg (fun h2=>h h2.1)]
  have hE0:¬ op=nVar->¬ op=qcY->¬ op=qbG->E=0:=fun a1 a2 a3=>by
   rw[<-hI3];unfold useE;rw[if_neg a1,if_neg a2,if_neg a3]
  have HS:HSub (ckH k d1) ((b3,.cells 193 [str op,int .u32 (num:Int),str name,.list (args.map encE)])::(ckH k d1++Ha)):=zhD qaF
  by_cases h1:op=[110,117,109]
  ·refine oC rfl (fun _=>?_) (fun hc=>absurd h1 (zf hc));refine gaa ?_;refine ret1 (iv 1) ?_ ?_ ?_ ?_ ?_ ?_
   ·subst h1;exact hE0 zDd zDd zDd
   ·exact hds
   ·rfl
   ·exact HS
   ·subst h1;exact hcall0 zDd
   ·subst h1;rfl
  refine oC rfl (fun hc=>absurd (zt hc) h1) (fun _=>?_);refine gas ?_
  by_cases h2:op=[118,97,114]
  ·refine oC rfl (fun _=>?_) (fun hc=>absurd h2 (zf hc));have hI4:qcA c name=E:=by rw[<-hI3];subst h2;rfl
   refine gaa ?_;refine oS (sK [_,_] rfl qjQ (qbK hk d1 name) (fun h0=>?_) (fun nm h0 e' he'=>?_)) rfl
   ·rw[hI4] at h0;refine gaa ?_;refine ret1 (iv 1) h0 ?_ ?_ ?_ ?_ ?_
    ·exact hds
    ·rfl
    ·exact qaF
    ·subst h2;exact hcall0 zDd
    ·subst h2;rfl
   ·refine gae ?_;exact panK (he'.trans hds) hI4.symm h0
  refine oC rfl (fun hc=>absurd (zt hc) h2) (fun _=>?_);refine gas ?_
  by_cases h3:op=[101,108,101,109]
  ·refine oC rfl (fun _=>?_) (fun hc=>absurd h3 (zf hc));have hI4:qfF c name=E:=by rw[<-hI3];subst h3;rfl
   obtain ⟨n0,rfl⟩:∃ n0,ns=[n0]:=by
    have h9:ns.length=1:=by
     rcases hop with h|h
     ·subst h3;exact absurd h zDd
     ·subst h3;have h9:(1:Int)=(args.length:Int):=h;omega
    cases ns with
    |nil=>cases h9
    |cons a l=>
     cases l with
     |nil=>exact ⟨a,rfl⟩
     |cons b l=>simp at h9
   have hn0:=hnb n0 zMs;refine gaa ?_;refine oS (sK [_,_] rfl qjQ (qer hk d1 name) (fun h0=>?_) (fun nm h0 e' he'=>?_)) rfl
   ·rw[hI4] at h0;refine gaj ?_;refine zQ47 ?_;refine ret1 (int .i64 (1+(n0:Int))) h0 ?_ ?_ ?_ ?_ ?_
    ·exact hds
    ·rfl
    ·exact qaF
    ·subst h3;exact hcall0 zDd
    ·subst h3;exact qak (show ((1+n0:Nat):Int)=_ by omega)
   ·refine gae ?_;exact panK (he'.trans hds) hI4.symm h0
  refine oC rfl (fun hc=>absurd (zt hc) h3) (fun _=>?_);refine gas ?_
  by_cases h4:op=[99,97,108,108]
  ·refine oC rfl (fun _=>?_) (fun hc=>absurd h4 (zf hc));have hI4:callE c name ns.length=E:=by rw[<-hI3,hnl];subst h4;rfl
   have hN4:opN c op name ns=qnl c name ns:=by subst h4;rfl
   have hD4:qgC c op name=qgC c qbG name:=by subst h4;rfl
   refine gaa ?_;refine zQ17 ?_;refine LOps.sub 67 rfl hacc.sub ?_;refine oS (sK [_,_,_] rfl qjQ (qi6 hk hB hB8 hD8 d1 zo name ns zo hnb) (fun h0=>?_) (fun nm h0 e' he'=>?_)) rfl
   ·rw[hI4] at h0;refine gab ?_;rw[hN4,hD4];exact retK hds (zra rfl) h0 rfl qaF
   ·refine gae ?_;exact panK (he'.trans hds) hI4.symm h0
  refine oC rfl (fun hc=>absurd (zt hc) h4) (fun _=>?_);have hE00:=hE0 h2 h3 h4;have hcd:=hcall0 h4;refine gas ?_
  by_cases h5:op=[110,101,103]
  ·refine oC rfl (fun _=>?_) (fun hc=>absurd h5 (zf hc))
   obtain ⟨n0,rfl⟩:∃ n0,ns=[n0]:=by
    have h9:ns.length=1:=by
     rcases hop with h|h
     ·subst h5;exact absurd h zDd
     ·subst h5;have h9:(1:Int)=(args.length:Int):=h;omega
    cases ns with
    |nil=>cases h9
    |cons a l=>
     cases l with
     |nil=>exact ⟨a,rfl⟩
     |cons b l=>simp at h9
   have hn0:=hnb n0 zMs;refine gah ?_;refine zQ47 ?_;refine ret1 (int .i64 (1+(n0:Int))) hE00 ?_ ?_ ?_ hcd ?_
   ·exact hds
   ·rfl
   ·exact HS
   ·subst h5;exact qak (show ((1+n0:Nat):Int)=_ by omega)
  refine oC rfl (fun hc=>absurd (zt hc) h5) (fun _=>?_);have h5n:=h5;clear h5;refine gas ?_
  by_cases h5:op=[110,111,116]
  ·refine oC rfl (fun _=>?_) (fun hc=>absurd h5 (zf hc))
   obtain ⟨n0,rfl⟩:∃ n0,ns=[n0]:=by
    have h9:ns.length=1:=by
     rcases hop with h|h
     ·subst h5;exact absurd h zDd
     ·subst h5;have h9:(1:Int)=(args.length:Int):=h;omega
    cases ns with
    |nil=>cases h9
    |cons a l=>
     cases l with
     |nil=>exact ⟨a,rfl⟩
     |cons b l=>simp at h9
   have hn0:=hnb n0 zMs;refine gah ?_;refine zQ47 ?_;refine oP (Pure.max2e 2 n0 rfl rfl rfl rfl) rfl ?_;refine gab ?_;refine ret1 (iv (max 2 n0)) hE00 ?_ ?_ ?_ hcd ?_
   ·exact hds
   ·rfl
   ·exact HS
   ·subst h5;rfl
  refine oC rfl (fun hc=>absurd (zt hc) h5) (fun _=>?_)
  have hbin:ns.length=2:=by
   unfold qci at hop;rw[if_neg (fun h=>h.elim h1 h2),if_neg (fun h=>h.elim h3 (fun h=>h.elim h5n h5)),if_neg (show ¬ op=qbG from h4)] at hop;split at hop
   ·rcases hop with h|h <;> omega
   ·rcases hop with h|h <;> omega
  obtain ⟨a,b,rfl⟩:∃ a b,ns=[a,b]:=by
   match ns,hbin with
   |[a,b],_=>exact ⟨a,b,rfl⟩
  have ha:=hnb a zMs;have hb:=hnb b (zMo _ zMs);refine gab ?_;refine qae.quiet zk ?_;refine qP (pM (lv:=v) rfl) rfl ?_;refine qP (xR (el':=iv a) (cs:=[iv a]) hel rfl zo rfl rfl rfl) rfl ?_;refine gav ?_;refine qP (pM (lv:=v) rfl) rfl ?_;refine qP (xR (el':=iv b) (cs:=[iv b]) hel rfl zo rfl rfl rfl) rfl ?_;refine gac ?_
  by_cases h6:op=[62]
  ·refine oC rfl (fun _=>?_) (fun hc=>absurd h6 (zf hc));refine gaq ?_;refine oC rfl (fun _=>?_) (fun hc=>absurd h6 (zf hc));refine gaa ?_;refine oP (Pure.max3e 3 a (1+b) rfl rfl rfl rfl rfl zo) rfl ?_;refine gab ?_;refine ret1 (iv (max (max 3 a) (1+b))) hE00 ?_ ?_ ?_ hcd ?_
   ·exact hds
   ·rfl
   ·exact HS
   ·subst h6;rfl
  refine oC rfl (fun hc=>absurd (zt hc) h6) (fun _=>?_);have h6n:=h6;clear h6;refine gas ?_
  by_cases h6:op=[60,61]
  ·refine oC rfl (fun _=>?_) (fun hc=>absurd h6 (zf hc));refine gaa ?_;refine oP (Pure.max3e 3 a (1+b) rfl rfl rfl rfl rfl zo) rfl ?_;refine gab ?_;refine ret1 (iv (max (max 3 a) (1+b))) hE00 ?_ ?_ ?_ hcd ?_
   ·exact hds
   ·rfl
   ·exact HS
   ·subst h6;rfl
  refine oC rfl (fun hc=>absurd (zt hc) h6) (fun _=>?_);refine gas ?_
  by_cases h7:op=[33,61]
  ·refine oC rfl (fun _=>?_) (fun hc=>absurd h7 (zf hc));refine gaa ?_;refine oP (Pure.max3e 3 (1+a) (2+b) rfl rfl rfl rfl zo zo) rfl ?_;refine gab ?_;refine ret1 (iv (max (max 3 (1+a)) (2+b))) hE00 ?_ ?_ ?_ hcd ?_
   ·exact hds
   ·rfl
   ·exact HS
   ·subst h7;rfl
  refine oC rfl (fun hc=>absurd (zt hc) h7) (fun _=>?_);refine gas ?_
  by_cases h8:op=[38,38]
  ·refine oC rfl (fun _=>?_) (fun hc=>absurd h8 (zf hc));refine gaa ?_;refine oP (Pure.max2e (1+a) (2+b) rfl rfl zo zo) rfl ?_;refine gab ?_;refine ret1 (iv (max (1+a) (2+b))) hE00 ?_ ?_ ?_ hcd ?_
   ·exact hds
   ·rfl
   ·exact HS
   ·subst h8;rfl
  refine oC rfl (fun hc=>absurd (zt hc) h8) (fun _=>?_);refine gas ?_
  by_cases h9:op=[124,124]
  ·refine oC rfl (fun _=>?_) (fun hc=>absurd h9 (zf hc));refine gaa ?_;refine oP (Pure.max2e (2+a) (3+b) rfl rfl zo zo) rfl ?_;refine gab ?_;refine ret1 (iv (max (2+a) (3+b))) hE00 ?_ ?_ ?_ hcd ?_
   ·exact hds
   ·rfl
   ·exact HS
   ·subst h9;rfl
  refine oC rfl (fun hc=>absurd (zt hc) h9) (fun _=>?_);refine gaa ?_;refine oP (Pure.max3e 2 a (1+b) rfl rfl rfl rfl rfl zo) rfl ?_;refine gaf ?_;refine ret1 (iv (max (max 2 a) (1+b))) hE00 ?_ ?_ ?_ hcd ?_
  ·exact hds
  ·rfl
  ·exact HS
  ·unfold opN;rw[if_neg (fun h=>h.elim h1 h2),if_neg (fun h=>h.elim h3 h5n),if_neg (show ¬ op=qbG from h4),if_neg (show ¬ op=nNot from h5),if_neg (fun h=>h.elim h6n h6),if_neg h7,if_neg h8,if_neg h9];rfl
end
end Go.Proofs.YtdakelgkjdaijaaGreatDoor.Chk
