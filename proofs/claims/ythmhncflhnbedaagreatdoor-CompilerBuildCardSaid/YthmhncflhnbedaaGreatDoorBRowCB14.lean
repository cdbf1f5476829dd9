/- Texts joined: RC10, RPar1, RPar2, RPar3, RPar4, RPar5, RPar6, RPar7, RPar8. -/
import Derived.Test.YthmhncflhnbedaaGreatDoorBRowCB3
import Derived.Test.YthmhncflhnbedaaGreatDoorBRowCB4
import Derived.Test.YthmhncflhnbedaaGreatDoorBRowCB6
import Derived.Test.YthmhncflhnbedaaGreatDoorBRowCB12
set_option linter.unusedVariables false
set_option linter.unusedSimpArgs false
set_option maxRecDepth 100000
set_option maxHeartbeats 4000000
namespace Go.Proofs.YthmhncflhnbedaaGreatDoor.RC
open Go.GL Go.RowKit Go.Stele
open Chk (encArG encPrG qdh qfw qeD qfM qg3)
@[reducible] def pgmH (b:Nat) (vars:List Nm) (arrays:List (Nm×Int)) (fs:List FnD):Nat×LObj:=prH b vars (.list (arrays.map encArG)) fs
def qsD (e:Int) (r:LRes) (H:Heap):Prop:=H=[]/\∃ nm,r=.ret (.tuple [str nm,int .i64 e])
section
variable {C:Ctx} {n:Nat} {e:Env} {H:Heap}
theorem retC {rs:List ResultVar} {vs:List LV} {nm:Nm} {er:Int} (hd:e.ds=[]) (h:qbF C n e H rs vs) (hv:qbv vs=.tuple [str nm,int .i64 er]):qah C n rs (qsD er) .ret e H:=
 rR hd h zhn ⟨rfl,nm,by rw[hv]⟩
end
theorem qqy (vars arrays later:List Nm) (fs:List FnD):(qdx vars arrays later [] fs).length=fs.length:=by
 have:=congrArg List.length (qdf vars arrays later fs []);simpa using this
theorem qmF {A B:Type} (g:A->B) {l:List A} {x:A} {n:Nat} (h:l.getLast? = some x) (hn:l.length=n):(l.map g)[((n:Int)-1).toNat]? = some (g x):=by
 rw[List.getLast?_eq_getElem?] at h;subst hn;rw[List.getElem?_map,show ((l.length:Int)-1).toNat=l.length-1 by omega,h];rfl
attribute [local irreducible] LOps qae qag LCalls Go.GL.Pure qaA qaq qah LQ LAny qaF qap LS
section
variable {B0:Nat} {w0:World}
theorem rcheck_spec (vars:List Nm) (arrays:List (Nm×Int)) (fs:List FnD) (hv6:vars.length<=2000000) (ha6:arrays.length<=2000000) (har:∀ a∈arrays,-9223372036854775808<=a.2/\a.2<9223372036854775808) (hnd:ndFs fs<=2000000) :
  LCalls (KC B0 w0) 36 [encPrG vars arrays fs] [] (qsD (qb1 vars arrays fs)):=by
 have hfl:=qdF fs;rw[<-qmg];generalize hE:qhR vars arrays fs=E;unfold qhR at hE;unfold encPrG;refine cI Tryz.func36 rfl (n:=199) rfl rfl rfl ?_;refine gag ?_;refine oS (sB rfl fun b1=>?_) rfl;refine ga0 ?_;refine oS (S.litA (es:=[]) [] rfl eN rfl rfl rfl fun b4=>?_) rfl;refine oS (S.litA (es:=[]) [] rfl eN rfl rfl rfl fun b5=>?_) rfl;refine gab ?_
 refine oL (fun k ls H'=>∃ (pre l1:List (Nm×Int)) (v4:LV) (H4:Heap),arrays=pre++l1/\k=l1.length/\ls=[(1,ptr b1 0),(4,v4),(5,.app b5 0 1 []),(28,.list (arrays.map encArG)),(29,int .i64 ((arrays.map encArG).length:Int)),(30,int .i64 (pre.length:Int))] /\
   H'=pgmH b1 vars arrays fs::(b5,.row 0)::H4/\GL.Acc 1 v4 ((pre.map (·.1)).map str) H4 [])
  ⟨_,_,_,⟨[],arrays,.app b4 0 1 [],[(b4,.row 0)],rfl,rfl,rfl,rfl,Acc.row⟩,⟨rfl,rfl,rfl,rfl,rfl,rfl,trivial⟩,⟨[],by simpa using (zPc (l₁:=[_,_]) (l₂:=[_]))⟩⟩ ?_
 rintro k ls H' ⟨pre,l1,v4,H4,hL,rfl,rfl,rfl,hacc4⟩ j hj;have hb:=qbR hL ha6;refine gai ?_;refine oC rfl (fun hc=>?_) (fun hc=>?_)
 ·obtain ⟨a,l2,rfl⟩:=more hL hc;refine gak ?_;refine oP (xR (el':=encArG a) (cs:=[_,_]) rfl rfl zo (by rw[hL];exact get_mid encArG pre a l2) rfl rfl) rfl ?_;refine gac ?_;refine oS (sA fun b7=>?_) rfl;refine gaa ?_;refine oP (pM (lv:=v4) rfl) rfl ?_;refine gad ?_;refine oS (sL (es:=[a.1].map str) [_] rfl (zeC rfl rfl eN) rfl rfl rfl ?_) rfl;refine oS (sG (A:=[_,_,_]) (H1:=H4) (zPc (l₁:=[_,_,_])) rfl hacc4 rfl (qa6 _) (qbt _) (by simp;omega) fun v6 H6 hacc6=>?_) rfl;refine oP (pA (lv:=v6) rfl) rfl ?_;refine gat ?_;exact ⟨l2.length,_,_,Nat.lt_succ_self _,⟨pre++[a],l2,v6,H6,snoc hL,rfl,rfl,rfl,by rw[zMa,zMa];exact hacc6⟩,⟨rfl,rfl,rfl,rfl,rfl,qaf (by simp),trivial⟩,zhD zhr,hj⟩
 obtain rfl:=qaS hL hc;rw[zLz] at hL;rw[<-hL] at hacc4;have harl:(arrays.map (·.1)).length=arrays.length:=zLm _;generalize hA:arrays.map (·.1)=A at hacc4 hE harl;refine gad ?_;refine qae.sub (d:=4) rfl hacc4.sub ?_;refine cW (H':=[pgmH b1 vars arrays fs,(b5,.row 0)]) ⟨H4,List.Perm.refl _⟩ ?_;refine gaa ?_
 refine oL (fun k ls H'=>∃ (pre l1:List FnD) (v5:LV) (H5:Heap),fs=pre++l1/\k=l1.length/\ls=[(1,ptr b1 0),(4,.list (A.map str)),(5,v5),(41,.list (fs.map qav)),(42,int .i64 ((fs.map qav).length:Int)),(43,int .i64 (pre.length:Int))] /\
   H'=pgmH b1 vars arrays fs::H5/\GL.Acc 1 v5 ((pre.map (·.name)).map str) H5 [])
  ⟨_,_,_,⟨[],fs,.app b5 0 1 [],[(b5,.row 0)],rfl,rfl,rfl,rfl,Acc.row⟩,⟨rfl,rfl,rfl,rfl,rfl,rfl,trivial⟩,zhR _⟩ ?_
 rintro k ls H' ⟨pre2,l1,v5,H5,hL2,rfl,rfl,rfl,hacc5⟩ j2 hj2;have hb2:=qbR hL2 (show fs.length<=2000000 by omega);refine gai ?_;refine oC rfl (fun hc=>?_) (fun hc=>?_)
 ·obtain ⟨a,l2,rfl⟩:=more hL2 hc;refine gak ?_;refine oP (xR (el':=qav a) (cs:=[_,_,_,_]) rfl rfl zo (by rw[hL2];exact get_mid qav pre2 a l2) rfl rfl) rfl ?_;refine gav ?_;refine oS (sA fun b9=>?_) rfl;refine gab ?_;refine oP (pM (lv:=v5) rfl) rfl ?_;refine gad ?_;refine oS (sL (es:=[a.name].map str) [_] rfl (zeC rfl rfl eN) rfl rfl rfl ?_) rfl;refine oS (sG (A:=[_,_]) (H1:=H5) (zPc (l₁:=[_,_])) rfl hacc5 rfl (qa6 _) (qbt _) (by simp;omega) fun v6 H6 hacc6=>?_) rfl;refine oP (pA (lv:=v6) rfl) rfl ?_;refine gat ?_;exact ⟨l2.length,_,_,Nat.lt_succ_self _,⟨pre2++[a],l2,v6,H6,snoc hL2,rfl,rfl,rfl,by rw[zMa,zMa];exact hacc6⟩,⟨rfl,rfl,rfl,rfl,rfl,qaf (by simp),trivial⟩,zhD zhr,hj2⟩
 obtain rfl:=qaS hL2 hc;rw[zLz] at hL2;rw[<-hL2] at hacc5;have hfnl:(fs.map (·.name)).length=fs.length:=zLm _;have hdist0:=fun h=>qoX (vars:=vars) (arrays:=A) (fs:=fs) h;have hnames0:∀ h:qa2 [] (vars++A++fs.map (·.name))=0,∀ f∈fs,f.name.length<=1000:=fun h f hf=>qfw ((qdh _ _ h).2.2 f.name (List.mem_append_right _ (List.mem_map_of_mem hf)));have hMeas:=fun (h1:qa2 [] (vars++A++fs.map (·.name))=0) h2=>qlq (B0:=B0) (w0:=w0) (vars:=vars) (arrays:=A) (fs:=fs) (.list (arrays.map encArG)) hnd (hdist0 h1) h2;have hslen:=qqy vars A (fs.map (·.name)) fs;have hlens:((qdx vars A (fs.map (·.name)) [] fs).map (·.name))=fs.map (·.name):=by rw[qdf];rfl
 generalize hF:fs.map (·.name)=F at hacc5 hE hfnl hdist0 hnames0 hMeas hslen hlens;refine gad ?_;refine qae.sub (d:=5) rfl hacc5.sub ?_;refine cW (H':=[pgmH b1 vars arrays fs]) ⟨H5,List.Perm.refl _⟩ ?_;refine gag ?_;refine oS (S.litA (es:=[]) [] rfl eN rfl rfl rfl fun b6=>?_) rfl;refine gac ?_;refine oS (sG (A:=[_]) (H1:=[(b6,.row 0)]) zpr rfl Acc.row rfl (qa6 _) (qbt _) (by simp;omega) fun v1 H1 h1=>?_) rfl;refine gad ?_;refine oS (sG (A:=[_]) (H1:=H1) (zPc (l₁:=[_])) rfl h1 rfl (qa6 _) (qbt _) (by simp;omega) fun v2 H2 h2=>?_) rfl;refine gad ?_;refine oS (sG (A:=[_]) (H1:=H2) (zPc (l₁:=[_])) rfl h2 rfl (qa6 _) (qbt _) (by simp;omega) fun v3 H3 h3=>?_) rfl;have e3:([]++vars.map str++A.map str++F.map str:List LV)=(vars++A++F).map str:=by simp
 rw[e3] at h3;refine LOps.sub 61 rfl h3.sub ?_;refine LOps.weak (H':=[pgmH b1 vars arrays fs]) ⟨H3,List.Perm.refl _⟩ ?_;have hfr:LCalls (KC B0 w0) 76 [qaa,.list ((vars++A++F).map str)] [] (qs4 [] (vars++A++F)):=LCalls.argsSub (bs:=[.list (([]:List Nm).map str),.list ((vars++A++F).map str)]) ⟨vN,vR _,trivial⟩ (qjy [] _ (Nat.zero_le _) (by rw[zLa,zLa];omega))
 refine oS (S.callH (H1:=[]) (F:=[_]) [_,_] rfl zpr hfr ?_ (by
  rintro ch H' ⟨rfl,nm,f1,f2⟩
  by_cases h0:qa2 [] (vars++A++F)=0
  ·cases f1 h0
  ·cases f2 h0)) rfl
 rintro lv H' ⟨rfl,nm,f1,f2⟩
 by_cases h0:qa2 [] (vars++A++F)=0
 rotate_left
 ·cases f2 h0;have hE':qa2 [] (vars++A++F)=E:=by rw[<-hE];exact (Chk.orE_ne h0).symm
  refine gac ?_;refine oS (sA fun b11=>?_) rfl;refine gab ?_;refine oC rfl (fun _=>?_) (fun hd=>?_);rotate_left
  ·have h2:(!decide (qa2 [] (vars++A++F)=0))=false:=hd;simp at h2;exact absurd h2 (by simpa using h0)
  refine ga1 ?_;refine zQ85 ?_;refine gac ?_;exact retC (nm:=nm) (hj2.trans hj) (rC (zrt rfl) (zra rfl)) (by rw[hE'];rfl)
 have e0:=f1 h0;rw[List.nil_append] at e0;cases e0;rw[h0] at hE
 replace hE:orE (qeu 0 (arrays.map (·.2))) (orE (qcf vars A F [] fs) (qhJ vars fs (qiF vars A F [] fs)))=E:=hE
 refine gac ?_;refine oS (sA fun b11=>?_) rfl;refine gab ?_;refine oC rfl (fun hd=>by cases hd) (fun _=>?_);refine gab ?_
 refine oL (fun k ls H'=>∃ (pre l1:List (Nm×Int)) (T:Int),arrays=pre++l1/\k=l1.length/\ls=[(1,ptr b1 0),(4,.list (A.map str)),(5,.list (F.map str)),(10,.list ((vars++A++F).map str)),(12,int .i64 T),(73,.list (arrays.map encArG)),(74,int .i64 ((arrays.map encArG).length:Int)),(75,int .i64 (pre.length:Int))] /\
   H'=[pgmH b1 vars arrays fs]/\0<=T/\T<=150000/\orE (qeu T (l1.map (·.2))) (orE (qcf vars A F [] fs) (qhJ vars fs (qiF vars A F [] fs)))=E)
  ⟨_,_,_,⟨[],arrays,0,rfl,rfl,rfl,rfl,by omega,by omega,hE⟩,⟨rfl,rfl,rfl,rfl,rfl,rfl,rfl,rfl,trivial⟩,zhD zhr⟩ ?_
 rintro k ls H' ⟨pre3,l1,T,hL3,rfl,rfl,rfl,hT0,hT1,hI⟩ j3 hj3;have hb3:=qbR hL3 ha6;have hds:=hj3.trans (hj2.trans hj);refine gai ?_;refine oC rfl (fun hc=>?_) (fun hc=>?_)
 ·obtain ⟨a,l2,rfl⟩:=more hL3 hc;obtain ⟨ar1,ar2⟩:=har a (by rw[hL3];simp);rw[zMc,qeu] at hI;refine gak ?_;refine oP (xR (el':=encArG a) (cs:=[_,_]) rfl rfl zo (by rw[hL3];exact get_mid encArG pre3 a l2) rfl rfl) rfl ?_;refine gac ?_;refine oS (sA fun b14=>?_) rfl;refine gab ?_;refine oC rfl (fun h5=>?_) (fun h5=>?_)
  ·rw[if_pos (zt h5)] at hI;refine gaa ?_;exact retC (nm:=a.1) hds (rC (zrt rfl) (zra rfl)) (by rw[<-hI];rfl)
  have h5':=zf h5;rw[if_neg h5'] at hI;refine gab ?_;refine oC rfl (fun h6=>?_) (fun h6=>?_)
  ·rw[if_pos (zt h6)] at hI;refine gaa ?_;exact retC (nm:=a.1) hds (rC (zrt rfl) (zra rfl)) (by rw[<-hI];rfl)
  have h6':=zf h6;rw[if_neg h6'] at hI;refine gaa ?_;exact ⟨l2.length,_,_,Nat.lt_succ_self _,⟨pre3++[a],l2,T+a.2,snoc hL3,rfl,rfl,rfl,by omega,by omega,hI⟩,⟨rfl,rfl,rfl,rfl,rfl,rfl,rfl,qaf (by simp),trivial⟩,zhD zhr,hj3⟩
 obtain rfl:=qaS hL3 hc
 replace hI:orE (qcf vars A F [] fs) (qhJ vars fs (qiF vars A F [] fs))=E:=hI
 clear hE;refine gaa ?_
 refine oL (fun k ls H'=>∃ (pre l1:List FnD) (known:List FSum),fs=pre++l1/\k=l1.length/\ls=[(1,ptr b1 0),(4,.list (A.map str)),(5,.list (F.map str)),(10,.list ((vars++A++F).map str)),(97,.list (fs.map qav)),(98,int .i64 ((fs.map qav).length:Int)),(99,int .i64 (pre.length:Int))] /\
   H'=[pgmH b1 vars arrays fs]/\known.map (fun s=>(s.name,s.params))=pre.map (fun f=>(f.name,f.params.length))/\(qcf vars A F known l1=0->qcf vars A F [] fs=0)/\orE (qcf vars A F known l1) (qhJ vars fs (qiF vars A F [] fs))=E)
  ⟨_,_,_,⟨[],fs,[],rfl,rfl,rfl,rfl,rfl,id,hI⟩,⟨rfl,rfl,rfl,rfl,rfl,rfl,rfl,trivial⟩,zhR _⟩ ?_
 rintro k ls H' ⟨pre4,l1,known,hL4,rfl,rfl,rfl,hkn,hz,hI4⟩ j4 hj4;have hb4:=qbR hL4 (show fs.length<=2000000 by omega);have hds4:=hj4.trans hds;refine gai ?_;refine oC rfl (fun hc=>?_) (fun hc=>?_)
 ·obtain ⟨f,l2,rfl⟩:=more hL4 hc;have hfm:f∈fs:=by rw[hL4];simp
  have hndf:=qc8 hfm;have hndf':1+f.params.length+f.locals.length+ndSs f.body<=2000000:=by unfold ndF at hndf;omega
  rw[qcf,errF,qek,qek] at hI4;rw[qcf,errF] at hz
  have hsc:ScOk (envF vars A F known f) pre4:=by
   refine ⟨hkn,?_,?_,?_,?_,?_,fun g hg=>?_⟩
   ·show (f.params++f.locals).length<=_;rw[zLa];omega
   ·show vars.length<=_;omega
   ·show A.length<=_;omega
   ·show F.length<=_;omega
   ·omega
   ·have h7:=qc8 (show g∈fs by rw[hL4];exact List.mem_append_left _ hg);unfold ndF at h7;omega
  have hbody:=qlc (B0:=B0) (w0:=w0) (own:=f.name) hsc 2000001 zo f.body zo;refine gaa ?_;refine oP (xR (el':=qav f) (cs:=[_,_,_,_]) rfl rfl zo (by rw[hL4];exact get_mid qav pre4 f l2) rfl rfl) rfl ?_;refine gav ?_;refine oS (sA fun b16=>?_) rfl;refine gac ?_;refine cD (m:=8) rfl [fnH b16 f] ?_;refine zQ71 ?_;refine aL ?_ zhp;refine lO 0 (lS (H1:=[]) rfl (.inl rfl) rfl zpr zhp (S.litA (es:=[]) [] rfl eN rfl rfl rfl fun b7=>?_));refine lO 3 (lS (H1:=[(b7,.row 0)]) rfl (.inl rfl) rfl zpr zhp (S.acc (F:=[]) rfl Acc.row rfl (qa6 _) (qbt _) (by simp;omega) fun v1 H1 h1=>?_));refine lO 6 (lS (H1:=H1) rfl (.inl rfl) rfl zpr zhp (S.acc (F:=[]) rfl h1 rfl (qa6 _) (qbt _) (by simp;omega) fun v2 H2 h2=>?_));have e2:([]++f.params.map str++f.locals.map str:List LV)=(f.params++f.locals).map str:=by simp
  rw[e2] at h2;refine lO 7 (lH rfl rfl (pA (lv:=v2) rfl) ?_);refine lD zk ?_;refine gam ?_;refine qae.sub (d:=17) rfl h2.sub ?_;refine cW (H':=[fnH b16 f,pgmH b1 vars arrays fs]) ⟨H2,zPc⟩ ?_;refine gaa ?_
  refine oS (S.callH (H1:=[]) (F:=[_,_]) [_,_] rfl zpr (qjy (vars++A++F) (f.params++f.locals) (by rw[zLa,zLa];omega) (by rw[zLa];omega)) ?_ (by
   rintro ch H' ⟨rfl,nm,f1,f2⟩
   by_cases h0:qa2 (vars++A++F) (f.params++f.locals)=0
   ·cases f1 h0
   ·cases f2 h0)) rfl
  rintro lv H' ⟨rfl,nm,f1,f2⟩
  by_cases h0:qa2 (vars++A++F) (f.params++f.locals)=0
  rotate_left
  ·cases f2 h0;rw[Chk.orE_ne h0] at hI4;refine gac ?_;refine oS (sA fun b19=>?_) rfl;refine gab ?_;refine oC rfl (fun _=>?_) (fun hd=>?_);rotate_left
   ·have h2:(!decide (qa2 (vars++A++F) (f.params++f.locals)=0))=false:=hd;simp at h2;exact absurd h2 (by simpa using h0)
   refine ga1 ?_;refine zQ85 ?_;refine gac ?_;exact retC (nm:=nm) hds4 (rC (zrt rfl) (zra rfl)) (by rw[<-hI4];rfl)
  cases f1 h0;rw[h0] at hI4 hz
  replace hI4:orE (qa7 (envF vars A F known f) f.body) (orE (qcf vars A F (known++[sumF vars A F known f]) l2) (qhJ vars fs (qiF vars A F [] fs)))=E:=hI4
  replace hz:orE (qa7 (envF vars A F known f) f.body) (qcf vars A F (known++[sumF vars A F known f]) l2)=0->qcf vars A F [] fs=0:=hz
  refine gac ?_;refine oS (sA fun b19=>?_) rfl;refine gab ?_;refine oC rfl (fun hd=>by cases hd) (fun _=>?_);refine gad ?_;refine cW (H':=[fnH b16 f,pgmH b1 vars arrays fs]) (zhD zhr) ?_;refine cD (m:=14) rfl [fnH b16 f,pgmH b1 vars arrays fs] ?_;refine aT 0 rfl rfl (pF rfl) ?_;refine aT 1 rfl rfl (pL (c:=.atom _) rfl zm0 rfl) ?_;refine aT 2 rfl rfl (pM (lv:=.list _) rfl) ?_;refine aT 3 rfl rfl (pF rfl) ?_;refine aT 4 rfl rfl (pL (c:=.list _) rfl zm1 rfl) ?_;refine aT 5 rfl rfl (pM (lv:=.list _) rfl) ?_;refine aT 6 rfl rfl (pF rfl) ?_;refine aT 7 rfl rfl (pL (c:=.list _) rfl zm1 rfl) ?_;refine aT 8 rfl rfl (pM (lv:=.atom _) rfl) ?_;refine LAny.take (i:=9) zhr rfl zk zk zk rfl (Pure.sliceTo (g:=qav) (pre:=pre4) (l1:=f::l2) (by rw[<-hL4];rfl) rfl (qiX _)) ?_;refine aT 10 rfl rfl (pM (lv:=.list _) rfl) ?_;refine aT 11 rfl rfl (pB _ (cs:=[_,_,_,_,_,_]) rfl) ?_;refine aL ?_ zhr;refine lO 12 (lS (H1:=[]) rfl (.inl rfl) rfl zpr zhr (sA fun b20=>?_));refine lO 13 (lS (H1:=[_]) rfl (.inl rfl) rfl zpr zhr (sS (n:=6) (cs':=[_,_,_,_,_,_]) rfl pH rfl rfl rfl rfl rfl ?_));refine lD zk ?_;refine gab ?_;refine oS (S.pb [_,_] rfl hbody fun nm=>?_) rfl;refine oS (sA fun b21=>?_) rfl;refine gab ?_
  by_cases h1:qa7 (envF vars A F known f) f.body=0
  ·rw[h1] at hI4 hz ⊢;refine oC rfl (fun hd=>by cases hd) (fun _=>?_);refine gaa ?_;exact ⟨l2.length,_,_,Nat.lt_succ_self _,⟨pre4++[f],l2,known++[sumF vars A F known f],snoc hL4,rfl,rfl,rfl,by rw[zMa,zMa,hkn];rfl,hz,hI4⟩,⟨rfl,rfl,rfl,rfl,rfl,rfl,qaf (by simp),trivial⟩,zhD (zhD (zhD zhr)),hj4⟩
  ·rw[Chk.orE_ne h1] at hI4;refine oC rfl (fun _=>?_) (fun hd=>?_);rotate_left
   ·have h2:(!decide (qa7 (envF vars A F known f) f.body=0))=false:=hd;simp at h2;exact absurd h2 h1
   refine ga1 ?_;refine zQ85 ?_;refine gac ?_;exact retC (nm:=nm) hds4 (rC (zrt rfl) (zra rfl)) (by rw[<-hI4];rfl)
 obtain rfl:=qaS hL4 hc;have hz0:qcf vars A F [] fs=0:=hz rfl
 replace hI4:qhJ vars fs (qiF vars A F [] fs)=E:=hI4
 rw[qkC fs [] (by rw[List.nil_append];exact hdist0 h0) hz0] at hI4;have hM:=hMeas h0 hz0
 have hown:∀ f∈fs,∀ x∈f.params++f.locals,x.length<=1000:=fun f hf=>by
  obtain ⟨k,hk⟩:=qfM _ _ hz0 f hf;exact qg3 hk
 have hnn:∀ f∈fs,f.name.length<=1000/\∀ x∈f.params++f.locals,x.length<=1000:=fun f hf=>⟨hnames0 h0 f hf,hown f hf⟩;have hsm:∀ f∈fs,SmF f:=fun f hf=>qi5 (zNt (qc8 hf) hnd);clear hz hI hMeas;unfold qhJ at hI4;refine gaa ?_
 cases hfl2:fs.getLast? with
 |none=>
  have hnil:=List.getLast?_eq_none_iff.1 hfl2;rw[hfl2] at hI4;refine oB 153 rfl (fun _=>?_) (fun h=>absurd (by rw[hnil];rfl) (zf h));refine gad ?_;refine oC rfl (fun _=>?_) (fun hd=>by cases hd);refine gap ?_
  exact retC (nm:=[109,97,105,110]) hds4 (rC (zrt rfl) (zra rfl)) (by rw[<-hI4];rfl)
 |some f=>
  have hfm:f∈fs:=List.mem_of_getLast? hfl2;have hpos:0<fs.length:=List.length_pos_of_mem hfm;have hml:((fs.map qav).length:Int)=(fs.length:Int):=by rw[zLm]
  obtain ⟨m,hm⟩:∃ m,(qdx vars A F [] fs).getLast? = some m:=by
   cases hx:(qdx vars A F [] fs).getLast? with
   |some m=>exact ⟨m,rfl⟩
   |none=>
    rw[List.getLast?_eq_none_iff.1 hx] at hslen;simp at hslen;omega
  rw[hfl2,hm] at hI4
  replace hI4:(if f.name=[109,97,105,110]/\f.params=[] then (if (qat vars fs).length<=8000/\m.need<=200/\m.depth<=60 then 0 else 6) else 9)=E:=hI4
  have hget:(fs.map qav)[(((fs.map qav).length:Int)-1).toNat]? = some (qav f):=by rw[hml];exact qmF qav hfl2 rfl
  have hg1:(((qdx vars A F [] fs).map (·.need)).map iv)[(((fs.map qav).length:Int)-1).toNat]? = some (iv m.need):=by
   rw[hml,List.map_map];exact qmF _ hm hslen
  have hg2:(((qdx vars A F [] fs).map (·.depth)).map iv)[(((fs.map qav).length:Int)-1).toNat]? = some (iv m.depth):=by
   rw[hml,List.map_map];exact qmF _ hm hslen
  have hn0:0<=((fs.map qav).length:Int)-1:=by omega
  have hml2:((fs.map qav).length:Int)<=2000000:=by omega
  refine oB 153 rfl (fun h=>?_) (fun _=>?_)
  ·have:=zt h;omega
  refine gac ?_;refine oP (xR (el':=qav f) (n:=((fs.map qav).length:Int)-1) (cs:=[_,_,_,_]) rfl rfl hn0 hget rfl rfl) rfl ?_;refine gac ?_
  by_cases h1:f.name=[109,97,105,110]
  rotate_left
  ·rw[if_neg (fun h=>h1 h.1)] at hI4;refine oB 163 (b:=!decide (f.name=[109,97,105,110])) rfl (fun _=>?_) (fun h=>absurd (by simpa using h) h1);refine gad ?_;refine oC rfl (fun _=>?_) (fun hd=>by cases hd);refine gap ?_;exact retC (nm:=[109,97,105,110]) hds4 (rC (zrt rfl) (zra rfl)) (by rw[<-hI4];rfl)
  refine oB 163 (b:=!decide (f.name=[109,97,105,110])) rfl (fun h=>?_) (fun _=>?_)
  ·simp[h1] at h
  refine gac ?_;refine oP (xR (el':=qav f) (n:=((fs.map qav).length:Int)-1) (cs:=[_,_,_,_]) rfl rfl hn0 hget rfl rfl) rfl ?_;refine gac ?_;refine oC rfl (fun h2=>?_) (fun h2=>?_)
  ·have h3:=zt h2;rw[zLm] at h3;rw[if_neg (fun h=>by rw[h.2] at h3;simp at h3)] at hI4;refine gap ?_;exact retC (nm:=[109,97,105,110]) hds4 (rC (zrt rfl) (zra rfl)) (by rw[<-hI4];rfl)
  have hpar:f.params=[]:=by
   have h3:=zf h2;rw[zLm] at h3;exact List.length_eq_zero_iff.1 zo
  rw[if_pos ⟨h1,hpar⟩] at hI4;refine gab ?_;refine oS (sF [_] rfl hM ?_) rfl;refine gab ?_;refine oS (sF [_] rfl (rscalars_spec (.list (arrays.map encArG)) hv6 zo hsm hnn) ?_) rfl;refine gac ?_;refine oB 183 rfl (fun h3=>?_) (fun h3=>?_)
  ·have h4:=zt h3;rw[zLm] at h4;rw[if_neg (fun h=>by have:=h.1;omega)] at hI4;refine gad ?_;refine oC rfl (fun _=>?_) (fun hd=>by cases hd);refine gap ?_;exact retC (nm:=[109,97,105,110]) hds4 (rC (zrt rfl) (zra rfl)) (by rw[<-hI4];rfl)
  have h3':=zf h3;rw[zLm] at h3';refine gac ?_;refine oP (xR (el':=iv m.need) (n:=((fs.map qav).length:Int)-1) (cs:=[_]) rfl rfl hn0 hg1 rfl rfl) rfl ?_;refine gac ?_;refine oB 191 rfl (fun h4=>?_) (fun h4=>?_)
  ·have h5:=zt h4;rw[if_neg (fun h=>by have:=h.2.1;omega)] at hI4;refine gad ?_;refine oC rfl (fun _=>?_) (fun hd=>by cases hd);refine gap ?_;exact retC (nm:=[109,97,105,110]) hds4 (rC (zrt rfl) (zra rfl)) (by rw[<-hI4];rfl)
  have h4':=zf h4;refine gac ?_;refine oP (xR (el':=iv m.depth) (n:=((fs.map qav).length:Int)-1) (cs:=[_]) rfl rfl hn0 hg2 rfl rfl) rfl ?_;refine gac ?_;refine oC rfl (fun h5=>?_) (fun h5=>?_)
  ·have h6:=zt h5;rw[if_neg (fun h=>by have:=h.2.2;omega)] at hI4;refine gap ?_;exact retC (nm:=[109,97,105,110]) hds4 (rC (zrt rfl) (zra rfl)) (by rw[<-hI4];rfl)
  have h5':=zf h5;rw[if_pos ⟨by omega,by omega,by omega⟩] at hI4;refine gaa ?_;exact retC (nm:=[]) hds4 (rC (zrt rfl) (zra rfl)) (by rw[<-hI4];rfl)
end
end Go.Proofs.YthmhncflhnbedaaGreatDoor.RC
namespace Go.Proofs.YthmhncflhnbedaaGreatDoor
open Go.GL Go.RowKit Go.Stele
@[reducible] def rdH (rb:Nat) (T:List Tok) (i:Nat) (op ln er:Int):Nat×LObj:=(rb,.cells 73 [.list (T.map qbJ),int .i64 i,int .i64 op,int .i64 ln,int .i64 er])
def Wf (T:List Tok) (o i:Nat) (op ln er:Int):Prop:=er=0->ln=0/\i<=T.length/\op=(o:Int)/\o<=100
def stO {A:Type} (o i:Nat) (ln er:Int) (g:Nat->Nat->OR A):OR A:=if er=0 then g i o else some (.err ln er)
def qf9 {A:Type} (B:A->Prop) (rb:Nat) (T:List Tok) (o:Nat) (enc:A->LV) (r:Res A):LRes->Heap->Prop:=fun res H=>
 ∃ v i op ln er,B v/\Wf T o i op ln er/\stO o i ln er (fun i o=>some (.ok v i o))=some r/\res=.ret (enc v)/\H=[rdH rb T i op ln er]
@[reducible] def qe9 {A:Type} (rb:Nat) (T:List Tok) (o:Nat) (enc:A->LV) (r:Res A):LRes->Heap->Prop:=qf9 (fun _=>True) rb T o enc r
theorem qaD {A:Type} {o i:Nat} {ln er:Int} {g:Nat->Nat->OR A} (h:er≠0):stO o i ln er g=some (.err ln er):=if_neg h
theorem qa5 {A:Type} {o i:Nat} {ln:Int} {g:Nat->Nat->OR A}:stO o i ln 0 g=g i o:=rfl
theorem qsZ {A:Type} {T:List Tok} {o i:Nat} {ln:Int} {xs:List (List UInt8)} {g h:Nat->Nat->OR A} {r:Res A} (ht:qaE T i xs=true) (hr:stO o i ln 0 (fun i o=>if qaE T i xs then g i o else h i o)=some r):stO o i ln 0 g=some r:=by
 rw[qa5,ht] at hr;exact hr
theorem qrV {A:Type} {T:List Tok} {o i:Nat} {ln er:Int} {xs:List (List UInt8)} {g h:Nat->Nat->OR A} {r:Res A} (ht:(decide (er=0) && qaE T i xs)=false) (hr:stO o i ln er (fun i o=>if qaE T i xs then g i o else h i o)=some r):stO o i ln er h=some r:=by
 by_cases he:er=0
 ·subst he;have:qaE T i xs=false:=by simpa using ht
  rw[qa5,this] at hr;exact hr
 ·rw[qaD he] at hr ⊢;exact hr
theorem qs8 {A B:Type} {o o' i i':Nat} {ln er ln' er':Int} {g:Nat->Nat->OR A} {k:A->Nat->Nat->OR B} {r1:Res A} {r:Res B} {v:A} (h1:stO o i ln er g=some r1) (hr:stO o i ln er (fun i o=>qal (g i o) k)=some r)
  (h2:stO o' i' ln' er' (fun i o=>some (.ok v i o))=some r1):stO o' i' ln' er' (k v)=some r:=by
 by_cases he:er=0
 ·subst he;rw[qa5] at h1 hr;rw[h1] at hr
  by_cases he':er'=0
  ·subst he';rw[qa5] at h2 ⊢;cases h2;exact hr
  ·rw[qaD he'] at h2 ⊢;cases h2;exact hr
 ·rw[qaD he] at h1 hr;cases h1
  by_cases he':er'=0
  ·subst he';rw[qa5] at h2;cases h2
  ·rw[qaD he'] at h2 ⊢;cases h2;exact hr
theorem qqK {A B:Type} {o i:Nat} {ln er:Int} {g:Nat->Nat->OR A} {k:A->Nat->Nat->OR B} {r:Res B} (hr:stO o i ln er (fun i o=>qal (g i o) k)=some r):∃ r1,stO o i ln er g=some r1:=by
 by_cases he:er=0
 ·subst he;rw[qa5] at hr;rcases qaN hr with ⟨v,i1,o1,h,_⟩|⟨l,e,h,_⟩
  ·exact ⟨_,h⟩
  ·exact ⟨_,h⟩
 ·exact ⟨_,qaD he⟩
section steps
variable {C:Ctx} {e:Env} {H:Heap} {dst:Option Nat} {ty:TypeId} {pos:String} {aft:Array Edge} {gd:Option (Nat×Bool)} {K:LV->Heap->Prop} {X:List PanicEntry->Heap->Prop}
theorem qp1 {A:Type} {o o' i i':Nat} {ln er ln' er':Int} {g:Nat->Nat->OR A} {r1:Res A} {v:A} (h1:stO o i ln er g=some r1) (h2:stO o' i' ln' er' (fun i o=>some (.ok v i o))=some r1) (h:er'=0):er=0/\g i o=some (.ok v i' o'):=by
 subst h;rw[qa5] at h2;cases h2
 by_cases he:er=0
 ·subst he;exact ⟨rfl,h1⟩
 ·rw[qaD he] at h1;cases h1
theorem S.callB {A B:Type} {enc:A->LV} {P:A->Prop} {rb o o' i:Nat} {op ln er:Int} {T:List Tok} {f:FuncId} [TEnter C.P f] {g:Nat->Nat->OR A} {k:A->Nat->Nat->OR B} {r:Res B} (args:List Operand) {ats:Array TypeId} {av:List LV} {F:Heap} (has:args.map e.ev=av) (hp:Pick (rdH rb T i op ln er) H F)
  (hr:stO o i ln er (fun i o=>qal (g i o) k)=some r) (hc:∀ r1,stO o i ln er g=some r1->LCalls C f av [rdH rb T i op ln er] (qf9 P rb T o' enc r1))
  (hk:∀ v i' op' ln' er',P v->Wf T o' i' op' ln' er'->(er'=0->er=0/\g i o=some (.ok v i' o'))->stO o' i' ln' er' (k v)=some r->K (enc v) (rdH rb T i' op' ln' er'::F)) :
  qag C ⟨dst,.call { callee:=.value (.func f),args:=args.toArray,argTypes:=ats },ty,pos,aft,gd⟩ e H K X:=by
 obtain ⟨r1,h1⟩:=qqK hr;refine S.call1 args has hp (hc r1 h1) ?_ ?_
 ·rintro v H' ⟨u,i',op',ln',er',hb,hw,h2,h3,rfl⟩;cases h3;exact hk _ _ _ _ _ hb hw (qp1 h1 h2) (qs8 h1 hr h2)
 ·rintro ch H' ⟨u,i',op',ln',er',hb,hw,h2,h3,_⟩;cases h3
theorem sQ {A B:Type} {enc:A->LV} {rb o o' i:Nat} {op ln er:Int} {T:List Tok} {f:FuncId} [TEnter C.P f] {g:Nat->Nat->OR A} {k:A->Nat->Nat->OR B} {r:Res B} (args:List Operand) {ats:Array TypeId} {av:List LV} {F:Heap} (has:args.map e.ev=av) (hp:Pick (rdH rb T i op ln er) H F)
  (hr:stO o i ln er (fun i o=>qal (g i o) k)=some r) (hc:∀ r1,stO o i ln er g=some r1->LCalls C f av [rdH rb T i op ln er] (qe9 rb T o' enc r1))
  (hk:∀ v i' op' ln' er',Wf T o' i' op' ln' er'->(er'=0->er=0/\g i o=some (.ok v i' o'))->stO o' i' ln' er' (k v)=some r->K (enc v) (rdH rb T i' op' ln' er'::F)) :
  qag C ⟨dst,.call { callee:=.value (.func f),args:=args.toArray,argTypes:=ats },ty,pos,aft,gd⟩ e H K X:=
 S.callB args has hp hr hc fun v i' op' ln' er' _=>hk v i' op' ln' er'
theorem retQ {A:Type} {enc:A->LV} {r:Res A} {rb o i:Nat} {op ln er:Int} {T:List Tok} {n:Nat} {rs:List ResultVar} {vs:List LV} {v:A} (hd:e.ds=[]) (h:qbF C n e H rs vs) (hw:Wf T o i op ln er) (hr:stO o i ln er (fun i o=>some (.ok v i o))=some r) (hv:qbv vs=enc v) (hH:HSub [rdH rb T i op ln er] H) :
  qah C n rs (qe9 rb T o enc r) .ret e H:=rR hd h hH ⟨v,i,op,ln,er,trivial,hw,hr,by rw[hv],rfl⟩
theorem qoV {A:Type} {enc:A->LV} {r:Res A} {rb o i:Nat} {op ln er:Int} {T:List Tok} {n:Nat} {rs:List ResultVar} {vs:List LV} {v:A} (hd:e.ds=[]) (h:qbF C n e H rs vs) (hw:Wf T o i op ln er) (hr:stO o i ln er (fun i o=>some (.ok v i o))=some r) (hv:qbv vs=enc v) (hH:HSub [rdH rb T i op ln er] H) :
  qah C n rs (qe9 rb T o enc r) .normal e H:=rO hd h hH ⟨v,i,op,ln,er,trivial,hw,hr,by rw[hv],rfl⟩
theorem retB {A:Type} {enc:A->LV} {P:A->Prop} {r:Res A} {rb o i:Nat} {op ln er:Int} {T:List Tok} {n:Nat} {rs:List ResultVar} {vs:List LV} {v:A} (hd:e.ds=[]) (h:qbF C n e H rs vs) (hb:P v) (hw:Wf T o i op ln er) (hr:stO o i ln er (fun i o=>some (.ok v i o))=some r) (hv:qbv vs=enc v) (hH:HSub [rdH rb T i op ln er] H) :
  qah C n rs (qf9 P rb T o enc r) .ret e H:=rR hd h hH ⟨v,i,op,ln,er,hb,hw,hr,by rw[hv],rfl⟩
end steps
theorem qci {T:List Tok} {o i:Nat} {op ln er:Int} (h:er≠0):Wf T o i op ln er:=fun h'=>absurd h' h
theorem qhY {T:List Tok} {i:Nat} (h:T.length<=i) (xs:List (List UInt8)):qaE T i xs=false:=by rw[qaE,List.getElem?_eq_none h]
theorem qoW {T:List Tok} {i:Nat} (h:i<T.length) (xs:List (List UInt8)):qaE T i xs=((decide (T[i].kind=3) || decide (T[i].kind=4)) && xs.contains T[i].text):=by rw[qaE,List.getElem?_eq_getElem h]
theorem qkA {T:List Tok} {i:Nat} (h:i<T.length):qck T i=T[i].kind:=by rw[qck,List.getElem?_eq_getElem h]
theorem qfh {T:List Tok} {i:Nat} (h:T.length<=i):qck T i=0:=by rw[qck,List.getElem?_eq_none h]
attribute [local irreducible] LOps qae qag LCalls Go.GL.Pure qaA qaq qah LQ LAny qaF qap
section
variable {B0:Nat} {w0:World}
theorem qaP (rb:Nat) (T:List Tok) (i:Nat) (op ln er:Int) (x:List UInt8) (hT:T.length<=100000) :
  LCalls (KC B0 w0) 27 [ptr rb 0,str x] [rdH rb T i op ln er] (fun r H=>r=.ret (bool (decide (er=0) && qaE T i [x]))/\H=[rdH rb T i op ln er]):=by
 refine cI Tryz.func27 rfl (n:=65) rfl rfl rfl ?_;refine ga0 ?_;refine cC [(4,bool (decide (er=0) && qaE T i [x]))] ?_ (fun j hj=>?_)
 ·refine zQ85 ?_;refine gac ?_;refine LQ.bcase 10 rfl (fun h=>?_) (fun h=>?_)
  ·rw[h];refine gao ?_;refine LQ.bcase 22 rfl (fun h1=>?_) (fun h1=>?_)
   ·have hlt:i<T.length:=by have:=zt h1;simp only[zLm] at this;omega
    rw[qoW hlt];refine zQ34 ?_;refine gac ?_;refine LQ.bcase 35 rfl (fun h2=>?_) (fun h2=>?_)
    ·refine zQ34 ?_;refine gac ?_;exact ⟨⟨qai (by rw[h2];simp),trivial⟩,rfl,rfl⟩
    ·refine zQ34 ?_;refine gac ?_;refine LQ.bcase 50 rfl (fun h3=>?_) (fun h3=>?_)
     ·refine zQ34 ?_;refine gac ?_;exact ⟨⟨qai (by rw[h3];simp),trivial⟩,rfl,rfl⟩
     ·refine gao ?_;exact ⟨⟨qai (by rw[h2,h3];rfl),trivial⟩,rfl,rfl⟩
   ·have hge:T.length<=i:=by have:=zf h1;simp only[zLm] at this;omega
    rw[qhY hge];refine gao ?_;exact ⟨⟨rfl,trivial⟩,rfl,rfl⟩
  ·rw[h];refine gao ?_;exact ⟨⟨rfl,trivial⟩,rfl,rfl⟩
 ·refine gae ?_;exact rR hj (zra rfl) zhr ⟨rfl,rfl⟩
theorem qfx (rb:Nat) (T:List Tok) (i:Nat) (op ln er:Int) (k:Int) (hk:k≠0) (hT:T.length<=100000) :
  LCalls (KC B0 w0) 74 [ptr rb 0,int .i64 k] [rdH rb T i op ln er] (fun r H=>r=.ret (bool (decide (er=0) && decide (qck T i=k)))/\H=[rdH rb T i op ln er]):=by
 refine cI Tryz.func74 rfl (n:=37) rfl rfl rfl ?_;refine ga0 ?_;refine cC [(4,bool (decide (er=0) && decide (qck T i=k)))] ?_ (fun j hj=>?_)
 ·refine zQ85 ?_;refine gac ?_;refine LQ.bcase 10 rfl (fun h=>?_) (fun h=>?_)
  ·rw[h];refine gao ?_;refine LQ.bcase 22 rfl (fun h1=>?_) (fun h1=>?_)
   ·have hlt:i<T.length:=by have:=zt h1;simp only[zLm] at this;omega
    rw[qkA hlt];refine zQ34 ?_;refine gac ?_;exact ⟨⟨rfl,trivial⟩,rfl,rfl⟩
   ·have hge:T.length<=i:=by have:=zf h1;simp only[zLm] at this;omega
    rw[qfh hge];refine gao ?_;exact ⟨⟨qai (by simp[hk.symm]),trivial⟩,rfl,rfl⟩
  ·rw[h];refine gao ?_;exact ⟨⟨rfl,trivial⟩,rfl,rfl⟩
 ·refine gae ?_;exact rR hj (zra rfl) zhr ⟨rfl,rfl⟩
theorem qfu (rb:Nat) (T:List Tok) (i:Nat) (op ln er x:Int) (he:er≠0) :
  LCalls (KC B0 w0) 35 [ptr rb 0,int .i64 x] [rdH rb T i op ln er] (fun r H=>r=.ret (.tuple [])/\H=[rdH rb T i op ln er]):=by
 refine cI Tryz.func35 rfl (n:=53) rfl rfl rfl ?_;refine gab ?_;refine oC rfl (fun hc=>?_) (fun hc=>?_)
 ·refine gae ?_;exact rR rfl rN zhr ⟨rfl,rfl⟩
 ·exact absurd (by simpa using hc) he
theorem qcJ (rb:Nat) (T:List Tok) (i:Nat) (op:Int) (x:Int) (hT:T.length<=100000) (h0:0<T.length) (hi:i<=1000000) :
  LCalls (KC B0 w0) 35 [ptr rb 0,int .i64 x] [rdH rb T i op 0 0] (fun r H=>r=.ret (.tuple [])/\H=[rdH rb T i op (qdJ T i) x]):=by
 have hml:(T.map qbJ).length=T.length:=zLm _;have hlast:T.length-1<T.length:=by omega
 refine cI Tryz.func35 rfl (n:=53) rfl rfl rfl ?_;refine gab ?_;refine oC rfl (fun hc=>?_) (fun hc=>?_)
 ·cases hc
 refine gab ?_;refine qae.tail 16 zk ?_;refine gac ?_;refine lP (xR (n:=((T.length-1:Nat):Int)) (el':=qbJ T[T.length-1]) (cs:=[_,_,_]) rfl (qaf (by rw[hml];omega)) zo (qa0 _ _ _ hlast) rfl rfl) rfl ?_;refine gao ?_;refine zQ85 ?_;refine gao ?_;refine oC rfl (fun h1=>?_) (fun h1=>?_)
 ·have hlt:i<T.length:=by have:=zt h1;simp only[zLm] at this;omega
  refine qae.tail 14 zk ?_;refine gac ?_;refine lP (xR (el':=qbJ T[i]) (cs:=[_,_,_]) rfl rfl zo (qa0 _ _ _ hlt) rfl rfl) rfl ?_;refine gao ?_;exact rO rfl rN zhr ⟨rfl,by rw[qdJ,Nat.min_eq_left zo,List.getElem?_eq_getElem hlt]⟩
 ·have hge:T.length<=i:=by have:=zf h1;simp only[zLm] at this;omega
  refine gar ?_;exact rO rfl rN zhr ⟨rfl,by rw[qdJ,Nat.min_eq_right zo,List.getElem?_eq_getElem hlast]⟩
end
end Go.Proofs.YthmhncflhnbedaaGreatDoor
namespace Go.Proofs.YthmhncflhnbedaaGreatDoor
open Go.GL Go.RowKit Go.Stele
attribute [local irreducible] LOps qae qag LCalls Go.GL.Pure qaA qaq qah LQ LAny qaF qap LS
section
variable {B0:Nat} {w0:World}
theorem qbw (rb:Nat) (T:List Tok) (o i:Nat) (op ln er:Int) (x:List UInt8) (hT:T.length<=100000) (h0:0<T.length) (hw:Wf T o i op ln er) (r:Res Unit) (hr:stO o i ln er (fun i o=>some (qb6 T x i o))=some r) :
  LCalls (KC B0 w0) 29 [ptr rb 0,str x] [rdH rb T i op ln er] (qe9 rb T o encU r):=by
 refine cI Tryz.func29 rfl (n:=16) rfl rfl rfl ?_;refine gaf ?_;refine oS (sH [_,_] rfl pH (qaP rb T i op ln er x hT) ?_) rfl;refine gam ?_;refine oC rfl (fun hc=>?_) (fun hc=>?_)
 ·obtain ⟨he,ht⟩:=Bool.and_eq_true_iff.1 hc;obtain rfl:=zt he;obtain ⟨rfl,hi,rfl,ho⟩:=hw rfl;have hlt:=qaG ht;rw[qa5,qb6,if_pos ht] at hr;refine gab ?_;exact retQ (v:=()) (i:=i+1) (ln:=0) (er:=0) rfl rN (fun _=>⟨rfl,hlt,rfl,ho⟩) hr rfl zhr
 ·by_cases he:er=0
  ·subst he;obtain ⟨rfl,hi,rfl,ho⟩:=hw rfl;have ht:qaE T i [x]=false:=by simpa using hc
   rw[qa5,qb6,if_neg (by rw[ht];decide)] at hr;refine gau ?_;refine oS (sH [_,_] rfl pH (qcJ rb T i o 3 hT h0 zo) ?_) rfl;refine gam ?_;exact qoV (v:=()) rfl rN (qci zDd) (by rw[qaD zDd];exact hr) rfl zhr
  ·rw[qaD he] at hr;refine gau ?_;refine oS (sH [_,_] rfl pH (qfu rb T i op ln er 3 he) ?_) rfl;refine gam ?_;exact qoV (v:=()) rfl rN (qci he) (by rw[qaD he];exact hr) rfl zhr
theorem qbQ (rb:Nat) (T:List Tok) (o i:Nat) (op ln er:Int) (x:List UInt8) (hT:T.length<=100000) (h0:0<T.length) (hw:Wf T o i op ln er) (r:Res Unit) (hr:stO o i ln er (fun i o=>some (qbs T x i o))=some r) :
  LCalls (KC B0 w0) 31 [ptr rb 0,str x] [rdH rb T i op ln er] (qe9 rb T (o+1) encU r):=by
 refine cI Tryz.func31 rfl (n:=31) rfl rfl rfl ?_;refine gaf ?_;refine oS (sH [_,_] rfl pH (qaP rb T i op ln er x hT) ?_) rfl;refine gad ?_;refine oC rfl (fun hc=>?_) (fun hc=>?_)
 ·have hc':(decide (er=0) && qaE T i [x])=false:=by simpa only[Bool.not_eq_true'] using hc
  by_cases he:er=0
  ·subst he;obtain ⟨rfl,hi,rfl,ho⟩:=hw rfl;have ht:qaE T i [x]=false:=by simpa using hc'
   rw[qa5,qbs,if_neg (by rw[ht];decide)] at hr;refine gaf ?_;refine oS (sH [_,_] rfl pH (qcJ rb T i o 3 hT h0 zo) ?_) rfl;refine gae ?_;exact retQ (v:=()) rfl rN (qci zDd) (by rw[qaD zDd];exact hr) rfl zhr
  ·rw[qaD he] at hr;refine gaf ?_;refine oS (sH [_,_] rfl pH (qfu rb T i op ln er 3 he) ?_) rfl;refine gae ?_;exact retQ (v:=()) rfl rN (qci he) (by rw[qaD he];exact hr) rfl zhr
 ·have hc':(decide (er=0) && qaE T i [x])=true:=by simpa only[Bool.not_eq_false'] using hc
  obtain ⟨he,ht⟩:=Bool.and_eq_true_iff.1 hc';obtain rfl:=zt he;obtain ⟨rfl,hi,rfl,ho⟩:=hw rfl;have hlt:=qaG ht;rw[qa5,qbs,if_pos ht] at hr;refine gaa ?_;refine oC rfl (fun h1=>?_) (fun h1=>?_)
  ·have h1':(o:Int)=100:=zt h1;rw[if_pos zo] at hr;refine gaf ?_;refine oS (sH [_,_] rfl pH (qcJ rb T i o 6 hT h0 zo) ?_) rfl;refine gae ?_;exact retQ (v:=()) rfl rN (qci zDd) (by rw[qaD zDd];exact hr) rfl zhr
  ·have h1':¬ (o:Int)=100:=zf h1;rw[if_neg zo] at hr;refine gab ?_;exact qoV (v:=()) (i:=i+1) (ln:=0) (er:=0) rfl rN (fun _=>⟨rfl,hlt,by omega,by omega⟩) hr rfl zhr
theorem qb3 (rb:Nat) (T:List Tok) (o i:Nat) (op ln er:Int) (x:List UInt8) (hT:T.length<=100000) (h0:0<T.length) (hw:Wf T (o+1) i op ln er) (r:Res Unit) (hr:stO (o+1) i ln er (fun i o=>some (sEnd T x i o))=some r) :
  LCalls (KC B0 w0) 33 [ptr rb 0,str x] [rdH rb T i op ln er] (qe9 rb T o encU r):=by
 refine cI Tryz.func33 rfl (n:=14) rfl rfl rfl ?_;refine gaf ?_
 have hr':stO (o+1) i ln er (fun i o=>qal (some (qb6 T x i o)) fun _ i o=>some (.ok () i (o-1)))=some r:=by
  rw[<-hr];congr 1;funext i o;unfold sEnd;cases qb6 T x i o <;> rfl
 refine oS (sQ (rb:=rb) (T:=T) (o:=o+1) (o':=o+1) [_,_] rfl pH hr' (fun r1 h1=>qbw rb T (o+1) i op ln er x hT h0 hw r1 h1) fun v i' op' ln' er' hw' _ hr'=>?_) rfl;refine gaa ?_
 by_cases he:er'=0
 ·subst he;obtain ⟨rfl,hi,rfl,ho⟩:=hw' rfl;refine gac ?_;exact qoV (v:=()) (ln:=0) (er:=0) rfl rN (fun _=>⟨rfl,hi,by omega,by omega⟩) hr' rfl zhr
 ·refine oP (Pure.subW rfl rfl) rfl ?_;refine gac ?_;exact qoV (v:=()) rfl rN (qci he) ((qaD he).trans ((qaD he).symm.trans hr')) rfl zhr
theorem qdO (rb:Nat) (T:List Tok) (o i:Nat) (op ln er:Int) (hT:T.length<=100000) (h0:0<T.length) (hw:Wf T o i op ln er) (r:Res (List UInt8)) (hr:stO o i ln er (fun i o=>some (qbS T 2 i o))=some r) :
  LCalls (KC B0 w0) 30 [ptr rb 0] [rdH rb T i op ln er] (qe9 rb T o str r):=by
 refine cI Tryz.func30 rfl (n:=27) rfl rfl rfl ?_;refine gaw ?_;refine oS (sH [_,_] rfl pH (qfx rb T i op ln er 2 zDd hT) ?_) rfl;refine gad ?_;refine oC rfl (fun hc=>?_) (fun hc=>?_)
 ·have hc':(decide (er=0) && decide (qck T i=2))=false:=by simpa only[Bool.not_eq_true'] using hc
  by_cases he:er=0
  ·subst he;obtain ⟨rfl,hi,rfl,ho⟩:=hw rfl;have hk:¬ qck T i=2:=by simpa using hc'
   have hs:qbS T 2 i o=qfU T i:=by
    unfold qbS;unfold qck at hk;split
    ·rename_i t ht
     rw[ht] at hk;rw[if_neg hk]
    ·rfl
   rw[qa5,hs] at hr;refine gaf ?_;refine oS (sH [_,_] rfl pH (qcJ rb T i o 3 hT h0 zo) ?_) rfl;refine gap ?_;exact retQ (v:=[]) rfl (zra rfl) (qci zDd) (by rw[qaD zDd];exact hr) rfl zhr
  ·rw[qaD he] at hr;refine gaf ?_;refine oS (sH [_,_] rfl pH (qfu rb T i op ln er 3 he) ?_) rfl;refine gap ?_;exact retQ (v:=[]) rfl (zra rfl) (qci he) (by rw[qaD he];exact hr) rfl zhr
 ·have hc':(decide (er=0) && decide (qck T i=2))=true:=by simpa only[Bool.not_eq_false'] using hc
  obtain ⟨he,hk⟩:=Bool.and_eq_true_iff.1 hc';obtain rfl:=zt he;obtain ⟨rfl,hi,rfl,ho⟩:=hw rfl;have hk:=zt hk
  have hlt:i<T.length:=by
   rcases Nat.lt_or_ge i T.length with h|h
   ·exact h
   ·rw[qfh h] at hk;cases hk
  rw[qkA hlt] at hk;have hs:qbS T 2 i o=.ok T[i].text (i+1) o:=by rw[qbS,List.getElem?_eq_getElem hlt];simp only;rw[if_pos hk]
  rw[qa5,hs] at hr;refine gab ?_;refine qae.cutTo [(2,str T[i].text)] [rdH rb T (i+1) o 0 0] ?_ (fun j hj=>?_)
  ·refine zQ85 ?_;refine gao ?_;refine qP (xR (n:=((i:Nat):Int)) (el':=qbJ T[i]) (cs:=[_,_,_]) rfl (qaf zo) zo (qa0 _ _ _ hlt) rfl rfl) rfl ?_;refine gao ?_;exact ⟨⟨rfl,trivial⟩,rfl,rfl⟩
  ·refine gae ?_;exact retQ (v:=T[i].text) (i:=i+1) (ln:=0) (er:=0) hj (zra rfl) (fun _=>⟨rfl,hlt,rfl,ho⟩) hr rfl zhr
end
end Go.Proofs.YthmhncflhnbedaaGreatDoor
namespace Go.Proofs.YthmhncflhnbedaaGreatDoor
open Go.GL Go.RowKit Go.Stele
structure RTOK (T:List Tok):Prop where
 len:T.length<=100000
 pos:0<T.length
 ok:∀ t∈T,qsp t
 kw:∀ t∈T,t.kind=3->qaX.contains t.text=true
def pv (a:Nat) (l:List UInt8):Nat:=l.foldl (fun a c=>10 * a+(c.toNat-48)) a
theorem qjk (a:Nat) (l m:List UInt8):pv a (l++m)=pv (pv a l) m:=List.foldl_append ..
theorem qsJ:∀ (l:List UInt8) (a:Nat),a<=pv a l
 |[],a=>zNr _
 |c::l,a=>by
  have:=qsJ l (10 * a+(c.toNat-48));show a<=pv (10 * a+(c.toNat-48)) l;omega
theorem qsY (u:Nat):pv 0 (Go.Lib.decDigits u)=u:=by
 induction u using Nat.strongRecOn with
 |ind u ih=>
  by_cases h:u<10
  ·rw[Go.Lib.decDigits_one h];show 10 * 0+((UInt8.ofNat (48+u)).toNat-48)=u;rw[qeG h];omega
  ·rw[Go.Lib.decDigits,dif_neg h,qjk,ih (u / 10) zo];show 10 * (u / 10)+((UInt8.ofNat (48+u % 10)).toNat-48)=u;rw[qeG zo];omega
theorem qsg (l:List UInt8) (i:Nat):pv 0 (l.take i)<=pv 0 l:=by
 have:pv 0 l=pv (pv 0 (l.take i)) (l.drop i):=by rw[<-qjk,List.take_append_drop]
 rw[this];exact qsJ _ _
theorem wrapU (x:Int):IntKind.u32.wrap x=x % 4294967296:=by
 simp only[IntKind.wrap,IntKind.bits,IntKind.signed,Bool.false_and]
 simp
def qdq (op:List UInt8):Int:=
 if op=[124,124] then 1 else if op=[38,38] then 2 else if op=[61,61]∨op=[33,61]∨op=[60]∨op=[62]∨op=[60,61]∨op=[62,61] then 3 else if op=[94] then 4 else if op=[43]∨op=[45] then 5 else if op=[42]∨op=[47]∨op=[37] then 6 else 0
def qlH:List (List UInt8):=[[124,124],[38,38],[61,61],[33,61],[60],[62],[60,61],[62,61],[94],[43],[45],[42],[47],[37]]
theorem qmi:∀ op∈qlH,∀ k∈List.range 6,decide (qdq op=(k:Int)+1)=(qbq k).contains op:=by decide +kernel
theorem qsX:∀ k∈List.range 6,∀ op∈qbq k,op∈qlH:=by decide +kernel
theorem qlI {op:List UInt8} (h:op ∉ qlH):qdq op=0:=by
 simp only[qlH,zMi,List.not_mem_nil,or_false,not_or] at h;obtain ⟨h1,h2,h3,h4,h5,h6,h7,h8,h9,h10,h11,h12,h13,h14⟩:=h;unfold qdq;rw[if_neg h1,if_neg h2,if_neg (by simp[*]),if_neg h9,if_neg (by simp[*]),if_neg (by simp[*])]
theorem ql6 (op:List UInt8) {k:Nat} (hk:k<=5):decide (qdq op=(k:Int)+1)=(qbq k).contains op:=by
 have hm:k∈List.range 6:=List.mem_range.2 zo
 by_cases h:op∈qlH
 ·exact qmi op h k hm
 ·rw[qlI h]
  have h1:(qbq k).contains op=false:=by
   cases hc:(qbq k).contains op with
   |false=>rfl
   |true=>exact absurd (qsX k hm op (List.contains_iff_mem.1 hc)) h
  rw[h1]
  simp
  omega
theorem qr5:∀ x∈qaX,∀ k∈List.range 6,(qbq k).contains x=false:=by decide +kernel
theorem qtb:∀ k∈List.range 6,∀ op∈qbq k,op≠[]:=by decide +kernel
theorem qrT {T:List Tok} (hT:RTOK T) {i k:Nat} (hk:k<=5):qaE T i (qbq k)=(decide (qck T i=4) && decide (qdq (qca T i)=(k:Int)+1)):=by
 have hm:k∈List.range 6:=List.mem_range.2 zo;rcases Nat.lt_or_ge i T.length with hi|hi
 ·rw[qoW hi,qkA hi,qca,List.getElem?_eq_getElem hi,ql6 _ hk]
  cases h3:decide (T[i].kind=3) with
  |false=>rfl
  |true=>
   have h3':=zt h3;have:=qr5 _ (List.contains_iff_mem.1 (hT.kw _ (List.getElem_mem hi) h3')) k hm;rw[this]
   simp
 ·rw[qhY hi,qfh hi];rfl
attribute [local irreducible] LOps qae qag LCalls Go.GL.Pure qaA qaq qah LQ LAny qaF qap LS
section
variable {B0:Nat} {w0:World}
theorem qgx (rb:Nat) (T:List Tok) (hT:RTOK T) (o i:Nat) (op ln er:Int) (hw:Wf T o i op ln er) (r:Res Nat) (hr:stO o i ln er (fun i o=>some (qb5 T i o))=some r) :
  LCalls (KC B0 w0) 32 [ptr rb 0] [rdH rb T i op ln er] (qf9 (fun n:Nat=>n<4294967296) rb T o (fun n:Nat=>int .u32 n) r):=by
 have hl:=hT.len;refine cI Tryz.func32 rfl (n:=44) rfl rfl rfl ?_;refine gaw ?_;refine oS (sH [_,_] rfl pH (qfx rb T i op ln er 1 zDd hl) ?_) rfl;refine gad ?_;refine oC rfl (fun hc=>?_) (fun hc=>?_)
 ·have hc':(decide (er=0) && decide (qck T i=1))=false:=by simpa only[Bool.not_eq_true'] using hc
  by_cases he:er=0
  ·subst he;obtain ⟨rfl,hi,rfl,ho⟩:=hw rfl;have hk:¬ qck T i=1:=by simpa using hc'
   have hs:qb5 T i o=qfU T i:=by
    unfold qb5 qbS;unfold qck at hk;split
    ·rename_i t ht
     rw[ht] at hk;rw[if_neg hk];rfl
    ·rfl
   rw[qa5,hs] at hr;refine gaf ?_;refine oS (sH [_,_] rfl pH (qcJ rb T i o 3 hl hT.pos zo) ?_) rfl;refine gap ?_;exact retB (v:=0) rfl (zra rfl) zDd (qci zDd) (by rw[qaD zDd];exact hr) rfl zhr
  ·rw[qaD he] at hr;refine gaf ?_;refine oS (sH [_,_] rfl pH (qfu rb T i op ln er 3 he) ?_) rfl;refine gap ?_;exact retB (v:=0) rfl (zra rfl) zDd (qci he) (by rw[qaD he];exact hr) rfl zhr
 ·have hc':(decide (er=0) && decide (qck T i=1))=true:=by simpa only[Bool.not_eq_false'] using hc
  obtain ⟨he,hk⟩:=Bool.and_eq_true_iff.1 hc';obtain rfl:=zt he;obtain ⟨rfl,hi,rfl,ho⟩:=hw rfl;have hk:=zt hk
  have hlt:i<T.length:=by
   rcases Nat.lt_or_ge i T.length with h|h
   ·exact h
   ·rw[qfh h] at hk;cases hk
  rw[qkA hlt] at hk;obtain ⟨htl,htn⟩:=hT.ok _ (List.getElem_mem hlt);obtain ⟨u,hu,hp,htx⟩:=htn hk
  have hs:qb5 T i o=.ok u (i+1) o:=by
   unfold qb5 qbS;rw[List.getElem?_eq_getElem hlt];simp only;rw[if_pos hk];show Res.ok (qkr T[i].text) (i+1) o=_;rw[qkr,hp]
  rw[qa5,hs] at hr;refine gad ?_;refine cC [(0,ptr rb 0),(3,str T[i].text)] ?_ (fun j hj=>?_)
  ·refine zQ85 ?_;refine zQ34 ?_;refine gao ?_;exact ⟨⟨rfl,rfl,trivial⟩,rfl,rfl⟩
  have hpu:pv 0 T[i].text=u:=by rw[htx,qsY]
  have hdig:∀ c∈T[i].text,48<=c.toNat/\c.toNat<=57:=fun c hc=>by
   rw[htx] at hc;have:=qfL u c hc;unfold qao cv at this;rw[zBa,zDe,zDe] at this;omega
  generalize T[i].text=s at hpu hdig htl;refine gab ?_
  refine oL (fun k ls H=>∃ m:Nat,m<=s.length/\k=s.length-m/\ls=[(3,str s),(4,int .u32 (pv 0 (s.take m))),(5,int .i64 m)]/\H=[rdH rb T (i+1) o 0 0])
   ⟨_,_,_,⟨0,Nat.zero_le _,rfl,rfl,rfl⟩,⟨rfl,rfl,rfl,trivial⟩,zhR _⟩ ?_
  rintro k ls H ⟨m,hm,rfl,rfl,rfl⟩ j2 hj2;refine gab ?_;refine oC rfl (fun h1=>?_) (fun h1=>?_)
  ·have hmlt:m<s.length:=by have:=zt h1;omega
   obtain ⟨hd1,hd2⟩:=hdig _ (List.getElem_mem hmlt)
   have hstep:pv 0 (s.take (m+1))=10 * pv 0 (s.take m)+(s[m].toNat-48):=by
    rw[List.take_succ_eq_append_getElem hmlt,qjk];rfl
   have hle:=qsg s (m+1);refine gaa ?_;refine oP (Pure.mulW rfl rfl) rfl ?_;refine gax ?_;refine oP (pI (c:=s[m]) rfl rfl zo (by simp)) rfl ?_;refine gac ?_;refine oP (Pure.addW rfl rfl) rfl ?_;refine oP (Pure.subW rfl rfl) rfl ?_;refine gaa ?_;exact ⟨_,_,_,by omega,⟨m+1,by omega,rfl,rfl,rfl⟩,⟨rfl,qaf (by simp only[wrapU];rw[hstep];omega),qaf zo,trivial⟩,zhR _,hj2⟩
  ·have hm':m=s.length:=by have:=zf h1;omega
   subst hm';rw[List.take_length,hpu];refine gaa ?_;exact retB (v:=u) (ln:=0) (er:=0) (hj2.trans hj) (zra rfl) hu (fun _=>⟨rfl,hlt,rfl,ho⟩) hr rfl zhr
theorem qk6 (rb:Nat) (T:List Tok) (hT:RTOK T) (o i:Nat) (op ln er:Int) (hw:Wf T o i op ln er) (r:Res Nat) (hr:stO o i ln er (fun i o=>some (qb5 T i o))=some r) :
  LCalls (KC B0 w0) 32 [ptr rb 0] [rdH rb T i op ln er] (qe9 rb T o (fun n:Nat=>int .u32 n) r):=
 LCalls.mono (qgx rb T hT o i op ln er hw r hr) fun _ _ ⟨v,i,op,ln,er,_,h⟩=>⟨v,i,op,ln,er,trivial,h⟩
theorem qnZ (op:List UInt8):LCalls (KC B0 w0) 236 [str op] [] (Ret (int .i64 (qdq op))):=by
 refine cI Tryz.func236 rfl (n:=24) rfl rfl rfl ?_;unfold qdq;refine gaa ?_;refine oC rfl (fun h1=>?_) (fun h1=>?_)
 ·refine gaz ?_;exact qac rfl (zra rfl) (by rw[if_pos (zt h1)];rfl)
 rw[if_neg (zf h1)];refine gaj ?_;refine oC rfl (fun h2=>?_) (fun h2=>?_)
 ·refine gaz ?_;exact qac rfl (zra rfl) (by rw[if_pos (zt h2)];rfl)
 rw[if_neg (zf h2)];refine gaj ?_;refine cC [(3,str op),(8,bool (decide (op=[61,61]∨op=[33,61]∨op=[60]∨op=[62]∨op=[60,61]∨op=[62,61])))] ?_ (fun j hj=>?_)
 ·refine oC rfl (fun h3=>?_) (fun h3=>?_)
  ·refine gar ?_;exact ⟨⟨rfl,qai (by simp[zt h3]),trivial⟩,rfl,rfl⟩
  refine gaj ?_;refine oC rfl (fun h4=>?_) (fun h4=>?_)
  ·refine gar ?_;exact ⟨⟨rfl,qai (by simp[zt h4]),trivial⟩,rfl,rfl⟩
  refine gaj ?_;refine oC rfl (fun h5=>?_) (fun h5=>?_)
  ·refine gar ?_;exact ⟨⟨rfl,qai (by simp[zt h5]),trivial⟩,rfl,rfl⟩
  refine gaj ?_;refine oC rfl (fun h6=>?_) (fun h6=>?_)
  ·refine gar ?_;exact ⟨⟨rfl,qai (by simp[zt h6]),trivial⟩,rfl,rfl⟩
  refine gaj ?_;refine oC rfl (fun h7=>?_) (fun h7=>?_)
  ·refine gar ?_;exact ⟨⟨rfl,qai (by simp[zt h7]),trivial⟩,rfl,rfl⟩
  refine gaj ?_;exact ⟨⟨rfl,qai (by simp[zf h3,zf h4,zf h5,zf h6,zf h7]),trivial⟩,rfl,rfl⟩
 refine oC rfl (fun h3=>?_) (fun h3=>?_)
 ·refine gaz ?_;exact qac hj (zra rfl) (by rw[if_pos (zt h3)];rfl)
 rw[if_neg (zf h3)];refine gaj ?_;refine oC rfl (fun h4=>?_) (fun h4=>?_)
 ·refine gaz ?_;exact qac hj (zra rfl) (by rw[if_pos (zt h4)];rfl)
 rw[if_neg (zf h4)];refine gaj ?_;refine cC [(3,str op),(17,bool (decide (op=[43]∨op=[45])))] ?_ (fun j2 hj2=>?_)
 ·refine oC rfl (fun h5=>?_) (fun h5=>?_)
  ·refine gar ?_;exact ⟨⟨rfl,qai (by simp[zt h5]),trivial⟩,rfl,rfl⟩
  refine gaj ?_;exact ⟨⟨rfl,qai (by simp[zf h5]),trivial⟩,rfl,rfl⟩
 refine oC rfl (fun h5=>?_) (fun h5=>?_)
 ·refine gaz ?_;exact qac (hj2.trans hj) (zra rfl) (by rw[if_pos (zt h5)];rfl)
 rw[if_neg (zf h5)];refine gaj ?_;refine cC [(3,str op),(20,bool (decide (op=[42]∨op=[47]∨op=[37])))] ?_ (fun j3 hj3=>?_)
 ·refine oC rfl (fun h6=>?_) (fun h6=>?_)
  ·refine gar ?_;exact ⟨⟨rfl,qai (by simp[zt h6]),trivial⟩,rfl,rfl⟩
  refine gaj ?_;refine oC rfl (fun h7=>?_) (fun h7=>?_)
  ·refine gar ?_;exact ⟨⟨rfl,qai (by simp[zt h7]),trivial⟩,rfl,rfl⟩
  refine gaj ?_;exact ⟨⟨rfl,qai (by simp[zf h6,zf h7]),trivial⟩,rfl,rfl⟩
 refine oC rfl (fun h6=>?_) (fun h6=>?_)
 ·refine gaz ?_;exact qac (hj3.trans (hj2.trans hj)) (zra rfl) (by rw[if_pos (zt h6)];rfl)
 rw[if_neg (zf h6)];refine gaa ?_;exact qac (hj3.trans (hj2.trans hj)) (zra rfl) rfl
end
end Go.Proofs.YthmhncflhnbedaaGreatDoor
namespace Go.Proofs.YthmhncflhnbedaaGreatDoor
open Go.GL Go.RowKit Go.Stele
attribute [local irreducible] LOps qae qag LCalls Go.GL.Pure qaA qaq qah LQ LAny qaF qap LS
def qsB (l:List (List UInt8)):LV:=.list (l.map str)
theorem qoO {T:List Tok} {k:Int} {i op i' op':Nat} {s:List UInt8} (h:qbS T k i op=.ok s i' op'):i'=i+1/\op'=op:=by
 unfold qbS at h;split at h
 ·split at h
  ·cases h;exact ⟨rfl,rfl⟩
  ·cases h
 ·cases h
theorem qkH {T:List Tok} {o i k:Nat} {ln er:Int} {l:List (List UInt8)} {r:Res (List (List UInt8))} (hc:(decide (er=0) && qaE T i [[44]])=false) (h:stO o i ln er (qaR T k l)=some r):stO o i ln er (fun i o=>some (.ok l i o))=some r:=by
 by_cases he:er=0
 ·subst he;have ht:qaE T i [[44]]=false:=by simpa using hc
  rw[qa5] at h ⊢
  cases k with
  |zero=>rw[qaR] at h;cases h
  |succ k=>
   rw[qaR,if_neg (by rw[ht];decide)] at h;exact h
 ·rw[qaD he] at h ⊢;exact h
section
variable {B0:Nat} {w0:World}
theorem qd5 (rb:Nat) (T:List Tok) (hT:RTOK T) (f o i:Nat) (op ln er:Int) (hw:Wf T o i op ln er) (r:Res (List (List UInt8))) (hr:stO o i ln er (qeV T f)=some r) :
  LCalls (KC B0 w0) 28 [ptr rb 0] [rdH rb T i op ln er] (qf9 (fun l=>l.length<=200000) rb T o qsB r):=by
 have hl:=hT.len
 change stO o i ln er (fun i o=>qal (some (qbS T 2 i o)) fun s i o=>qaR T f [s] i o)=some r at hr
 refine cI Tryz.func28 rfl (n:=22) rfl rfl rfl ?_;refine gaw ?_;refine oS (sQ [_] rfl pH hr (fun r1 h1=>qdO rb T o i op ln er hl hT.pos hw r1 h1) fun s i1 op1 ln1 er1 hw1 hal hr1=>?_) rfl;refine oS (S.litA [_] rfl (zeC rfl rfl eN) rfl rfl rfl fun b=>?_) rfl;refine gac ?_
 refine oL (fun k ls H=>∃ (v:LV) (l:List (List UInt8)) (i2:Nat) (op2 ln2 er2:Int) (Ha:Heap),ls=[(0,ptr rb 0),(3,v)]/\H=rdH rb T i2 op2 ln2 er2::Ha/\Acc 1 v (l.map str) Ha []/\Wf T o i2 op2 ln2 er2/\l.length<=T.length+5/\(er2=0->l.length<=i2+1)/\stO o i2 ln2 er2 (qaR T k l)=some r)
  ⟨f,_,rdH rb T i1 op1 ln1 er1::[(b,.row 1)],⟨.app b 1 1 [str s],[s],i1,op1,ln1,er1,_,rfl,rfl,Acc.row,hw1,by simp,fun _=>by simp,hr1⟩,⟨rfl,rfl,trivial⟩,zhP zp1 zhr⟩ ?_
 rintro k ls H ⟨v,l,i2,op2,ln2,er2,Ha,rfl,rfl,hacc,hw2,hll,hla,hI⟩ j hj;refine gaf ?_;refine oS (sH [_,_] rfl pH (qaP rb T i2 op2 ln2 er2 [44] hl) ?_) rfl;refine gam ?_;refine oC rfl (fun hc=>?_) (fun hc=>?_)
 ·obtain ⟨he,ht⟩:=Bool.and_eq_true_iff.1 hc;obtain rfl:=zt he;obtain ⟨rfl,hi2,rfl,ho⟩:=hw2 rfl;have hlt:=qaG ht;have hla:=hla rfl
  obtain ⟨k,rfl⟩:∃ k',k=k'+1:=by
   cases k with
   |zero=>rw[qa5,qaR] at hI;cases hI
   |succ k=>exact ⟨k,rfl⟩
  rw[qa5,qaR,if_pos ht] at hI;have hI':stO o (i2+1) 0 0 (fun i o=>qal (some (qbS T 2 i o)) fun s i o=>qaR T k (l++[s]) i o)=some r:=hI;refine gab ?_;refine qih ?_;refine oS (sQ (i:=i2+1) (op:=(o:Int)) [_] rfl pH hI' (fun r1 h1=>qdO rb T o (i2+1) o 0 0 hl hT.pos (fun _=>⟨rfl,hlt,rfl,ho⟩) r1 h1) fun s2 i3 op3 ln3 er3 hw3 hal3 hI3=>?_) rfl;refine zQ15 ?_;refine oS (S.acc1 rfl hacc rfl (by simp;rfl) rfl (by simp;omega) fun v' H' hacc'=>?_) rfl;refine zQ62 ?_;refine gad ?_
  exact ⟨k,_,_,by omega,⟨v',l++[s2],i3,op3,ln3,er3,H',rfl,rfl,by rw[zMa];exact hacc',hw3,by simp;omega,fun h3=>by
   obtain ⟨_,h4⟩:=hal3 h3;injection h4 with h4;obtain ⟨rfl,_⟩:=qoO h4
   simp
   omega,hI3⟩,⟨rfl,rfl,trivial⟩,zhR _,hj⟩
 ·have hend:=qkH hc hI;refine gaa ?_;refine zQ38 ?_;exact retB (v:=l) hj (rC (rT (v:=v) rfl hacc.sub) rN) (by show l.length<=200000;omega) hw2 hend rfl zhp
def opAt (T:List Tok) (i:Nat) (er:Int) (k:Nat):List UInt8:=if (decide (er=0) && qaE T i (qbq k))=true then qca T i else []
theorem qhA (rb:Nat) (T:List Tok) (hT:RTOK T) (k i:Nat) (hk:k<=5) (op ln er:Int) :
  LCalls (KC B0 w0) 207 [ptr rb 0,int .i64 ((k:Int)+1)] [rdH rb T i op ln er] (fun r H=>r=.ret (str (opAt T i er k))/\H=[rdH rb T i op ln er]):=by
 have hl:=hT.len;unfold opAt;rw[qrT hT hk];have hks:=qfx (B0:=B0) (w0:=w0) rb T i op ln er 4 zDd hl;refine cI Tryz.func207 rfl (n:=35) rfl rfl rfl ?_;refine ga0 ?_
 cases hb:(decide (er=0) && decide (qck T i=4)) with
 |false=>
  rw[hb] at hks;have hb2:(decide (er=0) && (decide (qck T i=4) && decide (qdq (qca T i)=(k:Int)+1)))=false:=by rw[<-Bool.and_assoc,hb,Bool.false_and]
  rw[hb2,if_neg zDd];refine qte ?_;refine qaF.any [rdH rb T i op ln er] (fun p hp=>by cases hp) ?_;refine aT 2 rfl rfl (Pure.not rfl) ?_;refine aT 3 rfl rfl (pM (lv:=.atom _) rfl) ?_;refine zQ95 ?_;refine LAny.takeSkip (i:=8) rfl rfl rfl rfl zk zk zk rfl ?_;refine LAny.takeSkip (i:=9) rfl rfl rfl rfl zk zk zk rfl ?_;refine LAny.takeSkip (i:=10) rfl rfl rfl rfl zk zk zk rfl ?_;refine LAny.takeSkip (i:=11) rfl rfl rfl rfl zk zk zk rfl ?_;refine LAny.takeSkip (i:=12) rfl rfl rfl rfl zk zk zk rfl ?_;refine LAny.takeSkip (i:=13) rfl rfl rfl rfl zk zk zk rfl ?_;refine LAny.takeSkip (i:=14) rfl rfl rfl rfl zk zk zk rfl ?_;refine LAny.takeSkip (i:=15) rfl rfl rfl rfl zk zk zk rfl ?_;refine LAny.takeSkip (i:=16) rfl rfl rfl rfl zk zk zk rfl ?_;refine LAny.takeSkip (i:=17) rfl rfl rfl rfl zk zk zk rfl ?_;refine aT 18 rfl rfl (Pure.pickT (lv:=.atom _) rfl rfl) ?_;refine aL (lD zk ?_) zhr;refine gam ?_;refine oC rfl (fun h=>?_) (fun h=>?_)
  ·refine gap ?_;exact rR rfl (zra rfl) zhr ⟨rfl,rfl⟩
  ·cases h
 |true=>
  rw[hb] at hks;obtain ⟨he,hk4⟩:=Bool.and_eq_true_iff.1 hb;rw[he,hk4,Bool.true_and,Bool.true_and];have hk4:=zt hk4
  have hlt:i<T.length:=by
   rcases Nat.lt_or_ge i T.length with h|h
   ·exact h
   ·rw[qfh h] at hk4;cases hk4
  have htx:qca T i=T[i].text:=by rw[qca,List.getElem?_eq_getElem hlt]
  rw[htx];refine qte ?_;refine qaF.any [rdH rb T i op ln er] (fun p hp=>by cases hp) ?_;refine aT 2 rfl rfl (Pure.not rfl) ?_;refine aT 3 rfl rfl (pM (lv:=.atom _) rfl) ?_;refine LAny.tkW 4 rfl rfl rfl rfl (pM (lv:=.atom _) rfl) ?_;refine LAny.tkW 5 rfl rfl rfl rfl (pN rfl) ?_;refine LAny.tkW 6 rfl rfl rfl rfl (pF rfl) ?_;refine LAny.tkW 7 rfl rfl rfl rfl (pL (c:=.list _) rfl zm0 rfl) ?_;refine LAny.tkW 8 rfl rfl rfl rfl (pM (lv:=.atom _) rfl) ?_;refine LAny.tkW 9 rfl rfl rfl rfl (pN rfl) ?_;refine LAny.tkW 10 rfl rfl rfl rfl (pF rfl) ?_;refine LAny.tkW 11 rfl rfl rfl rfl (pL (c:=.atom _) rfl zm0 rfl) ?_;refine LAny.takeWant (i:=12) zhr rfl rfl rfl zk zk zk rfl (xR (el':=qbJ T[i]) (cs:=[_,_,_]) rfl rfl zo (qa0 _ _ _ hlt) rfl rfl) ?_;refine LAny.tkW 13 rfl rfl rfl rfl (Pure.field1 rfl rfl) ?_;refine LAny.tkW 14 rfl rfl rfl rfl (pO (c:=.atom _) rfl rfl) ?_;refine LAny.tkW 16 rfl rfl rfl rfl (pM (lv:=.atom _) rfl) ?_;refine aL ?_ zhr;refine lO 15 (lS (H1:=[]) (F:=[rdH rb T i op ln er]) rfl (.inr ⟨_,_,_,rfl,rfl,rfl⟩) rfl zpr zhr (sF [_] rfl (qnZ T[i].text) ?_));refine qaF.any [rdH rb T i op ln er] (fun p hp=>hp) ?_;refine LAny.tkW 17 rfl rfl rfl rfl (Pure.neq rfl rfl) ?_;refine aT 18 rfl rfl (Pure.pickF (lv:=.atom _) rfl rfl) ?_;refine aL (lD zk ?_) zhr;refine gam ?_;refine oC rfl (fun h=>?_) (fun h=>?_)
  ·have h':decide (qdq T[i].text=(k:Int)+1)=false:=by simpa only[Bool.not_eq_true'] using h
   rw[h',if_neg zDd];refine gap ?_;exact rR rfl (zra rfl) zhr ⟨rfl,rfl⟩
  ·have h':decide (qdq T[i].text=(k:Int)+1)=true:=by simpa only[Bool.not_eq_false'] using h
   rw[h',if_pos rfl];refine gad ?_;refine qae.cutTo [(4,str T[i].text)] [rdH rb T i op ln er] ?_ (fun j hj=>?_)
   ·refine zQ85 ?_;refine zQ34 ?_;refine gao ?_;exact ⟨⟨rfl,trivial⟩,rfl,rfl⟩
   ·refine gae ?_;exact rR hj (zra rfl) zhr ⟨rfl,rfl⟩
end
end Go.Proofs.YthmhncflhnbedaaGreatDoor
namespace Go.Proofs.YthmhncflhnbedaaGreatDoor
open Go.GL Go.RowKit Go.Stele
attribute [local irreducible] LOps qae qag LCalls Go.GL.Pure qaA qaq qah LQ LAny qaF qap LS
def qExs (l:List Ex):LV:=.list (l.map encE)
def EC (B0:Nat) (w0:World) (rb:Nat) (T:List Tok) (f:Nat):Prop:=∀ (k o i:Nat) (op ln er:Int) (r:Res Ex),k<=6->Wf T o i op ln er->stO o i ln er (eLev T f k)=some r ->
 LCalls (KC B0 w0) 176 [ptr rb 0,int .i64 ((k:Int)+1)] [rdH rb T i op ln er] (qe9 rb T o encE r)
def UC (B0:Nat) (w0:World) (rb:Nat) (T:List Tok) (f:Nat):Prop:=∀ (o i:Nat) (r:Res Ex),i<=T.length->o<=100->qcu T f i o=some r->LCalls (KC B0 w0) 206 [ptr rb 0] [rdH rb T i o 0 0] (qe9 rb T o encE r)
def PC (B0:Nat) (w0:World) (rb:Nat) (T:List Tok) (f:Nat):Prop:=∀ (o i:Nat) (r:Res Ex),i<=T.length->o<=100->qfO T f i o=some r->LCalls (KC B0 w0) 235 [ptr rb 0] [rdH rb T i o 0 0] (qe9 rb T o encE r)
def AC (B0:Nat) (w0:World) (rb:Nat) (T:List Tok) (f:Nat):Prop:=∀ (o i:Nat) (r:Res (List Ex)),i<=T.length->o<=100->qet T f i o=some r->LCalls (KC B0 w0) 178 [ptr rb 0] [rdH rb T i o 0 0] (qe9 rb T o qExs r)
theorem qm0 {A:Type} {o i:Nat} {ln er:Int} {g:Nat->Nat->OR A} {r:Res A} (h:stO o i ln er g=some r):stO o i ln er (fun i o=>qal (g i o) fun v i o=>some (.ok v i o))=some r:=by
 rw[<-h];unfold stO;split
 ·show qal (g i o) (fun v i o=>some (.ok v i o))=g i o
  cases g i o with
  |none=>rfl
  |some q=>cases q <;> rfl
 ·rfl
theorem qbG {A B C:Type} (r:OR A) (f:A->Nat->Nat->OR B) (g:B->Nat->Nat->OR C):qal (qal r f) g=qal r fun v i o=>qal (f v i o) g:=by
 cases r with
 |none=>rfl
 |some q=>cases q <;> rfl
theorem qhU {T:List Tok} {i:Nat} {x y:List UInt8} (h:qaE T i [x]=true) (hne:x≠y):qaE T i [y]=false:=by
 unfold qaE at h ⊢;split at h
 ·rw[zBa] at h;have h2:=h.2;simp only[List.contains_cons,List.contains_nil,Bool.or_false,beq_iff_eq] at h2 ⊢;rw[h2,Bool.and_eq_false_iff];right;simpa using hne
 ·cases h
theorem qpj {T:List Tok} {i:Nat} {k:Int} (h:qck T i=k) (h3:k≠3) (h4:k≠4) (xs:List (List UInt8)):qaE T i xs=false:=by
 unfold qaE;unfold qck at h;split
 ·rename_i t ht
  rw[ht] at h;simp only at h;rw[h];simp[h3,h4]
 ·rfl
theorem andz {b:Bool}:(decide ((0:Int)=0) && b)=b:=by simp
def qrM (T:List Tok) (o k kk:Nat) (e:Ex) (i:Nat) (ln er:Int) (s:List UInt8) (r:Res Ex):Prop:=
 (s≠[]/\er=0/\qaE T i (qbq k)=true/\s=qca T i/\qej T kk k e i o=some r)∨(s=[]/\stO o i ln er (fun i o=>some (.ok e i o))=some r)
theorem qrK {T:List Tok} {o k kk:Nat} {e:Ex} {i:Nat} {ln er:Int} {r:Res Ex} (hk:k<=5) (h:stO o i ln er (fun i o=>qej T kk k e i o)=some r):qrM T o k kk e i ln er (opAt T i er k) r:=by
 unfold opAt
 cases hc:(decide (er=0) && qaE T i (qbq k)) with
 |true=>
  rw[if_pos rfl];obtain ⟨he,ht⟩:=Bool.and_eq_true_iff.1 hc;obtain rfl:=zt he;refine .inl ⟨?_,rfl,ht,rfl,h⟩;have hlt:=qaG ht;rw[qoW hlt] at ht;rw[qca,List.getElem?_eq_getElem hlt]
  exact qtb k (List.mem_range.2 zo) _ (List.contains_iff_mem.1 (Bool.and_eq_true_iff.1 ht).2)
 |false=>
  rw[if_neg zDd];refine .inr ⟨rfl,?_⟩
  by_cases he:er=0
  ·subst he;have ht:qaE T i (qbq k)=false:=by simpa using hc
   rw[qa5] at h ⊢
   cases kk with
   |zero=>rw[qej] at h;cases h
   |succ kk=>
    rw[qej,if_neg (by rw[ht];decide)] at h;exact h
  ·rw[qaD he] at h ⊢;exact h
theorem qn5 {A:Type} {T:List Tok} {f o i:Nat} {ln er:Int} {K:List Ex->Nat->Nat->OR A} {r:Res A} (hc:(decide (er=0) && qaE T i [[41]])=false) (h:stO o i ln er (fun i o=>qal (qaM T f [] i o) K)=some r) :
  ∃ g,g<=f/\stO o i ln er (fun i o=>qal (eLev T g 0 i o) fun e i o=>qal (qaM T g [e] i o) K)=some r:=by
 by_cases he:er=0
 ·subst he;have ht:qaE T i [[41]]=false:=by simpa using hc
  rw[qa5] at h
  cases f with
  |zero=>rw[qaM] at h;cases h
  |succ g=>
   rw[qaM,if_neg (by rw[ht];decide),if_pos rfl] at h;refine ⟨g,by omega,?_⟩;rw[qa5,<-qbG];exact h
 ·rw[qaD he] at h;exact ⟨0,Nat.zero_le _,by rw[qaD he];exact h⟩
theorem qoY {A:Type} {T:List Tok} {f o i:Nat} {ln:Int} {K:List Ex->Nat->Nat->OR A} {r:Res A} (ht:qaE T i [[41]]=true) (h:stO o i ln 0 (fun i o=>qal (qaM T f [] i o) K)=some r):stO o i ln 0 (K [])=some r:=by
 rw[qa5] at h ⊢
 cases f with
 |zero=>rw[qaM] at h;cases h
 |succ g=>
  rw[qaM,if_pos ht] at h;exact h
theorem qo9 {A:Type} {T:List Tok} {f o i:Nat} {ln:Int} {l:List Ex} {K:List Ex->Nat->Nat->OR A} {r:Res A} (ht:qaE T i [[44]]=true) (hne:l≠[]) (h:stO o i ln 0 (fun i o=>qal (qaM T f l i o) K)=some r) :
  ∃ g,f=g+1/\stO o (i+1) ln 0 (fun i o=>qal (eLev T g 0 i o) fun e i o=>qal (qaM T g (l++[e]) i o) K)=some r:=by
 rw[qa5] at h
 cases f with
 |zero=>rw[qaM] at h;cases h
 |succ g=>
  rw[qaM,if_neg (by rw[qhU ht zDd];decide),if_neg hne,qb6,if_pos ht] at h;refine ⟨g,rfl,?_⟩;rw[qa5,<-qbG];exact h
theorem qqL {T:List Tok} {f o i:Nat} {ln er:Int} {l:List Ex} {r:Res (List Ex)} (hc:(decide (er=0) && qaE T i [[44]])=false) (hne:l≠[])
  (h:stO o i ln er (fun i o=>qal (qaM T f l i o) fun l i o=>qal (some (sEnd T [41] i o)) fun _ i o=>some (.ok l i o))=some r):stO o i ln er (fun i o=>qal (some (sEnd T [41] i o)) fun _ i o=>some (.ok l i o))=some r:=by
 by_cases he:er=0
 ·subst he;have ht:qaE T i [[44]]=false:=by simpa using hc
  rw[qa5] at h ⊢
  cases f with
  |zero=>rw[qaM] at h;cases h
  |succ g=>
   rw[qaM] at h;split at h
   ·exact h
   ·rename_i h41
    rw[qb6,if_neg (by rw[ht];decide)] at h;rw[sEnd,qb6,if_neg h41];exact h
 ·rw[qaD he] at h ⊢;exact h
theorem qqu {T:List Tok} {f k i o i' o':Nat} {e:Ex} (h:eLev T f k i o=some (.ok e i' o')):i<i'/\(i<=T.length->i'<=T.length):=by
 obtain ⟨g1,g2,g3,g4⟩:=(qcQ T f).1 k i o _ h;exact ⟨g2 rfl,g3⟩
section
variable {B0:Nat} {w0:World}
theorem qoG (rb:Nat) (T:List Tok) (hT:RTOK T) (f:Nat) (hE:∀ g,g<f->EC B0 w0 rb T g) (hU:∀ g,g<f->UC B0 w0 rb T g):EC B0 w0 rb T f:=by
 intro k o i op ln er r hk hw hr;have hl:=hT.len;refine cI Tryz.func176 rfl (n:=49) rfl rfl rfl ?_;refine gag ?_;refine oS (sA fun b4=>?_) rfl;refine gab ?_;refine oC rfl (fun hc=>?_) (fun hc=>?_)
 ·have he:er≠0:=by simpa using hc
  rw[qaD he] at hr;refine gab ?_;exact retQ (v:=.mk [] 0 [] []) rfl (rC (rA (k:=4) rfl zm0 rfl (vA (bs:=[_,_,_,.list []]) ⟨vR _,vR _,vR _,vN,trivial⟩)) rN) (qci he) (by rw[qaD he];exact hr) rfl (zhD zhr)
 obtain rfl:er=0:=by simpa using hc
 obtain ⟨rfl,hi,rfl,ho⟩:=hw rfl;rw[qa5] at hr
 obtain ⟨f,rfl⟩:∃ g,f=g+1:=by
  cases f with
  |zero=>rw[eLev] at hr;cases hr
  |succ g=>exact ⟨g,rfl⟩
 rw[eLev] at hr;refine gaa ?_;refine oC rfl (fun h7=>?_) (fun h7=>?_)
 ·have hk6:k=6:=by have:=zt h7;omega
  rw[if_pos hk6] at hr;have hr':=qm0 (o:=o) (i:=i) (ln:=0) (er:=0) (g:=qcu T f) hr;refine gaf ?_;refine oS (sQ [_] rfl zp1 hr' (fun r1 h1=>hU f zo o i r1 hi ho h1) fun v i1 op1 ln1 er1 hw1 hal hr1=>?_) rfl;refine gac ?_;exact retQ (v:=v) rfl (rC (rA rfl zm0 rfl zsr) rN) hw1 hr1 rfl (zhD zhr)
 have hk5:k<=5:=by have:=zf h7;omega
 rw[if_neg zo] at hr;have hr':stO o i 0 0 (fun i o=>qal (eLev T f (k+1) i o) fun e i o=>qej T f k e i o)=some r:=hr;refine gaa ?_;refine oS (sQ [_,_] rfl zp1 hr' (fun r1 h1=>hE f zo (k+1) o i o 0 0 r1 zo (fun _=>⟨rfl,hi,rfl,ho⟩) h1) fun e i1 op1 ln1 er1 hw1 hal hr1=>?_) rfl;refine oS (sA fun b5=>?_) rfl;refine gab ?_;refine oS (sH [_,_] rfl zp1 (qhA rb T hT k i1 hk5 op1 ln1 er1) ?_) rfl;refine gad ?_
 refine oL (fun kk ls H=>∃ (e:Ex) (i2:Nat) (op2 ln2 er2:Int) (s:List UInt8),kk<=f/\ls=[(0,ptr rb 0),(1,int .i64 ((k:Int)+1)),(4,ptr b4 0),(5,ptr b5 0),(6,str s)] /\
   H=[rdH rb T i2 op2 ln2 er2,(b5,.cells 182 [str (exOp e),int .u32 (qes e),str (qcX e),.list (qbL e)]),(b4,.cells 182 [str [],int .u32 0,str [],qaa])]/\Wf T o i2 op2 ln2 er2/\qrM T o k kk e i2 ln2 er2 s r)
  ⟨f,_,_,⟨e,i1,op1,ln1,er1,_,zNr _,rfl,rfl,hw1,qrK hk5 hr1⟩,⟨rfl,rfl,rfl,rfl,rfl,trivial⟩,zhR _⟩ ?_
 rintro kk ls H ⟨e,i2,op2,ln2,er2,s,hkf,rfl,rfl,hw2,hS⟩ j hj;refine gab ?_;refine oC rfl (fun hs=>?_) (fun hs=>?_)
 ·have hne:s≠[]:=by simpa using hs
  rcases hS with ⟨_,rfl,ht,rfl,hI⟩|⟨h,_⟩
  case inr=>exact absurd h hne
  obtain ⟨rfl,hi2,rfl,_⟩:=hw2 rfl;have hlt:=qaG ht
  obtain ⟨kk,rfl⟩:∃ g,kk=g+1:=by
   cases kk with
   |zero=>rw[qej] at hI;cases hI
   |succ g=>exact ⟨g,rfl⟩
  rw[qej,if_pos ht] at hI;have hI':stO o (i2+1) 0 0 (fun i o=>qal (eLev T kk (k+1) i o) fun e2 i o=>if k=2 then some (.ok (.mk (qca T i2) 0 [] [e,e2]) i o) else qej T kk k (.mk (qca T i2) 0 [] [e,e2]) i o)=some r:=hI;refine gab ?_;refine oS (sQ (i:=i2+1) (op:=(o:Int)) [_,_] rfl pH hI' (fun r1 h1=>hE kk zo (k+1) o (i2+1) o 0 0 r1 zo (fun _=>⟨rfl,hlt,rfl,ho⟩) h1) fun e2 i3 op3 ln3 er3 hw3 hal3 hI3=>?_) rfl;refine oS (sA fun b7=>?_) rfl;refine gab ?_;refine oS (sL (es:=[encE e,encE e2]) [_,_] rfl (zeC rfl rfl (zeC rfl rfl eN)) rfl rfl rfl ?_) rfl;refine gab ?_;refine oS (sH [_,_] rfl zp2 (qhA rb T hT k i3 hk5 op3 ln3 er3) ?_) rfl;refine gaa ?_;refine oC rfl (fun h3=>?_) (fun h3=>?_)
  ·have hk2:k=2:=by have:=zt h3;omega
   simp only[hk2,if_true] at hI3;refine gaa ?_;exact ⟨kk,_,_,by omega,⟨.mk (qca T i2) 0 [] [e,e2],i3,op3,ln3,er3,[],by omega,rfl,rfl,hw3,.inr ⟨rfl,hI3⟩⟩,⟨rfl,rfl,rfl,rfl,rfl,trivial⟩,zhP pH (zhP pH (zhD zhr)),hj⟩
  ·have hk2:¬ k=2:=by have:=zf h3;omega
   simp only[hk2,if_false] at hI3;refine gad ?_;exact ⟨kk,_,_,by omega,⟨.mk (qca T i2) 0 [] [e,e2],i3,op3,ln3,er3,_,by omega,rfl,rfl,hw3,qrK hk5 hI3⟩,⟨rfl,rfl,rfl,rfl,rfl,trivial⟩,zhP pH (zhP pH (zhD zhr)),hj⟩
 ·have he:s=[]:=by simpa using hs
  rcases hS with ⟨h,_⟩|⟨_,hI⟩
  case inl=>exact absurd he h
  refine gab ?_;exact retQ (v:=e) hj (rC (rA rfl zm0 rfl zsr) rN) hw2 hI rfl (zhP zp1 zhn)
end
end Go.Proofs.YthmhncflhnbedaaGreatDoor
namespace Go.Proofs.YthmhncflhnbedaaGreatDoor
open Go.GL Go.RowKit Go.Stele
attribute [local irreducible] LOps qae qag LCalls Go.GL.Pure qaA qaq qah LQ LAny qaF qap LS
section
variable {B0:Nat} {w0:World}
theorem qoH (rb:Nat) (T:List Tok) (hT:RTOK T) (f:Nat) (hE:∀ g,g<f->EC B0 w0 rb T g):AC B0 w0 rb T f:=by
 intro o i r hi ho hr;have hl:=hT.len
 obtain ⟨f,rfl⟩:∃ g,f=g+1:=by
  cases f with
  |zero=>rw[qet] at hr;cases hr
  |succ g=>exact ⟨g,rfl⟩
 rw[qet] at hr;have hr':stO o i 0 0 (fun i o=>qal (some (qbs T [40] i o)) fun _ i o=>qal (qaM T f [] i o) fun l i o=>qal (some (sEnd T [41] i o)) fun _ i o=>some (.ok l i o))=some r:=hr;refine cI Tryz.func178 rfl (n:=31) rfl rfl rfl ?_;refine gaw ?_;refine oS (sQ (op:=(o:Int)) [_,_] rfl pH hr' (fun r1 h1=>qbQ rb T o i o 0 0 [40] hl hT.pos (fun _=>⟨rfl,hi,rfl,ho⟩) r1 h1) fun u i1 op1 ln1 er1 hw1 hal1 hr1=>?_) rfl;refine gan ?_;refine oS (sH [_,_] rfl pH (qaP rb T i1 op1 ln1 er1 [41] hl) ?_) rfl;refine gad ?_;refine oC rfl (fun hc=>?_) (fun hc=>?_)
 ·have hc':(decide (er1=0) && qaE T i1 [[41]])=false:=by simpa only[Bool.not_eq_true'] using hc
  obtain ⟨g,hg,hr2⟩:=qn5 hc' hr1;refine gaf ?_;refine oS (sQ [_,_] rfl pH hr2 (fun r1 h1=>hE g zo 0 (o+1) i1 op1 ln1 er1 r1 zo hw1 h1) fun e i2 op2 ln2 er2 hw2 hal2 hr3=>?_) rfl;refine zQ15 ?_;refine oS (S.acc1 (H1:=[]) rfl Acc.nil rfl (by simp;rfl) rfl (by simp) fun v0 H0 hacc0=>?_) rfl;refine oP (pA (lv:=v0) rfl) rfl ?_;refine gad ?_
  refine oL (fun k ls H=>∃ (v:LV) (l:List Ex) (i3:Nat) (op3 ln3 er3:Int) (Ha:Heap),k<=g/\ls=[(0,ptr rb 0),(3,v)]/\H=rdH rb T i3 op3 ln3 er3::Ha/\Acc 4 v (l.map encE) Ha []/\Wf T (o+1) i3 op3 ln3 er3/\l≠[]/\l.length<=T.length+5/\(er3=0->l.length<=i3+1) /\
    stO (o+1) i3 ln3 er3 (fun i o=>qal (qaM T k l i o) fun l i o=>qal (some (sEnd T [41] i o)) fun _ i o=>some (.ok l i o))=some r)
   ⟨g,_,_,⟨v0,[e],i2,op2,ln2,er2,H0,zNr _,rfl,rfl,hacc0,hw2,by simp,by simp,fun _=>by simp,hr3⟩,⟨rfl,rfl,trivial⟩,zhR _⟩ ?_
  rintro k ls H ⟨v,l,i3,op3,ln3,er3,Ha,hkg,rfl,rfl,hacc,hw3,hne,hll,hla,hI⟩ j hj;refine gaf ?_;refine oS (sH [_,_] rfl pH (qaP rb T i3 op3 ln3 er3 [44] hl) ?_) rfl;refine gam ?_;refine oC rfl (fun hd=>?_) (fun hd=>?_)
  ·obtain ⟨he,ht⟩:=Bool.and_eq_true_iff.1 hd;obtain rfl:=zt he;obtain ⟨rfl,hi3,rfl,ho3⟩:=hw3 rfl;have hlt:=qaG ht;have hla:=hla rfl;obtain ⟨k,rfl,hI2⟩:=qo9 ht hne hI;refine gab ?_;refine qih ?_;refine oS (sQ (i:=i3+1) (op:=((o+1:Nat):Int)) [_,_] rfl pH hI2 (fun r1 h1=>hE k zo 0 (o+1) (i3+1) _ 0 0 r1 zo (fun _=>⟨rfl,hlt,rfl,ho3⟩) h1) fun e2 i4 op4 ln4 er4 hw4 hal4 hI4=>?_) rfl;refine zQ15 ?_;refine oS (S.acc1 rfl hacc rfl (by simp;rfl) rfl (by simp;omega) fun v' H' hacc'=>?_) rfl;refine zQ62 ?_;refine gad ?_
   exact ⟨k,_,_,by omega,⟨v',l++[e2],i4,op4,ln4,er4,H',by omega,rfl,rfl,by rw[zMa];exact hacc',hw4,by simp,by simp;omega,fun h4=>by
    obtain ⟨_,h5⟩:=hal4 h4;have:=(qqu h5).1
    simp
    omega,hI4⟩,⟨rfl,rfl,trivial⟩,zhR _,hj⟩
  ·have hI2:=qqL hd hne hI;refine gaa ?_;refine oS (sQ [_,_] rfl pH hI2 (fun r1 h1=>qb3 rb T o i3 op3 ln3 er3 [41] hl hT.pos hw3 r1 h1) fun u2 i5 op5 ln5 er5 hw5 hal5 hr5=>?_) rfl;refine gai ?_;refine zQ38 ?_;exact retQ (v:=l) hj (rC (rT (v:=v) rfl hacc.sub) rN) hw5 hr5 rfl zhp
 ·have hc':(decide (er1=0) && qaE T i1 [[41]])=true:=by simpa only[Bool.not_eq_false'] using hc
  obtain ⟨he,ht⟩:=Bool.and_eq_true_iff.1 hc';obtain rfl:=zt he;have hr2:=qoY ht hr1;refine gau ?_;refine oS (sQ [_,_] rfl pH hr2 (fun r1 h1=>qb3 rb T o i1 op1 ln1 0 [41] hl hT.pos hw1 r1 h1) fun u2 i5 op5 ln5 er5 hw5 hal5 hr5=>?_) rfl;refine gaa ?_;exact retQ (v:=[]) rfl (rC (rT (v:=qaa) rfl vN) rN) hw5 hr5 rfl zhp
theorem qn8 (rb:Nat) (T:List Tok) (hT:RTOK T) (f:Nat) (hE:∀ g,g<f->EC B0 w0 rb T g) (hA:∀ g,g<f->AC B0 w0 rb T g):PC B0 w0 rb T f:=by
 intro o i r hi ho hr;have hl:=hT.len;have hw:Wf T o i (o:Int) 0 0:=fun _=>⟨rfl,hi,rfl,ho⟩
 obtain ⟨f,rfl⟩:∃ g,f=g+1:=by
  cases f with
  |zero=>rw[qfO] at hr;cases hr
  |succ g=>exact ⟨g,rfl⟩
 rw[qfO] at hr;refine cI Tryz.func235 rfl (n:=42) rfl rfl rfl ?_;refine gag ?_;refine oS (sA fun b2=>?_) rfl;refine gan ?_;refine oS (sH [_,_] rfl zp1 (qfx rb T i o 0 0 1 zDd hl) ?_) rfl;refine gam ?_;refine oC rfl (fun hk=>?_) (fun hk=>?_)
 ·rw[andz] at hk;have hk:=zt hk;rw[if_neg (by rw[qpj hk zDd zDd];decide),if_pos hk] at hr;have hr':stO o i 0 0 (fun i o=>qal (some (qb5 T i o)) fun n i o=>some (.ok (.mk nNum n [] []) i o))=some r:=hr;refine gaf ?_;refine oS (sQ [_] rfl pH hr' (fun r1 h1=>qk6 rb T hT o i o 0 0 hw r1 h1) fun n i1 op1 ln1 er1 hw1 hal1 hr1=>?_) rfl;refine gac ?_;exact retQ (v:=.mk nNum n [] []) rfl (rC (rA (k:=4) rfl zm0 rfl (vA (bs:=[_,_,_,.list []]) ⟨vR _,vR _,vR _,vN,trivial⟩)) rN) hw1 hr1 rfl (zhD zhr)
 rw[andz] at hk;have hk:=zf hk;refine gau ?_;refine oS (sH [_,_] rfl pH (qaP rb T i o 0 0 [40] hl) ?_) rfl;refine gam ?_;refine oC rfl (fun hp=>?_) (fun hp=>?_)
 ·rw[andz] at hp;rw[if_pos hp] at hr;have hr':stO o i 0 0 (fun i o=>qal (some (qbs T [40] i o)) fun _ i o=>qal (eLev T f 0 i o) fun e i o=>qal (some (sEnd T [41] i o)) fun _ i o=>some (.ok e i o))=some r:=hr;refine gaf ?_;refine oS (sQ [_,_] rfl pH hr' (fun r1 h1=>qbQ rb T o i o 0 0 [40] hl hT.pos hw r1 h1) fun u i1 op1 ln1 er1 hw1 hal1 hr1=>?_) rfl;refine gan ?_;refine oS (sQ [_,_] rfl pH hr1 (fun r1 h1=>hE f zo 0 (o+1) i1 op1 ln1 er1 r1 zo hw1 h1) fun e i2 op2 ln2 er2 hw2 hal2 hr2=>?_) rfl;refine oS (sA fun b3=>?_) rfl;refine gab ?_;refine oS (sQ [_,_] rfl zp1 hr2 (fun r1 h1=>qb3 rb T o i2 op2 ln2 er2 [41] hl hT.pos hw2 r1 h1) fun u2 i3 op3 ln3 er3 hw3 hal3 hr3=>?_) rfl;refine gab ?_;exact retQ (v:=e) rfl (rC (rA rfl zm0 rfl zsr) rN) hw3 hr3 rfl (zhP zp1 zhn)
 rw[andz] at hp;rw[if_neg (by rw[hp];decide),if_neg hk] at hr
 have hr':stO o i 0 0 (fun i o=>qal (some (qbS T 2 i o)) fun s i' op'=>if qaE T i' [[91]] then qal (qcU T f i' op') fun e i' op'=>some (.ok (.mk qdH 0 s [e]) i' op')
   else if qaE T i' [[40]] then qal (qet T f i' op') fun l i' op'=>some (.ok (.mk qa8 0 s l) i' op') else some (.ok (.mk nVar 0 s []) i' op'))=some r:=hr
 refine gau ?_;refine oS (sQ [_] rfl pH hr' (fun r1 h1=>qdO rb T o i o 0 0 hl hT.pos hw r1 h1) fun s i1 op1 ln1 er1 hw1 hal1 hr1=>?_) rfl;refine gaw ?_;refine oS (sH [_,_] rfl pH (qaP rb T i1 op1 ln1 er1 [40] hl) ?_) rfl;refine gam ?_;refine oC rfl (fun hq=>?_) (fun hq=>?_)
 ·obtain ⟨he,ht⟩:=Bool.and_eq_true_iff.1 hq;obtain rfl:=zt he;obtain ⟨rfl,hi1,rfl,ho1⟩:=hw1 rfl
  have hr2:stO o i1 0 0 (fun i o=>qal (qet T f i o) fun l i o=>some (.ok (.mk qa8 0 s l) i o))=some r:=by
   rw[qa5] at hr1 ⊢;rw[if_neg (by rw[qhU ht zDd];decide),if_pos ht] at hr1;exact hr1
  refine gaf ?_;refine oS (sQ [_] rfl pH hr2 (fun r1 h1=>hA f zo o i1 r1 hi1 ho1 h1) fun l i2 op2 ln2 er2 hw2 hal2 hr3=>?_) rfl;refine gac ?_;exact retQ (v:=.mk qa8 0 s l) rfl (rC (rA rfl zm0 rfl zsr) rN) hw2 hr3 (by rw[qbW];rfl) (zhP zp1 zhn)
 refine gau ?_;refine oS (sH [_,_] rfl pH (qaP rb T i1 op1 ln1 er1 [91] hl) ?_) rfl;refine gam ?_;refine oC rfl (fun hx=>?_) (fun hx=>?_)
 ·obtain ⟨he,ht⟩:=Bool.and_eq_true_iff.1 hx;obtain rfl:=zt he;obtain ⟨rfl,hi1,rfl,ho1⟩:=hw1 rfl;have hr2:=qsZ ht hr1;rw[qa5] at hr2
  obtain ⟨g,rfl⟩:∃ g,f=g+1:=by
   cases f with
   |zero=>rw[qcU] at hr2;cases hr2
   |succ g=>exact ⟨g,rfl⟩
  rw[qcU,qbG] at hr2;simp only[qbG] at hr2;have hr3:stO o i1 0 0 (fun i o=>qal (some (qbs T [91] i o)) fun _ i o=>qal (eLev T g 0 i o) fun e i o=>qal (some (sEnd T [93] i o)) fun _ i o=>some (.ok (.mk qdH 0 s [e]) i o))=some r:=hr2;refine gaf ?_;refine oS (sQ [_,_] rfl pH hr3 (fun r1 h1=>qbQ rb T o i1 o 0 0 [91] hl hT.pos hw1 r1 h1) fun u i2 op2 ln2 er2 hw2 hal2 hr4=>?_) rfl;refine gan ?_;refine oS (sQ [_,_] rfl pH hr4 (fun r1 h1=>hE g zo 0 (o+1) i2 op2 ln2 er2 r1 zo hw2 h1) fun e i3 op3 ln3 er3 hw3 hal3 hr5=>?_) rfl;refine oS (sA fun b5=>?_) rfl;refine gab ?_;refine oS (sQ [_,_] rfl zp1 hr5 (fun r1 h1=>qb3 rb T o i3 op3 ln3 er3 [93] hl hT.pos hw3 r1 h1) fun u2 i4 op4 ln4 er4 hw4 hal4 hr6=>?_) rfl;refine gab ?_;refine zQ45 ?_;refine gac ?_;exact retQ (v:=.mk qdH 0 s [e]) rfl (rC (rA rfl zm0 rfl zsr) rN) hw4 hr6 rfl (zhP zp1 zhn)
 have hr2:=qrV hq (qrV hx hr1);refine gab ?_;exact retQ (v:=.mk nVar 0 s []) rfl (rC (rA (k:=4) rfl zm0 rfl (vA (bs:=[_,_,_,.list []]) ⟨vR _,vR _,vR _,vN,trivial⟩)) rN) hw1 hr2 rfl (zhP zp1 zhn)
theorem qq7 (rb:Nat) (T:List Tok) (hT:RTOK T) (f:Nat) (hU:∀ g,g<f->UC B0 w0 rb T g) (hP:∀ g,g<f->PC B0 w0 rb T g):UC B0 w0 rb T f:=by
 intro o i r hi ho hr;have hl:=hT.len;have hw:Wf T o i (o:Int) 0 0:=fun _=>⟨rfl,hi,rfl,ho⟩
 obtain ⟨f,rfl⟩:∃ g,f=g+1:=by
  cases f with
  |zero=>rw[qcu] at hr;cases hr
  |succ g=>exact ⟨g,rfl⟩
 rw[qcu] at hr;refine cI Tryz.func206 rfl (n:=36) rfl rfl rfl ?_;refine gag ?_;refine oS (sA fun b2=>?_) rfl;refine gaw ?_;refine oS (sH [_,_] rfl zp1 (qaP rb T i o 0 0 [45] hl) ?_) rfl;refine gam ?_;refine oC rfl (fun hm=>?_) (fun hm=>?_)
 ·rw[andz] at hm;rw[if_pos hm] at hr;have hr':stO o i 0 0 (fun i o=>qal (some (qbs T [45] i o)) fun _ i o=>qal (qcu T f i o) fun e i o=>some (.ok (.mk nNeg 0 [] [e]) i (o-1)))=some r:=hr;refine gaw ?_;refine oS (sH [_,_] rfl pH (qaP rb T i o 0 0 [33] hl) ?_) rfl;refine gam ?_;refine oC rfl (fun hn=>?_) (fun hn=>?_)
  ·rw[andz,qhU hm zDd] at hn;cases hn
  refine gaa ?_;refine oC rfl (fun hz=>?_) (fun hz=>?_)
  ·exact absurd hz zDd
  refine gau ?_;refine oS (sQ [_,_] rfl pH hr' (fun r1 h1=>qbQ rb T o i o 0 0 [45] hl hT.pos hw r1 h1) fun u i1 op1 ln1 er1 hw1 hal1 hr1=>?_) rfl;refine gab ?_;refine oC rfl (fun hd=>?_) (fun hd=>?_)
  ·exact zT25
  obtain rfl:er1=0:=by simpa using hd
  obtain ⟨rfl,hi1,rfl,ho1⟩:=hw1 rfl;refine gau ?_;refine oS (sQ [_] rfl pH hr1 (fun r1 h1=>hU f zo (o+1) i1 r1 hi1 ho1 h1) fun e i2 op2 ln2 er2 hw2 hal2 hr2=>?_) rfl;refine oS (sA fun b5=>?_) rfl;refine gab ?_
  by_cases he:er2=0
  ·subst he;obtain ⟨rfl,hi2,rfl,ho2⟩:=hw2 rfl;refine gab ?_;refine zQ45 ?_;refine gac ?_;exact retQ (v:=.mk nNeg 0 [] [e]) (ln:=0) (er:=0) rfl (rC (rA rfl zm0 rfl zsr) rN) (fun _=>⟨rfl,hi2,by omega,ho⟩) hr2 rfl (zhP zp1 zhn)
  ·refine oP (Pure.subW rfl rfl) rfl ?_;refine gab ?_;refine zQ45 ?_;refine gac ?_;exact retQ (v:=.mk nNeg 0 [] [e]) rfl (rC (rA rfl zm0 rfl zsr) rN) (qci he) ((qaD he).trans ((qaD he).symm.trans hr2)) rfl (zhP zp1 zhn)
 rw[andz] at hm;rw[if_neg (by rw[hm];decide)] at hr;refine gau ?_;refine oS (sH [_,_] rfl pH (qaP rb T i o 0 0 [33] hl) ?_) rfl;refine gam ?_;refine oC rfl (fun hn=>?_) (fun hn=>?_)
 ·rw[andz] at hn;rw[if_pos hn] at hr;have hr':stO o i 0 0 (fun i o=>qal (some (qbs T [33] i o)) fun _ i o=>qal (qcu T f i o) fun e i o=>some (.ok (.mk nNot 0 [] [e]) i (o-1)))=some r:=hr;refine gaa ?_;refine oC rfl (fun hz=>?_) (fun hz=>?_)
  ·exact absurd hz zDd
  refine gau ?_;refine oS (sQ [_,_] rfl pH hr' (fun r1 h1=>qbQ rb T o i o 0 0 [33] hl hT.pos hw r1 h1) fun u i1 op1 ln1 er1 hw1 hal1 hr1=>?_) rfl;refine gab ?_;refine oC rfl (fun hd=>?_) (fun hd=>?_)
  ·exact zT25
  obtain rfl:er1=0:=by simpa using hd
  obtain ⟨rfl,hi1,rfl,ho1⟩:=hw1 rfl;refine gau ?_;refine oS (sQ [_] rfl pH hr1 (fun r1 h1=>hU f zo (o+1) i1 r1 hi1 ho1 h1) fun e i2 op2 ln2 er2 hw2 hal2 hr2=>?_) rfl;refine oS (sA fun b5=>?_) rfl;refine gab ?_
  by_cases he:er2=0
  ·subst he;obtain ⟨rfl,hi2,rfl,ho2⟩:=hw2 rfl;refine gab ?_;refine zQ45 ?_;refine gac ?_;exact retQ (v:=.mk nNot 0 [] [e]) (ln:=0) (er:=0) rfl (rC (rA rfl zm0 rfl zsr) rN) (fun _=>⟨rfl,hi2,by omega,ho⟩) hr2 rfl (zhP zp1 zhn)
  ·refine oP (Pure.subW rfl rfl) rfl ?_;refine gab ?_;refine zQ45 ?_;refine gac ?_;exact retQ (v:=.mk nNot 0 [] [e]) rfl (rC (rA rfl zm0 rfl zsr) rN) (qci he) ((qaD he).trans ((qaD he).symm.trans hr2)) rfl (zhP zp1 zhn)
 rw[andz] at hn;rw[if_neg (by rw[hn];decide)] at hr;have hr':=qm0 (o:=o) (i:=i) (ln:=0) (er:=0) (g:=qfO T f) hr;refine gaa ?_;refine oC rfl (fun hz=>?_) (fun hz=>?_)
 ·refine gaf ?_;refine oS (sQ [_] rfl pH hr' (fun r1 h1=>hP f zo o i r1 hi ho h1) fun v i1 op1 ln1 er1 hw1 hal hr1=>?_) rfl;refine gac ?_;exact retQ (v:=v) rfl (rC (rA rfl zm0 rfl zsr) rN) hw1 hr1 rfl (zhP zp1 zhn)
 ·exact absurd hz zDd
theorem qrF (rb:Nat) (T:List Tok) (hT:RTOK T) (f:Nat):EC B0 w0 rb T f/\UC B0 w0 rb T f/\PC B0 w0 rb T f/\AC B0 w0 rb T f:=by
 induction f using Nat.strongRecOn with
 |ind f ih=>
  exact ⟨qoG rb T hT f (fun g hg=>(ih g hg).1) (fun g hg=>(ih g hg).2.1),qq7 rb T hT f (fun g hg=>(ih g hg).2.1) (fun g hg=>(ih g hg).2.2.1),
   qn8 rb T hT f (fun g hg=>(ih g hg).1) (fun g hg=>(ih g hg).2.2.2),qoH rb T hT f (fun g hg=>(ih g hg).1)⟩
end
end Go.Proofs.YthmhncflhnbedaaGreatDoor
namespace Go.Proofs.YthmhncflhnbedaaGreatDoor
open Go.GL Go.RowKit Go.Stele
attribute [local irreducible] LOps qae qag LCalls Go.GL.Pure qaA qaq qah LQ LAny qaF qap LS
def qSms (l:List Sm):LV:=.list (l.map encS)
def SC (B0:Nat) (w0:World) (rb:Nat) (T:List Tok) (f:Nat):Prop:=∀ (o i:Nat) (r:Res (List Sm)),i<=T.length->o<=100->qbV T f [] i o=some r->LCalls (KC B0 w0) 75 [ptr rb 0] [rdH rb T i o 0 0] (qe9 rb T o qSms r)
def TC (B0:Nat) (w0:World) (rb:Nat) (T:List Tok) (f:Nat):Prop:=∀ (o i:Nat) (r:Res Sm),i<=T.length->o<=100->qei T f i o=some r->LCalls (KC B0 w0) 134 [ptr rb 0] [rdH rb T i o 0 0] (qe9 rb T o encS r)
def BC (B0:Nat) (w0:World) (rb:Nat) (T:List Tok) (f:Nat):Prop:=∀ (o i:Nat) (op ln er:Int) (r:Res (List Sm)),Wf T o i op ln er->stO o i ln er (qcG T f)=some r->LCalls (KC B0 w0) 177 [ptr rb 0] [rdH rb T i op ln er] (qe9 rb T o qSms r)
theorem qp2 {T:List Tok} {f i o i' o':Nat} {s:Sm} (h:qei T f i o=some (.ok s i' o')):i<i':=((qe1 T f).2.2.1 i o _ h).2.1 rfl
section
variable {B0:Nat} {w0:World}
theorem qh4 (rb:Nat) (T:List Tok) (hT:RTOK T) (o i:Nat) (op ln er:Int) (he:er≠0):LCalls (KC B0 w0) 75 [ptr rb 0] [rdH rb T i op ln er] (qe9 rb T o qSms (.err ln er)):=by
 refine cI Tryz.func75 rfl (n:=32) rfl rfl rfl ?_;refine gaa ?_
 refine oL (fun k ls H=>ls=[(0,ptr rb 0),(3,qaa)]/\H=[rdH rb T i op ln er])
  ⟨0,_,_,⟨rfl,rfl⟩,⟨rfl,rfl,trivial⟩,zhR _⟩ ?_
 rintro k ls H ⟨rfl,rfl⟩ j hj;have hz:decide (er=0)=false:=decide_eq_false he;refine gaa ?_;refine oB 9 rfl (fun h=>?_) (fun h=>?_)
 ·rw[hz] at h;cases h
 refine gae ?_;refine oC rfl (fun h2=>?_) (fun h2=>?_)
 ·cases h2
 refine gaa ?_;exact retQ (v:=[]) hj (rC (rT (v:=qaa) rfl vN) rN) (qci he) (qaD he) rfl zhr
theorem qmu (rb:Nat) (T:List Tok) (hT:RTOK T) (f:Nat) (hS:∀ g,g<f->SC B0 w0 rb T g):BC B0 w0 rb T f:=by
 intro o i op ln er r hw hr;have hl:=hT.len
 obtain ⟨g,hg,hr'⟩:∃ g,(g<f∨qbV T g []=fun _ _=>none)/\stO o i ln er (fun i o=>qal (some (qbs T [123] i o)) fun _ i o=>qal (qbV T g [] i o) fun l i o=>qal (some (sEnd T [125] i o)) fun _ i o=>some (.ok l i o))=some r:=by
  cases f with
  |zero=>
   refine ⟨0,.inr (by funext i o;rw[qbV]),?_⟩
   by_cases he:er=0
   ·subst he;rw[qa5,qcG] at hr;cases hr
   ·rw[qaD he] at hr ⊢
    exact hr
  |succ g=>
   refine ⟨g,.inl zo,?_⟩;rw[<-hr];congr 1;funext i o;rw[qcG]
 refine cI Tryz.func177 rfl (n:=11) rfl rfl rfl ?_;refine gaw ?_;refine oS (sQ [_,_] rfl pH hr' (fun r1 h1=>qbQ rb T o i op ln er [123] hl hT.pos hw r1 h1) fun u i1 op1 ln1 er1 hw1 hal1 hr1=>?_) rfl;refine gan ?_;refine oS (sQ (enc:=qSms) (o':=o+1) [_] rfl pH hr1 (fun r1 h1=>?_) fun l i2 op2 ln2 er2 hw2 hal2 hr2=>?_) rfl
 ·by_cases he:er1=0
  ·subst he;obtain ⟨rfl,hi1,rfl,ho1⟩:=hw1 rfl;rw[qa5] at h1;rcases hg with hg|hg
   ·exact hS g hg (o+1) i1 r1 hi1 ho1 h1
   ·rw[hg] at h1;cases h1
  ·rw[qaD he] at h1;cases h1;exact qh4 rb T hT (o+1) i1 op1 ln1 er1 he
 refine gab ?_;refine oS (sQ [_,_] rfl pH hr2 (fun r1 h1=>qb3 rb T o i2 op2 ln2 er2 [125] hl hT.pos hw2 r1 h1) fun u2 i3 op3 ln3 er3 hw3 hal3 hr3=>?_) rfl;refine gab ?_;exact retQ (v:=l) rfl (rC (rT (v:=.list _) rfl zsr) rN) hw3 hr3 rfl zhr
theorem qmG (rb:Nat) (T:List Tok) (hT:RTOK T) (f:Nat) (hS:∀ g,g<f->TC B0 w0 rb T g):SC B0 w0 rb T f:=by
 intro o i r hi ho hr;have hl:=hT.len;have hml:(T.map qbJ).length=T.length:=zLm _;refine cI Tryz.func75 rfl (n:=32) rfl rfl rfl ?_;refine gaa ?_
 refine oL (fun k ls H=>∃ (v:LV) (l:List Sm) (i2:Nat) (op2 ln2 er2:Int) (Ha:Heap),k<=f/\ls=[(0,ptr rb 0),(3,v)]/\H=rdH rb T i2 op2 ln2 er2::Ha/\Acc 6 v (l.map encS) Ha []/\Wf T o i2 op2 ln2 er2/\l.length<=T.length+5/\(er2=0->l.length<=i2+1)/\stO o i2 ln2 er2 (qbV T k l)=some r)
  ⟨f,_,rdH rb T i o 0 0::[],⟨qaa,[],i,o,0,0,_,zNr _,rfl,rfl,Acc.nil,fun _=>⟨rfl,hi,rfl,ho⟩,by simp,fun _=>by simp,hr⟩,⟨rfl,rfl,trivial⟩,zhR _⟩ ?_
 rintro k ls H ⟨v,l,i2,op2,ln2,er2,Ha,hkf,rfl,rfl,hacc,hw2,hll,hla,hI⟩ j hj
 by_cases he:er2=0
 case neg=>
  have hz:decide (er2=0)=false:=decide_eq_false he;rw[qaD he] at hI;refine gaa ?_;refine oB 9 rfl (fun h=>?_) (fun h=>?_)
  ·rw[hz] at h;cases h
  refine gae ?_;refine oC rfl (fun h2=>?_) (fun h2=>?_)
  ·cases h2
  refine gaa ?_;refine zQ38 ?_;exact retQ (v:=l) hj (rC (rT (v:=v) rfl hacc.sub) rN) hw2 ((qaD he).trans hI) rfl zhp
 subst he;obtain ⟨rfl,hi2,rfl,ho2⟩:=hw2 rfl;have hla:=hla rfl;rw[qa5] at hI
 obtain ⟨k,rfl⟩:∃ k',k=k'+1:=by
  cases k with
  |zero=>rw[qbV] at hI;cases hI
  |succ k=>exact ⟨k,rfl⟩
 rw[qbV] at hI;refine gaa ?_;refine oB 9 rfl (fun h=>?_) (fun h=>?_)
 case refine_2=>cases h
 refine oS (sH [_,_] rfl pH (qaP rb T i2 o 0 0 [125] hl) ?_) rfl;refine gad ?_;refine oC rfl (fun hc=>?_) (fun hc=>?_)
 ·have hc':qaE T i2 [[125]]=false:=by
   rw[Bool.not_eq_true',andz] at hc;exact hc
  rw[if_neg (by rw[hc'];decide)] at hI;refine gad ?_;refine cC [(0,ptr rb 0),(3,v),(23,bool (decide (T.length<=i2)))] ?_ (fun j2 hj2=>?_)
  ·refine zQ85 ?_;refine gao ?_;exact ⟨⟨rfl,rfl,qai (by rw[decide_eq_decide];simp),trivial⟩,rfl,rfl⟩
  refine oC rfl (fun hd=>?_) (fun hd=>?_)
  ·have hge:T.length<=i2:=zt hd
   have hfa:qei T k i2 o=none∨qei T k i2 o=some (qfU T i2):=by
    have htn:∀ xs,qaE T i2 xs=false:=qhY hge
    have hwd:∀ n,qbS T n i2 o=qfU T i2:=fun n=>by
     unfold qbS;rw[List.getElem?_eq_none hge]
    cases k with
    |zero=>left;rw[qei]
    |succ k=>
     rw[qei,if_neg (by rw[htn];decide),if_neg (by rw[htn];decide)]
     cases k with
     |zero=>left;rw[qcx];rfl
     |succ k=>
      right;rw[qcx,if_neg (by rw[htn];decide),if_neg (by rw[htn];decide),hwd];rfl
   rcases hfa with hfa|hfa
   ·rw[hfa] at hI;cases hI
   rw[hfa] at hI;refine gaf ?_;refine oS (sH [_,_] rfl pH (qcJ rb T i2 o 3 hl hT.pos zo) ?_) rfl;refine gaz ?_;exact retQ (v:=[]) (hj2.trans hj) (rC (rT (v:=qaa) rfl vN) rN) (qci zDd) ((qaD zDd).trans hI) rfl zhp
  have hI':stO o i2 0 0 (fun i o=>qal (qei T k i o) fun s i o=>qbV T k (l++[s]) i o)=some r:=hI;refine gak ?_;refine qih ?_;refine oS (sQ (op:=(o:Int)) [_] rfl pH hI' (fun r1 h1=>hS k zo o i2 r1 hi2 ho2 h1) fun s i4 op4 ln4 er4 hw4 hal4 hI4=>?_) rfl;refine zQ15 ?_;refine oS (S.acc1 rfl hacc rfl (by simp;rfl) rfl (by simp;omega) fun v' H' hacc'=>?_) rfl;refine zQ62 ?_;refine gad ?_
  exact ⟨k,_,_,by omega,⟨v',l++[s],i4,op4,ln4,er4,H',by omega,rfl,rfl,by rw[zMa];exact hacc',hw4,by simp;omega,fun h4=>by
   obtain ⟨_,h5⟩:=hal4 h4;have:=qp2 h5
   simp
   omega,hI4⟩,⟨rfl,rfl,trivial⟩,zhR _,hj2.trans hj⟩
 ·have hc':qaE T i2 [[125]]=true:=by
   rw[Bool.not_eq_false',andz] at hc;exact hc
  rw[if_pos hc'] at hI;refine gaa ?_;refine zQ38 ?_;exact retQ (v:=l) (ln:=0) (er:=0) hj (rC (rT (v:=v) rfl hacc.sub) rN) (fun _=>⟨rfl,hi2,rfl,ho2⟩) hI rfl zhp
end
end Go.Proofs.YthmhncflhnbedaaGreatDoor
namespace Go.Proofs.YthmhncflhnbedaaGreatDoor
open Go.GL Go.RowKit Go.Stele
attribute [local irreducible] LOps qae qag LCalls Go.GL.Pure qaA qaq qah LQ LAny qaF qap LS
section
variable {B0:Nat} {w0:World}
theorem qoC (rb:Nat) (T:List Tok) (hT:RTOK T) (f:Nat) (hB:∀ g,g<f->BC B0 w0 rb T g):TC B0 w0 rb T f:=by
 intro o i r hi ho hr;have hl:=hT.len;have hE:=fun g=>(qrF (B0:=B0) (w0:=w0) rb T hT g).1;have hA:=fun g=>(qrF (B0:=B0) (w0:=w0) rb T hT g).2.2.2;have hw:Wf T o i (o:Int) 0 0:=fun _=>⟨rfl,hi,rfl,ho⟩
 obtain ⟨f,rfl⟩:∃ g,f=g+1:=by
  cases f with
  |zero=>rw[qei] at hr;cases hr
  |succ g=>exact ⟨g,rfl⟩
 rw[qei] at hr;refine cI Tryz.func134 rfl (n:=118) rfl rfl rfl ?_;refine gag ?_;refine oS (sA fun b2=>?_) rfl;refine gai ?_;refine oS (sA fun b3=>?_) rfl;refine gaa ?_;refine oS (sH [_,_] rfl zp2 (qaP rb T i o 0 0 kwIf hl) ?_) rfl;refine ga2 ?_;refine oC rfl (fun hc=>?_) (fun hc=>?_)
 ·rw[andz] at hc;have hlt:=qaG hc;rw[if_pos hc] at hr
  have hr':stO o (i+1) 0 0 (fun i o=>qal (eLev T f 0 i o) fun e i' op'=>qal (qcG T f i' op') fun th i' op'=>
   if qaE T i' [qlk] then qal (qcG T f (i'+1) op') fun el i' op'=>some (.ok (.mk 3 [] [] [e] th el) i' op') else some (.ok (.mk 3 [] [] [e] th []) i' op'))=some r:=hr
  refine gab ?_;refine oS (sQ (i:=i+1) (op:=(o:Int)) [_,_] rfl zp1 hr' (fun r1 h1=>hE f 0 o (i+1) o 0 0 r1 zo (fun _=>⟨rfl,hlt,rfl,ho⟩) h1) fun e i1 op1 ln1 er1 hw1 hal1 hr1=>?_) rfl;refine zQ45 ?_;refine gab ?_;refine oS (sQ [_] rfl zp1 hr1 (fun r1 h1=>hB f zo o i1 op1 ln1 er1 r1 hw1 h1) fun th i2 op2 ln2 er2 hw2 hal2 hr2=>?_) rfl;refine gab ?_;refine oS (sH [_,_] rfl zp1 (qaP rb T i2 op2 ln2 er2 qlk hl) ?_) rfl;refine gam ?_;refine oC rfl (fun hd=>?_) (fun hd=>?_)
  ·obtain ⟨he,ht⟩:=Bool.and_eq_true_iff.1 hd;obtain rfl:=zt he;obtain ⟨rfl,hi2,rfl,ho2⟩:=hw2 rfl;have hlt2:=qaG ht;have hr3a:=qsZ ht hr2;have hr3:stO o (i2+1) 0 0 (fun i o=>qal (qcG T f i o) fun el i o=>some (.ok (.mk 3 [] [] [e] th el) i o))=some r:=hr3a;refine gab ?_;refine oS (sQ (i:=i2+1) (op:=(o:Int)) [_] rfl pH hr3 (fun r1 h1=>hB f zo o (i2+1) o 0 0 r1 (fun _=>⟨rfl,hlt2,rfl,ho⟩) h1) fun el i3 op3 ln3 er3 hw3 hal3 hr4=>?_) rfl;refine gab ?_;exact retQ (v:=.mk 3 [] [] [e] th el) rfl (rC (rA (k:=6) rfl zm0 rfl (vA (bs:=[_,_,.list [],_,_,_]) ⟨vR _,vR _,vN,vR _,vR _,vR _,trivial⟩)) rN) hw3 hr4 (by rw[qbk];rfl) (zhP zp2 zhn)
  ·have hr3:=qrV hd hr2;refine gab ?_;exact retQ (v:=.mk 3 [] [] [e] th []) rfl (rC (rA (k:=6) rfl zm0 rfl (vA (bs:=[_,_,.list [],_,_,.list []]) ⟨vR _,vR _,vN,vR _,vR _,vN,trivial⟩)) rN) hw2 hr3 (by rw[qbk];rfl) (zhP zp1 zhn)
 rw[andz] at hc;rw[if_neg (by rw[hc];decide)] at hr;refine gaf ?_;refine oS (sH [_,_] rfl pH (qaP rb T i o 0 0 qka hl) ?_) rfl;refine ga2 ?_;refine oC rfl (fun hc2=>?_) (fun hc2=>?_)
 ·rw[andz] at hc2;have hlt:=qaG hc2;rw[if_pos hc2] at hr;have hr':stO o (i+1) 0 0 (fun i o=>qal (eLev T f 0 i o) fun e i' op'=>qal (qcG T f i' op') fun th i' op'=>some (.ok (.mk 4 [] [] [e] th []) i' op'))=some r:=hr;refine gab ?_;refine oS (sQ (i:=i+1) (op:=(o:Int)) [_,_] rfl zp1 hr' (fun r1 h1=>hE f 0 o (i+1) o 0 0 r1 zo (fun _=>⟨rfl,hlt,rfl,ho⟩) h1) fun e i1 op1 ln1 er1 hw1 hal1 hr1=>?_) rfl;refine zQ45 ?_;refine gab ?_;refine oS (sQ [_] rfl zp1 hr1 (fun r1 h1=>hB f zo o i1 op1 ln1 er1 r1 hw1 h1) fun th i2 op2 ln2 er2 hw2 hal2 hr2=>?_) rfl;refine gab ?_;exact retQ (v:=.mk 4 [] [] [e] th []) rfl (rC (rA (k:=6) rfl zm0 rfl (vA (bs:=[_,_,.list [],_,_,.list []]) ⟨vR _,vR _,vN,vR _,vR _,vN,trivial⟩)) rN) hw2 hr2 (by rw[qbk];rfl) (zhP zp2 zhn)
 rw[andz] at hc2;rw[if_neg (by rw[hc2];decide)] at hr
 obtain ⟨g,rfl⟩:∃ g,f=g+1:=by
  cases f with
  |zero=>rw[qcx] at hr;cases hr
  |succ g=>exact ⟨g,rfl⟩
 rw[qcx] at hr;refine gaf ?_;refine oS (sH [_,_] rfl pH (qaP rb T i o 0 0 qhN hl) ?_) rfl;refine ga2 ?_;refine oC rfl (fun hc3=>?_) (fun hc3=>?_)
 ·rw[andz] at hc3;have hlt:=qaG hc3;rw[if_pos hc3,qbG] at hr;have hr':stO o (i+1) 0 0 (fun i o=>qal (eLev T g 0 i o) fun e i o=>qal (some (qb6 T [59] i o)) fun _ i o=>some (.ok (.mk 5 [] [] [e] [] []) i o))=some r:=hr;refine gab ?_;refine oS (sQ (i:=i+1) (op:=(o:Int)) [_,_] rfl zp1 hr' (fun r1 h1=>hE g 0 o (i+1) o 0 0 r1 zo (fun _=>⟨rfl,hlt,rfl,ho⟩) h1) fun e i1 op1 ln1 er1 hw1 hal1 hr1=>?_) rfl;refine zQ45 ?_;refine gab ?_;refine oS (sQ [_,_] rfl zp1 hr1 (fun r1 h1=>qbw rb T o _ _ _ _ [59] hl hT.pos hw1 r1 h1) fun u8 i8 op8 ln8 er8 hw8 hal8 hr8=>?_) rfl;refine gab ?_;exact retQ (v:=.mk 5 [] [] [e] [] []) rfl (rC (rA (k:=6) rfl zm0 rfl (vA (bs:=[_,_,.list _,.list _,.list [],.list []]) ⟨vR _,vR _,vN,vR _,vN,vN,trivial⟩)) rN) hw8 hr8 (by rw[qbk];rfl) (zhP zp1 zhn)
 rw[andz] at hc3;rw[if_neg (by rw[hc3];decide)] at hr;refine gaf ?_;refine oS (sH [_,_] rfl pH (qaP rb T i o 0 0 qnd hl) ?_) rfl;refine ga2 ?_;refine oC rfl (fun hc4=>?_) (fun hc4=>?_)
 ·rw[andz] at hc4;have hlt:=qaG hc4;rw[if_pos hc4] at hr;have hr':stO o (i+1) 0 0 (fun i o=>qal (some (qb6 T [59] i o)) fun _ i o=>some (.ok (.mk 7 [] [] [] [] []) i o))=some r:=hr;have hw':Wf T o (i+1) (o:Int) 0 0:=fun _=>⟨rfl,hlt,rfl,ho⟩;refine gab ?_;refine oS (sQ (i:=i+1) (op:=(o:Int)) [_,_] rfl zp1 hr' (fun r1 h1=>qbw rb T o _ _ _ _ [59] hl hT.pos hw' r1 h1) fun u8 i8 op8 ln8 er8 hw8 hal8 hr8=>?_) rfl;refine gab ?_;exact retQ (v:=.mk 7 [] [] [] [] []) rfl (rC (rA (k:=6) rfl zm0 rfl (vA (bs:=[_,_,.list [],.list [],.list [],.list []]) ⟨vR _,vR _,vN,vN,vN,vN,trivial⟩)) rN) hw8 hr8 (by rw[qbk];rfl) (zhP zp1 zhn)
 rw[andz] at hc4;rw[if_neg (by rw[hc4];decide),qbG] at hr
 have hr':stO o i 0 0 (fun i o=>qal (some (qbS T 2 i o)) fun s i' op'=>qal (if qaE T i' [[40]] then qal (qet T g i' op') fun l i' op'=>some (.ok (.mk 6 [] [] [.mk qa8 0 s l] [] []) i' op')
   else if qaE T i' [[91]] then qal (qcU T g i' op') fun x i' op'=>qal (some (qb6 T [61] i' op')) fun _ i' op'=>qal (eLev T g 0 i' op') fun e i' op'=>some (.ok (.mk 2 s [x] [e] [] []) i' op')
   else qal (some (qb6 T [61] i' op')) fun _ i' op'=>qal (eLev T g 0 i' op') fun e i' op'=>some (.ok (.mk 1 s [] [e] [] []) i' op')) fun s i o=>qal (some (qb6 T [59] i o)) fun _ i o=>some (.ok s i o))=some r:=hr
 refine gaf ?_;refine oS (sQ [_] rfl pH hr' (fun r1 h1=>qdO rb T o i o 0 0 hl hT.pos hw r1 h1) fun s i1 op1 ln1 er1 hw1 hal1 hr1=>?_) rfl;refine gab ?_;refine oS (sH [_,_] rfl zp1 (qaP rb T i1 op1 ln1 er1 [40] hl) ?_) rfl;refine gam ?_;refine oC rfl (fun hq=>?_) (fun hq=>?_)
 ·obtain ⟨he,ht⟩:=Bool.and_eq_true_iff.1 hq;obtain rfl:=zt he;obtain ⟨rfl,hi1,rfl,ho1⟩:=hw1 rfl
  have hr2:stO o i1 0 0 (fun i o=>qal (qet T g i o) fun l i o=>qal (some (qb6 T [59] i o)) fun _ i o=>some (.ok (.mk 6 [] [] [.mk qa8 0 s l] [] []) i o))=some r:=by
   rw[qa5] at hr1 ⊢;rw[if_pos ht,qbG] at hr1;exact hr1
  refine gab ?_;refine cD (m:=8) rfl [] ?_;refine zQ47 ?_;refine zl2 (i:=1) (j:=3) zk ?_ ?_
  ·refine lH rfl rfl (pL (c:=str s) rfl zm0 rfl) ?_;refine lO 3 (lW rfl (.inl rfl) rfl (sQ [_] rfl zp1 hr2 (fun r1 h1=>hA g o i1 r1 hi1 ho1 h1) fun l i2 op2 ln2 er2 hw2 hal2 hr3=>?_));refine zQ77 ?_;refine oS (sQ [_,_] rfl zp1 hr3 (fun r1 h1=>qbw rb T o _ _ _ _ [59] hl hT.pos hw2 r1 h1) fun u8 i8 op8 ln8 er8 hw8 hal8 hr8=>?_) rfl;refine gab ?_;exact retQ (v:=.mk 6 [] [] [.mk qa8 0 s l] [] []) rfl (rC (rA (k:=6) rfl zm0 rfl (vA (bs:=[_,_,.list [],_,.list [],.list []]) ⟨vR _,vR _,vN,vR _,vN,vN,trivial⟩)) rN) hw8 hr8 (by rw[qbk];show _=LV.agg [_,_,_,.list [encE (.mk qa8 0 s l)],_,_];rw[qbW];rfl) (zhP zp1 zhn)
  ·refine lW rfl (.inl rfl) rfl (sQ [_] rfl zp1 hr2 (fun r1 h1=>hA g o i1 r1 hi1 ho1 h1) fun l i2 op2 ln2 er2 hw2 hal2 hr3=>?_);refine lO 1 (lH rfl rfl (pL (c:=str s) rfl zm1 rfl) ?_);refine zQ77 ?_;refine oS (sQ [_,_] rfl zp1 hr3 (fun r1 h1=>qbw rb T o _ _ _ _ [59] hl hT.pos hw2 r1 h1) fun u8 i8 op8 ln8 er8 hw8 hal8 hr8=>?_) rfl;refine gab ?_;exact retQ (v:=.mk 6 [] [] [.mk qa8 0 s l] [] []) rfl (rC (rA (k:=6) rfl zm0 rfl (vA (bs:=[_,_,.list [],_,.list [],.list []]) ⟨vR _,vR _,vN,vR _,vN,vN,trivial⟩)) rN) hw8 hr8 (by rw[qbk];show _=LV.agg [_,_,_,.list [encE (.mk qa8 0 s l)],_,_];rw[qbW];rfl) (zhP zp1 zhn)
 refine gab ?_;refine oS (sH [_,_] rfl zp1 (qaP rb T i1 op1 ln1 er1 [91] hl) ?_) rfl;refine gam ?_;refine oC rfl (fun hx=>?_) (fun hx=>?_)
 ·obtain ⟨he,ht⟩:=Bool.and_eq_true_iff.1 hx;obtain rfl:=zt he;obtain ⟨rfl,hi1,rfl,ho1⟩:=hw1 rfl;rw[qa5] at hr1;rw[if_neg (by rw[qhU ht zDd];decide),if_pos ht] at hr1
  obtain ⟨q,rfl⟩:∃ q,g=q+1:=by
   cases g with
   |zero=>rw[qcU] at hr1;cases hr1
   |succ q=>exact ⟨q,rfl⟩
  rw[qcU] at hr1;simp only[qbG] at hr1
  have hr2:stO o i1 0 0 (fun i o=>qal (some (qbs T [91] i o)) fun _ i o=>qal (eLev T q 0 i o) fun x i o=>qal (some (sEnd T [93] i o)) fun _ i o=>qal (some (qb6 T [61] i o)) fun _ i o=>qal (eLev T (q+1) 0 i o) fun e i o=>
   qal (some (qb6 T [59] i o)) fun _ i o=>some (.ok (.mk 2 s [x] [e] [] []) i o))=some r:=hr1
  refine gab ?_;refine oS (sQ [_,_] rfl zp1 hr2 (fun r1 h1=>qbQ rb T o i1 o 0 0 [91] hl hT.pos hw1 r1 h1) fun u i2 op2 ln2 er2 hw2 hal2 hr3=>?_) rfl;refine gan ?_;refine oS (sQ [_,_] rfl pH hr3 (fun r1 h1=>hE q 0 (o+1) i2 op2 ln2 er2 r1 zo hw2 h1) fun x i3 op3 ln3 er3 hw3 hal3 hr4=>?_) rfl;refine oS (sL (es:=[encE x]) [_] rfl (zeC rfl rfl eN) rfl rfl rfl ?_) rfl;refine gab ?_;refine oS (sQ [_,_] rfl zp1 hr4 (fun r1 h1=>qb3 rb T o i3 op3 ln3 er3 [93] hl hT.pos hw3 r1 h1) fun u2 i4 op4 ln4 er4 hw4 hal4 hr5=>?_) rfl;refine gan ?_;refine oS (sQ [_,_] rfl pH hr5 (fun r1 h1=>qbw rb T o i4 op4 ln4 er4 [61] hl hT.pos hw4 r1 h1) fun u3 i5 op5 ln5 er5 hw5 hal5 hr6=>?_) rfl;refine gan ?_;refine oS (sQ [_,_] rfl pH hr6 (fun r1 h1=>hE (q+1) 0 o i5 op5 ln5 er5 r1 zo hw5 h1) fun e i6 op6 ln6 er6 hw6 hal6 hr7=>?_) rfl;refine zQ45 ?_;refine gab ?_;refine oS (sQ [_,_] rfl zp1 hr7 (fun r1 h1=>qbw rb T o _ _ _ _ [59] hl hT.pos hw6 r1 h1) fun u8 i8 op8 ln8 er8 hw8 hal8 hr8=>?_) rfl;refine gab ?_;exact retQ (v:=.mk 2 s [x] [e] [] []) rfl (rC (rA (k:=6) rfl zm0 rfl (vA (bs:=[_,_,.list _,.list _,.list [],.list []]) ⟨vR _,vR _,vR _,vR _,vN,vN,trivial⟩)) rN) hw8 hr8 (by rw[qbk];rfl) (zhP zp1 zhn)
 have hr2:stO o i1 ln1 er1 (fun i o=>qal (some (qb6 T [61] i o)) fun _ i o=>qal (eLev T g 0 i o) fun e i o=>qal (some (qb6 T [59] i o)) fun _ i o=>some (.ok (.mk 1 s [] [e] [] []) i o))=some r:=by
  by_cases he:er1=0
  ·subst he;have h1:qaE T i1 [[40]]=false:=by rw[andz] at hq;exact hq
   have h2:qaE T i1 [[91]]=false:=by rw[andz] at hx;exact hx
   rw[qa5] at hr1 ⊢;rw[if_neg (by rw[h1];decide),if_neg (by rw[h2];decide)] at hr1;simp only[qbG] at hr1;exact hr1
  ·rw[qaD he] at hr1 ⊢;exact hr1
 refine gau ?_;refine oS (sQ [_,_] rfl pH hr2 (fun r1 h1=>qbw rb T o i1 op1 ln1 er1 [61] hl hT.pos hw1 r1 h1) fun u3 i5 op5 ln5 er5 hw5 hal5 hr6=>?_) rfl;refine gan ?_;refine oS (sQ [_,_] rfl pH hr6 (fun r1 h1=>hE g 0 o i5 op5 ln5 er5 r1 zo hw5 h1) fun e i6 op6 ln6 er6 hw6 hal6 hr7=>?_) rfl;refine zQ45 ?_;refine gab ?_;refine oS (sQ [_,_] rfl zp1 hr7 (fun r1 h1=>qbw rb T o _ _ _ _ [59] hl hT.pos hw6 r1 h1) fun u8 i8 op8 ln8 er8 hw8 hal8 hr8=>?_) rfl;refine gab ?_;exact retQ (v:=.mk 1 s [] [e] [] []) rfl (rC (rA (k:=6) rfl zm0 rfl (vA (bs:=[_,_,.list _,.list _,.list [],.list []]) ⟨vR _,vR _,vN,vR _,vN,vN,trivial⟩)) rN) hw8 hr8 (by rw[qbk];rfl) (zhP zp1 zhn)
theorem qrO (rb:Nat) (T:List Tok) (hT:RTOK T) (f:Nat):BC B0 w0 rb T f/\SC B0 w0 rb T f/\TC B0 w0 rb T f:=by
 induction f using Nat.strongRecOn with
 |ind f ih=>
  exact ⟨qmu rb T hT f (fun g hg=>(ih g hg).2.1),qmG rb T hT f (fun g hg=>(ih g hg).2.2),qoC rb T hT f (fun g hg=>(ih g hg).1)⟩
end
end Go.Proofs.YthmhncflhnbedaaGreatDoor
