/- Texts joined: RC8, RC9, A23B, A23C, A23E. -/
import Derived.Test.YtpbbgkoalnonoaaGreatDoorBRowCA4
import Derived.Test.YtpbbgkoalnonoaaGreatDoorBRowCA9
import Derived.Test.YtpbbgkoalnonoaaGreatDoorBRowCA10
import Derived.Test.YtpbbgkoalnonoaaGreatDoorBRowCA11
import Derived.Test.YtpbbgkoalnonoaaGreatDoorBRowCA12
set_option linter.unusedVariables false
set_option linter.unusedSimpArgs false
set_option maxRecDepth 100000
set_option maxHeartbeats 4000000
namespace Go.Proofs.YtpbbgkoalnonoaaGreatDoor.RC
open Go.GL Go.RowKit Go.Stele
mutual
theorem callsE_len:∀ x:Ex,(callsE x).length≤ndE x
 |.mk op num name args=>by
  rw[callsE,ndE,zLa]
  have:=callsEs_len args
  split <;> simp <;> omega
theorem callsEs_len:∀ l:List Ex,(callsEs l).length≤ndEs l
 |[]=>by rw[callsEs,ndEs];exact zNr _
 |x::l=>by
  rw[callsEs,ndEs,zLa]
  have h1:=callsE_len x
  have h2:=callsEs_len l
  omega
end
mutual
theorem callsS_len:∀ x:Sm,(callsS x).length≤ndS x
 |.mk kind name index value thn els=>by
  rw[callsS,ndS,zLa,zLa]
  have h1:=callsEs_len (value++index)
  rw[ndEs_app] at h1
  have h2:=callsSs_len thn
  have h3:=callsSs_len els
  omega
theorem callsSs_len:∀ l:List Sm,(callsSs l).length≤ndSs l
 |[]=>by rw[callsSs,ndSs];exact zNr _
 |x::l=>by
  rw[callsSs,ndSs,zLa]
  have h1:=callsS_len x
  have h2:=callsSs_len l
  omega
end
theorem callsEs_snoc (a:Ex):∀ l:List Ex,callsEs (l++[a])=callsEs l++callsE a
 |[]=>by
  show callsEs [a]=callsEs []++callsE a
  simp[callsEs]
 |x::l=>by
  show callsEs (x::(l++[a]))=_
  rw[callsEs,callsEs_snoc a l,callsEs,zAs]
theorem callsSs_snoc (a:Sm):∀ l:List Sm,callsSs (l++[a])=callsSs l++callsS a
 |[]=>by
  show callsSs [a]=callsSs []++callsS a
  simp[callsSs]
 |x::l=>by
  show callsSs (x::(l++[a]))=_
  rw[callsSs,callsSs_snoc a l,callsSs,zAs]
theorem ndSs_part {l pre:List Sm} {a:Sm} {l2:List Sm} (h:l=pre++a::l2):ndSs pre+ndS a≤ndSs l:=by
 have key:∀ p q:List Sm,ndSs (p++q)=ndSs p+ndSs q:=fun p q=>by
  induction p with
  |nil=>rw[List.nil_append,ndSs];omega
  |cons x p ih=>rw[List.cons_append,ndSs,ndSs,ih];omega
 rw[h,key,ndSs]
 omega
theorem ndEs_part {l pre:List Ex} {a:Ex} {l2:List Ex} (h:l=pre++a::l2):ndEs pre+ndE a≤ndEs l:=by
 rw[h,ndEs_app,ndEs]
 omega
attribute [local irreducible] LOps LCode LStep LCalls Go.GL.Pure QThen QBlock RetPost LQ LAny LLate LLateOp LS
section
variable {B0:Nat} {w0:World}
def CallsH (B0:Nat) (w0:World) (n:Nat):Prop:=∀ x:Ex,ndE x<n→LCalls (KC B0 w0) 144 [encE x] [] (Ret (.list ((callsE x).map str)))
theorem calls_spec:∀ n:Nat,n≤100000000→CallsH B0 w0 n
 |0,_=>fun x h=>by omega
 |n+1,hn6=>by
  have ih:=calls_spec n zo
  intro x hnd
  obtain ⟨op,num,name,args⟩:=x
  rw[ndE] at hnd
  have hal:=ndEs_len args
  generalize hR:callsE (.mk op num name args)=R
  rw[callsE] at hR
  rw[encE_mk]
  refine cI Tryz.func144 rfl (n:=28) rfl rfl rfl ?_
  refine gaf ?_
  refine oS (S.box rfl fun b1=>?_) rfl
  refine gai ?_
  refine oS (S.litA (es:=[]) [] rfl eN rfl rfl rfl fun b3=>?_) rfl
  refine gab ?_
  refine LCode.midC (A:=LV×Heap) (fun a=>[(1,ptr b1 0),(3,a.1)]) (fun a=>exH b1 op num name args::a.2) (fun a=>GL.Acc 1 a.1 ((if op=nCall then [name] else []).map str) a.2 []) ?_ ?_
  ·by_cases h1:op=[99,97,108,108]
   ·refine oC rfl (fun _=>?_) (fun hd=>absurd h1 (zf hd))
    refine gab ?_
    refine oS (sL (es:=[name].map str) [_] rfl (zeC rfl rfl eN) rfl rfl rfl ?_) rfl
    refine oS (S.accF (A:=[_]) (H1:=[(b3,.row 0)]) zpr rfl Acc.row rfl (strs_len _) (strs_ok _) (by simp) fun v2 H2 h2=>?_) rfl
    refine oP (pA (lv:=v2) rfl) rfl ?_
    refine gae ?_
    exact ⟨(v2,H2),by rw[if_pos (show op=nCall from h1)];exact h2,⟨rfl,rfl,trivial⟩,zhR _,rfl⟩
   ·refine oC rfl (fun hd=>absurd (zt hd) h1) (fun _=>?_)
    refine gar ?_
    exact ⟨(.app b3 0 1 [],[(b3,.row 0)]),by rw[if_neg (show ¬ op=nCall from h1)];exact Acc.row,⟨rfl,rfl,trivial⟩,⟨[],by simpa using List.Perm.swap _ _ _⟩,rfl⟩
  rintro ⟨v0,H0⟩ hacc0 j hj
  simp only at hacc0
  have hC0:(if op=nCall then [name] else []:List Nm).length≤1:=by split <;> simp
  generalize (if op=nCall then [name] else []:List Nm)=C0 at hacc0 hR hC0
  refine gaa ?_
  refine oL (fun kk ls H'=>∃ (pre l1:List Ex) (v:LV) (Ha:Heap),args=pre++l1∧kk=l1.length∧ls=[(1,ptr b1 0),(3,v),(16,.list (args.map encE)),(17,int .i64 ((args.map encE).length:Int)),(18,int .i64 (pre.length:Int))] ∧
    H'=exH b1 op num name args::Ha∧GL.Acc 1 v ((C0++callsEs pre).map str) Ha [])
   ⟨_,_,_,⟨[],args,v0,H0,rfl,rfl,rfl,rfl,by rw[callsEs,zLz];exact hacc0⟩,⟨rfl,rfl,rfl,rfl,rfl,trivial⟩,zhR _⟩ ?_
  rintro kk ls H' ⟨pre,l1,v,Ha,hL,rfl,rfl,rfl,hacc⟩ j2 hj2
  have hb:=pre_le hL (show args.length≤100000000 by omega)
  refine gah ?_
  refine oC rfl (fun hc=>?_) (fun hc=>?_)
  ·obtain ⟨a,l2,rfl⟩:=more hL hc
   have ham:=ndEs_part hL
   have g1:=callsEs_len pre
   have g2:=callsE_len a
   refine gak ?_
   refine oP (xR (el':=encE a) (cs:=[_,_,_,_]) rfl rfl zo (by rw[hL];exact get_mid encE pre a l2) rfl rfl) rfl ?_
   refine gaq ?_
   refine oS (sA fun b5=>?_) rfl
   refine gab ?_
   refine oP (pM (lv:=v) rfl) rfl ?_
   refine gac ?_
   refine oS (sF [_] rfl (ih a zo) ?_) rfl
   refine oS (S.accF (A:=[_,_]) (H1:=Ha) (zPc (l₁:=[_,_])) rfl hacc rfl (strs_len _) (strs_ok _) (by simp;omega) fun v2 H2 hacc2=>?_) rfl
   refine oP (pA (lv:=v2) rfl) rfl ?_
   refine gal ?_
   exact ⟨l2.length,_,_,Nat.lt_succ_self _,⟨pre++[a],l2,v2,H2,snoc hL,rfl,rfl,rfl,by rw[callsEs_snoc,←zAs,List.map_append (l₂:=callsE a)];exact hacc2⟩,⟨rfl,rfl,rfl,rfl,int_eq (by simp),trivial⟩,zhD zhr,hj2⟩
  obtain rfl:=none_left hL hc
  rw[zLz] at hL
  subst hL
  rw[hR] at hacc
  refine gad ?_
  refine LCode.sub (d:=3) rfl hacc.sub ?_
  refine gab ?_
  exact retRet (hj2.trans hj) (rC (rT (v:=.list _) rfl zsr) rN) rfl
def CalleesH (B0:Nat) (w0:World) (n:Nat):Prop:=∀ l:List Sm,ndSs l<n→LCalls (KC B0 w0) 89 [.list (l.map encS)] [] (Ret (.list ((callsSs l).map str)))
theorem callees_spec:∀ n:Nat,n≤100000000→CalleesH B0 w0 n
 |0,_=>fun x h=>by omega
 |n+1,hn6=>by
  have ih:=callees_spec n zo
  have hC:CallsH B0 w0 n:=calls_spec n zo
  intro l hnd
  have hal:=ndSs_len l
  refine cI Tryz.func89 rfl (n:=44) rfl rfl rfl ?_
  refine gai ?_
  refine oS (S.litA (es:=[]) [] rfl eN rfl rfl rfl fun b3=>?_) rfl
  refine gab ?_
  refine oL (fun kk ls H'=>∃ (pre l1:List Sm) (v:LV) (Ha:Heap),l=pre++l1∧kk=l1.length∧ls=[(3,v),(9,.list (l.map encS)),(10,int .i64 ((l.map encS).length:Int)),(11,int .i64 (pre.length:Int))] ∧
    H'=Ha∧GL.Acc 1 v ((callsSs pre).map str) Ha [])
   ⟨_,_,_,⟨[],l,.app b3 0 1 [],[(b3,.row 0)],rfl,rfl,rfl,rfl,Acc.row⟩,⟨rfl,rfl,rfl,rfl,trivial⟩,zhR _⟩ ?_
  rintro kk ls HA ⟨pre,l1,v,_,hL,rfl,rfl,rfl,hacc⟩ j hj
  have hb:=pre_le hL (show l.length≤100000000 by omega)
  refine gah ?_
  refine oC rfl (fun hc=>?_) (fun hc=>?_)
  rotate_left
  ·obtain rfl:=none_left hL hc
   rw[zLz] at hL
   subst hL
   refine gad ?_
   refine LCode.sub (d:=3) rfl hacc.sub ?_
   refine gab ?_
   exact retRet hj (rC (rT (v:=.list _) rfl zsr) rN) rfl
  obtain ⟨a,l2,rfl⟩:=more hL hc
  have ham:=ndSs_part hL
  have g1:=callsSs_len pre
  obtain ⟨kind,name,index,value,thn,els⟩:=a
  rw[ndS] at ham
  have g2:=ndEs_len value
  have g3:=ndEs_len index
  refine gak ?_
  refine oP (xR (el':=.agg [int .i64 kind,str name,.list (index.map encE),.list (value.map encE),.list (thn.map encS),.list (els.map encS)]) (cs:=[_,_,_,_,_,_]) rfl rfl zo (by rw[hL,←encS_mk];exact get_mid encS pre _ l2) rfl rfl) rfl ?_
  refine gac ?_
  refine oS (sA fun b5=>?_) rfl
  refine gac ?_
  refine LCode.draw (m:=9) rfl [smH b5 kind name index value thn els] ?_
  refine aT 1 rfl rfl (pF rfl) ?_
  refine aT 2 rfl rfl (pL (c:=.list _) rfl zm0 rfl) ?_
  refine aT 4 rfl rfl (pF rfl) ?_
  refine aT 5 rfl rfl (pL (c:=.list _) rfl zm0 rfl) ?_
  refine aT 8 rfl rfl (pM (lv:=.atom _) rfl) ?_
  refine LAny.late ?_ zhp
  refine lO 0 (lS (H1:=[]) rfl (.inl rfl) rfl zpr zhp (S.litA (es:=[]) [] rfl eN rfl rfl rfl fun b7=>?_))
  refine lO 3 (lS (H1:=[(b7,.row 0)]) rfl (.inl rfl) rfl zpr zhp (S.acc (F:=[]) rfl Acc.row rfl (encE_len _) (encE_ok _) (by simp;omega) fun v1 H1 h1=>?_))
  refine lO 6 (lS (H1:=H1) rfl (.inl rfl) rfl zpr zhp (S.acc (F:=[]) rfl h1 rfl (encE_len _) (encE_ok _) (by simp;omega) fun v2 H2 h2=>?_))
  have e2:([]++value.map encE++index.map encE:List LV)=(value++index).map encE:=by simp
  rw[e2] at h2
  refine lO 7 (lH rfl rfl (Pure.llen (h2.elems)) ?_)
  refine lD zk ?_
  refine gad ?_
  refine LCode.sub (d:=21) rfl h2.sub ?_
  refine LCode.weak (H':=smH b5 kind name index value thn els::HA) ⟨H2,zPc⟩ ?_
  refine oL (fun kk ls H'=>∃ (pre2 l3:List Ex) (v:LV) (Ha:Heap),value++index=pre2++l3∧kk=l3.length∧ls=[(3,v),(5,ptr b5 0),(9,.list (l.map encS)),(10,int .i64 ((l.map encS).length:Int)),(11,int .i64 (pre.length:Int)),(21,.list ((value++index).map encE)),(22,int .i64 (((value++index).map encE).length:Int)),(23,int .i64 (pre2.length:Int))] ∧
    H'=smH b5 kind name index value thn els::Ha∧GL.Acc 1 v ((callsSs pre++callsEs pre2).map str) Ha [])
   ⟨_,_,_,⟨[],value++index,v,HA,rfl,rfl,rfl,rfl,by rw[callsEs,zLz];exact hacc⟩,⟨rfl,rfl,rfl,rfl,rfl,rfl,rfl,rfl,trivial⟩,zhR _⟩ ?_
  rintro kk ls H' ⟨pre2,l3,v3,Hb,hL2,rfl,rfl,rfl,hacc3⟩ j2 hj2
  have hb2:=pre_le hL2 (show (value++index).length≤100000000 by rw[zLa];omega)
  refine gah ?_
  refine oC rfl (fun hc2=>?_) (fun hc2=>?_)
  ·obtain ⟨a,l4,rfl⟩:=more hL2 hc2
   have ham2:=ndEs_part hL2
   rw[ndEs_app] at ham2
   have g4:=callsEs_len pre2
   have g5:=callsE_len a
   refine gak ?_
   refine oP (xR (el':=encE a) (cs:=[_,_,_,_]) rfl rfl zo (by rw[hL2];exact get_mid encE pre2 a l4) rfl rfl) rfl ?_
   refine gaq ?_
   refine oS (sA fun b7=>?_) rfl
   refine gab ?_
   refine oP (pM (lv:=v3) rfl) rfl ?_
   refine gac ?_
   refine oS (sF [_] rfl (hC a zo) ?_) rfl
   refine oS (S.accF (A:=[_,_]) (H1:=Hb) (zPc (l₁:=[_,_])) rfl hacc3 rfl (strs_len _) (strs_ok _) (by simp;omega) fun v4 H4 hacc4=>?_) rfl
   refine oP (pA (lv:=v4) rfl) rfl ?_
   refine gal ?_
   exact ⟨l4.length,_,_,Nat.lt_succ_self _,⟨pre2++[a],l4,v4,H4,snoc hL2,rfl,rfl,rfl,by rw[callsEs_snoc,←zAs,List.map_append (l₂:=callsE a)];exact hacc4⟩,⟨rfl,rfl,rfl,rfl,rfl,rfl,rfl,int_eq (by simp),trivial⟩,zhD zhr,hj2⟩
  obtain rfl:=none_left hL2 hc2
  rw[zLz] at hL2
  subst hL2
  have g6:=callsEs_len (value++index)
  rw[ndEs_app] at g6
  have g7:=callsSs_len thn
  have g8:=callsSs_len els
  have hjj:=hj2.trans hj
  refine gaa ?_
  refine oP (pM (lv:=v3) rfl) rfl ?_
  refine gad ?_
  refine oS (sF [_] rfl (ih thn zo) ?_) rfl
  refine oS (S.accF (A:=[_]) (H1:=Hb) (zPc (l₁:=[_])) rfl hacc3 rfl (strs_len _) (strs_ok _) (by simp;omega) fun v4 H4 hacc4=>?_) rfl
  refine oP (pA (lv:=v4) rfl) rfl ?_
  refine gah ?_
  refine oP (pM (lv:=v4) rfl) rfl ?_
  refine gad ?_
  refine oS (sF [_] rfl (ih els zo) ?_) rfl
  refine oS (S.accF (A:=[_]) (H1:=H4) (zPc (l₁:=[_])) rfl hacc4 rfl (strs_len _) (strs_ok _) (by simp;omega) fun v5 H5 hacc5=>?_) rfl
  refine oP (pA (lv:=v5) rfl) rfl ?_
  refine gal ?_
  exact ⟨l2.length,_,_,Nat.lt_succ_self _,⟨pre++[Sm.mk kind name index value thn els],l2,v5,H5,snoc hL,rfl,rfl,rfl,by
   rw[callsSs_snoc,callsS]
   have e:(callsSs pre++(callsEs (value++index)++callsSs thn++callsSs els)).map str=(callsSs pre++callsEs (value++index)).map str++(callsSs thn).map str++(callsSs els).map str:=by simp
   rw[e]
   exact hacc5⟩,⟨rfl,rfl,rfl,int_eq (by simp),trivial⟩,zhD zhr,hjj⟩
end
end Go.Proofs.YtpbbgkoalnonoaaGreatDoor.RC
namespace Go.Proofs.YtpbbgkoalnonoaaGreatDoor.RC
open Go.GL Go.RowKit Go.Stele
@[reducible] def fnH (b:Nat) (f:FnD):Nat×LObj:=(b,.cells 59 [str f.name,.list (f.params.map str),.list (f.locals.map str),.list (f.body.map encS)])
theorem encFn_len (l:List FnD):∀ v∈l.map encFn,v.cells.length=4:=fun v hv=>by
 obtain ⟨x,_,rfl⟩:=List.mem_map.1 hv
 rfl
section
variable {C:Ctx} {e:Env} {H:Heap} {dst:Option Nat} {ty:TypeId} {pos:String} {aft:Array Edge} {gd:Option (Nat×Bool)}
theorem Pure.sliceTo {t el s:Nat} [ht:TSlice C.P t el s] {A:Type} {g:A→LV} {pre l1:List A} {x hi:Operand} (hx:GL.elems (e.ev x)=some ((pre++l1).map g)) (hh:e.ev hi=int .i64 (pre.length:Int)) (hs:∀ v∈(pre++l1).map g,v.cells.length=s):GL.Pure C ⟨dst,.slice t x none (some hi) none,ty,pos,aft,gd⟩ e H (.list (pre.map g)):=by
 have h:=GL.Pure.lslice (C:=C) (e:=e) (H:=H) (dst:=dst) (ty:=ty) (pos:=pos) (aft:=aft) (g:=gd) (t:=t) (lo:=none) (hi:=some hi) (i:=0) (j:=(pre.length:Int)) hx rfl ⟨_,hh⟩ zDd zo (by simp;omega) hs
 have e1:(((pre++l1).map g).take ((pre.length:Int)).toNat).drop (0:Int).toNat=pre.map g:=by simp
 rw[e1] at h
 exact h
end
theorem sumFs_names (vars arrays later:List Nm):∀ (fs:List FnD) (known:List FSum),(sumFs vars arrays later known fs).map (·.name)=known.map (·.name)++fs.map (·.name)
 |[],known=>by rw[sumFs];simp
 |f::l,known=>by rw[sumFs,sumFs_names];simp[sumF]
attribute [local irreducible] LOps LCode LStep LCalls Go.GL.Pure QThen QBlock RetPost LQ LAny LLate LLateOp LS
section
variable {B0:Nat} {w0:World}
theorem rscalars_spec {vars:List Nm} {fs:List FnD} (AL:LV) (hv6:vars.length≤2000000) (hf6:fs.length≤2000000) (hsm:∀ f∈fs,SmF f) (hn:∀ f∈fs,f.name.length≤1000∧∀ x∈f.params++f.locals,x.length≤1000):LCalls (KC B0 w0) 38 [.agg [.list (vars.map str),AL,.list (fs.map encFn)]] [] (Ret (.list ((scalarsP vars fs).map str))):=by
 have hown:∀ f∈fs,(Chk.ownS f).length≤4000000:=fun f hf=>by
  have h1:f.params.length≤2000000:=(hsm f hf).params
  have h2:f.locals.length≤2000000:=(hsm f hf).locals
  unfold Chk.ownS
  rw[zLm,zLa]
  omega
 have hsum:∀ l:List FnD,(∀ f∈l,f∈fs)→((l.map Chk.ownS).flatten).length≤l.length * 4000000:=fun l hl=>by
  have:=Chk.sum_le (l.map Chk.ownS) 4000000 (fun x hx=>by
   obtain ⟨f,hf,rfl⟩:=List.mem_map.1 hx
   exact hown f (hl f hf))
  rwa [zLm] at this
 refine cI Tryz.func38 rfl (n:=55) rfl rfl rfl ?_
 refine gaf ?_
 refine oS (S.box rfl fun b1=>?_) rfl
 refine gai ?_
 refine oS (S.litA (es:=[]) [] rfl eN rfl rfl rfl fun b3=>?_) rfl
 refine gac ?_
 refine oS (S.accF (A:=[_]) (H1:=[(b3,.row 0)]) zpr rfl Acc.row rfl (strs_len _) (strs_ok _) (by simp;omega) fun v Ha hacc=>?_) rfl
 refine oP (pA (lv:=v) rfl) rfl ?_
 refine gaa ?_
 refine oL (fun k ls H'=>∃ pre l1 v1 Ha1,fs=pre++l1∧k=l1.length∧ls=[(3,v1),(15,.list (fs.map encFn)),(16,int .i64 ((fs.map encFn).length:Int)),(17,int .i64 (pre.length:Int))]∧H'=Ha1∧GL.Acc 1 v1 ((vars++(pre.map Chk.ownS).flatten).map str) Ha1 [])
  ⟨fs.length,_,_,⟨[],fs,v,Ha,rfl,rfl,rfl,rfl,by simpa using hacc⟩,⟨rfl,rfl,rfl,rfl,trivial⟩,zhD zhr⟩ ?_
 rintro k ls Ha1 ⟨pre,l1,v1,_,hL,rfl,rfl,rfl,hacc1⟩ j hj
 have hb:=pre_le hL hf6
 have hb1:((pre.map Chk.ownS).flatten).length≤8000000000000:=by
  have:=hsum pre (fun f hf=>by rw[hL];exact List.mem_append_left _ hf)
  omega
 refine gah ?_
 refine oC rfl (fun hc=>?_) (fun hc=>?_)
 rotate_left
 ·obtain rfl:=none_left hL hc
  rw[zLz] at hL
  rw[←hL] at hacc1
  refine gad ?_
  refine LCode.sub (d:=3) rfl hacc1.sub ?_
  refine gab ?_
  exact retRet hj (rC (rT (v:=.list _) rfl zsr) rN) rfl
 obtain ⟨f,l2,rfl⟩:=more hL hc
 have hfm:f∈fs:=by rw[hL];exact List.mem_append_right _ zMs
 obtain ⟨hn1,hn2⟩:=hn f hfm
 have hp6:f.params.length≤2000000:=(hsm f hfm).params
 have hl6:f.locals.length≤2000000:=(hsm f hfm).locals
 refine gak ?_
 refine oP (xR (el':=encFn f) (cs:=[_,_,_,_]) rfl rfl zo (by rw[hL];exact get_mid encFn pre f l2) rfl rfl) rfl ?_
 refine gaq ?_
 refine oS (sA fun b5=>?_) rfl
 refine gab ?_
 refine oL (fun k ls H'=>∃ pre2 l3 v3 Ha3,f.params=pre2++l3∧k=l3.length∧ls=[(3,v3),(5,ptr b5 0),(15,.list (fs.map encFn)),(16,int .i64 ((fs.map encFn).length:Int)),(17,int .i64 (pre.length:Int)),(22,.list (f.params.map str)),(23,int .i64 ((f.params.map str).length:Int)),(24,int .i64 (pre2.length:Int))] ∧
   H'=fnH b5 f::Ha3∧GL.Acc 1 v3 ((vars++(pre.map Chk.ownS).flatten++pre2.map fun x=>f.name++[46]++x).map str) Ha3 [])
  ⟨_,_,_,⟨[],f.params,v1,Ha1,rfl,rfl,rfl,rfl,by simpa using hacc1⟩,⟨rfl,rfl,rfl,rfl,rfl,rfl,rfl,rfl,trivial⟩,zhR _⟩ ?_
 rintro k ls H' ⟨pre2,l3,v3,Ha3,hL2,rfl,rfl,rfl,hacc3⟩ j2 hj2
 have hb3:=pre_le hL2 hp6
 refine gah ?_
 refine oC rfl (fun hd=>?_) (fun hd=>?_)
 ·obtain ⟨x,l4,rfl⟩:=more hL2 hd
  have hx:x.length≤1000:=hn2 x (by rw[hL2];simp)
  refine gak ?_
  refine oP (xR (el':=str x) (cs:=[_]) rfl rfl zo (by rw[hL2];exact get_mid str pre2 x l4) rfl rfl) rfl ?_
  refine gab ?_
  refine oP (pM (lv:=v3) rfl) rfl ?_
  refine gac ?_
  refine oS (sL (es:=[f.name++[46]++x].map str) [_] rfl (zeC rfl rfl eN) rfl rfl rfl ?_) rfl
  refine oS (S.accF (A:=[_]) (H1:=Ha3) (zPc (l₁:=[_])) rfl hacc3 rfl (strs_len _) (strs_ok _) (by rw[zLm,zLa,zLa,zLm,zLm,List.length_singleton];omega) fun v' H' hacc'=>?_) rfl
  refine oP (pA (lv:=v') rfl) rfl ?_
  refine gal ?_
  exact ⟨l4.length,_,_,Nat.lt_succ_self _,⟨pre2++[x],l4,v',H',snoc hL2,rfl,rfl,rfl,by
   have e:((vars++(pre.map Chk.ownS).flatten++(pre2++[x]).map fun x=>f.name++[46]++x).map str)=((vars++(pre.map Chk.ownS).flatten++pre2.map fun x=>f.name++[46]++x).map str)++[f.name++[46]++x].map str:=by simp
   rw[e]
   exact hacc'⟩,⟨rfl,rfl,rfl,rfl,rfl,rfl,rfl,int_eq (by simp),trivial⟩,zhR _,hj2⟩
 obtain rfl:=none_left hL2 hd
 rw[zLz] at hL2
 rw[←hL2] at hacc3
 refine gaa ?_
 refine oL (fun k ls H'=>∃ pre3 l3 v4 Ha4,f.locals=pre3++l3∧k=l3.length∧ls=[(3,v4),(5,ptr b5 0),(15,.list (fs.map encFn)),(16,int .i64 ((fs.map encFn).length:Int)),(17,int .i64 (pre.length:Int)),(38,.list (f.locals.map str)),(39,int .i64 ((f.locals.map str).length:Int)),(40,int .i64 (pre3.length:Int))] ∧
   H'=fnH b5 f::Ha4∧GL.Acc 1 v4 ((vars++(pre.map Chk.ownS).flatten++(f.params++pre3).map fun x=>f.name++[46]++x).map str) Ha4 [])
  ⟨_,_,_,⟨[],f.locals,v3,Ha3,rfl,rfl,rfl,rfl,by simpa using hacc3⟩,⟨rfl,rfl,rfl,rfl,rfl,rfl,rfl,rfl,trivial⟩,zhR _⟩ ?_
 rintro k ls H' ⟨pre3,l3,v4,Ha4,hL3,rfl,rfl,rfl,hacc4⟩ j3 hj3
 have hb4:=pre_le hL3 hl6
 refine gah ?_
 refine oC rfl (fun hd=>?_) (fun hd=>?_)
 ·obtain ⟨x,l4,rfl⟩:=more hL3 hd
  have hx:x.length≤1000:=hn2 x (by rw[hL3];simp)
  refine gak ?_
  refine oP (xR (el':=str x) (cs:=[_]) rfl rfl zo (by rw[hL3];exact get_mid str pre3 x l4) rfl rfl) rfl ?_
  refine gab ?_
  refine oP (pM (lv:=v4) rfl) rfl ?_
  refine gac ?_
  refine oS (sL (es:=[f.name++[46]++x].map str) [_] rfl (zeC rfl rfl eN) rfl rfl rfl ?_) rfl
  refine oS (S.accF (A:=[_]) (H1:=Ha4) (zPc (l₁:=[_])) rfl hacc4 rfl (strs_len _) (strs_ok _) (by rw[zLm,zLa,zLa,zLm,zLa,zLm,List.length_singleton];omega) fun v' H' hacc'=>?_) rfl
  refine oP (pA (lv:=v') rfl) rfl ?_
  refine gal ?_
  exact ⟨l4.length,_,_,Nat.lt_succ_self _,⟨pre3++[x],l4,v',H',snoc hL3,rfl,rfl,rfl,by
   have e:((vars++(pre.map Chk.ownS).flatten++(f.params++(pre3++[x])).map fun x=>f.name++[46]++x).map str)=((vars++(pre.map Chk.ownS).flatten++(f.params++pre3).map fun x=>f.name++[46]++x).map str)++[f.name++[46]++x].map str:=by simp
   rw[e]
   exact hacc'⟩,⟨rfl,rfl,rfl,rfl,rfl,rfl,rfl,int_eq (by simp),trivial⟩,zhR _,hj3⟩
 obtain rfl:=none_left hL3 hd
 rw[zLz] at hL3
 rw[←hL3] at hacc4
 refine gaa ?_
 exact ⟨l2.length,_,_,Nat.lt_succ_self _,⟨pre++[f],l2,v4,Ha4,snoc hL,rfl,rfl,rfl,by
  have e:((vars++((pre++[f]).map Chk.ownS).flatten).map str)=(vars++(pre.map Chk.ownS).flatten++(f.params++f.locals).map fun x=>f.name++[46]++x).map str:=by
   simp[Chk.ownS]
  rw[e]
  exact hacc4⟩,⟨rfl,rfl,rfl,int_eq (by simp),trivial⟩,zhD zhr,hj3.trans (hj2.trans hj)⟩
@[reducible] def prH (b:Nat) (vars:List Nm) (AL:LV) (fs:List FnD):Nat×LObj:=(b,.cells 26 [.list (vars.map str),AL,.list (fs.map encFn)])
theorem perm_two {x y:Nat×LObj} {A B:Heap}:List.Perm (x::y::(A++B)) (A++(x::y::B)):=by
 have h:List.Perm (([x,y]++A)++B) ((A++[x,y])++B):=zPc.append_right B
 rw[zAs A] at h
 exact h
theorem Measure_spec {vars arrays:List Nm} {fs:List FnD} (AL:LV) (hnd:ndFs fs≤2000000) (hd:Dist (fs.map fun f=>(⟨f.name,0,0,0⟩:FSum))) (herr:errFs vars arrays (fs.map (·.name)) [] fs=0) :
  LCalls (KC B0 w0) 37 [.agg [.list (vars.map str),AL,.list (fs.map encFn)]] [] (Ret (.tuple [.list (((sumFs vars arrays (fs.map (·.name)) [] fs).map (·.need)).map iv),.list (((sumFs vars arrays (fs.map (·.name)) [] fs).map (·.depth)).map iv)])):=by
 have hfl:=ndFs_len fs
 generalize hlat:fs.map (·.name)=later at herr ⊢
 generalize hS:sumFs vars arrays later [] fs=ZS
 refine cI Tryz.func37 rfl (n:=80) rfl rfl rfl ?_
 refine gaf ?_
 refine oS (S.box rfl fun b1=>?_) rfl
 refine gai ?_
 refine oS (S.litA (es:=[]) [] rfl eN rfl rfl rfl fun b4=>?_) rfl
 refine oS (S.litA (es:=[]) [] rfl eN rfl rfl rfl fun b5=>?_) rfl
 refine gab ?_
 refine oL (fun k ls H'=>∃ (pre l1:List FnD) (known:List FSum) (v4 v5:LV) (H4 H5:Heap),fs=pre++l1∧k=l1.length∧ls=[(1,ptr b1 0),(4,v4),(5,v5),(15,.list (fs.map encFn)),(16,int .i64 ((fs.map encFn).length:Int)),(17,int .i64 (pre.length:Int))] ∧
   H'=prH b1 vars AL fs::(H4++H5)∧GL.Acc 1 v4 ((known.map (·.need)).map iv) H4 []∧GL.Acc 1 v5 ((known.map (·.depth)).map iv) H5 []∧known.map (·.name)=pre.map (·.name)∧errFs vars arrays later known l1=0∧sumFs vars arrays later known l1=ZS∧KnB (8 * ndFs pre) pre.length known)
  ⟨_,_,_,⟨[],fs,[],.app b4 0 1 [],.app b5 0 1 [],[(b4,.row 0)],[(b5,.row 0)],rfl,rfl,rfl,rfl,Acc.row,Acc.row,rfl,herr,hS,fun k hk=>(List.not_mem_nil hk).elim⟩,⟨rfl,rfl,rfl,rfl,rfl,rfl,trivial⟩,⟨[],by simpa using (zPc (l₁:=[_,_]) (l₂:=[_])).trans (List.Perm.cons _ (List.Perm.swap _ _ _))⟩⟩ ?_
 rintro k ls HH ⟨pre,l1,known,v4,v5,H4,H5,hL,rfl,rfl,rfl,hacc4,hacc5,hkn,hI,hSS,hB⟩ j hj
 have hb:=pre_le hL (show fs.length≤2000000 by omega)
 have hkl:known.length=pre.length:=by
  have:=congrArg List.length hkn
  simpa using this
 refine gah ?_
 refine oC rfl (fun hc=>?_) (fun hc=>?_)
 rotate_left
 ·obtain rfl:=none_left hL hc
  have hSe:known=ZS:=hSS
  rw[←hSe]
  refine gad ?_
  refine LCode.sub (d:=4) rfl hacc4.sub ?_
  refine LCode.sub (d:=5) rfl hacc5.sub ?_
  refine gab ?_
  exact retRet hj (rC (rT (v:=.list _) rfl zsr) (rC (rT (v:=.list _) rfl zsr) rN)) rfl
 obtain ⟨f,l2,rfl⟩:=more hL hc
 rw[errFs] at hI
 obtain ⟨hI1,hI2⟩:=orE_zero.1 hI
 rw[sumFs] at hSS
 have hndf:ndFs pre+ndF f≤ndFs fs:=by
  have key:∀ p q:List FnD,ndFs (p++q)=ndFs p+ndFs q:=fun p q=>by
   induction p with
   |nil=>rw[List.nil_append,ndFs];omega
   |cons x p ih=>rw[List.cons_append,ndFs,ndFs,ih];omega
  rw[hL,key,ndFs]
  omega
 have hndb:ndSs f.body+f.params.length<2000001:=by unfold ndF at hndf;omega
 have hp8:(f.params.map str).length≤2000000:=by rw[zLm];omega
 have hdk:Dist known:=by
  unfold Dist at hd ⊢
  have e:(fs.map fun f=>(⟨f.name,0,0,0⟩:FSum)).map (·.name)=known.map (·.name)++(f::l2).map (·.name):=by rw[List.map_map,hL,zMa,hkn];rfl
  rw[e] at hd
  exact ⟨(List.nodup_append.1 hd.1).1,fun h=>hd.2.1 (List.mem_append_left _ h),fun h=>hd.2.2 (List.mem_append_left _ h)⟩
 have herb:errSs (envF vars arrays later known f) f.body=0:=(orE_zero.1 hI1).2
 have hneeds:=needs_spec (B0:=B0) (w0:=w0) (c:=envF vars arrays later known f) (fs:=pre) zo hkn hdk hB zo 2000001 zo f.body herb zo
 have hcall:=callees_spec (B0:=B0) (w0:=w0) 2000001 zo f.body zo
 have hcl:=callsSs_len f.body
 have hsum:=sumF_le (vars:=vars) (arrays:=arrays) (later:=later) (f:=f) hB
 have hS1:(sumF vars arrays later known f).need=mostN [2,f.params.length+1,needSs (envF vars arrays later known f) f.body]:=rfl
 have hS2:(sumF vars arrays later known f).depth=overN (envF vars arrays later known f) (callsSs f.body) 1:=by
  rw[overSs hdk]
  rfl
 have hneeds':LCalls (KC B0 w0) 88 [.list (f.body.map encS),.list (pre.map encFn),v4] [] (Ret (iv (needSs (envF vars arrays later known f) f.body))):=LCalls.argsSub (bs:=[.list (f.body.map encS),.list (pre.map encFn),.list ((known.map (·.need)).map iv)]) ⟨LV.Sub.refl _,LV.Sub.refl _,hacc4.sub,trivial⟩ hneeds
 refine gaa ?_
 refine oP (xR (el':=encFn f) (cs:=[_,_,_,_]) rfl rfl zo (by rw[hL];exact get_mid encFn pre f l2) rfl rfl) rfl ?_
 refine gaq ?_
 refine oS (sA fun b7=>?_) rfl
 refine gac ?_
 refine LCode.draw (m:=18) rfl [fnH b7 f,prH b1 vars AL fs] ?_
 refine LAny.take (i:=0) (zhP pH zhp) rfl zk zk zk rfl (pM (lv:=v4) rfl) ?_
 refine aT 1 rfl rfl (pF rfl) ?_
 refine aT 2 rfl rfl (pL (c:=.list _) rfl zm0 rfl) ?_
 refine aT 3 rfl rfl (Pure.llen rfl) ?_
 refine aT 4 rfl rfl (Pure.add rfl rfl zo) ?_
 refine aT 5 rfl rfl (pF rfl) ?_
 refine aT 6 rfl rfl (pL (c:=.list _) rfl zm0 rfl) ?_
 refine aT 7 rfl rfl (pF rfl) ?_
 refine aT 8 rfl rfl (pL (c:=.list _) rfl zm1 rfl) ?_
 refine aT 9 rfl rfl (pM (lv:=.atom _) rfl) ?_
 refine LAny.take (i:=10) (zhP pH zhp) rfl zk zk zk rfl (Pure.sliceTo (g:=encFn) (pre:=pre) (l1:=f::l2) (by rw[←hL];rfl) rfl (encFn_len _)) ?_
 refine LAny.take (i:=11) (zhP pH zhp) rfl zk zk zk rfl (pM (lv:=v4) rfl) ?_
 refine LAny.late ?_ (zhP pH zhp)
 refine lO 12 (lS (H1:=[]) rfl (.inl rfl) rfl zpr (zhP pH zhp) (sF [_,_,_] rfl hneeds' ?_))
 refine lO 13 (lS (H1:=[]) rfl (.inl rfl) rfl zpr (zhP pH zhp) (sL (es:=[2,f.params.length+1,needSs (envF vars arrays later known f) f.body].map iv) [_,_,_] (by show [int .i64 2,int .i64 (((f.params.map str).length:Int)+1),iv _]=_;simp[iv]) (iv_els _) rfl rfl rfl ?_))
 refine lO 14 (lS (H1:=[]) rfl (.inl rfl) rfl zpr (zhP pH zhp) (sF [_] rfl (most_spec 2 [f.params.length+1,needSs (envF vars arrays later known f) f.body] (by simp)) ?_))
 rw[←hS1]
 refine lO 15 (lS (H1:=[]) rfl (.inl rfl) rfl zpr (zhP pH zhp) (sL (es:=[(sumF vars arrays later known f).need].map iv) [_] rfl (iv_els _) rfl rfl rfl ?_))
 refine lO 16 (lS (H1:=H4) rfl (.inl rfl) rfl perm_two (zhP pH zhp) (S.acc (F:=[]) rfl hacc4 rfl (iv_len _) (iv_ok _) (by rw[zLm,zLm,zLm,List.length_singleton];omega) fun v6 H6 hacc6=>?_))
 refine lO 17 (lH rfl rfl (pA (lv:=v6) rfl) ?_)
 refine lD zk ?_
 refine gar ?_
 refine LCode.perm (H':=fnH b7 f::prH b1 vars AL fs::(H5++H6)) (zPc (l₂:=_::_::H5)) ?_
 refine gaa ?_
 refine oS (sF [_] rfl hcall ?_) rfl
 refine gad ?_
 have hnm6:(callsSs f.body).length≤2000001:=by omega
 generalize hNM:callsSs f.body=names at hS2 hnm6 ⊢
 refine oL (fun k ls H'=>∃ (pn nl:List Nm) (d:Nat),names=pn++nl∧k=nl.length∧ls=[(1,ptr b1 0),(4,v6),(5,v5),(6,int .i64 (pre.length:Int)),(7,ptr b7 0),(8,iv d),(15,.list (fs.map encFn)),(16,int .i64 ((fs.map encFn).length:Int)),(17,int .i64 (pre.length:Int)),(41,.list (names.map str)),(42,int .i64 ((names.map str).length:Int)),(43,int .i64 (pn.length:Int))] ∧
   H'=fnH b7 f::prH b1 vars AL fs::(H5++H6)∧(sumF vars arrays later known f).depth=overN (envF vars arrays later known f) nl d)
  ⟨_,_,_,⟨[],names,1,rfl,rfl,rfl,rfl,hS2⟩,⟨rfl,rfl,rfl,rfl,rfl,rfl,rfl,rfl,rfl,rfl,rfl,rfl,trivial⟩,zhR _⟩ ?_
 rintro k ls H' ⟨pn,nl,d,hLn,rfl,rfl,rfl,hov⟩ j2 hj2
 have hb2:=pre_le hLn hnm6
 refine gah ?_
 refine oC rfl (fun hc2=>?_) (fun hc2=>?_)
 rotate_left
 ·obtain rfl:=none_left hLn hc2
  have hdd:(sumF vars arrays later known f).depth=d:=hov
  rw[←hdd]
  refine gaa ?_
  refine oP (pM (lv:=v5) rfl) rfl ?_
  refine gav ?_
  refine oS (sL (es:=[(sumF vars arrays later known f).depth].map iv) [_] rfl (iv_els _) rfl rfl rfl ?_) rfl
  refine oS (S.accF (A:=fnH b7 f::prH b1 vars AL fs::H6) (H1:=H5) perm_two rfl hacc5 rfl (iv_len _) (iv_ok _) (by rw[zLm,zLm,zLm,List.length_singleton];omega) fun v9 H9 hacc9=>?_) rfl
  refine oP (pA (lv:=v9) rfl) rfl ?_
  refine gal ?_
  exact ⟨l2.length,_,_,Nat.lt_succ_self _,⟨pre++[f],l2,known++[sumF vars arrays later known f],v6,v9,H6,H9,snoc hL,rfl,rfl,rfl,by rw[zMa,zMa];exact hacc6,by rw[zMa,zMa];exact hacc9,by rw[zMa,zMa,hkn];rfl,hI2,hSS,fun q hq=>by
   have key:∀ p:List FnD,ndFs (p++[f])=ndFs p+ndF f:=fun p=>by
    induction p with
    |nil=>rw[List.nil_append,ndFs,ndFs,ndFs];omega
    |cons x p ih=>rw[List.cons_append,ndFs,ndFs,ih];omega
   rw[key,zLa,List.length_singleton]
   rcases List.mem_append.1 hq with h1|h1
   ·have:=hB q h1
    omega
   ·rw[List.mem_singleton.1 h1]
    omega⟩,⟨rfl,rfl,rfl,rfl,rfl,int_eq (by simp),trivial⟩,zhD ⟨[],by simp⟩,hj2.trans hj⟩
 obtain ⟨name,n2,rfl⟩:=more hLn hc2
 refine gak ?_
 refine oP (xR (el':=str name) (cs:=[_]) rfl rfl zo (by rw[hLn];exact get_mid str pn name n2) rfl rfl) rfl ?_
 refine gab ?_
 refine oP (Pure.sliceTo (g:=encFn) (pre:=pre) (l1:=f::l2) (by rw[←hL];rfl) rfl (encFn_len _)) rfl ?_
 refine gad ?_
 refine oL (fun k ls H'=>∃ (pp pl:List FnD) (kp kl:List FSum) (d2:Nat),pre=pp++pl∧known=kp++kl∧kp.length=pp.length∧k=pl.length∧ls=[(1,ptr b1 0),(4,v6),(5,v5),(6,int .i64 (pre.length:Int)),(7,ptr b7 0),(8,iv d2),(10,str name),(15,.list (fs.map encFn)),(16,int .i64 ((fs.map encFn).length:Int)),(17,int .i64 (pre.length:Int)),(41,.list (names.map str)),(42,int .i64 ((names.map str).length:Int)),(43,int .i64 (pn.length:Int)),(51,int .i64 ((pre.map encFn).length:Int)),(52,int .i64 (pp.length:Int))] ∧
   H'=fnH b7 f::prH b1 vars AL fs::(H5++H6)∧kl.map (·.name)=pl.map (·.name)∧overF (fun f=>1+f.depth) name known d=overF (fun f=>1+f.depth) name kl d2)
  ⟨_,_,_,⟨[],pre,[],known,d,rfl,rfl,rfl,rfl,rfl,rfl,hkn,rfl⟩,⟨rfl,rfl,rfl,rfl,rfl,rfl,rfl,rfl,rfl,rfl,rfl,rfl,rfl,rfl,rfl,trivial⟩,zhR _⟩ ?_
 rintro k ls H' ⟨pp,pl,kp,kl,d2,hLp,hLk,hkp,rfl,rfl,rfl,hkn2,hov2⟩ j3 hj3
 have hb3:=pre_le hLp hb
 refine gah ?_
 refine oC rfl (fun hc3=>?_) (fun hc3=>?_)
 rotate_left
 ·obtain rfl:=none_left hLp hc3
  have hkl0:kl=[]:=by
   cases kl with
   |nil=>rfl
   |cons s l=>simp at hkn2
  subst hkl0
  refine gaa ?_
  exact ⟨n2.length,_,_,Nat.lt_succ_self _,⟨pn++[name],n2,d2,snoc hLn,rfl,rfl,rfl,by
   rw[hov]
   show List.foldl _ (overF (fun f=>1+f.depth) name known d) n2=_
   rw[hov2]
   rfl⟩,⟨rfl,rfl,rfl,rfl,rfl,rfl,rfl,rfl,rfl,rfl,rfl,int_eq (by simp),trivial⟩,zhR _,hj3.trans hj2⟩
 obtain ⟨q,pl2,rfl⟩:=more hLp hc3
 obtain ⟨s,kl,rfl⟩:∃ s l,kl=s::l:=by
  cases kl with
  |nil=>simp at hkn2
  |cons s l=>exact ⟨s,l,rfl⟩
 rw[zMc,zMc] at hkn2
 injection hkn2 with hs hkn2
 have hget:(fs.map encFn)[((pp.length:Nat):Int).toNat]? = some (encFn q):=by
  rw[hL,hLp,zAs]
  exact get_mid encFn pp q _
 have hget2:((known.map (·.depth)).map iv)[((pp.length:Nat):Int).toNat]? = some (iv s.depth):=by
  rw[hLk,List.map_map,←hkp]
  exact get_mid _ kp s kl
 have hsd:s.depth≤2000000:=by
  have:=(hB s (by rw[hLk];simp)).2.2
  omega
 refine gab ?_
 refine oP (xR (el':=encFn q) (cs:=[_,_,_,_]) rfl rfl zo hget rfl rfl) rfl ?_
 refine gac ?_
 by_cases h14:q.name=name
 ·refine oC rfl (fun _=>?_) (fun hd=>absurd h14 (zf hd))
  refine gaj ?_
  refine oP (pM (lv:=v5) rfl) rfl ?_
  refine gav ?_
  refine oP (xR (el':=iv s.depth) (cs:=[_]) hacc5.elems rfl zo hget2 rfl rfl) rfl ?_
  refine gac ?_
  refine oS (sL (es:=[d2,1+s.depth].map iv) [_,_] rfl (iv_els _) rfl rfl rfl ?_) rfl
  refine oS (sF [_] rfl (most_spec d2 [1+s.depth] (by simp)) ?_) rfl
  refine gat ?_
  exact ⟨pl2.length,_,_,Nat.lt_succ_self _,⟨pp++[q],pl2,kp++[s],kl,max d2 (1+s.depth),snoc hLp,snoc hLk,by simp[hkp],rfl,rfl,rfl,hkn2,by rw[hov2];unfold overF;rw[List.foldl_cons,if_pos (hs.trans h14)]⟩,⟨rfl,rfl,rfl,rfl,rfl,rfl,rfl,rfl,rfl,rfl,rfl,rfl,rfl,rfl,int_eq (by simp),trivial⟩,zhR _,hj3⟩
 ·refine oC rfl (fun hd=>absurd (zt hd) h14) (fun _=>?_)
  refine gaa ?_
  exact ⟨pl2.length,_,_,Nat.lt_succ_self _,⟨pp++[q],pl2,kp++[s],kl,d2,snoc hLp,snoc hLk,by simp[hkp],rfl,rfl,rfl,hkn2,by rw[hov2];unfold overF;rw[List.foldl_cons,if_neg (fun h=>h14 (hs.symm.trans h))]⟩,⟨rfl,rfl,rfl,rfl,rfl,rfl,rfl,rfl,rfl,rfl,rfl,rfl,rfl,rfl,int_eq (by simp),trivial⟩,zhR _,hj3⟩
end
end Go.Proofs.YtpbbgkoalnonoaaGreatDoor.RC
namespace Go.Proofs.YtpbbgkoalnonoaaGreatDoor.R23
open Go.GL Go.RowKit Go.Stele
open Go.Lib (decDigits itoa join)
open Cmp (symLV orgLV)
def cLV (vars:List Nm) (arrays:List (Nm×Int)) (fs:List FnD) (sc:Nat) (ars:List (Nm×Int)) (own:Nm):LV:=.agg [.list (vars.map str),.list (arrays.map Chk.encArG),.list (fs.map encFn),int .i64 (sc:Nat),.list (ars.map symLV),str own]
def arrR (name:Nm):List (Nm×Int)→Int→Int
 |[],a=>a
 |(x,n)::r,a=>arrR name r (if x=name then n else a)
theorem arrR_mem (name:Nm) (P:Int→Prop):∀ (l:List (Nm×Int)) (a:Int),P a→(∀ p∈l,P p.2)→P (arrR name l a)
 |[],a,h,_=>h
 |(x,n)::r,a,h,hp=>by
  rw[arrR]
  refine arrR_mem name P r _ ?_ fun p hp'=>hp p (zMo _ hp')
  split
  ·exact hp _ zMs
  ·exact h
def hitR (nv:Nat) (own name:Nm) (i:Nat) (x:Nm):Bool:=(decide (x=name) && decide (i<nv)) || decide (x=own++[46]++name)
def scR (nv:Nat) (own name:Nm) (sc:Nat):Nat→List Nm→Nat→Nat
 |_,[],a=>a
 |i,x::r,a=>scR nv own name sc (i+1) r (if hitR nv own name i x=true then sc+3+i else a)
theorem scR_app (nv:Nat) (own name:Nm) (sc:Nat):∀ (l m:List Nm) (i a:Nat),scR nv own name sc i (l++m) a=scR nv own name sc (i+l.length) m (scR nv own name sc i l a)
 |[],m,i,a=>rfl
 |x::r,m,i,a=>by
  rw[List.cons_append,scR,scR_app nv own name sc r m,scR,zLc,Nat.add_right_comm,Nat.add_assoc]
theorem scR_no (nv:Nat) (own name:Nm) (sc:Nat):∀ (l:List Nm) (i a:Nat),(∀ k (h:k<l.length),hitR nv own name (i+k) l[k]=false)→scR nv own name sc i l a=a
 |[],i,a,_=>rfl
 |x::r,i,a,h=>by
  have h0:=h 0 (by simp)
  rw[Nat.add_zero,List.getElem_cons_zero] at h0
  rw[scR,h0,if_neg zDd]
  refine scR_no nv own name sc r (i+1) a fun k hk=>?_
  have:=h (k+1) (by simpa using hk)
  rw[List.getElem_cons_succ] at this
  rw[Nat.add_right_comm,Nat.add_assoc]
  exact this
theorem scR_le (nv:Nat) (own name:Nm) (sc:Nat):∀ (l:List Nm) (i a M:Nat),a≤M→sc+3+i+l.length≤M→scR nv own name sc i l a≤M
 |[],i,a,M,h,_=>h
 |x::r,i,a,M,h,h2=>by
  rw[zLc] at h2
  rw[scR]
  refine scR_le nv own name sc r (i+1) _ M ?_ zo
  split <;> omega
theorem scR_place {vars locs:List Nm} {own name:Nm} (sc:Nat) (hn:(vars++locs).Nodup) (hv:own++[46]++name ∉ vars) (hl:name ∉ locs) :
  ((scR vars.length own name sc 0 (vars++locs) 0:Nat):Int)=placeA (vars++locs) sc (keyC (vars++locs) own name):=by
 have one:∀ (k:Nm) (p q:List Nm),vars++locs=p++k::q→(∀ x∈q,x≠k)∧(∀ x∈p,x≠k)∧(vars++locs).idxOf k=p.length:=fun k p q e=>by
  rw[e,List.nodup_append,List.nodup_cons] at hn
  refine ⟨fun x hx h=>hn.2.1.1 (h▸hx),fun x hx h=>hn.2.2 x hx k zMs h,?_⟩
  rw[e,List.idxOf_append,if_neg (fun h=>hn.2.2 k h k zMs rfl),List.idxOf_cons_self,Nat.zero_add]
 unfold keyC placeA
 by_cases hk:own++[46]++name∈vars++locs
 ·rw[if_pos hk,if_pos hk]
  obtain ⟨p,q,e⟩:=List.append_of_mem hk
  obtain ⟨h1,h2,h3⟩:=one _ p q e
  rw[h3]
  have hpl:vars.length≤p.length:=by
   refine Nat.le_of_not_lt fun hlt=>hv ?_
   have:=congrArg (fun l=>l[p.length]?) e
   simp only[List.getElem?_append_left hlt,List.getElem?_append_right (zNr _),Nat.sub_self,List.getElem?_cons_zero] at this
   exact List.mem_of_getElem? this
  rw[e,scR_app,scR,scR_no]
  ·have:hitR vars.length own name (0+p.length) (own++[46]++name)=true:=by
    unfold hitR
    rw[decide_eq_true (rfl:own++[46]++name=own++[46]++name),Bool.or_true]
   rw[if_pos this]
   omega
  ·intro k hk
   unfold hitR
   rw[decide_eq_false (p:=_<vars.length) zo,Bool.and_false,Bool.false_or]
   exact decide_eq_false (h1 _ (List.getElem_mem hk))
 ·rw[if_neg hk]
  have no:∀ x∈vars++locs,x≠own++[46]++name:=fun x hx h=>hk (h▸hx)
  by_cases hm:name∈vars++locs
  ·rw[if_pos hm]
   have hmv:name∈vars:=(List.mem_append.1 hm).resolve_right hl
   obtain ⟨p,q,e⟩:=List.append_of_mem hmv
   have e2:vars++locs=p++name::(q++locs):=by rw[e,zAs,List.cons_append]
   obtain ⟨h1,h2,h3⟩:=one _ p (q++locs) e2
   rw[h3]
   have hpl:p.length<vars.length:=by rw[e,zLa,zLc];omega
   generalize vars.length=nv at hpl
   rw[e2,scR_app,scR,scR_no]
   ·have:hitR nv own name (0+p.length) name=true:=by
     unfold hitR
     rw[decide_eq_true (rfl:name=name),decide_eq_true zo]
     rfl
    rw[if_pos this]
    omega
   ·intro k hk
    unfold hitR
    rw[decide_eq_false (h1 _ (List.getElem_mem hk)),Bool.false_and,Bool.false_or]
    exact decide_eq_false (no _ (by rw[e2];exact List.mem_append_right _ (zMo _ (List.getElem_mem hk))))
  ·rw[if_neg hm,scR_no]
   ·rfl
   ·intro k hk
    unfold hitR
    rw[decide_eq_false fun h:(vars++locs)[k]=name=>hm (h▸List.getElem_mem hk),Bool.false_and,Bool.false_or]
    exact decide_eq_false (no _ (List.getElem_mem hk))
attribute [local irreducible] LOps LCode LStep LCalls Go.GL.Pure QThen QBlock RetPost LQ LAny LLate LLateOp LS
section
variable {B0:Nat} {w0:World}
theorem array23_spec (vars:List Nm) (arrays:List (Nm×Int)) (fs:List FnD) (sc:Nat) (ars:List (Nm×Int)) (own name:Nm) (hl:ars.length≤2000000000) (hp:∀ p∈ars,0≤p.2∧p.2≤1000000) :
  LCalls (KC B0 w0) 182 [cLV vars arrays fs sc ars own,str name] [] (Ret (str (decDigits (arrR name ars 0).toNat))):=by
 have hla:(ars.map symLV).length=ars.length:=zLm _
 have hR:=arrR_mem name (fun n=>0≤n∧n≤1000000) ars 0 zDd hp
 have hnum:=num23_spec (B0:=B0) (w0:=w0) (arrR name ars 0).toNat zo
 rw[Int.toNat_of_nonneg hR.1] at hnum
 unfold cLV
 refine cI Tryz.func182 rfl (n:=30) rfl rfl rfl ?_
 refine gaf ?_
 refine oS (S.box rfl fun b2=>?_) rfl
 refine gaa ?_
 refine oL (fun kk ls H'=>∃ (i:Nat) (a:Int),i≤ars.length∧kk=ars.length-i∧ls=[(1,str name),(2,ptr b2 0),(5,int .i64 a),(6,int .i64 (i:Nat))]∧H'=[(b2,.cells 140 [.list (vars.map str),.list (arrays.map Chk.encArG),.list (fs.map encFn),int .i64 (sc:Nat),.list (ars.map symLV),str own])]∧arrR name ars 0=arrR name (ars.drop i) a)
  ⟨_,_,_,⟨0,0,Nat.zero_le _,rfl,rfl,rfl,rfl⟩,⟨rfl,rfl,rfl,rfl,trivial⟩,zhR _⟩ ?_
 rintro kk ls H' ⟨i,a,hi,rfl,rfl,rfl,hI⟩ j hj
 refine gaa ?_
 refine oC rfl (fun hc=>?_) (fun hc=>?_)
 rotate_left
 ·have hi':i=ars.length:=by have:=zf hc;omega
  subst hi'
  rw[List.drop_length] at hI
  have hI:arrR name ars 0=a:=hI
  rw[hI] at hnum ⊢
  refine gaa ?_
  refine oS (sF [_] rfl hnum ?_) rfl
  refine gae ?_
  exact retRet hj (zra rfl) rfl
 have hlt:i<ars.length:=by have:=zt hc;omega
 have hmi:=map_get symLV ars i hlt
 rw[List.drop_eq_getElem_cons hlt] at hI
 generalize ars[i]=p at hmi hI
 obtain ⟨x,n⟩:=p
 rw[arrR] at hI
 refine gaa ?_
 refine oP (xR (el':=symLV (x,n)) (cs:=[_,_]) rfl rfl zo hmi rfl rfl) rfl ?_
 refine gac ?_
 refine oC rfl (fun h=>?_) (fun h=>?_)
 ·have h':x=name:=zt h
  rw[if_pos h'] at hI
  refine gaa ?_
  refine oP (xR (el':=symLV (x,n)) (cs:=[_,_]) rfl rfl zo hmi rfl rfl) rfl ?_
  refine gab ?_
  exact ⟨_,_,_,by omega,⟨i+1,n,by omega,rfl,rfl,rfl,hI⟩,⟨rfl,rfl,rfl,int_eq zo,trivial⟩,zhR _,hj⟩
 ·have h':¬ x=name:=zf h
  rw[if_neg h'] at hI
  refine gaa ?_
  exact ⟨_,_,_,by omega,⟨i+1,a,by omega,rfl,rfl,rfl,hI⟩,⟨rfl,rfl,rfl,int_eq zo,trivial⟩,zhR _,hj⟩
theorem scalar23_spec (vars:List Nm) (arrays:List (Nm×Int)) (fs:List FnD) (sc:Nat) (ars:List (Nm×Int)) (own name:Nm) (hv6:vars.length≤2000000) (hf6:fs.length≤2000000) (hsm:∀ f∈fs,SmF f) (hn:∀ f∈fs,f.name.length≤1000∧∀ x∈f.params++f.locals,x.length≤1000) (hsl:(scalarsP vars fs).length≤1000000) (hsc:sc≤1000000) (hown:own.length≤1000000) (hnm:name.length≤1000000) :
  LCalls (KC B0 w0) 63 [cLV vars arrays fs sc ars own,str name] [] (Ret (str (decDigits (scR vars.length own name sc 0 (scalarsP vars fs) 0)))):=by
 have hS:=RC.rscalars_spec (B0:=B0) (w0:=w0) (vars:=vars) (fs:=fs) (.list (arrays.map Chk.encArG)) hv6 hf6 hsm hn
 generalize scalarsP vars fs=l at hsl hS ⊢
 have hla:(l.map str).length=l.length:=zLm _
 have hvl:(vars.map str).length=vars.length:=zLm _
 have hle:=scR_le vars.length own name sc l 0 0 2000003 zo zo
 have hnum:=num23_spec (B0:=B0) (w0:=w0) (scR vars.length own name sc 0 l 0) zo
 unfold cLV
 refine cI Tryz.func63 rfl (n:=50) rfl rfl rfl ?_
 refine gaf ?_
 refine oS (S.box rfl fun b2=>?_) rfl
 refine gab ?_
 refine oS (sF [_] rfl hS ?_) rfl
 refine gab ?_
 refine oL (fun kk ls H'=>∃ (i a:Nat),i≤l.length∧kk=l.length-i∧ls=[(1,str name),(2,ptr b2 0),(5,.list (l.map str)),(6,int .i64 (a:Nat)),(7,int .i64 (i:Nat))]∧H'=[(b2,.cells 140 [.list (vars.map str),.list (arrays.map Chk.encArG),.list (fs.map encFn),int .i64 (sc:Nat),.list (ars.map symLV),str own])]∧scR vars.length own name sc 0 l 0=scR vars.length own name sc i (l.drop i) a)
  ⟨_,_,_,⟨0,0,Nat.zero_le _,rfl,rfl,rfl,rfl⟩,⟨rfl,rfl,rfl,rfl,rfl,trivial⟩,zhR _⟩ ?_
 rintro kk ls H' ⟨i,a,hi,rfl,rfl,rfl,hI⟩ j hj
 refine gaa ?_
 refine oC rfl (fun hc=>?_) (fun hc=>?_)
 rotate_left
 ·have hi':i=l.length:=by have:=zf hc;omega
  subst hi'
  rw[List.drop_length] at hI
  have hI:scR vars.length own name sc 0 l 0=a:=hI
  rw[hI] at hnum ⊢
  refine gaa ?_
  refine oS (sF [_] rfl hnum ?_) rfl
  refine gae ?_
  exact retRet hj (zra rfl) rfl
 have hlt:i<l.length:=by have:=zt hc;omega
 have hmi:=map_get str l i hlt
 rw[List.drop_eq_getElem_cons hlt] at hI
 generalize l[i]=x at hmi hI
 rw[scR] at hI
 have hH:hitR vars.length own name i x=((decide (x=name) && decide (i<vars.length)) || decide (x=own++[46]++name)):=rfl
 refine gad ?_
 refine LCode.cut [(1,str name),(2,ptr b2 0),(5,.list (l.map str)),(6,int .i64 (a:Nat)),(7,int .i64 (i:Nat)),(42,bool (hitR vars.length own name i x))] ?_ (fun j2 hj2=>?_)
 ·refine LCode.quiet zk ?_
  refine gac ?_
  refine LQ.pure (xR (el':=str x) (cs:=[_]) rfl rfl zo hmi rfl rfl) rfl ?_
  refine gac ?_
  refine LQ.bcase 23 rfl (fun h1=>?_) (fun h1=>?_)
  ·have h1':x=name:=zt h1
   refine gac ?_
   refine LQ.bcase 31 rfl (fun h2=>?_) (fun h2=>?_)
   ·have h2':i<vars.length:=by have:=zt h2;omega
    refine gac ?_
    exact ⟨⟨rfl,rfl,rfl,rfl,rfl,bool_eq (by rw[hH,decide_eq_true h1',decide_eq_true h2'];rfl),trivial⟩,rfl,rfl⟩
   ·have h2':¬ i<vars.length:=by have:=zf h2;omega
    refine gac ?_
    refine LQ.pure (xR (el':=str x) (cs:=[_]) rfl rfl zo hmi rfl rfl) rfl ?_
    refine gac ?_
    exact ⟨⟨rfl,rfl,rfl,rfl,rfl,bool_eq (by rw[hH,decide_eq_false h2',Bool.and_false,Bool.false_or]),trivial⟩,rfl,rfl⟩
  ·have h1':¬ x=name:=zf h1
   refine gac ?_
   refine LQ.pure (xR (el':=str x) (cs:=[_]) rfl rfl zo hmi rfl rfl) rfl ?_
   refine gac ?_
   exact ⟨⟨rfl,rfl,rfl,rfl,rfl,bool_eq (by rw[hH,decide_eq_false h1',Bool.false_and,Bool.false_or]),trivial⟩,rfl,rfl⟩
 refine oC rfl (fun h=>?_) (fun h=>?_)
 ·have h':hitR vars.length own name i x=true:=h
  rw[if_pos h'] at hI
  refine gaa ?_
  exact ⟨_,_,_,by omega,⟨i+1,_,by omega,rfl,rfl,rfl,hI⟩,⟨rfl,rfl,rfl,int_eq zo,int_eq zo,trivial⟩,zhR _,hj2.trans hj⟩
 ·have h':hitR vars.length own name i x=false:=h
  rw[h',if_neg zDd] at hI
  refine gaa ?_
  exact ⟨_,_,_,by omega,⟨i+1,a,by omega,rfl,rfl,rfl,hI⟩,⟨rfl,rfl,rfl,rfl,int_eq zo,trivial⟩,zhR _,hj2.trans hj⟩
end
end Go.Proofs.YtpbbgkoalnonoaaGreatDoor.R23
namespace Go.Proofs.YtpbbgkoalnonoaaGreatDoor.R23
open Go.GL Go.RowKit Go.Stele
open Go.Lib (decDigits itoa join)
open Cmp (symLV orgLV EnvOk one_arg exWl_cons exWl_nil exW_two twoW binW)
theorem exWl_map {c:CC}:∀ l:List Ex,exWl c l=l.map (exW c)
 |[]=>exWl_nil ..
 |x::l=>by rw[exWl_cons,exWl_map l];rfl
theorem errEs_mem {env:CEnv}:∀ {l:List Ex},errEs env l=0→∀ x∈l,errE env x=0
 |[],_,x,h=>(List.not_mem_nil h).elim
 |y::l,he,x,h=>by
  rw[errEs] at he
  rcases zMi.1 h with rfl|h
  ·exact (orE_zero.1 he).1
  ·exact errEs_mem (orE_zero.1 he).2 x h
theorem ndE_mem:∀ {l:List Ex} {x:Ex},x∈l→ndE x≤ndEs l
 |[],x,h=>(List.not_mem_nil h).elim
 |y::l,x,h=>by
  rw[ndEs]
  rcases zMi.1 h with rfl|h
  ·omega
  ·have:=ndE_mem h
   omega
structure RefC (B0:Nat) (w0:World) (vars:List Nm) (arrays:List (Nm×Int)) (fs:List FnD) (sc:Nat) (ars:List (Nm×Int)) (own:Nm) (c:CC) (env:CEnv):Prop where
 sc1:∀ name,scalarE env name=0→LCalls (KC B0 w0) 63 [cLV vars arrays fs sc ars own,str name] [] (Ret (str (c.sc name)))
 ar1:∀ name,LCalls (KC B0 w0) 182 [cLV vars arrays fs sc ars own,str name] [] (Ret (str (c.ar name)))
 t0:c.t0=decDigits sc
 t1:c.t1=decDigits (sc+1)
 t2:c.t2=decDigits (sc+2)
 le:sc≤1000000
 ne:∀ x,numE x→errE env x=0→∀ w∈exW c x,w≠[]
attribute [local irreducible] LOps LCode LStep LCalls Go.GL.Pure QThen QBlock RetPost LQ LAny LLate LLateOp LS
section
variable {B0:Nat} {w0:World}
def Exp23 (B0:Nat) (w0:World) (vars:List Nm) (arrays:List (Nm×Int)) (fs:List FnD) (sc:Nat) (ars:List (Nm×Int)) (own:Nm) (c:CC) (env:CEnv) (m:Nat):Prop:=∀ (x:Ex) (ws:List Wd) (n:Nat),ndE x≤m→numE x→errE env x=0→(∀ w∈ws,w≠[])→tot (ws++exW c x)≤1000000000000 →
 LCalls (KC B0 w0) 181 [cLV vars arrays fs sc ars own,tLV ws n,encE x] [] (Ret (tLV (ws++exW c x) n))
@[reducible] def exR (b:Nat) (op:Nm) (num:Nat) (name:Nm) (args:List Ex):Nat×LObj:=(b,.cells 104 [str op,int .u32 (num:Int),str name,.list (args.map encE)])
@[reducible] def tR (b:Nat) (ws:List Wd) (n:Nat):Nat×LObj:=(b,.cells 142 [str (join ws [32]),int .i64 (n:Nat)])
@[reducible] def zR (b:Nat):Nat×LObj:=(b,.cells 142 [str [],int .i64 0])
@[reducible] def cR (b:Nat) (vars:List Nm) (arrays:List (Nm×Int)) (fs:List FnD) (sc:Nat) (ars:List (Nm×Int)) (own:Nm):Nat×LObj:=(b,.cells 140 [.list (vars.map str),.list (arrays.map Chk.encArG),.list (fs.map encFn),int .i64 (sc:Nat),.list (ars.map symLV),str own])
theorem expr23_spec {vars:List Nm} {arrays:List (Nm×Int)} {fs:List FnD} {sc:Nat} {ars:List (Nm×Int)} {own:Nm} {c:CC} {env:CEnv} (hc:RefC B0 w0 vars arrays fs sc ars own c env) (hE:EnvOk env):∀ m:Nat,m≤2000000→Exp23 B0 w0 vars arrays fs sc ars own c env m
 |0,_=>fun x ws n h=>by have:=ndE_pos x;omega
 |m+1,hm6=>by
  have ih:=expr23_spec hc hE m zo
  intro x ws n hnd hnum herr hws hT
  have hneX:=hc.ne x hnum herr
  obtain ⟨op,num,name,args⟩:=x
  rw[ndE] at hnd
  rw[numE] at hnum
  obtain ⟨hnum,hna⟩:=hnum
  have hal:=ndEs_len args
  rw[errE] at herr
  by_cases hop:opnds op = -1∨opnds op=args.length
  rotate_left
  ·rw[if_neg hop] at herr;cases herr
  rw[if_pos hop] at herr
  obtain ⟨he1,he2⟩:=orE_zero.1 herr
  have hW:exW c (Ex.mk op num name args)=opW c op num name (exWl c args):=by rw[exW]
  have hone:opnds op=1→∃ x,args=[x]:=fun h1=>one_arg (env:=env) (name:=name) hop h1
  have htwo:opnds op=2→∃ x y,args=[x,y]:=fun h2=>by
   rcases hop with h|h
   ·rw[h2] at h;cases h
   ·rw[h2] at h
    match args,h with
    |[x,y],_=>exact ⟨x,y,rfl⟩
  have hle:=hc.le
  have hn1:=num23_spec (B0:=B0) (w0:=w0) (sc+1) zo
  have hn2:=num23_spec (B0:=B0) (w0:=w0) (sc+2) zo
  rw[←hc.t1] at hn1
  rw[←hc.t2] at hn2
  have eC:cLV vars arrays fs sc ars own=.agg [.list (vars.map str),.list (arrays.map Chk.encArG),.list (fs.map encFn),int .i64 (sc:Nat),.list (ars.map symLV),str own]:=rfl
  have eT:∀ ws,tLV ws n=.agg [str (join ws [32]),int .i64 (n:Nat)]:=fun _=>rfl
  rw[encE_mk,eC,eT ws]
  refine cI Tryz.func181 rfl (n:=210) rfl rfl rfl ?_
  refine gaf ?_
  refine oS (S.box rfl fun b3=>?_) rfl
  refine oS (S.box rfl fun b4=>?_) rfl
  refine oS (S.box rfl fun b5=>?_) rfl
  refine oS (sA fun b6=>?_) rfl
  repeat (first|refine LOps.nil ?_|refine qN ?_|refine LCode.skip ?_)
  refine LCode.weak (H':=[cR b3 vars arrays fs sc ars own,tR b4 ws n,exR b5 op num name args,zR b6]) ⟨[],by rw[zLz];exact (List.reverse_perm [cR b3 vars arrays fs sc ars own,tR b4 ws n,exR b5 op num name args,zR b6])⟩ ?_
  refine LCode.seq ?_
  refine LCode.cut [(3,ptr b3 0),(4,ptr b4 0),(5,ptr b5 0),(6,ptr b6 0),(7,str c.t1),(8,str c.t2)] ?_ (fun j hj=>?_)
  ·refine LCode.draw (m:=10) rfl [cR b3 vars arrays fs sc ars own,tR b4 ws n,exR b5 op num name args,zR b6] ?_
   refine aT 0 rfl rfl (pF rfl) ?_
   refine aT 1 rfl rfl (pL (c:=.atom _) rfl zm0 rfl) ?_
   refine aT 2 rfl rfl (Pure.add rfl rfl zo) ?_
   refine aT 4 rfl rfl (pF rfl) ?_
   refine aT 5 rfl rfl (pL (c:=.atom _) rfl zm0 rfl) ?_
   refine aT 6 rfl rfl (Pure.add rfl rfl zo) ?_
   refine LAny.late ?_ zhr
   refine zl1 (i:=3) zk ?_
   refine lS (H1:=[]) rfl (.inl rfl) rfl zpr zhr (sF [_] rfl hn1 ?_)
   refine zl1 (i:=7) zk ?_
   refine lS (H1:=[]) rfl (.inl rfl) rfl zpr zhr (sF [_] rfl hn2 ?_)
   refine zl1 (i:=8) zk ?_
   refine lH rfl rfl (pA (lv:=.atom _) rfl) ?_
   refine zl1 (i:=9) zk ?_
   refine lH rfl rfl (pA (lv:=.atom _) rfl) ?_
   refine lD zk ?_
   refine qN ?_
   exact ⟨⟨rfl,rfl,rfl,rfl,rfl,rfl,trivial⟩,rfl,rfl⟩
  refine gab ?_
  by_cases h1:op=[110,117,109]
  ·have hW1:exW c (Ex.mk op num name args)=[decDigits num]:=by rw[hW];subst h1;rfl
   rw[hW1] at hT hneX ⊢
   refine oC rfl (fun _=>?_) (fun hc=>absurd h1 (zf hc))
   refine gau ?_
   have hnl:num<4294967296:=hnum
   have hnn:=num23_spec (B0:=B0) (w0:=w0) num zo
   have hpt:=put_spec (B0:=B0) (w0:=w0) ws [decDigits num] n hws hneX hT
   simp only[eT] at hpt
   refine LCode.draw (m:=8) rfl [cR b3 vars arrays fs sc ars own,tR b4 ws n,exR b5 op num name args] ?_
   refine aT 0 rfl rfl (Pure.ldHAgg (cs':=[_,_]) rfl zm1 rfl rfl) ?_
   refine aT 1 rfl rfl (pF rfl) ?_
   refine aT 2 rfl rfl (pL (c:=.atom _) rfl zm2 rfl) ?_
   refine aT 3 rfl rfl (Pure.cvt rfl) ?_
   refine LAny.late ?_ ⟨_,List.Perm.refl _⟩
   refine lO 4 (lS (H1:=[]) rfl (.inl rfl) rfl zpr ⟨_,List.Perm.refl _⟩ (sF [_] (by show [int .i64 (IntKind.i64.wrap (num:Int))]=[int .i64 (num:Nat)];rw[wrap_i64 zo]) hnn ?_))
   refine lO 5 (lS (H1:=[]) rfl (.inl rfl) rfl zpr ⟨_,List.Perm.refl _⟩ (sL [_] rfl (elemsOk_strs [_]) rfl rfl rfl ?_))
   refine lO 6 (lS (H1:=[]) rfl (.inl rfl) rfl zpr ⟨_,List.Perm.refl _⟩ (sF [_,_] rfl hpt ?_))
   refine lO 7 (lS (H1:=[zR b6]) (F:=[cR b3 vars arrays fs sc ars own,tR b4 ws n,exR b5 op num name args]) rfl (.inl rfl) rfl (zPc (l₁:=[cR b3 vars arrays fs sc ars own,tR b4 ws n,exR b5 op num name args]) (l₂:=[_])) zhr (sS (cs':=[_,_]) rfl pH rfl rfl rfl rfl rfl ?_))
   refine lD zk ?_
   refine gae ?_
   exact retRet hj (rC (rA rfl zm0 rfl zsr) rN) rfl
  refine oC rfl (fun hc=>absurd (zt hc) h1) (fun _=>?_)
  refine gai ?_
  by_cases h2:op=[118,97,114]
  ·have hW1:exW c (Ex.mk op num name args)=[c.sc name,[64]]:=by rw[hW];subst h2;rfl
   have hsc:scalarE env name=0:=by rw[←he2];subst h2;rfl
   have hss:=hc.sc1 name hsc
   rw[hW1] at hT hneX ⊢
   have hpt:=put_spec (B0:=B0) (w0:=w0) ws [c.sc name,[64]] n hws hneX hT
   simp only[eT] at hpt
   refine oC rfl (fun _=>?_) (fun hc=>absurd h2 (zf hc))
   refine gau ?_
   refine LCode.draw (m:=8) rfl [cR b3 vars arrays fs sc ars own,tR b4 ws n,exR b5 op num name args] ?_
   refine aT 0 rfl rfl (Pure.ldHAgg (cs':=[_,_]) rfl zm1 rfl rfl) ?_
   refine aT 1 rfl rfl (Pure.ldHAgg (cs':=[_,_,_,_,_,_]) rfl zm0 rfl rfl) ?_
   refine aT 2 rfl rfl (pF rfl) ?_
   refine aT 3 rfl rfl (pL (c:=.atom _) rfl zm2 rfl) ?_
   refine LAny.late ?_ ⟨_,List.Perm.refl _⟩
   refine lO 4 (lS (H1:=[]) rfl (.inl rfl) rfl zpr ⟨_,List.Perm.refl _⟩ (sF [_,_] rfl hss ?_))
   refine lO 5 (lS (H1:=[]) rfl (.inl rfl) rfl zpr ⟨_,List.Perm.refl _⟩ (sL [_,_] rfl (elemsOk_strs [_,_]) rfl rfl rfl ?_))
   refine lO 6 (lS (H1:=[]) rfl (.inl rfl) rfl zpr ⟨_,List.Perm.refl _⟩ (sF [_,_] rfl hpt ?_))
   refine lO 7 (lS (H1:=[zR b6]) (F:=[cR b3 vars arrays fs sc ars own,tR b4 ws n,exR b5 op num name args]) rfl (.inl rfl) rfl (zPc (l₁:=[cR b3 vars arrays fs sc ars own,tR b4 ws n,exR b5 op num name args]) (l₂:=[_])) zhr (sS (cs':=[_,_]) rfl pH rfl rfl rfl rfl rfl ?_))
   refine lD zk ?_
   refine gae ?_
   exact retRet hj (rC (rA rfl zm0 rfl zsr) rN) rfl
  refine oC rfl (fun hc=>absurd (zt hc) h2) (fun _=>?_)
  refine gai ?_
  by_cases h3:op=[101,108,101,109]
  ·obtain ⟨x,rfl⟩:=hone (by subst h3;rfl)
   have hW1:exW c (Ex.mk op num name [x])=[c.ar name]++(exW c x++[[43],[64]]):=by rw[hW];simp only[exWl_cons,exWl_nil];subst h3;simp[opW,nNum,nVar,nElem,nCall,nNeg,nNot]
   rw[hW1] at hT hneX ⊢
   simp only[errEs] at he1
   simp only[numEs] at hna
   simp only[ndEs] at hnd
   have hall:=List.forall_mem_append.2 ⟨hws,hneX⟩
   simp only[tot_app] at hT
   have hex:=(orE_zero.1 he1).1
   have p5:=hc.ar1 name
   simp only[eC] at p5
   have p7:=put_spec (B0:=B0) (w0:=w0) ws [c.ar name] n (fun w hw=>hall w (by simp at hw ⊢;grind)) (fun w hw=>hall w (by simp at hw ⊢;grind)) (by simp only[tot_app];omega)
   simp only[eT,zMc,List.map_nil] at p7
   have p12:=ih x (ws++[c.ar name]) n zo hna.1 hex (fun w hw=>hall w (by simp at hw ⊢;grind)) (by simp only[tot_app];omega)
   simp only[eC,eT] at p12
   have p14:=put_spec (B0:=B0) (w0:=w0) (ws++[c.ar name]++exW c x) [[43],[64]] n (fun w hw=>hall w (by simp at hw ⊢;grind)) (fun w hw=>hall w (by simp at hw ⊢;grind)) (by simp only[tot_app];omega)
   simp only[eT,zMc,List.map_nil] at p14
   refine oC rfl (fun _=>?_) (fun hc=>absurd h3 (zf hc))
   refine gau ?_
   refine LCode.midC (A:=Unit) (fun _=>[(6,ptr b6 0)]) (fun _=>[tR b6 ((ws++[c.ar name]++exW c x)++[[43],[64]]) n]) (fun _=>True) ?_ (fun _ _ j2 hj2=>?_)
   ·refine LCode.draw (m:=16) rfl [cR b3 vars arrays fs sc ars own,tR b4 ws n,exR b5 op num name [x]] ?_
    refine aT 0 rfl rfl (Pure.ldHAgg (cs':=[_,_,_,_,_,_]) rfl zm0 rfl rfl) ?_
    refine aT 1 rfl rfl (Pure.ldHAgg (cs':=[_,_]) rfl zm1 rfl rfl) ?_
    refine aT 2 rfl rfl (Pure.ldHAgg (cs':=[_,_,_,_,_,_]) rfl zm0 rfl rfl) ?_
    refine aT 3 rfl rfl (pF rfl) ?_
    refine aT 4 rfl rfl (pL (c:=.atom _) rfl zm2 rfl) ?_
    refine aT 8 rfl rfl (pF rfl) ?_
    refine aT 9 rfl rfl (pL (c:=.list _) rfl zm2 rfl) ?_
    refine aT 10 rfl rfl (xR (el':=encE x) (cs:=[_,_,_,_]) rfl rfl zDd rfl rfl rfl) ?_
    refine aT 11 rfl rfl (Pure.ldRefAgg (cs':=[_,_,_,_]) rfl rfl rfl) ?_
    refine LAny.late ?_ ⟨_,List.Perm.refl _⟩
    refine LLate.two (i:=5) (j:=13) zk ?_ ?_
    ·refine lS (H1:=[]) rfl (.inl rfl) rfl zpr ⟨_,List.Perm.refl _⟩ (sF [_,_] rfl p5 ?_)
     refine LLate.two (i:=6) (j:=13) zk ?_ ?_
     ·refine lS (H1:=[]) rfl (.inl rfl) rfl zpr ⟨_,List.Perm.refl _⟩ (sL [_] rfl (elemsOk_strs [_]) rfl rfl rfl ?_)
      refine LLate.two (i:=7) (j:=13) zk ?_ ?_
      ·refine lS (H1:=[]) rfl (.inl rfl) rfl zpr ⟨_,List.Perm.refl _⟩ (sF [_,_] rfl p7 ?_)
       refine LLate.two (i:=12) (j:=13) zk ?_ ?_
       ·refine lS (H1:=[]) rfl (.inl rfl) rfl zpr ⟨_,List.Perm.refl _⟩ (sF [_,_,_] rfl p12 ?_)
        refine zl1 (i:=13) zk ?_
        refine lS (H1:=[]) rfl (.inl rfl) rfl zpr ⟨_,List.Perm.refl _⟩ (sL [_,_] rfl (elemsOk_strs [_,_]) rfl rfl rfl ?_)
        exact zT15
       ·refine lS (H1:=[]) rfl (.inl rfl) rfl zpr ⟨_,List.Perm.refl _⟩ (sL [_,_] rfl (elemsOk_strs [_,_]) rfl rfl rfl ?_)
        refine zl1 (i:=12) zk ?_
        refine lS (H1:=[]) rfl (.inl rfl) rfl zpr ⟨_,List.Perm.refl _⟩ (sF [_,_,_] rfl p12 ?_)
        exact zT15
      ·refine lS (H1:=[]) rfl (.inl rfl) rfl zpr ⟨_,List.Perm.refl _⟩ (sL [_,_] rfl (elemsOk_strs [_,_]) rfl rfl rfl ?_)
       exact zT40
     ·refine lS (H1:=[]) rfl (.inl rfl) rfl zpr ⟨_,List.Perm.refl _⟩ (sL [_,_] rfl (elemsOk_strs [_,_]) rfl rfl rfl ?_)
      refine zl1 (i:=6) zk ?_
      refine lS (H1:=[]) rfl (.inl rfl) rfl zpr ⟨_,List.Perm.refl _⟩ (sL [_] rfl (elemsOk_strs [_]) rfl rfl rfl ?_)
      exact zT40
    ·refine lS (H1:=[]) rfl (.inl rfl) rfl zpr ⟨_,List.Perm.refl _⟩ (sL [_,_] rfl (elemsOk_strs [_,_]) rfl rfl rfl ?_)
     refine zl1 (i:=5) zk ?_
     refine lS (H1:=[]) rfl (.inl rfl) rfl zpr ⟨_,List.Perm.refl _⟩ (sF [_,_] rfl p5 ?_)
     refine zl1 (i:=6) zk ?_
     refine lS (H1:=[]) rfl (.inl rfl) rfl zpr ⟨_,List.Perm.refl _⟩ (sL [_] rfl (elemsOk_strs [_]) rfl rfl rfl ?_)
     exact zT40
   refine gae ?_
   exact retRet (hj2.trans hj) (rC (rA rfl zm0 rfl zsr) rN) (by simp only[zAs];rfl)
  refine oC rfl (fun hc=>absurd (zt hc) h3) (fun _=>?_)
  refine gai ?_
  by_cases h5:op=[110,101,103]
  ·obtain ⟨x,rfl⟩:=hone (by subst h5;rfl)
   have hW1:exW c (Ex.mk op num name [x])=[[48]]++(exW c x++[[45]]):=by rw[hW];simp only[exWl_cons,exWl_nil];subst h5;simp[opW,nNum,nVar,nElem,nCall,nNeg,nNot]
   rw[hW1] at hT hneX ⊢
   simp only[errEs] at he1
   simp only[numEs] at hna
   simp only[ndEs] at hnd
   have hall:=List.forall_mem_append.2 ⟨hws,hneX⟩
   simp only[tot_app] at hT
   have hex:=(orE_zero.1 he1).1
   have p3:=put_spec (B0:=B0) (w0:=w0) ws [[48]] n (fun w hw=>hall w (by simp at hw ⊢;grind)) (fun w hw=>hall w (by simp at hw ⊢;grind)) (by simp only[tot_app];omega)
   simp only[eT,zMc,List.map_nil] at p3
   have p8:=ih x (ws++[[48]]) n zo hna.1 hex (fun w hw=>hall w (by simp at hw ⊢;grind)) (by simp only[tot_app];omega)
   simp only[eC,eT] at p8
   have p10:=put_spec (B0:=B0) (w0:=w0) (ws++[[48]]++exW c x) [[45]] n (fun w hw=>hall w (by simp at hw ⊢;grind)) (fun w hw=>hall w (by simp at hw ⊢;grind)) (by simp only[tot_app];omega)
   simp only[eT,zMc,List.map_nil] at p10
   refine oC rfl (fun _=>?_) (fun hc=>absurd h5 (zf hc))
   refine gau ?_
   refine LCode.midC (A:=Unit) (fun _=>[(6,ptr b6 0)]) (fun _=>[tR b6 ((ws++[[48]]++exW c x)++[[45]]) n]) (fun _=>True) ?_ (fun _ _ j2 hj2=>?_)
   ·refine LCode.draw (m:=12) rfl [cR b3 vars arrays fs sc ars own,tR b4 ws n,exR b5 op num name [x]] ?_
    refine aT 0 rfl rfl (Pure.ldHAgg (cs':=[_,_,_,_,_,_]) rfl zm0 rfl rfl) ?_
    refine aT 1 rfl rfl (Pure.ldHAgg (cs':=[_,_]) rfl zm1 rfl rfl) ?_
    refine aT 4 rfl rfl (pF rfl) ?_
    refine aT 5 rfl rfl (pL (c:=.list _) rfl zm2 rfl) ?_
    refine aT 6 rfl rfl (xR (el':=encE x) (cs:=[_,_,_,_]) rfl rfl zDd rfl rfl rfl) ?_
    refine aT 7 rfl rfl (Pure.ldRefAgg (cs':=[_,_,_,_]) rfl rfl rfl) ?_
    refine LAny.late ?_ ⟨_,List.Perm.refl _⟩
    refine LLate.two (i:=2) (j:=9) zk ?_ ?_
    ·refine lS (H1:=[]) rfl (.inl rfl) rfl zpr ⟨_,List.Perm.refl _⟩ (sL [_] rfl (elemsOk_strs [_]) rfl rfl rfl ?_)
     refine LLate.two (i:=3) (j:=9) zk ?_ ?_
     ·refine lS (H1:=[]) rfl (.inl rfl) rfl zpr ⟨_,List.Perm.refl _⟩ (sF [_,_] rfl p3 ?_)
      refine LLate.two (i:=8) (j:=9) zk ?_ ?_
      ·refine lS (H1:=[]) rfl (.inl rfl) rfl zpr ⟨_,List.Perm.refl _⟩ (sF [_,_,_] rfl p8 ?_)
       refine zl1 (i:=9) zk ?_
       refine lS (H1:=[]) rfl (.inl rfl) rfl zpr ⟨_,List.Perm.refl _⟩ (sL [_] rfl (elemsOk_strs [_]) rfl rfl rfl ?_)
       exact zT16
      ·refine lS (H1:=[]) rfl (.inl rfl) rfl zpr ⟨_,List.Perm.refl _⟩ (sL [_] rfl (elemsOk_strs [_]) rfl rfl rfl ?_)
       exact zT55
     ·refine lS (H1:=[]) rfl (.inl rfl) rfl zpr ⟨_,List.Perm.refl _⟩ (sL [_] rfl (elemsOk_strs [_]) rfl rfl rfl ?_)
      refine zl1 (i:=3) zk ?_
      refine lS (H1:=[]) rfl (.inl rfl) rfl zpr ⟨_,List.Perm.refl _⟩ (sF [_,_] rfl p3 ?_)
      exact zT55
    ·refine lS (H1:=[]) rfl (.inl rfl) rfl zpr ⟨_,List.Perm.refl _⟩ (sL [_] rfl (elemsOk_strs [_]) rfl rfl rfl ?_)
     refine zl1 (i:=2) zk ?_
     refine lS (H1:=[]) rfl (.inl rfl) rfl zpr ⟨_,List.Perm.refl _⟩ (sL [_] rfl (elemsOk_strs [_]) rfl rfl rfl ?_)
     refine zl1 (i:=3) zk ?_
     refine lS (H1:=[]) rfl (.inl rfl) rfl zpr ⟨_,List.Perm.refl _⟩ (sF [_,_] rfl p3 ?_)
     exact zT55
   refine gae ?_
   exact retRet (hj2.trans hj) (rC (rA rfl zm0 rfl zsr) rN) (by simp only[zAs];rfl)
  refine oC rfl (fun hc=>absurd (zt hc) h5) (fun _=>?_)
  refine gai ?_
  by_cases h6:op=[110,111,116]
  ·obtain ⟨x,rfl⟩:=hone (by subst h6;rfl)
   have hW1:exW c (Ex.mk op num name [x])=exW c x++[[49],[60]]:=by rw[hW];simp only[exWl_cons,exWl_nil];subst h6;simp[opW,nNum,nVar,nElem,nCall,nNeg,nNot]
   rw[hW1] at hT hneX ⊢
   simp only[errEs] at he1
   simp only[numEs] at hna
   simp only[ndEs] at hnd
   have hall:=List.forall_mem_append.2 ⟨hws,hneX⟩
   simp only[tot_app] at hT
   have hex:=(orE_zero.1 he1).1
   have p6:=ih x ws n zo hna.1 hex (fun w hw=>hall w (by simp at hw ⊢;grind)) (by simp only[tot_app];omega)
   simp only[eC,eT] at p6
   have p8:=put_spec (B0:=B0) (w0:=w0) (ws++exW c x) [[49],[60]] n (fun w hw=>hall w (by simp at hw ⊢;grind)) (fun w hw=>hall w (by simp at hw ⊢;grind)) (by simp only[tot_app];omega)
   simp only[eT,zMc,List.map_nil] at p8
   refine oC rfl (fun _=>?_) (fun hc=>absurd h6 (zf hc))
   refine gau ?_
   refine LCode.midC (A:=Unit) (fun _=>[(6,ptr b6 0)]) (fun _=>[tR b6 ((ws++exW c x)++[[49],[60]]) n]) (fun _=>True) ?_ (fun _ _ j2 hj2=>?_)
   ·refine LCode.draw (m:=10) rfl [cR b3 vars arrays fs sc ars own,tR b4 ws n,exR b5 op num name [x]] ?_
    refine aT 0 rfl rfl (Pure.ldHAgg (cs':=[_,_,_,_,_,_]) rfl zm0 rfl rfl) ?_
    refine aT 1 rfl rfl (Pure.ldHAgg (cs':=[_,_]) rfl zm1 rfl rfl) ?_
    refine aT 2 rfl rfl (pF rfl) ?_
    refine aT 3 rfl rfl (pL (c:=.list _) rfl zm2 rfl) ?_
    refine aT 4 rfl rfl (xR (el':=encE x) (cs:=[_,_,_,_]) rfl rfl zDd rfl rfl rfl) ?_
    refine aT 5 rfl rfl (Pure.ldRefAgg (cs':=[_,_,_,_]) rfl rfl rfl) ?_
    refine LAny.late ?_ ⟨_,List.Perm.refl _⟩
    refine LLate.two (i:=6) (j:=7) zk ?_ ?_
    ·refine lS (H1:=[]) rfl (.inl rfl) rfl zpr ⟨_,List.Perm.refl _⟩ (sF [_,_,_] rfl p6 ?_)
     refine zl1 (i:=7) zk ?_
     refine lS (H1:=[]) rfl (.inl rfl) rfl zpr ⟨_,List.Perm.refl _⟩ (sL [_,_] rfl (elemsOk_strs [_,_]) rfl rfl rfl ?_)
     exact zT35
    ·refine lS (H1:=[]) rfl (.inl rfl) rfl zpr ⟨_,List.Perm.refl _⟩ (sL [_,_] rfl (elemsOk_strs [_,_]) rfl rfl rfl ?_)
     refine zl1 (i:=6) zk ?_
     refine lS (H1:=[]) rfl (.inl rfl) rfl zpr ⟨_,List.Perm.refl _⟩ (sF [_,_,_] rfl p6 ?_)
     exact zT35
   refine gae ?_
   exact retRet (hj2.trans hj) (rC (rA rfl zm0 rfl zsr) rN) (by simp only[zAs];rfl)
  refine oC rfl (fun hc=>absurd (zt hc) h6) (fun _=>?_)
  refine gai ?_
  by_cases h7:op=[33,61]
  ·obtain ⟨x,y,rfl⟩:=htwo (by subst h7;rfl)
   have hW1:exW c (Ex.mk op num name [x,y])=[[48]]++(exW c x++(exW c y++[[94],[60]])):=by rw[hW];simp only[exWl_cons,exWl_nil];subst h7;simp[opW,nNum,nVar,nElem,nCall,nNeg,nNot]
   rw[hW1] at hT hneX ⊢
   simp only[errEs] at he1
   simp only[numEs] at hna
   simp only[ndEs] at hnd
   have hall:=List.forall_mem_append.2 ⟨hws,hneX⟩
   simp only[tot_app] at hT
   have hex:=(orE_zero.1 he1).1
   have hey:=(orE_zero.1 (orE_zero.1 he1).2).1
   have p4:=put_spec (B0:=B0) (w0:=w0) ws [[48]] n (fun w hw=>hall w (by simp at hw ⊢;grind)) (fun w hw=>hall w (by simp at hw ⊢;grind)) (by simp only[tot_app];omega)
   simp only[eT,zMc,List.map_nil] at p4
   have p9:=ih x (ws++[[48]]) n zo hna.1 hex (fun w hw=>hall w (by simp at hw ⊢;grind)) (by simp only[tot_app];omega)
   simp only[eC,eT] at p9
   have p14:=ih y (ws++[[48]]++exW c x) n zo hna.2.1 hey (fun w hw=>hall w (by simp at hw ⊢;grind)) (by simp only[tot_app];omega)
   simp only[eC,eT] at p14
   have p16:=put_spec (B0:=B0) (w0:=w0) (ws++[[48]]++exW c x++exW c y) [[94],[60]] n (fun w hw=>hall w (by simp at hw ⊢;grind)) (fun w hw=>hall w (by simp at hw ⊢;grind)) (by simp only[tot_app];omega)
   simp only[eT,zMc,List.map_nil] at p16
   refine oC rfl (fun _=>?_) (fun hc=>absurd h7 (zf hc))
   refine gau ?_
   refine LCode.midC (A:=Unit) (fun _=>[(6,ptr b6 0)]) (fun _=>[tR b6 ((ws++[[48]]++exW c x++exW c y)++[[94],[60]]) n]) (fun _=>True) ?_ (fun _ _ j2 hj2=>?_)
   ·refine LCode.draw (m:=18) rfl [cR b3 vars arrays fs sc ars own,tR b4 ws n,exR b5 op num name [x,y]] ?_
    refine aT 0 rfl rfl (Pure.ldHAgg (cs':=[_,_,_,_,_,_]) rfl zm0 rfl rfl) ?_
    refine aT 1 rfl rfl (Pure.ldHAgg (cs':=[_,_,_,_,_,_]) rfl zm0 rfl rfl) ?_
    refine aT 2 rfl rfl (Pure.ldHAgg (cs':=[_,_]) rfl zm1 rfl rfl) ?_
    refine aT 5 rfl rfl (pF rfl) ?_
    refine aT 6 rfl rfl (pL (c:=.list _) rfl zm2 rfl) ?_
    refine aT 7 rfl rfl (xR (el':=encE x) (cs:=[_,_,_,_]) rfl rfl zDd rfl rfl rfl) ?_
    refine aT 8 rfl rfl (Pure.ldRefAgg (cs':=[_,_,_,_]) rfl rfl rfl) ?_
    refine aT 10 rfl rfl (pF rfl) ?_
    refine aT 11 rfl rfl (pL (c:=.list _) rfl zm2 rfl) ?_
    refine aT 12 rfl rfl (xR (el':=encE y) (cs:=[_,_,_,_]) rfl rfl zDd rfl rfl rfl) ?_
    refine aT 13 rfl rfl (Pure.ldRefAgg (cs':=[_,_,_,_]) rfl rfl rfl) ?_
    refine LAny.late ?_ ⟨_,List.Perm.refl _⟩
    refine LLate.two (i:=3) (j:=15) zk ?_ ?_
    ·refine lS (H1:=[]) rfl (.inl rfl) rfl zpr ⟨_,List.Perm.refl _⟩ (sL [_] rfl (elemsOk_strs [_]) rfl rfl rfl ?_)
     refine LLate.two (i:=4) (j:=15) zk ?_ ?_
     ·refine lS (H1:=[]) rfl (.inl rfl) rfl zpr ⟨_,List.Perm.refl _⟩ (sF [_,_] rfl p4 ?_)
      refine LLate.two (i:=9) (j:=15) zk ?_ ?_
      ·refine lS (H1:=[]) rfl (.inl rfl) rfl zpr ⟨_,List.Perm.refl _⟩ (sF [_,_,_] rfl p9 ?_)
       refine LLate.two (i:=14) (j:=15) zk ?_ ?_
       ·refine lS (H1:=[]) rfl (.inl rfl) rfl zpr ⟨_,List.Perm.refl _⟩ (sF [_,_,_] rfl p14 ?_)
        refine zl1 (i:=15) zk ?_
        refine lS (H1:=[]) rfl (.inl rfl) rfl zpr ⟨_,List.Perm.refl _⟩ (sL [_,_] rfl (elemsOk_strs [_,_]) rfl rfl rfl ?_)
        exact zT14
       ·refine lS (H1:=[]) rfl (.inl rfl) rfl zpr ⟨_,List.Perm.refl _⟩ (sL [_,_] rfl (elemsOk_strs [_,_]) rfl rfl rfl ?_)
        refine zl1 (i:=14) zk ?_
        refine lS (H1:=[]) rfl (.inl rfl) rfl zpr ⟨_,List.Perm.refl _⟩ (sF [_,_,_] rfl p14 ?_)
        exact zT14
      ·refine lS (H1:=[]) rfl (.inl rfl) rfl zpr ⟨_,List.Perm.refl _⟩ (sL [_,_] rfl (elemsOk_strs [_,_]) rfl rfl rfl ?_)
       exact zT39
     ·refine lS (H1:=[]) rfl (.inl rfl) rfl zpr ⟨_,List.Perm.refl _⟩ (sL [_,_] rfl (elemsOk_strs [_,_]) rfl rfl rfl ?_)
      refine zl1 (i:=4) zk ?_
      refine lS (H1:=[]) rfl (.inl rfl) rfl zpr ⟨_,List.Perm.refl _⟩ (sF [_,_] rfl p4 ?_)
      exact zT39
    ·refine lS (H1:=[]) rfl (.inl rfl) rfl zpr ⟨_,List.Perm.refl _⟩ (sL [_,_] rfl (elemsOk_strs [_,_]) rfl rfl rfl ?_)
     refine zl1 (i:=3) zk ?_
     refine lS (H1:=[]) rfl (.inl rfl) rfl zpr ⟨_,List.Perm.refl _⟩ (sL [_] rfl (elemsOk_strs [_]) rfl rfl rfl ?_)
     refine zl1 (i:=4) zk ?_
     refine lS (H1:=[]) rfl (.inl rfl) rfl zpr ⟨_,List.Perm.refl _⟩ (sF [_,_] rfl p4 ?_)
     exact zT39
   refine gae ?_
   exact retRet (hj2.trans hj) (rC (rA rfl zm0 rfl zsr) rN) (by simp only[zAs];rfl)
  refine oC rfl (fun hc=>absurd (zt hc) h7) (fun _=>?_)
  refine gai ?_
  by_cases h8:op=[38,38]
  ·obtain ⟨x,y,rfl⟩:=htwo (by subst h8;rfl)
   have hW1:exW c (Ex.mk op num name [x,y])=[[48]]++(exW c x++([[60],[48]]++(exW c y++[[60],[42]]))):=by rw[hW];simp only[exWl_cons,exWl_nil];subst h8;simp[opW,nNum,nVar,nElem,nCall,nNeg,nNot]
   rw[hW1] at hT hneX ⊢
   simp only[errEs] at he1
   simp only[numEs] at hna
   simp only[ndEs] at hnd
   have hall:=List.forall_mem_append.2 ⟨hws,hneX⟩
   simp only[tot_app] at hT
   have hex:=(orE_zero.1 he1).1
   have hey:=(orE_zero.1 (orE_zero.1 he1).2).1
   have p4:=put_spec (B0:=B0) (w0:=w0) ws [[48]] n (fun w hw=>hall w (by simp at hw ⊢;grind)) (fun w hw=>hall w (by simp at hw ⊢;grind)) (by simp only[tot_app];omega)
   simp only[eT,zMc,List.map_nil] at p4
   have p9:=ih x (ws++[[48]]) n zo hna.1 hex (fun w hw=>hall w (by simp at hw ⊢;grind)) (by simp only[tot_app];omega)
   simp only[eC,eT] at p9
   have p11:=put_spec (B0:=B0) (w0:=w0) (ws++[[48]]++exW c x) [[60],[48]] n (fun w hw=>hall w (by simp at hw ⊢;grind)) (fun w hw=>hall w (by simp at hw ⊢;grind)) (by simp only[tot_app];omega)
   simp only[eT,zMc,List.map_nil] at p11
   have p16:=ih y (ws++[[48]]++exW c x++[[60],[48]]) n zo hna.2.1 hey (fun w hw=>hall w (by simp at hw ⊢;grind)) (by simp only[tot_app];omega)
   simp only[eC,eT] at p16
   have p18:=put_spec (B0:=B0) (w0:=w0) (ws++[[48]]++exW c x++[[60],[48]]++exW c y) [[60],[42]] n (fun w hw=>hall w (by simp at hw ⊢;grind)) (fun w hw=>hall w (by simp at hw ⊢;grind)) (by simp only[tot_app];omega)
   simp only[eT,zMc,List.map_nil] at p18
   refine oC rfl (fun _=>?_) (fun hc=>absurd h8 (zf hc))
   refine gau ?_
   refine LCode.midC (A:=Unit) (fun _=>[(6,ptr b6 0)]) (fun _=>[tR b6 ((ws++[[48]]++exW c x++[[60],[48]]++exW c y)++[[60],[42]]) n]) (fun _=>True) ?_ (fun _ _ j2 hj2=>?_)
   ·refine LCode.draw (m:=20) rfl [cR b3 vars arrays fs sc ars own,tR b4 ws n,exR b5 op num name [x,y]] ?_
    refine aT 0 rfl rfl (Pure.ldHAgg (cs':=[_,_,_,_,_,_]) rfl zm0 rfl rfl) ?_
    refine aT 1 rfl rfl (Pure.ldHAgg (cs':=[_,_,_,_,_,_]) rfl zm0 rfl rfl) ?_
    refine aT 2 rfl rfl (Pure.ldHAgg (cs':=[_,_]) rfl zm1 rfl rfl) ?_
    refine aT 5 rfl rfl (pF rfl) ?_
    refine aT 6 rfl rfl (pL (c:=.list _) rfl zm2 rfl) ?_
    refine aT 7 rfl rfl (xR (el':=encE x) (cs:=[_,_,_,_]) rfl rfl zDd rfl rfl rfl) ?_
    refine aT 8 rfl rfl (Pure.ldRefAgg (cs':=[_,_,_,_]) rfl rfl rfl) ?_
    refine aT 12 rfl rfl (pF rfl) ?_
    refine aT 13 rfl rfl (pL (c:=.list _) rfl zm2 rfl) ?_
    refine aT 14 rfl rfl (xR (el':=encE y) (cs:=[_,_,_,_]) rfl rfl zDd rfl rfl rfl) ?_
    refine aT 15 rfl rfl (Pure.ldRefAgg (cs':=[_,_,_,_]) rfl rfl rfl) ?_
    refine LAny.late ?_ ⟨_,List.Perm.refl _⟩
    refine LLate.three (i:=3) (j:=10) (k:=17) zk ?_ ?_ ?_
    ·refine lS (H1:=[]) rfl (.inl rfl) rfl zpr ⟨_,List.Perm.refl _⟩ (sL [_] rfl (elemsOk_strs [_]) rfl rfl rfl ?_)
     refine LLate.three (i:=4) (j:=10) (k:=17) zk ?_ ?_ ?_
     ·refine lS (H1:=[]) rfl (.inl rfl) rfl zpr ⟨_,List.Perm.refl _⟩ (sF [_,_] rfl p4 ?_)
      refine LLate.three (i:=9) (j:=10) (k:=17) zk ?_ ?_ ?_
      ·refine lS (H1:=[]) rfl (.inl rfl) rfl zpr ⟨_,List.Perm.refl _⟩ (sF [_,_,_] rfl p9 ?_)
       refine LLate.two (i:=10) (j:=17) zk ?_ ?_
       ·refine lS (H1:=[]) rfl (.inl rfl) rfl zpr ⟨_,List.Perm.refl _⟩ (sL [_,_] rfl (elemsOk_strs [_,_]) rfl rfl rfl ?_)
        exact zT7
       ·refine lS (H1:=[]) rfl (.inl rfl) rfl zpr ⟨_,List.Perm.refl _⟩ (sL [_,_] rfl (elemsOk_strs [_,_]) rfl rfl rfl ?_)
        exact zT27
      ·refine lS (H1:=[]) rfl (.inl rfl) rfl zpr ⟨_,List.Perm.refl _⟩ (sL [_,_] rfl (elemsOk_strs [_,_]) rfl rfl rfl ?_)
       refine LLate.two (i:=9) (j:=17) zk ?_ ?_
       ·refine lS (H1:=[]) rfl (.inl rfl) rfl zpr ⟨_,List.Perm.refl _⟩ (sF [_,_,_] rfl p9 ?_)
        exact zT7
       ·refine lS (H1:=[]) rfl (.inl rfl) rfl zpr ⟨_,List.Perm.refl _⟩ (sL [_,_] rfl (elemsOk_strs [_,_]) rfl rfl rfl ?_)
        exact zT3
      ·refine lS (H1:=[]) rfl (.inl rfl) rfl zpr ⟨_,List.Perm.refl _⟩ (sL [_,_] rfl (elemsOk_strs [_,_]) rfl rfl rfl ?_)
       exact zT47
     ·refine lS (H1:=[]) rfl (.inl rfl) rfl zpr ⟨_,List.Perm.refl _⟩ (sL [_,_] rfl (elemsOk_strs [_,_]) rfl rfl rfl ?_)
      exact zT31
     ·refine lS (H1:=[]) rfl (.inl rfl) rfl zpr ⟨_,List.Perm.refl _⟩ (sL [_,_] rfl (elemsOk_strs [_,_]) rfl rfl rfl ?_)
      exact zT9
    ·refine lS (H1:=[]) rfl (.inl rfl) rfl zpr ⟨_,List.Perm.refl _⟩ (sL [_,_] rfl (elemsOk_strs [_,_]) rfl rfl rfl ?_)
     refine LLate.two (i:=3) (j:=17) zk ?_ ?_
     ·refine lS (H1:=[]) rfl (.inl rfl) rfl zpr ⟨_,List.Perm.refl _⟩ (sL [_] rfl (elemsOk_strs [_]) rfl rfl rfl ?_)
      exact zT31
     ·exact zT48
    ·refine lS (H1:=[]) rfl (.inl rfl) rfl zpr ⟨_,List.Perm.refl _⟩ (sL [_,_] rfl (elemsOk_strs [_,_]) rfl rfl rfl ?_)
     refine LLate.two (i:=3) (j:=10) zk ?_ ?_
     ·refine lS (H1:=[]) rfl (.inl rfl) rfl zpr ⟨_,List.Perm.refl _⟩ (sL [_] rfl (elemsOk_strs [_]) rfl rfl rfl ?_)
      exact zT9
     ·exact zT48
   refine gae ?_
   exact retRet (hj2.trans hj) (rC (rA rfl zm0 rfl zsr) rN) (by simp only[zAs];rfl)
  refine oC rfl (fun hc=>absurd (zt hc) h8) (fun _=>?_)
  refine gai ?_
  by_cases h9:op=[124,124]
  ·obtain ⟨x,y,rfl⟩:=htwo (by subst h9;rfl)
   have hW1:exW c (Ex.mk op num name [x,y])=[[48],[48]]++(exW c x++([[60],[48]]++(exW c y++[[60],[43],[60]]))):=by rw[hW];simp only[exWl_cons,exWl_nil];subst h9;simp[opW,nNum,nVar,nElem,nCall,nNeg,nNot]
   rw[hW1] at hT hneX ⊢
   simp only[errEs] at he1
   simp only[numEs] at hna
   simp only[ndEs] at hnd
   have hall:=List.forall_mem_append.2 ⟨hws,hneX⟩
   simp only[tot_app] at hT
   have hex:=(orE_zero.1 he1).1
   have hey:=(orE_zero.1 (orE_zero.1 he1).2).1
   have p4:=put_spec (B0:=B0) (w0:=w0) ws [[48],[48]] n (fun w hw=>hall w (by simp at hw ⊢;grind)) (fun w hw=>hall w (by simp at hw ⊢;grind)) (by simp only[tot_app];omega)
   simp only[eT,zMc,List.map_nil] at p4
   have p9:=ih x (ws++[[48],[48]]) n zo hna.1 hex (fun w hw=>hall w (by simp at hw ⊢;grind)) (by simp only[tot_app];omega)
   simp only[eC,eT] at p9
   have p11:=put_spec (B0:=B0) (w0:=w0) (ws++[[48],[48]]++exW c x) [[60],[48]] n (fun w hw=>hall w (by simp at hw ⊢;grind)) (fun w hw=>hall w (by simp at hw ⊢;grind)) (by simp only[tot_app];omega)
   simp only[eT,zMc,List.map_nil] at p11
   have p16:=ih y (ws++[[48],[48]]++exW c x++[[60],[48]]) n zo hna.2.1 hey (fun w hw=>hall w (by simp at hw ⊢;grind)) (by simp only[tot_app];omega)
   simp only[eC,eT] at p16
   have p18:=put_spec (B0:=B0) (w0:=w0) (ws++[[48],[48]]++exW c x++[[60],[48]]++exW c y) [[60],[43],[60]] n (fun w hw=>hall w (by simp at hw ⊢;grind)) (fun w hw=>hall w (by simp at hw ⊢;grind)) (by simp only[tot_app];omega)
   simp only[eT,zMc,List.map_nil] at p18
   refine oC rfl (fun _=>?_) (fun hc=>absurd h9 (zf hc))
   refine gau ?_
   refine LCode.midC (A:=Unit) (fun _=>[(6,ptr b6 0)]) (fun _=>[tR b6 ((ws++[[48],[48]]++exW c x++[[60],[48]]++exW c y)++[[60],[43],[60]]) n]) (fun _=>True) ?_ (fun _ _ j2 hj2=>?_)
   ·refine LCode.draw (m:=20) rfl [cR b3 vars arrays fs sc ars own,tR b4 ws n,exR b5 op num name [x,y]] ?_
    refine aT 0 rfl rfl (Pure.ldHAgg (cs':=[_,_,_,_,_,_]) rfl zm0 rfl rfl) ?_
    refine aT 1 rfl rfl (Pure.ldHAgg (cs':=[_,_,_,_,_,_]) rfl zm0 rfl rfl) ?_
    refine aT 2 rfl rfl (Pure.ldHAgg (cs':=[_,_]) rfl zm1 rfl rfl) ?_
    refine aT 5 rfl rfl (pF rfl) ?_
    refine aT 6 rfl rfl (pL (c:=.list _) rfl zm2 rfl) ?_
    refine aT 7 rfl rfl (xR (el':=encE x) (cs:=[_,_,_,_]) rfl rfl zDd rfl rfl rfl) ?_
    refine aT 8 rfl rfl (Pure.ldRefAgg (cs':=[_,_,_,_]) rfl rfl rfl) ?_
    refine aT 12 rfl rfl (pF rfl) ?_
    refine aT 13 rfl rfl (pL (c:=.list _) rfl zm2 rfl) ?_
    refine aT 14 rfl rfl (xR (el':=encE y) (cs:=[_,_,_,_]) rfl rfl zDd rfl rfl rfl) ?_
    refine aT 15 rfl rfl (Pure.ldRefAgg (cs':=[_,_,_,_]) rfl rfl rfl) ?_
    refine LAny.late ?_ ⟨_,List.Perm.refl _⟩
    refine LLate.three (i:=3) (j:=10) (k:=17) zk ?_ ?_ ?_
    ·refine lS (H1:=[]) rfl (.inl rfl) rfl zpr ⟨_,List.Perm.refl _⟩ (sL [_,_] rfl (elemsOk_strs [_,_]) rfl rfl rfl ?_)
     refine LLate.three (i:=4) (j:=10) (k:=17) zk ?_ ?_ ?_
     ·refine lS (H1:=[]) rfl (.inl rfl) rfl zpr ⟨_,List.Perm.refl _⟩ (sF [_,_] rfl p4 ?_)
      refine LLate.three (i:=9) (j:=10) (k:=17) zk ?_ ?_ ?_
      ·refine lS (H1:=[]) rfl (.inl rfl) rfl zpr ⟨_,List.Perm.refl _⟩ (sF [_,_,_] rfl p9 ?_)
       refine LLate.two (i:=10) (j:=17) zk ?_ ?_
       ·refine lS (H1:=[]) rfl (.inl rfl) rfl zpr ⟨_,List.Perm.refl _⟩ (sL [_,_] rfl (elemsOk_strs [_,_]) rfl rfl rfl ?_)
        exact zT6
       ·refine lS (H1:=[]) rfl (.inl rfl) rfl zpr ⟨_,List.Perm.refl _⟩ (sL [_,_,_] rfl (elemsOk_strs [_,_,_]) rfl rfl rfl ?_)
        exact zT27
      ·refine lS (H1:=[]) rfl (.inl rfl) rfl zpr ⟨_,List.Perm.refl _⟩ (sL [_,_] rfl (elemsOk_strs [_,_]) rfl rfl rfl ?_)
       refine LLate.two (i:=9) (j:=17) zk ?_ ?_
       ·refine lS (H1:=[]) rfl (.inl rfl) rfl zpr ⟨_,List.Perm.refl _⟩ (sF [_,_,_] rfl p9 ?_)
        exact zT6
       ·refine lS (H1:=[]) rfl (.inl rfl) rfl zpr ⟨_,List.Perm.refl _⟩ (sL [_,_,_] rfl (elemsOk_strs [_,_,_]) rfl rfl rfl ?_)
        exact zT3
      ·refine lS (H1:=[]) rfl (.inl rfl) rfl zpr ⟨_,List.Perm.refl _⟩ (sL [_,_,_] rfl (elemsOk_strs [_,_,_]) rfl rfl rfl ?_)
       exact zT47
     ·exact zT30
     ·refine lS (H1:=[]) rfl (.inl rfl) rfl zpr ⟨_,List.Perm.refl _⟩ (sL [_,_,_] rfl (elemsOk_strs [_,_,_]) rfl rfl rfl ?_)
      exact zT9
    ·refine lS (H1:=[]) rfl (.inl rfl) rfl zpr ⟨_,List.Perm.refl _⟩ (sL [_,_] rfl (elemsOk_strs [_,_]) rfl rfl rfl ?_)
     refine LLate.two (i:=3) (j:=17) zk ?_ ?_
     ·exact zT30
     ·refine lS (H1:=[]) rfl (.inl rfl) rfl zpr ⟨_,List.Perm.refl _⟩ (sL [_,_,_] rfl (elemsOk_strs [_,_,_]) rfl rfl rfl ?_)
      refine zl1 (i:=3) zk ?_
      refine lS (H1:=[]) rfl (.inl rfl) rfl zpr ⟨_,List.Perm.refl _⟩ (sL [_,_] rfl (elemsOk_strs [_,_]) rfl rfl rfl ?_)
      exact zT26
    ·refine lS (H1:=[]) rfl (.inl rfl) rfl zpr ⟨_,List.Perm.refl _⟩ (sL [_,_,_] rfl (elemsOk_strs [_,_,_]) rfl rfl rfl ?_)
     refine LLate.two (i:=3) (j:=10) zk ?_ ?_
     ·refine lS (H1:=[]) rfl (.inl rfl) rfl zpr ⟨_,List.Perm.refl _⟩ (sL [_,_] rfl (elemsOk_strs [_,_]) rfl rfl rfl ?_)
      exact zT9
     ·refine lS (H1:=[]) rfl (.inl rfl) rfl zpr ⟨_,List.Perm.refl _⟩ (sL [_,_] rfl (elemsOk_strs [_,_]) rfl rfl rfl ?_)
      refine zl1 (i:=3) zk ?_
      refine lS (H1:=[]) rfl (.inl rfl) rfl zpr ⟨_,List.Perm.refl _⟩ (sL [_,_] rfl (elemsOk_strs [_,_]) rfl rfl rfl ?_)
      exact zT26
   refine gae ?_
   exact retRet (hj2.trans hj) (rC (rA rfl zm0 rfl zsr) rN) (by simp only[zAs];rfl)
  refine oC rfl (fun hc=>absurd (zt hc) h9) (fun _=>?_)
  refine gaa ?_
  have hop2:¬ op=nCall→opnds op=2:=fun h4=>by
   unfold opnds at hop ⊢
   rw[if_neg (fun h=>h.elim h1 h2),if_neg (fun h=>h.elim h3 (fun h=>h.elim h5 h6)),if_neg h4] at hop ⊢
   split
   ·rfl
   ·rename_i hb
    rw[if_neg hb] at hop
    omega
  obtain ⟨suf,hsuf,hsu⟩:∃ suf:List Wd,exW c (Ex.mk op num name args)=(exWl c args).flatten++suf∧suf=(if op=nCall then (if name=[105,110] then [[44]] else if name=[111,117,116] then [[46],[48]] else [[38,102,95]++name,[58]]) else binW c op):=by
   refine ⟨_,?_,rfl⟩
   by_cases hcl:op=nCall
   ·rw[if_pos hcl,hW]
    subst hcl
    rfl
   ·rw[if_neg hcl]
    obtain ⟨x,y,rfl⟩:=htwo (hop2 hcl)
    rw[exW_two c num name x y h1 h2 h3 hcl h5 h6]
    unfold twoW
    rw[if_neg h7,if_neg h8,if_neg h9]
    simp[exWl_cons,exWl_nil]
  rw[hsuf] at hT hneX ⊢
  have hWn:∀ w∈ws++(exWl c args).flatten,w≠[]:=List.forall_mem_append.2 ⟨hws,fun w hw=>hneX w (List.mem_append_left _ hw)⟩
  have hsn:∀ w∈suf,w≠[]:=fun w hw=>hneX w (List.mem_append_right _ hw)
  have hTW:tot ((ws++(exWl c args).flatten)++suf)≤1000000000000:=by rw[zAs];exact hT
  have hall:(args.map encE).length=args.length:=zLm _
  refine oL (fun kk ls H'=>∃ i:Nat,i≤args.length∧kk=args.length-i∧ls=[(3,ptr b3 0),(4,ptr b4 0),(5,ptr b5 0),(6,ptr b6 0),(7,str c.t1),(8,str c.t2),(9,int .i64 (i:Nat))]∧H'=[cR b3 vars arrays fs sc ars own,tR b4 (ws++(exWl c (args.take i)).flatten) n,exR b5 op num name args,zR b6])
   ⟨_,_,_,⟨0,Nat.zero_le _,rfl,rfl,by rw[List.take_zero,exWl_nil,List.flatten_nil,zLz]⟩,⟨rfl,rfl,rfl,rfl,rfl,rfl,rfl,trivial⟩,zhR _⟩ ?_
  rintro kk ls H' ⟨i,hi,rfl,rfl,rfl⟩ j2 hj2
  refine gab ?_
  refine oC rfl (fun hd=>?_) (fun hd=>?_)
  ·have hlt:i<args.length:=by have:=zt hd;omega
   have hmi:=map_get encE args i hlt
   have hsn2:(exWl c (args.take (i+1))).flatten=(exWl c (args.take i)).flatten++exW c args[i]:=by
    rw[List.take_succ_eq_append_getElem hlt,exWl_map,exWl_map,zMa,List.flatten_append]
    simp
   have hpr:∀ w,w∈(exWl c (args.take i)).flatten→w∈(exWl c args).flatten:=fun w hw=>by
    rw[exWl_map,List.mem_flatten] at hw ⊢
    obtain ⟨l,hl,hw⟩:=hw
    obtain ⟨e,he,rfl⟩:=List.mem_map.1 hl
    exact ⟨_,List.mem_map.2 ⟨e,List.mem_of_mem_take he,rfl⟩,hw⟩
   have htt:tot (exWl c (args.take (i+1))).flatten≤tot (exWl c args).flatten:=by
    have e1:(exWl c args).flatten=(exWl c (args.take (i+1))).flatten++(exWl c (args.drop (i+1))).flatten:=by
     rw[exWl_map,exWl_map,exWl_map,←List.flatten_append,←zMa,List.take_append_drop]
    rw[e1,tot_app]
    omega
   have hex:=ih args[i] (ws++(exWl c (args.take i)).flatten) n (by have:=ndE_mem (List.getElem_mem hlt);omega) (numEs_mem hna (List.getElem_mem hlt)) (errEs_mem he1 _ (List.getElem_mem hlt)) (fun w hw=>hWn w (by
    rcases List.mem_append.1 hw with h|h
    ·exact List.mem_append_left _ h
    ·exact List.mem_append_right _ (hpr w h))) (by
    rw[zAs,←hsn2]
    simp only[tot_app] at hTW ⊢
    omega)
   simp only[eC,eT] at hex
   rw[zAs,←hsn2] at hex
   generalize args[i]=x at hmi hex
   refine gad ?_
   refine LCode.tail 7 zk ?_
   refine gac ?_
   refine LS.pure (xR (el':=encE x) (cs:=[_,_,_,_]) rfl rfl zo hmi rfl rfl) rfl ?_
   refine gac ?_
   refine oS (sF [_,_,_] rfl hex ?_) rfl
   refine oS (sS (cs':=[_,_]) rfl zp1 rfl rfl rfl rfl rfl ?_) rfl
   refine gat ?_
   exact ⟨_,_,_,by omega,⟨i+1,by omega,rfl,rfl,rfl⟩,⟨rfl,rfl,rfl,rfl,rfl,rfl,int_eq zo,trivial⟩,⟨[],by rw[zLz];exact List.Perm.swap _ _ _⟩,hj2⟩
  have hi':i=args.length:=by have:=zf hd;omega
  subst hi'
  rw[List.take_length]
  obtain ⟨W,hWd⟩:∃ W,ws++(exWl c args).flatten=W:=⟨_,rfl⟩
  rw[hWd] at hWn hTW ⊢
  refine gab ?_
  by_cases k1:op=[99,97,108,108]
  ·rw[if_pos (show op=nCall from k1)] at hsu
   refine oC rfl (fun _=>?_) (fun hc=>absurd k1 (zf hc))
   refine gab ?_
   by_cases g1:name=[105,110]
   ·rw[if_pos g1] at hsu
    subst hsu
    refine oC rfl (fun _=>?_) (fun hc=>absurd g1 (zf hc))
    refine gab ?_
    have pt:=put_spec (B0:=B0) (w0:=w0) W [[44]] n hWn hsn hTW
    simp only[eT] at pt
    refine oS (sL [_] rfl (elemsOk_strs [_]) rfl rfl rfl ?_) rfl
    refine oS (sF [_,_] rfl pt ?_) rfl
    refine oS (sS (cs':=[_,_]) rfl zp3 rfl rfl rfl rfl rfl ?_) rfl
    refine gae ?_
    exact retRet (hj2.trans hj) (rC (rA rfl zm0 rfl zsr) rN) (by rw[←zAs,hWd];rfl)
   rw[if_neg g1] at hsu
   refine oC rfl (fun hc=>absurd (zt hc) g1) (fun _=>?_)
   refine gab ?_
   by_cases g2:name=[111,117,116]
   ·rw[if_pos g2] at hsu
    subst hsu
    refine oC rfl (fun _=>?_) (fun hc=>absurd g2 (zf hc))
    refine gab ?_
    have pt:=put_spec (B0:=B0) (w0:=w0) W [[46],[48]] n hWn hsn hTW
    simp only[eT] at pt
    refine oS (sL [_,_] rfl (elemsOk_strs [_,_]) rfl rfl rfl ?_) rfl
    refine oS (sF [_,_] rfl pt ?_) rfl
    refine oS (sS (cs':=[_,_]) rfl zp3 rfl rfl rfl rfl rfl ?_) rfl
    refine gae ?_
    exact retRet (hj2.trans hj) (rC (rA rfl zm0 rfl zsr) rN) (by rw[←zAs,hWd];rfl)
   rw[if_neg g2] at hsu
   subst hsu
   refine oC rfl (fun hc=>absurd (zt hc) g2) (fun _=>?_)
   have hnl:name.length≤24:=hE.call (show callE env name args.length=0 by rw[←he2];subst k1;rfl)
   refine gab ?_
   have pt:=put_spec (B0:=B0) (w0:=w0) W [[38,102,95]++name,[58]] n hWn hsn hTW
   simp only[eT] at pt
   refine oS (sL [_,_] rfl (elemsOk_strs [_,_]) rfl rfl rfl ?_) rfl
   refine oS (sF [_,_] rfl pt ?_) rfl
   refine oS (sS (cs':=[_,_]) rfl zp3 rfl rfl rfl rfl rfl ?_) rfl
   refine gae ?_
   exact retRet (hj2.trans hj) (rC (rA rfl zm0 rfl zsr) rN) (by rw[←zAs,hWd];rfl)
  rw[if_neg (show ¬ op=nCall from k1)] at hsu
  unfold binW at hsu
  refine oC rfl (fun hc=>absurd (zt hc) k1) (fun _=>?_)
  refine gai ?_
  by_cases k2:op=[62]
  ·rw[if_pos k2] at hsu
   subst hsu
   refine oC rfl (fun _=>?_) (fun hc=>absurd k2 (zf hc))
   refine gab ?_
   have pt:=put_spec (B0:=B0) (w0:=w0) W [c.t2,[33],c.t1,[33],c.t2,[64],c.t1,[64],[60]] n hWn hsn hTW
   simp only[eT] at pt
   refine oS (sL [_,_,_,_,_,_,_,_,_] rfl (elemsOk_strs [_,_,_,_,_,_,_,_,_]) rfl rfl rfl ?_) rfl
   refine oS (sF [_,_] rfl pt ?_) rfl
   refine oS (sS (cs':=[_,_]) rfl zp3 rfl rfl rfl rfl rfl ?_) rfl
   refine gae ?_
   exact retRet (hj2.trans hj) (rC (rA rfl zm0 rfl zsr) rN) (by rw[←zAs,hWd];rfl)
  rw[if_neg k2] at hsu
  refine oC rfl (fun hc=>absurd (zt hc) k2) (fun _=>?_)
  refine gai ?_
  by_cases k3:op=[60,61]
  ·rw[if_pos k3] at hsu
   subst hsu
   refine oC rfl (fun _=>?_) (fun hc=>absurd k3 (zf hc))
   refine gab ?_
   have pt:=put_spec (B0:=B0) (w0:=w0) W [c.t2,[33],c.t1,[33],c.t2,[64],c.t1,[64],[60],[49],[94]] n hWn hsn hTW
   simp only[eT] at pt
   refine oS (sL [_,_,_,_,_,_,_,_,_,_,_] rfl (elemsOk_strs [_,_,_,_,_,_,_,_,_,_,_]) rfl rfl rfl ?_) rfl
   refine oS (sF [_,_] rfl pt ?_) rfl
   refine oS (sS (cs':=[_,_]) rfl zp3 rfl rfl rfl rfl rfl ?_) rfl
   refine gae ?_
   exact retRet (hj2.trans hj) (rC (rA rfl zm0 rfl zsr) rN) (by rw[←zAs,hWd];rfl)
  rw[if_neg k3] at hsu
  refine oC rfl (fun hc=>absurd (zt hc) k3) (fun _=>?_)
  refine gai ?_
  by_cases k4:op=[62,61]
  ·rw[if_pos k4] at hsu
   subst hsu
   refine oC rfl (fun _=>?_) (fun hc=>absurd k4 (zf hc))
   refine gab ?_
   have pt:=put_spec (B0:=B0) (w0:=w0) W [[60],[49],[94]] n hWn hsn hTW
   simp only[eT] at pt
   refine oS (sL [_,_,_] rfl (elemsOk_strs [_,_,_]) rfl rfl rfl ?_) rfl
   refine oS (sF [_,_] rfl pt ?_) rfl
   refine oS (sS (cs':=[_,_]) rfl zp3 rfl rfl rfl rfl rfl ?_) rfl
   refine gae ?_
   exact retRet (hj2.trans hj) (rC (rA rfl zm0 rfl zsr) rN) (by rw[←zAs,hWd];rfl)
  rw[if_neg k4] at hsu
  refine oC rfl (fun hc=>absurd (zt hc) k4) (fun _=>?_)
  refine gai ?_
  by_cases k5:op=[61,61]
  ·rw[if_pos k5] at hsu
   subst hsu
   refine oC rfl (fun _=>?_) (fun hc=>absurd k5 (zf hc))
   refine gab ?_
   have pt:=put_spec (B0:=B0) (w0:=w0) W [[94],[49],[60]] n hWn hsn hTW
   simp only[eT] at pt
   refine oS (sL [_,_,_] rfl (elemsOk_strs [_,_,_]) rfl rfl rfl ?_) rfl
   refine oS (sF [_,_] rfl pt ?_) rfl
   refine oS (sS (cs':=[_,_]) rfl zp3 rfl rfl rfl rfl rfl ?_) rfl
   refine gae ?_
   exact retRet (hj2.trans hj) (rC (rA rfl zm0 rfl zsr) rN) (by rw[←zAs,hWd];rfl)
  rw[if_neg k5] at hsu
  subst hsu
  refine oC rfl (fun hc=>absurd (zt hc) k5) (fun _=>?_)
  refine gab ?_
  have pt:=put_spec (B0:=B0) (w0:=w0) W [op] n hWn hsn hTW
  simp only[eT] at pt
  refine oS (sL [_] rfl (elemsOk_strs [_]) rfl rfl rfl ?_) rfl
  refine oS (sF [_,_] rfl pt ?_) rfl
  refine oS (sS (cs':=[_,_]) rfl zp3 rfl rfl rfl rfl rfl ?_) rfl
  refine gae ?_
  exact retRet (hj2.trans hj) (rC (rA rfl zm0 rfl zsr) rN) (by rw[←zAs,hWd];rfl)
end
end Go.Proofs.YtpbbgkoalnonoaaGreatDoor.R23
namespace Go.Proofs.YtpbbgkoalnonoaaGreatDoor.R23
open Go.GL Go.RowKit Go.Stele
open Go.Lib (decDigits itoa join)
open Cmp (symLV orgLV stW_lab stWs_lab)
def StmO (B0:Nat) (w0:World) (vars:List Nm) (arrays:List (Nm×Int)) (fs:List FnD) (sc:Nat) (ars:List (Nm×Int)) (own:Nm) (c:CC) (s:Sm):Prop:=∀ (ws:List Wd) (n:Nat),(∀ w∈ws,w≠[])→tot (ws++(stW c n s).1)≤1000000000000→n+2 * ndS s≤4000000000 →
 LCalls (KC B0 w0) 122 [cLV vars arrays fs sc ars own,tLV ws n,encS s] [] (Ret (tLV (ws++(stW c n s).1) (stW c n s).2))
attribute [local irreducible] LOps LCode LStep LCalls Go.GL.Pure QThen QBlock RetPost LQ LAny LLate LLateOp LS
section
variable {B0:Nat} {w0:World}
theorem body23_spec {vars:List Nm} {arrays:List (Nm×Int)} {fs:List FnD} {sc:Nat} {ars:List (Nm×Int)} {own:Nm} {c:CC} (l:List Sm) (hS:∀ s∈l,StmO B0 w0 vars arrays fs sc ars own c s) (ws:List Wd) (n:Nat) (hl:l.length≤2000000) (hne:∀ w∈ws++(stWs c n l).1,w≠[]) (hT:tot (ws++(stWs c n l).1)≤1000000000000) (hn:n+2 * ndSs l≤4000000000) :
  LCalls (KC B0 w0) 64 [cLV vars arrays fs sc ars own,tLV ws n,.list (l.map encS)] [] (Ret (tLV (ws++(stWs c n l).1) (stWs c n l).2)):=by
 have eC:cLV vars arrays fs sc ars own=.agg [.list (vars.map str),.list (arrays.map Chk.encArG),.list (fs.map encFn),int .i64 (sc:Nat),.list (ars.map symLV),str own]:=rfl
 have eT:∀ ws n,tLV ws n=.agg [str (join ws [32]),int .i64 (n:Nat)]:=fun _ _=>rfl
 have hla:(l.map encS).length=l.length:=zLm _
 generalize hR:ws++(stWs c n l).1=R at hne hT ⊢
 generalize hM:(stWs c n l).2=M
 rw[eC,eT ws]
 refine cI Tryz.func64 rfl (n:=22) rfl rfl rfl ?_
 refine gaf ?_
 refine oS (S.box rfl fun b3=>?_) rfl
 refine oS (S.box rfl fun b4=>?_) rfl
 refine oS (sA fun b6=>?_) rfl
 refine gaa ?_
 refine oL (fun kk ls H'=>∃ (i:Nat) (us:List Wd) (m:Nat),i≤l.length∧kk=l.length-i∧ls=[(2,.list (l.map encS)),(3,ptr b3 0),(4,ptr b4 0),(6,ptr b6 0),(7,int .i64 (i:Nat))]∧H'=[tR b4 us m,cR b3 vars arrays fs sc ars own,zR b6]∧us++(stWs c m (l.drop i)).1=R∧(stWs c m (l.drop i)).2=M∧m+2 * ndSs (l.drop i)≤4000000000)
  ⟨_,_,_,⟨0,ws,n,Nat.zero_le _,rfl,rfl,rfl,hR,hM,hn⟩,⟨rfl,rfl,rfl,rfl,rfl,trivial⟩,⟨[],by rw[zLz];exact (List.Perm.trans (List.Perm.swap _ _ _) (List.Perm.trans (List.Perm.cons _ (List.Perm.swap _ _ _)) zpr))⟩⟩ ?_
 rintro kk ls H' ⟨i,us,m,hi,rfl,rfl,rfl,hU,hV,hW⟩ j hj
 refine gaa ?_
 refine oC rfl (fun hc=>?_) (fun hc=>?_)
 rotate_left
 ·have hi':i=l.length:=by have:=zf hc;omega
  subst hi'
  rw[List.drop_length] at hU hV
  rw[stWs,zLz] at hU
  rw[stWs] at hV
  subst hU
  have hV:m=M:=hV
  subst hV
  refine gab ?_
  exact retRet hj (rC (rA rfl zm0 rfl zsr) rN) rfl
 have hlt:i<l.length:=by have:=zt hc;omega
 have hmi:=map_get encS l i hlt
 have hs:=hS _ (List.getElem_mem hlt)
 rw[List.drop_eq_getElem_cons hlt] at hU hV hW
 generalize l[i]=s at hmi hs hU hV hW
 rw[stWs] at hU hV
 simp only at hU hV
 rw[ndSs] at hW
 have hlab:=stW_lab c s m
 have h1:=hs us m (fun w hw=>hne w (by rw[←hU];exact List.mem_append_left _ hw)) (by rw[←hU] at hT;simp only[tot_app] at hT ⊢;omega) zo
 simp only[eC,eT] at h1
 refine gad ?_
 refine LCode.tail 6 zk ?_
 refine gac ?_
 refine LS.pure (xR (el':=encS s) (cs:=[_,_,_,_,_,_]) rfl rfl zo hmi rfl rfl) rfl ?_
 refine gac ?_
 refine oS (sF [_,_,_] rfl h1 ?_) rfl
 refine oS (sS (cs':=[_,_]) rfl pH rfl rfl rfl rfl rfl ?_) rfl
 refine gat ?_
 exact ⟨_,_,_,by omega,⟨i+1,us++(stW c m s).1,(stW c m s).2,by omega,rfl,rfl,rfl,by rw[zAs];exact hU,hV,by omega⟩,⟨rfl,rfl,rfl,rfl,int_eq zo,trivial⟩,zhR _,hj⟩
end
end Go.Proofs.YtpbbgkoalnonoaaGreatDoor.R23
