/- Texts joined: InpW7, InpW8, ParP8, ParS1, ParS2, ParS3, ParS4, GlDefer. -/
import Derived.Recover
import Derived.Test.YtpbbgkoalnonoaaGreatDoorBRowM23
import Derived.Test.YtpbbgkoalnonoaaGreatDoorBRowM24
import Derived.Test.YtpbbgkoalnonoaaGreatDoorBRowM28
set_option linter.unusedVariables false
set_option linter.unusedSimpArgs false
set_option maxRecDepth 100000
set_option maxHeartbeats 4000000
namespace Go.Proofs.YtpbbgkoalnonoaaGreatDoor.Inp
open Go.GL Go.RowKit Go.Stele
section
variable {C:Ctx} {e:Env} {H:Heap} {dst:Option Nat} {ty:TypeId} {pos:String} {aft:Array Edge} {g:Option (Nat×Bool)} {x:Operand}
theorem Pure.ltail {t el s:Nat} [ht:TSlice C.P t el s] {lo:Operand} {k:IntKind} {a:LV} {es:List LV} (hx:elems (e.ev x)=some (a::es)) (hlo:e.ev lo=int k 1) (hs:∀ v∈a::es,v.cells.length=s):Pure C ⟨dst,.slice t x (some lo) none none,ty,pos,aft,g⟩ e H (.list es):=by
 have:=Pure.lslice (t:=t) (C:=C) (H:=H) (dst:=dst) (ty:=ty) (pos:=pos) (aft:=aft) (g:=g) (lo:=some lo) (hi:=none) (i:=1) (j:=(((a::es).length:Nat):Int)) hx ⟨k,hlo⟩ rfl zDd (by simp only[zLc];omega) (Int.le_refl _) hs
 have h2:((a::es).take (((a::es).length:Nat):Int).toNat).drop (1:Int).toNat=es:=by
  rw[Int.toNat_natCast,List.take_length]
  try rfl
 rwa [h2] at this
end
theorem wrap_u8 (n:Nat):IntKind.u8.wrap (n:Int)=((UInt8.ofNat n).toNat:Int):=by
 have h:IntKind.u8.wrap (n:Int)=(n:Int) % 256:=by
  simp only[IntKind.wrap,IntKind.bits,IntKind.signed,Bool.false_and]
  rfl
 rw[h]
 have h2:(UInt8.ofNat n).toNat=n % 256:=by simp
 rw[h2]
 omega
theorem acc_one {s:Nat} {v:LV} {es:List LV} {H F:Heap} (h:GL.Acc s v es H F):v.cells? = some [v]∧([v].all cellOk)=true:=by
 cases h <;> exact ⟨rfl,rfl⟩
theorem u32_cells (l:List Nat):∀ v∈l.map u32,v.cells.length=1:=fun v hv=>by
 obtain ⟨a,_,rfl⟩:=List.mem_map.1 hv
 rfl
theorem out_perm (c:Cfg) (s:IS) (v:LV) (Ha:Heap):(stH c s v Ha).Perm (Ha++(hdH c s v++(scH c.sb s++arH c.ab s))):=by
 rw[stH_eq]
 have:hdH c s v++(scH c.sb s++(arH c.ab s++Ha))=(hdH c s v++(scH c.sb s++arH c.ab s))++Ha:=by simp only[zAs]
 rw[this]
 exact zPc
theorem out_eq (c:Cfg) (s:IS) (v:LV) (Ha:Heap):(hdH c s v++(scH c.sb s++arH c.ab s))++Ha=stH c s v Ha:=by
 rw[stH_eq]
 simp only[zAs]
theorem own_placed {c:Cfg} (hC:CfgOk c) {f:FnD} (hf:f∈c.p.funcs) {p:List UInt8} (hp:p∈f.params):keyI f p∈scalarsP c.p.vars c.p.funcs:=by
 unfold keyI
 rw[if_pos (.inl hp)]
 exact (own_key hC.valid.names hf p).2 (List.mem_append.2 (.inl hp))
theorem CfgOk.fn {c:Cfg} (hC:CfgOk c) {f:FnD} (hf:f∈c.p.funcs):GL.kvGet (fnKV c.p.funcs) f.name=some (encFn f):=
 kv_hit (A:=FnD) (·.name) encFn (List.nodup_append.1 (fresh_zero _ _ hC.valid.names).1).2.1 hf
attribute [local irreducible] LOps LCode LStep LCalls Go.GL.Pure QThen QBlock RetPost LQ LAny LLate LLateOp LS
section
variable {B0:Nat} {w0:World}
theorem call_spec {c:Cfg} (hC:CfgOk c) {n:Nat} (hB:BlkH B0 w0 c n) {f0:FnD} {kn:List FSum} (hk0:Known c.p.funcs kn) {name:List UInt8} {vs:List Nat} {s:IS} {H:Heap} (hv:callE (cenv c kn f0) name vs.length=0) (hvs:∀ v∈vs,Lt v)
  (hbd:Bnd s) (hleft:s.left≤n) (hroom:s.out.length+s.left+1≤c.lim) (hs:St c s H):LCalls (KC B0 w0) 271 [ptr c.rb 0,str name,.list (vs.map u32)] H (PostI c u32 (callI c.p (stI c.p n) name vs s)):=by
 have hs0:=hs
 have hlim:=hC.lim
 generalize hI:callI c.p (stI c.p n) name vs s=R
 unfold callI at hI
 refine cI Tryz.func271 rfl (n:=85) rfl rfl rfl ?_
 refine gab ?_
 by_cases hin:name=[105,110]
 ·subst hin
  rw[if_pos rfl] at hI
  obtain ⟨hl,hle,v,Ha,hacc,rfl⟩:=hs
  refine oC rfl (fun hc=>?_) (fun hc=>by cases hc)
  refine gac ?_
  cases hinp:s.inp with
  |nil=>
   rw[hinp] at hI
   refine oC rfl (fun hc=>?_) (fun hc=>?_)
   ·refine gab ?_
    exact retI (v:=4294967295) rfl (zra rfl) hI.symm rfl zhr hs0
   ·cases hc
  |cons a r=>
   rw[hinp] at hI
   refine oC rfl (fun hc=>?_) (fun hc=>?_)
   ·have:=zt hc
    simp at this
    omega
   ·refine gac ?_
    refine oP (xR (el':=u32 a) (cs:=[u32 a]) rfl rfl zo (by rw[hinp];try rfl) rfl rfl) rfl ?_
    refine gac ?_
    refine oP (Pure.ltail (a:=u32 a) (es:=r.map u32) (by rw[show elems _=some (s.inp.map u32) from rfl,hinp];try rfl) rfl (u32_cells (a::r))) rfl ?_
    refine gac ?_
    exact retI (v:=a) rfl (zra rfl) hI.symm rfl zhr ⟨hl,hle,v,Ha,hacc,rfl⟩
 refine oC rfl (fun hc=>absurd (zt hc) hin) (fun _=>?_)
 rw[if_neg hin] at hI
 unfold callE at hv
 rw[if_neg hin] at hv
 refine gar ?_
 by_cases hout:name=[111,117,116]
 ·subst hout
  rw[if_pos rfl] at hI hv
  obtain ⟨a,rfl⟩:∃ a,vs=[a]:=by
   match vs,hv with
   |[],hv=>cases hv
   |[a],_=>exact ⟨a,rfl⟩
   |_::_::_,hv=>
    split at hv
    ·rename_i h
     simp at h
    ·cases hv
  obtain ⟨hl,hle,v,Ha,hacc,rfl⟩:=hs
  refine oC rfl (fun hc=>?_) (fun hc=>by cases hc)
  refine gaa ?_
  refine LCode.draw (m:=14) rfl [] ?_
  refine aT 0 rfl rfl (pM (lv:=.atom _) rfl) ?_
  refine aT 1 rfl rfl (pM (lv:=.atom _) rfl) ?_
  refine aT 2 rfl rfl (pN rfl) ?_
  refine aT 3 rfl rfl (pF rfl) ?_
  refine aT 5 rfl rfl (pM (lv:=.list _) rfl) ?_
  refine LAny.take (i:=6) zhn rfl zk zk zk rfl (xR (el':=u32 a) (cs:=[u32 a]) rfl rfl zo rfl rfl rfl) ?_
  refine aT 7 rfl rfl (Pure.loadRef (c:=.atom _) rfl rfl) ?_
  refine aT 8 rfl rfl (Pure.cvt rfl) ?_
  refine LAny.late ?_ zhn
  have e1:byts s.out++[int .u8 (IntKind.u8.wrap (a:Int))]=byts (s.out++[UInt8.ofNat a]):=by
   rw[byts_app,wrap_u8]
   try rfl
  have hroom2:((byts s.out).length+[int .u8 (IntKind.u8.wrap (a:Int))].length) * 1≤140737488355328:=by
   simp only[byts_len,zLc,zLn]
   omega
  refine LLate.two (i:=4) (j:=9) zk ?_ ?_
  ·refine lH rfl rfl (pL (c:=v) rfl zm0 rfl) ?_
   refine zl1 (i:=9) zk ?_
   refine lW rfl (.inl rfl) rfl (sL (es:=[int .u8 (IntKind.u8.wrap (a:Int))]) [_] rfl (eC rfl rfl eN) rfl rfl rfl ?_)
   exact zT7
  ·refine lW rfl (.inl rfl) rfl (sL (es:=[int .u8 (IntKind.u8.wrap (a:Int))]) [_] rfl (eC rfl rfl eN) rfl rfl rfl ?_)
   refine zl1 (i:=4) zk ?_
   refine lH rfl rfl (pL (c:=v) rfl zm0 rfl) ?_
   exact zT7
 refine oC rfl (fun hc=>absurd (zt hc) hout) (fun _=>?_)
 rw[if_neg hout] at hI
 have hcv:=call_valid (p:=c.p) (f:=f0) (kn:=kn) hC.valid hk0 (name:=name) (n:=vs.length) (by unfold callE;rw[if_neg hin];exact hv) hin hout
 generalize fnI c.p name=gf at hI hcv
 obtain ⟨hgm,hgn,hgl⟩:=hcv
 subst hgn
 obtain ⟨kn2,hvb,hk2⟩:=hC.valid.bodies gf hgm
 have hsm:=hC.small.each gf hgm
 have hpl:gf.params.length≤2000000:=hsm.params
 refine gab ?_
 have hs1:=hs
 obtain ⟨hl,hle,v,Ha,hacc,rfl⟩:=hs
 refine gaa ?_
 refine oP (Pure.kvHit rfl rfl zm3 (hC.fn hgm)) rfl ?_
 refine oS (sA fun b8=>?_) rfl
 refine gac ?_
 generalize stH c s v Ha=Hs0 at hs0 hs1 ⊢
 refine oL (fun k ls H'=>∃ (pre ps:List (List UInt8)) (vpre vs1:List Nat) (s1:IS) (Hs:Heap),gf.params=pre++ps∧vs=vpre++vs1∧vpre.length=pre.length∧k=ps.length∧ls=[(0,ptr c.rb 0),(2,.list (vs.map u32)),(8,ptr b8 0),(59,.list (gf.params.map str)),(60,int .i64 ((gf.params.map str).length:Int)),(61,int .i64 (pre.length:Int))]∧H'=(b8,.cells 59 [str gf.name,.list (gf.params.map str),.list (gf.locals.map str),.list (gf.body.map encS)])::Hs∧St c s1 Hs∧setPs gf gf.params vs s=setPs gf ps vs1 s1)
  ⟨_,_,_,⟨[],gf.params,[],vs,s,Hs0,rfl,rfl,rfl,rfl,rfl,rfl,hs1,rfl⟩,⟨rfl,rfl,rfl,rfl,rfl,rfl,trivial⟩,zhR _⟩ ?_
 rintro k ls H' ⟨pre,ps,vpre,vs1,s1,Hs,hps,hvs1,hvl,rfl,rfl,rfl,hst1,hset⟩ j hj
 have hl6:pre.length≤2000000:=by
  rw[hps,zLa] at hpl
  omega
 have hpl2:ps.length=vs1.length:=by
  rw[hps,hvs1,zLa,zLa] at hgl
  omega
 refine gal ?_
 refine oC rfl (fun hc=>?_) (fun hc=>?_)
 ·have hlen:=zt hc
  rw[zLm,hps,zLa] at hlen
  obtain ⟨p,ps,rfl⟩:∃ a l,ps=a::l:=by
   cases ps with
   |nil=>simp at hlen
   |cons a l2=>exact ⟨a,l2,rfl⟩
  obtain ⟨x,vs1,rfl⟩:∃ a l,vs1=a::l:=by
   cases vs1 with
   |nil=>simp at hpl2
   |cons a l2=>exact ⟨a,l2,rfl⟩
  rw[setPs] at hset
  have hkp:=own_placed hC hgm (p:=p) (by rw[hps];exact List.mem_append_right _ zMs)
  obtain ⟨b,hb1,hb2⟩:=hC.block hkp
  obtain ⟨G,hG1,hG2⟩:=st_sc hC hb1 hst1
  obtain ⟨H3,hs3,hp3⟩:=hG2 x
  refine gab ?_
  refine oP (xR (el':=str p) (cs:=[str p]) rfl rfl zo (by rw[hps];exact get_mid str pre p ps) rfl rfl) rfl ?_
  refine gaa ?_
  refine LCode.draw (m:=10) rfl [(b8,.cells 59 [str gf.name,.list (gf.params.map str),.list (gf.locals.map str),.list (gf.body.map encS)])] ?_
  refine aT 0 rfl rfl (pM (lv:=.atom _) rfl) ?_
  refine aT 1 rfl rfl (Pure.ldHAgg (cs':=[_,_,_,_]) rfl zm0 rfl rfl) ?_
  refine aT 2 rfl rfl (pM (lv:=.atom _) rfl) ?_
  refine aT 4 rfl rfl (pM (lv:=.list _) rfl) ?_
  refine aT 5 rfl rfl (pM (lv:=.atom _) rfl) ?_
  refine LAny.take (i:=6) zhp rfl zk zk zk rfl (xR (el':=u32 x) (cs:=[u32 x]) rfl rfl zo (by rw[hvs1,←hvl];exact get_mid u32 vpre x vs1) rfl rfl) ?_
  refine aT 7 rfl rfl (Pure.loadRef (c:=.atom _) rfl rfl) ?_
  refine LAny.late ?_ zhp
  refine lO 3 (lS (H1:=Hs) rfl (.inl rfl) rfl swap1 zhr (LStep.call (args:=[_,_,_]) (scalar_spec hC hst1 hgm hkp hb2) ?_ ?_))
  ·rintro lv H' ⟨h,rfl⟩
   cases h
   refine lO 8 (lH rfl rfl (pN rfl) ?_)
   refine lO 9 (lS (H1:=H') rfl (.inl rfl) rfl zpr zhr (sS (cs':=[u32 x]) rfl hG1 rfl rfl rfl rfl rfl ?_))
   refine LLate.weakH (H':=H3++_) ⟨[],by rw[zLz];exact hp3.append_right _⟩ ?_
   refine lD zk ?_
   refine gaq ?_
   exact ⟨ps.length,_,_,Nat.lt_succ_self _,⟨pre++[p],ps,vpre++[x],vs1,_,H3,by rw[hps];simp,by rw[hvs1];simp,by simp[hvl],rfl,rfl,rfl,hs3,hset⟩,⟨rfl,rfl,rfl,rfl,rfl,int_eq (by simp),trivial⟩,⟨[],by rw[zLz];exact swap1.symm⟩,hj⟩
  ·rintro ch H' ⟨h,rfl⟩
   cases h
 ·have hlen:=zf hc
  rw[zLm,hps,zLa] at hlen
  obtain rfl:ps=[]:=by
   cases ps with
   |nil=>rfl
   |cons a l2=>simp at hlen;omega
  obtain rfl:vs1=[]:=List.length_eq_zero_iff.1 hpl2.symm
  replace hset:setPs gf gf.params vs s=s1:=hset.trans rfl
  have hb1:=setPs_bd gf gf.params vs s hvs hbd
  obtain ⟨ho,hlf,_⟩:=setPs_same gf gf.params vs s
  rw[hset] at hI hb1 ho hlf
  have hg1:Good c n s1:=⟨hb1,by rw[hlf];exact hleft,by rw[ho,hlf];omega⟩
  refine gac ?_
  refine oS (S.callI [_,_,_] rfl swap1 (hB gf kn2 gf.body s1 Hs hgm hk2 hvb (hC.nums gf hgm) hsm.body hsm.stmts hg1 hst1) (fun r s3 H3 hr3 hs3=>?_) (fun er s3 H3 hr3 hs3 e' he'=>?_)) rfl
  ·rw[hr3,bind_ok] at hI
   refine gab ?_
   exact retI (v:=r.getD 0) hj (zra rfl) hI.symm rfl hsub_left hs3
  ·refine gah ?_
   rw[hr3,bind_stop] at hI
   exact panI_ (he'.trans hj) hI.symm hsub_left hs3
end
end Go.Proofs.YtpbbgkoalnonoaaGreatDoor.Inp
namespace Go.Proofs.YtpbbgkoalnonoaaGreatDoor.Inp
open Go.GL Go.RowKit Go.Stele
theorem errE_parts {c:CEnv} {op:List UInt8} {num:Nat} {name:List UInt8} {args:List Ex} (h:errE c (.mk op num name args)=0):(opnds op = -1∨opnds op=args.length)∧errEs c args=0∧useE c op name args.length=0:=by
 rw[errE] at h
 split at h
 ·rename_i h1
  obtain ⟨h2,h3⟩:=orE_zero.1 h
  exact ⟨h1,h2,h3⟩
 ·cases h
theorem one_of {l:List Nat} (h:l.length=1):∃ a,l=[a]:=by
 cases l with
 |nil=>cases h
 |cons a l=>
  cases l with
  |nil=>exact ⟨a,rfl⟩
  |cons b l=>simp at h
theorem two_of {l:List Nat} (h:l.length=2):∃ a b,l=[a,b]:=by
 cases l with
 |nil=>cases h
 |cons a l=>
  obtain ⟨b,rfl⟩:=one_of (l:=l) (by simpa using h)
  exact ⟨a,b,rfl⟩
theorem neg_u32 {a:Nat} (h:a<4294967296):IntKind.u32.wrap (0-(a:Int))=(((4294967296-a) % 4294967296:Nat):Int):=by
 rw[wrapU]
 omega
theorem set_mid {A:Type} (l r:List A) (x y:A):(l++x::r).set l.length y=l++y::r:=by
 induction l with
 |nil=>rfl
 |cons a l ih=>simp only[List.cons_append,zLc,List.set_cons_succ,ih]
theorem hsub_perm {H1 H2 X:Heap} (hp:H1.Perm H2) (h:HSub X H2):HSub X H1:=
 let ⟨G,hG⟩:=h
 ⟨G,hp.trans hG⟩
attribute [local irreducible] LOps LCode LStep LCalls Go.GL.Pure QThen QBlock RetPost LQ LAny LLate LLateOp LS
section
variable {B0:Nat} {w0:World}
theorem eval_spec {c:Cfg} (hC:CfgOk c) {n:Nat} (hE:EvalH B0 w0 c n) (hB:BlkH B0 w0 c n):EvalH B0 w0 c (n+1):=by
 intro f kn x s H hf hk hv hnum hsm hg hs
 obtain ⟨op,num,name,args⟩:=x
 obtain ⟨hop,hargs,huse⟩:=errE_parts hv
 obtain ⟨hn1,hn2⟩:=hnum
 obtain ⟨hm1,hm2⟩:=hsm
 have hal:args.length≤2000000:=hm1
 generalize hI:evI c.p (n+1) f (Ex.mk op num name args) s=R
 rw[evI] at hI
 rw[encE_mk]
 refine cI Tryz.func243 rfl (n:=92) rfl rfl rfl ?_
 refine gag ?_
 refine oS (S.box rfl fun b4=>?_) rfl
 refine oS (S.box rfl fun b5=>?_) rfl
 refine gao ?_
 refine oS (S.callI [_] rfl swap2 (step_spec hC hs) (fun u s1 H1 hr hs1=>?_) (fun er s1 H1 hr hs1 e' he'=>?_)) rfl
 rotate_left
 ·refine gah ?_
  rw[hr,bind_stop] at hI
  exact panI_ (he'.trans rfl) hI.symm hsub_left hs1
 have hg1:Good c n s1∧s1.out.length+s1.left+1≤c.lim:=by
  have h1:=tick_less hr
  have h2:=tick_bd hg.1
  rw[hr] at h2
  have h3:s1.out=s.out:=by
   unfold tick at hr
   split at hr
   ·cases hr
   ·cases hr;rfl
  have h4:=hg.2.1
  have h5:=hg.2.2
  exact ⟨⟨h2.2,by omega,by rw[h3];omega⟩,by rw[h3];omega⟩
 rw[hr,bind_ok] at hI
 refine LOps.perm (swap2 (H:=H1)).symm ?_
 refine gac ?_
 refine oS (S.makeRow (n:=args.length) (k:=.i64) (k2:=.i64) (int_eq (by rw[zLm])) (int_eq (by rw[zLm])) zo zo fun b7=>?_) rfl
 refine gac ?_
 refine oL (fun k ls H'=>∃ (pre l1:List Ex) (vs:List Nat) (s2:IS) (Hs:Heap),args=pre++l1∧vs.length=pre.length∧(∀ v∈vs,Lt v)∧k=l1.length∧ls=[(0,ptr c.rb 0),(4,ptr b4 0),(5,ptr b5 0),(7,rowV b7 args.length),(17,.list (args.map encE)),(18,int .i64 ((args.map encE).length:Int)),(19,int .i64 (pre.length:Int))] ∧
   H'=(b7,.cells 93 (vs.map u32++List.replicate l1.length (u32 0)))::(b5,.cells 104 [str op,u32 num,str name,.list (args.map encE)])::(b4,.cells 59 [str f.name,.list (f.params.map str),.list (f.locals.map str),.list (f.body.map encS)])::Hs ∧
   St c s2 Hs∧Good c n s2∧s2.out.length+s2.left+1≤c.lim∧errEs (cenv c kn f) l1=0∧numEs l1∧smEs l1∧(mapR (evI c.p n f) l1 s2).bind (fun vs' s=>opI c.p (stI c.p n) f op num name (vs++vs') s)=R)
  ⟨args.length,_,_,⟨[],args,[],s1,H1,rfl,rfl,fun v hv=>(List.not_mem_nil hv).elim,rfl,rfl,rfl,hs1,hg1.1,hg1.2,hargs,hn2,hm2,hI⟩,⟨rfl,rfl,rfl,rfl,rfl,rfl,rfl,trivial⟩,zhR _⟩ ?_
 rintro k ls H' ⟨pre,l1,vs,s2,Hs,hpre,hvl,hvlt,rfl,rfl,rfl,hs2,hg2,hroom,he2,hnn2,hmm2,hI2⟩ j hj
 have hl6:pre.length≤2000000:=by
  have:=hal
  rw[hpre,zLa] at this
  omega
 refine gal ?_
 refine oC rfl (fun hc=>?_) (fun hc=>?_)
 ·have hlen:=zt hc
  rw[zLm,hpre,zLa] at hlen
  obtain ⟨a,l2,rfl⟩:∃ a l2,l1=a::l2:=by
   cases l1 with
   |nil=>simp at hlen
   |cons a l2=>exact ⟨a,l2,rfl⟩
  rw[errEs] at he2
  obtain ⟨hea,hel⟩:=orE_zero.1 he2
  rw[mapR_step] at hI2
  refine gab ?_
  refine oP (xR (el':=encE a) (cs:=[_,_,_,_]) rfl rfl zo (by rw[hpre];exact get_mid encE pre a l2) rfl rfl) rfl ?_
  refine gat ?_
  refine oS (sA fun b9=>?_) rfl
  refine gac ?_
  refine oS (S.callI [_,_,_] rfl (List.perm_append_comm (l₁:=[_,_,_,_])) (hE f kn a s2 Hs hf hk hea hnn2.1 hmm2.1 hg2 hs2) (fun v s3 H3 hr3 hs3=>?_) (fun er s3 H3 hr3 hs3 e' he'=>?_)) rfl
  rotate_left
  ·refine gae ?_
   rw[hr3,bind_stop] at hI2
   exact panI_ (he'.trans hj) hI2.symm hsub_left hs3
  obtain ⟨hg3,hv3,_⟩:=ev_good hC hnn2.1 hg2 hr3
  have hf3:=(few_all c.p n).1 f a s2
  rw[hr3] at hf3
  have hf3':s3.out.length+s3.left≤s2.out.length+s2.left+0:=hf3
  rw[hr3,bind_ok] at hI2
  refine LOps.perm (List.perm_append_comm (l₂:=[_,_,_,_])) ?_
  have hlt:pre.length<args.length:=by
   rw[hpre,zLa,zLc]
   omega
  refine oP (Pure.indexRow rfl rfl zo zo) rfl ?_
  have ecs:vs.map u32++List.replicate (a::l2).length (u32 0)=vs.map u32++u32 0::List.replicate l2.length (u32 0):=rfl
  rw[ecs]
  refine oS (sS (n:=1) (vs:=[u32 v]) (cs':=(vs++[v]).map u32++List.replicate l2.length (u32 0)) rfl zp1 rfl rfl (by simp[hvl]) rfl (by
   rw[show 0+((pre.length:Int)).toNat * 1=(vs.map u32).length by rw[zLm,hvl];simp,setL_one _ _ _ (by simp),set_mid]
   simp) ?_) rfl
  refine gaq ?_
  exact ⟨l2.length,_,_,Nat.lt_succ_self _,⟨pre++[a],l2,vs++[v],s3,H3,by rw[hpre];simp,by simp[hvl],fun y hy=>by
   rcases List.mem_append.1 hy with h1|h1
   ·exact hvlt y h1
   ·rw[List.mem_singleton.1 h1];exact hv3,rfl,rfl,rfl,hs3,hg3,by omega,hel,hnn2.2,hmm2.2,by
    rw[←hI2]
    simp only[zAs,List.singleton_append]⟩,⟨rfl,rfl,rfl,rfl,rfl,rfl,int_eq (by simp),trivial⟩,zhP pH (zhD zhr),hj⟩
 have hlen:=zf hc
 rw[zLm,hpre,zLa] at hlen
 obtain rfl:l1=[]:=by
  cases l1 with
  |nil=>rfl
  |cons a l2=>simp at hlen;omega
 rw[mapR,bind_ok,zLz] at hI2
 have hvn:vs.length=args.length:=by rw[hvl,hpre,zLz]
 have hcs:vs.map u32++List.replicate ([]:List Ex).length (u32 0)=(vs.map fun (v:Nat)=>Value.int .u32 (v:Int)).map .atom:=by
  rw[List.map_map]
  simp only[zLn,List.replicate_zero,zLz]
  rfl
 have hvn2:args.length=(vs.map fun (v:Nat)=>Value.int .u32 (v:Int)).length:=by rw[zLm,hvn]
 rw[hcs]
 have hI:=hI2
 clear hI2
 refine gaa ?_
 refine LCode.rowShut 7 (vs:=vs.map fun (v:Nat)=>Value.int .u32 (v:Int)) pH (by rw[←hvn2];try rfl) ?_
 rw[show (vs.map fun (v:Nat)=>Value.int .u32 (v:Int)).map LV.atom=vs.map u32 by rw[List.map_map];try rfl]
 rw[←hvn] at hop huse
 unfold opI at hI
 obtain ⟨hb2,hl2,_⟩:=hg2
 refine gab ?_
 by_cases h1:op=[110,117,109]
 ·subst h1
  rw[if_pos rfl] at hI
  refine oC rfl (fun hc=>?_) (fun hc=>by cases hc)
  refine gab ?_
  exact retI (v:=num) hj (zra rfl) hI.symm rfl (zhD (zhD zhr)) hs2
 refine oC rfl (fun hc=>absurd (zt hc) h1) (fun _=>?_)
 rw[if_neg h1] at hI
 refine gar ?_
 by_cases h2:op=[118,97,114]
 ·subst h2
  rw[if_pos rfl] at hI
  unfold useE at huse
  rw[if_pos (show ([118,97,114]:List UInt8)=nVar from rfl)] at huse
  have hpl:=key_placed hf huse
  obtain ⟨b,hb1,hb3⟩:=hC.block hpl
  obtain ⟨G,hG1,_⟩:=st_sc hC hb1 hs2
  refine oC rfl (fun hc=>?_) (fun hc=>by cases hc)
  refine gac ?_
  refine oS (S.callS [_,_,_] rfl swap2 (scalar_spec hC hs2 hf hpl hb3) ?_) rfl
  refine LOps.perm (swap2 (H:=Hs)).symm ?_
  refine oP (pN rfl) rfl ?_
  refine oP (pL (c:=u32 (s2.sc (keyI f name))) rfl (zMo _ (zMo _ (hG1.mem_iff.2 zMs))) rfl) rfl ?_
  refine gaa ?_
  exact retI (v:=s2.sc (keyI f name)) hj (zra rfl) hI.symm rfl (zhD (zhD zhr)) hs2
 refine oC rfl (fun hc=>absurd (zt hc) h2) (fun _=>?_)
 rw[if_neg h2] at hI
 refine gar ?_
 by_cases h3:op=[101,108,101,109]
 ·subst h3
  rw[if_pos rfl] at hI
  unfold useE at huse
  rw[if_neg zDd,if_pos (show ([101,108,101,109]:List UInt8)=nElem from rfl)] at huse
  have hpl:name∈c.p.arrays.map (·.name):=by
   unfold arrayE at huse
   split at huse
   ·rename_i h
    exact h
   ·split at huse <;> cases huse
  obtain ⟨b,m,hb1,hb3⟩:=hC.arr hpl
  obtain ⟨hlen2,G,hG1,_⟩:=st_ar hC hb1 hs2
  obtain ⟨a,rfl⟩:∃ a,vs=[a]:=one_of (by
   rcases hop with h|h
   ·exact absurd h zDd
   ·have h9:(1:Int)=(vs.length:Int):=h
    omega)
  have ha:a<4294967296:=hvlt a zMs
  refine oC rfl (fun hc=>?_) (fun hc=>by cases hc)
  refine gaa ?_
  refine LCode.tail 6 zk ?_
  refine gad ?_
  refine LS.pure (xR (el':=u32 a) (cs:=[u32 a]) rfl rfl zo rfl rfl rfl) rfl ?_
  refine gad ?_
  refine oS (S.callH (H1:=Hs) [_,_,_] rfl swap2 (element_spec hC hs2 hb1 hb3 ha) ?_ ?_) rfl
  ·rintro lv H' ⟨rfl,h⟩
   by_cases hin:a<m
   ·rw[if_pos hin] at h
    cases h
    have hget:(s2.ar name)[a]? = some (s2.ar name)[a]:=List.getElem?_eq_getElem zo
    have hI':(match (s2.ar name)[a]? with
     |some v=>IR.ok v s2
     |none=>.stop 2 s2)=R:=hI
    rw[hget] at hI'
    refine oP (pN rfl) rfl ?_
    refine oP (pL (c:=u32 (s2.ar name)[a]) rfl (List.mem_append_left _ (hG1.mem_iff.2 zMs)) (by rw[List.getElem?_map,hget];try rfl)) rfl ?_
    refine gaa ?_
    exact retI (v:=(s2.ar name)[a]) hj (zra rfl) hI'.symm rfl hsub_left hs2
   ·rw[if_neg hin] at h
    cases h
  ·rintro ch H' ⟨rfl,h⟩ e' he'
   by_cases hin:a<m
   ·rw[if_pos hin] at h
    cases h
   ·rw[if_neg hin] at h
    cases h
    have hget:(s2.ar name)[a]? = none:=List.getElem?_eq_none zo
    have hI':(match (s2.ar name)[a]? with
     |some v=>IR.ok v s2
     |none=>.stop 2 s2)=R:=hI
    rw[hget] at hI'
    refine gae ?_
    exact panI_ (he'.trans hj) hI'.symm hsub_left hs2
 refine oC rfl (fun hc=>absurd (zt hc) h3) (fun _=>?_)
 rw[if_neg h3] at hI
 refine gar ?_
 by_cases h4:op=[110,101,103]
 ·subst h4
  rw[if_pos rfl] at hI
  obtain ⟨a,rfl⟩:∃ a,vs=[a]:=one_of (by
   rcases hop with h|h
   ·exact absurd h zDd
   ·have h9:(1:Int)=(vs.length:Int):=h
    omega)
  have ha:a<4294967296:=hvlt a zMs
  refine oC rfl (fun hc=>?_) (fun hc=>by cases hc)
  refine gab ?_
  refine oP (xR (el':=u32 a) (cs:=[u32 a]) rfl rfl zo rfl rfl rfl) rfl ?_
  refine gaa ?_
  refine oP (Pure.negW rfl) rfl ?_
  refine gaa ?_
  exact retI (v:=(4294967296-a) % 4294967296) hj (zra rfl) hI.symm (int_eq (neg_u32 ha)) (zhD (zhD zhr)) hs2
 refine oC rfl (fun hc=>absurd (zt hc) h4) (fun _=>?_)
 rw[if_neg h4] at hI
 refine gar ?_
 by_cases h5:op=[110,111,116]
 ·subst h5
  rw[if_pos rfl] at hI
  obtain ⟨a,rfl⟩:∃ a,vs=[a]:=one_of (by
   rcases hop with h|h
   ·exact absurd h zDd
   ·have h9:(1:Int)=(vs.length:Int):=h
    omega)
  refine oC rfl (fun hc=>?_) (fun hc=>by cases hc)
  refine gab ?_
  refine oP (xR (el':=u32 a) (cs:=[u32 a]) rfl rfl zo rfl rfl rfl) rfl ?_
  refine gaa ?_
  refine oS (S.callS (F:=[]) [_] rfl (by rw[zLz]) (truth_spec _) ?_) rfl
  rw[zLz]
  refine gaa ?_
  exact retI (v:=b2n (decide (a=0))) hj (zra rfl) hI.symm (congrArg u32 (b2n_dec zo)) (zhD (zhD zhr)) hs2
 refine oC rfl (fun hc=>absurd (zt hc) h5) (fun _=>?_)
 rw[if_neg h5] at hI
 refine gar ?_
 by_cases h6:op=[99,97,108,108]
 ·subst h6
  rw[if_pos rfl] at hI
  unfold useE at huse
  rw[if_neg zDd,if_neg zDd,if_pos (show ([99,97,108,108]:List UInt8)=nCall from rfl)] at huse
  refine oC rfl (fun hc=>?_) (fun hc=>by cases hc)
  refine gab ?_
  refine oS (S.callI [_,_,_] rfl swap2 (call_spec hC hB hk huse hvlt hb2 hl2 hroom hs2) (fun v s3 H3 hr3 hs3=>?_) (fun er s3 H3 hr3 hs3 e' he'=>?_)) rfl
  ·rw[hr3] at hI
   refine gaa ?_
   exact retI (v:=v) hj (zra rfl) hI.symm rfl hsub_left hs3
  ·refine gae ?_
   rw[hr3] at hI
   exact panI_ (he'.trans hj) hI.symm hsub_left hs3
 refine oC rfl (fun hc=>absurd (zt hc) h6) (fun _=>?_)
 rw[if_neg h6] at hI
 refine gaa ?_
 have hbin:op∈binOps∧vs.length=2:=by
  unfold opnds at hop
  rw[if_neg (fun h=>h.elim h1 h2),if_neg (fun h=>h.elim h3 (fun h=>h.elim h4 h5)),if_neg (show ¬ op=nCall from h6)] at hop
  split at hop
  ·rename_i h
   refine ⟨h,?_⟩
   rcases hop with h|h <;> omega
  ·rcases hop with h|h <;> omega
 obtain ⟨hbo,hv2⟩:=hbin
 obtain ⟨a,b2,rfl⟩:=two_of hv2
 have ha:a<4294967296:=hvlt a zMs
 have hb:b2<4294967296:=hvlt b2 (zMo _ zMs)
 obtain ⟨fi,caps,hkv,hte,hcall⟩:=binop_spec (B0:=B0) (w0:=w0) (db:=c.db) hbo ha hb
 have hs3:=hs2
 obtain ⟨hl,hle,v,Ha,hacc,rfl⟩:=hs2
 refine LCode.tail 13 zk ?_
 refine gad ?_
 refine LS.pure (Pure.kvHit rfl rfl zm6 hkv) rfl ?_
 refine gad ?_
 refine LS.pure (xR (el':=u32 a) (cs:=[u32 a]) rfl rfl zo rfl rfl rfl) rfl ?_
 refine gad ?_
 refine LS.pure (xR (el':=u32 b2) (cs:=[u32 b2]) rfl rfl zo rfl rfl rfl) rfl ?_
 refine gad ?_
 have hpick:Pick (divH c.db) ((b5,.cells 104 [str op,u32 num,str name,.list (args.map encE)])::(b4,.cells 59 [str f.name,.list (f.params.map str),.list (f.locals.map str),.list (f.body.map encS)])::stH c s2 v Ha) _:=pT zp6
 refine oS (S.callV (f:=fi) (first:=#[]) (caps:=caps) (H1:=[divH c.db]) [_,_] rfl rfl hpick hcall ?_ ?_) rfl
 ·rintro lv H' ⟨rfl,h⟩
  have hI':(match binI op a b2 with
   |some v=>IR.ok v s2
   |none=>.stop 12 s2)=R:=hI
  cases hb9:binI op a b2 with
  |none=>rw[hb9] at h;cases h
  |some y=>
   rw[hb9] at h hI'
   cases h
   refine gak ?_
   exact retI (v:=y) hj (zra rfl) hI'.symm rfl (hsub_perm (List.Perm.symm hpick) (zhD (zhD zhr))) hs3
 ·rintro ch H' ⟨rfl,h⟩ e' he'
  have hI':(match binI op a b2 with
   |some v=>IR.ok v s2
   |none=>.stop 12 s2)=R:=hI
  cases hb9:binI op a b2 with
  |some y=>rw[hb9] at h;cases h
  |none=>
   rw[hb9] at h hI'
   cases h
   refine gah ?_
   exact panI_ (he'.trans hj) hI'.symm (hsub_perm (List.Perm.symm hpick) (zhD (zhD zhr))) hs3
theorem eval_zero {c:Cfg} (hC:CfgOk c):EvalH B0 w0 c 0:=by
 intro f kn x s H hf hk hv hnum hsm hg hs
 have ht:tick s=.stop 13 s:=by rw[tick,if_pos (Nat.le_zero.1 hg.2.1)]
 obtain ⟨op,num,name,args⟩:=x
 rw[encE_mk]
 refine cI Tryz.func243 rfl (n:=92) rfl rfl rfl ?_
 refine gag ?_
 refine oS (S.box rfl fun b4=>?_) rfl
 refine oS (S.box rfl fun b5=>?_) rfl
 refine gao ?_
 refine oS (S.callI [_] rfl swap2 (step_spec hC hs) (fun u s1 H1 hr hs1=>?_) (fun er s1 H1 hr hs1 e' he'=>?_)) rfl
 ·rw[ht] at hr
  cases hr
 ·rw[ht] at hr
  cases hr
  refine gah ?_
  exact panI_ (he'.trans rfl) (by rw[evI]) hsub_left hs1
theorem exec_zero {c:Cfg} (hC:CfgOk c):ExecH B0 w0 c 0:=by
 intro f kn x s H hf hk hv hnum hsm hg hs
 have ht:tick s=.stop 13 s:=by rw[tick,if_pos (Nat.le_zero.1 hg.2.1)]
 obtain ⟨kind,name,index,value,thn,els⟩:=x
 rw[encS_mk]
 refine cI Tryz.func215 rfl (n:=93) rfl rfl rfl ?_
 refine gag ?_
 refine oS (S.box rfl fun b4=>?_) rfl
 refine oS (S.box rfl fun b5=>?_) rfl
 refine gao ?_
 refine oS (S.callI [_] rfl swap2 (step_spec hC hs) (fun u s1 H1 hr hs1=>?_) (fun er s1 H1 hr hs1 e' he'=>?_)) rfl
 ·rw[ht] at hr
  cases hr
 ·rw[ht] at hr
  cases hr
  refine gah ?_
  exact panI_ (he'.trans rfl) (by rw[stI]) hsub_left hs1
theorem run_all {c:Cfg} (hC:CfgOk c):∀ n:Nat,EvalH B0 w0 c n∧ExecH B0 w0 c n
 |0=>⟨eval_zero hC,exec_zero hC⟩
 |n+1=>by
  obtain ⟨h1,h2⟩:=run_all hC n
  have hB:=block_spec hC h2
  exact ⟨eval_spec hC h1 hB,execute_spec hC h1 hB⟩
end
end Go.Proofs.YtpbbgkoalnonoaaGreatDoor.Inp
namespace Go.Proofs.YtpbbgkoalnonoaaGreatDoor
open Go.GL Go.RowKit Go.Stele
attribute [local irreducible] LOps LCode LStep LCalls Go.GL.Pure QThen QBlock RetPost LQ LAny LLate LLateOp LCodeR LOpsW RetPostM LIter LYield
def lvs:List (List (List UInt8)):=[lvOps 0,lvOps 1,lvOps 2,lvOps 3,lvOps 4,lvOps 5]
theorem lvs_at (q:Nat) (h:q<6):backArgs lvs q=[int .i64 (((5-q:Nat):Int)),.list ((lvOps (5-q)).map str)]:=by
 have:q=0∨q=1∨q=2∨q=3∨q=4∨q=5:=by omega
 rcases this with rfl|rfl|rfl|rfl|rfl|rfl <;> rfl
theorem RetPostM.mkRet {C:Ctx} {n:Nat} {e:Env} {H H':Heap} {R:LRes→Heap→Prop} {rs:List ResultVar} {vs:List LV} {D:Nat} (hd:e.ds=[{ target:=.collected D,args:=#[] }]) (F:Heap) (hp:H.Perm ((D,.obj (.deferred (some [])))::F)) (h:AllRes C n e F rs vs) (hH:HSub H' F) (hR:R (.ret (resLV vs)) H') :
  RetPostM C n rs R .ret e H:=by
 unfold RetPostM
 exact ⟨D,F,hd,hp,vs,H',h,hH,hR⟩
theorem RetPostM.mkPanic {C:Ctx} {n:Nat} {e:Env} {H H':Heap} {R:LRes→Heap→Prop} {rs:List ResultVar} {ch:List PanicEntry} {D:Nat} (hd:e.ds=[{ target:=.collected D,args:=#[] }]) (F:Heap) (hp:H.Perm ((D,.obj (.deferred (some [])))::F)) (hH:HSub H' F) (hR:R (.panic ch) H') :
  RetPostM C n rs R (.panic ch) e H:=by
 unfold RetPostM
 exact .inr ⟨D,F,hd,hp,H',hH,hR⟩
section
variable {B0:Nat} {w0:World}
theorem expr_spec (sb:Nat) (T:List Tok) (f:Nat) (hC:CloC B0 w0 sb T f):ExprC B0 w0 sb T f:=by
 intro i op r hi ho hr
 refine LCalls.introM Tryz.func265 rfl (n:=20) rfl rfl rfl ?_
 refine gag ?_
 refine oS (S.box rfl fun b1=>?_) rfl
 refine oS (sA fun b2=>?_) rfl
 refine gac ?_
 refine oS (sA fun b3=>?_) rfl
 refine gac ?_
 refine oS (sF [] rfl levels_spec ?_) rfl
 refine oS (S.call0 [_] rfl (backward_spec levelsLV) (fun v H' h=>?_) (fun ch H' h=>?_)) rfl
 ·obtain ⟨bB,h,rfl⟩:=h
  cases h
  refine gaa ?_
  have hexit:∀ (first caps:Array Value) (fn:FuncId) (Hclo F:Heap),Clo sb 0 fn first caps Hclo→TEnter Tryz.prog fn:=fun _ _ _ _ _ h=>h.enter
  refine LCode.rangeFunc (g:=.tmp 9) (ps:=[10,11]) (caps:=#[.pointer (some ⟨bB,0,none⟩)]) (by rfl) lvs.length (backArgs lvs)
   [(b3,.cells 287 [.atom (.func (.func 290) #[.pointer (some ⟨sb,0,none⟩)] #[])]),(b2,.cells 104 [str [],int .u32 0,str [],nilSlice]),(b1,.cells 157 [ptr sb 0]),srcH sb T i op] [(bB,.cells 198 [.list levelsLV])]
   (List.perm_append_singleton _ _).symm (iter_spec bB lvs zDd) (fun k hk=>by rw[lvs_at k hk];try rfl) (by rfl)
   (fun q Hq=>∃ (fn:FuncId) (first caps:Array Value) (Hclo:Heap),Clo sb (6-q) fn first caps Hclo∧Hq=(b3,.cells 287 [.atom (.func (.func fn) first caps)])::(b2,.cells 104 [str [],int .u32 0,str [],nilSlice])::(b1,.cells 157 [ptr sb 0])::srcH sb T i op::Hclo)
   ⟨_,_,_,[],.un,rfl⟩ ?_ ?_
  ·rintro q Hq hq ⟨fn,first,caps,Hclo,hclo,rfl⟩ j hjd hja l D o oD
   have hq6:q<6:=hq
   have hj1:j.s 1=ptr b1 0:=hja 1 _ rfl
   have hj3:j.s 3=ptr b3 0:=hja 3 _ rfl
   rw[lvs_at q hq6,←Env.slots_self (e:=j) (l:=[(1,ptr b1 0),(3,ptr b3 0)]) (by
    intro p hp
    simp only[zMi,List.not_mem_nil,or_false] at hp
    rcases hp with rfl|rfl
    ·exact hj1
    ·exact hj3)]
   refine LCodeR.seq ?_
   refine LCodeR.region rfl ?_
   refine gau ?_
   refine LCodeR.region rfl ?_
   refine gad ?_
   refine ⟨hjd,_,rfl,fun o'=>?_⟩
   refine LCodeR.block ?_
   refine LCodeR.region rfl ?_
   refine gad ?_
   refine oS (S.call0 [_,_,_,_] rfl (binary_spec sb ((lvOps (5-q)).map str) (decide (((5-q:Nat):Int)=2)) fn first caps) (fun v H' h=>?_) (fun ch H' h=>?_)) rfl
   ·obtain ⟨bo,bs,bp,bn,h,rfl⟩:=h
    cases h
    refine gad ?_
    refine ⟨(b3,.cells 287 [.atom (.func (.func 306) #[] #[.pointer (some ⟨bo,0,none⟩),.pointer (some ⟨bs,0,none⟩),.pointer (some ⟨bp,0,none⟩),.pointer (some ⟨bn,0,none⟩)])])::(b2,.cells 104 [str [],int .u32 0,str [],nilSlice])::(b1,.cells 157 [ptr sb 0])::srcH sb T i op ::
     (bo,.cells 287 [.atom (.func (.func fn) first caps)])::(bs,.cells 157 [ptr sb 0])::(bp,.cells 22 [.list ((lvOps (5-q)).map str)])::(bn,.cells 4 [bool (decide (((5-q:Nat):Int)=2))])::Hclo,?_,_,_,_,_,?_,rfl⟩
    ·exact zhP zp5 (zhP zp5 (zhP pH (zhP zp4 (zhP zp4 (zhP zp4 zhr)))))
    ·have e1:6-(q+1)=5-q:=by omega
     have e2:6-q=5-q+1:=by omega
     rw[e1]
     rw[e2] at hclo
     exact .bin hclo
   ·obtain ⟨_,_,_,_,h,_⟩:=h
    cases h
  ·rintro D H' ⟨fn,first,caps,Hclo,hclo,rfl⟩
   have hclo0:Clo sb 0 fn first caps Hclo:=hclo
   have hen:=hexit _ _ _ _ [] hclo0
   refine gaa ?_
   refine LCode.weak (H':=(D,.obj (.deferred (some [])))::(b3,.cells 287 [.atom (.func (.func fn) first caps)])::(b2,.cells 104 [str [],int .u32 0,str [],nilSlice])::(b1,.cells 157 [ptr sb 0])::srcH sb T i op::Hclo) ⟨[(bB,.cells 198 [.list levelsLV])],List.Perm.refl _⟩ ?_
   refine gab ?_
   refine oS (S.callClo (F:=[(D,.obj (.deferred (some []))),(b3,.cells 287 [.atom (.func (.func fn) first caps)]),(b2,.cells 104 [str [],int .u32 0,str [],nilSlice]),(b1,.cells 157 [ptr sb 0])]) (Hc:=Hclo) rfl zp4 (hC _ _ _ _ _ _ _ r hclo0 hi ho hr) (fun v i1 op1 h1=>?_) (fun l er i1 op1 h1 e' he'=>?_)) rfl
   ·refine gad ?_
    exact RetPostM.mkRet rfl _ zp2 (rC (rA rfl zm0 rfl zsr) rN) (zhP zp1 zhn) (by rw[h1];exact ⟨rfl,rfl⟩)
   ·refine gah ?_
    refine RetPostM.mkPanic (he'.trans rfl) (srcH sb T i1 op1::(Hclo++[(b3,.cells 287 [.atom (.func (.func fn) first caps)]),(b2,.cells 104 [str [],int .u32 0,str [],nilSlice]),(b1,.cells 157 [ptr sb 0])])) ?_ zhp (by rw[h1];exact ⟨rfl,i1,op1,rfl⟩)
    exact (List.Perm.cons _ List.perm_middle).trans (List.Perm.swap _ _ _)
 ·obtain ⟨bB,h,_⟩:=h
  cases h
theorem all_spec (hG:GW B0 w0) (sb:Nat) (T:List Tok) (hT:TOK T):∀ f:Nat,CloC B0 w0 sb T f∧ExprC B0 w0 sb T f:=by
 intro f
 induction f using Nat.strongRecOn with
 |_ f ih=>
  have hC:CloC B0 w0 sb T f:=by
   intro k fn first caps Hc i op r hclo hi ho hr
   cases hclo with
   |un=>
    obtain ⟨f,rfl⟩:∃ g,f=g+1:=by
     cases f with
     |zero=>rw[eLev] at hr;cases hr
     |succ g=>exact ⟨g,rfl⟩
    rw[eLev,if_pos rfl] at hr
    refine LCalls.mono (unary_spec hG sb T hT f (fun g hg=>(ih g zo).2) i op r hi ho hr) ?_
    intro r' H h
    cases r with
    |ok v i' op'=>exact h
    |err l e=>exact h
   |bin h=>exact bin_spec hG sb T hT f (fun g hg=>(ih g hg).1) _ _ _ _ _ _ _ _ _ h i op r hi ho hr
  exact ⟨hC,expr_spec sb T f hC⟩
end
end Go.Proofs.YtpbbgkoalnonoaaGreatDoor
namespace Go.Proofs.YtpbbgkoalnonoaaGreatDoor
open Go.GL Go.RowKit Go.Stele
attribute [local irreducible] LOps LCode LStep LCalls Go.GL.Pure QThen QBlock RetPost LQ LAny LLate LLateOp
def encSL (l:List Sm):LV:=.list (l.map encS)
section
variable {B0:Nat} {w0:World}
def BlockC (B0:Nat) (w0:World) (sb:Nat) (T:List Tok) (f:Nat):Prop:=
 ∀ i op r,i≤T.length→op≤100→sBlock T f i op=some r→LCalls (KC B0 w0) 266 [ptr sb 0] [srcH sb T i op] (PostP sb T encSL r)
def StmtsC (B0:Nat) (w0:World) (sb:Nat) (T:List Tok) (f:Nat):Prop:=
 ∀ i op r,i≤T.length→op≤100→sStmts T f [] i op=some r→LCalls (KC B0 w0) 206 [ptr sb 0] [srcH sb T i op] (PostP sb T encSL r)
def StmtC (B0:Nat) (w0:World) (sb:Nat) (T:List Tok) (f:Nat):Prop:=
 ∀ i op r,i≤T.length→op≤100→sStmt T f i op=some r→LCalls (KC B0 w0) 236 [ptr sb 0] [srcH sb T i op] (PostP sb T encS r)
def SimpleC (B0:Nat) (w0:World) (sb:Nat) (T:List Tok) (f:Nat):Prop:=
 ∀ i op r,i≤T.length→op≤100→sSimple T f i op=some r→LCalls (KC B0 w0) 267 [ptr sb 0] [srcH sb T i op] (PostP sb T encS r)
theorem block_spec (sb:Nat) (T:List Tok) (hT:TOK T) (f:Nat) (hS:StmtsC B0 w0 sb T f):BlockC B0 w0 sb T (f+1):=by
 intro i op r hi ho hr
 have hl:=hT.len
 rw[sBlock] at hr
 refine cI Tryz.func266 rfl (n:=11) rfl rfl rfl ?_
 refine gao ?_
 refine oS (S.callP [_,_] rfl pH (begin_spec sb T i op [123] hl zo zo) (fun v i1 op1 h1=>?_) (fun l er i1 op1 h1 e9 he9=>?_)) rfl
 rotate_left
 ·rw[h1,obind_err] at hr
  refine gae ?_
  exact panP zb1 (by cases hr;rfl) zhp
 rw[h1,obind_ok] at hr
 obtain ⟨rfl,rfl,ho1,hi1⟩:=sBegin_ok h1
 refine gan ?_
 obtain ⟨r1,hr1⟩:=obind_is hr
 refine oS (S.callP [_] rfl pH (hS _ _ r1 zo zo hr1) (fun l i2 op2 h2=>?_) (fun l er i2 op2 h2 e9 he9=>?_)) rfl
 rotate_left
 ·rw[hr1,h2,obind_err] at hr
  refine gae ?_
  exact panP zb1 (by cases hr;rfl) zhp
 rw[hr1,h2,obind_ok] at hr
 obtain ⟨g1,_,g3,rfl⟩:=(st_good T f).2.1 _ _ _ _ (hr1.trans (congrArg some h2))
 have g4:=g3 zo
 refine gac ?_
 refine oS (S.callP [_,_] rfl pH (end_spec sb T i2 (op+1) [125] hl zo zo zo) (fun u i3 op3 h3=>?_) (fun l er i3 op3 h3 e9 he9=>?_)) rfl
 rotate_left
 ·rw[h3,obind_err] at hr
  refine gae ?_
  exact panP zb1 (by cases hr;rfl) zhp
 rw[h3,obind_ok] at hr
 refine gac ?_
 exact retP (v:=l) rfl (rC (rT (v:=.list _) rfl zsr) rN) (by cases hr;rfl) rfl zhr
theorem stmts_spec (sb:Nat) (T:List Tok) (hT:TOK T) (f:Nat) (hS:∀ g,g<f→StmtC B0 w0 sb T g):StmtsC B0 w0 sb T f:=by
 intro i op r hi ho hr
 have hl:=hT.len
 refine cI Tryz.func206 rfl (n:=14) rfl rfl rfl ?_
 refine gab ?_
 refine oL (fun k ls H=>∃ (v:LV) (l:List Sm) (i2:Nat) (Ha:Heap),k≤f∧ls=[(0,ptr sb 0),(3,v)]∧H=srcH sb T i2 op::Ha∧Acc 6 v (l.map encS) Ha []∧i2≤T.length∧l.length≤i2+1∧sStmts T k l i2 op=some r)
  ⟨f,_,srcH sb T i op::[],⟨nilSlice,[],i,_,zNr _,rfl,rfl,Acc.nil,by omega,by simp,hr⟩,⟨rfl,rfl,trivial⟩,zhR _⟩ ?_
 rintro k ls H ⟨v,l,i2,Ha,hkf,rfl,rfl,hacc,hi2,hll,hI⟩ j hj
 obtain ⟨k,rfl⟩:∃ k',k=k'+1:=by
  cases k with
  |zero=>rw[sStmts] at hI;cases hI
  |succ k=>exact ⟨k,rfl⟩
 rw[sStmts] at hI
 refine gaf ?_
 refine oS (sL [_] rfl (eC rfl rfl eN) rfl rfl rfl ?_) rfl
 refine oS (S.fnH [_,_] rfl pH (is_spec sb T i2 op [[125]] hl zo (by simp)) ?_) rfl
 refine gaa ?_
 refine oC rfl (fun hc=>?_) (fun hc=>?_)
 ·have hc':isTok T i2 [[125]]=false:=by simpa using hc
  rw[if_neg (by rw[hc'];decide)] at hI
  refine gam ?_
  refine oP (pM (lv:=v) rfl) rfl ?_
  refine gaa ?_
  obtain ⟨r2,hr2⟩:=obind_is hI
  refine oS (S.callP [_] rfl pH (hS k zo _ _ r2 zo zo hr2) (fun e2 i4 op4 h4=>?_) (fun l er i4 op4 h4 e9 he9=>?_)) rfl
  rotate_left
  ·rw[hr2,h4,obind_err] at hI
   refine gae ?_
   exact panP zb1 (by cases hI;rfl) zhp
  rw[hr2,h4,obind_ok] at hI
  obtain ⟨g1,g2,g3,rfl⟩:=(st_good T k).2.2.1 _ _ _ (hr2.trans (congrArg some h4))
  have g5:=g3 zo
  have g6:=g2 rfl
  refine oS (sL [_] rfl (eC rfl rfl eN) rfl rfl rfl ?_) rfl
  refine oS (S.acc1 rfl hacc rfl (by simp;rfl) rfl (by simp;omega) fun v' H' hacc'=>?_) rfl
  refine oP (pA (lv:=v') rfl) rfl ?_
  refine gaa ?_
  exact ⟨k,_,_,by omega,⟨v',l++[e2],i4,H',by omega,rfl,rfl,by rw[zMa];exact hacc',by omega,by simp;omega,hI⟩,⟨rfl,rfl,trivial⟩,zhR _,hj⟩
 ·have hc':isTok T i2 [[125]]=true:=by simpa using hc
  rw[if_pos hc'] at hI
  refine gab ?_
  refine oP (pM (lv:=v) rfl) rfl ?_
  refine oP (pA (lv:=v) rfl) rfl ?_
  refine gak ?_
  exact retP (v:=l) hj (rC (rT (v:=v) rfl hacc.sub) rN) (by cases hI;rfl) rfl zhp
end
end Go.Proofs.YtpbbgkoalnonoaaGreatDoor
namespace Go.Proofs.YtpbbgkoalnonoaaGreatDoor
open Go.GL Go.RowKit Go.Stele
attribute [local irreducible] LOps LCode LStep LCalls Go.GL.Pure QThen QBlock RetPost LQ LAny LLate LLateOp
section
variable {B0:Nat} {w0:World}
theorem encCall (s:List UInt8) (l:List Ex):encS (.mk 6 [] [] [.mk nCall 0 s l] [] [])=.agg [int .i64 6,str [],.list [],.list [.agg [str nCall,int .u32 0,str s,.list (l.map encE)]],.list [],.list []]:=by
 rw[encS_mk,zMc,encE_mk]
 try rfl
theorem simple_spec (sb:Nat) (T:List Tok) (hT:TOK T) (f:Nat) (hE:∀ g,g≤f→ExprC B0 w0 sb T g):SimpleC B0 w0 sb T (f+1):=by
 intro i op r hi ho hr
 have hl:=hT.len
 obtain ⟨gL,_,_,_,gI,gA,_⟩:=ex_good T f
 rw[sSimple] at hr
 refine cI Tryz.func267 rfl (n:=46) rfl rfl rfl ?_
 refine gag ?_
 refine oS (sA fun b2=>?_) rfl
 refine gab ?_
 refine oS (S.fnH [_,_] rfl zp1 (take_spec sb T i op kwReturn hl zo) ?_) rfl
 refine gau ?_
 refine oC rfl (fun hc=>?_) (fun hc=>?_)
 ·have hlt:=isTok_lt hc
  rw[if_pos hc] at hr
  simp only[hc,if_true]
  refine gaf ?_
  obtain ⟨r1,hr1⟩:=obind_is hr
  refine oS (S.callP [_] rfl pH (hE f zo _ _ r1 zo zo hr1) (fun v i1 op1 h1=>?_) (fun l er i1 op1 h1 e9 he9=>?_)) rfl
  rotate_left
  ·rw[hr1,h1,obind_err] at hr
   refine gae ?_
   exact panP zb1 (by cases hr;rfl) zhp
  rw[hr1,h1,obind_ok] at hr
  refine oS (sL [_] rfl (eC rfl rfl eN) rfl rfl rfl ?_) rfl
  refine gad ?_
  exact retP (v:=.mk 5 [] [] [v] [] []) rfl (rC (rA (k:=6) rfl zm0 rfl (LV.Sub.agg (bs:=[_,_,.list [],_,.list [],.list []]) ⟨LV.Sub.refl _,LV.Sub.refl _,LV.Sub.nil,LV.Sub.refl _,LV.Sub.nil,LV.Sub.nil,trivial⟩)) rN) (by cases hr;rfl) (by rw[encS_mk];try rfl) (zhP zp1 zhn)
 ·rw[if_neg (by rw[hc];decide)] at hr
  simp only[hc,Bool.false_eq_true,if_false]
  refine gaf ?_
  refine oS (S.fnH [_,_] rfl pH (take_spec sb T i op kwHalt hl zo) ?_) rfl
  refine gau ?_
  refine oC rfl (fun hc2=>?_) (fun hc2=>?_)
  ·have hlt:=isTok_lt hc2
   rw[if_pos hc2] at hr
   simp only[hc2,if_true]
   refine gac ?_
   exact retP (v:=.mk 7 [] [] [] [] []) rfl (rC (rA (k:=6) rfl zm0 rfl (LV.Sub.agg (bs:=[_,_,.list [],.list [],.list [],.list []]) ⟨LV.Sub.refl _,LV.Sub.refl _,LV.Sub.nil,LV.Sub.nil,LV.Sub.nil,LV.Sub.nil,trivial⟩)) rN) (by cases hr;rfl) (by rw[encS_mk];try rfl) (zhP zp1 zhn)
  ·rw[if_neg (by rw[hc2];decide)] at hr
   simp only[hc2,Bool.false_eq_true,if_false]
   refine gab ?_
   refine oS (S.callP [_,_] rfl pH (word_spec sb T i op 2 hl zo) (fun s i1 op1 h1=>?_) (fun l er i1 op1 h1 e9 he9=>?_)) rfl
   rotate_left
   ·rw[h1,obind_err] at hr
    refine gae ?_
    exact panP zb1 (by cases hr;rfl) zhp
   rw[h1,obind_ok] at hr
   obtain ⟨rfl,rfl,t,ht,_,_⟩:=sWord_ok h1
   have:=get_lt ht
   refine gac ?_
   refine oS (sA fun b4=>?_) rfl
   refine gac ?_
   refine oS (sL [_] rfl (eC rfl rfl eN) rfl rfl rfl ?_) rfl
   refine oS (S.fnH [_,_] rfl zp1 (is_spec sb T (i+1) op1 [[40]] hl zo (by simp)) ?_) rfl
   refine gau ?_
   refine oC rfl (fun hc3=>?_) (fun hc3=>?_)
   ·rw[if_pos hc3] at hr
    refine gaf ?_
    obtain ⟨r1,hr1⟩:=obind_is hr
    refine oS (S.callP [_] rfl pH (args_spec sb T hT f (fun g hg=>hE g zo) (i+1) op1 r1 zo zo hr1) (fun l i2 op2 h2=>?_) (fun l er i2 op2 h2 e9 he9=>?_)) rfl
    rotate_left
    ·rw[hr1,h2,obind_err] at hr
     refine gae ?_
     exact panP zb1 (by cases hr;rfl) zhp
    rw[hr1,h2,obind_ok] at hr
    refine gad ?_
    refine oS (sL [_] rfl (eC rfl rfl eN) rfl rfl rfl ?_) rfl
    refine gad ?_
    exact retP (v:=.mk 6 [] [] [.mk nCall 0 s l] [] []) rfl (rC (rA (k:=6) rfl zm0 rfl (LV.Sub.agg (bs:=[_,_,.list [],_,.list [],.list []]) ⟨LV.Sub.refl _,LV.Sub.refl _,LV.Sub.nil,LV.Sub.refl _,LV.Sub.nil,LV.Sub.nil,trivial⟩)) rN) (by cases hr;rfl) (by rw[encCall];try rfl) (zhP zp1 zhn)
   ·rw[if_neg (by rw[hc3];decide)] at hr
    refine gaf ?_
    refine oS (sL [_] rfl (eC rfl rfl eN) rfl rfl rfl ?_) rfl
    refine oS (S.fnH [_,_] rfl pH (is_spec sb T (i+1) op1 [[91]] hl zo (by simp)) ?_) rfl
    refine gau ?_
    refine oC rfl (fun hc4=>?_) (fun hc4=>?_)
    ·rw[if_pos hc4] at hr
     refine gaf ?_
     obtain ⟨r1,hr1⟩:=obind_is hr
     refine oS (S.callP [_] rfl pH (index_specL sb T hT f (fun g hg=>hE g zo) (i+1) op1 r1 zo zo hr1) (fun x i2 op2 h2=>?_) (fun l er i2 op2 h2 e9 he9=>?_)) rfl
     rotate_left
     ·rw[hr1,h2,obind_err] at hr
      refine gae ?_
      exact panP zb1 (by cases hr;rfl) zhp
     rw[hr1,h2,obind_ok] at hr
     obtain ⟨q1,q2,q3,rfl⟩:=gI _ _ _ (hr1.trans (congrArg some h2))
     have q4:=q3 zo
     refine oS (sL [_] rfl (eC rfl rfl eN) rfl rfl rfl ?_) rfl
     refine gac ?_
     refine oS (S.callP [_,_] rfl zp1 (need_spec sb T i2 op2 [61] hl zo) (fun u i3 op3 h3=>?_) (fun l er i3 op3 h3 e9 he9=>?_)) rfl
     rotate_left
     ·rw[h3,obind_err] at hr
      refine gae ?_
      exact panP zb1 (by cases hr;rfl) zhp
     rw[h3,obind_ok] at hr
     have hg3:=sNeed_good T [61] i2 op2
     rw[h3] at hg3
     obtain ⟨k1,k2,k3,rfl⟩:=hg3
     have k4:=k3 q4
     refine gan ?_
     obtain ⟨r2,hr2⟩:=obind_is hr
     refine oS (S.callP [_] rfl pH (hE f zo _ _ r2 zo zo hr2) (fun v i4 op4 h4=>?_) (fun l er i4 op4 h4 e9 he9=>?_)) rfl
     rotate_left
     ·rw[hr2,h4,obind_err] at hr
      refine gae ?_
      exact panP zb1 (by cases hr;rfl) zhp
     rw[hr2,h4,obind_ok] at hr
     refine oS (sL [_] rfl (eC rfl rfl eN) rfl rfl rfl ?_) rfl
     refine gac ?_
     exact retP (v:=.mk 2 s [x] [v] [] []) rfl (rC (rA (k:=6) rfl zm0 rfl (LV.Sub.agg (bs:=[_,_,_,_,.list [],.list []]) ⟨LV.Sub.refl _,LV.Sub.refl _,LV.Sub.refl _,LV.Sub.refl _,LV.Sub.nil,LV.Sub.nil,trivial⟩)) rN) (by cases hr;rfl) (by rw[encS_mk];try rfl) (zhP zp2 zhn)
    ·rw[if_neg (by rw[hc4];decide)] at hr
     refine gab ?_
     refine oS (S.callP [_,_] rfl pH (need_spec sb T (i+1) op1 [61] hl zo) (fun u i3 op3 h3=>?_) (fun l er i3 op3 h3 e9 he9=>?_)) rfl
     rotate_left
     ·rw[h3,obind_err] at hr
      refine gae ?_
      exact panP zb1 (by cases hr;rfl) zhp
     rw[h3,obind_ok] at hr
     have hg3:=sNeed_good T [61] (i+1) op1
     rw[h3] at hg3
     obtain ⟨k1,k2,k3,rfl⟩:=hg3
     have k4:=k3 zo
     refine gan ?_
     obtain ⟨r2,hr2⟩:=obind_is hr
     refine oS (S.callP [_] rfl pH (hE f zo _ _ r2 zo zo hr2) (fun v i4 op4 h4=>?_) (fun l er i4 op4 h4 e9 he9=>?_)) rfl
     rotate_left
     ·rw[hr2,h4,obind_err] at hr
      refine gae ?_
      exact panP zb1 (by cases hr;rfl) zhp
     rw[hr2,h4,obind_ok] at hr
     refine oS (sL [_] rfl (eC rfl rfl eN) rfl rfl rfl ?_) rfl
     refine gac ?_
     exact retP (v:=.mk 1 s [] [v] [] []) rfl (rC (rA (k:=6) rfl zm0 rfl (LV.Sub.agg (bs:=[_,_,.list [],_,.list [],.list []]) ⟨LV.Sub.refl _,LV.Sub.refl _,LV.Sub.nil,LV.Sub.refl _,LV.Sub.nil,LV.Sub.nil,trivial⟩)) rN) (by cases hr;rfl) (by rw[encS_mk];try rfl) (zhP zp2 zhn)
theorem stmt_spec (sb:Nat) (T:List Tok) (hT:TOK T) (f:Nat) (hE:∀ g,g≤f→ExprC B0 w0 sb T g) (hB:BlockC B0 w0 sb T f) (hM:SimpleC B0 w0 sb T f):StmtC B0 w0 sb T (f+1):=by
 intro i op r hi ho hr
 have hl:=hT.len
 obtain ⟨gL,_,_,_,gI,gA,_⟩:=ex_good T f
 obtain ⟨kB,kL,kS,kM⟩:=st_good T f
 rw[sStmt] at hr
 refine cI Tryz.func236 rfl (n:=38) rfl rfl rfl ?_
 refine gag ?_
 refine oS (sA fun b2=>?_) rfl
 refine gab ?_
 refine oS (S.fnH [_,_] rfl zp1 (take_spec sb T i op kwIf hl zo) ?_) rfl
 refine gau ?_
 refine oC rfl (fun hc=>?_) (fun hc=>?_)
 ·have hlt:=isTok_lt hc
  rw[if_pos hc] at hr
  simp only[hc,if_true]
  refine gaf ?_
  obtain ⟨r1,hr1⟩:=obind_is hr
  refine oS (S.callP [_] rfl pH (hE f zo _ _ r1 zo zo hr1) (fun v i1 op1 h1=>?_) (fun l er i1 op1 h1 e9 he9=>?_)) rfl
  rotate_left
  ·rw[hr1,h1,obind_err] at hr
   refine gae ?_
   exact panP zb1 (by cases hr;rfl) zhp
  rw[hr1,h1,obind_ok] at hr
  obtain ⟨g1,g2,g3,rfl⟩:=gL 0 _ _ _ (hr1.trans (congrArg some h1))
  have g4:=g3 zo
  refine oS (sL [_] rfl (eC rfl rfl eN) rfl rfl rfl ?_) rfl
  refine gad ?_
  refine oS (sA fun b3=>?_) rfl
  refine gac ?_
  obtain ⟨r2,hr2⟩:=obind_is hr
  refine oS (S.callP [_] rfl zp1 (hB _ _ r2 zo zo hr2) (fun th i2 op2 h2=>?_) (fun l er i2 op2 h2 e9 he9=>?_)) rfl
  rotate_left
  ·rw[hr2,h2,obind_err] at hr
   refine gae ?_
   exact panP zb1 (by cases hr;rfl) zhp
  rw[hr2,h2,obind_ok] at hr
  obtain ⟨q1,q2,q3,rfl⟩:=kB _ _ _ (hr2.trans (congrArg some h2))
  have q4:=q3 zo
  refine gac ?_
  refine oS (S.fnH [_,_] rfl zp1 (take_spec sb T i2 op2 kwElse hl zo) ?_) rfl
  refine gap ?_
  refine oC rfl (fun hc2=>?_) (fun hc2=>?_)
  ·have hlt2:=isTok_lt hc2
   rw[if_pos hc2] at hr
   simp only[hc2,if_true]
   refine gaf ?_
   obtain ⟨r3,hr3⟩:=obind_is hr
   refine oS (S.callP [_] rfl pH (hB _ _ r3 zo zo hr3) (fun el i3 op3 h3=>?_) (fun l er i3 op3 h3 e9 he9=>?_)) rfl
   rotate_left
   ·rw[hr3,h3,obind_err] at hr
    refine gae ?_
    exact panP zb1 (by cases hr;rfl) zhp
   rw[hr3,h3,obind_ok] at hr
   refine gac ?_
   exact retP (v:=.mk 3 [] [] [v] th el) rfl (rC (rA (k:=6) rfl zm0 rfl (LV.Sub.agg (bs:=[_,_,.list [],_,_,_]) ⟨LV.Sub.refl _,LV.Sub.refl _,LV.Sub.nil,LV.Sub.refl _,LV.Sub.refl _,LV.Sub.refl _,trivial⟩)) rN) (by cases hr;rfl) (by rw[encS_mk];try rfl) (zhP zp2 zhn)
  ·rw[if_neg (by rw[hc2];decide)] at hr
   simp only[hc2,Bool.false_eq_true,if_false]
   refine gac ?_
   exact retP (v:=.mk 3 [] [] [v] th []) rfl (rC (rA (k:=6) rfl zm0 rfl (LV.Sub.agg (bs:=[_,_,.list [],_,_,.list []]) ⟨LV.Sub.refl _,LV.Sub.refl _,LV.Sub.nil,LV.Sub.refl _,LV.Sub.refl _,LV.Sub.nil,trivial⟩)) rN) (by cases hr;rfl) (by rw[encS_mk];try rfl) (zhP zp1 zhn)
 ·rw[if_neg (by rw[hc];decide)] at hr
  simp only[hc,Bool.false_eq_true,if_false]
  refine gaf ?_
  refine oS (S.fnH [_,_] rfl pH (take_spec sb T i op kwWhile hl zo) ?_) rfl
  refine gau ?_
  refine oC rfl (fun hc2=>?_) (fun hc2=>?_)
  ·have hlt:=isTok_lt hc2
   rw[if_pos hc2] at hr
   simp only[hc2,if_true]
   refine gaf ?_
   obtain ⟨r1,hr1⟩:=obind_is hr
   refine oS (S.callP [_] rfl pH (hE f zo _ _ r1 zo zo hr1) (fun v i1 op1 h1=>?_) (fun l er i1 op1 h1 e9 he9=>?_)) rfl
   rotate_left
   ·rw[hr1,h1,obind_err] at hr
    refine gae ?_
    exact panP zb1 (by cases hr;rfl) zhp
   rw[hr1,h1,obind_ok] at hr
   obtain ⟨g1,g2,g3,rfl⟩:=gL 0 _ _ _ (hr1.trans (congrArg some h1))
   have g4:=g3 zo
   refine oS (sL [_] rfl (eC rfl rfl eN) rfl rfl rfl ?_) rfl
   refine gad ?_
   refine oS (sA fun b3=>?_) rfl
   refine gac ?_
   obtain ⟨r2,hr2⟩:=obind_is hr
   refine oS (S.callP [_] rfl zp1 (hB _ _ r2 zo zo hr2) (fun th i2 op2 h2=>?_) (fun l er i2 op2 h2 e9 he9=>?_)) rfl
   rotate_left
   ·rw[hr2,h2,obind_err] at hr
    refine gae ?_
    exact panP zb1 (by cases hr;rfl) zhp
   rw[hr2,h2,obind_ok] at hr
   refine gac ?_
   exact retP (v:=.mk 4 [] [] [v] th []) rfl (rC (rA (k:=6) rfl zm0 rfl (LV.Sub.agg (bs:=[_,_,.list [],_,_,.list []]) ⟨LV.Sub.refl _,LV.Sub.refl _,LV.Sub.nil,LV.Sub.refl _,LV.Sub.refl _,LV.Sub.nil,trivial⟩)) rN) (by cases hr;rfl) (by rw[encS_mk];try rfl) (zhP zp2 zhn)
  ·rw[if_neg (by rw[hc2];decide)] at hr
   simp only[hc2,Bool.false_eq_true,if_false]
   refine gab ?_
   obtain ⟨r1,hr1⟩:=obind_is hr
   refine oS (S.callP [_] rfl pH (hM _ _ r1 zo zo hr1) (fun v i1 op1 h1=>?_) (fun l er i1 op1 h1 e9 he9=>?_)) rfl
   rotate_left
   ·rw[hr1,h1,obind_err] at hr
    refine gae ?_
    exact panP zb1 (by cases hr;rfl) zhp
   rw[hr1,h1,obind_ok] at hr
   obtain ⟨g1,g2,g3,rfl⟩:=kM _ _ _ (hr1.trans (congrArg some h1))
   have g4:=g3 zo
   refine oS (sA fun b5=>?_) rfl
   refine gac ?_
   refine oS (S.callP [_,_] rfl zp1 (need_spec sb T i1 op1 [59] hl zo) (fun u i2 op2 h2=>?_) (fun l er i2 op2 h2 e9 he9=>?_)) rfl
   rotate_left
   ·rw[h2,obind_err] at hr
    refine gae ?_
    exact panP zb1 (by cases hr;rfl) zhp
   rw[h2,obind_ok] at hr
   refine gac ?_
   exact retP (v:=v) rfl (rC (rA rfl zm0 rfl zsr) rN) (by cases hr;rfl) rfl (zhP zp1 zhn)
theorem st_all (hG:GW B0 w0) (sb:Nat) (T:List Tok) (hT:TOK T):∀ f:Nat,BlockC B0 w0 sb T f∧StmtsC B0 w0 sb T f∧StmtC B0 w0 sb T f∧SimpleC B0 w0 sb T f:=by
 intro f
 induction f using Nat.strongRecOn with
 |_ f ih=>
  have hE:=fun g=>(all_spec (B0:=B0) (w0:=w0) hG sb T hT g).2
  cases f with
  |zero=>
   refine ⟨?_,stmts_spec sb T hT 0 (fun g hg=>by omega),?_,?_⟩
   ·intro i op r _ _ hr;rw[sBlock] at hr;cases hr
   ·intro i op r _ _ hr;rw[sStmt] at hr;cases hr
   ·intro i op r _ _ hr;rw[sSimple] at hr;cases hr
  |succ f=>
   have h:=ih f zo
   exact ⟨block_spec sb T hT f h.2.1,stmts_spec sb T hT _ (fun g hg=>(ih g hg).2.2.1),stmt_spec sb T hT f (fun g _=>hE g) h.1 h.2.2.2,simple_spec sb T hT f (fun g _=>hE g)⟩
end
end Go.Proofs.YtpbbgkoalnonoaaGreatDoor
namespace Go.Proofs.YtpbbgkoalnonoaaGreatDoor
open Go.GL Go.RowKit Go.Stele
theorem namesLoop_len (T:List Tok):∀ (f:Nat) (acc:List (List UInt8)) (i op:Nat) (l:List (List UInt8)) (i' op':Nat),sNamesLoop T f acc i op=some (.ok l i' op')→l.length+i≤acc.length+i'
 |0,_,_,_,_,_,_,h=>by rw[sNamesLoop] at h;cases h
 |f+1,acc,i,op,l,i',op',h=>by
  rw[sNamesLoop] at h
  split at h
  ·rcases obind_some h with ⟨s,i1,op1,h1,h2⟩|⟨l,e,_,hh⟩
   ·injection h1 with h1
    obtain ⟨rfl,rfl,_⟩:=sWord_ok h1
    have:=namesLoop_len T f _ _ _ _ _ _ h2
    rw[zLa,List.length_singleton] at this
    omega
   ·cases hh
  ·cases h
   omega
theorem names_len {T:List Tok} {f i op:Nat} {l:List (List UInt8)} {i' op':Nat} (h:sNames T f i op=some (.ok l i' op')):l.length+i≤i':=by
 unfold sNames at h
 rcases obind_some h with ⟨s,i1,op1,h1,h2⟩|⟨l,e,_,hh⟩
 ·injection h1 with h1
  obtain ⟨rfl,rfl,_⟩:=sWord_ok h1
  have:=namesLoop_len T f _ _ _ _ _ _ h2
  rw[List.length_singleton] at this
  omega
 ·cases hh
theorem vars_len (T:List Tok):∀ (f:Nat) (acc:List (List UInt8)) (i op:Nat) (l:List (List UInt8)) (i' op':Nat),sVars T f acc i op=some (.ok l i' op')→l.length+i≤acc.length+i'
 |0,_,_,_,_,_,_,h=>by rw[sVars] at h;cases h
 |f+1,acc,i,op,l,i',op',h=>by
  rw[sVars] at h
  split at h
  ·rcases obind_some h with ⟨s,i1,op1,h1,h2⟩|⟨l,e,_,hh⟩
   ·have:=names_len h1
    rcases obind_some h2 with ⟨u,i2,op2,h3,h4⟩|⟨l,e,_,hh⟩
    ·injection h3 with h3
     have hg:=sNeed_good T [59] i1 op1
     rw[h3] at hg
     have hv:=vars_len T f _ _ _ _ _ _ h4
     have:=hg.1
     rw[zLa] at hv
     omega
    ·cases hh
   ·cases hh
  ·cases h
   omega
attribute [local irreducible] LOps LCode LStep LCalls Go.GL.Pure QThen QBlock RetPost LQ LAny LLate LLateOp
section
variable {B0:Nat} {w0:World}
theorem vars_spec (sb:Nat) (T:List Tok) (hT:TOK T) (f i op:Nat) (r:Res (List (List UInt8))) (hi:i≤T.length) (hr:sVars T f [] i op=some r) :
  LCalls (KC B0 w0) 133 [ptr sb 0] [srcH sb T i op] (PostP sb T encNames r):=by
 have hl:=hT.len
 refine cI Tryz.func133 rfl (n:=13) rfl rfl rfl ?_
 refine gab ?_
 refine oL (fun k ls H=>∃ (v:LV) (l:List (List UInt8)) (i2:Nat) (Ha:Heap),k≤f∧ls=[(0,ptr sb 0),(3,v)]∧H=srcH sb T i2 op::Ha∧Acc 1 v (l.map str) Ha []∧i2≤T.length∧l.length≤i2∧sVars T k l i2 op=some r)
  ⟨f,_,srcH sb T i op::[],⟨nilSlice,[],i,_,zNr _,rfl,rfl,Acc.nil,by omega,by simp,hr⟩,⟨rfl,rfl,trivial⟩,zhR _⟩ ?_
 rintro k ls H ⟨v,l,i2,Ha,hkf,rfl,rfl,hacc,hi2,hll,hI⟩ j hj
 obtain ⟨k,rfl⟩:∃ k',k=k'+1:=by
  cases k with
  |zero=>rw[sVars] at hI;cases hI
  |succ k=>exact ⟨k,rfl⟩
 rw[sVars] at hI
 refine gaf ?_
 refine oS (S.fnH [_,_] rfl pH (take_spec sb T i2 op kwVar hl zo) ?_) rfl
 refine gap ?_
 refine oC rfl (fun hc=>?_) (fun hc=>?_)
 ·have hlt:=isTok_lt hc
  rw[if_pos hc] at hI
  simp only[hc,if_true]
  refine gam ?_
  refine oP (pM (lv:=v) rfl) rfl ?_
  refine gaa ?_
  obtain ⟨r2,hr2⟩:=obind_is hI
  refine oS (S.callP [_] rfl pH (names_specP sb T hT k (i2+1) op r2 zo hr2) (fun ns i4 op4 h4=>?_) (fun l er i4 op4 h4 e9 he9=>?_)) rfl
  rotate_left
  ·rw[hr2,h4,obind_err] at hI
   refine gae ?_
   exact panP zb1 (by cases hI;rfl) zhp
  rw[hr2,h4,obind_ok] at hI
  obtain ⟨g1,g2,g3,rfl⟩:=sNames_good T k _ _ _ (hr2.trans (congrArg some h4))
  have g5:=g3 zo
  have g6:=names_len (hr2.trans (congrArg some h4))
  refine oS (S.acc1 (ms:=ns.map str) rfl hacc rfl (strs_len ns) (strs_ok ns) (by simp;omega) fun v' H' hacc'=>?_) rfl
  refine oP (pA (lv:=v') rfl) rfl ?_
  refine gan ?_
  refine oS (S.callP [_,_] rfl pH (need_spec sb T i4 op4 [59] hl zo) (fun u i5 op5 h5=>?_) (fun l er i5 op5 h5 e9 he9=>?_)) rfl
  rotate_left
  ·rw[h5,obind_err] at hI
   refine gae ?_
   exact panP zb1 (by cases hI;rfl) zhp
  rw[h5,obind_ok] at hI
  have hg5:=sNeed_good T [59] i4 op4
  rw[h5] at hg5
  obtain ⟨k1,k2,k3,rfl⟩:=hg5
  have k4:=k3 g5
  refine gaa ?_
  exact ⟨k,_,_,by omega,⟨v',l++ns,i5,H',by omega,rfl,rfl,by rw[zMa];exact hacc',by omega,by rw[zLa];omega,hI⟩,⟨rfl,rfl,trivial⟩,zhR _,hj⟩
 ·rw[if_neg (by rw[hc];decide)] at hI
  simp only[hc,Bool.false_eq_true,if_false]
  refine gab ?_
  refine oP (pM (lv:=v) rfl) rfl ?_
  refine oP (pA (lv:=v) rfl) rfl ?_
  refine gak ?_
  exact retP (v:=l) hj (rC (rT (v:=v) rfl hacc.sub) rN) (by cases hI;rfl) rfl zhp
theorem array_spec (hG:GW B0 w0) (sb:Nat) (T:List Tok) (hT:TOK T) (i op:Nat) (r:Res Ar) (hi:i≤T.length) (ho:op≤100) (hr:sArray T i op=some r) :
  LCalls (KC B0 w0) 135 [ptr sb 0] [srcH sb T i op] (PostP sb T encAr r):=by
 have hl:=hT.len
 unfold sArray at hr
 refine cI Tryz.func135 rfl (n:=18) rfl rfl rfl ?_
 refine gag ?_
 refine oS (sA fun b2=>?_) rfl
 refine gan ?_
 refine oS (S.callP [_,_] rfl zp1 (word_spec sb T i op 2 hl zo) (fun s i1 op1 h1=>?_) (fun l er i1 op1 h1 e9 he9=>?_)) rfl
 rotate_left
 ·rw[h1,obind_err] at hr
  refine gae ?_
  exact panP zb1 (by cases hr;rfl) zhp
 rw[h1,obind_ok] at hr
 obtain ⟨rfl,rfl,t,ht,_,_⟩:=sWord_ok h1
 have:=get_lt ht
 refine gad ?_
 refine oS (sA fun b3=>?_) rfl
 refine gac ?_
 refine oS (S.callP [_,_] rfl zp1 (begin_spec sb T (i+1) op1 [91] hl zo zo) (fun v i2 op2 h2=>?_) (fun l er i2 op2 h2 e9 he9=>?_)) rfl
 rotate_left
 ·rw[h2,obind_err] at hr
  refine gae ?_
  exact panP zb1 (by cases hr;rfl) zhp
 rw[h2,obind_ok] at hr
 obtain ⟨rfl,rfl,ho1,hi1⟩:=sBegin_ok h2
 refine gan ?_
 refine oS (S.callP [_] rfl pH (number_specP hG sb T hT (i+1+1) (op1+1) zo) (fun m i3 op3 h3=>?_) (fun l er i3 op3 h3 e9 he9=>?_)) rfl
 rotate_left
 ·rw[h3,obind_err] at hr
  refine gae ?_
  exact panP zb1 (by cases hr;rfl) zhp
 rw[h3,obind_ok] at hr
 have hg3:=sNumber_good T (i+1+1) (op1+1)
 rw[h3] at hg3
 obtain ⟨k1,k2,k3,rfl⟩:=hg3
 have k4:=k3 zo
 have hm:m≤4294967295:=by
  unfold sNumber at h3
  unfold Res.bind at h3
  split at h3
  ·rename_i s2 i6 op6 h6
   cases h3
   obtain ⟨_,_,t6,ht6,hk6,rfl⟩:=sWord_ok h6
   obtain ⟨u,hu,hp⟩:=hT.num t6 (List.mem_of_getElem? ht6) hk6
   rw[numOf,hp]
   simp only
   omega
  ·cases h3
 have hw:IntKind.i64.wrap (m:Int)=(m:Int):=wrap_i64 zo
 refine gac ?_
 refine oS (S.callP [_,_] rfl zp1 (end_spec sb T i3 (op1+1) [93] hl zo zo zo) (fun u i4 op4 h4=>?_) (fun l er i4 op4 h4 e9 he9=>?_)) rfl
 rotate_left
 ·rw[h4,obind_err] at hr
  refine gae ?_
  exact panP zb1 (by cases hr;rfl) zhp
 rw[h4,obind_ok] at hr
 obtain ⟨rfl,rfl,hi4⟩:=sEnd_ok h4
 refine gan ?_
 refine oS (S.callP [_,_] rfl pH (need_spec sb T (i3+1) op4 [59] hl zo) (fun u2 i5 op5 h5=>?_) (fun l er i5 op5 h5 e9 he9=>?_)) rfl
 rotate_left
 ·rw[h5,obind_err] at hr
  refine gae ?_
  exact panP zb1 (by cases hr;rfl) zhp
 rw[h5,obind_ok] at hr
 refine gac ?_
 exact retP (v:=⟨s,m⟩) rfl (rC (rA (k:=2) rfl zm0 rfl zsr) rN) (by cases hr;rfl) (by show LV.agg [str s,int .i64 (IntKind.i64.wrap m)]=encAr ⟨s,m⟩;rw[hw];try rfl) (zhP zp1 zhn)
theorem func_spec (hG:GW B0 w0) (sb:Nat) (T:List Tok) (hT:TOK T) (f i op:Nat) (r:Res FnD) (hi:i≤T.length) (ho:op≤100) (hr:sFunc T f i op=some r) :
  LCalls (KC B0 w0) 136 [ptr sb 0] [srcH sb T i op] (PostP sb T encFn r):=by
 have hl:=hT.len
 unfold sFunc at hr
 refine cI Tryz.func136 rfl (n:=29) rfl rfl rfl ?_
 refine gag ?_
 refine oS (sA fun b2=>?_) rfl
 refine gan ?_
 refine oS (S.callP [_,_] rfl zp1 (word_spec sb T i op 2 hl zo) (fun s i1 op1 h1=>?_) (fun l er i1 op1 h1 e9 he9=>?_)) rfl
 rotate_left
 ·rw[h1,obind_err] at hr
  refine gae ?_
  exact panP zb1 (by cases hr;rfl) zhp
 rw[h1,obind_ok] at hr
 obtain ⟨rfl,rfl,t,ht,_,_⟩:=sWord_ok h1
 have:=get_lt ht
 refine gad ?_
 refine oS (sA fun b3=>?_) rfl
 refine gac ?_
 refine oS (S.callP [_,_] rfl zp1 (begin_spec sb T (i+1) op1 [40] hl zo zo) (fun v i2 op2 h2=>?_) (fun l er i2 op2 h2 e9 he9=>?_)) rfl
 rotate_left
 ·rw[h2,obind_err] at hr
  refine gae ?_
  exact panP zb1 (by cases hr;rfl) zhp
 rw[h2,obind_ok] at hr
 obtain ⟨rfl,rfl,ho1,hi1⟩:=sBegin_ok h2
 refine gan ?_
 refine oS (sL [_] rfl (eC rfl rfl eN) rfl rfl rfl ?_) rfl
 refine oS (S.fnH [_,_] rfl pH (is_spec sb T (i+1+1) (op1+1) [[41]] hl zo (by simp)) ?_) rfl
 refine gaa ?_
 obtain ⟨r3,hr3⟩:=obind_is hr
 refine LCode.mid (A:=List (List UInt8)×Nat) (fun _=>[(0,ptr sb 0),(2,ptr b2 0),(3,ptr b3 0)]) (fun a=>(b3,.cells 59 [str s,.list (a.1.map str),nilSlice,nilSlice])::srcH sb T a.2 (op1+1)::[(b2,.cells 59 [str [],nilSlice,nilSlice,nilSlice])])
  (fun a=>i+1+1≤a.2∧a.2≤T.length∧r3=.ok a.1 a.2 (op1+1)) ?_ ?_
 ·refine oC rfl (fun hc=>?_) (fun hc=>?_)
  ·have hc':isTok T (i+1+1) [[41]]=false:=by simpa using hc
   rw[if_neg (by rw[hc'];decide)] at hr3
   refine gaf ?_
   refine oS (S.callP [_] rfl pH (names_specP sb T hT f (i+1+1) (op1+1) r3 zo hr3) (fun ns i3 op3 h3=>?_) (fun l er i3 op3 h3 e9 he9=>?_)) rfl
   ·obtain ⟨g1,g2,g3,rfl⟩:=sNames_good T f _ _ _ (hr3.trans (congrArg some h3))
    have g5:=g3 zo
    refine gad ?_
    exact ⟨(ns,i3),⟨by omega,g5,h3⟩,⟨rfl,rfl,rfl,trivial⟩,rfl,rfl⟩
   ·rw[if_neg (by rw[hc'];decide),hr3,h3,obind_err] at hr
    refine gah ?_
    exact panP (he9.trans rfl) (by cases hr;rfl) zhp
  ·have hc':isTok T (i+1+1) [[41]]=true:=by simpa using hc
   rw[if_pos hc'] at hr3
   cases hr3
   refine LCode.cellSub zp1 (cs':=[str s,.list [],nilSlice,nilSlice]) ⟨LV.Sub.refl _,LV.Sub.nil,LV.Sub.refl _,LV.Sub.refl _,trivial⟩ ?_
   refine gaa ?_
   exact ⟨([],i+1+1),⟨zNr _,by omega,rfl⟩,⟨rfl,rfl,rfl,trivial⟩,rfl,rfl⟩
 ·rintro ⟨ps,i3⟩ ⟨hi3,hi3T,rfl⟩ j hj
  rw[hr3,obind_ok] at hr
  refine gaf ?_
  refine oS (S.callP [_,_] rfl zp1 (end_spec sb T i3 (op1+1) [41] hl zo zo zo) (fun u i4 op4 h4=>?_) (fun l er i4 op4 h4 e9 he9=>?_)) rfl
  rotate_left
  ·rw[h4,obind_err] at hr
   refine gae ?_
   exact panP zb1 (by cases hr;rfl) zhp
  rw[h4,obind_ok] at hr
  obtain ⟨rfl,rfl,hi4⟩:=sEnd_ok h4
  refine gan ?_
  refine oS (S.callP [_,_] rfl pH (begin_spec sb T (i3+1) op4 [123] hl zo zo) (fun u2 i5 op5 h5=>?_) (fun l er i5 op5 h5 e9 he9=>?_)) rfl
  rotate_left
  ·rw[h5,obind_err] at hr
   refine gae ?_
   exact panP zb1 (by cases hr;rfl) zhp
  rw[h5,obind_ok] at hr
  obtain ⟨rfl,rfl,ho5,hi5⟩:=sBegin_ok h5
  refine gan ?_
  obtain ⟨r6,hr6⟩:=obind_is hr
  refine oS (S.callP [_] rfl pH (vars_spec sb T hT f (i3+1+1) (op4+1) r6 zo hr6) (fun vs i6 op6 h6=>?_) (fun l er i6 op6 h6 e9 he9=>?_)) rfl
  rotate_left
  ·rw[hr6,h6,obind_err] at hr
   refine gae ?_
   exact panP zb1 (by cases hr;rfl) zhp
  rw[hr6,h6,obind_ok] at hr
  obtain ⟨g1,g2,g3,rfl⟩:=sVars_good T f _ _ _ _ (hr6.trans (congrArg some h6))
  have g4:=g3 zo
  refine gac ?_
  obtain ⟨r7,hr7⟩:=obind_is hr
  refine oS (S.callP [_] rfl zp1 ((st_all hG sb T hT f).2.1 i6 (op4+1) r7 zo zo hr7) (fun ss i7 op7 h7=>?_) (fun l er i7 op7 h7 e9 he9=>?_)) rfl
  rotate_left
  ·rw[hr7,h7,obind_err] at hr
   refine gae ?_
   exact panP zb1 (by cases hr;rfl) zhp
  rw[hr7,h7,obind_ok] at hr
  obtain ⟨q1,q2,q3,rfl⟩:=(st_good T f).2.1 _ _ _ _ (hr7.trans (congrArg some h7))
  have q4:=q3 zo
  refine gac ?_
  refine oS (S.callP [_,_] rfl zp1 (end_spec sb T i7 (op4+1) [125] hl zo zo zo) (fun u3 i8 op8 h8=>?_) (fun l er i8 op8 h8 e9 he9=>?_)) rfl
  rotate_left
  ·rw[h8,obind_err] at hr
   refine gae ?_
   exact panP zb1 (by cases hr;rfl) zhp
  rw[h8,obind_ok] at hr
  refine gac ?_
  exact retP (v:=⟨s,ps,vs,ss⟩) hj (rC (rA (k:=4) rfl zm0 rfl zsr) rN) (by cases hr;rfl) rfl (zhP zp1 zhn)
end
end Go.Proofs.YtpbbgkoalnonoaaGreatDoor
namespace Go.Proofs.YtpbbgkoalnonoaaGreatDoor
open Go.GL Go.RowKit Go.Stele
theorem permV {a b c:Nat×LObj} {X Y Z:Heap}:(a::b::c::(X++(Y++Z))).Perm (X++(a::b::c::(Y++Z))):=List.perm_append_comm_assoc [a,b,c] X (Y++Z)
theorem permA {a b c:Nat×LObj} {X Y Z:Heap}:(a::b::c::(X++(Y++Z))).Perm (Y++(a::b::c::(X++Z))):=
 (((List.perm_append_comm_assoc X Y Z).cons c).cons b |>.cons a).trans (List.perm_append_comm_assoc [a,b,c] Y (X++Z))
theorem permF {a b c:Nat×LObj} {X Y Z:Heap}:(a::b::c::(X++(Y++Z))).Perm (Z++(a::b::c::(X++Y))):=
 ((((show (X++(Y++Z)).Perm (Z++(X++Y)) from by rw[←zAs];exact zPc).cons c).cons b).cons a).trans (List.perm_append_comm_assoc [a,b,c] Z (X++Y))
theorem hsubV {a b c:Nat×LObj} {X Y Z:Heap}:HSub (a::b::c::(X++(Y++Z))) (b::a::c::((Y++Z)++X)):=
 ⟨[],by rw[zLz];exact (List.Perm.swap _ _ _).trans ((((zPc).cons c).cons b).cons a)⟩
theorem hsubA {a b c:Nat×LObj} {X Y Z:Heap}:HSub (a::b::c::(X++(Y++Z))) (b::a::c::((X++Z)++Y)):=
 ⟨[],by rw[zLz];exact (List.Perm.swap _ _ _).trans ((((show ((X++Z)++Y).Perm (X++(Y++Z)) from by rw[zAs];exact zPc.append_left X).cons c).cons b).cons a)⟩
theorem hsubF {a b c:Nat×LObj} {X Y Z:Heap}:HSub (a::b::c::(X++(Y++Z))) (b::a::c::((X++Y)++Z)):=
 ⟨[],by rw[zLz,zAs];exact List.Perm.swap _ _ _⟩
theorem Acc.cell {s:Nat} {v:LV} {es:List LV} {H F:Heap} (h:Acc s v es H F):v.cells? = some [v]∧[v].all cellOk=true:=by
 cases h <;> exact ⟨rfl,rfl⟩
attribute [local irreducible] LOps LCode LStep LCalls Go.GL.Pure QThen QBlock RetPost LQ LAny LLate LLateOp
section
variable {B0:Nat} {w0:World}
theorem program_spec (hG:GW B0 w0) (sb:Nat) (T:List Tok) (hT:TOK T) (f:Nat) (r:Res Pr) (hr:sProg T f ⟨[],[],[]⟩ 0 0=some r) :
  LCalls (KC B0 w0) 70 [ptr sb 0] [srcH sb T 0 0] (PostP sb T encPr r):=by
 have hl:=hT.len
 have hml:(T.map encTok).length=T.length:=zLm _
 refine cI Tryz.func70 rfl (n:=47) rfl rfl rfl ?_
 refine gag ?_
 refine oS (sA fun b2=>?_) rfl
 refine gal ?_
 refine oS (sA fun b3=>?_) rfl
 refine gaa ?_
 refine oL (fun k ls H=>∃ (p:Pr) (v1 v2 v3:LV) (i2:Nat) (H1 H2 H3:Heap),k≤f∧ls=[(0,ptr sb 0),(2,ptr b2 0),(3,ptr b3 0)]∧H=srcH sb T i2 0::(b3,.cells 26 [v1,v2,v3])::(b2,.cells 26 [nilSlice,nilSlice,nilSlice])::(H1++(H2++H3)) ∧
   Acc 1 v1 (p.vars.map str) H1 []∧Acc 2 v2 (p.arrays.map encAr) H2 []∧Acc 4 v3 (p.funcs.map encFn) H3 []∧i2≤T.length∧p.vars.length≤i2∧p.arrays.length≤i2∧p.funcs.length≤i2∧sProg T k p i2 0=some r)
  ⟨f,_,_,⟨⟨[],[],[]⟩,nilSlice,nilSlice,nilSlice,0,[],[],[],zNr _,rfl,rfl,Acc.nil,Acc.nil,Acc.nil,Nat.zero_le _,Nat.zero_le _,Nat.zero_le _,Nat.zero_le _,hr⟩,⟨rfl,rfl,rfl,trivial⟩,zhP zp2 zhr⟩ ?_
 rintro k ls H ⟨p,v1,v2,v3,i2,H1,H2,H3,hkf,rfl,rfl,ha1,ha2,ha3,hi2,hl1,hl2,hl3,hI⟩ j hj
 obtain ⟨k,rfl⟩:∃ k',k=k'+1:=by
  cases k with
  |zero=>rw[sProg] at hI;cases hI
  |succ k=>exact ⟨k,rfl⟩
 rw[sProg] at hI
 refine gaa ?_
 refine LCode.cut [(0,ptr sb 0),(2,ptr b2 0),(3,ptr b3 0),(13,bool (decide (i2<T.length)))] ?_ (fun j2 hj2=>?_)
 ·refine LCode.quiet zk ?_
  refine gad ?_
  exact ⟨⟨rfl,rfl,rfl,bool_eq (by rw[decide_eq_decide];simp),trivial⟩,rfl,rfl⟩
 ·skip
  refine oC rfl (fun hc=>?_) (fun hc=>?_)
  ·have hlt:i2<T.length:=zt hc
   rw[if_neg zo] at hI
   refine gab ?_
   refine oS (sL [_] rfl (eC rfl rfl eN) rfl rfl rfl ?_) rfl
   refine oS (S.fnH [_,_] rfl pH (is_spec sb T i2 0 [kwVar] hl zo (by simp)) ?_) rfl
   refine gau ?_
   refine oC rfl (fun hv=>?_) (fun hv=>?_)
   ·rw[if_pos hv] at hI
    obtain ⟨r2,hr2⟩:=obind_is hI
    refine LCode.draw (m:=7) rfl [] ?_
    refine aT 0 rfl rfl (pF rfl) ?_
    refine aT 2 rfl rfl (pM (lv:=.atom _) rfl) ?_
    refine LAny.late ?_ zhn
    refine LLate.two (i:=1) (j:=3) zk ?_ ?_
    ·refine lH rfl rfl (pL (c:=v1) rfl zm1 rfl) ?_
     refine lO 3 (lW rfl (.inl rfl) rfl (S.callP [_] rfl pH (vars_spec sb T hT k i2 0 r2 hi2 hr2) (fun l i3 op3 h3=>?_) (fun l er i3 op3 h3 e' he'=>?_)))
     ·obtain ⟨g1,g2,g3,rfl⟩:=sVars_good T k _ _ _ _ (hr2.trans (congrArg some h3))
      have g4:=g3 hi2
      have g5:=g2 hv
      have g6:=vars_len T _ _ _ _ _ _ _ (hr2.trans (congrArg some h3))
      rw[hr2,h3,obind_ok] at hI
      rw[zLn] at g6
      refine lO 4 (lW rfl (.inl rfl) rfl (S.accF permV rfl ha1 rfl (strs_len l) (strs_ok l) (by simp;omega) fun v' H' ha'=>?_))
      refine lO 5 (lH rfl rfl (pF rfl) ?_)
      refine lO 6 (lW rfl (.inl rfl) rfl (sS (cs':=[v',v2,v3]) rfl zp1 (Acc.cell ha').1 rfl rfl (Acc.cell ha').2 rfl ?_))
      refine lD zk ?_
      refine gaa ?_
      exact ⟨k,_,_,by omega,⟨{ p with vars:=p.vars++l },v',v2,v3,i3,H',H2,H3,by omega,rfl,rfl,by rw[zMa];exact ha',ha2,ha3,g4,by rw[zLa];omega,zNt hl2 zo,zNt hl3 zo,hI⟩,⟨rfl,rfl,rfl,trivial⟩,hsubV,hj2.trans hj⟩
     ·rw[hr2,h3,obind_err] at hI
      refine gae ?_
      exact panP (he'.trans (hj2.trans hj)) (by cases hI;rfl) zhp
    ·refine lW rfl (.inl rfl) rfl (S.callP [_] rfl pH (vars_spec sb T hT k i2 0 r2 hi2 hr2) (fun l i3 op3 h3=>?_) (fun l er i3 op3 h3 e' he'=>?_))
     ·refine lO 1 (lH rfl rfl (pL (c:=v1) rfl zm1 rfl) ?_)
      obtain ⟨g1,g2,g3,rfl⟩:=sVars_good T k _ _ _ _ (hr2.trans (congrArg some h3))
      have g4:=g3 hi2
      have g5:=g2 hv
      have g6:=vars_len T _ _ _ _ _ _ _ (hr2.trans (congrArg some h3))
      rw[hr2,h3,obind_ok] at hI
      rw[zLn] at g6
      refine lO 4 (lW rfl (.inl rfl) rfl (S.accF permV rfl ha1 rfl (strs_len l) (strs_ok l) (by simp;omega) fun v' H' ha'=>?_))
      refine lO 5 (lH rfl rfl (pF rfl) ?_)
      refine lO 6 (lW rfl (.inl rfl) rfl (sS (cs':=[v',v2,v3]) rfl zp1 (Acc.cell ha').1 rfl rfl (Acc.cell ha').2 rfl ?_))
      refine lD zk ?_
      refine gaa ?_
      exact ⟨k,_,_,by omega,⟨{ p with vars:=p.vars++l },v',v2,v3,i3,H',H2,H3,by omega,rfl,rfl,by rw[zMa];exact ha',ha2,ha3,g4,by rw[zLa];omega,zNt hl2 zo,zNt hl3 zo,hI⟩,⟨rfl,rfl,rfl,trivial⟩,hsubV,hj2.trans hj⟩
     ·rw[hr2,h3,obind_err] at hI
      refine gae ?_
      exact panP (he'.trans (hj2.trans hj)) (by cases hI;rfl) zhp
   ·rw[if_neg (by rw[hv];decide)] at hI
    refine gaf ?_
    refine oS (S.fnH [_,_] rfl pH (take_spec sb T i2 0 kwArray hl zo) ?_) rfl
    refine gau ?_
    refine oC rfl (fun hw=>?_) (fun hw=>?_)
    ·have hlt2:=isTok_lt hw
     rw[if_pos hw] at hI
     simp only[hw,if_true]
     obtain ⟨r2,hr2⟩:=obind_is hI
     refine LCode.draw (m:=8) rfl [] ?_
     refine aT 0 rfl rfl (pF rfl) ?_
     refine aT 2 rfl rfl (pM (lv:=.atom _) rfl) ?_
     refine LAny.late ?_ zhn
     refine LLate.two (i:=1) (j:=3) zk ?_ ?_
     ·refine lH rfl rfl (pL (c:=v2) rfl zm1 rfl) ?_
      refine lO 3 (lW rfl (.inl rfl) rfl (S.callP [_] rfl pH (array_spec hG sb T hT (i2+1) 0 r2 zo zo hr2) (fun l i3 op3 h3=>?_) (fun l er i3 op3 h3 e' he'=>?_)))
      ·obtain ⟨g1,g2,g3,rfl⟩:=sArray_good T _ _ _ (hr2.trans (congrArg some h3))
       have g4:=g3 zo
       rw[hr2,h3,obind_ok] at hI
       refine lO 4 (lW rfl (.inl rfl) rfl (sL [_] rfl (eC rfl rfl eN) rfl rfl rfl ?_))
       refine lO 5 (lW rfl (.inl rfl) rfl (S.accF permA rfl ha2 rfl (by simp;rfl) rfl (by simp;omega) fun v' H' ha'=>?_))
       refine lO 6 (lH rfl rfl (pF rfl) ?_)
       refine lO 7 (lW rfl (.inl rfl) rfl (sS (cs':=[v1,v',v3]) rfl zp1 (Acc.cell ha').1 rfl rfl (Acc.cell ha').2 rfl ?_))
       refine lD zk ?_
       refine gaa ?_
       exact ⟨k,_,_,by omega,⟨{ p with arrays:=p.arrays++[l] },v1,v',v3,i3,H1,H',H3,by omega,rfl,rfl,ha1,by rw[zMa];exact ha',ha3,g4,zNt hl1 zo,by rw[zLa,List.length_singleton];omega,zNt hl3 zo,hI⟩,⟨rfl,rfl,rfl,trivial⟩,hsubA,hj2.trans hj⟩
      ·rw[hr2,h3,obind_err] at hI
       refine gae ?_
       exact panP (he'.trans (hj2.trans hj)) (by cases hI;rfl) zhp
     ·refine lW rfl (.inl rfl) rfl (S.callP [_] rfl pH (array_spec hG sb T hT (i2+1) 0 r2 zo zo hr2) (fun l i3 op3 h3=>?_) (fun l er i3 op3 h3 e' he'=>?_))
      ·refine LLate.two (i:=1) (j:=4) zk ?_ ?_
       ·refine lH rfl rfl (pL (c:=v2) rfl zm1 rfl) ?_
        obtain ⟨g1,g2,g3,rfl⟩:=sArray_good T _ _ _ (hr2.trans (congrArg some h3))
        have g4:=g3 zo
        rw[hr2,h3,obind_ok] at hI
        refine lO 4 (lW rfl (.inl rfl) rfl (sL [_] rfl (eC rfl rfl eN) rfl rfl rfl ?_))
        refine lO 5 (lW rfl (.inl rfl) rfl (S.accF permA rfl ha2 rfl (by simp;rfl) rfl (by simp;omega) fun v' H' ha'=>?_))
        refine lO 6 (lH rfl rfl (pF rfl) ?_)
        refine lO 7 (lW rfl (.inl rfl) rfl (sS (cs':=[v1,v',v3]) rfl zp1 (Acc.cell ha').1 rfl rfl (Acc.cell ha').2 rfl ?_))
        refine lD zk ?_
        refine gaa ?_
        exact ⟨k,_,_,by omega,⟨{ p with arrays:=p.arrays++[l] },v1,v',v3,i3,H1,H',H3,by omega,rfl,rfl,ha1,by rw[zMa];exact ha',ha3,g4,zNt hl1 zo,by rw[zLa,List.length_singleton];omega,zNt hl3 zo,hI⟩,⟨rfl,rfl,rfl,trivial⟩,hsubA,hj2.trans hj⟩
       ·obtain ⟨g1,g2,g3,rfl⟩:=sArray_good T _ _ _ (hr2.trans (congrArg some h3))
        have g4:=g3 zo
        rw[hr2,h3,obind_ok] at hI
        refine lW rfl (.inl rfl) rfl (sL [_] rfl (eC rfl rfl eN) rfl rfl rfl ?_)
        refine lO 1 (lH rfl rfl (pL (c:=v2) rfl zm1 rfl) ?_)
        refine lO 5 (lW rfl (.inl rfl) rfl (S.accF permA rfl ha2 rfl (by simp;rfl) rfl (by simp;omega) fun v' H' ha'=>?_))
        refine lO 6 (lH rfl rfl (pF rfl) ?_)
        refine lO 7 (lW rfl (.inl rfl) rfl (sS (cs':=[v1,v',v3]) rfl zp1 (Acc.cell ha').1 rfl rfl (Acc.cell ha').2 rfl ?_))
        refine lD zk ?_
        refine gaa ?_
        exact ⟨k,_,_,by omega,⟨{ p with arrays:=p.arrays++[l] },v1,v',v3,i3,H1,H',H3,by omega,rfl,rfl,ha1,by rw[zMa];exact ha',ha3,g4,zNt hl1 zo,by rw[zLa,List.length_singleton];omega,zNt hl3 zo,hI⟩,⟨rfl,rfl,rfl,trivial⟩,hsubA,hj2.trans hj⟩
      ·rw[hr2,h3,obind_err] at hI
       refine gae ?_
       exact panP (he'.trans (hj2.trans hj)) (by cases hI;rfl) zhp
    ·rw[if_neg (by rw[hw];decide)] at hI
     simp only[hw,Bool.false_eq_true,if_false]
     refine gaf ?_
     refine oS (S.fnH [_,_] rfl pH (take_spec sb T i2 0 kwFunc hl zo) ?_) rfl
     refine gau ?_
     refine oC rfl (fun hu=>?_) (fun hu=>?_)
     ·have hlt2:=isTok_lt hu
      rw[if_pos hu] at hI
      simp only[hu,if_true]
      obtain ⟨r2,hr2⟩:=obind_is hI
      refine LCode.draw (m:=8) rfl [] ?_
      refine aT 0 rfl rfl (pF rfl) ?_
      refine aT 2 rfl rfl (pM (lv:=.atom _) rfl) ?_
      refine LAny.late ?_ zhn
      refine LLate.two (i:=1) (j:=3) zk ?_ ?_
      ·refine lH rfl rfl (pL (c:=v3) rfl zm1 rfl) ?_
       refine lO 3 (lW rfl (.inl rfl) rfl (S.callP [_] rfl pH (func_spec hG sb T hT k (i2+1) 0 r2 zo zo hr2) (fun l i3 op3 h3=>?_) (fun l er i3 op3 h3 e' he'=>?_)))
       ·obtain ⟨g1,g2,g3,rfl⟩:=sFunc_good T k _ _ _ (hr2.trans (congrArg some h3))
        have g4:=g3 zo
        rw[hr2,h3,obind_ok] at hI
        refine lO 4 (lW rfl (.inl rfl) rfl (sL [_] rfl (eC rfl rfl eN) rfl rfl rfl ?_))
        refine lO 5 (lW rfl (.inl rfl) rfl (S.accF permF rfl ha3 rfl (by simp;rfl) rfl (by simp;omega) fun v' H' ha'=>?_))
        refine lO 6 (lH rfl rfl (pF rfl) ?_)
        refine lO 7 (lW rfl (.inl rfl) rfl (sS (cs':=[v1,v2,v']) rfl zp1 (Acc.cell ha').1 rfl rfl (Acc.cell ha').2 rfl ?_))
        refine lD zk ?_
        refine gaa ?_
        exact ⟨k,_,_,by omega,⟨{ p with funcs:=p.funcs++[l] },v1,v2,v',i3,H1,H2,H',by omega,rfl,rfl,ha1,ha2,by rw[zMa];exact ha',g4,zNt hl1 zo,zNt hl2 zo,by rw[zLa,List.length_singleton];omega,hI⟩,⟨rfl,rfl,rfl,trivial⟩,hsubF,hj2.trans hj⟩
       ·rw[hr2,h3,obind_err] at hI
        refine gae ?_
        exact panP (he'.trans (hj2.trans hj)) (by cases hI;rfl) zhp
      ·refine lW rfl (.inl rfl) rfl (S.callP [_] rfl pH (func_spec hG sb T hT k (i2+1) 0 r2 zo zo hr2) (fun l i3 op3 h3=>?_) (fun l er i3 op3 h3 e' he'=>?_))
       ·refine LLate.two (i:=1) (j:=4) zk ?_ ?_
        ·refine lH rfl rfl (pL (c:=v3) rfl zm1 rfl) ?_
         obtain ⟨g1,g2,g3,rfl⟩:=sFunc_good T k _ _ _ (hr2.trans (congrArg some h3))
         have g4:=g3 zo
         rw[hr2,h3,obind_ok] at hI
         refine lO 4 (lW rfl (.inl rfl) rfl (sL [_] rfl (eC rfl rfl eN) rfl rfl rfl ?_))
         refine lO 5 (lW rfl (.inl rfl) rfl (S.accF permF rfl ha3 rfl (by simp;rfl) rfl (by simp;omega) fun v' H' ha'=>?_))
         refine lO 6 (lH rfl rfl (pF rfl) ?_)
         refine lO 7 (lW rfl (.inl rfl) rfl (sS (cs':=[v1,v2,v']) rfl zp1 (Acc.cell ha').1 rfl rfl (Acc.cell ha').2 rfl ?_))
         refine lD zk ?_
         refine gaa ?_
         exact ⟨k,_,_,by omega,⟨{ p with funcs:=p.funcs++[l] },v1,v2,v',i3,H1,H2,H',by omega,rfl,rfl,ha1,ha2,by rw[zMa];exact ha',g4,zNt hl1 zo,zNt hl2 zo,by rw[zLa,List.length_singleton];omega,hI⟩,⟨rfl,rfl,rfl,trivial⟩,hsubF,hj2.trans hj⟩
        ·obtain ⟨g1,g2,g3,rfl⟩:=sFunc_good T k _ _ _ (hr2.trans (congrArg some h3))
         have g4:=g3 zo
         rw[hr2,h3,obind_ok] at hI
         refine lW rfl (.inl rfl) rfl (sL [_] rfl (eC rfl rfl eN) rfl rfl rfl ?_)
         refine lO 1 (lH rfl rfl (pL (c:=v3) rfl zm1 rfl) ?_)
         refine lO 5 (lW rfl (.inl rfl) rfl (S.accF permF rfl ha3 rfl (by simp;rfl) rfl (by simp;omega) fun v' H' ha'=>?_))
         refine lO 6 (lH rfl rfl (pF rfl) ?_)
         refine lO 7 (lW rfl (.inl rfl) rfl (sS (cs':=[v1,v2,v']) rfl zp1 (Acc.cell ha').1 rfl rfl (Acc.cell ha').2 rfl ?_))
         refine lD zk ?_
         refine gaa ?_
         exact ⟨k,_,_,by omega,⟨{ p with funcs:=p.funcs++[l] },v1,v2,v',i3,H1,H2,H',by omega,rfl,rfl,ha1,ha2,by rw[zMa];exact ha',g4,zNt hl1 zo,zNt hl2 zo,by rw[zLa,List.length_singleton];omega,hI⟩,⟨rfl,rfl,rfl,trivial⟩,hsubF,hj2.trans hj⟩
       ·rw[hr2,h3,obind_err] at hI
        refine gae ?_
        exact panP (he'.trans (hj2.trans hj)) (by cases hI;rfl) zhp
     ·rw[if_neg (by rw[hu];decide)] at hI
      simp only[hu,Bool.false_eq_true,if_false]
      refine gaf ?_
      refine oS (S.callP [_,_] rfl pH (fail_spec encPr sb T i2 0 3 hl zo) (fun _ _ _ h=>by cases h) (fun l er i' op' h e' he'=>?_)) rfl
      cases h
      refine gae ?_
      exact panP (he'.trans (hj2.trans hj)) (by cases hI;rfl) zhp
  ·have hge:T.length≤i2:=by have:=zf hc;omega
   rw[if_pos hge] at hI
   refine LCode.cellSub zp1 (cs':=[.list (p.vars.map str),.list (p.arrays.map encAr),.list (p.funcs.map encFn)]) ⟨ha1.sub,ha2.sub,ha3.sub,trivial⟩ ?_
   refine gaj ?_
   exact retP (v:=p) (hj2.trans hj) (rC (rA (k:=3) rfl zm0 rfl zsr) rN) (by cases hI;rfl) rfl (zhP zp2 zhn)
end
end Go.Proofs.YtpbbgkoalnonoaaGreatDoor
namespace Go.GL
open Go.RowKit
def LCallsD (C:Ctx) (f:FuncId) (args:List LV) (u:FrameMode) (H:Heap) (R:FrameMode→Heap→Prop):Prop:=
 ∀ (vs:List Value) w L,RepL w L args vs→RelH C w L H→CallsD C.P f vs.toArray u w fun e u' w'=>(∃ v,e=.returned v)∧LeftX C w L H w' (R u')
def LeavesL (C:Ctx) (n:Nat) (rs:List ResultVar) (R:LRes→Heap→Prop):List Deferred→FrameMode→Env→Heap→Prop
 |[],.returning,e,H=>∃ vs H',AllRes C n e H rs vs∧HSub H' H∧R (.ret (resLV vs)) H'
 |[],.panicking ch,_,H=>∃ H',HSub H' H∧R (.panic ch) H'
 |[],.run,_,_=>False
 |d::ds,u,e,H=>u≠.run∧∃ f cap H1 F,d={ target:=.fn (.func f) cap,args:=#[] }∧TEnter C.P f∧H.Perm (H1++F) ∧
   LCallsD C f (cap.toList.map .atom) u H1 fun u' H'=>LeavesL C n rs R ds (settle u') e (H'++F)
def liftP (C:Ctx) (n:Nat) (w:World) (L:Live) (K:List Nat) (Q:Post):Exit→Act→World→Prop:=
 fun x a' w'=>∃ e' H' L',Fr K w L w' L' H'∧RelH C w' L' H'∧RelE n a' e' w' L'∧Q x e' H'
theorem liftP_trans {C:Ctx} {n:Nat} {w w1:World} {L L1:Live} {K:List Nat} {H1:Heap} {Q:Post} (f:Fr K w L w1 L1 H1) {x:Exit} {a:Act} {w':World}
  (k:liftP C n w1 L1 (keys H1) Q x a w'):liftP C n w L K Q x a w':=
 let ⟨e',H',L',h1,h2,h3,h4⟩:=k
 ⟨e',H',L',f.trans h1,h2,h3,h4⟩
def LOpsP (C:Ctx) (n:Nat) (ops:Array Oper) (Q:Post) (rest:List Oper) (e:Env) (H:Heap):Prop:=
 ∀ a w L,RelE n a e w L→RelH C w L H→wpList C.P ops (liftP C n w L (keys H) Q) rest a w
def LCodeP (C:Ctx) (n:Nat) (c:Code) (Q:Post) (e:Env) (H:Heap):Prop:=
 ∀ a w L,RelE n a e w L→RelH C w L H→c.wp C.P (liftP C n w L (keys H) Q) a w
section P
variable {C:Ctx} {n:Nat} {ops:Array Oper} {Q:Post} {e:Env} {H:Heap}
theorem LOpsP.nil (h:Q .normal e H):LOpsP C n ops Q [] e H:=fun _ _ L hE hH=>⟨e,H,L,Fr.refl _ _ _,hH,hE,h⟩
theorem LOpsP.step {dst:Option Nat} {op:Op} {ty:TypeId} {pos:String} {aft:Array Edge} {rest:List Oper}
  (h:LStep C ⟨dst,op,ty,pos,aft,none⟩ e H (fun lv H'=>LOpsP C n ops Q rest (e.put dst lv) H') (fun ch H'=>Q (.panic ch) e H'))
  (hd:dstOk n dst):LOpsP C n ops Q (⟨dst,op,ty,pos,aft,none⟩::rest) e H:=fun a w L hE hH=>by
 unfold wpList
 rw[if_pos (by simp[Region.wanted])]
 have hs:=h a.eval w L hE.ev hH
 refine .inl ?_
 unfold Oper.wp
 have left:∀ {w' v},Left C w L H w' v (fun lv H'=>LOpsP C n ops Q rest (e.put dst lv) H')→wpList C.P ops (liftP C n w L (keys H) Q) rest (a.put dst v) w':=fun h=>by
  obtain ⟨lv,H',L',h1,h2,h3,h4⟩:=h
  exact wpList_mono (fun _ _ _=>liftP_trans h1) _ _ _ (h4 _ _ L' ((hE.mono h1.ext).put hd h3) h2)
 have leftX:∀ {w' ch},LeftX C w L H w' (fun H'=>Q (.panic ch) e H')→liftP C n w L (keys H) Q (.panic ch) a w':=fun h=>by
  obtain ⟨H',L',h1,h2,h3⟩:=h
  exact ⟨e,H',L',h1,h2,hE.mono h1.ext,h3⟩
 generalize (execOp a.eval ⟨dst,op,ty,pos,aft,none⟩).run C.P w=r at hs ⊢
 unfold StepOut at hs
 split at hs
 ·exact left hs
 ·exact left hs
 ·obtain ⟨rfl,hs⟩:=hs
  refine Calls.mono hs fun e w' he=>?_
  cases e with
  |returned v=>exact left he
  |panicked ch=>exact leftX he
  |outgrown=>exact he.elim
 ·exact leftX hs
 ·exact hs.elim
theorem LOpsP.pure {dst:Option Nat} {op:Op} {ty:TypeId} {pos:String} {aft:Array Edge} {rest:List Oper} {lv:LV}
  (h:Pure C ⟨dst,op,ty,pos,aft,none⟩ e H lv) (hd:dstOk n dst) (k:LOpsP C n ops Q rest (e.put dst lv) H):LOpsP C n ops Q (⟨dst,op,ty,pos,aft,none⟩::rest) e H:=
 LOpsP.step (h.step k) hd
theorem LCodeP.region {id:Nat} {l:List Oper} (h:LOpsP C n l.toArray Q l e H):LCodeP C n (.region id l.toArray false) Q e H:=fun a w L hE hH=>wp_region_lit (h a w L hE hH)
theorem LCodeP.ret (h:Q .ret e H):LCodeP C n .ret Q e H:=fun _ _ L hE hH=>wp_ret ⟨e,H,L,Fr.refl _ _ _,hH,hE,h⟩
theorem LCodeP.seq {x y:Code} (h:LCodeP C n x (QThen (fun e H=>LCodeP C n y Q e H) Q) e H):LCodeP C n (.seq x y) Q e H:=fun a w L hE hH=>by
 refine wp_seq (Go.wp_mono (h a w L hE hH) fun ex a' w' hq=>?_)
 obtain ⟨e',H',L',h1,h2,h3,h4⟩:=hq
 cases ex with
 |normal=>exact Go.wp_mono (h4 a' w' L' h3 h2) fun _ _ _=>liftP_trans h1
 |exit id=>exact ⟨e',H',L',h1,h2,h3,h4⟩
 |goto id=>exact ⟨e',H',L',h1,h2,h3,h4⟩
 |ret=>exact ⟨e',H',L',h1,h2,h3,h4⟩
 |panic ch=>exact ⟨e',H',L',h1,h2,h3,h4⟩
 |outgrown=>exact ⟨e',H',L',h1,h2,h3,h4⟩
theorem LCodeP.block {id:Nat} {c:Code} (h:LCodeP C n c (QBlock id Q) e H):LCodeP C n (.block id c) Q e H:=fun a w L hE hH=>by
 refine wp_block (Go.wp_mono (h a w L hE hH) fun ex a' w' hq=>?_)
 obtain ⟨e',H',L',h1,h2,h3,h4⟩:=hq
 cases ex with
 |exit id'=>
  simp only[Exit.inBlock,QBlock] at h4 ⊢
  split
  ·rename_i hid;rw[if_pos hid] at h4;exact ⟨e',H',L',h1,h2,h3,h4⟩
  ·rename_i hid;rw[if_neg hid] at h4;exact ⟨e',H',L',h1,h2,h3,h4⟩
 |normal=>exact ⟨e',H',L',h1,h2,h3,h4⟩
 |goto id=>exact ⟨e',H',L',h1,h2,h3,h4⟩
 |ret=>exact ⟨e',H',L',h1,h2,h3,h4⟩
 |panic ch=>exact ⟨e',H',L',h1,h2,h3,h4⟩
 |outgrown=>exact ⟨e',H',L',h1,h2,h3,h4⟩
def QNo (Q:Post):Post
 |.panic _,_,_=>False
 |x,e,H=>Q x e H
theorem LCodeP.of {c:Code} (h:LCode C n c (QNo Q) e H):LCodeP C n c Q e H:=fun a w L hE hH=>by
 refine Go.wp_mono (h a w L hE hH) fun ex a' w' hq=>?_
 obtain ⟨e',H',L',h1,h2,h3,h4⟩:=hq
 cases ex with
 |panic ch=>exact h4.elim
 |normal=>exact ⟨e',H',L',h1,h2,h3,h4⟩
 |exit id=>exact ⟨e',H',L',h1,h2,h3,h4⟩
 |goto id=>exact ⟨e',H',L',h1,h2,h3,h4⟩
 |ret=>exact ⟨e',H',L',h1,h2,h3,h4⟩
 |outgrown=>exact ⟨e',H',L',h1,h2,h3,h4⟩
theorem QNo.normal {k:Env→Heap→Prop} (h:k e H):QNo (QThen k Q) .normal e H:=h
theorem QNo.ret (h:Q .ret e H):QNo Q .ret e H:=h
end P
def RetPostD (C:Ctx) (n:Nat) (rs:List ResultVar) (R:LRes→Heap→Prop):Post
 |.normal,e,H|.ret,e,H=>LeavesL C n rs R e.ds .returning e H
 |.panic ch,e,H=>LeavesL C n rs R e.ds (.panicking ch) e H
 |_,_,_=>False
theorem leavesL {C:Ctx} {n:Nat} {fn:Func} {R:LRes→Heap→Prop} {w0:World} {L0:Live} {H0:Heap} (h3:fn.results.size≤3) (tmps:Array Value):∀ (ds:List Deferred) (u:FrameMode) (e:Env) (H:Heap) (w:World) (L:Live),tmps.size=n→(∀ i,Rep w L (e.s i) (tmps.getD i undef))→RelH C w L H→Fr (keys H0) w0 L0 w L H →
  LeavesL C n fn.results.toList R ds u e H→Leaves C.P fn tmps (CallPost C w0 L0 H0 (fun v=>R (.ret v)) (fun ch=>R (.panic ch))) ds u w
 |[],.returning,e,H,w,L,hn,hv,hH,hF,h=>by
  obtain ⟨vs,H',h1,h2,h5⟩:=h
  obtain ⟨v,r1,r2⟩:=results_of (a:={ tmps,defers:=e.ds }) ⟨hn,rfl,hv⟩ hH h1 h3
  exact ⟨v,r1,resLV vs,H',L,hF.weak h2,hH.weak h2,r2,h5⟩
 |[],.panicking ch,e,H,w,L,hn,hv,hH,hF,h=>by
  obtain ⟨H',h2,h5⟩:=h
  exact ⟨H',L,hF.weak h2,hH.weak h2,h5⟩
 |[],.run,e,H,w,L,hn,hv,hH,hF,h=>h.elim
 |d::ds,u,e,H,w,L,hn,hv,hH,hF,h=>by
  obtain ⟨hu,f,cap,H1,F,rfl,hen,hp,hc⟩:=h
  refine ⟨hu,.func f,cap,f,cap,rfl,by simp[invoke,run_callFunc],?_⟩
  have hH':=hH.perm hp
  have:=hc cap.toList w L (repL_atoms _) hH'.left
  simp only[Array.toArray_toList] at this
  refine CallsD.mono this ?_
  rintro ex u' w' ⟨⟨v,rfl⟩,hx⟩
  obtain ⟨H',L',g1,g2,g3⟩:=LeftX.frame hH' hx
  exact leavesL h3 tmps ds (settle u') e H' w' L' hn (fun i=>(hv i).mono g1.ext _ _) g2 (hF.trans (g1.perm hp.symm)) g3
theorem LCallsD.mono {C:Ctx} {f:FuncId} {args:List LV} {u:FrameMode} {H:Heap} {R R':FrameMode→Heap→Prop} (h:LCallsD C f args u H R) (hr:∀ u H,R u H→R' u H):LCallsD C f args u H R':=fun vs w L h1 h2=>
 CallsD.mono (h vs w L h1 h2) fun _ _ _ ⟨h3,h4⟩=>⟨h3,h4.mono (hr _)⟩
theorem LCalls.introD {C:Ctx} {f:FuncId} {fn:Func} {c:Code} {n:Nat} {args:List LV} {H:Heap} {R:LRes→Heap→Prop} (hf:C.P.funcs[f]? = some fn) (hb:fn.body=some c) (hn:fn.ntmps=n) (h3:Nat.ble fn.results.size 3=true)
  (hl:Nat.ble args.length n=true) (h:LCodeP C n c (RetPostD C n fn.results.toList R) (argsEnv args) H):LCalls C f args H R:=fun vs w L hv hH=>by
 subst hn
 have hl':args.length≤fn.ntmps:=by simpa using hl
 have h3':fn.results.size≤3:=by simpa using h3
 have hlen:=hv.length
 refine calls_of_wp_defers hf hb (Go.wp_mono (h _ w L ⟨?_,rfl,fun i=>?_⟩ hH) fun ex a' w' hq=>?_)
 ·simp;omega
 ·exact zT3
 ·obtain ⟨e',H',L',g1,g2,g3,g4⟩:=hq
  have ret:∀ u,LeavesL C fn.ntmps fn.results.toList R e'.ds u e' H'→Leaves C.P fn a'.tmps (CallPost C w L H (fun v=>R (.ret v)) (fun ch=>R (.panic ch))) a'.defers u w':=fun u hu=>by
   rw[g3.ds]
   exact leavesL h3' a'.tmps _ u e' H' w' L' g3.size g3.vals g2 g1 hu
  cases ex with
  |normal=>exact ret _ g4
  |ret=>exact ret _ g4
  |panic ch=>exact ret _ g4
  |exit id=>exact g4.elim
  |goto id=>exact g4.elim
  |outgrown=>exact g4.elim
abbrev PostS:=Exit→FrameMode→Env→Heap→Prop
def LCodeS (C:Ctx) (n:Nat) (c:Code) (Q:PostS) (u:FrameMode) (e:Env) (H:Heap):Prop:=
 ∀ a w L (c0:Frame) cs,c0.mode=u→RelE n a e w L→RelH C w L H →
  c.wpS C.P (fun x a' cs' w'=>∃ u' e' H' L',cs'={ c0 with mode:=u' }::cs∧Fr (keys H) w L w' L' H'∧RelH C w' L' H'∧RelX n x a' e' w' L'∧Q x u' e' H') a (c0::cs) w
theorem wpS_mono {P:Program} {c:Code} {Q Q':Exit→Act→List Frame→World→Prop} {a:Act} {cs:List Frame} {w:World} (h:c.wpS P Q a cs w) (hq:∀ x a cs w,Q x a cs w→Q' x a cs w):c.wpS P Q' a cs w:=fun b k h1 h2=>
 let ⟨e,a',cs',w',q,r⟩:=h b k h1 h2
 ⟨e,a',cs',w',hq _ _ _ _ q,r⟩
section S
variable {C:Ctx} {n:Nat} {Q:PostS} {u:FrameMode} {e:Env} {H:Heap}
theorem LCodeS.of {c:Code} (h:LCode C n c (fun x e H=>Q x u e H) e H):LCodeS C n c Q u e H:=fun a w L c0 cs hu hE hH=>by
 refine wpS_of_wp (Go.wp_mono (h a w L hE hH) fun x a' w' hq=>?_)
 obtain ⟨e',H',L',h1,h2,h3,h4⟩:=hq
 exact ⟨u,e',H',L',by subst hu;rfl,h1,h2,h3,h4⟩
theorem LCodeS.seq {x y:Code} (h:LCodeS C n x (fun ex u' e' H'=>match ex with|.normal=>LCodeS C n y Q u' e' H'|ex=>Q ex u' e' H') u e H):LCodeS C n (.seq x y) Q u e H:=fun a w L c0 cs hu hE hH=>by
 refine wpS_seq (wpS_mono (h a w L c0 cs hu hE hH) fun ex a' cs' w' hq=>?_)
 obtain ⟨u',e',H',L',rfl,h1,h2,h3,h4⟩:=hq
 cases ex with
 |normal=>
  refine wpS_mono (h4 a' w' L' { c0 with mode:=u' } cs rfl h3 h2) ?_
  rintro ex a2 cs2 w2 ⟨u2,e2,H2,L2,rfl,g1,g2,g3,g4⟩
  exact ⟨u2,e2,H2,L2,rfl,h1.trans g1,g2,g3,g4⟩
 |exit id=>exact ⟨u',e',H',L',rfl,h1,h2,h3,h4⟩
 |goto id=>exact ⟨u',e',H',L',rfl,h1,h2,h3,h4⟩
 |ret=>exact ⟨u',e',H',L',rfl,h1,h2,h3,h4⟩
 |panic ch=>exact ⟨u',e',H',L',rfl,h1,h2,h3,h4⟩
 |outgrown=>exact ⟨u',e',H',L',rfl,h1,h2,h3,h4⟩
def recMode:FrameMode→Value×FrameMode
 |.panicking ({ v,recovered:=false,goexit:=false }::older)=>(v,.panicking ({ v,recovered:=true }::older))
 |u=>(.nilIface,u)
theorem recover_run {P:Program} {ρ:Operand→Value} {dst:Option Nat} {ty:TypeId} {pos:String} {aft:Array Edge} {g:Option (Nat×Bool)} (w:World) :
  (execOp ρ ⟨dst,.call { callee:=.builtin .recover,args:=#[],argTypes:=#[] },ty,pos,aft,g⟩).run P w=.ok .recover w:=by
 rfl
theorem recoverD_eq (c0:Frame) (cs:List Frame):recoverD (c0::cs)=none∧recMode c0.mode=(.nilIface,c0.mode)∨recoverD (c0::cs)=some ((recMode c0.mode).1,{ c0 with mode:=(recMode c0.mode).2 }::cs):=by
 obtain ⟨fn,tmps,todo,defers,mode,kind,ro⟩:=c0
 cases mode with
 |run=>exact .inl ⟨rfl,rfl⟩
 |returning=>exact .inl ⟨rfl,rfl⟩
 |panicking ch=>
  cases ch with
  |nil=>exact .inl ⟨rfl,rfl⟩
  |cons p older=>
   obtain ⟨v,r,g⟩:=p
   cases r <;> cases g <;> first|exact .inl ⟨rfl,rfl⟩|exact .inr rfl
theorem LCodeS.recover {id t s:Nat} {ty ty':TypeId} {pos pos':String} {aft aft':Array Edge} (ht:Nat.blt t n=true) (hs:Nat.blt s n=true) (h:Q .normal (recMode u).2 ((e.upd t (.atom (recMode u).1)).upd s (.atom (recMode u).1)) H) :
  LCodeS C n (.region id #[⟨some t,.call { callee:=.builtin .recover,args:=#[],argTypes:=#[] },ty,pos,aft,none⟩,⟨some s,.assign (.tmp t),ty',pos',aft',none⟩] false) Q u e H:=fun a w L c0 cs hu hE hH=>by
 refine wpS_region ?_
 have hE1:∀ v,RelE n (a.put (some t) v) (e.upd t (.atom v)) w L:=fun v=>hE.put (dst:=some t) (by simp only[dstOk,dstB];exact ht) rep_atom
 have hev:∀ v,(a.put (some t) v).eval (.tmp t)=v:=fun v=>by
  have:=(hE1 v).ev (.tmp t)
  simpa [Env.ev,Env.upd,Rep] using this
 have hE2:∀ v,RelE n ((a.put (some t) v).put (some s) v) ((e.upd t (.atom v)).upd s (.atom v)) w L:=fun v=>(hE1 v).put (dst:=some s) (by simp only[dstOk,dstB];exact hs) rep_atom
 have h1:∀ v cs1,wpOpsS C.P #[⟨some t,.call { callee:=.builtin .recover,args:=#[],argTypes:=#[] },ty,pos,aft,none⟩,⟨some s,.assign (.tmp t),ty',pos',aft',none⟩] (fun x a' cs' w'=>∃ u' e' H' L',cs'={ c0 with mode:=u' }::cs∧Fr (keys H) w L w' L' H'∧RelH C w' L' H'∧RelX n x a' e' w' L'∧Q x u' e' H') [1] (a.put (some t) v) cs1 w
   ↔ (fun x a' cs' w'=>∃ u' e' H' L',cs'={ c0 with mode:=u' }::cs∧Fr (keys H) w L w' L' H'∧RelH C w' L' H'∧RelX n x a' e' w' L'∧Q x u' e' H') Exit.normal ((a.put (some t) v).put (some s) v) cs1 w:=by
  intro v cs1
  have hr:(execOp (a.put (some t) v).eval ⟨some s,.assign (.tmp t),ty',pos',aft',none⟩).run C.P w=.ok (.value ((a.put (some t) v).eval (.tmp t))) w:=rfl
  simp only[wpOpsS,List.getElem?_toArray,List.getElem?_cons_succ,List.getElem?_cons_zero,Region.wanted,if_true,hr,Oper.upon,hev]
 have h0:(execOp a.eval ⟨some t,.call { callee:=.builtin .recover,args:=#[],argTypes:=#[] },ty,pos,aft,none⟩).run C.P w=.ok .recover w:=recover_run w
 have hl:List.range (#[(⟨some t,.call { callee:=.builtin .recover,args:=#[],argTypes:=#[] },ty,pos,aft,none⟩:Oper),⟨some s,.assign (.tmp t),ty',pos',aft',none⟩]:Array Oper).size=[0,1]:=rfl
 rw[hl,wpOpsS]
 simp only[List.getElem?_toArray,List.getElem?_cons_zero,Region.wanted,if_true,h0]
 rcases recoverD_eq c0 cs with ⟨h2,h3⟩|h2
 ·simp only[h2]
  rw[h1]
  subst hu
  rw[h3] at h
  exact ⟨c0.mode,_,H,L,rfl,Fr.refl _ _ _,hH,hE2 _,h⟩
 ·simp only[h2]
  rw[h1]
  subst hu
  exact ⟨_,_,H,L,rfl,Fr.refl _ _ _,hH,hE2 _,h⟩
def RetPostS (R:FrameMode→Heap→Prop):PostS
 |.normal,u,e,H|.ret,u,e,H=>e.ds=[]∧∃ H',HSub H' H∧R u H'
 |_,_,_,_=>False
theorem LCallsD.intro {f:FuncId} {fn:Func} {c:Code} {args:List LV} {R:FrameMode→Heap→Prop} (hf:C.P.funcs[f]? = some fn) (hb:fn.body=some c) (hn:fn.ntmps=n) (h3:fn.results=#[])
  (hl:Nat.ble args.length n=true) (h:LCodeS C n c (RetPostS R) u (argsEnv args) H):LCallsD C f args u H R:=fun vs w L hv hH=>by
 subst hn
 have hl':args.length≤fn.ntmps:=by simpa using hl
 have hlen:=hv.length
 have hE0:RelE fn.ntmps { tmps:=vs.toArray++Array.replicate (fn.ntmps-vs.toArray.size) undef,defers:=[] } (argsEnv args) w L:=by
  refine ⟨?_,rfl,fun i=>?_⟩
  ·simp;omega
  ·exact zT3
 refine callsD_of_wpS hf hb fun c0 cs hu=>wpS_mono (h _ w L c0 cs hu hE0 hH) fun ex a' cs' w' hq=>?_
 obtain ⟨u',e',H',L',rfl,g1,g2,g3,g4⟩:=hq
 have fin:RelE fn.ntmps a' e' w' L'→(e'.ds=[]∧∃ H'',HSub H'' H'∧R u' H'')→a'.defers=[]∧∃ u'',({ c0 with mode:=u' }::cs:List Frame)={ c0 with mode:=u'' }::cs∧∃ v,(results fn a'.tmps).run C.P w'=.ok v w'∧(∃ v',Ending.returned v=.returned v')∧LeftX C w L H w' (R u''):=fun hE ⟨h1,H'',h2,h4⟩=>
  ⟨hE.ds.trans h1,u',rfl,_,results0 h3 _ _,⟨_,rfl⟩,H'',L',g1.weak h2,g2.weak h2,h4⟩
 cases ex with
 |normal=>exact fin g3 g4
 |ret=>exact fin g3 g4
 |panic ch=>exact g4.elim
 |exit id=>exact g4.elim
 |goto id=>exact g4.elim
 |outgrown=>exact g4.elim
end S
section defer
variable {C:Ctx} {n:Nat} {ops:Array Oper} {Q:Post} {e:Env} {H:Heap}
theorem LOpsP.defer {dst:Option Nat} {fo:Operand} {f:FuncId} {caps:Array Value} {ty:TypeId} {pos:String} {aft:Array Edge} {rest:List Oper} (hf:e.ev fo=.atom (.func (.func f) #[] caps)) (hd:dst=none)
  (k:LOpsP C n ops Q rest ⟨e.s,{ target:=.fn (.func f) caps,args:=#[] }::e.ds⟩ H):LOpsP C n ops Q (⟨dst,.defer { callee:=.value fo,args:=#[],argTypes:=#[] },ty,pos,aft,none⟩::rest) e H:=fun a w L hE hH=>by
 subst hd
 have hv:=hE.ev fo
 rw[hf] at hv
 simp only[Rep] at hv
 have hr:(execOp a.eval ⟨none,.defer { callee:=.value fo,args:=#[],argTypes:=#[] },ty,pos,aft,none⟩).run C.P w=.ok (.defer { target:=.fn (.func f) caps,args:=#[] }) w:=by
  have h3:execOp a.eval ⟨none,.defer { callee:=.value fo,args:=#[],argTypes:=#[] },ty,pos,aft,none⟩=(do let d ←Deferred.ofValue (a.eval fo) ((#[]:Array Operand).map a.eval);Pure.pure (.defer d)):=rfl
  rw[h3,hv]
  simp only[Deferred.ofValue,List.map_toArray,List.map_nil]
  rfl
 unfold wpList
 rw[if_pos (by simp[Region.wanted])]
 refine .inl ?_
 unfold Oper.wp
 rw[hr]
 simp only[Oper.upon,Act.put]
 exact k _ w L ⟨hE.size,by show _::a.defers=_;rw[hE.ds],hE.vals⟩ hH
end defer
end Go.GL
