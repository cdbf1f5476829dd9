/- Texts joined: InpW8, ParP8, ParS1, ParS2, ParS3, ParS4, GlDefer, ParS5, InpW9, GlGrow. -/
import Derived.Recover
import Derived.Test.YtdakelgkjdaijaaGreatDoorBRowTS3
import Derived.Test.YtdakelgkjdaijaaGreatDoorBRowTS4
import Derived.Test.YtdakelgkjdaijaaGreatDoorBRowTS8
set_option linter.unusedVariables false
set_option linter.unusedSimpArgs false
set_option maxRecDepth 100000
set_option maxHeartbeats 4000000
namespace Go.Proofs.YtdakelgkjdaijaaGreatDoor.Inp
open Go.GL Go.RowKit Go.Stele
theorem qp5 {c:CEnv} {op:List UInt8} {num:Nat} {name:List UInt8} {args:List Ex} (h:errE c (.mk op num name args)=0):(qci op = -1∨qci op=args.length)/\qb6 c args=0/\useE c op name args.length=0:=by
 rw[errE] at h;split at h
 ·rename_i h1
  obtain ⟨h2,h3⟩:=qap.1 h;exact ⟨h1,h2,h3⟩
 ·cases h
theorem qoK {l:List Nat} (h:l.length=1):∃ a,l=[a]:=by
 cases l with
 |nil=>cases h
 |cons a l=>
  cases l with
  |nil=>exact ⟨a,rfl⟩
  |cons b l=>simp at h
theorem qv3 {l:List Nat} (h:l.length=2):∃ a b,l=[a,b]:=by
 cases l with
 |nil=>cases h
 |cons a l=>
  obtain ⟨b,rfl⟩:=qoK (l:=l) (by simpa using h);exact ⟨a,b,rfl⟩
theorem qvL {a:Nat} (h:a<4294967296):IntKind.u32.wrap (0-(a:Int))=(((4294967296-a) % 4294967296:Nat):Int):=by
 rw[qek];omega
theorem qvZ {A:Type} (l r:List A) (x y:A):(l++x::r).set l.length y=l++y::r:=by
 induction l with
 |nil=>rfl
 |cons a l ih=>simp only[List.cons_append,zLc,List.set_cons_succ,ih]
theorem qmm {H1 H2 X:Heap} (hp:H1.Perm H2) (h:HSub X H2):HSub X H1:=
 let ⟨G,hG⟩:=h
 ⟨G,hp.trans hG⟩
attribute [local irreducible] LOps qae qad LCalls Go.GL.Pure qax qaj qac LQ LAny qaE qal LS
section
variable {B0:Nat} {w0:World}
theorem qsr {c:Cfg} (hC:CfgOk c) {n:Nat} (hE:qqb B0 w0 c n) (hB:BlkH B0 w0 c n):qqb B0 w0 c (n+1):=by
 intro f kn x s H hf hk hv hnum hsm hg hs;obtain ⟨op,num,name,args⟩:=x;obtain ⟨hop,hargs,huse⟩:=qp5 hv;obtain ⟨hn1,hn2⟩:=hnum;obtain ⟨hm1,hm2⟩:=hsm;have hal:args.length<=2000000:=hm1;generalize hI:evI c.p (n+1) f (Ex.mk op num name args) s=R;rw[evI] at hI;rw[qcx];refine cI Tryz.func212 rfl (n:=92) rfl rfl rfl ?_;refine gah ?_;refine oS (sB rfl fun b4=>?_) rfl;refine oS (sB rfl fun b5=>?_) rfl;refine gao ?_;refine oS (S.callI [_] rfl qd0 (qgu hC hs) (fun u s1 H1 hr hs1=>?_) (fun er s1 H1 hr hs1 e' he'=>?_)) rfl;rotate_left
 ·refine gak ?_;rw[hr,qbQ] at hI;exact qeK (he'.trans rfl) hI.symm qaF hs1
 have hg1:Good c n s1/\s1.out.length+s1.left+1<=c.lim:=by
  have h1:=qiC hr;have h2:=qkP hg.1;rw[hr] at h2
  have h3:s1.out=s.out:=by
   unfold tick at hr;split at hr
   ·cases hr
   ·cases hr;rfl
  have h4:=hg.2.1;have h5:=hg.2.2;exact ⟨⟨h2.2,by omega,by rw[h3];omega⟩,by rw[h3];omega⟩
 rw[hr,qeo] at hI;refine LOps.perm (qd0 (H:=H1)).symm ?_;refine gaa ?_;refine oS (S.makeRow (n:=args.length) (k:=.i64) (k2:=.i64) (qak (by rw[zLm])) (qak (by rw[zLm])) zo zo fun b7=>?_) rfl;refine gac ?_
 refine oL (fun k ls H'=>∃ (pre l1:List Ex) (vs:List Nat) (s2:IS) (Hs:Heap),args=pre++l1/\vs.length=pre.length/\(∀ v∈vs,Lt v)/\k=l1.length/\ls=[(0,ptr c.rb 0),(4,ptr b4 0),(5,ptr b5 0),(7,rowV b7 args.length),(17,.list (args.map encE)),(18,int .i64 ((args.map encE).length:Int)),(19,int .i64 (pre.length:Int))] /\
   H'=(b7,.cells 56 (vs.map u32++List.replicate l1.length (u32 0)))::(b5,.cells 193 [str op,u32 num,str name,.list (args.map encE)])::(b4,.cells 79 [str f.name,.list (f.params.map str),.list (f.locals.map str),.list (f.body.map encS)])::Hs /\
   St c s2 Hs/\Good c n s2/\s2.out.length+s2.left+1<=c.lim/\qb6 (cenv c kn f) l1=0/\qbg l1/\smEs l1/\(mapR (evI c.p n f) l1 s2).bind (fun vs' s=>opI c.p (stI c.p n) f op num name (vs++vs') s)=R)
  ⟨args.length,_,_,⟨[],args,[],s1,H1,rfl,rfl,fun v hv=>(List.not_mem_nil hv).elim,rfl,rfl,rfl,hs1,hg1.1,hg1.2,hargs,hn2,hm2,hI⟩,⟨rfl,rfl,rfl,rfl,rfl,rfl,rfl,trivial⟩,zhR _⟩ ?_
 rintro k ls H' ⟨pre,l1,vs,s2,Hs,hpre,hvl,hvlt,rfl,rfl,rfl,hs2,hg2,hroom,he2,hnn2,hmm2,hI2⟩ j hj
 have hl6:pre.length<=2000000:=by
  have:=hal;rw[hpre,zLa] at this;omega
 refine gaj ?_;refine oC rfl (fun hc=>?_) (fun hc=>?_)
 ·have hlen:=zt hc;rw[zLm,hpre,zLa] at hlen
  obtain ⟨a,l2,rfl⟩:∃ a l2,l1=a::l2:=by
   cases l1 with
   |nil=>simp at hlen
   |cons a l2=>exact ⟨a,l2,rfl⟩
  rw[qb6] at he2;obtain ⟨hea,hel⟩:=qap.1 he2;rw[qqx] at hI2;refine gaa ?_;refine oP (xR (el':=encE a) (cs:=[_,_,_,_]) rfl rfl zo (by rw[hpre];exact get_mid encE pre a l2) rfl rfl) rfl ?_;refine gad ?_;refine oS (sA fun b9=>?_) rfl;refine gac ?_;refine oS (S.callI [_,_,_] rfl (zPc (l₁:=[_,_,_,_])) (hE f kn a s2 Hs hf hk hea hnn2.1 hmm2.1 hg2 hs2) (fun v s3 H3 hr3 hs3=>?_) (fun er s3 H3 hr3 hs3 e' he'=>?_)) rfl;rotate_left
  ·refine gae ?_;rw[hr3,qbQ] at hI2;exact qeK (he'.trans hj) hI2.symm qaF hs3
  obtain ⟨hg3,hv3,_⟩:=qkY hC hnn2.1 hg2 hr3;have hf3:=(qjE c.p n).1 f a s2;rw[hr3] at hf3;have hf3':s3.out.length+s3.left<=s2.out.length+s2.left+0:=hf3;rw[hr3,qeo] at hI2;refine LOps.perm (zPc (l₂:=[_,_,_,_])) ?_
  have hlt:pre.length<args.length:=by
   rw[hpre,zLa,zLc];omega
  refine oP (Pure.indexRow rfl rfl zo zo) rfl ?_;have ecs:vs.map u32++List.replicate (a::l2).length (u32 0)=vs.map u32++u32 0::List.replicate l2.length (u32 0):=rfl;rw[ecs]
  refine oS (sS (n:=1) (vs:=[u32 v]) (cs':=(vs++[v]).map u32++List.replicate l2.length (u32 0)) rfl zp1 rfl rfl (by simp[hvl]) rfl (by
   rw[show 0+((pre.length:Int)).toNat * 1=(vs.map u32).length by rw[zLm,hvl];simp,qgW _ _ _ (by simp),qvZ]
   simp) ?_) rfl
  refine gan ?_
  exact ⟨l2.length,_,_,Nat.lt_succ_self _,⟨pre++[a],l2,vs++[v],s3,H3,by rw[hpre];simp,by simp[hvl],fun y hy=>by
   rcases List.mem_append.1 hy with h1|h1
   ·exact hvlt y h1
   ·rw[List.mem_singleton.1 h1];exact hv3,rfl,rfl,rfl,hs3,hg3,by omega,hel,hnn2.2,hmm2.2,by
    rw[<-hI2]
    simp only[zAs,List.singleton_append]⟩,⟨rfl,rfl,rfl,rfl,rfl,rfl,qak (by simp),trivial⟩,zhP pH (zhD zhr),hj⟩
 have hlen:=zf hc;rw[zLm,hpre,zLa] at hlen
 obtain rfl:l1=[]:=by
  cases l1 with
  |nil=>rfl
  |cons a l2=>simp at hlen;omega
 rw[mapR,qeo,zLz] at hI2;have hvn:vs.length=args.length:=by rw[hvl,hpre,zLz]
 have hcs:vs.map u32++List.replicate ([]:List Ex).length (u32 0)=(vs.map fun (v:Nat)=>Value.int .u32 (v:Int)).map .atom:=by
  rw[List.map_map];simp only[zLn,List.replicate_zero,zLz];rfl
 have hvn2:args.length=(vs.map fun (v:Nat)=>Value.int .u32 (v:Int)).length:=by rw[zLm,hvn]
 rw[hcs];have hI:=hI2;clear hI2;refine gab ?_;refine qae.rowShut 7 (vs:=vs.map fun (v:Nat)=>Value.int .u32 (v:Int)) pH (by rw[<-hvn2];rfl) ?_;rw[show (vs.map fun (v:Nat)=>Value.int .u32 (v:Int)).map LV.atom=vs.map u32 by rw[List.map_map];rfl];rw[<-hvn] at hop huse;unfold opI at hI;obtain ⟨hb2,hl2,_⟩:=hg2;refine gaa ?_
 by_cases h1:op=[110,117,109]
 ·subst h1;rw[if_pos rfl] at hI;refine oC rfl (fun hc=>?_) (fun hc=>by cases hc);refine gaa ?_;exact retI (v:=num) hj (zra rfl) hI.symm rfl (zhD (zhD zhr)) hs2
 refine oC rfl (fun hc=>absurd (zt hc) h1) (fun _=>?_);rw[if_neg h1] at hI;refine gas ?_
 by_cases h2:op=[118,97,114]
 ·subst h2;rw[if_pos rfl] at hI;unfold useE at huse;rw[if_pos (show ([118,97,114]:List UInt8)=nVar from rfl)] at huse;have hpl:=qkz hf huse;obtain ⟨b,hb1,hb3⟩:=hC.block hpl;obtain ⟨G,hG1,_⟩:=quY hC hb1 hs2;refine oC rfl (fun hc=>?_) (fun hc=>by cases hc);refine gac ?_;refine oS (S.callS [_,_,_] rfl qd0 (qbK hC hs2 hf hpl hb3) ?_) rfl;refine LOps.perm (qd0 (H:=Hs)).symm ?_;refine oP (pN rfl) rfl ?_;refine oP (pL (c:=u32 (s2.sc (keyI f name))) rfl (zMo _ (zMo _ (hG1.mem_iff.2 zMs))) rfl) rfl ?_;refine gab ?_;exact retI (v:=s2.sc (keyI f name)) hj (zra rfl) hI.symm rfl (zhD (zhD zhr)) hs2
 refine oC rfl (fun hc=>absurd (zt hc) h2) (fun _=>?_);rw[if_neg h2] at hI;refine gas ?_
 by_cases h3:op=[101,108,101,109]
 ·subst h3;rw[if_pos rfl] at hI;unfold useE at huse;rw[if_neg zDd,if_pos (show ([101,108,101,109]:List UInt8)=qcY from rfl)] at huse
  have hpl:name∈c.p.arrays.map (·.name):=by
   unfold qfF at huse;split at huse
   ·rename_i h
    exact h
   ·split at huse <;> cases huse
  obtain ⟨b,m,hb1,hb3⟩:=hC.arr hpl;obtain ⟨hlen2,G,hG1,_⟩:=qwc hC hb1 hs2
  obtain ⟨a,rfl⟩:∃ a,vs=[a]:=qoK (by
   rcases hop with h|h
   ·exact absurd h zDd
   ·have h9:(1:Int)=(vs.length:Int):=h
    omega)
  have ha:a<4294967296:=hvlt a zMs;refine oC rfl (fun hc=>?_) (fun hc=>by cases hc);refine gab ?_;refine qae.tail 6 zk ?_;refine gad ?_;refine lP (xR (el':=u32 a) (cs:=[u32 a]) rfl rfl zo rfl rfl rfl) rfl ?_;refine gad ?_;refine oS (S.callH (H1:=Hs) [_,_,_] rfl qd0 (qfq hC hs2 hb1 hb3 ha) ?_ ?_) rfl
  ·rintro lv H' ⟨rfl,h⟩
   by_cases hin:a<m
   ·rw[if_pos hin] at h;cases h;have hget:(s2.ar name)[a]? = some (s2.ar name)[a]:=List.getElem?_eq_getElem zo
    have hI':(match (s2.ar name)[a]? with
     |some v=>IR.ok v s2
     |none=>.stop 2 s2)=R:=hI
    rw[hget] at hI';refine oP (pN rfl) rfl ?_;refine oP (pL (c:=u32 (s2.ar name)[a]) rfl (List.mem_append_left _ (hG1.mem_iff.2 zMs)) (by rw[List.getElem?_map,hget];rfl)) rfl ?_;refine gab ?_;exact retI (v:=(s2.ar name)[a]) hj (zra rfl) hI'.symm rfl qaF hs2
   ·rw[if_neg hin] at h;cases h
  ·rintro ch H' ⟨rfl,h⟩ e' he'
   by_cases hin:a<m
   ·rw[if_pos hin] at h;cases h
   ·rw[if_neg hin] at h;cases h;have hget:(s2.ar name)[a]? = none:=List.getElem?_eq_none zo
    have hI':(match (s2.ar name)[a]? with
     |some v=>IR.ok v s2
     |none=>.stop 2 s2)=R:=hI
    rw[hget] at hI';refine gae ?_;exact qeK (he'.trans hj) hI'.symm qaF hs2
 refine oC rfl (fun hc=>absurd (zt hc) h3) (fun _=>?_);rw[if_neg h3] at hI;refine gas ?_
 by_cases h4:op=[110,101,103]
 ·subst h4;rw[if_pos rfl] at hI
  obtain ⟨a,rfl⟩:∃ a,vs=[a]:=qoK (by
   rcases hop with h|h
   ·exact absurd h zDd
   ·have h9:(1:Int)=(vs.length:Int):=h
    omega)
  have ha:a<4294967296:=hvlt a zMs;refine oC rfl (fun hc=>?_) (fun hc=>by cases hc);refine gaa ?_;refine oP (xR (el':=u32 a) (cs:=[u32 a]) rfl rfl zo rfl rfl rfl) rfl ?_;refine gad ?_;refine oP (Pure.negW rfl) rfl ?_;refine gab ?_;exact retI (v:=(4294967296-a) % 4294967296) hj (zra rfl) hI.symm (qak (qvL ha)) (zhD (zhD zhr)) hs2
 refine oC rfl (fun hc=>absurd (zt hc) h4) (fun _=>?_);rw[if_neg h4] at hI;refine gas ?_
 by_cases h5:op=[110,111,116]
 ·subst h5;rw[if_pos rfl] at hI
  obtain ⟨a,rfl⟩:∃ a,vs=[a]:=qoK (by
   rcases hop with h|h
   ·exact absurd h zDd
   ·have h9:(1:Int)=(vs.length:Int):=h
    omega)
  refine oC rfl (fun hc=>?_) (fun hc=>by cases hc);refine gaa ?_;refine oP (xR (el':=u32 a) (cs:=[u32 a]) rfl rfl zo rfl rfl rfl) rfl ?_;refine gad ?_;refine oS (S.callS (F:=[]) [_] rfl (by rw[zLz]) (qj7 _) ?_) rfl;rw[zLz];refine gab ?_;exact retI (v:=b2n (decide (a=0))) hj (zra rfl) hI.symm (congrArg u32 (qhA zo)) (zhD (zhD zhr)) hs2
 refine oC rfl (fun hc=>absurd (zt hc) h5) (fun _=>?_);rw[if_neg h5] at hI;refine gas ?_
 by_cases h6:op=[99,97,108,108]
 ·subst h6;rw[if_pos rfl] at hI;unfold useE at huse;rw[if_neg zDd,if_neg zDd,if_pos (show ([99,97,108,108]:List UInt8)=qbG from rfl)] at huse;refine oC rfl (fun hc=>?_) (fun hc=>by cases hc);refine gaa ?_;refine oS (S.callI [_,_,_] rfl qd0 (qi6 hC hB hk huse hvlt hb2 hl2 hroom hs2) (fun v s3 H3 hr3 hs3=>?_) (fun er s3 H3 hr3 hs3 e' he'=>?_)) rfl
  ·rw[hr3] at hI;refine gab ?_;exact retI (v:=v) hj (zra rfl) hI.symm rfl qaF hs3
  ·refine gae ?_;rw[hr3] at hI;exact qeK (he'.trans hj) hI.symm qaF hs3
 refine oC rfl (fun hc=>absurd (zt hc) h6) (fun _=>?_);rw[if_neg h6] at hI;refine gab ?_
 have hbin:op∈qjL/\vs.length=2:=by
  unfold qci at hop;rw[if_neg (fun h=>h.elim h1 h2),if_neg (fun h=>h.elim h3 (fun h=>h.elim h4 h5)),if_neg (show ¬ op=qbG from h6)] at hop;split at hop
  ·rename_i h
   refine ⟨h,?_⟩;rcases hop with h|h <;> omega
  ·rcases hop with h|h <;> omega
 obtain ⟨hbo,hv2⟩:=hbin;obtain ⟨a,b2,rfl⟩:=qv3 hv2;have ha:a<4294967296:=hvlt a zMs;have hb:b2<4294967296:=hvlt b2 (zMo _ zMs);obtain ⟨fi,caps,hkv,hte,hcall⟩:=qpl (B0:=B0) (w0:=w0) (db:=c.db) hbo ha hb;have hs3:=hs2;obtain ⟨hl,hle,v,Ha,hacc,rfl⟩:=hs2;refine qae.tail 13 zk ?_;refine gad ?_;refine lP (Pure.kvHit rfl rfl zm6 hkv) rfl ?_;refine gad ?_;refine lP (xR (el':=u32 a) (cs:=[u32 a]) rfl rfl zo rfl rfl rfl) rfl ?_;refine gad ?_;refine lP (xR (el':=u32 b2) (cs:=[u32 b2]) rfl rfl zo rfl rfl rfl) rfl ?_;refine gad ?_;have hpick:Pick (divH c.db) ((b5,.cells 193 [str op,u32 num,str name,.list (args.map encE)])::(b4,.cells 79 [str f.name,.list (f.params.map str),.list (f.locals.map str),.list (f.body.map encS)])::stH c s2 v Ha) _:=pT zp6;refine oS (S.callV (f:=fi) (first:=#[]) (caps:=caps) (H1:=[divH c.db]) [_,_] rfl rfl hpick hcall ?_ ?_) rfl
 ·rintro lv H' ⟨rfl,h⟩
  have hI':(match binI op a b2 with
   |some v=>IR.ok v s2
   |none=>.stop 12 s2)=R:=hI
  cases hb9:binI op a b2 with
  |none=>rw[hb9] at h;cases h
  |some y=>
   rw[hb9] at h hI';cases h;refine gaf ?_;exact retI (v:=y) hj (zra rfl) hI'.symm rfl (qmm (List.Perm.symm hpick) (zhD (zhD zhr))) hs3
 ·rintro ch H' ⟨rfl,h⟩ e' he'
  have hI':(match binI op a b2 with
   |some v=>IR.ok v s2
   |none=>.stop 12 s2)=R:=hI
  cases hb9:binI op a b2 with
  |some y=>rw[hb9] at h;cases h
  |none=>
   rw[hb9] at h hI';cases h;refine gak ?_;exact qeK (he'.trans hj) hI'.symm (qmm (List.Perm.symm hpick) (zhD (zhD zhr))) hs3
theorem qqp {c:Cfg} (hC:CfgOk c):qqb B0 w0 c 0:=by
 intro f kn x s H hf hk hv hnum hsm hg hs;have ht:tick s=.stop 13 s:=by rw[tick,if_pos (Nat.le_zero.1 hg.2.1)]
 obtain ⟨op,num,name,args⟩:=x;rw[qcx];refine cI Tryz.func212 rfl (n:=92) rfl rfl rfl ?_;refine gah ?_;refine oS (sB rfl fun b4=>?_) rfl;refine oS (sB rfl fun b5=>?_) rfl;refine gao ?_;refine oS (S.callI [_] rfl qd0 (qgu hC hs) (fun u s1 H1 hr hs1=>?_) (fun er s1 H1 hr hs1 e' he'=>?_)) rfl
 ·rw[ht] at hr;cases hr
 ·rw[ht] at hr;cases hr;refine gak ?_;exact qeK (he'.trans rfl) (by rw[evI]) qaF hs1
theorem qrN {c:Cfg} (hC:CfgOk c):qsS B0 w0 c 0:=by
 intro f kn x s H hf hk hv hnum hsm hg hs;have ht:tick s=.stop 13 s:=by rw[tick,if_pos (Nat.le_zero.1 hg.2.1)]
 obtain ⟨kind,name,index,value,thn,els⟩:=x;rw[qcb];refine cI Tryz.func179 rfl (n:=93) rfl rfl rfl ?_;refine gah ?_;refine oS (sB rfl fun b4=>?_) rfl;refine oS (sB rfl fun b5=>?_) rfl;refine gao ?_;refine oS (S.callI [_] rfl qd0 (qgu hC hs) (fun u s1 H1 hr hs1=>?_) (fun er s1 H1 hr hs1 e' he'=>?_)) rfl
 ·rw[ht] at hr;cases hr
 ·rw[ht] at hr;cases hr;refine gak ?_;exact qeK (he'.trans rfl) (by rw[stI]) qaF hs1
theorem qre {c:Cfg} (hC:CfgOk c):∀ n:Nat,qqb B0 w0 c n/\qsS B0 w0 c n
 |0=>⟨qqp hC,qrN hC⟩
 |n+1=>by
  obtain ⟨h1,h2⟩:=qre hC n;have hB:=qc5 hC h2;exact ⟨qsr hC h1 hB,qmQ hC h1 hB⟩
end
end Go.Proofs.YtdakelgkjdaijaaGreatDoor.Inp
namespace Go.Proofs.YtdakelgkjdaijaaGreatDoor
open Go.GL Go.RowKit Go.Stele
attribute [local irreducible] LOps qae qad LCalls Go.GL.Pure qax qaj qac LQ LAny qaE qal qdn qfv qda qvw qff
def lvs:List (List (List UInt8)):=[qaZ 0,qaZ 1,qaZ 2,qaZ 3,qaZ 4,qaZ 5]
theorem qum (q:Nat) (h:q<6):qlq lvs q=[int .i64 (((5-q:Nat):Int)),.list ((qaZ (5-q)).map str)]:=by
 have:q=0∨q=1∨q=2∨q=3∨q=4∨q=5:=by omega
 rcases this with rfl|rfl|rfl|rfl|rfl|rfl <;> rfl
theorem qda.mkRet {C:Ctx} {n:Nat} {e:Env} {H H':Heap} {R:LRes->Heap->Prop} {rs:List ResultVar} {vs:List LV} {D:Nat} (hd:e.ds=[{ target:=.collected D,args:=#[] }]) (F:Heap) (hp:H.Perm ((D,.obj (.deferred (some [])))::F)) (h:qbA C n e F rs vs) (hH:HSub H' F) (hR:R (.ret (qbq vs)) H') :
  qda C n rs R .ret e H:=by
 unfold qda;exact ⟨D,F,hd,hp,vs,H',h,hH,hR⟩
theorem qda.mkPanic {C:Ctx} {n:Nat} {e:Env} {H H':Heap} {R:LRes->Heap->Prop} {rs:List ResultVar} {ch:List PanicEntry} {D:Nat} (hd:e.ds=[{ target:=.collected D,args:=#[] }]) (F:Heap) (hp:H.Perm ((D,.obj (.deferred (some [])))::F)) (hH:HSub H' F) (hR:R (.panic ch) H') :
  qda C n rs R (.panic ch) e H:=by
 unfold qda;exact .inr ⟨D,F,hd,hp,H',hH,hR⟩
section
variable {B0:Nat} {w0:World}
theorem qd3 (sb:Nat) (T:List Tok) (f:Nat) (hC:CloC B0 w0 sb T f):qkF B0 w0 sb T f:=by
 intro i op r hi ho hr;refine LCalls.introM Tryz.func206 rfl (n:=20) rfl rfl rfl ?_;refine gah ?_;refine oS (sB rfl fun b1=>?_) rfl;refine oS (sA fun b2=>?_) rfl;refine gac ?_;refine oS (sA fun b3=>?_) rfl;refine gac ?_;refine oS (sF [] rfl qjr ?_) rfl;refine oS (S.call0 [_] rfl (qk5 qdH) (fun v H' h=>?_) (fun ch H' h=>?_)) rfl
 ·obtain ⟨bB,h,rfl⟩:=h;cases h;refine gab ?_;have hexit:∀ (first caps:Array Value) (fn:FuncId) (Hclo F:Heap),Clo sb 0 fn first caps Hclo->TEnter Tryz.prog fn:=fun _ _ _ _ _ h=>h.enter
  refine qae.rangeFunc (g:=.tmp 9) (ps:=[10,11]) (caps:=#[.pointer (some ⟨bB,0,none⟩)]) (by rfl) lvs.length (qlq lvs)
   [(b3,.cells 250 [.atom (.func (.func 232) #[.pointer (some ⟨sb,0,none⟩)] #[])]),(b2,.cells 193 [str [],int .u32 0,str [],qab]),(b1,.cells 63 [ptr sb 0]),srcH sb T i op] [(bB,.cells 221 [.list qdH])]
   (List.perm_append_singleton _ _).symm (qrH bB lvs zDd) (fun k hk=>by rw[qum k hk];rfl) (by rfl)
   (fun q Hq=>∃ (fn:FuncId) (first caps:Array Value) (Hclo:Heap),Clo sb (6-q) fn first caps Hclo/\Hq=(b3,.cells 250 [.atom (.func (.func fn) first caps)])::(b2,.cells 193 [str [],int .u32 0,str [],qab])::(b1,.cells 63 [ptr sb 0])::srcH sb T i op::Hclo)
   ⟨_,_,_,[],.un,rfl⟩ ?_ ?_
  ·rintro q Hq hq ⟨fn,first,caps,Hclo,hclo,rfl⟩ j hjd hja l D o oD;have hq6:q<6:=hq;have hj1:j.s 1=ptr b1 0:=hja 1 _ rfl;have hj3:j.s 3=ptr b3 0:=hja 3 _ rfl
   rw[qum q hq6,<-Env.slots_self (e:=j) (l:=[(1,ptr b1 0),(3,ptr b3 0)]) (by
    intro p hp;simp only[zMi,List.not_mem_nil,or_false] at hp;rcases hp with rfl|rfl
    ·exact hj1
    ·exact hj3)]
   refine qdn.seq ?_;refine qdn.region rfl ?_;refine gaf ?_;refine qdn.region rfl ?_;refine gad ?_;refine ⟨hjd,_,rfl,fun o'=>?_⟩;refine qdn.block ?_;refine qdn.region rfl ?_;refine gad ?_;refine oS (S.call0 [_,_,_,_] rfl (qgk sb ((qaZ (5-q)).map str) (decide (((5-q:Nat):Int)=2)) fn first caps) (fun v H' h=>?_) (fun ch H' h=>?_)) rfl
   ·obtain ⟨bo,bs,bp,bn,h,rfl⟩:=h;cases h;refine gad ?_
    refine ⟨(b3,.cells 250 [.atom (.func (.func 249) #[] #[.pointer (some ⟨bo,0,none⟩),.pointer (some ⟨bs,0,none⟩),.pointer (some ⟨bp,0,none⟩),.pointer (some ⟨bn,0,none⟩)])])::(b2,.cells 193 [str [],int .u32 0,str [],qab])::(b1,.cells 63 [ptr sb 0])::srcH sb T i op ::
     (bo,.cells 250 [.atom (.func (.func fn) first caps)])::(bs,.cells 63 [ptr sb 0])::(bp,.cells 24 [.list ((qaZ (5-q)).map str)])::(bn,.cells 4 [bool (decide (((5-q:Nat):Int)=2))])::Hclo,?_,_,_,_,_,?_,rfl⟩
    ·exact zhP zp5 (zhP zp5 (zhP pH (zhP zp4 (zhP zp4 (zhP zp4 zhr)))))
    ·have e1:6-(q+1)=5-q:=by omega
     have e2:6-q=5-q+1:=by omega
     rw[e1];rw[e2] at hclo;exact .bin hclo
   ·obtain ⟨_,_,_,_,h,_⟩:=h;cases h
  ·rintro D H' ⟨fn,first,caps,Hclo,hclo,rfl⟩;have hclo0:Clo sb 0 fn first caps Hclo:=hclo
   have hen:=hexit _ _ _ _ [] hclo0;refine gab ?_;refine cW (H':=(D,.obj (.deferred (some [])))::(b3,.cells 250 [.atom (.func (.func fn) first caps)])::(b2,.cells 193 [str [],int .u32 0,str [],qab])::(b1,.cells 63 [ptr sb 0])::srcH sb T i op::Hclo) ⟨[(bB,.cells 221 [.list qdH])],List.Perm.refl _⟩ ?_;refine gat ?_;refine oS (S.callClo (F:=[(D,.obj (.deferred (some []))),(b3,.cells 250 [.atom (.func (.func fn) first caps)]),(b2,.cells 193 [str [],int .u32 0,str [],qab]),(b1,.cells 63 [ptr sb 0])]) (Hc:=Hclo) rfl zp4 (hC _ _ _ _ _ _ _ r hclo0 hi ho hr) (fun v i1 op1 h1=>?_) (fun l er i1 op1 h1 e' he'=>?_)) rfl
   ·refine gad ?_;exact qda.mkRet rfl _ zp2 (rC (rA rfl zm0 rfl zsr) rN) (zhP zp1 zhn) (by rw[h1];exact ⟨rfl,rfl⟩)
   ·refine gak ?_;refine qda.mkPanic (he'.trans rfl) (srcH sb T i1 op1::(Hclo++[(b3,.cells 250 [.atom (.func (.func fn) first caps)]),(b2,.cells 193 [str [],int .u32 0,str [],qab]),(b1,.cells 63 [ptr sb 0])])) ?_ zhp (by rw[h1];exact ⟨rfl,i1,op1,rfl⟩);exact (List.Perm.cons _ List.perm_middle).trans (List.Perm.swap _ _ _)
 ·obtain ⟨bB,h,_⟩:=h;cases h
theorem qkJ (hG:GW B0 w0) (sb:Nat) (T:List Tok) (hT:TOK T):∀ f:Nat,CloC B0 w0 sb T f/\qkF B0 w0 sb T f:=by
 intro f
 induction f using Nat.strongRecOn with
 |_ f ih=>
  have hC:CloC B0 w0 sb T f:=by
   intro k fn first caps Hc i op r hclo hi ho hr
   cases hclo with
   |un=>
    obtain ⟨f,rfl⟩:∃ g,f=g+1:=by
     cases f with
     |zero=>rw[eLev] at hr;cases hr
     |succ g=>exact ⟨g,rfl⟩
    rw[eLev,if_pos rfl] at hr;refine LCalls.mono (qp2 hG sb T hT f (fun g hg=>(ih g zo).2) i op r hi ho hr) ?_;intro r' H h
    cases r with
    |ok v i' op'=>exact h
    |err l e=>exact h
   |bin h=>exact qth hG sb T hT f (fun g hg=>(ih g hg).1) _ _ _ _ _ _ _ _ _ h i op r hi ho hr
  exact ⟨hC,qd3 sb T f hC⟩
end
end Go.Proofs.YtdakelgkjdaijaaGreatDoor
namespace Go.Proofs.YtdakelgkjdaijaaGreatDoor
open Go.GL Go.RowKit Go.Stele
attribute [local irreducible] LOps qae qad LCalls Go.GL.Pure qax qaj qac LQ LAny qaE qal
def qwo (l:List Sm):LV:=.list (l.map encS)
section
variable {B0:Nat} {w0:World}
def qqP (B0:Nat) (w0:World) (sb:Nat) (T:List Tok) (f:Nat):Prop:=
 ∀ i op r,i<=T.length->op<=100->qbj T f i op=some r->LCalls (KC B0 w0) 207 [ptr sb 0] [srcH sb T i op] (qdp sb T qwo r)
def qrc (B0:Nat) (w0:World) (sb:Nat) (T:List Tok) (f:Nat):Prop:=
 ∀ i op r,i<=T.length->op<=100->qbc T f [] i op=some r->LCalls (KC B0 w0) 118 [ptr sb 0] [srcH sb T i op] (qdp sb T qwo r)
def qu9 (B0:Nat) (w0:World) (sb:Nat) (T:List Tok) (f:Nat):Prop:=
 ∀ i op r,i<=T.length->op<=100->qco T f i op=some r->LCalls (KC B0 w0) 174 [ptr sb 0] [srcH sb T i op] (qdp sb T encS r)
def qno (B0:Nat) (w0:World) (sb:Nat) (T:List Tok) (f:Nat):Prop:=
 ∀ i op r,i<=T.length->op<=100->qaX T f i op=some r->LCalls (KC B0 w0) 208 [ptr sb 0] [srcH sb T i op] (qdp sb T encS r)
theorem qc5 (sb:Nat) (T:List Tok) (hT:TOK T) (f:Nat) (hS:qrc B0 w0 sb T f):qqP B0 w0 sb T (f+1):=by
 intro i op r hi ho hr;have hl:=hT.len;rw[qbj] at hr;refine cI Tryz.func207 rfl (n:=11) rfl rfl rfl ?_;refine gao ?_;refine oS (sP [_,_] rfl pH (qck sb T i op [123] hl zo zo) (fun v i1 op1 h1=>?_) (fun l er i1 op1 h1 e9 he9=>?_)) rfl;rotate_left
 ·exact zT32
 rw[h1,qao] at hr;obtain ⟨rfl,rfl,ho1,hi1⟩:=qbb h1;refine gap ?_;obtain ⟨r1,hr1⟩:=qaR hr;refine oS (sP [_] rfl pH (hS _ _ r1 zo zo hr1) (fun l i2 op2 h2=>?_) (fun l er i2 op2 h2 e9 he9=>?_)) rfl;rotate_left
 ·rw[hr1,h2,qat] at hr;refine gae ?_;exact panP zb0 (by cases hr;rfl) zhp
 rw[hr1,h2,qao] at hr;obtain ⟨g1,_,g3,rfl⟩:=(qeU T f).2.1 _ _ _ _ (hr1.trans (congrArg some h2));have g4:=g3 zo;refine gat ?_;refine oS (sP [_,_] rfl pH (qeR sb T i2 (op+1) [125] hl zo zo zo) (fun u i3 op3 h3=>?_) (fun l er i3 op3 h3 e9 he9=>?_)) rfl;rotate_left
 ·exact zT33
 rw[h3,qao] at hr;refine gac ?_;exact retP (v:=l) rfl (rC (rT (v:=.list _) rfl zsr) rN) (by cases hr;rfl) rfl zhr
theorem qex (sb:Nat) (T:List Tok) (hT:TOK T) (f:Nat) (hS:∀ g,g<f->qu9 B0 w0 sb T g):qrc B0 w0 sb T f:=by
 intro i op r hi ho hr;have hl:=hT.len;refine cI Tryz.func118 rfl (n:=14) rfl rfl rfl ?_;refine gaa ?_
 refine oL (fun k ls H=>∃ (v:LV) (l:List Sm) (i2:Nat) (Ha:Heap),k<=f/\ls=[(0,ptr sb 0),(3,v)]/\H=srcH sb T i2 op::Ha/\Acc 6 v (l.map encS) Ha []/\i2<=T.length/\l.length<=i2+1/\qbc T k l i2 op=some r)
  ⟨f,_,srcH sb T i op::[],⟨qab,[],i,_,zNr _,rfl,rfl,Acc.nil,by omega,by simp,hr⟩,⟨rfl,rfl,trivial⟩,zhR _⟩ ?_
 rintro k ls H ⟨v,l,i2,Ha,hkf,rfl,rfl,hacc,hi2,hll,hI⟩ j hj
 obtain ⟨k,rfl⟩:∃ k',k=k'+1:=by
  cases k with
  |zero=>rw[qbc] at hI;cases hI
  |succ k=>exact ⟨k,rfl⟩
 rw[qbc] at hI;refine gag ?_;refine zQ2 ?_;refine oS (sH [_,_] rfl pH (qce sb T i2 op [[125]] hl zo (by simp)) ?_) rfl;refine gad ?_;refine oC rfl (fun hc=>?_) (fun hc=>?_)
 ·have hc':qaK T i2 [[125]]=false:=by simpa using hc
  rw[if_neg (by rw[hc'];decide)] at hI;refine gam ?_;refine zQ17 ?_;refine gab ?_;obtain ⟨r2,hr2⟩:=qaR hI;refine oS (sP [_] rfl pH (hS k zo _ _ r2 zo zo hr2) (fun e2 i4 op4 h4=>?_) (fun l er i4 op4 h4 e9 he9=>?_)) rfl;rotate_left
  ·rw[hr2,h4,qat] at hI;refine gae ?_;exact panP zb0 (by cases hI;rfl) zhp
  rw[hr2,h4,qao] at hI;obtain ⟨g1,g2,g3,rfl⟩:=(qeU T k).2.2.1 _ _ _ (hr2.trans (congrArg some h4));have g5:=g3 zo;have g6:=g2 rfl;refine zQ2 ?_;refine oS (S.acc1 rfl hacc rfl (by simp;rfl) rfl (by simp;omega) fun v' H' hacc'=>?_) rfl;refine zQ30 ?_;refine gab ?_;exact ⟨k,_,_,by omega,⟨v',l++[e2],i4,H',by omega,rfl,rfl,by rw[zMa];exact hacc',by omega,by simp;omega,hI⟩,⟨rfl,rfl,trivial⟩,zhR _,hj⟩
 ·have hc':qaK T i2 [[125]]=true:=by simpa using hc
  rw[if_pos hc'] at hI;refine gaa ?_;refine zQ41 ?_;exact retP (v:=l) hj (rC (rT (v:=v) rfl hacc.sub) rN) (by cases hI;rfl) rfl zhp
end
end Go.Proofs.YtdakelgkjdaijaaGreatDoor
namespace Go.Proofs.YtdakelgkjdaijaaGreatDoor
open Go.GL Go.RowKit Go.Stele
attribute [local irreducible] LOps qae qad LCalls Go.GL.Pure qax qaj qac LQ LAny qaE qal
section
variable {B0:Nat} {w0:World}
theorem qu3 (s:List UInt8) (l:List Ex):encS (.mk 6 [] [] [.mk qbG 0 s l] [] [])=.agg [int .i64 6,str [],.list [],.list [.agg [str qbG,int .u32 0,str s,.list (l.map encE)]],.list [],.list []]:=by
 rw[qcb,zMc,qcx];rfl
theorem qnk (sb:Nat) (T:List Tok) (hT:TOK T) (f:Nat) (hE:∀ g,g<=f->qkF B0 w0 sb T g):qno B0 w0 sb T (f+1):=by
 intro i op r hi ho hr;have hl:=hT.len;obtain ⟨gL,_,_,_,gI,gA,_⟩:=qcM T f;rw[qaX] at hr;refine cI Tryz.func208 rfl (n:=46) rfl rfl rfl ?_;refine gah ?_;refine oS (sA fun b2=>?_) rfl;refine gaa ?_;refine oS (sH [_,_] rfl zp1 (qcp sb T i op qeh hl zo) ?_) rfl;refine gaf ?_;refine oC rfl (fun hc=>?_) (fun hc=>?_)
 ·have hlt:=qaL hc;rw[if_pos hc] at hr;simp only[hc,if_true];refine gag ?_;obtain ⟨r1,hr1⟩:=qaR hr;refine oS (sP [_] rfl pH (hE f zo _ _ r1 zo zo hr1) (fun v i1 op1 h1=>?_) (fun l er i1 op1 h1 e9 he9=>?_)) rfl;rotate_left
  ·exact zT29
  rw[hr1,h1,qao] at hr;refine zQ2 ?_;refine gad ?_;exact retP (v:=.mk 5 [] [] [v] [] []) rfl (rC (rA (k:=6) rfl zm0 rfl (vA (bs:=[_,_,.list [],_,.list [],.list []]) ⟨vR _,vR _,vN,vR _,vN,vN,trivial⟩)) rN) (by cases hr;rfl) (by rw[qcb];rfl) (zhP zp1 zhn)
 ·rw[if_neg (by rw[hc];decide)] at hr;simp only[hc,Bool.false_eq_true,if_false];refine gag ?_;refine oS (sH [_,_] rfl pH (qcp sb T i op qjH hl zo) ?_) rfl;refine gaf ?_;refine oC rfl (fun hc2=>?_) (fun hc2=>?_)
  ·have hlt:=qaL hc2;rw[if_pos hc2] at hr;simp only[hc2,if_true];refine gac ?_;exact retP (v:=.mk 7 [] [] [] [] []) rfl (rC (rA (k:=6) rfl zm0 rfl (vA (bs:=[_,_,.list [],.list [],.list [],.list []]) ⟨vR _,vR _,vN,vN,vN,vN,trivial⟩)) rN) (by cases hr;rfl) (by rw[qcb];rfl) (zhP zp1 zhn)
  ·rw[if_neg (by rw[hc2];decide)] at hr;simp only[hc2,Bool.false_eq_true,if_false];refine gaa ?_;refine oS (sP [_,_] rfl pH (qaP sb T i op 2 hl zo) (fun s i1 op1 h1=>?_) (fun l er i1 op1 h1 e9 he9=>?_)) rfl;rotate_left
   ·exact zT32
   rw[h1,qao] at hr;obtain ⟨rfl,rfl,t,ht,_,_⟩:=qdJ h1;have:=qhS ht;refine gac ?_;refine oS (sA fun b4=>?_) rfl;refine gac ?_;refine zQ2 ?_;refine oS (sH [_,_] rfl zp1 (qce sb T (i+1) op1 [[40]] hl zo (by simp)) ?_) rfl;refine gaf ?_;refine oC rfl (fun hc3=>?_) (fun hc3=>?_)
   ·rw[if_pos hc3] at hr;refine gag ?_;obtain ⟨r1,hr1⟩:=qaR hr;refine oS (sP [_] rfl pH (qlY sb T hT f (fun g hg=>hE g zo) (i+1) op1 r1 zo zo hr1) (fun l i2 op2 h2=>?_) (fun l er i2 op2 h2 e9 he9=>?_)) rfl;rotate_left
    ·rw[hr1,h2,qat] at hr;refine gae ?_;exact panP zb0 (by cases hr;rfl) zhp
    rw[hr1,h2,qao] at hr;refine gad ?_;refine zQ2 ?_;refine gad ?_;exact retP (v:=.mk 6 [] [] [.mk qbG 0 s l] [] []) rfl (rC (rA (k:=6) rfl zm0 rfl (vA (bs:=[_,_,.list [],_,.list [],.list []]) ⟨vR _,vR _,vN,vR _,vN,vN,trivial⟩)) rN) (by cases hr;rfl) (by rw[qu3];rfl) (zhP zp1 zhn)
   ·rw[if_neg (by rw[hc3];decide)] at hr;refine gag ?_;refine zQ2 ?_;refine oS (sH [_,_] rfl pH (qce sb T (i+1) op1 [[91]] hl zo (by simp)) ?_) rfl;refine gaf ?_;refine oC rfl (fun hc4=>?_) (fun hc4=>?_)
    ·rw[if_pos hc4] at hr;refine gag ?_;obtain ⟨r1,hr1⟩:=qaR hr;refine oS (sP [_] rfl pH (qjA sb T hT f (fun g hg=>hE g zo) (i+1) op1 r1 zo zo hr1) (fun x i2 op2 h2=>?_) (fun l er i2 op2 h2 e9 he9=>?_)) rfl;rotate_left
     ·rw[hr1,h2,qat] at hr;refine gae ?_;exact panP zb0 (by cases hr;rfl) zhp
     rw[hr1,h2,qao] at hr;obtain ⟨q1,q2,q3,rfl⟩:=gI _ _ _ (hr1.trans (congrArg some h2));have q4:=q3 zo;refine zQ2 ?_;refine gac ?_;refine oS (sP [_,_] rfl zp1 (qdW sb T i2 op2 [61] hl zo) (fun u i3 op3 h3=>?_) (fun l er i3 op3 h3 e9 he9=>?_)) rfl;rotate_left
     ·exact zT33
     rw[h3,qao] at hr;have hg3:=qbe T [61] i2 op2;rw[h3] at hg3;obtain ⟨k1,k2,k3,rfl⟩:=hg3;have k4:=k3 q4;refine gap ?_;obtain ⟨r2,hr2⟩:=qaR hr;refine oS (sP [_] rfl pH (hE f zo _ _ r2 zo zo hr2) (fun v i4 op4 h4=>?_) (fun l er i4 op4 h4 e9 he9=>?_)) rfl;rotate_left
     ·rw[hr2,h4,qat] at hr;refine gae ?_;exact panP zb0 (by cases hr;rfl) zhp
     rw[hr2,h4,qao] at hr;refine zQ2 ?_;refine gac ?_;exact retP (v:=.mk 2 s [x] [v] [] []) rfl (rC (rA (k:=6) rfl zm0 rfl (vA (bs:=[_,_,_,_,.list [],.list []]) ⟨vR _,vR _,vR _,vR _,vN,vN,trivial⟩)) rN) (by cases hr;rfl) (by rw[qcb];rfl) (zhP zp2 zhn)
    ·rw[if_neg (by rw[hc4];decide)] at hr;refine gaa ?_;refine oS (sP [_,_] rfl pH (qdW sb T (i+1) op1 [61] hl zo) (fun u i3 op3 h3=>?_) (fun l er i3 op3 h3 e9 he9=>?_)) rfl;rotate_left
     ·exact zT33
     rw[h3,qao] at hr;have hg3:=qbe T [61] (i+1) op1;rw[h3] at hg3;obtain ⟨k1,k2,k3,rfl⟩:=hg3;have k4:=k3 zo;refine gap ?_;obtain ⟨r2,hr2⟩:=qaR hr;refine oS (sP [_] rfl pH (hE f zo _ _ r2 zo zo hr2) (fun v i4 op4 h4=>?_) (fun l er i4 op4 h4 e9 he9=>?_)) rfl;rotate_left
     ·rw[hr2,h4,qat] at hr;refine gae ?_;exact panP zb0 (by cases hr;rfl) zhp
     rw[hr2,h4,qao] at hr;refine zQ2 ?_;refine gac ?_;exact retP (v:=.mk 1 s [] [v] [] []) rfl (rC (rA (k:=6) rfl zm0 rfl (vA (bs:=[_,_,.list [],_,.list [],.list []]) ⟨vR _,vR _,vN,vR _,vN,vN,trivial⟩)) rN) (by cases hr;rfl) (by rw[qcb];rfl) (zhP zp2 zhn)
theorem qg0 (sb:Nat) (T:List Tok) (hT:TOK T) (f:Nat) (hE:∀ g,g<=f->qkF B0 w0 sb T g) (hB:qqP B0 w0 sb T f) (hM:qno B0 w0 sb T f):qu9 B0 w0 sb T (f+1):=by
 intro i op r hi ho hr;have hl:=hT.len;obtain ⟨gL,_,_,_,gI,gA,_⟩:=qcM T f;obtain ⟨kB,kL,kS,kM⟩:=qeU T f;rw[qco] at hr;refine cI Tryz.func174 rfl (n:=38) rfl rfl rfl ?_;refine gah ?_;refine oS (sA fun b2=>?_) rfl;refine gaa ?_;refine oS (sH [_,_] rfl zp1 (qcp sb T i op kwIf hl zo) ?_) rfl;refine gaf ?_;refine oC rfl (fun hc=>?_) (fun hc=>?_)
 ·have hlt:=qaL hc;rw[if_pos hc] at hr;simp only[hc,if_true];refine gag ?_;obtain ⟨r1,hr1⟩:=qaR hr;refine oS (sP [_] rfl pH (hE f zo _ _ r1 zo zo hr1) (fun v i1 op1 h1=>?_) (fun l er i1 op1 h1 e9 he9=>?_)) rfl;rotate_left
  ·exact zT29
  rw[hr1,h1,qao] at hr;obtain ⟨g1,g2,g3,rfl⟩:=gL 0 _ _ _ (hr1.trans (congrArg some h1));have g4:=g3 zo;refine zQ2 ?_;refine gad ?_;refine oS (sA fun b3=>?_) rfl;refine gac ?_;obtain ⟨r2,hr2⟩:=qaR hr;refine oS (sP [_] rfl zp1 (hB _ _ r2 zo zo hr2) (fun th i2 op2 h2=>?_) (fun l er i2 op2 h2 e9 he9=>?_)) rfl;rotate_left
  ·rw[hr2,h2,qat] at hr;refine gae ?_;exact panP zb0 (by cases hr;rfl) zhp
  rw[hr2,h2,qao] at hr;obtain ⟨q1,q2,q3,rfl⟩:=kB _ _ _ (hr2.trans (congrArg some h2));have q4:=q3 zo;refine gac ?_;refine oS (sH [_,_] rfl zp1 (qcp sb T i2 op2 qe2 hl zo) ?_) rfl;refine gaf ?_;refine oC rfl (fun hc2=>?_) (fun hc2=>?_)
  ·have hlt2:=qaL hc2;rw[if_pos hc2] at hr;simp only[hc2,if_true];refine gag ?_;obtain ⟨r3,hr3⟩:=qaR hr;refine oS (sP [_] rfl pH (hB _ _ r3 zo zo hr3) (fun el i3 op3 h3=>?_) (fun l er i3 op3 h3 e9 he9=>?_)) rfl;rotate_left
   ·rw[hr3,h3,qat] at hr;refine gae ?_;exact panP zb0 (by cases hr;rfl) zhp
   rw[hr3,h3,qao] at hr;refine gac ?_;exact retP (v:=.mk 3 [] [] [v] th el) rfl (rC (rA (k:=6) rfl zm0 rfl (vA (bs:=[_,_,.list [],_,_,_]) ⟨vR _,vR _,vN,vR _,vR _,vR _,trivial⟩)) rN) (by cases hr;rfl) (by rw[qcb];rfl) (zhP zp2 zhn)
  ·rw[if_neg (by rw[hc2];decide)] at hr;simp only[hc2,Bool.false_eq_true,if_false];refine gac ?_;exact retP (v:=.mk 3 [] [] [v] th []) rfl (rC (rA (k:=6) rfl zm0 rfl (vA (bs:=[_,_,.list [],_,_,.list []]) ⟨vR _,vR _,vN,vR _,vR _,vN,trivial⟩)) rN) (by cases hr;rfl) (by rw[qcb];rfl) (zhP zp1 zhn)
 ·rw[if_neg (by rw[hc];decide)] at hr;simp only[hc,Bool.false_eq_true,if_false];refine gag ?_;refine oS (sH [_,_] rfl pH (qcp sb T i op qfk hl zo) ?_) rfl;refine gaf ?_;refine oC rfl (fun hc2=>?_) (fun hc2=>?_)
  ·have hlt:=qaL hc2;rw[if_pos hc2] at hr;simp only[hc2,if_true];refine gag ?_;obtain ⟨r1,hr1⟩:=qaR hr;refine oS (sP [_] rfl pH (hE f zo _ _ r1 zo zo hr1) (fun v i1 op1 h1=>?_) (fun l er i1 op1 h1 e9 he9=>?_)) rfl;rotate_left
   ·exact zT29
   rw[hr1,h1,qao] at hr;obtain ⟨g1,g2,g3,rfl⟩:=gL 0 _ _ _ (hr1.trans (congrArg some h1));have g4:=g3 zo;refine zQ2 ?_;refine gad ?_;refine oS (sA fun b3=>?_) rfl;refine gac ?_;obtain ⟨r2,hr2⟩:=qaR hr;refine oS (sP [_] rfl zp1 (hB _ _ r2 zo zo hr2) (fun th i2 op2 h2=>?_) (fun l er i2 op2 h2 e9 he9=>?_)) rfl;rotate_left
   ·rw[hr2,h2,qat] at hr;refine gae ?_;exact panP zb0 (by cases hr;rfl) zhp
   rw[hr2,h2,qao] at hr;refine gac ?_;exact retP (v:=.mk 4 [] [] [v] th []) rfl (rC (rA (k:=6) rfl zm0 rfl (vA (bs:=[_,_,.list [],_,_,.list []]) ⟨vR _,vR _,vN,vR _,vR _,vN,trivial⟩)) rN) (by cases hr;rfl) (by rw[qcb];rfl) (zhP zp2 zhn)
  ·rw[if_neg (by rw[hc2];decide)] at hr;simp only[hc2,Bool.false_eq_true,if_false];refine gaa ?_;obtain ⟨r1,hr1⟩:=qaR hr;refine oS (sP [_] rfl pH (hM _ _ r1 zo zo hr1) (fun v i1 op1 h1=>?_) (fun l er i1 op1 h1 e9 he9=>?_)) rfl;rotate_left
   ·exact zT29
   rw[hr1,h1,qao] at hr;obtain ⟨g1,g2,g3,rfl⟩:=kM _ _ _ (hr1.trans (congrArg some h1));have g4:=g3 zo;refine oS (sA fun b5=>?_) rfl;refine gac ?_;refine oS (sP [_,_] rfl zp1 (qdW sb T i1 op1 [59] hl zo) (fun u i2 op2 h2=>?_) (fun l er i2 op2 h2 e9 he9=>?_)) rfl;rotate_left
   ·rw[h2,qat] at hr;refine gae ?_;exact panP zb0 (by cases hr;rfl) zhp
   rw[h2,qao] at hr;refine gac ?_;exact retP (v:=v) rfl (rC (rA rfl zm0 rfl zsr) rN) (by cases hr;rfl) rfl (zhP zp1 zhn)
theorem qwx (hG:GW B0 w0) (sb:Nat) (T:List Tok) (hT:TOK T):∀ f:Nat,qqP B0 w0 sb T f/\qrc B0 w0 sb T f/\qu9 B0 w0 sb T f/\qno B0 w0 sb T f:=by
 intro f
 induction f using Nat.strongRecOn with
 |_ f ih=>
  have hE:=fun g=>(qkJ (B0:=B0) (w0:=w0) hG sb T hT g).2
  cases f with
  |zero=>
   refine ⟨?_,qex sb T hT 0 (fun g hg=>by omega),?_,?_⟩
   ·intro i op r _ _ hr;rw[qbj] at hr;cases hr
   ·intro i op r _ _ hr;rw[qco] at hr;cases hr
   ·intro i op r _ _ hr;rw[qaX] at hr;cases hr
  |succ f=>
   have h:=ih f zo;exact ⟨qc5 sb T hT f h.2.1,qex sb T hT _ (fun g hg=>(ih g hg).2.2.1),qg0 sb T hT f (fun g _=>hE g) h.1 h.2.2.2,qnk sb T hT f (fun g _=>hE g)⟩
end
end Go.Proofs.YtdakelgkjdaijaaGreatDoor
namespace Go.Proofs.YtdakelgkjdaijaaGreatDoor
open Go.GL Go.RowKit Go.Stele
theorem qg6 (T:List Tok):∀ (f:Nat) (acc:List (List UInt8)) (i op:Nat) (l:List (List UInt8)) (i' op':Nat),qaA T f acc i op=some (.ok l i' op')->l.length+i<=acc.length+i'
 |0,_,_,_,_,_,_,h=>by rw[qaA] at h;cases h
 |f+1,acc,i,op,l,i',op',h=>by
  rw[qaA] at h;split at h
  ·rcases qau h with ⟨s,i1,op1,h1,h2⟩|⟨l,e,_,hh⟩
   ·injection h1 with h1;obtain ⟨rfl,rfl,_⟩:=qdJ h1;have:=qg6 T f _ _ _ _ _ _ h2;rw[zLa,List.length_singleton] at this;omega
   ·cases hh
  ·cases h;omega
theorem qmY {T:List Tok} {f i op:Nat} {l:List (List UInt8)} {i' op':Nat} (h:qcE T f i op=some (.ok l i' op')):l.length+i<=i':=by
 unfold qcE at h;rcases qau h with ⟨s,i1,op1,h1,h2⟩|⟨l,e,_,hh⟩
 ·injection h1 with h1;obtain ⟨rfl,rfl,_⟩:=qdJ h1;have:=qg6 T f _ _ _ _ _ _ h2;rw[List.length_singleton] at this;omega
 ·cases hh
theorem qlr (T:List Tok):∀ (f:Nat) (acc:List (List UInt8)) (i op:Nat) (l:List (List UInt8)) (i' op':Nat),qcc T f acc i op=some (.ok l i' op')->l.length+i<=acc.length+i'
 |0,_,_,_,_,_,_,h=>by rw[qcc] at h;cases h
 |f+1,acc,i,op,l,i',op',h=>by
  rw[qcc] at h;split at h
  ·rcases qau h with ⟨s,i1,op1,h1,h2⟩|⟨l,e,_,hh⟩
   ·have:=qmY h1;rcases qau h2 with ⟨u,i2,op2,h3,h4⟩|⟨l,e,_,hh⟩
    ·injection h3 with h3;have hg:=qbe T [59] i1 op1;rw[h3] at hg;have hv:=qlr T f _ _ _ _ _ _ h4;have:=hg.1;rw[zLa] at hv;omega
    ·cases hh
   ·cases hh
  ·cases h;omega
attribute [local irreducible] LOps qae qad LCalls Go.GL.Pure qax qaj qac LQ LAny qaE qal
section
variable {B0:Nat} {w0:World}
theorem qiz (sb:Nat) (T:List Tok) (hT:TOK T) (f i op:Nat) (r:Res (List (List UInt8))) (hi:i<=T.length) (hr:qcc T f [] i op=some r) :
  LCalls (KC B0 w0) 56 [ptr sb 0] [srcH sb T i op] (qdp sb T qon r):=by
 have hl:=hT.len;refine cI Tryz.func56 rfl (n:=13) rfl rfl rfl ?_;refine gaa ?_
 refine oL (fun k ls H=>∃ (v:LV) (l:List (List UInt8)) (i2:Nat) (Ha:Heap),k<=f/\ls=[(0,ptr sb 0),(3,v)]/\H=srcH sb T i2 op::Ha/\Acc 1 v (l.map str) Ha []/\i2<=T.length/\l.length<=i2/\qcc T k l i2 op=some r)
  ⟨f,_,srcH sb T i op::[],⟨qab,[],i,_,zNr _,rfl,rfl,Acc.nil,by omega,by simp,hr⟩,⟨rfl,rfl,trivial⟩,zhR _⟩ ?_
 rintro k ls H ⟨v,l,i2,Ha,hkf,rfl,rfl,hacc,hi2,hll,hI⟩ j hj
 obtain ⟨k,rfl⟩:∃ k',k=k'+1:=by
  cases k with
  |zero=>rw[qcc] at hI;cases hI
  |succ k=>exact ⟨k,rfl⟩
 rw[qcc] at hI;refine gag ?_;refine oS (sH [_,_] rfl pH (qcp sb T i2 op qe8 hl zo) ?_) rfl;refine gaf ?_;refine oC rfl (fun hc=>?_) (fun hc=>?_)
 ·have hlt:=qaL hc;rw[if_pos hc] at hI;simp only[hc,if_true];refine gam ?_;refine zQ17 ?_;refine gab ?_;obtain ⟨r2,hr2⟩:=qaR hI;refine oS (sP [_] rfl pH (qjk sb T hT k (i2+1) op r2 zo hr2) (fun ns i4 op4 h4=>?_) (fun l er i4 op4 h4 e9 he9=>?_)) rfl;rotate_left
  ·rw[hr2,h4,qat] at hI;refine gae ?_;exact panP zb0 (by cases hI;rfl) zhp
  rw[hr2,h4,qao] at hI;obtain ⟨g1,g2,g3,rfl⟩:=qcz T k _ _ _ (hr2.trans (congrArg some h4));have g5:=g3 zo;have g6:=qmY (hr2.trans (congrArg some h4));refine oS (S.acc1 (ms:=ns.map str) rfl hacc rfl (qef ns) (qgf ns) (by simp;omega) fun v' H' hacc'=>?_) rfl;refine zQ30 ?_;refine gap ?_;refine oS (sP [_,_] rfl pH (qdW sb T i4 op4 [59] hl zo) (fun u i5 op5 h5=>?_) (fun l er i5 op5 h5 e9 he9=>?_)) rfl;rotate_left
  ·rw[h5,qat] at hI;refine gae ?_;exact panP zb0 (by cases hI;rfl) zhp
  rw[h5,qao] at hI;have hg5:=qbe T [59] i4 op4;rw[h5] at hg5;obtain ⟨k1,k2,k3,rfl⟩:=hg5;have k4:=k3 g5;refine gab ?_;exact ⟨k,_,_,by omega,⟨v',l++ns,i5,H',by omega,rfl,rfl,by rw[zMa];exact hacc',by omega,by rw[zLa];omega,hI⟩,⟨rfl,rfl,trivial⟩,zhR _,hj⟩
 ·rw[if_neg (by rw[hc];decide)] at hI;simp only[hc,Bool.false_eq_true,if_false];refine gaa ?_;refine zQ41 ?_;exact retP (v:=l) hj (rC (rT (v:=v) rfl hacc.sub) rN) (by cases hI;rfl) rfl zhp
theorem qer (hG:GW B0 w0) (sb:Nat) (T:List Tok) (hT:TOK T) (i op:Nat) (r:Res Ar) (hi:i<=T.length) (ho:op<=100) (hr:qd6 T i op=some r) :
  LCalls (KC B0 w0) 58 [ptr sb 0] [srcH sb T i op] (qdp sb T qd8 r):=by
 have hl:=hT.len;unfold qd6 at hr;refine cI Tryz.func58 rfl (n:=18) rfl rfl rfl ?_;refine gah ?_;refine oS (sA fun b2=>?_) rfl;refine gap ?_;refine oS (sP [_,_] rfl zp1 (qaP sb T i op 2 hl zo) (fun s i1 op1 h1=>?_) (fun l er i1 op1 h1 e9 he9=>?_)) rfl;rotate_left
 ·exact zT32
 rw[h1,qao] at hr;obtain ⟨rfl,rfl,t,ht,_,_⟩:=qdJ h1;have:=qhS ht;refine gad ?_;refine oS (sA fun b3=>?_) rfl;refine gac ?_;refine oS (sP [_,_] rfl zp1 (qck sb T (i+1) op1 [91] hl zo zo) (fun v i2 op2 h2=>?_) (fun l er i2 op2 h2 e9 he9=>?_)) rfl;rotate_left
 ·rw[h2,qat] at hr;refine gae ?_;exact panP zb0 (by cases hr;rfl) zhp
 rw[h2,qao] at hr;obtain ⟨rfl,rfl,ho1,hi1⟩:=qbb h2;refine gap ?_;refine oS (sP [_] rfl pH (qhM hG sb T hT (i+1+1) (op1+1) zo) (fun m i3 op3 h3=>?_) (fun l er i3 op3 h3 e9 he9=>?_)) rfl;rotate_left
 ·exact zT33
 rw[h3,qao] at hr;have hg3:=qfm T (i+1+1) (op1+1);rw[h3] at hg3;obtain ⟨k1,k2,k3,rfl⟩:=hg3;have k4:=k3 zo
 have hm:m<=4294967295:=by
  unfold qcf at h3;unfold Res.bind at h3;split at h3
  ·rename_i s2 i6 op6 h6
   cases h3;obtain ⟨_,_,t6,ht6,hk6,rfl⟩:=qdJ h6;obtain ⟨u,hu,hp⟩:=hT.num t6 (List.mem_of_getElem? ht6) hk6;rw[qh6,hp];simp only;omega
  ·cases h3
 have hw:IntKind.i64.wrap (m:Int)=(m:Int):=qeS zo;refine gac ?_;refine oS (sP [_,_] rfl zp1 (qeR sb T i3 (op1+1) [93] hl zo zo zo) (fun u i4 op4 h4=>?_) (fun l er i4 op4 h4 e9 he9=>?_)) rfl;rotate_left
 ·rw[h4,qat] at hr;refine gae ?_;exact panP zb0 (by cases hr;rfl) zhp
 rw[h4,qao] at hr;obtain ⟨rfl,rfl,hi4⟩:=qeT h4;refine gap ?_;refine oS (sP [_,_] rfl pH (qdW sb T (i3+1) op4 [59] hl zo) (fun u2 i5 op5 h5=>?_) (fun l er i5 op5 h5 e9 he9=>?_)) rfl;rotate_left
 ·rw[h5,qat] at hr;refine gae ?_;exact panP zb0 (by cases hr;rfl) zhp
 rw[h5,qao] at hr;refine gac ?_;exact retP (v:=⟨s,m⟩) rfl (rC (rA (k:=2) rfl zm0 rfl zsr) rN) (by cases hr;rfl) (by show LV.agg [str s,int .i64 (IntKind.i64.wrap m)]=qd8 ⟨s,m⟩;rw[hw];rfl) (zhP zp1 zhn)
theorem ql9 (hG:GW B0 w0) (sb:Nat) (T:List Tok) (hT:TOK T) (f i op:Nat) (r:Res FnD) (hi:i<=T.length) (ho:op<=100) (hr:qeI T f i op=some r) :
  LCalls (KC B0 w0) 59 [ptr sb 0] [srcH sb T i op] (qdp sb T qaQ r):=by
 have hl:=hT.len;unfold qeI at hr;refine cI Tryz.func59 rfl (n:=29) rfl rfl rfl ?_;refine gah ?_;refine oS (sA fun b2=>?_) rfl;refine gap ?_;refine oS (sP [_,_] rfl zp1 (qaP sb T i op 2 hl zo) (fun s i1 op1 h1=>?_) (fun l er i1 op1 h1 e9 he9=>?_)) rfl;rotate_left
 ·exact zT32
 rw[h1,qao] at hr;obtain ⟨rfl,rfl,t,ht,_,_⟩:=qdJ h1;have:=qhS ht;refine gad ?_;refine oS (sA fun b3=>?_) rfl;refine gac ?_;refine oS (sP [_,_] rfl zp1 (qck sb T (i+1) op1 [40] hl zo zo) (fun v i2 op2 h2=>?_) (fun l er i2 op2 h2 e9 he9=>?_)) rfl;rotate_left
 ·rw[h2,qat] at hr;refine gae ?_;exact panP zb0 (by cases hr;rfl) zhp
 rw[h2,qao] at hr;obtain ⟨rfl,rfl,ho1,hi1⟩:=qbb h2;refine gap ?_;refine zQ2 ?_;refine oS (sH [_,_] rfl pH (qce sb T (i+1+1) (op1+1) [[41]] hl zo (by simp)) ?_) rfl;refine gad ?_;obtain ⟨r3,hr3⟩:=qaR hr
 refine qae.mid (A:=List (List UInt8)×Nat) (fun _=>[(0,ptr sb 0),(2,ptr b2 0),(3,ptr b3 0)]) (fun a=>(b3,.cells 79 [str s,.list (a.1.map str),qab,qab])::srcH sb T a.2 (op1+1)::[(b2,.cells 79 [str [],qab,qab,qab])])
  (fun a=>i+1+1<=a.2/\a.2<=T.length/\r3=.ok a.1 a.2 (op1+1)) ?_ ?_
 ·refine oC rfl (fun hc=>?_) (fun hc=>?_)
  ·have hc':qaK T (i+1+1) [[41]]=false:=by simpa using hc
   rw[if_neg (by rw[hc'];decide)] at hr3;refine gag ?_;refine oS (sP [_] rfl pH (qjk sb T hT f (i+1+1) (op1+1) r3 zo hr3) (fun ns i3 op3 h3=>?_) (fun l er i3 op3 h3 e9 he9=>?_)) rfl
   ·obtain ⟨g1,g2,g3,rfl⟩:=qcz T f _ _ _ (hr3.trans (congrArg some h3));have g5:=g3 zo;refine gad ?_;exact ⟨(ns,i3),⟨by omega,g5,h3⟩,⟨rfl,rfl,rfl,trivial⟩,rfl,rfl⟩
   ·rw[if_neg (by rw[hc'];decide),hr3,h3,qat] at hr;refine gak ?_;exact panP (he9.trans rfl) (by cases hr;rfl) zhp
  ·have hc':qaK T (i+1+1) [[41]]=true:=by simpa using hc
   rw[if_pos hc'] at hr3;cases hr3;refine qae.cellSub zp1 (cs':=[str s,.list [],qab,qab]) ⟨vR _,vN,vR _,vR _,trivial⟩ ?_;refine gaq ?_;exact ⟨([],i+1+1),⟨zNr _,by omega,rfl⟩,⟨rfl,rfl,rfl,trivial⟩,rfl,rfl⟩
 ·rintro ⟨ps,i3⟩ ⟨hi3,hi3T,rfl⟩ j hj;rw[hr3,qao] at hr;refine gag ?_;refine oS (sP [_,_] rfl zp1 (qeR sb T i3 (op1+1) [41] hl zo zo zo) (fun u i4 op4 h4=>?_) (fun l er i4 op4 h4 e9 he9=>?_)) rfl;rotate_left
  ·rw[h4,qat] at hr;refine gae ?_;exact panP zb0 (by cases hr;rfl) zhp
  rw[h4,qao] at hr;obtain ⟨rfl,rfl,hi4⟩:=qeT h4;refine gap ?_;refine oS (sP [_,_] rfl pH (qck sb T (i3+1) op4 [123] hl zo zo) (fun u2 i5 op5 h5=>?_) (fun l er i5 op5 h5 e9 he9=>?_)) rfl;rotate_left
  ·rw[h5,qat] at hr;refine gae ?_;exact panP zb0 (by cases hr;rfl) zhp
  rw[h5,qao] at hr;obtain ⟨rfl,rfl,ho5,hi5⟩:=qbb h5;refine gap ?_;obtain ⟨r6,hr6⟩:=qaR hr;refine oS (sP [_] rfl pH (qiz sb T hT f (i3+1+1) (op4+1) r6 zo hr6) (fun vs i6 op6 h6=>?_) (fun l er i6 op6 h6 e9 he9=>?_)) rfl;rotate_left
  ·rw[hr6,h6,qat] at hr;refine gae ?_;exact panP zb0 (by cases hr;rfl) zhp
  rw[hr6,h6,qao] at hr;obtain ⟨g1,g2,g3,rfl⟩:=qbY T f _ _ _ _ (hr6.trans (congrArg some h6));have g4:=g3 zo;refine gac ?_;obtain ⟨r7,hr7⟩:=qaR hr;refine oS (sP [_] rfl zp1 ((qwx hG sb T hT f).2.1 i6 (op4+1) r7 zo zo hr7) (fun ss i7 op7 h7=>?_) (fun l er i7 op7 h7 e9 he9=>?_)) rfl;rotate_left
  ·rw[hr7,h7,qat] at hr;refine gae ?_;exact panP zb0 (by cases hr;rfl) zhp
  rw[hr7,h7,qao] at hr;obtain ⟨q1,q2,q3,rfl⟩:=(qeU T f).2.1 _ _ _ _ (hr7.trans (congrArg some h7));have q4:=q3 zo;refine gac ?_;refine oS (sP [_,_] rfl zp1 (qeR sb T i7 (op4+1) [125] hl zo zo zo) (fun u3 i8 op8 h8=>?_) (fun l er i8 op8 h8 e9 he9=>?_)) rfl;rotate_left
  ·rw[h8,qat] at hr;refine gae ?_;exact panP zb0 (by cases hr;rfl) zhp
  rw[h8,qao] at hr;refine gac ?_;exact retP (v:=⟨s,ps,vs,ss⟩) hj (rC (rA (k:=4) rfl zm0 rfl zsr) rN) (by cases hr;rfl) rfl (zhP zp1 zhn)
end
end Go.Proofs.YtdakelgkjdaijaaGreatDoor
namespace Go.Proofs.YtdakelgkjdaijaaGreatDoor
open Go.GL Go.RowKit Go.Stele
theorem qv6 {a b c:Nat×LObj} {X Y Z:Heap}:(a::b::c::(X++(Y++Z))).Perm (X++(a::b::c::(Y++Z))):=List.perm_append_comm_assoc [a,b,c] X (Y++Z)
theorem qvR {a b c:Nat×LObj} {X Y Z:Heap}:(a::b::c::(X++(Y++Z))).Perm (Y++(a::b::c::(X++Z))):=
 (((List.perm_append_comm_assoc X Y Z).cons c).cons b |>.cons a).trans (List.perm_append_comm_assoc [a,b,c] Y (X++Z))
theorem qvX {a b c:Nat×LObj} {X Y Z:Heap}:(a::b::c::(X++(Y++Z))).Perm (Z++(a::b::c::(X++Y))):=
 ((((show (X++(Y++Z)).Perm (Z++(X++Y)) from by rw[<-zAs];exact zPc).cons c).cons b).cons a).trans (List.perm_append_comm_assoc [a,b,c] Z (X++Y))
theorem qwJ {a b c:Nat×LObj} {X Y Z:Heap}:HSub (a::b::c::(X++(Y++Z))) (b::a::c::((Y++Z)++X)):=
 ⟨[],by rw[zLz];exact (List.Perm.swap _ _ _).trans ((((zPc).cons c).cons b).cons a)⟩
theorem qvv {a b c:Nat×LObj} {X Y Z:Heap}:HSub (a::b::c::(X++(Y++Z))) (b::a::c::((X++Z)++Y)):=
 ⟨[],by rw[zLz];exact (List.Perm.swap _ _ _).trans ((((show ((X++Z)++Y).Perm (X++(Y++Z)) from by rw[zAs];exact zPc.append_left X).cons c).cons b).cons a)⟩
theorem qvB {a b c:Nat×LObj} {X Y Z:Heap}:HSub (a::b::c::(X++(Y++Z))) (b::a::c::((X++Y)++Z)):=
 ⟨[],by rw[zLz,zAs];exact List.Perm.swap _ _ _⟩
theorem Acc.cell {s:Nat} {v:LV} {es:List LV} {H F:Heap} (h:Acc s v es H F):v.cells? = some [v]/\[v].all qc0=true:=by
 cases h <;> exact ⟨rfl,rfl⟩
attribute [local irreducible] LOps qae qad LCalls Go.GL.Pure qax qaj qac LQ LAny qaE qal
section
variable {B0:Nat} {w0:World}
theorem qdk (hG:GW B0 w0) (sb:Nat) (T:List Tok) (hT:TOK T) (f:Nat) (r:Res Pr) (hr:qbH T f ⟨[],[],[]⟩ 0 0=some r) :
  LCalls (KC B0 w0) 24 [ptr sb 0] [srcH sb T 0 0] (qdp sb T qeL r):=by
 have hl:=hT.len;have hml:(T.map qdg).length=T.length:=zLm _;refine cI Tryz.func24 rfl (n:=47) rfl rfl rfl ?_;refine gah ?_;refine oS (sA fun b2=>?_) rfl;refine gaj ?_;refine oS (sA fun b3=>?_) rfl;refine gab ?_
 refine oL (fun k ls H=>∃ (p:Pr) (v1 v2 v3:LV) (i2:Nat) (H1 H2 H3:Heap),k<=f/\ls=[(0,ptr sb 0),(2,ptr b2 0),(3,ptr b3 0)]/\H=srcH sb T i2 0::(b3,.cells 28 [v1,v2,v3])::(b2,.cells 28 [qab,qab,qab])::(H1++(H2++H3)) /\
   Acc 1 v1 (p.vars.map str) H1 []/\Acc 2 v2 (p.arrays.map qd8) H2 []/\Acc 4 v3 (p.funcs.map qaQ) H3 []/\i2<=T.length/\p.vars.length<=i2/\p.arrays.length<=i2/\p.funcs.length<=i2/\qbH T k p i2 0=some r)
  ⟨f,_,_,⟨⟨[],[],[]⟩,qab,qab,qab,0,[],[],[],zNr _,rfl,rfl,Acc.nil,Acc.nil,Acc.nil,Nat.zero_le _,Nat.zero_le _,Nat.zero_le _,Nat.zero_le _,hr⟩,⟨rfl,rfl,rfl,trivial⟩,zhP zp2 zhr⟩ ?_
 rintro k ls H ⟨p,v1,v2,v3,i2,H1,H2,H3,hkf,rfl,rfl,ha1,ha2,ha3,hi2,hl1,hl2,hl3,hI⟩ j hj
 obtain ⟨k,rfl⟩:∃ k',k=k'+1:=by
  cases k with
  |zero=>rw[qbH] at hI;cases hI
  |succ k=>exact ⟨k,rfl⟩
 rw[qbH] at hI;refine gab ?_;refine cC [(0,ptr sb 0),(2,ptr b2 0),(3,ptr b3 0),(13,bool (decide (i2<T.length)))] ?_ (fun j2 hj2=>?_)
 ·refine zQ32 ?_;exact ⟨⟨rfl,rfl,rfl,qas (by rw[decide_eq_decide];simp),trivial⟩,rfl,rfl⟩
 ·skip
  refine oC rfl (fun hc=>?_) (fun hc=>?_)
  ·have hlt:i2<T.length:=zt hc;rw[if_neg zo] at hI;refine gaa ?_;refine zQ2 ?_;refine oS (sH [_,_] rfl pH (qce sb T i2 0 [qe8] hl zo (by simp)) ?_) rfl;refine gaf ?_;refine oC rfl (fun hv=>?_) (fun hv=>?_)
   ·rw[if_pos hv] at hI;obtain ⟨r2,hr2⟩:=qaR hI;refine cD (m:=7) rfl [] ?_;refine aT 0 rfl rfl (pF rfl) ?_;refine zQ39 ?_;refine aL ?_ zhn;refine zl2 (i:=1) (j:=3) zk ?_ ?_
    ·refine lH rfl rfl (pL (c:=v1) rfl zm1 rfl) ?_;refine lO 3 (lW rfl (.inl rfl) rfl (sP [_] rfl pH (qiz sb T hT k i2 0 r2 hi2 hr2) (fun l i3 op3 h3=>?_) (fun l er i3 op3 h3 e' he'=>?_)))
     ·obtain ⟨g1,g2,g3,rfl⟩:=qbY T k _ _ _ _ (hr2.trans (congrArg some h3));have g4:=g3 hi2;have g5:=g2 hv;have g6:=qlr T _ _ _ _ _ _ _ (hr2.trans (congrArg some h3));rw[hr2,h3,qao] at hI;rw[zLn] at g6;refine lO 4 (lW rfl (.inl rfl) rfl (sG qv6 rfl ha1 rfl (qef l) (qgf l) (by simp;omega) fun v' H' ha'=>?_));refine zQ49 ?_;exact ⟨k,_,_,by omega,⟨{ p with vars:=p.vars++l },v',v2,v3,i3,H',H2,H3,by omega,rfl,rfl,by rw[zMa];exact ha',ha2,ha3,g4,by rw[zLa];omega,zNt hl2 zo,zNt hl3 zo,hI⟩,⟨rfl,rfl,rfl,trivial⟩,qwJ,hj2.trans hj⟩
     ·exact zT9
    ·refine lW rfl (.inl rfl) rfl (sP [_] rfl pH (qiz sb T hT k i2 0 r2 hi2 hr2) (fun l i3 op3 h3=>?_) (fun l er i3 op3 h3 e' he'=>?_))
     ·refine lO 1 (lH rfl rfl (pL (c:=v1) rfl zm1 rfl) ?_);obtain ⟨g1,g2,g3,rfl⟩:=qbY T k _ _ _ _ (hr2.trans (congrArg some h3));have g4:=g3 hi2;have g5:=g2 hv;have g6:=qlr T _ _ _ _ _ _ _ (hr2.trans (congrArg some h3));rw[hr2,h3,qao] at hI;rw[zLn] at g6;refine lO 4 (lW rfl (.inl rfl) rfl (sG qv6 rfl ha1 rfl (qef l) (qgf l) (by simp;omega) fun v' H' ha'=>?_));refine zQ49 ?_;exact ⟨k,_,_,by omega,⟨{ p with vars:=p.vars++l },v',v2,v3,i3,H',H2,H3,by omega,rfl,rfl,by rw[zMa];exact ha',ha2,ha3,g4,by rw[zLa];omega,zNt hl2 zo,zNt hl3 zo,hI⟩,⟨rfl,rfl,rfl,trivial⟩,qwJ,hj2.trans hj⟩
     ·exact zT9
   ·rw[if_neg (by rw[hv];decide)] at hI;refine gag ?_;refine oS (sH [_,_] rfl pH (qcp sb T i2 0 qeQ hl zo) ?_) rfl;refine gaf ?_;refine oC rfl (fun hw=>?_) (fun hw=>?_)
    ·have hlt2:=qaL hw;rw[if_pos hw] at hI;simp only[hw,if_true];obtain ⟨r2,hr2⟩:=qaR hI;refine cD (m:=8) rfl [] ?_;refine aT 0 rfl rfl (pF rfl) ?_;refine zQ39 ?_;refine aL ?_ zhn;refine zl2 (i:=1) (j:=3) zk ?_ ?_
     ·refine lH rfl rfl (pL (c:=v2) rfl zm1 rfl) ?_;refine lO 3 (lW rfl (.inl rfl) rfl (sP [_] rfl pH (qer hG sb T hT (i2+1) 0 r2 zo zo hr2) (fun l i3 op3 h3=>?_) (fun l er i3 op3 h3 e' he'=>?_)))
      ·obtain ⟨g1,g2,g3,rfl⟩:=qc6 T _ _ _ (hr2.trans (congrArg some h3));have g4:=g3 zo;rw[hr2,h3,qao] at hI;refine zQ44 ?_;refine lO 5 (lW rfl (.inl rfl) rfl (sG qvR rfl ha2 rfl (by simp;rfl) rfl (by simp;omega) fun v' H' ha'=>?_));refine zQ22 ?_;exact ⟨k,_,_,by omega,⟨{ p with arrays:=p.arrays++[l] },v1,v',v3,i3,H1,H',H3,by omega,rfl,rfl,ha1,by rw[zMa];exact ha',ha3,g4,zNt hl1 zo,by rw[zLa,List.length_singleton];omega,zNt hl3 zo,hI⟩,⟨rfl,rfl,rfl,trivial⟩,qvv,hj2.trans hj⟩
      ·exact zT9
     ·refine lW rfl (.inl rfl) rfl (sP [_] rfl pH (qer hG sb T hT (i2+1) 0 r2 zo zo hr2) (fun l i3 op3 h3=>?_) (fun l er i3 op3 h3 e' he'=>?_))
      ·refine zl2 (i:=1) (j:=4) zk ?_ ?_
       ·refine lH rfl rfl (pL (c:=v2) rfl zm1 rfl) ?_;obtain ⟨g1,g2,g3,rfl⟩:=qc6 T _ _ _ (hr2.trans (congrArg some h3));have g4:=g3 zo;rw[hr2,h3,qao] at hI;refine zQ44 ?_;refine lO 5 (lW rfl (.inl rfl) rfl (sG qvR rfl ha2 rfl (by simp;rfl) rfl (by simp;omega) fun v' H' ha'=>?_));refine zQ22 ?_;exact ⟨k,_,_,by omega,⟨{ p with arrays:=p.arrays++[l] },v1,v',v3,i3,H1,H',H3,by omega,rfl,rfl,ha1,by rw[zMa];exact ha',ha3,g4,zNt hl1 zo,by rw[zLa,List.length_singleton];omega,zNt hl3 zo,hI⟩,⟨rfl,rfl,rfl,trivial⟩,qvv,hj2.trans hj⟩
       ·obtain ⟨g1,g2,g3,rfl⟩:=qc6 T _ _ _ (hr2.trans (congrArg some h3));have g4:=g3 zo;rw[hr2,h3,qao] at hI;refine zQ36 ?_;refine lO 1 (lH rfl rfl (pL (c:=v2) rfl zm1 rfl) ?_);refine lO 5 (lW rfl (.inl rfl) rfl (sG qvR rfl ha2 rfl (by simp;rfl) rfl (by simp;omega) fun v' H' ha'=>?_));refine zQ22 ?_;exact ⟨k,_,_,by omega,⟨{ p with arrays:=p.arrays++[l] },v1,v',v3,i3,H1,H',H3,by omega,rfl,rfl,ha1,by rw[zMa];exact ha',ha3,g4,zNt hl1 zo,by rw[zLa,List.length_singleton];omega,zNt hl3 zo,hI⟩,⟨rfl,rfl,rfl,trivial⟩,qvv,hj2.trans hj⟩
      ·exact zT9
    ·rw[if_neg (by rw[hw];decide)] at hI;simp only[hw,Bool.false_eq_true,if_false];refine gag ?_;refine oS (sH [_,_] rfl pH (qcp sb T i2 0 qh0 hl zo) ?_) rfl;refine gaf ?_;refine oC rfl (fun hu=>?_) (fun hu=>?_)
     ·have hlt2:=qaL hu;rw[if_pos hu] at hI;simp only[hu,if_true];obtain ⟨r2,hr2⟩:=qaR hI;refine cD (m:=8) rfl [] ?_;refine aT 0 rfl rfl (pF rfl) ?_;refine zQ39 ?_;refine aL ?_ zhn;refine zl2 (i:=1) (j:=3) zk ?_ ?_
      ·refine lH rfl rfl (pL (c:=v3) rfl zm1 rfl) ?_;refine lO 3 (lW rfl (.inl rfl) rfl (sP [_] rfl pH (ql9 hG sb T hT k (i2+1) 0 r2 zo zo hr2) (fun l i3 op3 h3=>?_) (fun l er i3 op3 h3 e' he'=>?_)))
       ·obtain ⟨g1,g2,g3,rfl⟩:=qdL T k _ _ _ (hr2.trans (congrArg some h3));have g4:=g3 zo;rw[hr2,h3,qao] at hI;refine zQ44 ?_;refine lO 5 (lW rfl (.inl rfl) rfl (sG qvX rfl ha3 rfl (by simp;rfl) rfl (by simp;omega) fun v' H' ha'=>?_));refine zQ23 ?_;exact ⟨k,_,_,by omega,⟨{ p with funcs:=p.funcs++[l] },v1,v2,v',i3,H1,H2,H',by omega,rfl,rfl,ha1,ha2,by rw[zMa];exact ha',g4,zNt hl1 zo,zNt hl2 zo,by rw[zLa,List.length_singleton];omega,hI⟩,⟨rfl,rfl,rfl,trivial⟩,qvB,hj2.trans hj⟩
       ·exact zT9
      ·refine lW rfl (.inl rfl) rfl (sP [_] rfl pH (ql9 hG sb T hT k (i2+1) 0 r2 zo zo hr2) (fun l i3 op3 h3=>?_) (fun l er i3 op3 h3 e' he'=>?_))
       ·refine zl2 (i:=1) (j:=4) zk ?_ ?_
        ·refine lH rfl rfl (pL (c:=v3) rfl zm1 rfl) ?_;obtain ⟨g1,g2,g3,rfl⟩:=qdL T k _ _ _ (hr2.trans (congrArg some h3));have g4:=g3 zo;rw[hr2,h3,qao] at hI;refine zQ44 ?_;refine lO 5 (lW rfl (.inl rfl) rfl (sG qvX rfl ha3 rfl (by simp;rfl) rfl (by simp;omega) fun v' H' ha'=>?_));refine zQ23 ?_;exact ⟨k,_,_,by omega,⟨{ p with funcs:=p.funcs++[l] },v1,v2,v',i3,H1,H2,H',by omega,rfl,rfl,ha1,ha2,by rw[zMa];exact ha',g4,zNt hl1 zo,zNt hl2 zo,by rw[zLa,List.length_singleton];omega,hI⟩,⟨rfl,rfl,rfl,trivial⟩,qvB,hj2.trans hj⟩
        ·obtain ⟨g1,g2,g3,rfl⟩:=qdL T k _ _ _ (hr2.trans (congrArg some h3));have g4:=g3 zo;rw[hr2,h3,qao] at hI;refine zQ36 ?_;refine lO 1 (lH rfl rfl (pL (c:=v3) rfl zm1 rfl) ?_);refine lO 5 (lW rfl (.inl rfl) rfl (sG qvX rfl ha3 rfl (by simp;rfl) rfl (by simp;omega) fun v' H' ha'=>?_));refine zQ23 ?_;exact ⟨k,_,_,by omega,⟨{ p with funcs:=p.funcs++[l] },v1,v2,v',i3,H1,H2,H',by omega,rfl,rfl,ha1,ha2,by rw[zMa];exact ha',g4,zNt hl1 zo,zNt hl2 zo,by rw[zLa,List.length_singleton];omega,hI⟩,⟨rfl,rfl,rfl,trivial⟩,qvB,hj2.trans hj⟩
       ·exact zT9
     ·rw[if_neg (by rw[hu];decide)] at hI;simp only[hu,Bool.false_eq_true,if_false];refine gag ?_;refine oS (sP [_,_] rfl pH (qfw qeL sb T i2 0 3 hl zo) (fun _ _ _ h=>by cases h) (fun l er i' op' h e' he'=>?_)) rfl;cases h;refine gae ?_;exact panP (he'.trans (hj2.trans hj)) (by cases hI;rfl) zhp
  ·have hge:T.length<=i2:=by have:=zf hc;omega
   rw[if_pos hge] at hI;refine qae.cellSub zp1 (cs':=[.list (p.vars.map str),.list (p.arrays.map qd8),.list (p.funcs.map qaQ)]) ⟨ha1.sub,ha2.sub,ha3.sub,trivial⟩ ?_;refine gal ?_;exact retP (v:=p) (hj2.trans hj) (rC (rA (k:=3) rfl zm0 rfl zsr) rN) (by cases hI;rfl) rfl (zhP zp2 zhn)
end
end Go.Proofs.YtdakelgkjdaijaaGreatDoor
namespace Go.GL
open Go.RowKit
def qa1 (C:Ctx) (f:FuncId) (args:List LV) (u:FrameMode) (H:Heap) (R:FrameMode->Heap->Prop):Prop:=
 ∀ (vs:List Value) w L,RepL w L args vs->RelH C w L H->CallsD C.P f vs.toArray u w fun e u' w'=>(∃ v,e=.returned v)/\qeJ C w L H w' (R u')
def qiO (C:Ctx) (n:Nat) (rs:List ResultVar) (R:LRes->Heap->Prop):List Deferred->FrameMode->Env->Heap->Prop
 |[],.returning,e,H=>∃ vs H',qbA C n e H rs vs/\HSub H' H/\R (.ret (qbq vs)) H'
 |[],.panicking ch,_,H=>∃ H',HSub H' H/\R (.panic ch) H'
 |[],.run,_,_=>False
 |d::ds,u,e,H=>u≠.run/\∃ f cap H1 F,d={ target:=.fn (.func f) cap,args:=#[] }/\TEnter C.P f/\H.Perm (H1++F) /\
   qa1 C f (cap.toList.map .atom) u H1 fun u' H'=>qiO C n rs R ds (settle u') e (H'++F)
def qpW (C:Ctx) (n:Nat) (w:World) (L:Live) (K:List Nat) (Q:Post):Exit->Act->World->Prop:=
 fun x a' w'=>∃ e' H' L',Fr K w L w' L' H'/\RelH C w' L' H'/\RelE n a' e' w' L'/\Q x e' H'
theorem qi7 {C:Ctx} {n:Nat} {w w1:World} {L L1:Live} {K:List Nat} {H1:Heap} {Q:Post} (f:Fr K w L w1 L1 H1) {x:Exit} {a:Act} {w':World}
  (k:qpW C n w1 L1 (keys H1) Q x a w'):qpW C n w L K Q x a w':=
 let ⟨e',H',L',h1,h2,h3,h4⟩:=k
 ⟨e',H',L',f.trans h1,h2,h3,h4⟩
def qbk (C:Ctx) (n:Nat) (ops:Array Oper) (Q:Post) (rest:List Oper) (e:Env) (H:Heap):Prop:=
 ∀ a w L,RelE n a e w L->RelH C w L H->wpList C.P ops (qpW C n w L (keys H) Q) rest a w
def qaG (C:Ctx) (n:Nat) (c:Code) (Q:Post) (e:Env) (H:Heap):Prop:=
 ∀ a w L,RelE n a e w L->RelH C w L H->c.wp C.P (qpW C n w L (keys H) Q) a w
section P
variable {C:Ctx} {n:Nat} {ops:Array Oper} {Q:Post} {e:Env} {H:Heap}
theorem qbk.nil (h:Q .normal e H):qbk C n ops Q [] e H:=fun _ _ L hE hH=>⟨e,H,L,Fr.refl _ _ _,hH,hE,h⟩
theorem qbk.step {dst:Option Nat} {op:Op} {ty:TypeId} {pos:String} {aft:Array Edge} {rest:List Oper}
  (h:qad C ⟨dst,op,ty,pos,aft,none⟩ e H (fun lv H'=>qbk C n ops Q rest (e.put dst lv) H') (fun ch H'=>Q (.panic ch) e H'))
  (hd:qcK n dst):qbk C n ops Q (⟨dst,op,ty,pos,aft,none⟩::rest) e H:=fun a w L hE hH=>by
 unfold wpList;rw[if_pos (by simp[Region.wanted])];have hs:=h a.eval w L hE.ev hH;refine .inl ?_;unfold Oper.wp
 have left:∀ {w' v},Left C w L H w' v (fun lv H'=>qbk C n ops Q rest (e.put dst lv) H')->wpList C.P ops (qpW C n w L (keys H) Q) rest (a.put dst v) w':=fun h=>by
  obtain ⟨lv,H',L',h1,h2,h3,h4⟩:=h;exact qbr (fun _ _ _=>qi7 h1) _ _ _ (h4 _ _ L' ((hE.mono h1.ext).put hd h3) h2)
 have leftX:∀ {w' ch},qeJ C w L H w' (fun H'=>Q (.panic ch) e H')->qpW C n w L (keys H) Q (.panic ch) a w':=fun h=>by
  obtain ⟨H',L',h1,h2,h3⟩:=h;exact ⟨e,H',L',h1,h2,hE.mono h1.ext,h3⟩
 generalize (execOp a.eval ⟨dst,op,ty,pos,aft,none⟩).run C.P w=r at hs ⊢;unfold qeW at hs;split at hs
 ·exact left hs
 ·exact left hs
 ·obtain ⟨rfl,hs⟩:=hs;refine Calls.mono hs fun e w' he=>?_
  cases e with
  |returned v=>exact left he
  |panicked ch=>exact leftX he
  |outgrown=>exact he.elim
 ·exact leftX hs
 ·exact hs.elim
theorem qbk.pure {dst:Option Nat} {op:Op} {ty:TypeId} {pos:String} {aft:Array Edge} {rest:List Oper} {lv:LV}
  (h:Pure C ⟨dst,op,ty,pos,aft,none⟩ e H lv) (hd:qcK n dst) (k:qbk C n ops Q rest (e.put dst lv) H):qbk C n ops Q (⟨dst,op,ty,pos,aft,none⟩::rest) e H:=
 qbk.step (h.step k) hd
theorem qaG.region {id:Nat} {l:List Oper} (h:qbk C n l.toArray Q l e H):qaG C n (.region id l.toArray false) Q e H:=fun a w L hE hH=>wp_region_lit (h a w L hE hH)
theorem qaG.ret (h:Q .ret e H):qaG C n .ret Q e H:=fun _ _ L hE hH=>wp_ret ⟨e,H,L,Fr.refl _ _ _,hH,hE,h⟩
theorem qaG.seq {x y:Code} (h:qaG C n x (qax (fun e H=>qaG C n y Q e H) Q) e H):qaG C n (.seq x y) Q e H:=fun a w L hE hH=>by
 refine wp_seq (Go.wp_mono (h a w L hE hH) fun ex a' w' hq=>?_);obtain ⟨e',H',L',h1,h2,h3,h4⟩:=hq
 cases ex with
 |normal=>exact Go.wp_mono (h4 a' w' L' h3 h2) fun _ _ _=>qi7 h1
 |exit id=>exact ⟨e',H',L',h1,h2,h3,h4⟩
 |goto id=>exact ⟨e',H',L',h1,h2,h3,h4⟩
 |ret=>exact ⟨e',H',L',h1,h2,h3,h4⟩
 |panic ch=>exact ⟨e',H',L',h1,h2,h3,h4⟩
 |outgrown=>exact ⟨e',H',L',h1,h2,h3,h4⟩
theorem qaG.block {id:Nat} {c:Code} (h:qaG C n c (qaj id Q) e H):qaG C n (.block id c) Q e H:=fun a w L hE hH=>by
 refine wp_block (Go.wp_mono (h a w L hE hH) fun ex a' w' hq=>?_);obtain ⟨e',H',L',h1,h2,h3,h4⟩:=hq
 cases ex with
 |exit id'=>
  simp only[Exit.inBlock,qaj] at h4 ⊢;split
  ·rename_i hid;rw[if_pos hid] at h4;exact ⟨e',H',L',h1,h2,h3,h4⟩
  ·rename_i hid;rw[if_neg hid] at h4;exact ⟨e',H',L',h1,h2,h3,h4⟩
 |normal=>exact ⟨e',H',L',h1,h2,h3,h4⟩
 |goto id=>exact ⟨e',H',L',h1,h2,h3,h4⟩
 |ret=>exact ⟨e',H',L',h1,h2,h3,h4⟩
 |panic ch=>exact ⟨e',H',L',h1,h2,h3,h4⟩
 |outgrown=>exact ⟨e',H',L',h1,h2,h3,h4⟩
def QNo (Q:Post):Post
 |.panic _,_,_=>False
 |x,e,H=>Q x e H
theorem qaG.of {c:Code} (h:qae C n c (QNo Q) e H):qaG C n c Q e H:=fun a w L hE hH=>by
 refine Go.wp_mono (h a w L hE hH) fun ex a' w' hq=>?_;obtain ⟨e',H',L',h1,h2,h3,h4⟩:=hq
 cases ex with
 |panic ch=>exact h4.elim
 |normal=>exact ⟨e',H',L',h1,h2,h3,h4⟩
 |exit id=>exact ⟨e',H',L',h1,h2,h3,h4⟩
 |goto id=>exact ⟨e',H',L',h1,h2,h3,h4⟩
 |ret=>exact ⟨e',H',L',h1,h2,h3,h4⟩
 |outgrown=>exact ⟨e',H',L',h1,h2,h3,h4⟩
theorem QNo.normal {k:Env->Heap->Prop} (h:k e H):QNo (qax k Q) .normal e H:=h
theorem QNo.ret (h:Q .ret e H):QNo Q .ret e H:=h
end P
def qbB (C:Ctx) (n:Nat) (rs:List ResultVar) (R:LRes->Heap->Prop):Post
 |.normal,e,H|.ret,e,H=>qiO C n rs R e.ds .returning e H
 |.panic ch,e,H=>qiO C n rs R e.ds (.panicking ch) e H
 |_,_,_=>False
theorem qqY {C:Ctx} {n:Nat} {fn:Func} {R:LRes->Heap->Prop} {w0:World} {L0:Live} {H0:Heap} (h3:fn.results.size<=3) (tmps:Array Value):∀ (ds:List Deferred) (u:FrameMode) (e:Env) (H:Heap) (w:World) (L:Live),tmps.size=n->(∀ i,Rep w L (e.s i) (tmps.getD i undef))->RelH C w L H->Fr (keys H0) w0 L0 w L H ->
  qiO C n fn.results.toList R ds u e H->Leaves C.P fn tmps (qcu C w0 L0 H0 (fun v=>R (.ret v)) (fun ch=>R (.panic ch))) ds u w
 |[],.returning,e,H,w,L,hn,hv,hH,hF,h=>by
  obtain ⟨vs,H',h1,h2,h5⟩:=h;obtain ⟨v,r1,r2⟩:=qho (a:={ tmps,defers:=e.ds }) ⟨hn,rfl,hv⟩ hH h1 h3
  exact ⟨v,r1,qbq vs,H',L,hF.weak h2,hH.weak h2,r2,h5⟩
 |[],.panicking ch,e,H,w,L,hn,hv,hH,hF,h=>by
  obtain ⟨H',h2,h5⟩:=h
  exact ⟨H',L,hF.weak h2,hH.weak h2,h5⟩
 |[],.run,e,H,w,L,hn,hv,hH,hF,h=>h.elim
 |d::ds,u,e,H,w,L,hn,hv,hH,hF,h=>by
  obtain ⟨hu,f,cap,H1,F,rfl,hen,hp,hc⟩:=h;refine ⟨hu,.func f,cap,f,cap,rfl,by simp[invoke,qea],?_⟩;have hH':=hH.perm hp;have:=hc cap.toList w L (qaT _) hH'.left;simp only[Array.toArray_toList] at this;refine CallsD.mono this ?_;rintro ex u' w' ⟨⟨v,rfl⟩,hx⟩;obtain ⟨H',L',g1,g2,g3⟩:=qeJ.frame hH' hx;exact qqY h3 tmps ds (settle u') e H' w' L' hn (fun i=>(hv i).mono g1.ext _ _) g2 (hF.trans (g1.perm hp.symm)) g3
theorem qa1.mono {C:Ctx} {f:FuncId} {args:List LV} {u:FrameMode} {H:Heap} {R R':FrameMode->Heap->Prop} (h:qa1 C f args u H R) (hr:∀ u H,R u H->R' u H):qa1 C f args u H R':=fun vs w L h1 h2=>
 CallsD.mono (h vs w L h1 h2) fun _ _ _ ⟨h3,h4⟩=>⟨h3,h4.mono (hr _)⟩
theorem LCalls.introD {C:Ctx} {f:FuncId} {fn:Func} {c:Code} {n:Nat} {args:List LV} {H:Heap} {R:LRes->Heap->Prop} (hf:C.P.funcs[f]? = some fn) (hb:fn.body=some c) (hn:fn.ntmps=n) (h3:Nat.ble fn.results.size 3=true)
  (hl:Nat.ble args.length n=true) (h:qaG C n c (qbB C n fn.results.toList R) (qgm args) H):LCalls C f args H R:=fun vs w L hv hH=>by
 subst hn;have hl':args.length<=fn.ntmps:=by simpa using hl
 have h3':fn.results.size<=3:=by simpa using h3
 have hlen:=hv.length;refine calls_of_wp_defers hf hb (Go.wp_mono (h _ w L ⟨?_,rfl,fun i=>?_⟩ hH) fun ex a' w' hq=>?_)
 ·simp;omega
 ·exact zT0
 ·obtain ⟨e',H',L',g1,g2,g3,g4⟩:=hq
  have ret:∀ u,qiO C fn.ntmps fn.results.toList R e'.ds u e' H'->Leaves C.P fn a'.tmps (qcu C w L H (fun v=>R (.ret v)) (fun ch=>R (.panic ch))) a'.defers u w':=fun u hu=>by
   rw[g3.ds];exact qqY h3' a'.tmps _ u e' H' w' L' g3.size g3.vals g2 g1 hu
  cases ex with
  |normal=>exact ret _ g4
  |ret=>exact ret _ g4
  |panic ch=>exact ret _ g4
  |exit id=>exact g4.elim
  |goto id=>exact g4.elim
  |outgrown=>exact g4.elim
abbrev qmg:=Exit->FrameMode->Env->Heap->Prop
def qdx (C:Ctx) (n:Nat) (c:Code) (Q:qmg) (u:FrameMode) (e:Env) (H:Heap):Prop:=
 ∀ a w L (c0:Frame) cs,c0.mode=u->RelE n a e w L->RelH C w L H ->
  c.wpS C.P (fun x a' cs' w'=>∃ u' e' H' L',cs'={ c0 with mode:=u' }::cs/\Fr (keys H) w L w' L' H'/\RelH C w' L' H'/\RelX n x a' e' w' L'/\Q x u' e' H') a (c0::cs) w
theorem qlE {P:Program} {c:Code} {Q Q':Exit->Act->List Frame->World->Prop} {a:Act} {cs:List Frame} {w:World} (h:c.wpS P Q a cs w) (hq:∀ x a cs w,Q x a cs w->Q' x a cs w):c.wpS P Q' a cs w:=fun b k h1 h2=>
 let ⟨e,a',cs',w',q,r⟩:=h b k h1 h2
 ⟨e,a',cs',w',hq _ _ _ _ q,r⟩
section S
variable {C:Ctx} {n:Nat} {Q:qmg} {u:FrameMode} {e:Env} {H:Heap}
theorem qdx.of {c:Code} (h:qae C n c (fun x e H=>Q x u e H) e H):qdx C n c Q u e H:=fun a w L c0 cs hu hE hH=>by
 refine wpS_of_wp (Go.wp_mono (h a w L hE hH) fun x a' w' hq=>?_);obtain ⟨e',H',L',h1,h2,h3,h4⟩:=hq;exact ⟨u,e',H',L',by subst hu;rfl,h1,h2,h3,h4⟩
theorem qdx.seq {x y:Code} (h:qdx C n x (fun ex u' e' H'=>match ex with|.normal=>qdx C n y Q u' e' H'|ex=>Q ex u' e' H') u e H):qdx C n (.seq x y) Q u e H:=fun a w L c0 cs hu hE hH=>by
 refine wpS_seq (qlE (h a w L c0 cs hu hE hH) fun ex a' cs' w' hq=>?_);obtain ⟨u',e',H',L',rfl,h1,h2,h3,h4⟩:=hq
 cases ex with
 |normal=>
  refine qlE (h4 a' w' L' { c0 with mode:=u' } cs rfl h3 h2) ?_;rintro ex a2 cs2 w2 ⟨u2,e2,H2,L2,rfl,g1,g2,g3,g4⟩
  exact ⟨u2,e2,H2,L2,rfl,h1.trans g1,g2,g3,g4⟩
 |exit id=>exact ⟨u',e',H',L',rfl,h1,h2,h3,h4⟩
 |goto id=>exact ⟨u',e',H',L',rfl,h1,h2,h3,h4⟩
 |ret=>exact ⟨u',e',H',L',rfl,h1,h2,h3,h4⟩
 |panic ch=>exact ⟨u',e',H',L',rfl,h1,h2,h3,h4⟩
 |outgrown=>exact ⟨u',e',H',L',rfl,h1,h2,h3,h4⟩
def qhH:FrameMode->Value×FrameMode
 |.panicking ({ v,recovered:=false,goexit:=false }::older)=>(v,.panicking ({ v,recovered:=true }::older))
 |u=>(.nilIface,u)
theorem qnm {P:Program} {ρ:Operand->Value} {dst:Option Nat} {ty:TypeId} {pos:String} {aft:Array Edge} {g:Option (Nat×Bool)} (w:World) :
  (execOp ρ ⟨dst,.call { callee:=.builtin .recover,args:=#[],argTypes:=#[] },ty,pos,aft,g⟩).run P w=.ok .recover w:=by
 rfl
theorem qnC (c0:Frame) (cs:List Frame):recoverD (c0::cs)=none/\qhH c0.mode=(.nilIface,c0.mode)∨recoverD (c0::cs)=some ((qhH c0.mode).1,{ c0 with mode:=(qhH c0.mode).2 }::cs):=by
 obtain ⟨fn,tmps,todo,defers,mode,kind,ro⟩:=c0
 cases mode with
 |run=>exact .inl ⟨rfl,rfl⟩
 |returning=>exact .inl ⟨rfl,rfl⟩
 |panicking ch=>
  cases ch with
  |nil=>exact .inl ⟨rfl,rfl⟩
  |cons p older=>
   obtain ⟨v,r,g⟩:=p;cases r <;> cases g <;> first|exact .inl ⟨rfl,rfl⟩|exact .inr rfl
theorem qdx.recover {id t s:Nat} {ty ty':TypeId} {pos pos':String} {aft aft':Array Edge} (ht:Nat.blt t n=true) (hs:Nat.blt s n=true) (h:Q .normal (qhH u).2 ((e.upd t (.atom (qhH u).1)).upd s (.atom (qhH u).1)) H) :
  qdx C n (.region id #[⟨some t,.call { callee:=.builtin .recover,args:=#[],argTypes:=#[] },ty,pos,aft,none⟩,⟨some s,.assign (.tmp t),ty',pos',aft',none⟩] false) Q u e H:=fun a w L c0 cs hu hE hH=>by
 refine wpS_region ?_;have hE1:∀ v,RelE n (a.put (some t) v) (e.upd t (.atom v)) w L:=fun v=>hE.put (dst:=some t) (by simp only[qcK,dstB];exact ht) qah
 have hev:∀ v,(a.put (some t) v).eval (.tmp t)=v:=fun v=>by
  have:=(hE1 v).ev (.tmp t);simpa [Env.ev,Env.upd,Rep] using this
 have hE2:∀ v,RelE n ((a.put (some t) v).put (some s) v) ((e.upd t (.atom v)).upd s (.atom v)) w L:=fun v=>(hE1 v).put (dst:=some s) (by simp only[qcK,dstB];exact hs) qah
 have h1:∀ v cs1,wpOpsS C.P #[⟨some t,.call { callee:=.builtin .recover,args:=#[],argTypes:=#[] },ty,pos,aft,none⟩,⟨some s,.assign (.tmp t),ty',pos',aft',none⟩] (fun x a' cs' w'=>∃ u' e' H' L',cs'={ c0 with mode:=u' }::cs/\Fr (keys H) w L w' L' H'/\RelH C w' L' H'/\RelX n x a' e' w' L'/\Q x u' e' H') [1] (a.put (some t) v) cs1 w
   ↔ (fun x a' cs' w'=>∃ u' e' H' L',cs'={ c0 with mode:=u' }::cs/\Fr (keys H) w L w' L' H'/\RelH C w' L' H'/\RelX n x a' e' w' L'/\Q x u' e' H') Exit.normal ((a.put (some t) v).put (some s) v) cs1 w:=by
  intro v cs1;have hr:(execOp (a.put (some t) v).eval ⟨some s,.assign (.tmp t),ty',pos',aft',none⟩).run C.P w=.ok (.value ((a.put (some t) v).eval (.tmp t))) w:=rfl;simp only[wpOpsS,List.getElem?_toArray,List.getElem?_cons_succ,List.getElem?_cons_zero,Region.wanted,if_true,hr,Oper.upon,hev]
 have h0:(execOp a.eval ⟨some t,.call { callee:=.builtin .recover,args:=#[],argTypes:=#[] },ty,pos,aft,none⟩).run C.P w=.ok .recover w:=qnm w;have hl:List.range (#[(⟨some t,.call { callee:=.builtin .recover,args:=#[],argTypes:=#[] },ty,pos,aft,none⟩:Oper),⟨some s,.assign (.tmp t),ty',pos',aft',none⟩]:Array Oper).size=[0,1]:=rfl;rw[hl,wpOpsS];simp only[List.getElem?_toArray,List.getElem?_cons_zero,Region.wanted,if_true,h0];rcases qnC c0 cs with ⟨h2,h3⟩|h2
 ·simp only[h2];rw[h1];subst hu;rw[h3] at h;exact ⟨c0.mode,_,H,L,rfl,Fr.refl _ _ _,hH,hE2 _,h⟩
 ·simp only[h2];rw[h1];subst hu;exact ⟨_,_,H,L,rfl,Fr.refl _ _ _,hH,hE2 _,h⟩
def qtx (R:FrameMode->Heap->Prop):qmg
 |.normal,u,e,H|.ret,u,e,H=>e.ds=[]/\∃ H',HSub H' H/\R u H'
 |_,_,_,_=>False
theorem qa1.intro {f:FuncId} {fn:Func} {c:Code} {args:List LV} {R:FrameMode->Heap->Prop} (hf:C.P.funcs[f]? = some fn) (hb:fn.body=some c) (hn:fn.ntmps=n) (h3:fn.results=#[])
  (hl:Nat.ble args.length n=true) (h:qdx C n c (qtx R) u (qgm args) H):qa1 C f args u H R:=fun vs w L hv hH=>by
 subst hn;have hl':args.length<=fn.ntmps:=by simpa using hl
 have hlen:=hv.length
 have hE0:RelE fn.ntmps { tmps:=vs.toArray++Array.replicate (fn.ntmps-vs.toArray.size) undef,defers:=[] } (qgm args) w L:=by
  refine ⟨?_,rfl,fun i=>?_⟩
  ·simp;omega
  ·exact zT0
 refine callsD_of_wpS hf hb fun c0 cs hu=>qlE (h _ w L c0 cs hu hE0 hH) fun ex a' cs' w' hq=>?_;obtain ⟨u',e',H',L',rfl,g1,g2,g3,g4⟩:=hq
 have fin:RelE fn.ntmps a' e' w' L'->(e'.ds=[]/\∃ H'',HSub H'' H'/\R u' H'')->a'.defers=[]/\∃ u'',({ c0 with mode:=u' }::cs:List Frame)={ c0 with mode:=u'' }::cs/\∃ v,(results fn a'.tmps).run C.P w'=.ok v w'/\(∃ v',Ending.returned v=.returned v')/\qeJ C w L H w' (R u''):=fun hE ⟨h1,H'',h2,h4⟩=>
  ⟨hE.ds.trans h1,u',rfl,_,qoE h3 _ _,⟨_,rfl⟩,H'',L',g1.weak h2,g2.weak h2,h4⟩
 cases ex with
 |normal=>exact fin g3 g4
 |ret=>exact fin g3 g4
 |panic ch=>exact g4.elim
 |exit id=>exact g4.elim
 |goto id=>exact g4.elim
 |outgrown=>exact g4.elim
end S
section defer
variable {C:Ctx} {n:Nat} {ops:Array Oper} {Q:Post} {e:Env} {H:Heap}
theorem qbk.defer {dst:Option Nat} {fo:Operand} {f:FuncId} {caps:Array Value} {ty:TypeId} {pos:String} {aft:Array Edge} {rest:List Oper} (hf:e.ev fo=.atom (.func (.func f) #[] caps)) (hd:dst=none)
  (k:qbk C n ops Q rest ⟨e.s,{ target:=.fn (.func f) caps,args:=#[] }::e.ds⟩ H):qbk C n ops Q (⟨dst,.defer { callee:=.value fo,args:=#[],argTypes:=#[] },ty,pos,aft,none⟩::rest) e H:=fun a w L hE hH=>by
 subst hd;have hv:=hE.ev fo;rw[hf] at hv;simp only[Rep] at hv
 have hr:(execOp a.eval ⟨none,.defer { callee:=.value fo,args:=#[],argTypes:=#[] },ty,pos,aft,none⟩).run C.P w=.ok (.defer { target:=.fn (.func f) caps,args:=#[] }) w:=by
  have h3:execOp a.eval ⟨none,.defer { callee:=.value fo,args:=#[],argTypes:=#[] },ty,pos,aft,none⟩=(do let d <-Deferred.ofValue (a.eval fo) ((#[]:Array Operand).map a.eval);Pure.pure (.defer d)):=rfl;rw[h3,hv];simp only[Deferred.ofValue,List.map_toArray,List.map_nil];rfl
 unfold wpList;rw[if_pos (by simp[Region.wanted])];refine .inl ?_;unfold Oper.wp;rw[hr];simp only[Oper.upon,Act.put];exact k _ w L ⟨hE.size,by show _::a.defers=_;rw[hE.ds],hE.vals⟩ hH
end defer
end Go.GL
namespace Go.Proofs.YtdakelgkjdaijaaGreatDoor
open Go.GL Go.RowKit Go.Stele
theorem qsH {s:List UInt8} {T:List Tok} (h:qbR s=.ok T):TOK T:=by
 unfold qbR at h;split at h
 ·cases h
 ·obtain ⟨h1,h2⟩:=qhJ _ _ _ _ h
  exact ⟨by omega,fun t ht=>by have:=(h2 t ht).1;omega,fun t ht hk=>by
   obtain ⟨u,h3,h4,_⟩:=(h2 t ht).2 hk
   exact ⟨u,h3,h4⟩⟩
instance:TIface Tryz.prog 20:=.of zk
def noPr:Pr:=⟨[],[],[]⟩
def qaW (s:List UInt8):Pr×Int×Int:=match qbR s with
 |.error (l,e)=>(noPr,l,e)
 |.ok T=>match qbH T (10 * T.length+20) noPr 0 0 with
  |some (.ok p _ _)=>(p,0,0)
  |some (.err l e)=>(noPr,l,e)
  |none=>(noPr,0,0)
def qfU (r:Pr×Int×Int):LV:=.tuple [qeL r.1,int .i64 r.2.1,int .i64 r.2.2]
theorem qbB.ret1 {C:Ctx} {n:Nat} {e:Env} {H H' H1 H2 F:Heap} {R:LRes->Heap->Prop} {rs:List ResultVar} {vs:List LV} {f:FuncId} {caps:Array Value} [hen:TEnter C.P f] (hd:e.ds=[{ target:=.fn (.func f) caps,args:=#[] }]) (hp:H.Perm (H1++F))
  (hc:qa1 C f (caps.toList.map .atom) .returning H1 (fun u H'=>u=.returning/\H'=H2)) (h:qbA C n e (H2++F) rs vs) (hH:HSub H' (H2++F)) (hR:R (.ret (qbq vs)) H'):qbB C n rs R .ret e H:=by
 unfold qbB;simp only[hd];refine ⟨by simp,f,caps,H1,F,rfl,hen,hp,qa1.mono hc ?_⟩;rintro u H'' ⟨rfl,rfl⟩;exact ⟨vs,H',h,hH,hR⟩
theorem qbB.panic1 {C:Ctx} {n:Nat} {e:Env} {H H' H1 H2 F:Heap} {R:LRes->Heap->Prop} {rs:List ResultVar} {vs:List LV} {f:FuncId} {caps:Array Value} {ch:List PanicEntry} [hen:TEnter C.P f] (hd:e.ds=[{ target:=.fn (.func f) caps,args:=#[] }]) (hp:H.Perm (H1++F))
  (hc:qa1 C f (caps.toList.map .atom) (.panicking ch) H1 (fun u H'=>settle u=.returning/\H'=H2)) (h:qbA C n e (H2++F) rs vs) (hH:HSub H' (H2++F)) (hR:R (.ret (qbq vs)) H'):qbB C n rs R (.panic ch) e H:=by
 unfold qbB;simp only[hd];refine ⟨by simp,f,caps,H1,F,rfl,hen,hp,qa1.mono hc ?_⟩;rintro u H'' ⟨hu,rfl⟩;rw[hu];exact ⟨vs,H',h,hH,hR⟩
def resP:Res Pr->Pr×Int×Int
 |.ok p _ _=>(p,0,0)
 |.err l e=>(noPr,l,e)
theorem qkC:∀ (f:Nat) (s:List UInt8) (line l e:Int),lexP f s line=.error (l,e)->¬ e=0
 |0,s,line,l,e,h=>by
  rw[lexP] at h
  cases h
 |f+1,s,line,l,e,h=>by
  rw[lexP] at h;split at h
  ·cases h
  ·split at h
   ·split at h
    ·rename_i he
     cases h;exact he
    ·cases hx:lexP f (s.drop (qay s).2.1) (line+((s.take (qay s).2.1).count 10:Nat)) with
     |ok T=>rw[hx] at h;cases h
     |error p=>
      rw[hx] at h;cases h;exact qkC f _ _ _ _ hx
   ·exact qkC f _ _ _ _ h
theorem qjP {s:List UInt8} {l e:Int} (h:qbR s=.error (l,e)):¬ e=0:=by
 unfold qbR at h;split at h
 ·cases h;decide
 ·exact qkC _ _ _ _ _ h
theorem memA {A:Type} {p:A} {H:List A} (h:p∈H:=by first|exact List.Mem.head _|exact List.Mem.tail _ zm0|exact List.Mem.tail _ zm1|exact List.Mem.tail _ zm2|exact List.Mem.tail _ zm3|exact List.Mem.tail _ zm4|exact List.Mem.tail _ zm5):p∈H:=h
attribute [local irreducible] LOps qae qad LCalls Go.GL.Pure qax qaj qac LQ LAny qaE qal qbk qaG qdx qa1
section
variable {B0:Nat} {w0:World}
theorem qkR (b2 b3 b4:Nat) (cs:List LV) (c d:LV):qa1 (KC B0 w0) 23 [ptr b2 0,ptr b3 0,ptr b4 0] .returning [(b2,.cells 28 cs),(b3,.cells 3 [c]),(b4,.cells 29 [d])]
  (fun u H=>u=.returning/\H=[(b2,.cells 28 cs),(b3,.cells 3 [c]),(b4,.cells 29 [d])]):=by
 refine qa1.intro Tryz.func23 rfl (n:=22) rfl rfl rfl ?_;refine zQ18 ?_;refine gac ?_;refine oC rfl (fun hc=>?_) (fun hc=>?_)
 ·cases hc
 ·refine gaq ?_;exact ⟨rfl,_,zhR _,rfl,rfl⟩
theorem qle (b2 b3 b4:Nat) (c1 c2 c3 c d:LV) (l er:Int):qa1 (KC B0 w0) 23 [ptr b2 0,ptr b3 0,ptr b4 0] (.panicking (pan l er)) [(b2,.cells 28 [c1,c2,c3]),(b3,.cells 3 [c]),(b4,.cells 29 [d])]
  (fun u H=>settle u=.returning/\H=[(b2,.cells 28 [qab,qab,qab]),(b3,.cells 3 [int .i64 l]),(b4,.cells 29 [int .i64 er])]):=by
 refine qa1.intro Tryz.func23 rfl (n:=22) rfl rfl rfl ?_;refine zQ18 ?_;refine gac ?_;refine oC rfl (fun hc=>?_) (fun hc=>?_)
 ·refine gag ?_;refine oP (Pure.assertOk (vs:=[.int .i64 l,.int .i64 er]) rfl) rfl ?_;refine gad ?_;refine oS (sA fun b5=>?_) rfl;refine gac ?_;refine oC rfl (fun hd=>?_) (fun hd=>?_)
  ·cases hd
  ·refine gaq ?_;refine cD (m:=8) rfl [(b5,.cells 61 [int .i64 l,int .i64 er])] ?_;refine aT 0 rfl rfl (pB _ (cs:=[_,_,_]) rfl) ?_;refine aT 1 rfl rfl (pF rfl) ?_;refine aT 2 rfl rfl (pL (c:=.atom _) rfl zm0 rfl) ?_;refine aT 3 rfl rfl (pF rfl) ?_;refine aT 4 rfl rfl (pL (c:=.atom _) rfl zm0 rfl) ?_;refine aL ?_ zhp;refine lO 5 (lS (H1:=[(b2,.cells 28 [c1,c2,c3])]) (F:=[(b5,.cells 61 [int .i64 l,int .i64 er]),(b3,.cells 3 [c]),(b4,.cells 29 [d])]) rfl (.inl rfl) rfl zp1 zhp (sS (cs':=[_,_,_]) rfl pH rfl rfl rfl rfl rfl ?_));refine lO 6 (lS (H1:=[(b3,.cells 3 [c])]) (F:=[(b2,.cells 28 [qab,qab,qab]),(b5,.cells 61 [int .i64 l,int .i64 er]),(b4,.cells 29 [d])]) rfl (.inl rfl) rfl zp2 (zhP zp1 zhn) (sS (cs':=[_]) rfl pH rfl rfl rfl rfl rfl ?_));refine lO 7 (lS (H1:=[(b4,.cells 29 [d])]) (F:=[(b3,.cells 3 [int .i64 l]),(b2,.cells 28 [qab,qab,qab]),(b5,.cells 61 [int .i64 l,int .i64 er])]) rfl (.inl rfl) rfl zp3 (zhP zp2 zhn) (sS (cs':=[_]) rfl pH rfl rfl rfl rfl rfl ?_));refine lD zk ?_;exact ⟨rfl,_,zhP zp2 (zhP zp1 zhp),rfl,rfl⟩
 ·cases hc
theorem qgv (hG:GW B0 w0) (s:List UInt8):LCalls (KC B0 w0) 7 [str s] [] (Ret (qfU (qaW s))):=by
 refine LCalls.introD Tryz.func7 rfl (n:=24) rfl rfl rfl ?_;refine zQ35 ?_;refine gah ?_;refine oS (sA fun b2=>?_) rfl;refine oS (sA fun b3=>?_) rfl;refine oS (sA fun b4=>?_) rfl;refine gaf ?_;refine zQ35 ?_;refine gag ?_;refine oS (sF [_] rfl (qpU hG s) ?_) rfl
 cases hL:qbR s with
 |error le=>
  obtain ⟨l,er⟩:=le;have he0:¬ er=0:=qjP hL;simp only[qov];refine gad ?_;refine zQ35 ?_;refine gaa ?_;refine oC rfl (fun hc=>?_) (fun hc=>?_)
  ·refine gab ?_;refine cD (m:=6) rfl [] ?_;refine aT 0 rfl rfl (pB _ (cs:=[_,_,_]) rfl) ?_;refine aL ?_ zhn;refine qaE.three (i:=1) (j:=2) (k:=3) zk ?_ ?_ ?_
   ·refine lH rfl rfl (pL (c:=.atom _) rfl zm1 rfl) ?_;refine zl2 (i:=2) (j:=3) zk ?_ ?_
    ·refine lH rfl rfl (pL (c:=.atom _) rfl zm0 rfl) ?_;exact zT13
    ·refine zQ34 ?_;refine zl2 (i:=2) (j:=4) zk ?_ ?_
     ·exact zT12
     ·exact zT18
   ·refine lH rfl rfl (pL (c:=.atom _) rfl zm0 rfl) ?_;refine zl2 (i:=1) (j:=3) zk ?_ ?_
    ·refine lH rfl rfl (pL (c:=.atom _) rfl zm1 rfl) ?_;exact zT13
    ·refine zQ34 ?_;exact zT10
   ·refine zQ34 ?_;refine zl2 (i:=1) (j:=2) zk ?_ ?_
    ·refine lH rfl rfl (pL (c:=.atom _) rfl zm2 rfl) ?_;refine zl2 (i:=2) (j:=4) zk ?_ ?_
     ·exact zT12
     ·exact zT18
    ·refine lH rfl rfl (pL (c:=.atom _) rfl zm1 rfl) ?_;exact zT10
  ·have:er=0:=by simpa using hc
   exact absurd this he0
 |ok T=>
  have hT:=qsH hL;simp only[qov];refine gad ?_;refine zQ35 ?_;refine gaa ?_;refine oC rfl (fun hc=>?_) (fun hc=>?_)
  ·cases hc
  ·refine gaq ?_;refine zQ24 ?_;refine zQ35 ?_;refine gac ?_;refine oS (sB rfl fun sb=>?_) rfl;refine gaf ?_;refine qaG.seq (qaG.region ?_);refine gad ?_;obtain ⟨r,hr⟩:=qdN T (10 * T.length+20) noPr 0 0 (Nat.zero_le _) zo
   have hp:qaW s=resP r:=by
    rw[qaW,hL];simp only[hr];cases r <;> rfl
   rw[hp];refine qbk.step (sP (T:=T) (i:=0) (op:=0) [_] rfl pH (qdk hG sb T hT _ r hr) (fun v i1 op1 h1=>?_) (fun l er i1 op1 h1=>?_)) rfl
   ·subst h1;refine qbk.step (sS (cs':=[_,_,_]) rfl zp3 rfl rfl rfl rfl rfl ?_) rfl;refine qbk.step (sS (cs':=[_]) rfl zp3 rfl rfl rfl rfl rfl ?_) rfl;refine qbk.step (sS (cs':=[_]) rfl zp3 rfl rfl rfl rfl rfl ?_) rfl;refine qbk.nil ?_;refine qN ?_;refine qaG.ret ?_
    exact qbB.ret1 (vs:=[qeL v,int .i64 0,int .i64 0]) (H2:=[(b2,.cells 28 [.list (v.vars.map str),.list (v.arrays.map qd8),.list (v.funcs.map qaQ)]),(b3,.cells 3 [int .i64 0]),(b4,.cells 29 [int .i64 0])]) rfl (zp2.trans (List.Perm.cons _ (zp1.trans (List.Perm.cons _ zpr)))) (qkR b2 b3 b4 _ _ _)
     (rC (rA (k:=3) rfl zm0 rfl zsr) (rC (qcJ.cellOne rfl zm1 rfl zsr) (rC (qcJ.cellOne rfl zm2 rfl zsr) rN))) zhn ⟨rfl,rfl⟩
   ·subst h1;refine qax.panic ?_
    exact qbB.panic1 (vs:=[qeL noPr,int .i64 l,int .i64 er]) (H2:=[(b2,.cells 28 [qab,qab,qab]),(b3,.cells 3 [int .i64 l]),(b4,.cells 29 [int .i64 er])]) rfl (zp3.trans (List.Perm.cons _ (zp2.trans (List.Perm.cons _ (zp1.trans zpr))))) (qle b2 b3 b4 _ _ _ _ _ l er)
     (rC (rA (k:=3) rfl zm0 rfl (vA (bs:=[.list [],.list [],.list []]) ⟨vN,vN,vN,trivial⟩)) (rC (qcJ.cellOne rfl zm1 rfl zsr) (rC (qcJ.cellOne rfl zm2 rfl zsr) rN))) zhn ⟨rfl,rfl⟩
theorem qpw (hG:GW B0 w0) (s:List UInt8) (hs:s.length<=1000000000):LCalls (KC B0 w0) 7 [str s] [] (Ret (qfU (qaW s))):=qgv hG s
end
end Go.Proofs.YtdakelgkjdaijaaGreatDoor
namespace Go.Proofs.YtdakelgkjdaijaaGreatDoor.Inp
open Go.GL Go.RowKit Go.Stele
def qvC {A:Type}:IR A->Int
 |.ok _ _=>0
 |.stop e _=>e
attribute [local irreducible] LOps qae qad LCalls Go.GL.Pure qax qaj qac LQ LAny qaE qal LS qbk qaG qdx qa1
section
variable {B0:Nat} {w0:World}
theorem qs3 (b2:Nat) (d:LV):qa1 (KC B0 w0) 140 [ptr b2 0] .returning [(b2,.cells 29 [d])]
  (fun u H=>u=.returning/\H=[(b2,.cells 29 [d])]):=by
 refine qa1.intro Tryz.func140 rfl (n:=17) rfl rfl rfl ?_;refine zQ18 ?_;refine gac ?_;refine oC rfl (fun hc=>?_) (fun hc=>?_)
 ·cases hc
 ·refine gaq ?_;exact ⟨rfl,_,zhR _,rfl,rfl⟩
theorem qte (b2:Nat) (d:LV) (er:Int):qa1 (KC B0 w0) 140 [ptr b2 0] (.panicking (panI er)) [(b2,.cells 29 [d])]
  (fun u H=>settle u=.returning/\H=[(b2,.cells 29 [int .i64 er])]):=by
 refine qa1.intro Tryz.func140 rfl (n:=17) rfl rfl rfl ?_;refine zQ18 ?_;refine gac ?_;refine oC rfl (fun hc=>?_) (fun hc=>?_)
 ·refine gag ?_;refine oP (Pure.assertOk (vs:=[.int .i64 er]) rfl) rfl ?_;refine gad ?_;refine oS (sA fun b5=>?_) rfl;refine gac ?_;refine oC rfl (fun hd=>?_) (fun hd=>?_)
  ·cases hd
  ·refine gac ?_;exact ⟨rfl,_,zhP pH zhn,rfl,rfl⟩
 ·cases hc
theorem qlU {p q:Nat×LObj} {H:Heap}:Pick p (H++[q,p]) (q::H):=(zPc (l₂:=[q,p])).trans (List.Perm.swap p q H)
theorem qtZ {A B:Type} (g:A->B) {l:List A} {a:A} (h:l.getLast? = some a):(l.map g)[(((l.map g).length:Int)-1).toNat]? = some (g a):=by
 rw[List.getLast?_eq_getElem?] at h;rw[zLm,List.getElem?_map,show ((l.length:Int)-1).toNat=l.length-1 by omega,h];rfl
theorem qrJ {p:Pr} (h:qcG p∈p.funcs):p.funcs.getLast? = some (qcG p):=by
 unfold qcG
 cases hl:p.funcs.getLast? with
 |none=>rw[List.getLast?_eq_none_iff.1 hl] at h;cases h
 |some a=>rfl
theorem qqQ {c:Cfg} (hC:CfgOk c) {s:IS} {H:Heap} (hg:Good c c.lim s) (hs:St c s H):LCalls (KC B0 w0) 67 [ptr c.rb 0] H
  (fun r H'=>St c (blkR (stI c.p c.lim (qcG c.p)) (qcG c.p).body s).st H'/\r=.ret (int .i64 (qvC (blkR (stI c.p c.lim (qcG c.p)) (qcG c.p).body s)))):=by
 obtain ⟨hm1,hm2,hm3⟩:=hC.valid.main;have hlast:=qrJ hm1;obtain ⟨kn,hvb,hkn⟩:=hC.valid.bodies _ hm1;have hsm:=hC.small.each _ hm1;have hB:=qc5 (B0:=B0) (w0:=w0) hC (qre hC c.lim).2;have hfl:c.p.funcs.length<=2000000:=hC.small.funcs;generalize hI:blkR (stI c.p c.lim (qcG c.p)) (qcG c.p).body s=R;have hs1:=hs;obtain ⟨hl,hle,v,Ha,hacc,rfl⟩:=hs;refine LCalls.introD Tryz.func67 rfl (n:=24) rfl rfl rfl ?_;refine zQ35 ?_;refine gah ?_;refine oS (sA fun b2=>?_) rfl;refine gaf ?_;refine zQ24 ?_;refine zQ35 ?_;have hfl2:(c.p.funcs.map qaQ).length<=2000000:=by rw[zLm];exact hfl
 have hfl3:1<=(c.p.funcs.map qaQ).length:=by
  rw[zLm];exact List.length_pos_of_mem hm1
 refine cD (m:=16) rfl [(c.rb,.cells 150 (runC c s v))] ?_;refine zQ10 ?_;refine aT 3 rfl rfl (pF rfl) ?_;refine aT 4 rfl rfl (pL (c:=.list _) rfl zm0 rfl) ?_;refine zQ43 ?_;refine aT 8 rfl rfl (pF rfl) ?_;refine aT 9 rfl rfl (pL (c:=.list _) rfl zm0 rfl) ?_;refine aT 10 rfl rfl (Pure.llen rfl) ?_;refine aT 11 rfl rfl (Pure.sub rfl rfl zo) ?_;refine LAny.take (i:=12) (zhP zp1 zhn) rfl zk zk zk rfl (xR (el':=qaQ (qcG c.p)) (cs:=[_,_,_,_]) rfl rfl zo (qtZ qaQ hlast) rfl rfl) ?_;refine aT 13 rfl rfl (pR (cs':=[_,_,_,_]) rfl rfl rfl) ?_;refine aL ?_ (zhP zp1 zhn);refine lO 14 (lS (H1:=[]) rfl (.inl rfl) rfl zpr (zhP zp1 zhn) (qad.alloc fun b3=>?_));refine lO 15 (lS (H1:=[_]) rfl (.inl rfl) rfl zpr (zhP zp1 zhn) (sS (n:=4) (cs':=[_,_,_,_]) rfl pH rfl rfl rfl rfl rfl ?_));refine lD zk ?_;refine QNo.normal ?_;refine qaG.seq (qaG.region ?_);refine gad ?_;refine qbk.step (S.callI [_,_,_] rfl (zPc (l₁:=[_,_])) (hB (qcG c.p) kn (qcG c.p).body s _ hm1 hkn hvb (hC.nums _ hm1) hsm.body hsm.stmts hg hs1) (fun r s2 H2 hr hs2=>?_) (fun er s2 H2 hr hs2=>?_)) rfl
 ·rw[hr] at hI;subst hI;refine qbk.nil ?_;refine qN ?_;refine qaG.seq (qaG.region ?_);refine qbk.step (sS (cs':=[_]) rfl qlU rfl rfl rfl rfl rfl ?_) rfl;refine qbk.nil ?_;refine qN ?_;refine qaG.ret ?_
  exact qbB.ret1 (vs:=[int .i64 0]) (H2:=[(b2,.cells 29 [int .i64 0])]) rfl zpr (qs3 b2 _)
   (rC (qcJ.cellOne rfl zm0 rfl zsr) rN) (zhD (zhD zhr)) ⟨hs2,rfl⟩
 ·rw[hr] at hI;subst hI;refine qax.panic ?_
  exact qbB.panic1 (H1:=[(b2,.cells 29 [int .i64 0])]) (F:=_::H2) (vs:=[int .i64 er]) (H2:=[(b2,.cells 29 [int .i64 er])]) rfl qlU (qte b2 _ er)
   (rC (qcJ.cellOne rfl zm0 rfl zsr) rN) (zhD (zhD zhr)) ⟨hs2,rfl⟩
end
end Go.Proofs.YtdakelgkjdaijaaGreatDoor.Inp
namespace Go.GL
open Go.RowKit
section
variable {C:Ctx} {e:Env} {H:Heap} {dst:Option Nat} {ty:TypeId} {pos:String} {aft:Array Edge} {g:Option (Nat×Bool)} {K:LV->Heap->Prop} {X:List PanicEntry->Heap->Prop} {x y:Operand}
theorem qji {P:Program} {t el s:Nat} [h:TSlice P t el s] (a:Option Addr) (n m:Nat) (w:World):(Op.equal t (.slice a n m) (.slice none 0 0)).run P w=.ok a.isNone w:=by
 rw[qfX,Op.equalIn]
 try cases a <;> simp only[Sem.run_bind,qaa h.und,Result.andThen_ok,Sem.run_pure] <;> rfl
theorem S.sliceNil {t el s yT:Nat} [ht:TSlice C.P t el s] {es:List LV} (hx:elems (e.ev x)=some es) (hk:∀ b,(b=true->es=[])->K (bool b) H):qad C ⟨dst,.binOp .eql t x (.const (.slice none 0 0)) yT,ty,pos,aft,g⟩ e H K X:=fun ρ w L h hH=>by
 obtain ⟨a,cap,hv,hc,hr⟩:=(h x).elems hx;have h2:=qag h (x:=.const (.slice none 0 0)) rfl;have he:eqGuard .eql t x (.const (.slice none 0 0)) (.slice a es.length cap) (.slice none 0 0)=Pure.pure ():=by simp[eqGuard]
 have hb:binOp .eql t (.slice a es.length cap) (.slice none 0 0)=(do Pure.pure (.bool (<-Op.equal t (.slice a es.length cap) (.slice none 0 0)))):=rfl
 have hrun:(execOp ρ ⟨dst,.binOp .eql t x (.const (.slice none 0 0)) yT,ty,pos,aft,g⟩).run C.P w=.ok (.value (.bool a.isNone)) w:=by
  simp only[execOp,hv,h2,he,hb,Sem.run_bind,Sem.run_pure,Result.andThen_ok,qji]
 rw[hrun];refine ⟨bool a.isNone,H,L,Fr.refl _ _ _,hH,qah,hk _ fun hn=>?_⟩
 cases a with
 |some a=>cases hn
 |none=>
  cases es with
  |nil=>rfl
  |cons v es=>
   obtain ⟨b,off,k,h3,_⟩:=hr (by simp);cases h3
theorem Pure.rowCap {t el s:Nat} [TSlice C.P t el s] {a:Option Addr} {m cap:Nat} (hx:e.ev x=.atom (.slice a m cap)):Pure C ⟨dst,.call { callee:=.builtin .cap,args:=#[x],argTypes:=#[t] },ty,pos,aft,g⟩ e H (int .i64 cap):=
 .of_any fun ρ _ _ h=>⟨_,qah,fun w'=>by
  have hu:=qaa (P:=C.P) (TSlice.und (t:=t)) w';have h0:∀ (cs:Array Bool) (args:Array Value),builtin .cap #[t] ty cs args=(do Pure.pure (.value (<-Builtin.cap_ #[t] ty args))):=fun _ _=>rfl;rw[qaC,h0]
  simp[Builtin.cap_,hu,goInt,qag h hx]⟩
theorem Pure.rowSlice {t el s:Nat} [ht:TSlice C.P t el s] {a:Option Addr} {m cap n:Nat} {hi:Operand} {k:IntKind} (hx:e.ev x=.atom (.slice a m cap)) (hh:e.ev hi=int k n) (hn:n<=cap) :
  Pure C ⟨dst,.slice t x none (some hi) none,ty,pos,aft,g⟩ e H (.atom (.slice a n cap)):=.of_any fun ρ w L h=>by
 obtain ⟨ti,hti,hsz⟩:=ht.size;refine ⟨_,qah,fun w'=>?_⟩;have hb:=qd1 (P:=C.P) (w':=w') (len:=m) (cap:=cap) (lo:=none) (hi:=some hi) (i:=0) (j:=n) h true rfl ⟨k,hh⟩ zo zo zo;have h3:execOp ρ ⟨dst,.slice t x none (some hi) none,ty,pos,aft,g⟩=(do Pure.pure (.value (<-Instr.sliceAt t (ρ x) none (some (ρ hi)) none))):=rfl;rw[h3,qag h hx];simp only[Option.map_none,Option.map_some] at hb;simp only[Instr.sliceAt,Instr.slice,Sem.run_bind,qaa (P:=C.P) ht.und w',Result.andThen_ok,Sem.run_pure,hb,qbn hti,hsz]
 have ha:∀ a:Addr,a.add 0=a:=fun a=>by
  obtain ⟨b,o,sp⟩:=a;unfold Addr.add;cases sp <;> simp
 simp[ha]
theorem S.appZeros {sT xT el bytes:Nat} {zv:Value} [ht:TSlice C.P sT el 1] [hr:TRow C.P el 1 bytes] [hz:TZero C.P el [zv]] [hk0:TKind C.P xT .i64] {n:Nat} (hx:e.ev x=qab) (hy:e.ev y=int .i64 n) (hn:0<n) (hroom:n * bytes<=140737488355328)
  (hk:∀ b cap,n<=cap->K (.atom (.slice (some ⟨b,0,none⟩) n cap)) ((b,.cells el (List.replicate cap (.atom zv)))::H)) :
  qad C ⟨dst,.call { callee:=.builtin .append,args:=#[x,y],argTypes:=#[sT,xT] },ty,pos,aft,g⟩ e H K X:=by
 refine qad.at0 fun ρ w L h hH=>?_;have h0:∀ (cs:Array Bool) (args:Array Value),builtin .append #[sT,xT] ty cs args=(do Pure.pure (.value (<-Builtin.append_ #[sT,xT] ty args))):=fun _ _=>rfl;obtain ⟨i,z,hi,hs,hb,hb0,hzz,hzs⟩:=hr.out;obtain ⟨i',z',hi',hz',hc',hs'⟩:=hz.out;rw[hi] at hi';obtain rfl:=Option.some.inj hi';rw[hzz] at hz';obtain rfl:=Option.some.inj hz';have hmul:n<=n * bytes:=Nat.le_mul_of_pos_right _ hb0;have wn:IntKind.i64.wrap (n:Int)=n:=qeS zo;have n1:¬ ((n:Int)<0):=by omega
 have n2:¬ ((281474976710656:Int)<(n:Int) * (i.bytes:Int)):=by
  rw[hb];have:((n * bytes:Nat):Int)<=140737488355328:=by omega
  rw[Int.natCast_mul] at this;omega
 have h63':¬ (9223372036854775807<(n:Int)):=by omega
 have hfit:=growslice_fits (bytes:=bytes) (need:=n) (old:=0) hn hroom
 have h48':¬ (281474976710656<Builtin.nextslicecap n 0 * i.bytes):=by
  rw[hb];omega
 have hn0:¬ n=0:=by omega
 have hz1:∀ m,(Builtin.zeroCells #[zv] m)=(List.replicate m zv).toArray:=fun m=>by
  unfold Builtin.zeroCells;apply Array.ext
  ·simp
  ·intro j h1 h2;simp[Nat.mod_one]
 have hcap:n<=grownCap w n 0 el:=by simp[grownCap,Question.cut]
 have hrun:(Builtin.append_ #[sT,xT] ty #[.slice none 0 0,.int .i64 n]).run C.P w=.ok (.slice (some ⟨w.heap.size,0,none⟩) n (grownCap w n 0 el)) (World.push w.drew (.cells (List.replicate (grownCap w n 0 el) zv).toArray el)):=by
  simp[Builtin.append_,qaa ht.und,qaa hk0.und,sizeOf,typeInfo,zeroValue,hi,hs,hzz,hc',asInt,asIntOf,wn,n1,n2,hn0,h63',h48',Question.forced,newRow,grownCap,Builtin.firstCells,hz1];show World.push w.drew _=World.push w.drew _;congr 2;apply Array.ext';have:=hcap;unfold grownCap at this;congr 2;omega
 rw[qaC,h0];simp only[List.map_toArray,zMc,List.map_nil,Sem.run_bind,qag h hx,qag h hy,hrun,Result.andThen_ok,Sem.run_pure];have hHd:=hH.drew
 have hrep:RepL w.drew L (List.replicate (grownCap w n 0 el) (.atom zv)) (List.replicate (grownCap w n 0 el) zv):=by
  have:=qaT (w:=w.drew) (L:=L) (List.replicate (grownCap w n 0 el) zv)
  rwa [List.map_replicate] at this
 have hx':=qeg hHd.wf (.cells (List.replicate (grownCap w n 0 el) zv).toArray el) 0
 have:=qem hHd (.cells (List.replicate (grownCap w n 0 el) zv).toArray el) 0 [(w.heap.size,.cells el (List.replicate (grownCap w n 0 el) (.atom zv)))] (fun p hp=>by
  simp only[List.mem_singleton] at hp;subst hp
  exact ⟨rfl,by simp[Live.upd],List.replicate (grownCap w n 0 el) zv,qaI,hrep.mono hx' _ _⟩) (by simp)
 exact ⟨_,_,_,this.1.of_drew,this.2,qah,hk _ _ hcap⟩
end
section opened
variable {C:Ctx} {n:Nat} {Q:Post} {e:Env} {H F:Heap}
theorem qtn {w:World} {L:Live} {b el:Nat} {cs:List LV} (hp:Pick (b,.cells el cs) H F) (hH:RelH C w L H) (hl:∀ k cap,cap * k<=cs.length->∃ e s,w.shape? b=some (e,s)/\cap * k<=s):RelH C w L ((b,.row 0)::F):=by
 have hH1:=hH.perm hp;obtain ⟨hb0,hbs,hlb,xs,hx1,hx2⟩:=hH1.objs _ List.mem_cons_self;simp only at hb0 hbs hlb hx1 hx2;refine ⟨hH1.base,hH1.lbase,hH1.b0,hH1.wf,hH1.nodup,fun p hp'=>?_⟩;rcases zMi.1 hp' with rfl|hp'
 ·exact ⟨hb0,hbs,hlb,_,_,_,hx1,Nat.zero_le _,Nat.zero_le _⟩
 ·exact hH1.objs p (zMo _ hp')
theorem qnu {w:World} {L:Live} {b el:Nat} {cs:List LV} (hp:Pick (b,.cells el cs) H F) (hH:RelH C w L H):w.shape? b=some (el,cs.length):=by
 have hH1:=hH.perm hp;obtain ⟨hb0,hbs,hlb,xs,hx1,hx2⟩:=hH1.objs _ List.mem_cons_self;simp only at hx1;simp only[World.shape?,hx1];rw[List.size_toArray,hx2.length]
theorem LOps.rowOpen {ops:Array Oper} {rest:List Oper} (d k:Nat) {b el cap:Nat} {cs:List LV} (hp:Pick (b,.cells el cs) H F) (hd:e.s d=.atom (.slice (some ⟨b,0,none⟩) 0 cap)) (hc:cap * k<=cs.length) (h:LOps C n ops Q rest (e.upd d (.app b cap k [])) ((b,.row 0)::F)):LOps C n ops Q rest e H:=fun a w L hE hH=>by
 have hs:=qnu hp hH
 have hk:∀ x,x∈keys ((b,LObj.row 0)::F)->x∈keys H:=fun x hx=>by
  have:=((hp.map (·.1)).mem_iff (a:=x)).2 (by simpa using hx);exact this
 refine qbr (fun _ _ _=>qfx hk) _ _ _ (h a w L ⟨hE.size,hE.ds,fun i=>?_⟩ (qtn hp hH fun k2 cap2 h2=>⟨_,_,hs,h2⟩));have hv:=hE.vals i;simp only[Env.upd]
 cases hb:Nat.beq i d with
 |false=>exact hv
 |true=>
  have hi:=Nat.eq_of_beq_eq_true hb;subst hi;rw[hd] at hv;simp only[Rep] at hv;rw[hv];show Rep w L (.app b cap k []) _;simp only[Rep];refine ⟨rfl,Nat.zero_le _,?_,_,_,hs,hc⟩;simp only[qai]
end opened
end Go.GL
