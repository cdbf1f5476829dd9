/- Texts joined: CmpH, InpNodes, InpX3, CmpI, GlEqS, GlEqI, LawCS0, RC1, RC2, RC3, RC4. -/
import Derived.Laws.StructEq
import Derived.ChangeKeysEq
import Derived.Test.YtpbbgkoalnonoaaGreatDoorBRowU22
import Derived.Test.YtpbbgkoalnonoaaGreatDoorBRowU23
import Derived.Test.YtpbbgkoalnonoaaGreatDoorBRowU24
import Derived.Test.YtpbbgkoalnonoaaGreatDoorBRowU25
import Derived.Test.YtpbbgkoalnonoaaGreatDoorBRowU26
import Derived.Test.YtpbbgkoalnonoaaGreatDoorBRowU28
import Derived.Test.YtpbbgkoalnonoaaGreatDoorBRowU210
set_option linter.unusedVariables false
set_option linter.unusedSimpArgs false
namespace Go.Proofs.YtpbbgkoalnonoaaGreatDoor.Cmp
open Go.GL Go.RowKit Go.Stele
open Go.Lib (decDigits itoa join)
set_option maxRecDepth 100000
set_option maxHeartbeats 4000000
def scKV (S:Int):Nat→List Nm→KV
 |_,[]=>[]
 |i,x::r=>(x,int .i64 (S+3+(i:Nat)))::scKV S (i+1) r
theorem scKV_app (S:Int):∀ (l m:List Nm) (i:Nat),scKV S i (l++m)=scKV S i l++scKV S (i+l.length) m
 |[],m,i=>by simp[scKV]
 |x::r,m,i=>by
  rw[List.cons_append,scKV,scKV_app S r m,scKV,List.cons_append,List.length_cons,Nat.add_right_comm,Nat.add_assoc]
theorem scKV_keys (S:Int):∀ (l:List Nm) (i:Nat),(scKV S i l).map (·.1)=l
 |[],i=>rfl
 |x::r,i=>by rw[scKV,List.map_cons,scKV_keys S r]
theorem scKV_take {S:Int} {l:List Nm} {i:Nat} (h:i<l.length) (hn:l.Nodup):GL.kvPut (scKV S 0 (l.take i)) l[i] (int .i64 (S+3+(i:Nat)))=scKV S 0 (l.take (i+1)):=by
 rw[List.take_succ_eq_append_getElem h,scKV_app,List.length_take,Nat.zero_add,Nat.min_eq_left zo]
 refine kv_new ?_
 rw[scKV_keys]
 intro hm
 rw[←List.take_append_drop i l,List.drop_eq_getElem_cons h,List.nodup_append] at hn
 exact hn.2.2 _ hm _ (List.mem_cons_self ..) rfl
theorem scKV_get (S:Int) (k:Nm):∀ (l:List Nm) (i:Nat),GL.kvGet (scKV S i l) k=if k∈l then some (int .i64 (S+3+((i+l.idxOf k:Nat):Int))) else none
 |[],i=>rfl
 |x::r,i=>by
  rw[scKV,GL.kvGet]
  by_cases h:x=k
  ·rw[if_pos h,if_pos (by rw[h];exact List.mem_cons_self ..),List.idxOf_cons,h]
   simp
  ·rw[if_neg h,scKV_get S k r (i+1)]
   by_cases hm:k∈r
   ·rw[if_pos hm,if_pos (List.mem_cons_of_mem _ hm),List.idxOf_cons,cond_eq_ite,if_neg (by simpa using h)]
    congr 4
    omega
   ·rw[if_neg hm,if_neg (by rw[List.mem_cons];exact fun g=>g.elim (fun e=>h e.symm) hm)]
def arKV (l:List (Nm×Int)):KV:=l.map fun p=>(p.1,int .i64 p.2)
theorem arKV_take {l:List (Nm×Int)} {i:Nat} (h:i<l.length) (hn:(l.map (·.1)).Nodup):GL.kvPut (arKV (l.take i)) l[i].1 (int .i64 l[i].2)=arKV (l.take (i+1)):=by
 unfold arKV
 rw[List.take_succ_eq_append_getElem h,List.map_append]
 refine kv_new ?_
 rw[List.map_map]
 intro hm
 have e1:l.map (·.1)=(l.take i).map (·.1)++l[i].1::(l.drop (i+1)).map (·.1):=by
  conv=>lhs;rw[←List.take_append_drop i l,List.drop_eq_getElem_cons h]
  rw[List.map_append,List.map_cons]
 rw[e1,List.nodup_append] at hn
 exact hn.2.2 _ hm _ (List.mem_cons_self ..) rfl
theorem arKV_get (name:Nm):∀ (l:List (Nm×Int)) (a:Int),(GL.kvGet (arKV (symA a l)) name).getD (int .i64 0)=int .i64 (arrA a l name)
 |[],a=>rfl
 |(x,n)::r,a=>by
  rw[symA,arrA]
  show (GL.kvGet ((x,int .i64 a)::arKV (symA (a+n) r)) name).getD (int .i64 0)=_
  rw[GL.kvGet]
  simp only
  by_cases h:x=name
  ·rw[if_pos h,if_pos h]
   rfl
  ·rw[if_neg h,if_neg h]
   exact arKV_get name r (a+n)
def cmpLV:Except Int Wd→LV
 |.error e=>.tuple [str [],int .i64 e]
 |.ok t=>.tuple [str t,int .i64 0]
theorem tb_ok {P:Pr} {o:Org} (hF:FitN P o) (own:Nm) (ho:own.length≤1000000) (b1 b2 b3 g1 g2:Nat):TBok ⟨b1,b2,b3,scKV o.scalars 0 (scalarsP P.vars P.funcs),arKV (symA o.arrays (arrsP P)),g1,g2,o.scalars.toNat⟩ (ccF P.vars (arrsP P) P.funcs o own) own:=by
 have s0:=hF.s0
 have s1:=hF.s1
 have a0:=hF.a0
 have a1:=hF.a1
 have hp:∀ p∈arrsP P,0≤p.2:=fun p hp=>by
  obtain ⟨a,_,rfl⟩:=List.mem_map.1 hp
  exact Int.natCast_nonneg _
 have hpl:∀ k,0≤placeA (scalarsP P.vars P.funcs) o.scalars k∧placeA (scalarsP P.vars P.funcs) o.scalars k≤262144∧(k∈scalarsP P.vars P.funcs→int .i64 (o.scalars+3+((0+(scalarsP P.vars P.funcs).idxOf k:Nat):Int))=int .i64 (((placeA (scalarsP P.vars P.funcs) o.scalars k).toNat:Nat):Int)):=fun k=>by
  unfold placeA
  by_cases h:k∈scalarsP P.vars P.funcs
  ·have:=List.idxOf_lt_length_of_mem h
   rw[if_pos h]
   exact ⟨by omega,by omega,fun _=>int_eq zo⟩
  ·rw[if_neg h]
   exact ⟨by omega,by omega,fun h2=>absurd h2 h⟩
 refine ⟨fun name=>?_,fun name=>?_,?_,?_,?_,?_,ho⟩
 ·refine ⟨(placeA (scalarsP P.vars P.funcs) o.scalars (keyC (scalarsP P.vars P.funcs) own name)).toNat,?_,?_,?_⟩
  ·have:=hpl (keyC (scalarsP P.vars P.funcs) own name);omega
  ·exact itoa_pos (hpl _).1
  ·show (∃ v,GL.kvGet (scKV o.scalars 0 (scalarsP P.vars P.funcs)) (own++[46]++name)=some v∧_)∨(GL.kvGet (scKV o.scalars 0 (scalarsP P.vars P.funcs)) (own++[46]++name)=none∧(GL.kvGet (scKV o.scalars 0 (scalarsP P.vars P.funcs)) name).getD _=_)
   rw[scKV_get,scKV_get]
   unfold keyC
   by_cases h:own++[46]++name∈scalarsP P.vars P.funcs
   ·left
    rw[if_pos h,if_pos h]
    exact ⟨_,rfl,(hpl _).2.2 h⟩
   ·right
    rw[if_neg h,if_neg h]
    refine ⟨rfl,?_⟩
    by_cases h2:name∈scalarsP P.vars P.funcs
    ·rw[if_pos h2]
     exact (hpl _).2.2 h2
    ·rw[if_neg h2]
     unfold placeA
     rw[if_neg h2]
     rfl
 ·have h1:=arrA_pos (arrsP P) o.arrays a0 hp name
  have h2:=arrA_le (arrsP P) o.arrays a0 hp name
  have h3:((arrsP P).map (·.2)).sum=((totA P.arrays:Nat):Int):=totA_int P.arrays
  rw[h3] at h2
  refine ⟨(arrA o.arrays (arrsP P) name).toNat,by omega,itoa_pos h1,?_⟩
  show (GL.kvGet (arKV (symA o.arrays (arrsP P))) name).getD _=_
  rw[arKV_get]
  exact int_eq zo
 ·exact itoa_pos s0
 ·show itoa (o.scalars+1)=_
  rw[itoa_pos zo]
  congr 1
  show _=o.scalars.toNat+1
  omega
 ·show itoa (o.scalars+2)=_
  rw[itoa_pos zo]
  congr 1
  show _=o.scalars.toNat+2
  omega
 ·show o.scalars.toNat≤_
  omega
theorem nm_len {s:Nm} (h:isNm s=true):s.length≤24:=by
 unfold isNm at h
 rw[Bool.and_eq_true,Bool.and_eq_true,decide_eq_true_eq] at h
 exact h.1.1
theorem env_ok {P:Pr} (hv:Valid P) {f:FnD} (hf:f∈P.funcs) (hown:∀ x∈f.params++f.locals,x.length≤24) {kn:List FSum} (hk:Known P.funcs kn):EnvOk (envF P.vars (P.arrays.map (·.name)) (P.funcs.map (·.name)) kn f):=by
 have hfr:=fresh_zero _ _ hv.names
 refine ⟨fun s hs=>?_,fun k hk'=>?_⟩
 ·unfold scalarE at hs
  split at hs
  ·rename_i h
   rcases h with h|h
   ·exact nm_len (hfr.2 s (List.mem_append_left _ (List.mem_append_left _ h))).2
   ·exact hown s h
  ·split at hs <;> cases hs
 ·obtain ⟨g,g1,g2,_⟩:=hk k hk'
  rw[←g2]
  exact nm_len (hfr.2 _ (List.mem_append_right _ (List.mem_map_of_mem g1))).2
theorem own_short:∀ (vars arrays later:List Nm) (known:List FSum) (fs:List FnD),errFs vars arrays later known fs=0→∀ f∈fs,∀ x∈f.params++f.locals,x.length≤24
 |_,_,_,_,[],_,f,hf=>(List.not_mem_nil hf).elim
 |vars,arrays,later,known,g::l,h,f,hf=>by
  rw[errFs] at h
  obtain ⟨h1,h2⟩:=orE_zero.1 h
  rcases List.mem_cons.1 hf with rfl|hf
  ·unfold errF at h1
   intro x hx
   exact nm_len ((fresh_zero _ _ (orE_zero.1 h1).1).2 x hx).2
  ·exact own_short vars arrays later _ l h2 f hf
theorem permP5 {t s a b3 b2:Nat×LObj}:[t,b3,s,a,b2].Perm ([t,s,a]++[b3,b2]):=List.Perm.cons _ ((List.Perm.swap _ _ _).trans (List.Perm.cons _ (List.Perm.swap _ _ _)))
attribute [local irreducible] LOps LCode LStep LCalls Go.GL.Pure QThen QBlock RetPost LQ LAny LLate LLateOp LS
section
variable {B0:Nat} {w0:World}
theorem compile_spec (hG:GW B0 w0) (hM:Asm.GM w0) (vars:List Nm) (arrays:List (Nm×Int)) (fs:List FnD) (o:Org) (hv6:vars.length≤2000000) (ha6:arrays.length≤2000000) (har:∀ a∈arrays,I64 a.2) (hnd:ndFs fs≤2000000) (hnum:∀ f∈fs,numSs f.body) (o1:I64 o.code) (o2:I64 o.scalars) (o3:I64 o.arrays) :
  LCalls (KC B0 w0) 11 [Chk.encPrG vars arrays fs,orgLV o] [] (Ret (cmpLV (cmpP vars arrays fs o))):=by
 have hck:=Chk.check_spec (B0:=B0) (w0:=w0) vars arrays fs hv6 ha6 har hnd
 have hf6:=ndFs_len fs
 have hsm:∀ f∈fs,SmF f:=fun f hf=>smF_of (by have:=ndFs_mem hf;omega)
 generalize hC:cmpP vars arrays fs o=R
 unfold cmpP at hC
 have ePr:Chk.encPrG vars arrays fs=.agg [.list (vars.map str),.list (arrays.map Chk.encArG),.list (fs.map encFn)]:=rfl
 have eOr:orgLV o=.agg [int .i64 o.code,int .i64 o.scalars,int .i64 o.arrays]:=rfl
 rw[ePr,eOr]
 refine cI Tryz.func11 rfl (n:=102) rfl rfl rfl ?_
 refine gah ?_
 refine oS (S.box rfl fun b2=>?_) rfl
 refine oS (S.box rfl fun b3=>?_) rfl
 refine gaa ?_
 refine oS (S.callH (H1:=[]) (F:=[_,_]) [_] rfl zpr hck ?_ (by rintro ch H' ⟨_,nm,h⟩;cases h)) rfl
 rintro lv H' ⟨rfl,nm,h⟩
 cases h
 refine gaa ?_
 by_cases hc0:checkP vars arrays fs=0
 rotate_left
 ·rw[if_pos hc0] at hC
  subst hC
  refine oC rfl (fun _=>?_) (fun hc=>?_)
  ·refine gab ?_
   exact retRet rfl (rC (zrt rfl) (zra rfl)) rfl
  ·have h2:(!decide (checkP vars arrays fs=0))=false:=hc
   simp at h2
   exact absurd h2 hc0
 refine oC rfl (fun hc=>?_) (fun _=>?_)
 ·have h2:(!decide (checkP vars arrays fs=0))=true:=hc
  simp[hc0] at h2
 rw[if_neg (by simpa using hc0)] at hC
 obtain ⟨ht,hp,hPa,hPc,hV⟩:=check_parts hc0
 have hown:∀ f∈fs,∀ x∈f.params++f.locals,x.length≤24:=by
  have h:=hc0
  unfold checkP at h
  exact own_short _ _ _ _ _ (orE_zero.1 (orE_zero.1 (orE_zero.1 h).2).2).1
 have hfr:=fresh_zero _ _ hV.names
 have hfn:∀ f∈fs,f.name.length≤24:=fun f hf=>nm_len (hfr.2 _ (List.mem_append_right _ (List.mem_map_of_mem hf))).2
 have hn:∀ f∈fs,f.name.length≤1000∧∀ x∈f.params++f.locals,x.length≤1000:=fun f hf=>⟨by have:=hfn f hf;omega,fun x hx=>by have:=hown f hf x hx;omega⟩
 have hsc8:(scalarsP vars fs).length≤8000:=hV.few
 have hft:=fits_spec (B0:=B0) (w0:=w0) vars arrays fs o hv6 zo ha6 hsm hn hp ht hsc8 o1 o2 o3
 rw[ePr,eOr] at hft
 refine gaa ?_
 refine oS (S.fn [_,_] rfl hft ?_) rfl
 refine gac ?_
 by_cases hfit:fitsP vars arrays fs o=true
 rotate_left
 ·rw[if_pos (by simpa using hfit)] at hC
  subst hC
  refine oC rfl (fun _=>?_) (fun hc=>?_)
  ·refine gar ?_
   exact retRet rfl (rC (zrt rfl) (zra rfl)) rfl
  ·have h2:(!fitsP vars arrays fs o)=false:=hc
   simp at h2
   exact absurd h2 hfit
 refine oC rfl (fun hc=>?_) (fun _=>?_)
 ·have h2:(!fitsP vars arrays fs o)=true:=hc
  rw[hfit] at h2
  cases h2
 rw[if_neg (by rw[hfit];decide)] at hC
 have hfitP:fitsP (prOf vars arrays fs).vars (arrsP (prOf vars arrays fs)) (prOf vars arrays fs).funcs o=true:=by rw[hPa];exact hfit
 have hF:=fit_of hfitP
 have hS:=Chk.scalars_specG (B0:=B0) (w0:=w0) (vars:=vars) (fs:=fs) (.list (arrays.map Chk.encArG)) hv6 zo hsm hn
 have hT:=hF.s1
 have hS0:=hF.s0
 have hA1:=hF.a1
 have hA0:=hF.a0
 have hkeys:(scalarsP vars fs).Nodup:=hV.keys
 have htot:(arrays.map (·.2)).sum=((totA (prOf vars arrays fs).arrays:Nat):Int):=by
  have:=totA_int (prOf vars arrays fs).arrays
  rw[←this]
  congr 2
  exact hPa.symm
 have hAs:=arrays_spec (B0:=B0) (w0:=w0) vars arrays fs o ha6 hp hA0 (by rw[htot];omega)
 rw[ePr,eOr] at hAs
 have hT2:o.scalars.toNat+3+(scalarsP vars fs).length≤262144:=hT
 refine gab ?_
 refine oS (S.kvNew fun sm=>?_) rfl
 refine oS (S.kvNew fun am=>?_) rfl
 refine gac ?_
 refine oS (S.box rfl fun tb=>?_) rfl
 refine gaa ?_
 refine oS (S.fn [_] rfl hS ?_) rfl
 have hsl:((scalarsP vars fs).map str).length=(scalarsP vars fs).length:=List.length_map _
 refine gad ?_
 generalize hsl2:scalarsP vars fs=sl at *
 refine oL (fun kk ls H'=>∃ (i g1:Nat),i≤sl.length∧kk=sl.length-i∧ls=[(2,ptr b2 0),(3,ptr b3 0),(8,ptr tb 0),(39,.list (sl.map str)),(40,int .i64 sl.length),(41,int .i64 (i:Nat))]∧H'=[(tb,.cells 64 [nilSlice,int .i64 0,int .i64 o.scalars,.atom (.map (some sm)),.atom (.map (some am)),str []]),(b3,.cells 28 [int .i64 o.code,int .i64 o.scalars,int .i64 o.arrays]),(sm,.map (kvs (scKV o.scalars 0 (sl.take i))) g1),(am,.map (kvs []) 0),(b2,.cells 26 [.list (vars.map str),.list (arrays.map Chk.encArG),.list (fs.map encFn)])])
  ⟨_,_,_,⟨0,0,Nat.zero_le _,rfl,rfl,rfl⟩,⟨rfl,rfl,rfl,rfl,int_eq zo,rfl,trivial⟩,zhP pH (zhP zp2 (zhP zp1 zhr))⟩ ?_
 rintro kk ls H' ⟨i,g1,hi,rfl,rfl,rfl⟩ j hj
 refine gag ?_
 refine oC rfl (fun hc=>?_) (fun hc=>?_)
 ·have hlt:i<sl.length:=by have:=zt hc;omega
  have htk:=scKV_take (S:=o.scalars) hlt hkeys
  refine gab ?_
  refine oP (xR (el':=str sl[i]) (cs:=[str sl[i]]) rfl rfl zo (map_get _ _ _ hlt) rfl rfl) rfl ?_
  refine gac ?_
  refine LCode.draw (m:=11) rfl [(tb,.cells 64 [nilSlice,int .i64 0,int .i64 o.scalars,.atom (.map (some sm)),.atom (.map (some am)),str []]),(b3,.cells 28 [int .i64 o.code,int .i64 o.scalars,int .i64 o.arrays])] ?_
  refine aT 0 rfl rfl (Pure.mv (lv:=.atom _) rfl) ?_
  refine aT 1 rfl rfl (Pure.nilCheckH rfl) ?_
  refine aT 2 rfl rfl (Pure.fieldH rfl) ?_
  refine aT 3 rfl rfl (Pure.loadH (c:=.atom _) rfl zm0 rfl) ?_
  refine aT 4 rfl rfl (Pure.mv (lv:=.atom _) rfl) ?_
  refine aT 5 rfl rfl (Pure.fieldH rfl) ?_
  refine aT 6 rfl rfl (Pure.loadH (c:=.atom _) rfl zm1 rfl) ?_
  refine aT 7 rfl rfl (Pure.add rfl rfl zo) ?_
  refine aT 8 rfl rfl (Pure.mv (lv:=.atom _) rfl) ?_
  refine aT 9 rfl rfl (Pure.add rfl rfl zo) ?_
  refine LAny.late ?_ hsubP2
  refine lO 10 (lS (H1:=[(sm,.map (kvs (scKV o.scalars 0 (sl.take i))) g1)]) rfl (.inl rfl) rfl (show Pick _ _ _ from pT zp1) hsubP2 (S.kvSet (k:=sl[i]) (lv:=int .i64 (o.scalars+3+(i:Nat))) rfl rfl rfl pH fun g1'=>?_))
  rw[htk]
  refine lD zk ?_
  refine gan ?_
  exact ⟨_,_,_,by omega,⟨i+1,g1',by omega,rfl,rfl,rfl⟩,⟨rfl,rfl,rfl,rfl,rfl,int_eq zo,trivial⟩,zhP zp1 (zhP zp1 zhr),hj⟩
 have hi':i=sl.length:=by have:=zf hc;omega
 subst hi'
 rw[List.take_length]
 have hyl:=symA_len arrays o.arrays
 have hyn:((symA o.arrays arrays).map (·.1)).Nodup:=by
  rw[symA_names]
  have h1:=(List.nodup_append.1 (List.nodup_append.1 hfr.1).1).2.1
  have e1:(prOf vars arrays fs).arrays.map (·.name)=arrays.map (·.1):=by
   unfold prOf
   rw[List.map_map]
   rfl
  rw[e1] at h1
  exact h1
 have hym:((symA o.arrays arrays).map symLV).length=(symA o.arrays arrays).length:=List.length_map _
 refine gaa ?_
 refine oS (S.fn [_,_] rfl hAs ?_) rfl
 refine gaa ?_
 generalize hyy:symA o.arrays arrays=ys at *
 refine oC rfl (fun h=>by cases h) (fun _=>?_)
 refine gab ?_
 refine oL (fun kk ls H'=>∃ (i g2:Nat),i≤ys.length∧kk=ys.length-i∧ls=[(2,ptr b2 0),(3,ptr b3 0),(8,ptr tb 0),(66,.list (ys.map symLV)),(67,int .i64 ys.length),(68,int .i64 (i:Nat))]∧H'=[(tb,.cells 64 [nilSlice,int .i64 0,int .i64 o.scalars,.atom (.map (some sm)),.atom (.map (some am)),str []]),(b3,.cells 28 [int .i64 o.code,int .i64 o.scalars,int .i64 o.arrays]),(sm,.map (kvs (scKV o.scalars 0 sl)) g1),(am,.map (kvs (arKV (ys.take i))) g2),(b2,.cells 26 [.list (vars.map str),.list (arrays.map Chk.encArG),.list (fs.map encFn)])])
  ⟨_,_,_,⟨0,0,Nat.zero_le _,rfl,rfl,rfl⟩,⟨rfl,rfl,rfl,rfl,int_eq zo,rfl,trivial⟩,HSub.refl _⟩ ?_
 rintro kk ls H' ⟨i,g2,hi,rfl,rfl,rfl⟩ j2 hj2
 refine gag ?_
 refine oC rfl (fun hc=>?_) (fun hc=>?_)
 ·have hlt:i<ys.length:=by have:=zt hc;omega
  have htk:=arKV_take hlt hyn
  refine gai ?_
  refine oP (xR (el':=symLV ys[i]) (cs:=[_,_]) rfl rfl zo (map_get _ _ _ hlt) rfl rfl) rfl ?_
  refine gac ?_
  refine oS (S.alloc fun b14=>?_) rfl
  refine gac ?_
  refine LCode.draw (m:=9) rfl [(b14,.cells 70 [str ys[i].1,int .i64 ys[i].2]),(tb,.cells 64 [nilSlice,int .i64 0,int .i64 o.scalars,.atom (.map (some sm)),.atom (.map (some am)),str []])] ?_
  refine aT 0 rfl rfl (Pure.mv (lv:=.atom _) rfl) ?_
  refine aT 1 rfl rfl (Pure.nilCheckH rfl) ?_
  refine aT 2 rfl rfl (Pure.fieldH rfl) ?_
  refine aT 3 rfl rfl (Pure.loadH (c:=.atom _) rfl zm1 rfl) ?_
  refine aT 4 rfl rfl (Pure.fieldH rfl) ?_
  refine aT 5 rfl rfl (Pure.loadH (c:=.atom _) rfl zm0 rfl) ?_
  refine aT 6 rfl rfl (Pure.fieldH rfl) ?_
  refine aT 7 rfl rfl (Pure.loadH (c:=.atom _) rfl zm0 rfl) ?_
  refine LAny.late ?_ hsubP2
  refine lO 8 (lS (H1:=[(am,.map (kvs (arKV (ys.take i))) g2)]) rfl (.inl rfl) rfl (show Pick _ _ _ from pT zp3) hsubP2 (S.kvSet (k:=ys[i].1) (lv:=int .i64 ys[i].2) rfl rfl rfl pH fun g2'=>?_))
  rw[htk]
  refine lD zk ?_
  refine gan ?_
  exact ⟨_,_,_,by omega,⟨i+1,g2',by omega,rfl,rfl,rfl⟩,⟨rfl,rfl,rfl,rfl,rfl,int_eq zo,trivial⟩,zhP zp2 (zhP zp2 (zhP zp2 (zhP pH (zhD zhr)))),hj2⟩
 have hi':i=ys.length:=by have:=zf hc;omega
 subst hi'
 rw[List.take_length]
 have htb:=fun own ho=>tb_ok (P:=prOf vars arrays fs) hF own ho tb sm am g1 g2
 rw[hPa] at htb
 have hW:=prW_tot hPc hnum hfitP hnd
 have hjt:=join_tot (wordsC (prOf vars arrays fs) o)
 have hwc:wordsC (prOf vars arrays fs) o=prW vars arrays fs o:=by
  unfold wordsC
  rw[hPa]
  rfl
 rw[hwc] at hW hjt
 have hcc:ccF (prOf vars arrays fs).vars arrays (prOf vars arrays fs).funcs o=ccF vars arrays fs o:=rfl
 rw[hPa,hcc] at hW
 have hwl:=tot_len (prW vars arrays fs o)
 have hnf:ndFs (prOf vars arrays fs).funcs=ndFs fs:=rfl
 rw[hnf] at hW
 have hpw:prW vars arrays fs o=[[38,102,95,109,97,105,110],[58],decDigits o.scalars.toNat,[33],[36]]++(fnWs (ccF vars arrays fs o) 0 fs).1:=by
  unfold prW
  rw[itoa_pos hS0]
 have hpl:(prW vars arrays fs o).length=5+(fnWs (ccF vars arrays fs o) 0 fs).1.length:=by
  rw[hpw,List.length_append]
  rfl
 have hTr:TrH ⟨tb,sm,am,scKV o.scalars 0 sl,arKV ys,g1,g2,o.scalars.toNat⟩ [] [] 0 [(tb,.cells 64 [nilSlice,int .i64 0,int .i64 o.scalars,.atom (.map (some sm)),.atom (.map (some am)),str []]),(sm,.map (kvs (scKV o.scalars 0 sl)) g1),(am,.map (kvs (arKV ys)) g2)]:=⟨nilSlice,[],Acc.nil,by
  simp only
  rw[Int.toNat_of_nonneg hS0]
  rfl⟩
 have hpg:=program_spec (B0:=B0) (w0:=w0) hG (k:=⟨tb,sm,am,scKV o.scalars 0 sl,arKV ys,g1,g2,o.scalars.toNat⟩) (cc:=ccF vars arrays fs o) (by show o.scalars.toNat≤_;omega) vars arrays fs hnd (fun f hf=>by
  obtain ⟨kn,k1,k2⟩:=hV.bodies f hf
  refine ⟨?_,hfn f hf,fun p hp=>by have:=hown f hf p (List.mem_append_left _ hp);omega,hnum f hf,_,env_ok hV hf (hown f hf) k2,k1⟩
  have:=htb f.name (by have:=hfn f hf;omega)
  rw[←hsl2,←hyy]
  exact this) (own0:=[]) (c0:=ccF vars arrays fs o []) (by
  have:=htb [] (by decide)
  rw[←hsl2,←hyy]
  exact this) _ hTr zo
 rw[ePr] at hpg
 refine gaa ?_
 refine oS (S.callT (F:=[_,_]) [_,_] rfl permP5 hpg fun H2 h2=>?_) rfl
 obtain ⟨own,n,h2⟩:=h2
 rw[←hpw] at h2
 generalize prW vars arrays fs o=W at *
 obtain ⟨v,Hv,hacc,rfl⟩:=h2
 have j0:=Asm.joinS_spec (B0:=B0) (w0:=w0) [32] W zo zo
 have hasm:=Asm.assemble_spec (B0:=B0) (w0:=w0) hG hM (join W [32]) o.code zo
 refine gaa ?_
 refine oP (Pure.loadH (c:=v) rfl zm2 rfl) rfl ?_
 refine LOps.sub 87 rfl hacc.sub ?_
 refine oS (S.fn [_,_] rfl j0 ?_) rfl
 refine gab ?_
 cases hx:asmP (join W [32]) o.code with
 |error e=>
  rw[hx] at hasm hC
  simp only at hC
  subst hC
  refine oS (S.fn [_,_] rfl hasm ?_) rfl
  unfold Asm.asmLV
  refine gaa ?_
  have he:¬ (e.2:Int)=0:=by
   have h3:=hF.c1
   have h4:=hF.c0
   have:=asm_vals zo hx
   omega
  refine oC rfl (fun _=>?_) (fun hc=>?_)
  ·refine gab ?_
   exact retRet (hj2.trans hj) (rC (zrt rfl) (zra rfl)) rfl
  ·have h2:(!decide ((e.2:Int)=0))=false:=hc
   simp at h2
   omega
 |ok x=>
  rw[hx] at hasm hC
  simp only at hC
  subst hC
  refine oS (S.fn [_,_] rfl hasm ?_) rfl
  unfold Asm.asmLV
  refine gaa ?_
  refine oC rfl (fun hc=>by cases hc) (fun _=>?_)
  refine gab ?_
  exact retRet (hj2.trans hj) (rC (zrt rfl) (zra rfl)) rfl
end
end Go.Proofs.YtpbbgkoalnonoaaGreatDoor.Cmp
set_option maxRecDepth 100000
namespace Go.Stele
mutual
theorem PE_nd:∀ {e:Ex} {k:Nat} {ts:List KT} {d:Nat},PE e k ts d→ndE e≤ts.length∧numE e
 |_,_,_,_,.num h=>⟨by rw[ndE,ndEs];exact Nat.le_refl _,by rw[numE];exact ⟨h,trivial⟩⟩
 |_,_,_,_,.var h=>⟨by rw[ndE,ndEs];exact Nat.le_refl _,by rw[numE];exact ⟨by unfold Lt;omega,trivial⟩⟩
 |_,_,_,_,.elem h ha=>by
  obtain ⟨h1,h2⟩:=PE_nd ha
  refine ⟨?_,?_⟩
  ·rw[ndE,ndEs,ndEs]
   simp only[List.length_append,List.length_cons,List.length_nil]
   omega
  ·rw[numE,numEs,numEs]
   exact ⟨by unfold Lt;omega,h2,trivial⟩
 |_,_,_,_,.call h hl=>by
  obtain ⟨h1,h2⟩:=PEs_nd hl
  refine ⟨?_,?_⟩
  ·rw[ndE]
   simp only[List.length_append,List.length_cons,List.length_nil]
   omega
  ·rw[numE]
   exact ⟨by unfold Lt;omega,h2⟩
 |_,_,_,_,.neg ha=>by
  obtain ⟨h1,h2⟩:=PE_nd ha
  refine ⟨?_,?_⟩
  ·rw[ndE,ndEs,ndEs]
   simp only[List.length_append,List.length_cons,List.length_nil]
   omega
  ·rw[numE,numEs,numEs]
   exact ⟨by unfold Lt;omega,h2,trivial⟩
 |_,_,_,_,.not ha=>by
  obtain ⟨h1,h2⟩:=PE_nd ha
  refine ⟨?_,?_⟩
  ·rw[ndE,ndEs,ndEs]
   simp only[List.length_append,List.length_cons,List.length_nil]
   omega
  ·rw[numE,numEs,numEs]
   exact ⟨by unfold Lt;omega,h2,trivial⟩
 |_,_,_,_,.bin hs ho hk ha hb=>by
  obtain ⟨h1,h2⟩:=PE_nd ha
  obtain ⟨h3,h4⟩:=PE_nd hb
  refine ⟨?_,?_⟩
  ·rw[ndE,ndEs,ndEs,ndEs]
   simp only[List.length_append,List.length_cons,List.length_nil]
   omega
  ·rw[numE,numEs,numEs,numEs]
   exact ⟨by unfold Lt;omega,h2,h4,trivial⟩
 |_,_,_,_,.par hs ho hk ha hb=>by
  obtain ⟨h1,h2⟩:=PE_nd ha
  obtain ⟨h3,h4⟩:=PE_nd hb
  refine ⟨?_,?_⟩
  ·rw[ndE,ndEs,ndEs,ndEs]
   simp only[List.length_append,List.length_cons,List.length_nil]
   omega
  ·rw[numE,numEs,numEs,numEs]
   exact ⟨by unfold Lt;omega,h2,h4,trivial⟩
theorem PEs_nd:∀ {l:List Ex} {ts:List KT} {d:Nat},PEs l ts d→ndEs l≤ts.length∧numEs l
 |_,_,_,.nil=>⟨by rw[ndEs];exact Nat.zero_le _,by rw[numEs];trivial⟩
 |_,_,_,.one ha=>by
  obtain ⟨h1,h2⟩:=PE_nd ha
  rw[ndEs,ndEs,numEs,numEs]
  exact ⟨by omega,h2,trivial⟩
 |_,_,_,.more ha hl=>by
  obtain ⟨h1,h2⟩:=PE_nd ha
  obtain ⟨h3,h4⟩:=PEs_nd hl
  refine ⟨?_,?_⟩
  ·rw[ndEs]
   simp only[List.length_append,List.length_cons]
   omega
  ·rw[numEs]
   exact ⟨h2,h4⟩
end
theorem one_nd {e:Ex} {ts:List KT} {d:Nat} (h:PE e 0 ts d):ndEs [e]≤ts.length∧numEs [e]:=PEs_nd (.one h)
mutual
theorem PS_nd:∀ {s:Sm} {ts:List KT} {d:Nat},PS s ts d→ndS s≤ts.length∧numS s
 |_,_,_,.assign h he=>by
  obtain ⟨h1,h2⟩:=one_nd he
  refine ⟨?_,?_⟩
  ·rw[ndS,ndEs,ndSs]
   simp only[List.length_append,List.length_cons,List.length_nil]
   omega
  ·rw[numS,numSs]
   exact ⟨by rw[numEs];trivial,h2,trivial,trivial⟩
 |_,_,_,.store h hx he=>by
  obtain ⟨h1,h2⟩:=one_nd he
  obtain ⟨h3,h4⟩:=one_nd hx
  refine ⟨?_,?_⟩
  ·rw[ndS,ndSs]
   simp only[List.length_append,List.length_cons,List.length_nil]
   omega
  ·rw[numS,numSs]
   exact ⟨h4,h2,trivial,trivial⟩
 |_,_,_,.call h hl=>by
  obtain ⟨h1,h2⟩:=PEs_nd hl
  refine ⟨?_,?_⟩
  ·rw[ndS,ndSs,ndEs,ndEs,ndEs,ndE]
   simp only[List.length_append,List.length_cons,List.length_nil]
   omega
  ·rw[numS,numSs,numEs,numEs,numEs,numE]
   exact ⟨trivial,⟨⟨by unfold Lt;omega,h2⟩,trivial⟩,trivial,trivial⟩
 |_,_,_,.ret he=>by
  obtain ⟨h1,h2⟩:=one_nd he
  refine ⟨?_,?_⟩
  ·rw[ndS,ndSs]
   simp only[List.length_append,List.length_cons,List.length_nil]
   have:ndEs []=0:=by rw[ndEs]
   omega
  ·rw[numS,numSs]
   exact ⟨by rw[numEs];trivial,h2,trivial,trivial⟩
 |_,_,_,.halt=>by
  refine ⟨?_,?_⟩
  ·rw[ndS,ndSs,ndEs]
   simp only[List.length_cons,List.length_nil]
   omega
  ·rw[numS,numSs,numEs]
   exact ⟨trivial,trivial,trivial,trivial⟩
 |_,_,_,.ifElse he h1 h2 hne=>by
  obtain ⟨a1,a2⟩:=one_nd he
  obtain ⟨b1,b2⟩:=PSs_nd h1
  obtain ⟨c1,c2⟩:=PSs_nd h2
  refine ⟨?_,?_⟩
  ·rw[ndS]
   simp only[List.length_append,List.length_cons,List.length_nil]
   have:ndEs []=0:=by rw[ndEs]
   omega
  ·rw[numS]
   exact ⟨by rw[numEs];trivial,a2,b2,c2⟩
 |_,_,_,.ifThen he h1=>by
  obtain ⟨a1,a2⟩:=one_nd he
  obtain ⟨b1,b2⟩:=PSs_nd h1
  refine ⟨?_,?_⟩
  ·rw[ndS]
   simp only[List.length_append,List.length_cons,List.length_nil]
   have:ndEs []=0:=by rw[ndEs]
   have:ndSs []=0:=by rw[ndSs]
   omega
  ·rw[numS]
   exact ⟨by rw[numEs];trivial,a2,b2,by rw[numSs];trivial⟩
 |_,_,_,.while he h1=>by
  obtain ⟨a1,a2⟩:=one_nd he
  obtain ⟨b1,b2⟩:=PSs_nd h1
  refine ⟨?_,?_⟩
  ·rw[ndS]
   simp only[List.length_append,List.length_cons,List.length_nil]
   have:ndEs []=0:=by rw[ndEs]
   have:ndSs []=0:=by rw[ndSs]
   omega
  ·rw[numS]
   exact ⟨by rw[numEs];trivial,a2,b2,by rw[numSs];trivial⟩
theorem PSs_nd:∀ {l:List Sm} {ts:List KT} {d:Nat},PSs l ts d→ndSs l≤ts.length∧numSs l
 |_,_,_,.nil=>⟨by rw[ndSs];exact Nat.zero_le _,by rw[numSs];trivial⟩
 |_,_,_,.cons h hl=>by
  obtain ⟨h1,h2⟩:=PS_nd h
  obtain ⟨h3,h4⟩:=PSs_nd hl
  refine ⟨?_,?_⟩
  ·rw[ndSs]
   simp only[List.length_append]
   omega
  ·rw[numSs]
   exact ⟨h2,h4⟩
end
theorem PFs_nd:∀ (fs:List FnD) (ts:List KT),PFs fs ts→ndFs fs≤ts.length∧∀ f∈fs,numSs f.body
 |[],ts,h=>⟨by rw[ndFs];exact Nat.zero_le _,fun f hf=>(List.not_mem_nil hf).elim⟩
 |f::fs,ts,h=>by
  cases h with
  |cons h hd hl=>
   obtain ⟨h1,h2⟩:=PFs_nd fs _ hl
   cases h with
   |mk hn hp hlo hb=>
    rename_i nm ps ls b ts' d'
    obtain ⟨h3,h4⟩:=PSs_nd hb
    have h5:=commas_ge ps
    have h6:=varK_ge ls
    refine ⟨?_,?_⟩
    ·rw[ndFs]
     unfold ndF
     simp only[List.length_append,List.length_cons,List.length_nil]
     omega
    ·intro f hf
     rcases List.mem_cons.1 hf with rfl|hf
     ·exact h4
     ·exact h2 f hf
theorem arKs_len (l:List Ar):l.length≤((l.map arK).flatten).length:=by
 induction l with
 |nil=>exact Nat.zero_le _
 |cons a l ih=>
  rw[List.map_cons,List.flatten_cons,List.length_append]
  unfold arK
  simp only[List.length_cons,List.length_nil]
  unfold arK at ih
  omega
structure SzP (p:Pr) (n:Nat):Prop where
 vars:p.vars.length≤n
 arrays:p.arrays.length≤n
 size:∀ a∈p.arrays,a.size<4294967296
 funcs:ndFs p.funcs≤n
 nums:∀ f∈p.funcs,numSs f.body
theorem PP_nd {p:Pr} {ts:List KT} (h:PP p ts):SzP p ts.length:=by
 cases h with
 |mk hv ha hf=>
  rename_i v a f ts
  obtain ⟨h1,h2⟩:=PFs_nd f ts hf
  have h3:=varK_ge v
  have h4:=arKs_len a
  refine ⟨?_,?_,fun x hx=>(ha x hx).2,?_,h2⟩ <;> · simp only[List.length_append];omega
theorem SzP.mono {p:Pr} {n m:Nat} (h:SzP p n) (hm:n≤m):SzP p m:=
 ⟨Nat.le_trans h.vars hm,Nat.le_trans h.arrays hm,h.size,Nat.le_trans h.funcs hm,h.nums⟩
theorem parse_sz {s:List UInt8} {T:List Tok} {p:Pr} {i op:Nat} (hT:lexAt s 1=.ok T) (hs:sProg T (10 * T.length+20) ⟨[],[],[]⟩ 0 0=some (.ok p i op)):SzP p s.length:=by
 obtain ⟨ts,h3,h4⟩:=src_print (lexP_again _ _ _ _ hT) hs
 exact (PP_nd h3).mono (Nat.le_trans h4 (lexP_ok _ _ _ _ hT).1)
end Go.Stele
namespace Go.Proofs.YtpbbgkoalnonoaaGreatDoor.Inp
open Go.GL Go.RowKit Go.Stele
set_option maxRecDepth 100000
set_option maxHeartbeats 4000000
theorem parse_both {s:List UInt8} (hs:s.length≤60000):∃ l,parseP s=((parseQ s).1,l,(parseQ s).2)∧SzP (parseQ s).1 s.length:=by
 have h0:SzP ⟨[],[],[]⟩ s.length:=⟨Nat.zero_le _,Nat.zero_le _,fun a ha=>(List.not_mem_nil ha).elim,Nat.zero_le _,fun a ha=>(List.not_mem_nil ha).elim⟩
 have hL:lexAllP s=lexAt s 1:=by
  unfold lexAllP
  rw[if_neg zo]
  rfl
 unfold parseP parseQ
 rw[hL]
 cases hT:lexAt s 1 with
 |error x=>
  obtain ⟨l,e⟩:=x
  exact ⟨l,rfl,h0⟩
 |ok T=>
  simp only
  obtain ⟨r,hr⟩:=sProg_ends T (10 * T.length+20) noPr 0 0 (Nat.zero_le _) zo
  have hr':sProg T (10 * T.length+20) ⟨[],[],[]⟩ 0 0=some r:=hr
  rw[hr,hr']
  cases r with
  |err l e=>exact ⟨l,rfl,h0⟩
  |ok p i op=>exact ⟨0,rfl,parse_sz hT hr'⟩
theorem encPr_eq (p:Pr):encPr p=Chk.encPrG p.vars (p.arrays.map fun a=>(a.name,(a.size:Int))) p.funcs:=by
 unfold encPr Chk.encPrG
 rw[List.map_map]
 rfl
attribute [local irreducible] LOps LCode LStep LCalls Go.GL.Pure QThen QBlock RetPost LQ LAny LLate LLateOp LS
section
variable {B0:Nat} {w0:World}
end
end Go.Proofs.YtpbbgkoalnonoaaGreatDoor.Inp
namespace Go.Proofs.YtpbbgkoalnonoaaGreatDoor.Cmp
open Go.GL Go.RowKit Go.Stele
open Go.Lib (decDigits itoa join)
set_option maxRecDepth 100000
set_option maxHeartbeats 4000000
def bldR (r:Pr×Int×Int) (o:Org):Wd×Int×Int:=if r.2.2≠0 then ([],r.2.1,r.2.2) else match buildC r.1.vars (arrsP r.1) r.1.funcs o with
 |.error e=>([],0,e)
 |.ok x=>(x,0,0)
def bldLV (b:Wd×Int×Int):LV:=.tuple [str b.1,int .i64 b.2.1,int .i64 b.2.2]
theorem parse_size (s:List UInt8):SzP (parseP s).1 60000:=by
 by_cases h:s.length≤60000
 ·obtain ⟨l,h1,h2⟩:=Inp.parse_both h
  rw[h1]
  exact ⟨Nat.le_trans h2.vars h,Nat.le_trans h2.arrays h,h2.size,Nat.le_trans h2.funcs h,h2.nums⟩
 ·have h0:SzP ⟨[],[],[]⟩ 60000:=⟨Nat.zero_le _,Nat.zero_le _,fun a ha=>(List.not_mem_nil ha).elim,Nat.zero_le _,fun a ha=>(List.not_mem_nil ha).elim⟩
  have hL:lexAllP s=.error (0,6):=by unfold lexAllP;rw[if_pos zo]
  have:parseP s=(noPr,0,6):=by unfold parseP;rw[hL]
  rw[this]
  exact h0
attribute [local irreducible] LOps LCode LStep LCalls Go.GL.Pure QThen QBlock RetPost LQ LAny LLate LLateOp LS
section
variable {B0:Nat} {w0:World}
theorem compile_pr (hG:GW B0 w0) (hM:Asm.GM w0) {p:Pr} {n:Nat} (h:SzP p n) (hn:n≤2000000) (o:Org) (o1:I64 o.code) (o2:I64 o.scalars) (o3:I64 o.arrays):LCalls (KC B0 w0) 11 [encPr p,orgLV o] [] (Ret (cmpLV (cmpP p.vars (arrsP p) p.funcs o))):=by
 rw[Inp.encPr_eq]
 exact compile_spec hG hM _ _ _ o (Nat.le_trans h.vars hn) (by rw[List.length_map];exact Nat.le_trans h.arrays hn) (fun a ha=>by
  obtain ⟨x,hx,rfl⟩:=List.mem_map.1 ha
  have:=h.size x hx
  constructor
  ·show (-9223372036854775808:Int)≤(x.size:Int)
   omega
  ·show (x.size:Int)<9223372036854775808
   omega) (Nat.le_trans h.funcs hn) h.nums o1 o2 o3
theorem build_spec (hG:GW B0 w0) (hM:Asm.GM w0) (s:List UInt8) (o:Org) (o1:I64 o.code) (o2:I64 o.scalars) (o3:I64 o.arrays):LCalls (KC B0 w0) 13 [str s,orgLV o] [] (Ret (bldLV (bldR (parseP s) o))):=by
 have hps:=parse_any (B0:=B0) (w0:=w0) hG s
 have hsz:=parse_size s
 generalize parseP s=r at hps hsz ⊢
 obtain ⟨p,l,e⟩:=r
 simp only at hsz
 have hcp:=compile_pr (B0:=B0) (w0:=w0) hG hM hsz (by decide) o o1 o2 o3
 generalize hR:bldR (p,l,e) o=R
 unfold bldR at hR
 simp only at hR
 have eOr:orgLV o=.agg [int .i64 o.code,int .i64 o.scalars,int .i64 o.arrays]:=rfl
 rw[eOr] at hcp ⊢
 refine cI Tryz.func13 rfl (n:=44) rfl rfl rfl ?_
 refine gah ?_
 refine oS (S.box rfl fun b3=>?_) rfl
 refine gab ?_
 refine oS (S.fn [_] rfl hps ?_) rfl
 unfold encParse
 simp only
 refine gac ?_
 refine oS (S.alloc fun b7=>?_) rfl
 refine gaa ?_
 by_cases hc0:e=0
 rotate_left
 ·rw[if_pos hc0] at hR
  subst hR
  refine oC rfl (fun _=>?_) (fun hc=>?_)
  ·refine gab ?_
   exact retRet rfl (rC (zrt rfl) (rC (zrt rfl) (zra rfl))) rfl
  ·have h2:(!decide (e=0))=false:=hc
   simp at h2
   exact absurd h2 hc0
 refine oC rfl (fun hc=>?_) (fun _=>?_)
 ·have h2:(!decide (e=0))=true:=hc
  simp[hc0] at h2
 rw[if_neg (by simpa using hc0)] at hR
 unfold buildC at hR
 cases hcm:cmpP p.vars (arrsP p) p.funcs o with
 |error er=>
  have hne:=cmp_ne hcm
  rw[hcm] at hR hcp
  simp only at hR
  subst hR
  refine gaa ?_
  refine oS (S.fn [_,_] rfl hcp ?_) rfl
  unfold cmpLV
  refine gaa ?_
  refine oC rfl (fun _=>?_) (fun hc=>?_)
  ·refine gab ?_
   exact retRet rfl (rC (zrt rfl) (rC (zrt rfl) (zra rfl))) rfl
  ·have h2:(!decide (er=0))=false:=hc
   simp at h2
   exact absurd h2 hne
 |ok t=>
  obtain ⟨x,hx,_⟩:=cmp_asm hcm
  have htl:t.length≤300000000:=by
   have h0:=hcm
   have hpc:checkP p.vars (arrsP p) p.funcs=0:=by
    unfold cmpP at h0
    split at h0
    ·cases h0
    ·rename_i h;exact Classical.not_not.1 h
   have hft:fitsP p.vars (arrsP p) p.funcs o=true:=by
    unfold cmpP at h0
    split at h0
    ·cases h0
    split at h0
    ·cases h0
    rename_i h;simpa using h
   have hts:t=join (prW p.vars (arrsP p) p.funcs o) [32]:=by
    unfold cmpP at h0
    split at h0
    ·cases h0
    split at h0
    ·cases h0
    split at h0
    ·cases h0
    injection h0 with h0
    exact h0.symm
   have hw:=(prW_tot (P:=p) (o:=o) hpc hsz.nums hft (Nat.le_trans hsz.funcs (by decide))).1
   have hj:=join_tot (prW p.vars (arrsP p) p.funcs o)
   have hw2:tot (prW p.vars (arrsP p) p.funcs o)≤60+60 * ndFs p.funcs:=hw
   have:=hsz.funcs
   rw[hts]
   omega
  have hasm:=Asm.assemble_spec (B0:=B0) (w0:=w0) hG hM t o.code htl
  rw[hcm] at hR hcp
  simp only at hR
  rw[hx] at hR hasm
  simp only at hR
  subst hR
  refine gaa ?_
  refine oS (S.fn [_,_] rfl hcp ?_) rfl
  unfold cmpLV
  refine gaa ?_
  refine oC rfl (fun hc=>by cases hc) (fun _=>?_)
  refine gaa ?_
  refine oS (S.fn [_,_] rfl hasm ?_) rfl
  unfold Asm.asmLV
  refine gaa ?_
  exact retRet rfl (rC (zrt rfl) (rC (zrt rfl) (zra rfl))) rfl
def defO:Org:=⟨10000,0,100000⟩
theorem defaults_spec:LCalls (KC B0 w0) 17 [] [] (Ret (orgLV defO)):=by
 refine cI Tryz.func17 rfl (n:=2) rfl rfl rfl ?_
 refine gah ?_
 refine oS (S.alloc fun b=>?_) rfl
 refine gaa ?_
 exact retRet rfl (rC (rA rfl zm0 rfl zsr) rN) rfl
def awakeSrc:List UInt8:=[102,117,110,99,32,109,97,105,110,40,41,32,123,32,111,117,116,40,39,65,39,41,59,32,125]
theorem awake_bld:bldR (parseP awakeSrc) defO=([48,49,48,48,49,48,58,48,33,36,54,53,46,48,32,48,33,48,59],0,0):=by kernel_rfl
end
end Go.Proofs.YtpbbgkoalnonoaaGreatDoor.Cmp
namespace Go.GL
open Go.RowKit
def chkStrF (P : Program) (f : Field) (o : Nat) : Bool := f.name != "_" && f.offset == o && (match P.underlying f.type with | some .string => true | _ => false)
def chkI64 (P : Program) (f : Field) (o : Nat) : Bool := f.name != "_" && f.offset == o && (match P.underlying f.type with | some (.int .i64) => true | _ => false)
theorem chkI64_of {P : Program} {f : Field} {o : Nat} (h : chkI64 P f o = true) : f.name ≠ "_" ∧ f.offset = o ∧ P.underlying f.type = some (.int .i64) := by
 unfold chkI64 at h
 simp only[Bool.and_eq_true,bne_iff_ne,beq_iff_eq] at h
 obtain ⟨⟨h1,h2⟩,h3⟩:=h
 refine ⟨h1,h2,?_⟩
 split at h3
 ·assumption
 ·cases h3
theorem run_part_of {P:Program} {t:TypeId} {d:TypeDesc} (hu:P.underlying t=some d) (hp:d=.string∨d=.int .i64) {xs:Array Value} {off:Nat} {v:Value} (hx:xs[off]? = some v) (w:World):(part t xs off).run P w=.ok v w:=
 run_part_plain w (by rcases hp with rfl|rfl <;> simp[Program.plainKey,hu]) hx
theorem run_eqInt {P:Program} {t:TypeId} (hu:P.underlying t=some (.int .i64)) (d:Nat) (a b:Int) (w:World):(Op.equalIn (d+1) t (.int .i64 a) (.int .i64 b)).run P w=.ok (decide (a=b)) w:=by
 simp only[Op.equalIn,Sem.run_bind,run_underlying' hu,Result.andThen_ok,Sem.run_pure,if_true]
 congr 1
section
variable {C:Ctx} {e:Env} {H:Heap} {dst:Option Nat} {ty:TypeId} {pos:String} {aft:Array Edge} {g:Option (Nat×Bool)} {x y:Operand}
end
theorem LCalls.argsSub {C:Ctx} {f:FuncId} {us bs:List LV} {H:Heap} {R:LRes→Heap→Prop} (hs:SubL us bs) (h:LCalls C f bs H R):LCalls C f us H R:=fun vs w L hr hH=>h vs w L (hs.repL hr) hH
end Go.GL
namespace Go.GL
open Go.RowKit
class TInt3 (P:Program) (t:TypeId):Prop where
 und:P.underlying t=some (.struct (P.fieldsOf t))
 apart:P.stoodInHeld t=false
 guard:P.eqGuardType P.depth t=false
 fields : ∃ f0 f1 f2 : Field, (P.fieldsOf t).toList = [f0, f1, f2] ∧ (f0.name ≠ "_" ∧ f0.offset = 0 ∧ P.underlying f0.type = some (.int .i64)) ∧ (f1.name ≠ "_" ∧ f1.offset = 1 ∧ P.underlying f1.type = some (.int .i64)) ∧ (f2.name ≠ "_" ∧ f2.offset = 2 ∧ P.underlying f2.type = some (.int .i64))
def chkInt3 (P:Program) (t:TypeId):Bool:=(match P.underlying t with|some (.struct _)=>true|_=>false) && !P.stoodInHeld t && !P.eqGuardType P.depth t && (match (P.fieldsOf t).toList with|[f0,f1,f2]=>chkI64 P f0 0 && chkI64 P f1 1 && chkI64 P f2 2|_=>false)
theorem TInt3.of {P:Program} {t:TypeId} (h:chkInt3 P t=true):TInt3 P t:=by
 unfold chkInt3 at h
 simp only[Bool.and_eq_true,Bool.not_eq_true'] at h
 obtain ⟨⟨⟨h1,h2⟩,h3⟩,h4⟩:=h
 refine ⟨?_,h2,h3,?_⟩
 ·split at h1
  ·rename_i fs hu
   rw[hu]
   simp[Program.fieldsOf,hu]
  ·cases h1
 ·split at h4
  ·rename_i f0 f1 f2 hf
   simp only[Bool.and_eq_true] at h4
   exact ⟨f0,f1,f2,hf,chkI64_of h4.1.1,chkI64_of h4.1.2,chkI64_of h4.2⟩
  ·cases h4
theorem run_eqInt3 {P:Program} {t:TypeId} [h:TInt3 P t] (a x u:Int) (w:World) :
  (Op.equal t (.agg #[.int .i64 a,.int .i64 x,.int .i64 u]) (.agg #[.int .i64 a,.int .i64 x,.int .i64 u])).run P w=.ok true w:=by
 obtain ⟨f0,f1,f2,hf,⟨n0,o0,u0⟩,⟨n1,o1,u1⟩,⟨n2,o2,u2⟩⟩:=h.fields
 rw[equal_step,run_equalIn_struct w 9999 t _ _ h.und h.apart,hf]
 have p0:(part f0.type #[.int .i64 a,.int .i64 x,.int .i64 u] f0.offset).run P w=.ok (.int .i64 a) w:=run_part_of u0 (.inr rfl) (by rw[o0];rfl) w
 have p1:(part f1.type #[.int .i64 a,.int .i64 x,.int .i64 u] f1.offset).run P w=.ok (.int .i64 x) w:=run_part_of u1 (.inr rfl) (by rw[o1];rfl) w
 have p2:(part f2.type #[.int .i64 a,.int .i64 x,.int .i64 u] f2.offset).run P w=.ok (.int .i64 u) w:=run_part_of u2 (.inr rfl) (by rw[o2];rfl) w
 have q0:(Op.equalIn 9999 f0.type (.int .i64 a) (.int .i64 a)).run P w=.ok (decide (a=a)) w:=run_eqInt u0 9998 a a w
 have q1:(Op.equalIn 9999 f1.type (.int .i64 x) (.int .i64 x)).run P w=.ok (decide (x=x)) w:=run_eqInt u1 9998 x x w
 have q2:(Op.equalIn 9999 f2.type (.int .i64 u) (.int .i64 u)).run P w=.ok (decide (u=u)) w:=run_eqInt u2 9998 u u w
 simp only[Op.eqFields,n0,n1,n2,ne_eq,not_false_eq_true,if_true,Sem.run_bind,p0,q0,p1,q1,p2,q2,Result.andThen_ok,decide_true,Bool.not_true,Bool.false_eq_true,if_false,Sem.run_pure]
section
variable {C:Ctx} {e:Env} {H:Heap} {dst:Option Nat} {ty:TypeId} {pos:String} {aft:Array Edge} {g:Option (Nat×Bool)} {x y:Operand}
theorem agg_int3 {ρ:Operand→Value} {w:World} {L:Live} (h:∀ x,Rep w L (e.ev x) (ρ x)) {x:Operand} {a i j:Int} (hx:e.ev x=.agg [int .i64 a,int .i64 i,int .i64 j]):ρ x=.agg #[.int .i64 a,.int .i64 i,.int .i64 j]:=by
 have hv:=h x
 rw[hx] at hv
 simp only[Rep,RepL,int] at hv
 obtain ⟨vs,h1,v0,r0,e0,rfl,v1,r1,e1,rfl,v2,r2,e2,rfl,e3⟩:=hv
 rw[h1,e0,e1,e2,e3]
theorem Pure.eqInt3 {t yT:TypeId} [h:TInt3 C.P t] {a i j:Int} (hx:e.ev x=.agg [int .i64 a,int .i64 i,int .i64 j]) (hy:e.ev y=.agg [int .i64 a,int .i64 i,int .i64 j]) :
  Pure C ⟨dst,.binOp .eql t x y yT,ty,pos,aft,g⟩ e H (bool true):=
 .of_any fun ρ _ _ hr=>⟨_,rep_atom,fun w'=>by
  have h1:=agg_int3 hr hx
  have h2:=agg_int3 hr hy
  have he:(eqGuard .eql t x y (.agg #[.int .i64 a,.int .i64 i,.int .i64 j]) (.agg #[.int .i64 a,.int .i64 i,.int .i64 j])).run C.P w'=.ok () w':=by
   simp[eqGuard,h.guard]
  have hb:binOp .eql t (.agg #[.int .i64 a,.int .i64 i,.int .i64 j]) (.agg #[.int .i64 a,.int .i64 i,.int .i64 j])=(do Pure.pure (.bool (←Op.equal t (.agg #[.int .i64 a,.int .i64 i,.int .i64 j]) (.agg #[.int .i64 a,.int .i64 i,.int .i64 j])))):=rfl
  simp only[execOp,h1,h2,he,hb,Sem.run_bind,Sem.run_pure,Result.andThen_ok,run_eqInt3]⟩
end
end Go.GL
namespace Go.Proofs.YtpbbgkoalnonoaaGreatDoor.Cmp
open Go.GL Go.RowKit Go.Stele
set_option maxRecDepth 100000
set_option maxHeartbeats 4000000
instance:TInt3 Tryz.prog 28:=.of zk
attribute [local irreducible] LOps LCode LStep LCalls Go.GL.Pure QThen QBlock RetPost LQ LAny LLate LLateOp LS
section
variable {B0:Nat} {w0:World}
theorem awake_spec (hG:GW B0 w0) (hM:Asm.GM w0):LCalls (KC B0 w0) 10 [] [] (Ret (bool true)):=by
 have hb:=build_spec (B0:=B0) (w0:=w0) hG hM awakeSrc defO (by unfold I64;decide) (by unfold I64;decide) (by unfold I64;decide)
 rw[awake_bld] at hb
 have hd:=defaults_spec (B0:=B0) (w0:=w0)
 have eD:orgLV defO=.agg [int .i64 10000,int .i64 0,int .i64 100000]:=rfl
 rw[eD] at hb hd
 unfold bldLV at hb
 refine cI Tryz.func10 rfl (n:=25) rfl rfl rfl ?_
 refine gaa ?_
 refine oS (S.fn [] rfl hd ?_) rfl
 refine oS (S.fn [_,_] rfl hb ?_) rfl
 refine gaa ?_
 refine oS (S.fn [] rfl hd ?_) rfl
 refine gaa ?_
 refine oP (Pure.eqInt3 rfl rfl) rfl ?_
 refine gaa ?_
 exact retRet rfl (zra rfl) rfl
end
end Go.Proofs.YtpbbgkoalnonoaaGreatDoor.Cmp
namespace Go.Proofs.YtpbbgkoalnonoaaGreatDoor.RC
open Go.GL Go.RowKit Go.Stele
set_option maxRecDepth 100000
set_option maxHeartbeats 4000000
theorem get_mid {A B:Type} (g:A→B) (pre:List A) (a:A) (l:List A):((pre++a::l).map g)[((pre.length:Nat):Int).toNat]? = some (g a):=by
 rw[Int.toNat_natCast,List.getElem?_map,List.getElem?_append_right (Nat.le_refl _),Nat.sub_self]
 rfl
theorem more {A B:Type} {g:A→B} {L pre l1:List A} (hL:L=pre++l1) (h:decide ((pre.length:Int)<((L.map g).length:Int))=true):∃ a l2,l1=a::l2:=by
 have:=zt h
 rw[List.length_map,hL,List.length_append] at this
 cases l1 with
 |nil=>simp at this
 |cons a l2=>exact ⟨a,l2,rfl⟩
theorem none_left {A B:Type} {g:A→B} {L pre l1:List A} (hL:L=pre++l1) (h:decide ((pre.length:Int)<((L.map g).length:Int))=false):l1=[]:=by
 have:=zf h
 rw[List.length_map,hL,List.length_append] at this
 cases l1 with
 |nil=>rfl
 |cons a l2=>simp at this;omega
theorem pre_le {A:Type} {L pre l1:List A} {n:Nat} (hL:L=pre++l1) (h:L.length≤n):pre.length≤n:=by
 rw[hL,List.length_append] at h
 omega
theorem snoc {A:Type} {L pre l2:List A} {a:A} (hL:L=pre++a::l2):L=(pre++[a])++l2:=by rw[hL];simp
def kwL:List Nm:=[[97,114,114,97,121],[101,108,115,101],[102,117,110,99],[104,97,108,116],[105,102],[105,110],[111,117,116],[114,101,116,117,114,110],[118,97,114],[119,104,105,108,101]]
theorem kwL_eq (s:Nm):s∈kwL ↔ s∈noName:=by
 have h1:∀ x∈kwL,x∈noName:=by decide +kernel
 have h2:∀ x∈noName,x∈kwL:=by decide +kernel
 exact ⟨h1 s,h2 s⟩
def b01 (b:Bool):Int:=if b=true then 1 else 0
theorem nm_kw {s:Nm} (h:s∈kwL):isNm s=false:=by
 have h1:noName.contains s=true:=List.elem_eq_true_of_mem ((kwL_eq s).1 h)
 unfold isNm
 rw[h1]
 simp
theorem nm_bad {s:Nm} (h:s=[]∨24<s.length):isNm s=false:=by
 unfold isNm
 rcases h with rfl|h
 ·simp
 ·rw[decide_eq_false zo];rfl
theorem nm_eq {c:UInt8} {r:List UInt8} (h0:(c::r) ∉ kwL) (h1:(c::r).length≤24):isNm (c::r)=(isLetter c && r.all isInner):=by
 have h2:noName.contains (c::r)=false:=by
  rw[Bool.eq_false_iff]
  intro h
  exact h0 ((kwL_eq _).2 (List.contains_iff_mem.1 h))
 unfold isNm
 rw[decide_eq_true h1,h2]
 rfl
theorem mem_snoc {A:Type} {s x:A} {pre:List A} (h:s ∉ pre) (hx:¬ s=x):s ∉ pre++[x]:=fun hm=>by
 rcases List.mem_append.1 hm with h1|h1
 ·exact h h1
 ·exact hx (List.mem_singleton.1 h1)
theorem freshE_congr:∀ (l k k':List Nm),(∀ x,x∈k ↔ x∈k')→freshE k l=freshE k' l
 |[],k,k',_=>rfl
 |s::l,k,k',h=>by
  rw[freshE,freshE]
  split
  ·rfl
  ·by_cases h1:s∈k
   ·rw[if_pos h1,if_pos ((h s).1 h1)]
   ·rw[if_neg h1,if_neg fun h2=>h1 ((h s).2 h2)]
    exact freshE_congr l _ _ fun x=>by simp only[List.mem_cons,h x]
theorem mem_shift {A:Type} {x a:A} {k p:List A}:x∈a::(k++p) ↔ x∈k++(p++[a]):=by
 rw[←List.append_assoc,List.mem_cons,List.mem_append (t:=[a]),List.mem_singleton,or_comm]
def PostF (known l:List Nm) (r:LRes) (H:Heap):Prop:=H=[]∧∃ nm,(freshE known l=0→r=.ret (.tuple [.list ((known++l).map str),.agg [str nm,int .i64 0]]))∧(freshE known l≠0→r=.ret (.tuple [.list [],.agg [str nm,int .i64 (freshE known l)]]))
attribute [local irreducible] LOps LCode LStep LCalls Go.GL.Pure QThen QBlock RetPost LQ LAny LLate LLateOp LS
section
variable {B0:Nat} {w0:World}
theorem has_spec (l:List Nm) (s:Nm) (hl:l.length≤1000000000):LCalls (KC B0 w0) 82 [.list (l.map str),str s] [] (Ret (bool (decide (s∈l)))):=by
 refine cI Tryz.func82 rfl (n:=17) rfl rfl rfl ?_
 refine gab ?_
 refine oL (fun k ls H'=>∃ pre l1,l=pre++l1∧k=l1.length∧ls=[(1,str s),(7,.list (l.map str)),(8,int .i64 ((l.map str).length:Int)),(9,int .i64 (pre.length:Int))]∧H'=[]∧s ∉ pre)
  ⟨_,_,_,⟨[],l,rfl,rfl,rfl,rfl,List.not_mem_nil⟩,⟨rfl,rfl,rfl,rfl,trivial⟩,HSub.refl _⟩ ?_
 rintro k ls H' ⟨pre,l1,hL,rfl,rfl,rfl,hn⟩ j hj
 have hb:=pre_le hL hl
 refine gag ?_
 refine oC rfl (fun hc=>?_) (fun hc=>?_)
 ·obtain ⟨a,l2,rfl⟩:=more hL hc
  refine gai ?_
  refine oP (xR (el':=str a) (cs:=[_]) rfl rfl zo (by rw[hL];exact get_mid str pre a l2) rfl rfl) rfl ?_
  refine gaa ?_
  refine oC rfl (fun hd=>?_) (fun hd=>?_)
  ·have he:a=s:=zt hd
   refine gab ?_
   exact retRet hj (zra rfl) (bool_eq (decide_eq_true (by rw[hL,he];simp)).symm)
  ·have he:¬ a=s:=zf hd
   refine gav ?_
   exact ⟨l2.length,_,_,Nat.lt_succ_self _,⟨pre++[a],l2,snoc hL,rfl,rfl,rfl,mem_snoc hn fun h=>he h.symm⟩,⟨rfl,rfl,rfl,int_eq (by simp),trivial⟩,HSub.refl _,hj⟩
 ·obtain rfl:=none_left hL hc
  refine gab ?_
  exact retRet hj (zra rfl) (bool_eq (decide_eq_false (by rw[hL,List.append_nil];exact hn)).symm)
theorem Name_spec (s:Nm):LCalls (KC B0 w0) 81 [str s] [] (Ret (int .i64 (b01 (isNm s)))):=by
 refine cI Tryz.func81 rfl (n:=68) rfl rfl rfl ?_
 refine gaj ?_
 refine oS (S.lit (es:=kwL.map str) [_,_,_,_,_,_,_,_,_,_] rfl (by
  intro v hv
  obtain ⟨x,_,rfl⟩:=List.mem_map.1 hv
  exact ⟨rfl,rfl⟩) rfl rfl rfl ?_) rfl
 refine gad ?_
 refine oL (fun k ls H'=>∃ pre l1,kwL=pre++l1∧k=l1.length∧ls=[(0,str s),(6,.list (kwL.map str)),(7,int .i64 ((kwL.map str).length:Int)),(8,int .i64 (pre.length:Int))]∧H'=[]∧s ∉ pre)
  ⟨_,_,_,⟨[],kwL,rfl,rfl,rfl,rfl,List.not_mem_nil⟩,⟨rfl,rfl,rfl,rfl,trivial⟩,HSub.refl _⟩ ?_
 rintro k ls H' ⟨pre,l1,hL,rfl,rfl,rfl,hn⟩ j hj
 have hb:=pre_le hL (show kwL.length≤10 by decide)
 have retF:∀ (h:isNm s=false) {e:Env} {C:Ctx} {n:Nat},e.ds=[]→e.s 2=int .i64 0→RetPost C n [ResultVar.tmp 2] (Ret (int .i64 (b01 (isNm s)))) .ret e []:=fun h {e C n} hd he=>by
  rw[h]
  exact retRet hd (rC (rT he zsr) rN) rfl
 refine gag ?_
 refine oC rfl (fun hc=>?_) (fun hc=>?_)
 ·obtain ⟨a,l2,rfl⟩:=more hL hc
  refine gai ?_
  refine oP (xR (el':=str a) (cs:=[_]) rfl rfl zo (by rw[hL];exact get_mid str pre a l2) rfl rfl) rfl ?_
  refine gaa ?_
  refine oC rfl (fun hd=>?_) (fun hd=>?_)
  ·have he:s=a:=zt hd
   refine gab ?_
   exact retF (nm_kw (by rw[hL,he];simp)) hj rfl
  ·have he:¬ s=a:=zf hd
   refine gav ?_
   exact ⟨l2.length,_,_,Nat.lt_succ_self _,⟨pre++[a],l2,snoc hL,rfl,rfl,rfl,mem_snoc hn he⟩,⟨rfl,rfl,rfl,int_eq (by simp),trivial⟩,HSub.refl _,hj⟩
 obtain rfl:=none_left hL hc
 rw[List.append_nil] at hL
 rw[←hL] at hn
 clear hL hb hc
 refine gaa ?_
 refine oB 19 rfl (fun h1=>?_) (fun h1=>?_)
 ·have h0:s=[]:=by
   have:=zt h1
   exact List.length_eq_zero_iff.1 zo
  refine gad ?_
  refine oC rfl (fun _=>?_) (fun hc=>by cases hc)
  refine gar ?_
  exact retF (nm_bad (.inl h0)) hj rfl
 obtain ⟨c,r,rfl⟩:∃ c r,s=c::r:=by
  cases s with
  |nil=>exact absurd rfl (zf h1)
  |cons c r=>exact ⟨c,r,rfl⟩
 refine gac ?_
 refine oB 24 rfl (fun h2=>?_) (fun h2=>?_)
 ·have:=zt h2
  refine gad ?_
  refine oC rfl (fun _=>?_) (fun hc=>by cases hc)
  refine gar ?_
  exact retF (nm_bad (.inr zo)) hj rfl
 have hl:(c::r).length≤24:=by
  have:=zf h2
  omega
 have heq:=nm_eq hn hl
 have hcvc:cv c=(c.toNat:Int):=rfl
 refine gas ?_
 refine oP (Pure.sindex (c:=c) rfl rfl zo rfl) rfl ?_
 refine gad ?_
 refine oB 29 rfl (fun h3=>?_) (fun h3=>?_)
 ·have h4:isLetter c=false:=by
   have:=zt h3
   unfold isLetter
   rw[decide_eq_false zo,Bool.false_and]
  refine gad ?_
  refine oC rfl (fun _=>?_) (fun hc=>by cases hc)
  refine gar ?_
  exact retF (by rw[heq,h4,Bool.false_and]) hj rfl
 refine gas ?_
 refine oP (Pure.sindex (c:=c) rfl rfl zo rfl) rfl ?_
 refine gac ?_
 refine oC rfl (fun h5=>?_) (fun h5=>?_)
 ·have h4:isLetter c=false:=by
   have:=zt h5
   unfold isLetter
   rw[Bool.and_eq_false_iff]
   exact .inr (decide_eq_false zo)
  refine gar ?_
  exact retF (by rw[heq,h4,Bool.false_and]) hj rfl
 have h4:isLetter c=true:=by
  have g1:=zf h3
  have g2:=zf h5
  unfold isLetter
  rw[decide_eq_true zo,decide_eq_true zo]
  rfl
 rw[h4,Bool.true_and] at heq
 refine gab ?_
 refine oL (fun k ls H'=>∃ pre l1,c::r=pre++l1∧1≤pre.length∧k=l1.length∧ls=[(0,str (c::r)),(5,int .i64 (pre.length:Int))]∧H'=[]∧isNm (c::r)=l1.all isInner)
  ⟨_,_,_,⟨[c],r,rfl,Nat.le_refl _,rfl,rfl,rfl,heq⟩,⟨rfl,rfl,trivial⟩,HSub.refl _⟩ ?_
 rintro k ls H' ⟨pre,l1,hL,hp1,rfl,rfl,rfl,hI⟩ j2 hj2
 have hb:=pre_le hL hl
 refine gaa ?_
 refine oC rfl (fun hc=>?_) (fun hc=>?_)
 rotate_left
 ·have hlen:=zf hc
  rw[hL,List.length_append] at hlen
  obtain rfl:l1=[]:=by
   cases l1 with
   |nil=>rfl
   |cons a l2=>simp at hlen;omega
  refine gab ?_
  exact retRet (hj2.trans hj) (zra rfl) (by rw[hI];rfl)
 have hlen:=zt hc
 rw[hL,List.length_append] at hlen
 obtain ⟨a,l2,rfl⟩:∃ a l2,l1=a::l2:=by
  cases l1 with
  |nil=>simp at hlen
  |cons a l2=>exact ⟨a,l2,rfl⟩
 have hget:(c::r)[((pre.length:Nat):Int).toNat]? = some a:=by
  rw[Int.toNat_natCast,hL,List.getElem?_append_right (Nat.le_refl _),Nat.sub_self]
  rfl
 have hcva:cv a=(a.toNat:Int):=rfl
 have nl:∀ {b1 b2 b3:Bool},isLetter a=false→b1=decide (48≤cv a)→b2=decide (cv a≤57)→b3=decide (cv a=95)→isInner a=((b1 && b2) || b3):=fun h h1 h2 h3=>by
  unfold isInner
  rw[h,h1,h2,h3]
  first|rfl|simp[isDigit]
 refine gab ?_
 refine LOps.cut [(0,str (c::r)),(5,int .i64 (pre.length:Int)),(67,bool (!isInner a))] ?_ (fun j3 hj3=>?_)
 ·refine oP (Pure.sindex (c:=a) rfl rfl zo hget) rfl ?_
  refine gad ?_
  refine oB 44 rfl (fun h6=>?_) (fun h6=>?_)
  ·have hlet:isLetter a=false:=by have:=zt h6;unfold isLetter;rw[decide_eq_false zo];rfl
   refine gad ?_
   refine oP (Pure.sindex (c:=a) rfl rfl zo hget) rfl ?_
   refine gad ?_
   refine oB 55 rfl (fun h8=>?_) (fun h8=>?_)
   ·refine gad ?_
    refine oP (Pure.sindex (c:=a) rfl rfl zo hget) rfl ?_
    refine gac ?_
    exact ⟨⟨rfl,rfl,bool_eq (by
     have:=zt h8
     rw[nl hlet (decide_eq_false (show ¬ 48≤cv a by omega)).symm rfl rfl]
     simp),trivial⟩,rfl,rfl⟩
   have g8:=zf h8
   refine gas ?_
   refine oP (Pure.sindex (c:=a) rfl rfl zo hget) rfl ?_
   refine gac ?_
   refine oB 62 rfl (fun h9=>?_) (fun h9=>?_)
   ·refine gas ?_
    refine oP (Pure.sindex (c:=a) rfl rfl zo hget) rfl ?_
    refine gac ?_
    exact ⟨⟨rfl,rfl,bool_eq (by
     have:=zt h9
     rw[nl hlet rfl (decide_eq_false (show ¬ cv a≤57 by omega)).symm rfl]
     simp),trivial⟩,rfl,rfl⟩
   ·refine gae ?_
    exact ⟨⟨rfl,rfl,bool_eq (by
     have:=zf h9
     rw[nl hlet (decide_eq_true (show 48≤cv a by omega)).symm (decide_eq_true (show cv a≤57 by omega)).symm rfl]
     rfl),trivial⟩,rfl,rfl⟩
  have g6:=zf h6
  refine gas ?_
  refine oP (Pure.sindex (c:=a) rfl rfl zo hget) rfl ?_
  refine gac ?_
  refine oB 50 rfl (fun h7=>?_) (fun h7=>?_)
  ·have hlet:isLetter a=false:=by have:=zt h7;unfold isLetter;rw[decide_eq_false (show ¬ cv a≤122 by omega),Bool.and_false]
   refine gas ?_
   refine oP (Pure.sindex (c:=a) rfl rfl zo hget) rfl ?_
   refine gad ?_
   refine oB 55 rfl (fun h8=>?_) (fun h8=>?_)
   ·refine gad ?_
    refine oP (Pure.sindex (c:=a) rfl rfl zo hget) rfl ?_
    refine gac ?_
    exact ⟨⟨rfl,rfl,bool_eq (by
     have:=zt h8
     rw[nl hlet (decide_eq_false (show ¬ 48≤cv a by omega)).symm rfl rfl]
     simp),trivial⟩,rfl,rfl⟩
   have g8:=zf h8
   refine gas ?_
   refine oP (Pure.sindex (c:=a) rfl rfl zo hget) rfl ?_
   refine gac ?_
   refine oB 62 rfl (fun h9=>?_) (fun h9=>?_)
   ·refine gas ?_
    refine oP (Pure.sindex (c:=a) rfl rfl zo hget) rfl ?_
    refine gac ?_
    exact ⟨⟨rfl,rfl,bool_eq (by
     have:=zt h9
     rw[nl hlet rfl (decide_eq_false (show ¬ cv a≤57 by omega)).symm rfl]
     simp),trivial⟩,rfl,rfl⟩
   ·refine gae ?_
    exact ⟨⟨rfl,rfl,bool_eq (by
     have:=zf h9
     rw[nl hlet (decide_eq_true (show 48≤cv a by omega)).symm (decide_eq_true (show cv a≤57 by omega)).symm rfl]
     rfl),trivial⟩,rfl,rfl⟩
  have g7:=zf h7
  have hlet:isLetter a=true:=by unfold isLetter;rw[decide_eq_true (show 97≤cv a by omega),decide_eq_true (show cv a≤122 by omega)];rfl
  refine gac ?_
  exact ⟨⟨rfl,rfl,bool_eq (by unfold isInner;rw[hlet];rfl),trivial⟩,rfl,rfl⟩
 refine oC rfl (fun h10=>?_) (fun h10=>?_)
 ·have hin:isInner a=false:=by simpa using h10
  refine gab ?_
  exact retF (by rw[hI,List.all_cons,hin,Bool.false_and]) (hj3.trans (hj2.trans hj)) rfl
 ·have hin:isInner a=true:=by simpa using h10
  refine gab ?_
  exact ⟨l2.length,_,_,Nat.lt_succ_self _,⟨pre++[a],l2,snoc hL,by simp,rfl,rfl,rfl,by rw[hI,List.all_cons,hin,Bool.true_and]⟩,⟨rfl,int_eq (by simp),trivial⟩,HSub.refl _,hj3.trans hj2⟩
theorem fresh_spec (known l:List Nm) (hk:known.length≤100000000) (hl:l.length≤100000000):LCalls (KC B0 w0) 35 [.list (known.map str),.list (l.map str)] [] (PostF known l):=by
 refine cI Tryz.func35 rfl (n:=33) rfl rfl rfl ?_
 refine gaj ?_
 refine oS (S.alloc fun b5=>?_) rfl
 refine gab ?_
 refine oL (fun k ls H'=>∃ pre l1,l=pre++l1∧k=l1.length∧ls=[(0,.list ((known++pre).map str)),(5,ptr b5 0),(8,.list (l.map str)),(9,int .i64 ((l.map str).length:Int)),(10,int .i64 (pre.length:Int))]∧H'=[(b5,.cells 79 [str [],int .i64 0])]∧freshE known l=freshE (known++pre) l1)
  ⟨_,_,_,⟨[],l,rfl,rfl,rfl,rfl,by rw[List.append_nil]⟩,⟨by rw[List.append_nil];rfl,rfl,rfl,rfl,rfl,trivial⟩,HSub.refl _⟩ ?_
 rintro k ls H' ⟨pre,l1,hL,rfl,rfl,rfl,hI⟩ j hj
 have hb:=pre_le hL hl
 refine gag ?_
 refine oC rfl (fun hc=>?_) (fun hc=>?_)
 rotate_left
 ·obtain rfl:=none_left hL hc
  rw[List.append_nil] at hL
  subst hL
  refine gaa ?_
  refine rR hj (rC (rT (v:=.list ((known++l).map str)) rfl zsr) (rC (rA (k:=2) rfl zm0 rfl zsr) rN)) zhn ⟨rfl,[],fun _=>rfl,fun h=>absurd (hI.trans rfl) h⟩
 obtain ⟨a,l2,rfl⟩:=more hL hc
 rw[freshE] at hI
 refine gai ?_
 refine oP (xR (el':=str a) (cs:=[_]) rfl rfl zo (by rw[hL];exact get_mid str pre a l2) rfl rfl) rfl ?_
 refine gaa ?_
 refine oS (S.fn [_] rfl (Name_spec a) ?_) rfl
 refine gad ?_
 refine oC rfl (fun h1=>?_) (fun h1=>?_)
 ·have hn:isNm a=false:=by
   cases h:isNm a with
   |false=>rfl
   |true=>rw[h] at h1;cases h1
  rw[if_pos hn] at hI
  refine gaa ?_
  refine rR hj (rC (rT (v:=nilSlice) rfl LV.Sub.nil) (rC (rA (k:=2) rfl zm0 rfl zsr) rN)) zhn ⟨rfl,a,fun h=>(by rw[hI] at h;cases h),fun _=>by rw[hI];rfl⟩
 have hn:isNm a=true:=by
  cases h:isNm a with
  |true=>rfl
  |false=>rw[h] at h1;cases h1
 rw[if_neg (by rw[hn];decide)] at hI
 refine gab ?_
 refine oS (S.fn [_,_] rfl (has_spec (known++pre) a (by rw[List.length_append];omega)) ?_) rfl
 refine gap ?_
 refine oC rfl (fun h2=>?_) (fun h2=>?_)
 ·have hm:a∈known++pre:=zt h2
  rw[if_pos hm] at hI
  refine gaa ?_
  refine rR hj (rC (rT (v:=nilSlice) rfl LV.Sub.nil) (rC (rA (k:=2) rfl zm0 rfl zsr) rN)) zhn ⟨rfl,a,fun h=>(by rw[hI] at h;cases h),fun _=>by rw[hI];rfl⟩
 have hm:a ∉ known++pre:=zf h2
 rw[if_neg hm] at hI
 refine gai ?_
 refine oS (S.litA (es:=[]) [] rfl eN rfl rfl rfl fun b6=>?_) rfl
 refine gad ?_
 refine oS (S.accF (A:=[_]) (H1:=[(b6,.row 0)]) zpr rfl Acc.row rfl (strs_len _) (strs_ok _) (by simp;omega) fun v2 H2 h2=>?_) rfl
 refine gaw ?_
 refine oS (S.lit (es:=[a].map str) [_] rfl (eC rfl rfl eN) rfl rfl rfl ?_) rfl
 refine oS (S.accF (A:=[_]) (H1:=H2) (List.perm_append_comm (l₁:=[_])) rfl h2 rfl (strs_len _) (strs_ok _) (by simp;omega) fun v3 H3 h3=>?_) rfl
 refine LOps.sub 29 rfl h3.sub ?_
 refine LOps.weak (H':=[(b5,.cells 79 [str [],int .i64 0])]) zhp ?_
 refine gaa ?_
 exact ⟨l2.length,_,_,Nat.lt_succ_self _,⟨pre++[a],l2,snoc hL,rfl,rfl,rfl,by
  rw[hI]
  exact freshE_congr _ _ _ fun x=>mem_shift⟩,⟨(by show LV.list ([]++(known++pre).map str++[a].map str)=_;simp),rfl,rfl,rfl,int_eq (by simp),trivial⟩,HSub.refl _,hj⟩
end
end Go.Proofs.YtpbbgkoalnonoaaGreatDoor.RC
namespace Go.Proofs.YtpbbgkoalnonoaaGreatDoor.RC
open Go.GL Go.RowKit Go.Stele
set_option maxRecDepth 100000
set_option maxHeartbeats 4000000
def scV (own:Nm) (c:CEnv) (fs:List FnD):LV:=.agg [str own,.list (c.own.map str),.list (c.vars.map str),.list (c.arrays.map str),.list (fs.map encFn),.list (c.later.map str)]
structure ScOk (c:CEnv) (fs:List FnD):Prop where
 fns:c.funcs.map (fun s=>(s.name,s.params))=fs.map (fun f=>(f.name,f.params.length))
 own:c.own.length≤1000000000
 vars:c.vars.length≤1000000000
 arrays:c.arrays.length≤1000000000
 later:c.later.length≤1000000000
 funs:fs.length≤1000000000
 pars:∀ f∈fs,f.params.length≤1000000000
def PostB (e:Int) (r:LRes) (H:Heap):Prop:=H=[]∧∃ nm,r=.ret (.agg [str nm,int .i64 e])
def FnIx (c:CEnv) (fs:List FnD) (name:Nm) (i:Int):Prop:=(∃ s pre f post,c.fn name=some s∧fs=pre++f::post∧i=(pre.length:Int)∧s.params=f.params.length)∨(c.fn name=none∧i = -1)
section
variable {C:Ctx} {n:Nat} {e:Env} {H:Heap} {dst:Option Nat} {ty:TypeId} {pos:String} {aft:Array Edge} {g:Option (Nat×Bool)} {K:LV→Heap→Prop} {X:List PanicEntry→Heap→Prop}
theorem S.pb {f:FuncId} [TEnter C.P f] (args:List Operand) {ats:Array TypeId} {avs:List LV} {er:Int} (has:args.map e.ev=avs) (hc:LCalls C f avs [] (PostB er)) (hk:∀ nm,K (.agg [str nm,int .i64 er]) H) :
  LStep C ⟨dst,.call { callee:=.value (.func f),args:=args.toArray,argTypes:=ats },ty,pos,aft,g⟩ e H K X:=
 S.callH (H1:=[]) args has zpr hc (by rintro v H' ⟨rfl,nm,h⟩;cases h;exact hk nm) (by rintro ch H' ⟨_,nm,h⟩;cases h)
theorem retB {rs:List ResultVar} {vs:List LV} {nm:Nm} {er:Int} (hd:e.ds=[]) (h:AllRes C n e H rs vs) (hv:resLV vs=.agg [str nm,int .i64 er]):RetPost C n rs (PostB er) .ret e H:=
 rR hd h zhn ⟨rfl,nm,by rw[hv]⟩
end
attribute [local irreducible] LOps LCode LStep LCalls Go.GL.Pure QThen QBlock RetPost LQ LAny LLate LLateOp LS
section
variable {B0:Nat} {w0:World}
theorem Binary_spec (op:Nm):LCalls (KC B0 w0) 213 [str op] [] (Ret (int .i64 (b01 (decide (op∈binOps))))):=by
 refine cI Tryz.func213 rfl (n:=6) rfl rfl rfl ?_
 refine gaj ?_
 refine oS (S.lit (es:=binOps.map str) [_,_,_,_,_,_,_,_,_,_,_,_,_,_] rfl (by
  intro v hv
  obtain ⟨x,_,rfl⟩:=List.mem_map.1 hv
  exact ⟨rfl,rfl⟩) rfl rfl rfl ?_) rfl
 refine gaw ?_
 refine oS (S.fn [_,_] rfl (has_spec binOps op (by decide)) ?_) rfl
 refine gap ?_
 refine oC rfl (fun hc=>?_) (fun hc=>?_)
 ·refine gar ?_
  exact retRet rfl (zra rfl) (by rw[show decide (op∈binOps)=true from hc];rfl)
 ·refine gab ?_
  exact retRet rfl (zra rfl) (by rw[show decide (op∈binOps)=false from hc];rfl)
theorem shape_spec (x:Ex):LCalls (KC B0 w0) 141 [encE x] [] (Ret (bool (decide (opnds (exOp x) = -1∨opnds (exOp x)=((exArgs x).length:Int))))):=by
 obtain ⟨op,num,name,args⟩:=x
 have hlen:((args.map encE).length:Int)=(args.length:Int):=by rw[List.length_map]
 rw[encE_mk]
 show LCalls _ _ _ _ (Ret (bool (decide (opnds op = -1∨opnds op=(args.length:Int)))))
 generalize hI:decide (opnds op = -1∨opnds op=(args.length:Int))=R
 refine cI Tryz.func141 rfl (n:=32) rfl rfl rfl ?_
 refine gah ?_
 refine oS (S.box rfl fun b1=>?_) rfl
 refine gab ?_
 by_cases h1:op=[110,117,109]
 ·subst h1
  refine oC rfl (fun _=>?_) (fun hc=>by cases hc)
  refine gau ?_
  refine oC rfl (fun _=>?_) (fun hc=>by cases hc)
  refine gab ?_
  exact retRet rfl (zra rfl) (bool_eq (by rw[←hI,hlen];exact decide_eq_decide.2 (by rw[show opnds [110,117,109]=0 from rfl];omega)))
 refine oC rfl (fun hc=>absurd (zt hc) h1) (fun _=>?_)
 refine gaj ?_
 by_cases h2:op=[118,97,114]
 ·subst h2
  refine oC rfl (fun _=>?_) (fun hc=>by cases hc)
  refine gab ?_
  exact retRet rfl (zra rfl) (bool_eq (by rw[←hI,hlen];exact decide_eq_decide.2 (by rw[show opnds [118,97,114]=0 from rfl];omega)))
 refine oC rfl (fun hc=>absurd (zt hc) h2) (fun _=>?_)
 refine gaj ?_
 by_cases h3:op=[101,108,101,109]
 ·subst h3
  refine oC rfl (fun _=>?_) (fun hc=>by cases hc)
  refine gau ?_
  refine oC rfl (fun _=>?_) (fun hc=>by cases hc)
  refine gab ?_
  exact retRet rfl (zra rfl) (bool_eq (by rw[←hI,hlen];exact decide_eq_decide.2 (by rw[show opnds [101,108,101,109]=1 from rfl];omega)))
 refine oC rfl (fun hc=>absurd (zt hc) h3) (fun _=>?_)
 refine gaj ?_
 by_cases h4:op=[110,101,103]
 ·subst h4
  refine oC rfl (fun _=>?_) (fun hc=>by cases hc)
  refine gau ?_
  refine oC rfl (fun _=>?_) (fun hc=>by cases hc)
  refine gab ?_
  exact retRet rfl (zra rfl) (bool_eq (by rw[←hI,hlen];exact decide_eq_decide.2 (by rw[show opnds [110,101,103]=1 from rfl];omega)))
 refine oC rfl (fun hc=>absurd (zt hc) h4) (fun _=>?_)
 refine gaj ?_
 by_cases h5:op=[110,111,116]
 ·subst h5
  refine oC rfl (fun _=>?_) (fun hc=>by cases hc)
  refine gab ?_
  exact retRet rfl (zra rfl) (bool_eq (by rw[←hI,hlen];exact decide_eq_decide.2 (by rw[show opnds [110,111,116]=1 from rfl];omega)))
 refine oC rfl (fun hc=>absurd (zt hc) h5) (fun _=>?_)
 refine gaj ?_
 by_cases h6:op=[99,97,108,108]
 ·subst h6
  refine oC rfl (fun _=>?_) (fun hc=>by cases hc)
  refine gab ?_
  exact retRet rfl (zra rfl) (bool_eq (by rw[←hI];exact (decide_eq_true (.inl rfl)).symm))
 refine oC rfl (fun hc=>absurd (zt hc) h6) (fun _=>?_)
 refine gab ?_
 refine oS (S.fn [_] rfl (Binary_spec op) ?_) rfl
 have ho:opnds op=if op∈binOps then 2 else -2:=by
  unfold opnds
  rw[if_neg (fun h=>h.elim h1 h2),if_neg (fun h=>h.elim h3 (fun h=>h.elim h4 h5)),if_neg (show ¬ op=nCall from h6)]
 by_cases h7:op∈binOps
 ·rw[if_pos h7] at ho
  rw[decide_eq_true h7]
  refine gad ?_
  exact retRet rfl (zra rfl) (bool_eq (by rw[←hI,hlen];exact decide_eq_decide.2 (by rw[ho];omega)))
 ·rw[if_neg h7] at ho
  rw[decide_eq_false h7]
  refine gad ?_
  exact retRet rfl (zra rfl) (bool_eq (by rw[←hI];exact (decide_eq_false (by rw[ho];omega)).symm))
theorem fn_cons {c:CEnv} {name:Nm} {s:FSum} {l:List FSum}:(s::l).find? (fun f=>decide (f.name=name))=if s.name=name then some s else l.find? (fun f=>decide (f.name=name)):=by
 rw[List.find?_cons]
 by_cases h:s.name=name
 ·rw[decide_eq_true h,if_pos h]
 ·rw[decide_eq_false h,if_neg h]
theorem function_spec {own:Nm} {c:CEnv} {fs:List FnD} (h:ScOk c fs) (name:Nm):LCalls (KC B0 w0) 214 [scV own c fs,str name] [] (RetIf fun v=>∃ i,v=int .i64 i∧FnIx c fs name i):=by
 unfold scV
 refine cI Tryz.func214 rfl (n:=21) rfl rfl rfl ?_
 refine gah ?_
 refine oS (S.box rfl fun b2=>?_) rfl
 refine gab ?_
 refine oL (fun k ls H'=>∃ (pre l1:List FnD) (cl:List FSum),fs=pre++l1∧k=l1.length∧ls=[(1,str name),(8,.list (fs.map encFn)),(9,int .i64 ((fs.map encFn).length:Int)),(10,int .i64 (pre.length:Int))]∧H'=[]∧cl.map (fun s=>(s.name,s.params))=l1.map (fun f=>(f.name,f.params.length))∧c.fn name=cl.find? (fun f=>decide (f.name=name)))
  ⟨_,_,_,⟨[],fs,c.funcs,rfl,rfl,rfl,rfl,h.fns,rfl⟩,⟨rfl,rfl,rfl,rfl,trivial⟩,HSub.nil _⟩ ?_
 rintro k ls H' ⟨pre,l1,cl,hL,rfl,rfl,rfl,hcl,hI⟩ j hj
 have hb:=pre_le hL h.funs
 refine gag ?_
 refine oC rfl (fun hc=>?_) (fun hc=>?_)
 ·obtain ⟨a,l2,rfl⟩:=more hL hc
  obtain ⟨s,cl,rfl⟩:∃ s l,cl=s::l:=by
   cases cl with
   |nil=>simp at hcl
   |cons s l=>exact ⟨s,l,rfl⟩
  rw[List.map_cons,List.map_cons] at hcl
  injection hcl with hs hcl
  injection hs with hs1 hs2
  rw[fn_cons (c:=c)] at hI
  refine gab ?_
  refine oP (xR (el':=encFn a) (cs:=[_,_,_,_]) rfl rfl zo (by rw[hL];exact get_mid encFn pre a l2) rfl rfl) rfl ?_
  refine gao ?_
  refine oS (S.alloc fun b6=>?_) rfl
  refine gaa ?_
  refine oC rfl (fun hd=>?_) (fun hd=>?_)
  ·have he:a.name=name:=zt hd
   rw[if_pos (hs1.trans he)] at hI
   refine gab ?_
   exact retRetIf hj (zra rfl) ⟨_,rfl,.inl ⟨s,pre,a,l2,hI,hL,rfl,hs2⟩⟩
  ·have he:¬ a.name=name:=zf hd
   rw[if_neg (fun g=>he (hs1.symm.trans g))] at hI
   refine gav ?_
   exact ⟨l2.length,_,_,Nat.lt_succ_self _,⟨pre++[a],l2,cl,snoc hL,rfl,rfl,rfl,hcl,hI⟩,⟨rfl,rfl,rfl,int_eq (by simp),trivial⟩,HSub.nil _,hj⟩
 ·obtain rfl:=none_left hL hc
  have hcl0:cl=[]:=by
   cases cl with
   |nil=>rfl
   |cons s l=>simp at hcl
  subst hcl0
  refine gab ?_
  exact retRetIf hj (zra rfl) ⟨_,rfl,.inr ⟨hI,rfl⟩⟩
theorem scalar_spec {own:Nm} {c:CEnv} {fs:List FnD} (h:ScOk c fs) (name:Nm):LCalls (KC B0 w0) 85 [scV own c fs,str name] [] (PostB (scalarE c name)):=by
 unfold scV
 generalize hI:scalarE c name=R
 unfold scalarE CEnv.globals at hI
 refine cI Tryz.func85 rfl (n:=30) rfl rfl rfl ?_
 refine gah ?_
 refine oS (S.box rfl fun b2=>?_) rfl
 refine oS (S.alloc fun b4=>?_) rfl
 refine gaa ?_
 refine oS (S.fn [_,_] rfl (has_spec c.own name h.own) ?_) rfl
 refine gaw ?_
 by_cases h1:name∈c.own
 ·rw[if_pos (.inr h1)] at hI
  refine oB 9 rfl (fun _=>?_) (fun g=>absurd h1 (zf g))
  refine gad ?_
  refine oC rfl (fun _=>?_) (fun hc=>by cases hc)
  refine gaa ?_
  exact retB (nm:=[]) rfl (rC (rA rfl zm0 rfl zsr) rN) (by rw[←hI];rfl)
 refine oB 9 rfl (fun g=>absurd (zt g) h1) (fun _=>?_)
 refine gac ?_
 refine oS (S.fn [_,_] rfl (has_spec c.vars name h.vars) ?_) rfl
 refine gae ?_
 refine oC rfl (fun h2=>?_) (fun h2=>?_)
 ·rw[if_pos (.inl (zt h2))] at hI
  refine gaa ?_
  exact retB (nm:=[]) rfl (rC (rA rfl zm0 rfl zsr) rN) (by rw[←hI];rfl)
 have h2':name ∉ c.vars:=zf h2
 rw[if_neg (fun g=>g.elim h2' h1)] at hI
 simp only[List.mem_append,h2',false_or] at hI
 refine gaa ?_
 refine oS (S.fn [_,_] rfl (has_spec c.arrays name h.arrays) ?_) rfl
 refine gaw ?_
 by_cases h3:name∈c.arrays
 ·rw[if_pos (.inl h3)] at hI
  refine oB 20 rfl (fun _=>?_) (fun g=>absurd h3 (zf g))
  refine gad ?_
  refine oC rfl (fun _=>?_) (fun hc=>by cases hc)
  refine gaa ?_
  exact retB (nm:=name) rfl (rC (rA rfl zm0 rfl zsr) rN) (by rw[←hI];rfl)
 refine oB 20 rfl (fun g=>absurd (zt g) h3) (fun _=>?_)
 refine gac ?_
 refine oS (S.fn [_,_] rfl (has_spec c.later name h.later) ?_) rfl
 refine gae ?_
 refine oC rfl (fun h4=>?_) (fun h4=>?_)
 ·rw[if_pos (.inr (zt h4))] at hI
  refine gaa ?_
  exact retB (nm:=name) rfl (rC (rA rfl zm0 rfl zsr) rN) (by rw[←hI];rfl)
 ·rw[if_neg (fun g=>g.elim h3 (zf h4))] at hI
  refine gaa ?_
  exact retB (nm:=name) rfl (rC (rA rfl zm0 rfl zsr) rN) (by rw[←hI];rfl)
theorem indexed_spec {own:Nm} {c:CEnv} {fs:List FnD} (h:ScOk c fs) (name:Nm):LCalls (KC B0 w0) 86 [scV own c fs,str name] [] (PostB (arrayE c name)):=by
 unfold scV
 generalize hI:arrayE c name=R
 unfold arrayE CEnv.globals at hI
 refine cI Tryz.func86 rfl (n:=30) rfl rfl rfl ?_
 refine gah ?_
 refine oS (S.box rfl fun b2=>?_) rfl
 refine oS (S.alloc fun b4=>?_) rfl
 refine gaa ?_
 refine oS (S.fn [_,_] rfl (has_spec c.arrays name h.arrays) ?_) rfl
 refine gap ?_
 refine oC rfl (fun h1=>?_) (fun h1=>?_)
 ·rw[if_pos (zt h1)] at hI
  refine gaa ?_
  exact retB (nm:=[]) rfl (rC (rA rfl zm0 rfl zsr) rN) (by rw[←hI];rfl)
 have h1':name ∉ c.arrays:=zf h1
 rw[if_neg h1'] at hI
 simp only[List.mem_append,h1',or_false] at hI
 refine gaa ?_
 refine oS (S.fn [_,_] rfl (has_spec c.own name h.own) ?_) rfl
 refine gaw ?_
 by_cases h2:name∈c.own
 ·rw[if_pos (.inr h2)] at hI
  refine oB 14 rfl (fun _=>?_) (fun g=>absurd h2 (zf g))
  refine gad ?_
  refine oC rfl (fun _=>?_) (fun hc=>by cases hc)
  refine gaa ?_
  exact retB (nm:=name) rfl (rC (rA rfl zm0 rfl zsr) rN) (by rw[←hI];rfl)
 refine oB 14 rfl (fun g=>absurd (zt g) h2) (fun _=>?_)
 refine gac ?_
 refine oS (S.fn [_,_] rfl (has_spec c.vars name h.vars) ?_) rfl
 refine gae ?_
 by_cases h3:name∈c.vars
 ·rw[if_pos (.inl (.inl h3))] at hI
  refine oB 20 rfl (fun _=>?_) (fun g=>absurd h3 (zf g))
  refine gad ?_
  refine oC rfl (fun _=>?_) (fun hc=>by cases hc)
  refine gaa ?_
  exact retB (nm:=name) rfl (rC (rA rfl zm0 rfl zsr) rN) (by rw[←hI];rfl)
 refine oB 20 rfl (fun g=>absurd (zt g) h3) (fun _=>?_)
 refine gac ?_
 refine oS (S.fn [_,_] rfl (has_spec c.later name h.later) ?_) rfl
 refine gae ?_
 refine oC rfl (fun h4=>?_) (fun h4=>?_)
 ·rw[if_pos (.inl (.inr (zt h4)))] at hI
  refine gaa ?_
  exact retB (nm:=name) rfl (rC (rA rfl zm0 rfl zsr) rN) (by rw[←hI];rfl)
 ·rw[if_neg (fun g=>g.elim (fun g=>g.elim h3 (zf h4)) h2)] at hI
  refine gaa ?_
  exact retB (nm:=name) rfl (rC (rA rfl zm0 rfl zsr) rN) (by rw[←hI];rfl)
end
end Go.Proofs.YtpbbgkoalnonoaaGreatDoor.RC
namespace Go.Proofs.YtpbbgkoalnonoaaGreatDoor.RC
open Go.GL Go.RowKit Go.Stele
set_option maxRecDepth 100000
set_option maxHeartbeats 4000000
@[reducible] def scH (b:Nat) (own:Nm) (c:CEnv) (fs:List FnD):Nat×LObj:=(b,.cells 83 [str own,.list (c.own.map str),.list (c.vars.map str),.list (c.arrays.map str),.list (fs.map encFn),.list (c.later.map str)])
@[reducible] def exH (b:Nat) (op:Nm) (num:Nat) (name:Nm) (args:List Ex):Nat×LObj:=(b,.cells 104 [str op,int .u32 (num:Int),str name,.list (args.map encE)])
@[reducible] def pbH (b:Nat) (nm:Nm) (e:Int):Nat×LObj:=(b,.cells 79 [str nm,int .i64 e])
theorem ite_iff {p q:Prop} [Decidable p] [Decidable q] {a b:Int} (h:p ↔ q) (_:a=a) (_:b=b):(if p then a else b)=if q then a else b:=by
 by_cases hp:p
 ·rw[if_pos hp,if_pos (h.1 hp)]
 ·rw[if_neg hp,if_neg fun hq=>hp (h.2 hq)]
attribute [local irreducible] LOps LCode LStep LCalls Go.GL.Pure QThen QBlock RetPost LQ LAny LLate LLateOp LS
section
variable {B0:Nat} {w0:World}
theorem called_spec {own:Nm} {c:CEnv} {fs:List FnD} (h:ScOk c fs) (op:Nm) (num:Nat) (name:Nm) (args:List Ex):LCalls (KC B0 w0) 142 [scV own c fs,encE (.mk op num name args)] [] (PostB (callE c name args.length)):=by
 have hlen:((args.map encE).length:Int)=(args.length:Int):=by rw[List.length_map]
 have hfun:=function_spec (B0:=B0) (w0:=w0) (own:=own) h name
 rw[encE_mk]
 unfold scV at hfun ⊢
 generalize hI:callE c name args.length=R
 unfold callE at hI
 refine cI Tryz.func142 rfl (n:=64) rfl rfl rfl ?_
 refine gah ?_
 refine oS (S.box rfl fun b2=>?_) rfl
 refine oS (S.box rfl fun b3=>?_) rfl
 refine oS (S.alloc fun b4=>?_) rfl
 refine gaa ?_
 refine oS (S.fnIf [_,_] rfl hfun ?_) rfl
 rintro lv ⟨i,rfl,hix⟩
 refine gae ?_
 refine LCode.mid (A:=Int) (fun w=>[(2,ptr b2 0),(3,ptr b3 0),(4,ptr b4 0),(5,int .i64 w)]) (fun _=>[pbH b4 [] 0,exH b3 op num name args,scH b2 own c fs]) (fun w=>R=if (args.length:Int)=w then 0 else 1) ?_ ?_
 ·refine gaa ?_
  by_cases h1:name=[105,110]
  ·subst h1
   rw[if_pos rfl] at hI
   refine oC rfl (fun _=>?_) (fun hc=>by cases hc)
   refine gad ?_
   exact ⟨0,by rw[←hI];exact ite_iff zo rfl rfl,⟨rfl,rfl,rfl,rfl,trivial⟩,rfl,rfl⟩
  rw[if_neg h1] at hI
  refine oC rfl (fun hc=>absurd (zt hc) h1) (fun _=>?_)
  refine gaa ?_
  by_cases h2:name=[111,117,116]
  ·subst h2
   rw[if_pos rfl] at hI
   refine oC rfl (fun _=>?_) (fun hc=>by cases hc)
   refine gab ?_
   exact ⟨1,by rw[←hI];exact ite_iff zo rfl rfl,⟨rfl,rfl,rfl,rfl,trivial⟩,rfl,rfl⟩
  rw[if_neg h2] at hI
  refine oC rfl (fun hc=>absurd (zt hc) h2) (fun _=>?_)
  refine gaa ?_
  rcases hix with ⟨s,pre,f,post,hfn,hfs,rfl,hp⟩|⟨hfn,rfl⟩
  ·rw[hfn] at hI
   have hI':(if args.length=s.params then (0:Int) else 1)=R:=hI
   refine oC rfl (fun _=>?_) (fun hc=>by have:=zf hc;omega)
   refine gaa ?_
   refine oP (xR (el':=encFn f) (cs:=[_,_,_,_]) rfl rfl zo (by rw[hfs];exact get_mid encFn pre f post) rfl rfl) rfl ?_
   refine gac ?_
   exact ⟨((f.params.map str).length:Int),by rw[←hI',List.length_map,←hp];exact ite_iff zo rfl rfl,⟨rfl,rfl,rfl,rfl,trivial⟩,rfl,rfl⟩
  ·rw[hfn] at hI
   have hI':(if name∈c.vars∨name∈c.arrays∨name∈c.own then (10:Int) else 7)=R:=hI
   refine oC rfl (fun hc=>by cases hc) (fun _=>?_)
   refine gaa ?_
   refine oS (S.fn [_,_] rfl (has_spec c.own name h.own) ?_) rfl
   refine gaw ?_
   by_cases h3:name∈c.own
   ·rw[if_pos (.inr (.inr h3))] at hI'
    refine oB 38 rfl (fun _=>?_) (fun g=>absurd h3 (zf g))
    refine gad ?_
    refine oC rfl (fun _=>?_) (fun hc=>by cases hc)
    refine gaa ?_
    exact retB (nm:=name) rfl (rC (rA rfl zm0 rfl zsr) rN) (by rw[←hI'];rfl)
   refine oB 38 rfl (fun g=>absurd (zt g) h3) (fun _=>?_)
   refine gac ?_
   refine oS (S.fn [_,_] rfl (has_spec c.vars name h.vars) ?_) rfl
   refine gae ?_
   by_cases h4:name∈c.vars
   ·rw[if_pos (.inl h4)] at hI'
    refine oB 45 rfl (fun _=>?_) (fun g=>absurd h4 (zf g))
    refine gad ?_
    refine oC rfl (fun _=>?_) (fun hc=>by cases hc)
    refine gaa ?_
    exact retB (nm:=name) rfl (rC (rA rfl zm0 rfl zsr) rN) (by rw[←hI'];rfl)
   refine oB 45 rfl (fun g=>absurd (zt g) h4) (fun _=>?_)
   refine gac ?_
   refine oS (S.fn [_,_] rfl (has_spec c.arrays name h.arrays) ?_) rfl
   refine gae ?_
   refine oC rfl (fun h5=>?_) (fun h5=>?_)
   ·rw[if_pos (.inr (.inl (zt h5)))] at hI'
    refine gaa ?_
    exact retB (nm:=name) rfl (rC (rA rfl zm0 rfl zsr) rN) (by rw[←hI'];rfl)
   ·rw[if_neg (fun g=>g.elim h4 (fun g=>g.elim (zf h5) h3))] at hI'
    refine gaa ?_
    exact retB (nm:=name) rfl (rC (rA rfl zm0 rfl zsr) rN) (by rw[←hI'];rfl)
 intro w hw j hj
 refine gaa ?_
 refine oC rfl (fun hc=>?_) (fun hc=>?_)
 ·have h1:¬ (args.length:Int)=w:=by
   have h2:(!decide (((args.map encE).length:Int)=w))=true:=hc
   rw[hlen] at h2
   simpa using h2
  rw[if_neg h1] at hw
  refine gaa ?_
  exact retB (nm:=name) hj (rC (rA rfl zm0 rfl zsr) rN) (by rw[hw];rfl)
 ·have h1:(args.length:Int)=w:=by
   have h2:(!decide (((args.map encE).length:Int)=w))=false:=hc
   rw[hlen] at h2
   simpa using h2
  rw[if_pos h1] at hw
  refine gaa ?_
  exact retB (nm:=[]) hj (rC (rA rfl zm0 rfl zsr) rN) (by rw[hw];rfl)
def ExprH (B0:Nat) (w0:World) (own:Nm) (c:CEnv) (fs:List FnD) (n:Nat):Prop:=∀ x:Ex,ndE x≤n→LCalls (KC B0 w0) 84 [scV own c fs,encE x] [] (PostB (errE c x))
theorem expr_spec {own:Nm} {c:CEnv} {fs:List FnD} (h:ScOk c fs):∀ n:Nat,n≤100000000→ExprH B0 w0 own c fs n
 |0,_=>fun x h=>by have:=ndE_pos x;omega
 |n+1,hn6=>by
  have ih:=expr_spec (own:=own) h n zo
  intro x hnd
  obtain ⟨op,num,name,args⟩:=x
  rw[ndE] at hnd
  have hal:=ndEs_len args
  have hlen:(args.map encE).length=args.length:=List.length_map _
  have hsh:=shape_spec (B0:=B0) (w0:=w0) (.mk op num name args)
  have hsc:=scalar_spec (B0:=B0) (w0:=w0) (own:=own) h name
  have hix:=indexed_spec (B0:=B0) (w0:=w0) (own:=own) h name
  have hca:=called_spec (B0:=B0) (w0:=w0) (own:=own) h op num name args
  have ih':∀ x:Ex,ndE x≤n→LCalls (KC B0 w0) 84 [.agg [str own,.list (c.own.map str),.list (c.vars.map str),.list (c.arrays.map str),.list (fs.map encFn),.list (c.later.map str)],encE x] [] (PostB (errE c x)):=ih
  generalize hI:errE c (Ex.mk op num name args)=E
  rw[errE] at hI
  rw[encE_mk] at hsh hca ⊢
  unfold scV at hsc hix hca ⊢
  have hsh':LCalls (KC B0 w0) 141 [.agg [str op,int .u32 (num:Int),str name,.list (args.map encE)]] [] (Ret (bool (decide (opnds op = -1∨opnds op=(args.length:Int))))):=hsh
  refine cI Tryz.func84 rfl (n:=49) rfl rfl rfl ?_
  refine gah ?_
  refine oS (S.box rfl fun b2=>?_) rfl
  refine oS (S.box rfl fun b3=>?_) rfl
  refine oS (S.alloc fun b4=>?_) rfl
  refine gaa ?_
  refine oS (S.fn [_] rfl hsh' ?_) rfl
  refine gac ?_
  refine oC rfl (fun hc=>?_) (fun hc=>?_)
  ·have hop:¬ (opnds op = -1∨opnds op=(args.length:Int)):=by simpa using hc
   rw[if_neg hop] at hI
   refine gaa ?_
   exact retB (nm:=own) rfl (rC (rA rfl zm0 rfl zsr) rN) (by rw[←hI];rfl)
  have hop:opnds op = -1∨opnds op=(args.length:Int):=Decidable.byContradiction fun h=>by rw[decide_eq_false h] at hc;cases hc
  rw[if_pos hop] at hI
  refine gaa ?_
  refine oL (fun kk ls H'=>∃ (pre l1:List Ex),args=pre++l1∧kk=l1.length∧ls=[(2,ptr b2 0),(3,ptr b3 0),(4,ptr b4 0),(15,.list (args.map encE)),(16,int .i64 ((args.map encE).length:Int)),(17,int .i64 (pre.length:Int))] ∧
    H'=[pbH b4 [] 0,exH b3 op num name args,scH b2 own c fs]∧orE (errEs c l1) (useE c op name args.length)=E)
   ⟨args.length,_,_,⟨[],args,rfl,rfl,rfl,rfl,hI⟩,⟨rfl,rfl,rfl,rfl,rfl,rfl,trivial⟩,HSub.refl _⟩ ?_
  rintro kk ls H' ⟨pre,l1,hL,rfl,rfl,rfl,hI2⟩ j hj
  have hb:=pre_le hL (show args.length≤100000000 by omega)
  refine gag ?_
  refine oC rfl (fun hc=>?_) (fun hc=>?_)
  ·obtain ⟨a,l2,rfl⟩:=more hL hc
   have ham:ndE a≤ndEs args:=ndEs_mem (by rw[hL];exact List.mem_append_right _ (List.mem_cons_self ..))
   rw[errEs] at hI2
   refine gai ?_
   refine oP (xR (el':=encE a) (cs:=[_,_,_,_]) rfl rfl zo (by rw[hL];exact get_mid encE pre a l2) rfl rfl) rfl ?_
   refine gao ?_
   refine oS (S.alloc fun b6=>?_) rfl
   refine gaa ?_
   refine oS (S.pb [_,_] rfl (ih' a zo) fun nm=>?_) rfl
   refine oS (S.alloc fun b7=>?_) rfl
   refine gaa ?_
   by_cases h1:errE c a=0
   ·rw[h1] at hI2 ⊢
    refine oC rfl (fun hd=>by cases hd) (fun _=>?_)
    refine gav ?_
    exact ⟨l2.length,_,_,Nat.lt_succ_self _,⟨pre++[a],l2,snoc hL,rfl,rfl,rfl,hI2⟩,⟨rfl,rfl,rfl,rfl,rfl,int_eq (by simp),trivial⟩,zhD (zhD zhr),hj⟩
   ·refine oC rfl (fun _=>?_) (fun hd=>?_)
    rotate_left
    ·have h2:(!decide (errE c a=0))=false:=hd
     simp at h2
     exact absurd h2 h1
    have hE:E=errE c a:=by
     rw[←hI2]
     unfold orE
     rw[if_pos (show (if errE c a≠0 then errE c a else errEs c l2)≠0 by rw[if_pos h1];exact h1),if_pos h1]
    refine gaa ?_
    exact retB (nm:=nm) hj (rC (rA (k:=2) rfl zm0 rfl zsr) rN) (by rw[hE];rfl)
  obtain rfl:=none_left hL hc
  have hI3:useE c op name args.length=E:=hI2
  unfold useE at hI3
  refine gaa ?_
  by_cases h1:op=[118,97,114]
  ·subst h1
   rw[if_pos (show ([118,97,114]:Nm)=nVar from rfl)] at hI3
   refine oC rfl (fun _=>?_) (fun hd=>by cases hd)
   refine gaa ?_
   refine oS (S.pb [_,_] rfl hsc fun nm=>?_) rfl
   refine gac ?_
   exact retB (nm:=nm) hj (rC (rA rfl zm0 rfl zsr) rN) (by rw[←hI3];rfl)
  rw[if_neg (show ¬ op=nVar from h1)] at hI3
  refine oC rfl (fun hd=>absurd (zt hd) h1) (fun _=>?_)
  refine gaj ?_
  by_cases h2:op=[101,108,101,109]
  ·subst h2
   rw[if_pos (show ([101,108,101,109]:Nm)=nElem from rfl)] at hI3
   refine oC rfl (fun _=>?_) (fun hd=>by cases hd)
   refine gaa ?_
   refine oS (S.pb [_,_] rfl hix fun nm=>?_) rfl
   refine gac ?_
   exact retB (nm:=nm) hj (rC (rA rfl zm0 rfl zsr) rN) (by rw[←hI3];rfl)
  rw[if_neg (show ¬ op=nElem from h2)] at hI3
  refine oC rfl (fun hd=>absurd (zt hd) h2) (fun _=>?_)
  refine gaj ?_
  by_cases h3:op=[99,97,108,108]
  ·subst h3
   rw[if_pos (show ([99,97,108,108]:Nm)=nCall from rfl)] at hI3
   refine oC rfl (fun _=>?_) (fun hd=>by cases hd)
   refine gaa ?_
   refine oS (S.pb [_,_] rfl hca fun nm=>?_) rfl
   refine gac ?_
   exact retB (nm:=nm) hj (rC (rA rfl zm0 rfl zsr) rN) (by rw[←hI3];rfl)
  rw[if_neg (show ¬ op=nCall from h3)] at hI3
  refine oC rfl (fun hd=>absurd (zt hd) h3) (fun _=>?_)
  refine gaa ?_
  exact retB (nm:=[]) hj (rC (rA rfl zm0 rfl zsr) rN) (by rw[←hI3];rfl)
end
end Go.Proofs.YtpbbgkoalnonoaaGreatDoor.RC
namespace Go.Proofs.YtpbbgkoalnonoaaGreatDoor.RC
open Go.GL Go.RowKit Go.Stele
set_option maxRecDepth 100000
set_option maxHeartbeats 4000000
attribute [local irreducible] LOps LCode LStep LCalls Go.GL.Pure QThen QBlock RetPost LQ LAny LLate LLateOp LS
section
variable {B0:Nat} {w0:World}
theorem form_spec (s:Sm):LCalls (KC B0 w0) 83 [encS s] [] (Ret (bool (formS s))):=by
 obtain ⟨kind,name,index,value,thn,els⟩:=s
 rw[encS_mk]
 refine cI Tryz.func83 rfl (n:=159) rfl rfl rfl ?_
 refine gah ?_
 refine oS (S.box rfl fun b1=>?_) rfl
 refine gad ?_
 refine LCode.quiet zk ?_
 refine gaa ?_
 by_cases hk1:kind=1
 ·subst hk1
  refine oC rfl (fun _=>?_) (fun hc=>by cases hc)
  rw[Chk.form_1]
  refine gak ?_
  refine oB 28 rfl (fun q1=>?_) (fun q1=>?_)
  rotate_left
  ·refine gae ?_
   refine rR rfl (zra rfl) zhn ⟨?_,rfl⟩
   simp only[q1,Bool.false_and,Bool.and_false,Bool.true_and]
   rfl
  refine gal ?_
  refine oB 32 rfl (fun q2=>?_) (fun q2=>?_)
  rotate_left
  ·refine gae ?_
   refine rR rfl (zra rfl) zhn ⟨?_,rfl⟩
   simp only[q1,q2,Bool.false_and,Bool.and_false,Bool.true_and]
   rfl
  refine gal ?_
  refine oB 36 rfl (fun q3=>?_) (fun q3=>?_)
  rotate_left
  ·refine gae ?_
   refine rR rfl (zra rfl) zhn ⟨?_,rfl⟩
   simp only[q1,q2,q3,Bool.false_and,Bool.and_false,Bool.true_and]
   rfl
  refine gal ?_
  refine oB 40 rfl (fun q4=>?_) (fun q4=>?_)
  rotate_left
  ·refine gae ?_
   refine rR rfl (zra rfl) zhn ⟨?_,rfl⟩
   simp only[q1,q2,q3,q4,Bool.false_and,Bool.and_false,Bool.true_and]
   rfl
  refine gad ?_
  refine rR rfl (zra rfl) zhn ⟨?_,rfl⟩
  simp only[q1,q2,q3,q4,Bool.true_and]
  rfl
 refine oC rfl (fun hc=>absurd (zt hc) hk1) (fun _=>?_)
 refine gat ?_
 by_cases hk2:kind=2
 ·subst hk2
  refine oC rfl (fun _=>?_) (fun hc=>by cases hc)
  rw[Chk.form_2]
  refine gak ?_
  refine oB 47 rfl (fun q1=>?_) (fun q1=>?_)
  rotate_left
  ·refine gae ?_
   refine rR rfl (zra rfl) zhn ⟨?_,rfl⟩
   simp only[q1,Bool.false_and,Bool.and_false,Bool.true_and]
   rfl
  refine gal ?_
  refine oB 51 rfl (fun q2=>?_) (fun q2=>?_)
  rotate_left
  ·refine gae ?_
   refine rR rfl (zra rfl) zhn ⟨?_,rfl⟩
   simp only[q1,q2,Bool.false_and,Bool.and_false,Bool.true_and]
   rfl
  refine gal ?_
  refine oB 55 rfl (fun q3=>?_) (fun q3=>?_)
  rotate_left
  ·refine gae ?_
   refine rR rfl (zra rfl) zhn ⟨?_,rfl⟩
   simp only[q1,q2,q3,Bool.false_and,Bool.and_false,Bool.true_and]
   rfl
  refine gal ?_
  refine oB 59 rfl (fun q4=>?_) (fun q4=>?_)
  rotate_left
  ·refine gae ?_
   refine rR rfl (zra rfl) zhn ⟨?_,rfl⟩
   simp only[q1,q2,q3,q4,Bool.false_and,Bool.and_false,Bool.true_and]
   rfl
  refine gad ?_
  refine rR rfl (zra rfl) zhn ⟨?_,rfl⟩
  simp only[q1,q2,q3,q4,Bool.true_and]
  rfl
 refine oC rfl (fun hc=>absurd (zt hc) hk2) (fun _=>?_)
 refine gat ?_
 by_cases hk3:kind=3
 ·subst hk3
  refine oC rfl (fun _=>?_) (fun hc=>by cases hc)
  rw[Chk.form_3]
  refine gaa ?_
  refine oB 67 rfl (fun q1=>?_) (fun q1=>?_)
  rotate_left
  ·refine gae ?_
   refine rR rfl (zra rfl) zhn ⟨?_,rfl⟩
   simp only[q1,Bool.false_and,Bool.and_false,Bool.true_and]
   rfl
  refine gal ?_
  refine oB 71 rfl (fun q2=>?_) (fun q2=>?_)
  rotate_left
  ·refine gae ?_
   refine rR rfl (zra rfl) zhn ⟨?_,rfl⟩
   simp only[q1,q2,Bool.false_and,Bool.and_false,Bool.true_and]
   rfl
  refine gad ?_
  refine rR rfl (zra rfl) zhn ⟨?_,rfl⟩
  simp only[q1,q2,Bool.true_and]
  rfl
 refine oC rfl (fun hc=>absurd (zt hc) hk3) (fun _=>?_)
 refine gat ?_
 by_cases hk4:kind=4
 ·subst hk4
  refine oC rfl (fun _=>?_) (fun hc=>by cases hc)
  rw[Chk.form_4]
  refine gaa ?_
  refine oB 79 rfl (fun q1=>?_) (fun q1=>?_)
  rotate_left
  ·refine gae ?_
   refine rR rfl (zra rfl) zhn ⟨?_,rfl⟩
   simp only[q1,Bool.false_and,Bool.and_false,Bool.true_and]
   rfl
  refine gal ?_
  refine oB 83 rfl (fun q2=>?_) (fun q2=>?_)
  rotate_left
  ·refine gae ?_
   refine rR rfl (zra rfl) zhn ⟨?_,rfl⟩
   simp only[q1,q2,Bool.false_and,Bool.and_false,Bool.true_and]
   rfl
  refine gal ?_
  refine oB 87 rfl (fun q3=>?_) (fun q3=>?_)
  rotate_left
  ·refine gae ?_
   refine rR rfl (zra rfl) zhn ⟨?_,rfl⟩
   simp only[q1,q2,q3,Bool.false_and,Bool.and_false,Bool.true_and]
   rfl
  refine gad ?_
  refine rR rfl (zra rfl) zhn ⟨?_,rfl⟩
  simp only[q1,q2,q3,Bool.true_and]
  rfl
 refine oC rfl (fun hc=>absurd (zt hc) hk4) (fun _=>?_)
 refine gat ?_
 by_cases hk5:kind=5
 ·subst hk5
  refine oC rfl (fun _=>?_) (fun hc=>by cases hc)
  rw[Chk.form_5]
  refine gaa ?_
  refine oB 95 rfl (fun q1=>?_) (fun q1=>?_)
  rotate_left
  ·refine gae ?_
   refine rR rfl (zra rfl) zhn ⟨?_,rfl⟩
   simp only[q1,Bool.false_and,Bool.and_false,Bool.true_and]
   rfl
  refine gal ?_
  refine oB 99 rfl (fun q2=>?_) (fun q2=>?_)
  rotate_left
  ·refine gae ?_
   refine rR rfl (zra rfl) zhn ⟨?_,rfl⟩
   simp only[q1,q2,Bool.false_and,Bool.and_false,Bool.true_and]
   rfl
  refine gal ?_
  refine oB 103 rfl (fun q3=>?_) (fun q3=>?_)
  rotate_left
  ·refine gae ?_
   refine rR rfl (zra rfl) zhn ⟨?_,rfl⟩
   simp only[q1,q2,q3,Bool.false_and,Bool.and_false,Bool.true_and]
   rfl
  refine gal ?_
  refine oB 107 rfl (fun q4=>?_) (fun q4=>?_)
  rotate_left
  ·refine gae ?_
   refine rR rfl (zra rfl) zhn ⟨?_,rfl⟩
   simp only[q1,q2,q3,q4,Bool.false_and,Bool.and_false,Bool.true_and]
   rfl
  refine gad ?_
  refine rR rfl (zra rfl) zhn ⟨?_,rfl⟩
  simp only[q1,q2,q3,q4,Bool.true_and]
  rfl
 refine oC rfl (fun hc=>absurd (zt hc) hk5) (fun _=>?_)
 refine gat ?_
 by_cases hk6:kind=6
 ·subst hk6
  refine oC rfl (fun _=>?_) (fun hc=>by cases hc)
  rw[Chk.form_6]
  refine gaa ?_
  refine oB 115 rfl (fun q1=>?_) (fun q1=>?_)
  rotate_left
  ·refine gae ?_
   refine rR rfl (zra rfl) zhn ⟨?_,rfl⟩
   simp only[q1,Bool.false_and,Bool.and_false,Bool.true_and]
   rfl
  refine gal ?_
  refine oB 119 rfl (fun q2=>?_) (fun q2=>?_)
  rotate_left
  ·refine gae ?_
   refine rR rfl (zra rfl) zhn ⟨?_,rfl⟩
   simp only[q1,q2,Bool.false_and,Bool.and_false,Bool.true_and]
   rfl
  refine gal ?_
  refine oB 123 rfl (fun q3=>?_) (fun q3=>?_)
  rotate_left
  ·refine gae ?_
   refine rR rfl (zra rfl) zhn ⟨?_,rfl⟩
   simp only[q1,q2,q3,Bool.false_and,Bool.and_false,Bool.true_and]
   rfl
  refine gal ?_
  refine oB 127 rfl (fun q4=>?_) (fun q4=>?_)
  rotate_left
  ·refine gae ?_
   refine rR rfl (zra rfl) zhn ⟨?_,rfl⟩
   simp only[q1,q2,q3,q4,Bool.false_and,Bool.and_false,Bool.true_and]
   rfl
  refine gal ?_
  refine oB 131 rfl (fun q5=>?_) (fun q5=>?_)
  rotate_left
  ·refine gae ?_
   refine rR rfl (zra rfl) zhn ⟨?_,rfl⟩
   simp only[q1,q2,q3,q4,q5,Bool.false_and,Bool.and_false,Bool.true_and]
   rfl
  refine gad ?_
  obtain ⟨x0,rfl⟩:∃ x,value=[x]:=by
   have h1:((value.map encE).length:Int)=1:=zt q3
   rw[List.length_map] at h1
   cases value with
   |nil=>simp at h1
   |cons x l=>
    cases l with
    |nil=>exact ⟨x,rfl⟩
    |cons y l=>simp at h1;omega
  first|refine LOps.want rfl rfl ?_|skip
  refine oP (xR (el':=encE x0) (cs:=[_,_,_,_]) rfl rfl zo rfl rfl rfl) rfl ?_
  refine gac ?_
  refine rR rfl (zra rfl) zhn ⟨?_,rfl⟩
  simp only[q1,q2,q3,q4,q5,Bool.true_and]
  rfl
 refine oC rfl (fun hc=>absurd (zt hc) hk6) (fun _=>?_)
 refine gat ?_
 by_cases hk7:kind=7
 ·subst hk7
  refine oC rfl (fun _=>?_) (fun hc=>by cases hc)
  rw[Chk.form_7]
  refine gaa ?_
  refine oB 143 rfl (fun q1=>?_) (fun q1=>?_)
  rotate_left
  ·refine gae ?_
   refine rR rfl (zra rfl) zhn ⟨?_,rfl⟩
   simp only[q1,Bool.false_and,Bool.and_false,Bool.true_and]
   rfl
  refine gal ?_
  refine oB 147 rfl (fun q2=>?_) (fun q2=>?_)
  rotate_left
  ·refine gae ?_
   refine rR rfl (zra rfl) zhn ⟨?_,rfl⟩
   simp only[q1,q2,Bool.false_and,Bool.and_false,Bool.true_and]
   rfl
  refine gal ?_
  refine oB 151 rfl (fun q3=>?_) (fun q3=>?_)
  rotate_left
  ·refine gae ?_
   refine rR rfl (zra rfl) zhn ⟨?_,rfl⟩
   simp only[q1,q2,q3,Bool.false_and,Bool.and_false,Bool.true_and]
   rfl
  refine gal ?_
  refine oB 155 rfl (fun q4=>?_) (fun q4=>?_)
  rotate_left
  ·refine gae ?_
   refine rR rfl (zra rfl) zhn ⟨?_,rfl⟩
   simp only[q1,q2,q3,q4,Bool.false_and,Bool.and_false,Bool.true_and]
   rfl
  refine gad ?_
  refine rR rfl (zra rfl) zhn ⟨?_,rfl⟩
  simp only[q1,q2,q3,q4,Bool.true_and]
  rfl
 refine oC rfl (fun hc=>absurd (zt hc) hk7) (fun _=>?_)
 refine gab ?_
 refine rR rfl (zra rfl) zhn ⟨?_,rfl⟩
 have hf:formS (.mk kind name index value thn els)=false:=by
  simp only[formS]
  rw[if_neg hk1,if_neg hk2,if_neg hk3,if_neg hk4,if_neg hk5,if_neg hk6,if_neg hk7]
 rw[hf]
 rfl
end
end Go.Proofs.YtpbbgkoalnonoaaGreatDoor.RC
