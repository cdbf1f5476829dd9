/- Texts joined: CmpH, InpNodes, InpX3, CmpI, GlEqS, GlEqI, LawCS0, PeepRef2, A18A, AsmRef, A18B, A18C, A18D, A18E, A18F. -/
import Derived.Laws.StructEq
import Derived.ChangeKeysEq
import Derived.Test.YtpbbgkoalnonoaaGreatDoorBRowCA4
import Derived.Test.YtpbbgkoalnonoaaGreatDoorBRowCA5
import Derived.Test.YtpbbgkoalnonoaaGreatDoorBRowCA8
import Derived.Test.YtpbbgkoalnonoaaGreatDoorBRowCA9
import Derived.Test.YtpbbgkoalnonoaaGreatDoorBRowCA10
set_option linter.unusedVariables false
set_option linter.unusedSimpArgs false
set_option maxRecDepth 100000
set_option maxHeartbeats 4000000
namespace Go.Proofs.YtpbbgkoalnonoaaGreatDoor.Cmp
open Go.GL Go.RowKit Go.Stele
open Go.Lib (decDigits itoa join)
def scKV (S:Int):Nat→List Nm→KV
 |_,[]=>[]
 |i,x::r=>(x,int .i64 (S+3+(i:Nat)))::scKV S (i+1) r
theorem scKV_app (S:Int):∀ (l m:List Nm) (i:Nat),scKV S i (l++m)=scKV S i l++scKV S (i+l.length) m
 |[],m,i=>by simp[scKV]
 |x::r,m,i=>by
  rw[List.cons_append,scKV,scKV_app S r m,scKV,List.cons_append,zLc,Nat.add_right_comm,Nat.add_assoc]
theorem scKV_keys (S:Int):∀ (l:List Nm) (i:Nat),(scKV S i l).map (·.1)=l
 |[],i=>rfl
 |x::r,i=>by rw[scKV,zMc,scKV_keys S r]
theorem scKV_take {S:Int} {l:List Nm} {i:Nat} (h:i<l.length) (hn:l.Nodup):GL.kvPut (scKV S 0 (l.take i)) l[i] (int .i64 (S+3+(i:Nat)))=scKV S 0 (l.take (i+1)):=by
 rw[List.take_succ_eq_append_getElem h,scKV_app,List.length_take,Nat.zero_add,Nat.min_eq_left zo]
 refine kv_new ?_
 rw[scKV_keys]
 intro hm
 rw[←List.take_append_drop i l,List.drop_eq_getElem_cons h,List.nodup_append] at hn
 exact hn.2.2 _ hm _ zMs rfl
theorem scKV_get (S:Int) (k:Nm):∀ (l:List Nm) (i:Nat),GL.kvGet (scKV S i l) k=if k∈l then some (int .i64 (S+3+((i+l.idxOf k:Nat):Int))) else none
 |[],i=>rfl
 |x::r,i=>by
  rw[scKV,GL.kvGet]
  by_cases h:x=k
  ·rw[if_pos h,if_pos (by rw[h];exact List.mem_cons_self ..),List.idxOf_cons,h]
   simp
  ·rw[if_neg h,scKV_get S k r (i+1)]
   by_cases hm:k∈r
   ·rw[if_pos hm,if_pos (zMo _ hm),List.idxOf_cons,cond_eq_ite,if_neg (by simpa using h)]
    congr 4
    omega
   ·rw[if_neg hm,if_neg (by rw[zMi];exact fun g=>g.elim (fun e=>h e.symm) hm)]
def arKV (l:List (Nm×Int)):KV:=l.map fun p=>(p.1,int .i64 p.2)
theorem arKV_take {l:List (Nm×Int)} {i:Nat} (h:i<l.length) (hn:(l.map (·.1)).Nodup):GL.kvPut (arKV (l.take i)) l[i].1 (int .i64 l[i].2)=arKV (l.take (i+1)):=by
 unfold arKV
 rw[List.take_succ_eq_append_getElem h,zMa]
 refine kv_new ?_
 rw[List.map_map]
 intro hm
 have e1:l.map (·.1)=(l.take i).map (·.1)++l[i].1::(l.drop (i+1)).map (·.1):=by
  conv=>lhs;rw[←List.take_append_drop i l,List.drop_eq_getElem_cons h]
  rw[zMa,zMc]
 rw[e1,List.nodup_append] at hn
 exact hn.2.2 _ hm _ zMs rfl
theorem arKV_get (name:Nm):∀ (l:List (Nm×Int)) (a:Int),(GL.kvGet (arKV (symA a l)) name).getD (int .i64 0)=int .i64 (arrA a l name)
 |[],a=>rfl
 |(x,n)::r,a=>by
  rw[symA,arrA]
  show (GL.kvGet ((x,int .i64 a)::arKV (symA (a+n) r)) name).getD (int .i64 0)=_
  rw[GL.kvGet]
  simp only
  by_cases h:x=name
  ·rw[if_pos h,if_pos h]
   rfl
  ·rw[if_neg h,if_neg h]
   exact arKV_get name r (a+n)
def cmpLV:Except Int Wd→LV
 |.error e=>.tuple [str [],int .i64 e]
 |.ok t=>.tuple [str t,int .i64 0]
theorem tb_ok {P:Pr} {o:Org} (hF:FitN P o) (own:Nm) (ho:own.length≤1000000) (b1 b2 b3 g1 g2:Nat):TBok ⟨b1,b2,b3,scKV o.scalars 0 (scalarsP P.vars P.funcs),arKV (symA o.arrays (arrsP P)),g1,g2,o.scalars.toNat⟩ (ccF P.vars (arrsP P) P.funcs o own) own:=by
 have s0:=hF.s0
 have s1:=hF.s1
 have a0:=hF.a0
 have a1:=hF.a1
 have hp:∀ p∈arrsP P,0≤p.2:=fun p hp=>by
  obtain ⟨a,_,rfl⟩:=List.mem_map.1 hp
  exact Int.natCast_nonneg _
 have hpl:∀ k,0≤placeA (scalarsP P.vars P.funcs) o.scalars k∧placeA (scalarsP P.vars P.funcs) o.scalars k≤262144∧(k∈scalarsP P.vars P.funcs→int .i64 (o.scalars+3+((0+(scalarsP P.vars P.funcs).idxOf k:Nat):Int))=int .i64 (((placeA (scalarsP P.vars P.funcs) o.scalars k).toNat:Nat):Int)):=fun k=>by
  unfold placeA
  by_cases h:k∈scalarsP P.vars P.funcs
  ·have:=List.idxOf_lt_length_of_mem h
   rw[if_pos h]
   exact ⟨by omega,by omega,fun _=>int_eq zo⟩
  ·rw[if_neg h]
   exact ⟨by omega,by omega,fun h2=>absurd h2 h⟩
 refine ⟨fun name=>?_,fun name=>?_,?_,?_,?_,?_,ho⟩
 ·refine ⟨(placeA (scalarsP P.vars P.funcs) o.scalars (keyC (scalarsP P.vars P.funcs) own name)).toNat,?_,?_,?_⟩
  ·have:=hpl (keyC (scalarsP P.vars P.funcs) own name);omega
  ·exact itoa_pos (hpl _).1
  ·show (∃ v,GL.kvGet (scKV o.scalars 0 (scalarsP P.vars P.funcs)) (own++[46]++name)=some v∧_)∨(GL.kvGet (scKV o.scalars 0 (scalarsP P.vars P.funcs)) (own++[46]++name)=none∧(GL.kvGet (scKV o.scalars 0 (scalarsP P.vars P.funcs)) name).getD _=_)
   rw[scKV_get,scKV_get]
   unfold keyC
   by_cases h:own++[46]++name∈scalarsP P.vars P.funcs
   ·left
    rw[if_pos h,if_pos h]
    exact ⟨_,rfl,(hpl _).2.2 h⟩
   ·right
    rw[if_neg h,if_neg h]
    refine ⟨rfl,?_⟩
    by_cases h2:name∈scalarsP P.vars P.funcs
    ·rw[if_pos h2]
     exact (hpl _).2.2 h2
    ·rw[if_neg h2]
     unfold placeA
     rw[if_neg h2]
     rfl
 ·have h1:=arrA_pos (arrsP P) o.arrays a0 hp name
  have h2:=arrA_le (arrsP P) o.arrays a0 hp name
  have h3:((arrsP P).map (·.2)).sum=((totA P.arrays:Nat):Int):=totA_int P.arrays
  rw[h3] at h2
  refine ⟨(arrA o.arrays (arrsP P) name).toNat,by omega,itoa_pos h1,?_⟩
  show (GL.kvGet (arKV (symA o.arrays (arrsP P))) name).getD _=_
  rw[arKV_get]
  exact int_eq zo
 ·exact itoa_pos s0
 ·show itoa (o.scalars+1)=_
  rw[itoa_pos zo]
  congr 1
  show _=o.scalars.toNat+1
  omega
 ·show itoa (o.scalars+2)=_
  rw[itoa_pos zo]
  congr 1
  show _=o.scalars.toNat+2
  omega
 ·show o.scalars.toNat≤_
  omega
theorem nm_len {s:Nm} (h:isNm s=true):s.length≤24:=by
 unfold isNm at h
 rw[zBa,zBa,zDe] at h
 exact h.1.1
theorem env_ok {P:Pr} (hv:Valid P) {f:FnD} (hf:f∈P.funcs) (hown:∀ x∈f.params++f.locals,x.length≤24) {kn:List FSum} (hk:Known P.funcs kn):EnvOk (envF P.vars (P.arrays.map (·.name)) (P.funcs.map (·.name)) kn f):=by
 have hfr:=fresh_zero _ _ hv.names
 refine ⟨fun s hs=>?_,fun k hk'=>?_⟩
 ·unfold scalarE at hs
  split at hs
  ·rename_i h
   rcases h with h|h
   ·exact nm_len (hfr.2 s (List.mem_append_left _ (List.mem_append_left _ h))).2
   ·exact hown s h
  ·split at hs <;> cases hs
 ·obtain ⟨g,g1,g2,_⟩:=hk k hk'
  rw[←g2]
  exact nm_len (hfr.2 _ (List.mem_append_right _ (List.mem_map_of_mem g1))).2
theorem own_short:∀ (vars arrays later:List Nm) (known:List FSum) (fs:List FnD),errFs vars arrays later known fs=0→∀ f∈fs,∀ x∈f.params++f.locals,x.length≤24
 |_,_,_,_,[],_,f,hf=>(List.not_mem_nil hf).elim
 |vars,arrays,later,known,g::l,h,f,hf=>by
  rw[errFs] at h
  obtain ⟨h1,h2⟩:=orE_zero.1 h
  rcases zMi.1 hf with rfl|hf
  ·unfold errF at h1
   intro x hx
   exact nm_len ((fresh_zero _ _ (orE_zero.1 h1).1).2 x hx).2
  ·exact own_short vars arrays later _ l h2 f hf
theorem permP5 {t s a b3 b2:Nat×LObj}:[t,b3,s,a,b2].Perm ([t,s,a]++[b3,b2]):=List.Perm.cons _ ((List.Perm.swap _ _ _).trans (List.Perm.cons _ (List.Perm.swap _ _ _)))
attribute [local irreducible] LOps LCode LStep LCalls Go.GL.Pure QThen QBlock RetPost LQ LAny LLate LLateOp LS
section
variable {B0:Nat} {w0:World}
theorem compile_spec (hG:GW B0 w0) (hM:Asm.GM w0) (vars:List Nm) (arrays:List (Nm×Int)) (fs:List FnD) (o:Org) (hv6:vars.length≤2000000) (ha6:arrays.length≤2000000) (har:∀ a∈arrays,I64 a.2) (hnd:ndFs fs≤2000000) (hnum:∀ f∈fs,numSs f.body) (o1:I64 o.code) (o2:I64 o.scalars) (o3:I64 o.arrays) :
  LCalls (KC B0 w0) 11 [Chk.encPrG vars arrays fs,orgLV o] [] (Ret (cmpLV (cmpP vars arrays fs o))):=by
 have hck:=Chk.check_spec (B0:=B0) (w0:=w0) vars arrays fs hv6 ha6 har hnd
 have hf6:=ndFs_len fs
 have hsm:∀ f∈fs,SmF f:=fun f hf=>smF_of (by have:=ndFs_mem hf;omega)
 generalize hC:cmpP vars arrays fs o=R
 unfold cmpP at hC
 have ePr:Chk.encPrG vars arrays fs=.agg [.list (vars.map str),.list (arrays.map Chk.encArG),.list (fs.map encFn)]:=rfl
 have eOr:orgLV o=.agg [int .i64 o.code,int .i64 o.scalars,int .i64 o.arrays]:=rfl
 rw[ePr,eOr]
 refine cI Tryz.func11 rfl (n:=102) rfl rfl rfl ?_
 refine gaf ?_
 refine oS (S.box rfl fun b2=>?_) rfl
 refine oS (S.box rfl fun b3=>?_) rfl
 refine gab ?_
 refine oS (S.callH (H1:=[]) (F:=[_,_]) [_] rfl zpr hck ?_ (by rintro ch H' ⟨_,nm,h⟩;cases h)) rfl
 rintro lv H' ⟨rfl,nm,h⟩
 cases h
 refine gab ?_
 by_cases hc0:checkP vars arrays fs=0
 rotate_left
 ·exact zT56
 refine oC rfl (fun hc=>?_) (fun _=>?_)
 ·have h2:(!decide (checkP vars arrays fs=0))=true:=hc
  simp[hc0] at h2
 rw[if_neg (by simpa using hc0)] at hC
 obtain ⟨ht,hp,hPa,hPc,hV⟩:=check_parts hc0
 have hown:∀ f∈fs,∀ x∈f.params++f.locals,x.length≤24:=by
  have h:=hc0
  unfold checkP at h
  exact own_short _ _ _ _ _ (orE_zero.1 (orE_zero.1 (orE_zero.1 h).2).2).1
 have hfr:=fresh_zero _ _ hV.names
 have hfn:∀ f∈fs,f.name.length≤24:=fun f hf=>nm_len (hfr.2 _ (List.mem_append_right _ (List.mem_map_of_mem hf))).2
 have hn:∀ f∈fs,f.name.length≤1000∧∀ x∈f.params++f.locals,x.length≤1000:=fun f hf=>⟨by have:=hfn f hf;omega,fun x hx=>by have:=hown f hf x hx;omega⟩
 have hsc8:(scalarsP vars fs).length≤8000:=hV.few
 have hft:=fits_spec (B0:=B0) (w0:=w0) vars arrays fs o hv6 zo ha6 hsm hn hp ht hsc8 o1 o2 o3
 rw[ePr,eOr] at hft
 refine gab ?_
 refine oS (sF [_,_] rfl hft ?_) rfl
 refine gad ?_
 by_cases hfit:fitsP vars arrays fs o=true
 rotate_left
 ·rw[if_pos (by simpa using hfit)] at hC
  subst hC
  refine oC rfl (fun _=>?_) (fun hc=>?_)
  ·refine gao ?_
   exact retRet rfl (rC (zrt rfl) (zra rfl)) rfl
  ·have h2:(!fitsP vars arrays fs o)=false:=hc
   simp at h2
   exact absurd h2 hfit
 refine oC rfl (fun hc=>?_) (fun _=>?_)
 ·have h2:(!fitsP vars arrays fs o)=true:=hc
  rw[hfit] at h2
  cases h2
 rw[if_neg (by rw[hfit];decide)] at hC
 have hfitP:fitsP (prOf vars arrays fs).vars (arrsP (prOf vars arrays fs)) (prOf vars arrays fs).funcs o=true:=by rw[hPa];exact hfit
 have hF:=fit_of hfitP
 have hS:=Chk.scalars_specG (B0:=B0) (w0:=w0) (vars:=vars) (fs:=fs) (.list (arrays.map Chk.encArG)) hv6 zo hsm hn
 have hT:=hF.s1
 have hS0:=hF.s0
 have hA1:=hF.a1
 have hA0:=hF.a0
 have hkeys:(scalarsP vars fs).Nodup:=hV.keys
 have htot:(arrays.map (·.2)).sum=((totA (prOf vars arrays fs).arrays:Nat):Int):=by
  have:=totA_int (prOf vars arrays fs).arrays
  rw[←this]
  congr 2
  exact hPa.symm
 have hAs:=arrays_spec (B0:=B0) (w0:=w0) vars arrays fs o ha6 hp hA0 (by rw[htot];omega)
 rw[ePr,eOr] at hAs
 have hT2:o.scalars.toNat+3+(scalarsP vars fs).length≤262144:=hT
 refine gaa ?_
 refine oS (S.kvNew fun sm=>?_) rfl
 refine oS (S.kvNew fun am=>?_) rfl
 refine gac ?_
 refine oS (S.box rfl fun tb=>?_) rfl
 refine gab ?_
 refine oS (sF [_] rfl hS ?_) rfl
 have hsl:((scalarsP vars fs).map str).length=(scalarsP vars fs).length:=zLm _
 refine gad ?_
 generalize hsl2:scalarsP vars fs=sl at *
 refine oL (fun kk ls H'=>∃ (i g1:Nat),i≤sl.length∧kk=sl.length-i∧ls=[(2,ptr b2 0),(3,ptr b3 0),(8,ptr tb 0),(39,.list (sl.map str)),(40,int .i64 sl.length),(41,int .i64 (i:Nat))]∧H'=[(tb,.cells 64 [nilSlice,int .i64 0,int .i64 o.scalars,.atom (.map (some sm)),.atom (.map (some am)),str []]),(b3,.cells 28 [int .i64 o.code,int .i64 o.scalars,int .i64 o.arrays]),(sm,.map (kvs (scKV o.scalars 0 (sl.take i))) g1),(am,.map (kvs []) 0),(b2,.cells 26 [.list (vars.map str),.list (arrays.map Chk.encArG),.list (fs.map encFn)])])
  ⟨_,_,_,⟨0,0,Nat.zero_le _,rfl,rfl,rfl⟩,⟨rfl,rfl,rfl,rfl,int_eq zo,rfl,trivial⟩,zhP pH (zhP zp2 (zhP zp1 zhr))⟩ ?_
 rintro kk ls H' ⟨i,g1,hi,rfl,rfl,rfl⟩ j hj
 refine gah ?_
 refine oC rfl (fun hc=>?_) (fun hc=>?_)
 ·have hlt:i<sl.length:=by have:=zt hc;omega
  have htk:=scKV_take (S:=o.scalars) hlt hkeys
  refine gaa ?_
  refine oP (xR (el':=str sl[i]) (cs:=[str sl[i]]) rfl rfl zo (map_get _ _ _ hlt) rfl rfl) rfl ?_
  refine gac ?_
  refine LCode.draw (m:=11) rfl [(tb,.cells 64 [nilSlice,int .i64 0,int .i64 o.scalars,.atom (.map (some sm)),.atom (.map (some am)),str []]),(b3,.cells 28 [int .i64 o.code,int .i64 o.scalars,int .i64 o.arrays])] ?_
  refine aT 0 rfl rfl (pM (lv:=.atom _) rfl) ?_
  refine aT 1 rfl rfl (pN rfl) ?_
  refine aT 2 rfl rfl (pF rfl) ?_
  refine aT 3 rfl rfl (pL (c:=.atom _) rfl zm0 rfl) ?_
  refine aT 4 rfl rfl (pM (lv:=.atom _) rfl) ?_
  refine aT 5 rfl rfl (pF rfl) ?_
  refine aT 6 rfl rfl (pL (c:=.atom _) rfl zm1 rfl) ?_
  refine aT 7 rfl rfl (Pure.add rfl rfl zo) ?_
  refine aT 8 rfl rfl (pM (lv:=.atom _) rfl) ?_
  refine aT 9 rfl rfl (Pure.add rfl rfl zo) ?_
  refine LAny.late ?_ hsubP2
  refine lO 10 (lS (H1:=[(sm,.map (kvs (scKV o.scalars 0 (sl.take i))) g1)]) rfl (.inl rfl) rfl (show Pick _ _ _ from pT zp1) hsubP2 (S.kvSet (k:=sl[i]) (lv:=int .i64 (o.scalars+3+(i:Nat))) rfl rfl rfl pH fun g1'=>?_))
  rw[htk]
  refine lD zk ?_
  refine gal ?_
  exact ⟨_,_,_,by omega,⟨i+1,g1',by omega,rfl,rfl,rfl⟩,⟨rfl,rfl,rfl,rfl,rfl,int_eq zo,trivial⟩,zhP zp1 (zhP zp1 zhr),hj⟩
 have hi':i=sl.length:=by have:=zf hc;omega
 subst hi'
 rw[List.take_length]
 have hyl:=symA_len arrays o.arrays
 have hyn:((symA o.arrays arrays).map (·.1)).Nodup:=by
  rw[symA_names]
  have h1:=(List.nodup_append.1 (List.nodup_append.1 hfr.1).1).2.1
  have e1:(prOf vars arrays fs).arrays.map (·.name)=arrays.map (·.1):=by
   unfold prOf
   rw[List.map_map]
   rfl
  rw[e1] at h1
  exact h1
 have hym:((symA o.arrays arrays).map symLV).length=(symA o.arrays arrays).length:=zLm _
 refine gab ?_
 refine oS (sF [_,_] rfl hAs ?_) rfl
 refine gab ?_
 generalize hyy:symA o.arrays arrays=ys at *
 refine oC rfl (fun h=>by cases h) (fun _=>?_)
 refine gaa ?_
 refine oL (fun kk ls H'=>∃ (i g2:Nat),i≤ys.length∧kk=ys.length-i∧ls=[(2,ptr b2 0),(3,ptr b3 0),(8,ptr tb 0),(66,.list (ys.map symLV)),(67,int .i64 ys.length),(68,int .i64 (i:Nat))]∧H'=[(tb,.cells 64 [nilSlice,int .i64 0,int .i64 o.scalars,.atom (.map (some sm)),.atom (.map (some am)),str []]),(b3,.cells 28 [int .i64 o.code,int .i64 o.scalars,int .i64 o.arrays]),(sm,.map (kvs (scKV o.scalars 0 sl)) g1),(am,.map (kvs (arKV (ys.take i))) g2),(b2,.cells 26 [.list (vars.map str),.list (arrays.map Chk.encArG),.list (fs.map encFn)])])
  ⟨_,_,_,⟨0,0,Nat.zero_le _,rfl,rfl,rfl⟩,⟨rfl,rfl,rfl,rfl,int_eq zo,rfl,trivial⟩,zhR _⟩ ?_
 rintro kk ls H' ⟨i,g2,hi,rfl,rfl,rfl⟩ j2 hj2
 refine gah ?_
 refine oC rfl (fun hc=>?_) (fun hc=>?_)
 ·have hlt:i<ys.length:=by have:=zt hc;omega
  have htk:=arKV_take hlt hyn
  refine gak ?_
  refine oP (xR (el':=symLV ys[i]) (cs:=[_,_]) rfl rfl zo (map_get _ _ _ hlt) rfl rfl) rfl ?_
  refine gac ?_
  refine oS (sA fun b14=>?_) rfl
  refine gad ?_
  refine LCode.draw (m:=9) rfl [(b14,.cells 70 [str ys[i].1,int .i64 ys[i].2]),(tb,.cells 64 [nilSlice,int .i64 0,int .i64 o.scalars,.atom (.map (some sm)),.atom (.map (some am)),str []])] ?_
  refine aT 0 rfl rfl (pM (lv:=.atom _) rfl) ?_
  refine aT 1 rfl rfl (pN rfl) ?_
  refine aT 2 rfl rfl (pF rfl) ?_
  refine aT 3 rfl rfl (pL (c:=.atom _) rfl zm1 rfl) ?_
  refine aT 4 rfl rfl (pF rfl) ?_
  refine aT 5 rfl rfl (pL (c:=.atom _) rfl zm0 rfl) ?_
  refine aT 6 rfl rfl (pF rfl) ?_
  refine aT 7 rfl rfl (pL (c:=.atom _) rfl zm0 rfl) ?_
  refine LAny.late ?_ hsubP2
  refine lO 8 (lS (H1:=[(am,.map (kvs (arKV (ys.take i))) g2)]) rfl (.inl rfl) rfl (show Pick _ _ _ from pT zp3) hsubP2 (S.kvSet (k:=ys[i].1) (lv:=int .i64 ys[i].2) rfl rfl rfl pH fun g2'=>?_))
  rw[htk]
  refine lD zk ?_
  refine gal ?_
  exact ⟨_,_,_,by omega,⟨i+1,g2',by omega,rfl,rfl,rfl⟩,⟨rfl,rfl,rfl,rfl,rfl,int_eq zo,trivial⟩,zhP zp2 (zhP zp2 (zhP zp2 (zhP pH (zhD zhr)))),hj2⟩
 have hi':i=ys.length:=by have:=zf hc;omega
 subst hi'
 rw[List.take_length]
 have htb:=fun own ho=>tb_ok (P:=prOf vars arrays fs) hF own ho tb sm am g1 g2
 rw[hPa] at htb
 have hW:=prW_tot hPc hnum hfitP hnd
 have hjt:=join_tot (wordsC (prOf vars arrays fs) o)
 have hwc:wordsC (prOf vars arrays fs) o=prW vars arrays fs o:=by
  unfold wordsC
  rw[hPa]
  rfl
 rw[hwc] at hW hjt
 have hcc:ccF (prOf vars arrays fs).vars arrays (prOf vars arrays fs).funcs o=ccF vars arrays fs o:=rfl
 rw[hPa,hcc] at hW
 have hwl:=tot_len (prW vars arrays fs o)
 have hnf:ndFs (prOf vars arrays fs).funcs=ndFs fs:=rfl
 rw[hnf] at hW
 have hpw:prW vars arrays fs o=[[38,102,95,109,97,105,110],[58],decDigits o.scalars.toNat,[33],[36]]++(fnWs (ccF vars arrays fs o) 0 fs).1:=by
  unfold prW
  rw[itoa_pos hS0]
 have hpl:(prW vars arrays fs o).length=5+(fnWs (ccF vars arrays fs o) 0 fs).1.length:=by
  rw[hpw,zLa]
  rfl
 have hTr:TrH ⟨tb,sm,am,scKV o.scalars 0 sl,arKV ys,g1,g2,o.scalars.toNat⟩ [] [] 0 [(tb,.cells 64 [nilSlice,int .i64 0,int .i64 o.scalars,.atom (.map (some sm)),.atom (.map (some am)),str []]),(sm,.map (kvs (scKV o.scalars 0 sl)) g1),(am,.map (kvs (arKV ys)) g2)]:=⟨nilSlice,[],Acc.nil,by
  simp only
  rw[Int.toNat_of_nonneg hS0]
  rfl⟩
 have hpg:=program_spec (B0:=B0) (w0:=w0) hG (k:=⟨tb,sm,am,scKV o.scalars 0 sl,arKV ys,g1,g2,o.scalars.toNat⟩) (cc:=ccF vars arrays fs o) (by show o.scalars.toNat≤_;omega) vars arrays fs hnd (fun f hf=>by
  obtain ⟨kn,k1,k2⟩:=hV.bodies f hf
  refine ⟨?_,hfn f hf,fun p hp=>by have:=hown f hf p (List.mem_append_left _ hp);omega,hnum f hf,_,env_ok hV hf (hown f hf) k2,k1⟩
  have:=htb f.name (by have:=hfn f hf;omega)
  rw[←hsl2,←hyy]
  exact this) (own0:=[]) (c0:=ccF vars arrays fs o []) (by
  have:=htb [] zDd
  rw[←hsl2,←hyy]
  exact this) _ hTr zo
 rw[ePr] at hpg
 refine gab ?_
 refine oS (S.callT (F:=[_,_]) [_,_] rfl permP5 hpg fun H2 h2=>?_) rfl
 obtain ⟨own,n,h2⟩:=h2
 rw[←hpw] at h2
 generalize prW vars arrays fs o=W at *
 obtain ⟨v,Hv,hacc,rfl⟩:=h2
 have j0:=Asm.joinS_spec (B0:=B0) (w0:=w0) [32] W zo zo
 have hasm:=Asm.assemble_spec (B0:=B0) (w0:=w0) hG hM (join W [32]) o.code zo
 refine gab ?_
 refine oP (pL (c:=v) rfl zm2 rfl) rfl ?_
 refine LOps.sub 87 rfl hacc.sub ?_
 refine oS (sF [_,_] rfl j0 ?_) rfl
 refine gaa ?_
 cases hx:asmP (join W [32]) o.code with
 |error e=>
  rw[hx] at hasm hC
  simp only at hC
  subst hC
  refine oS (sF [_,_] rfl hasm ?_) rfl
  unfold Asm.asmLV
  refine gab ?_
  have he:¬ (e.2:Int)=0:=by
   have h3:=hF.c1
   have h4:=hF.c0
   have:=asm_vals zo hx
   omega
  refine oC rfl (fun _=>?_) (fun hc=>?_)
  ·refine gaa ?_
   exact retRet (hj2.trans hj) (rC (zrt rfl) (zra rfl)) rfl
  ·have h2:(!decide ((e.2:Int)=0))=false:=hc
   simp at h2
   omega
 |ok x=>
  rw[hx] at hasm hC
  simp only at hC
  subst hC
  refine oS (sF [_,_] rfl hasm ?_) rfl
  unfold Asm.asmLV
  refine gab ?_
  refine oC rfl (fun hc=>by cases hc) (fun _=>?_)
  refine gaa ?_
  exact retRet (hj2.trans hj) (rC (zrt rfl) (zra rfl)) rfl
end
end Go.Proofs.YtpbbgkoalnonoaaGreatDoor.Cmp
namespace Go.Stele
mutual
theorem PE_nd:∀ {e:Ex} {k:Nat} {ts:List KT} {d:Nat},PE e k ts d→ndE e≤ts.length∧numE e
 |_,_,_,_,.num h=>⟨by rw[ndE,ndEs];exact zNr _,by rw[numE];exact ⟨h,trivial⟩⟩
 |_,_,_,_,.var h=>⟨by rw[ndE,ndEs];exact zNr _,by rw[numE];exact ⟨by unfold Lt;omega,trivial⟩⟩
 |_,_,_,_,.elem h ha=>by
  obtain ⟨h1,h2⟩:=PE_nd ha
  refine ⟨?_,?_⟩
  ·rw[ndE,ndEs,ndEs]
   simp only[zLa,zLc,zLn]
   omega
  ·rw[numE,numEs,numEs]
   exact ⟨by unfold Lt;omega,h2,trivial⟩
 |_,_,_,_,.call h hl=>by
  obtain ⟨h1,h2⟩:=PEs_nd hl
  refine ⟨?_,?_⟩
  ·rw[ndE]
   simp only[zLa,zLc,zLn]
   omega
  ·rw[numE]
   exact ⟨by unfold Lt;omega,h2⟩
 |_,_,_,_,.neg ha=>by
  obtain ⟨h1,h2⟩:=PE_nd ha
  refine ⟨?_,?_⟩
  ·rw[ndE,ndEs,ndEs]
   simp only[zLa,zLc,zLn]
   omega
  ·rw[numE,numEs,numEs]
   exact ⟨by unfold Lt;omega,h2,trivial⟩
 |_,_,_,_,.not ha=>by
  obtain ⟨h1,h2⟩:=PE_nd ha
  refine ⟨?_,?_⟩
  ·rw[ndE,ndEs,ndEs]
   simp only[zLa,zLc,zLn]
   omega
  ·rw[numE,numEs,numEs]
   exact ⟨by unfold Lt;omega,h2,trivial⟩
 |_,_,_,_,.bin hs ho hk ha hb=>by
  obtain ⟨h1,h2⟩:=PE_nd ha
  obtain ⟨h3,h4⟩:=PE_nd hb
  refine ⟨?_,?_⟩
  ·rw[ndE,ndEs,ndEs,ndEs]
   simp only[zLa,zLc,zLn]
   omega
  ·rw[numE,numEs,numEs,numEs]
   exact ⟨by unfold Lt;omega,h2,h4,trivial⟩
 |_,_,_,_,.par hs ho hk ha hb=>by
  obtain ⟨h1,h2⟩:=PE_nd ha
  obtain ⟨h3,h4⟩:=PE_nd hb
  refine ⟨?_,?_⟩
  ·rw[ndE,ndEs,ndEs,ndEs]
   simp only[zLa,zLc,zLn]
   omega
  ·rw[numE,numEs,numEs,numEs]
   exact ⟨by unfold Lt;omega,h2,h4,trivial⟩
theorem PEs_nd:∀ {l:List Ex} {ts:List KT} {d:Nat},PEs l ts d→ndEs l≤ts.length∧numEs l
 |_,_,_,.nil=>⟨by rw[ndEs];exact Nat.zero_le _,by rw[numEs];trivial⟩
 |_,_,_,.one ha=>by
  obtain ⟨h1,h2⟩:=PE_nd ha
  rw[ndEs,ndEs,numEs,numEs]
  exact ⟨by omega,h2,trivial⟩
 |_,_,_,.more ha hl=>by
  obtain ⟨h1,h2⟩:=PE_nd ha
  obtain ⟨h3,h4⟩:=PEs_nd hl
  refine ⟨?_,?_⟩
  ·rw[ndEs]
   simp only[zLa,zLc]
   omega
  ·rw[numEs]
   exact ⟨h2,h4⟩
end
theorem one_nd {e:Ex} {ts:List KT} {d:Nat} (h:PE e 0 ts d):ndEs [e]≤ts.length∧numEs [e]:=PEs_nd (.one h)
mutual
theorem PS_nd:∀ {s:Sm} {ts:List KT} {d:Nat},PS s ts d→ndS s≤ts.length∧numS s
 |_,_,_,.assign h he=>by
  obtain ⟨h1,h2⟩:=one_nd he
  refine ⟨?_,?_⟩
  ·rw[ndS,ndEs,ndSs]
   simp only[zLa,zLc,zLn]
   omega
  ·rw[numS,numSs]
   exact ⟨by rw[numEs];trivial,h2,trivial,trivial⟩
 |_,_,_,.store h hx he=>by
  obtain ⟨h1,h2⟩:=one_nd he
  obtain ⟨h3,h4⟩:=one_nd hx
  refine ⟨?_,?_⟩
  ·rw[ndS,ndSs]
   simp only[zLa,zLc,zLn]
   omega
  ·rw[numS,numSs]
   exact ⟨h4,h2,trivial,trivial⟩
 |_,_,_,.call h hl=>by
  obtain ⟨h1,h2⟩:=PEs_nd hl
  refine ⟨?_,?_⟩
  ·rw[ndS,ndSs,ndEs,ndEs,ndEs,ndE]
   simp only[zLa,zLc,zLn]
   omega
  ·rw[numS,numSs,numEs,numEs,numEs,numE]
   exact ⟨trivial,⟨⟨by unfold Lt;omega,h2⟩,trivial⟩,trivial,trivial⟩
 |_,_,_,.ret he=>by
  obtain ⟨h1,h2⟩:=one_nd he
  refine ⟨?_,?_⟩
  ·rw[ndS,ndSs]
   simp only[zLa,zLc,zLn]
   have:ndEs []=0:=by rw[ndEs]
   omega
  ·rw[numS,numSs]
   exact ⟨by rw[numEs];trivial,h2,trivial,trivial⟩
 |_,_,_,.halt=>by
  refine ⟨?_,?_⟩
  ·rw[ndS,ndSs,ndEs]
   simp only[zLc,zLn]
   omega
  ·rw[numS,numSs,numEs]
   exact ⟨trivial,trivial,trivial,trivial⟩
 |_,_,_,.ifElse he h1 h2 hne=>by
  obtain ⟨a1,a2⟩:=one_nd he
  obtain ⟨b1,b2⟩:=PSs_nd h1
  obtain ⟨c1,c2⟩:=PSs_nd h2
  refine ⟨?_,?_⟩
  ·rw[ndS]
   simp only[zLa,zLc,zLn]
   have:ndEs []=0:=by rw[ndEs]
   omega
  ·rw[numS]
   exact ⟨by rw[numEs];trivial,a2,b2,c2⟩
 |_,_,_,.ifThen he h1=>by
  obtain ⟨a1,a2⟩:=one_nd he
  obtain ⟨b1,b2⟩:=PSs_nd h1
  refine ⟨?_,?_⟩
  ·rw[ndS]
   simp only[zLa,zLc,zLn]
   have:ndEs []=0:=by rw[ndEs]
   have:ndSs []=0:=by rw[ndSs]
   omega
  ·rw[numS]
   exact ⟨by rw[numEs];trivial,a2,b2,by rw[numSs];trivial⟩
 |_,_,_,.while he h1=>by
  obtain ⟨a1,a2⟩:=one_nd he
  obtain ⟨b1,b2⟩:=PSs_nd h1
  refine ⟨?_,?_⟩
  ·rw[ndS]
   simp only[zLa,zLc,zLn]
   have:ndEs []=0:=by rw[ndEs]
   have:ndSs []=0:=by rw[ndSs]
   omega
  ·rw[numS]
   exact ⟨by rw[numEs];trivial,a2,b2,by rw[numSs];trivial⟩
theorem PSs_nd:∀ {l:List Sm} {ts:List KT} {d:Nat},PSs l ts d→ndSs l≤ts.length∧numSs l
 |_,_,_,.nil=>⟨by rw[ndSs];exact Nat.zero_le _,by rw[numSs];trivial⟩
 |_,_,_,.cons h hl=>by
  obtain ⟨h1,h2⟩:=PS_nd h
  obtain ⟨h3,h4⟩:=PSs_nd hl
  refine ⟨?_,?_⟩
  ·rw[ndSs]
   simp only[zLa]
   omega
  ·rw[numSs]
   exact ⟨h2,h4⟩
end
theorem PFs_nd:∀ (fs:List FnD) (ts:List KT),PFs fs ts→ndFs fs≤ts.length∧∀ f∈fs,numSs f.body
 |[],ts,h=>⟨by rw[ndFs];exact Nat.zero_le _,fun f hf=>(List.not_mem_nil hf).elim⟩
 |f::fs,ts,h=>by
  cases h with
  |cons h hd hl=>
   obtain ⟨h1,h2⟩:=PFs_nd fs _ hl
   cases h with
   |mk hn hp hlo hb=>
    rename_i nm ps ls b ts' d'
    obtain ⟨h3,h4⟩:=PSs_nd hb
    have h5:=commas_ge ps
    have h6:=varK_ge ls
    refine ⟨?_,?_⟩
    ·rw[ndFs]
     unfold ndF
     simp only[zLa,zLc,zLn]
     omega
    ·intro f hf
     rcases zMi.1 hf with rfl|hf
     ·exact h4
     ·exact h2 f hf
theorem arKs_len (l:List Ar):l.length≤((l.map arK).flatten).length:=by
 induction l with
 |nil=>exact Nat.zero_le _
 |cons a l ih=>
  rw[zMc,List.flatten_cons,zLa]
  unfold arK
  simp only[zLc,zLn]
  unfold arK at ih
  omega
structure SzP (p:Pr) (n:Nat):Prop where
 vars:p.vars.length≤n
 arrays:p.arrays.length≤n
 size:∀ a∈p.arrays,a.size<4294967296
 funcs:ndFs p.funcs≤n
 nums:∀ f∈p.funcs,numSs f.body
theorem PP_nd {p:Pr} {ts:List KT} (h:PP p ts):SzP p ts.length:=by
 cases h with
 |mk hv ha hf=>
  rename_i v a f ts
  obtain ⟨h1,h2⟩:=PFs_nd f ts hf
  have h3:=varK_ge v
  have h4:=arKs_len a
  refine ⟨?_,?_,fun x hx=>(ha x hx).2,?_,h2⟩ <;> · simp only[zLa];omega
theorem SzP.mono {p:Pr} {n m:Nat} (h:SzP p n) (hm:n≤m):SzP p m:=
 ⟨zNt h.vars hm,zNt h.arrays hm,h.size,zNt h.funcs hm,h.nums⟩
theorem parse_sz {s:List UInt8} {T:List Tok} {p:Pr} {i op:Nat} (hT:lexAt s 1=.ok T) (hs:sProg T (10 * T.length+20) ⟨[],[],[]⟩ 0 0=some (.ok p i op)):SzP p s.length:=by
 obtain ⟨ts,h3,h4⟩:=src_print (lexP_again _ _ _ _ hT) hs
 exact (PP_nd h3).mono (zNt h4 (lexP_ok _ _ _ _ hT).1)
end Go.Stele
namespace Go.Proofs.YtpbbgkoalnonoaaGreatDoor.Inp
open Go.GL Go.RowKit Go.Stele
theorem parse_both {s:List UInt8} (hs:s.length≤60000):∃ l,parseP s=((parseQ s).1,l,(parseQ s).2)∧SzP (parseQ s).1 s.length:=by
 have h0:SzP ⟨[],[],[]⟩ s.length:=⟨Nat.zero_le _,Nat.zero_le _,fun a ha=>(List.not_mem_nil ha).elim,Nat.zero_le _,fun a ha=>(List.not_mem_nil ha).elim⟩
 have hL:lexAllP s=lexAt s 1:=by
  unfold lexAllP
  rw[if_neg zo]
  rfl
 unfold parseP parseQ
 rw[hL]
 cases hT:lexAt s 1 with
 |error x=>
  obtain ⟨l,e⟩:=x
  exact ⟨l,rfl,h0⟩
 |ok T=>
  simp only
  obtain ⟨r,hr⟩:=sProg_ends T (10 * T.length+20) noPr 0 0 (Nat.zero_le _) zo
  have hr':sProg T (10 * T.length+20) ⟨[],[],[]⟩ 0 0=some r:=hr
  rw[hr,hr']
  cases r with
  |err l e=>exact ⟨l,rfl,h0⟩
  |ok p i op=>exact ⟨0,rfl,parse_sz hT hr'⟩
theorem encPr_eq (p:Pr):encPr p=Chk.encPrG p.vars (p.arrays.map fun a=>(a.name,(a.size:Int))) p.funcs:=by
 unfold encPr Chk.encPrG
 rw[List.map_map]
 rfl
attribute [local irreducible] LOps LCode LStep LCalls Go.GL.Pure QThen QBlock RetPost LQ LAny LLate LLateOp LS
section
variable {B0:Nat} {w0:World}
end
end Go.Proofs.YtpbbgkoalnonoaaGreatDoor.Inp
namespace Go.Proofs.YtpbbgkoalnonoaaGreatDoor.Cmp
open Go.GL Go.RowKit Go.Stele
open Go.Lib (decDigits itoa join)
def bldR (r:Pr×Int×Int) (o:Org):Wd×Int×Int:=if r.2.2≠0 then ([],r.2.1,r.2.2) else match buildC r.1.vars (arrsP r.1) r.1.funcs o with
 |.error e=>([],0,e)
 |.ok x=>(x,0,0)
def bldLV (b:Wd×Int×Int):LV:=.tuple [str b.1,int .i64 b.2.1,int .i64 b.2.2]
theorem parse_size (s:List UInt8):SzP (parseP s).1 60000:=by
 by_cases h:s.length≤60000
 ·obtain ⟨l,h1,h2⟩:=Inp.parse_both h
  rw[h1]
  exact ⟨zNt h2.vars h,zNt h2.arrays h,h2.size,zNt h2.funcs h,h2.nums⟩
 ·have h0:SzP ⟨[],[],[]⟩ 60000:=⟨Nat.zero_le _,Nat.zero_le _,fun a ha=>(List.not_mem_nil ha).elim,Nat.zero_le _,fun a ha=>(List.not_mem_nil ha).elim⟩
  have hL:lexAllP s=.error (0,6):=by unfold lexAllP;rw[if_pos zo]
  have:parseP s=(noPr,0,6):=by unfold parseP;rw[hL]
  rw[this]
  exact h0
attribute [local irreducible] LOps LCode LStep LCalls Go.GL.Pure QThen QBlock RetPost LQ LAny LLate LLateOp LS
section
variable {B0:Nat} {w0:World}
theorem compile_pr (hG:GW B0 w0) (hM:Asm.GM w0) {p:Pr} {n:Nat} (h:SzP p n) (hn:n≤2000000) (o:Org) (o1:I64 o.code) (o2:I64 o.scalars) (o3:I64 o.arrays):LCalls (KC B0 w0) 11 [encPr p,orgLV o] [] (Ret (cmpLV (cmpP p.vars (arrsP p) p.funcs o))):=by
 rw[Inp.encPr_eq]
 exact compile_spec hG hM _ _ _ o (zNt h.vars hn) (by rw[zLm];exact zNt h.arrays hn) (fun a ha=>by
  obtain ⟨x,hx,rfl⟩:=List.mem_map.1 ha
  have:=h.size x hx
  constructor
  ·show (-9223372036854775808:Int)≤(x.size:Int)
   omega
  ·show (x.size:Int)<9223372036854775808
   omega) (zNt h.funcs hn) h.nums o1 o2 o3
theorem build_spec (hG:GW B0 w0) (hM:Asm.GM w0) (s:List UInt8) (o:Org) (o1:I64 o.code) (o2:I64 o.scalars) (o3:I64 o.arrays):LCalls (KC B0 w0) 13 [str s,orgLV o] [] (Ret (bldLV (bldR (parseP s) o))):=by
 have hps:=parse_any (B0:=B0) (w0:=w0) hG s
 have hsz:=parse_size s
 generalize parseP s=r at hps hsz ⊢
 obtain ⟨p,l,e⟩:=r
 simp only at hsz
 have hcp:=compile_pr (B0:=B0) (w0:=w0) hG hM hsz zDd o o1 o2 o3
 generalize hR:bldR (p,l,e) o=R
 unfold bldR at hR
 simp only at hR
 have eOr:orgLV o=.agg [int .i64 o.code,int .i64 o.scalars,int .i64 o.arrays]:=rfl
 rw[eOr] at hcp ⊢
 refine cI Tryz.func13 rfl (n:=44) rfl rfl rfl ?_
 refine gaf ?_
 refine oS (S.box rfl fun b3=>?_) rfl
 refine gaa ?_
 refine oS (sF [_] rfl hps ?_) rfl
 unfold encParse
 simp only
 refine gac ?_
 refine oS (sA fun b7=>?_) rfl
 refine gab ?_
 by_cases hc0:e=0
 rotate_left
 ·rw[if_pos hc0] at hR
  subst hR
  refine oC rfl (fun _=>?_) (fun hc=>?_)
  ·refine gaa ?_
   exact retRet rfl (rC (zrt rfl) (rC (zrt rfl) (zra rfl))) rfl
  ·have h2:(!decide (e=0))=false:=hc
   simp at h2
   exact absurd h2 hc0
 refine oC rfl (fun hc=>?_) (fun _=>?_)
 ·have h2:(!decide (e=0))=true:=hc
  simp[hc0] at h2
 rw[if_neg (by simpa using hc0)] at hR
 unfold buildC at hR
 cases hcm:cmpP p.vars (arrsP p) p.funcs o with
 |error er=>
  have hne:=cmp_ne hcm
  rw[hcm] at hR hcp
  simp only at hR
  subst hR
  refine gab ?_
  refine oS (sF [_,_] rfl hcp ?_) rfl
  unfold cmpLV
  refine gab ?_
  refine oC rfl (fun _=>?_) (fun hc=>?_)
  ·refine gaa ?_
   exact retRet rfl (rC (zrt rfl) (rC (zrt rfl) (zra rfl))) rfl
  ·have h2:(!decide (er=0))=false:=hc
   simp at h2
   exact absurd h2 hne
 |ok t=>
  obtain ⟨x,hx,_⟩:=cmp_asm hcm
  have htl:t.length≤300000000:=by
   have h0:=hcm
   have hpc:checkP p.vars (arrsP p) p.funcs=0:=by
    unfold cmpP at h0
    split at h0
    ·cases h0
    ·rename_i h;exact Classical.not_not.1 h
   have hft:fitsP p.vars (arrsP p) p.funcs o=true:=by
    unfold cmpP at h0
    split at h0
    ·cases h0
    split at h0
    ·cases h0
    rename_i h;simpa using h
   have hts:t=join (prW p.vars (arrsP p) p.funcs o) [32]:=by
    unfold cmpP at h0
    split at h0
    ·cases h0
    split at h0
    ·cases h0
    split at h0
    ·cases h0
    injection h0 with h0
    exact h0.symm
   have hw:=(prW_tot (P:=p) (o:=o) hpc hsz.nums hft (zNt hsz.funcs zDd)).1
   have hj:=join_tot (prW p.vars (arrsP p) p.funcs o)
   have hw2:tot (prW p.vars (arrsP p) p.funcs o)≤60+60 * ndFs p.funcs:=hw
   have:=hsz.funcs
   rw[hts]
   omega
  have hasm:=Asm.assemble_spec (B0:=B0) (w0:=w0) hG hM t o.code htl
  rw[hcm] at hR hcp
  simp only at hR
  rw[hx] at hR hasm
  simp only at hR
  subst hR
  refine gab ?_
  refine oS (sF [_,_] rfl hcp ?_) rfl
  unfold cmpLV
  refine gab ?_
  refine oC rfl (fun hc=>by cases hc) (fun _=>?_)
  refine gab ?_
  refine oS (sF [_,_] rfl hasm ?_) rfl
  unfold Asm.asmLV
  refine gab ?_
  exact retRet rfl (rC (zrt rfl) (rC (zrt rfl) (zra rfl))) rfl
def defO:Org:=⟨10000,0,100000⟩
theorem defaults_spec:LCalls (KC B0 w0) 17 [] [] (Ret (orgLV defO)):=by
 refine cI Tryz.func17 rfl (n:=2) rfl rfl rfl ?_
 refine gaf ?_
 refine oS (sA fun b=>?_) rfl
 refine gab ?_
 exact retRet rfl (rC (rA rfl zm0 rfl zsr) rN) rfl
def awakeSrc:List UInt8:=[102,117,110,99,32,109,97,105,110,40,41,32,123,32,111,117,116,40,39,65,39,41,59,32,125]
theorem awake_bld:bldR (parseP awakeSrc) defO=([48,49,48,48,49,48,58,48,33,36,54,53,46,48,32,48,33,48,59],0,0):=by kernel_rfl
end
end Go.Proofs.YtpbbgkoalnonoaaGreatDoor.Cmp
namespace Go.GL
open Go.RowKit
def chkStrF (P : Program) (f : Field) (o : Nat) : Bool := f.name != "_" && f.offset == o && (match P.underlying f.type with | some .string => true | _ => false)
def chkI64 (P : Program) (f : Field) (o : Nat) : Bool := f.name != "_" && f.offset == o && (match P.underlying f.type with | some (.int .i64) => true | _ => false)
theorem chkI64_of {P : Program} {f : Field} {o : Nat} (h : chkI64 P f o = true) : f.name ≠ "_" ∧ f.offset = o ∧ P.underlying f.type = some (.int .i64) := by
 unfold chkI64 at h
 simp only[zBa,bne_iff_ne,beq_iff_eq] at h
 obtain ⟨⟨h1,h2⟩,h3⟩:=h
 refine ⟨h1,h2,?_⟩
 split at h3
 ·assumption
 ·cases h3
theorem run_part_of {P:Program} {t:TypeId} {d:TypeDesc} (hu:P.underlying t=some d) (hp:d=.string∨d=.int .i64) {xs:Array Value} {off:Nat} {v:Value} (hx:xs[off]? = some v) (w:World):(part t xs off).run P w=.ok v w:=
 run_part_plain w (by rcases hp with rfl|rfl <;> simp[Program.plainKey,hu]) hx
theorem run_eqInt {P:Program} {t:TypeId} (hu:P.underlying t=some (.int .i64)) (d:Nat) (a b:Int) (w:World):(Op.equalIn (d+1) t (.int .i64 a) (.int .i64 b)).run P w=.ok (decide (a=b)) w:=by
 simp only[Op.equalIn,Sem.run_bind,run_underlying' hu,Result.andThen_ok,Sem.run_pure,if_true]
 congr 1
section
variable {C:Ctx} {e:Env} {H:Heap} {dst:Option Nat} {ty:TypeId} {pos:String} {aft:Array Edge} {g:Option (Nat×Bool)} {x y:Operand}
end
theorem LCalls.argsSub {C:Ctx} {f:FuncId} {us bs:List LV} {H:Heap} {R:LRes→Heap→Prop} (hs:SubL us bs) (h:LCalls C f bs H R):LCalls C f us H R:=fun vs w L hr hH=>h vs w L (hs.repL hr) hH
end Go.GL
namespace Go.GL
open Go.RowKit
class TInt3 (P:Program) (t:TypeId):Prop where
 und:P.underlying t=some (.struct (P.fieldsOf t))
 apart:P.stoodInHeld t=false
 guard:P.eqGuardType P.depth t=false
 fields : ∃ f0 f1 f2 : Field, (P.fieldsOf t).toList = [f0, f1, f2] ∧ (f0.name ≠ "_" ∧ f0.offset = 0 ∧ P.underlying f0.type = some (.int .i64)) ∧ (f1.name ≠ "_" ∧ f1.offset = 1 ∧ P.underlying f1.type = some (.int .i64)) ∧ (f2.name ≠ "_" ∧ f2.offset = 2 ∧ P.underlying f2.type = some (.int .i64))
def chkInt3 (P:Program) (t:TypeId):Bool:=(match P.underlying t with|some (.struct _)=>true|_=>false) && !P.stoodInHeld t && !P.eqGuardType P.depth t && (match (P.fieldsOf t).toList with|[f0,f1,f2]=>chkI64 P f0 0 && chkI64 P f1 1 && chkI64 P f2 2|_=>false)
theorem TInt3.of {P:Program} {t:TypeId} (h:chkInt3 P t=true):TInt3 P t:=by
 unfold chkInt3 at h
 simp only[zBa,Bool.not_eq_true'] at h
 obtain ⟨⟨⟨h1,h2⟩,h3⟩,h4⟩:=h
 refine ⟨?_,h2,h3,?_⟩
 ·split at h1
  ·rename_i fs hu
   rw[hu]
   simp[Program.fieldsOf,hu]
  ·cases h1
 ·split at h4
  ·rename_i f0 f1 f2 hf
   simp only[zBa] at h4
   exact ⟨f0,f1,f2,hf,chkI64_of h4.1.1,chkI64_of h4.1.2,chkI64_of h4.2⟩
  ·cases h4
theorem run_eqInt3 {P:Program} {t:TypeId} [h:TInt3 P t] (a x u:Int) (w:World) :
  (Op.equal t (.agg #[.int .i64 a,.int .i64 x,.int .i64 u]) (.agg #[.int .i64 a,.int .i64 x,.int .i64 u])).run P w=.ok true w:=by
 obtain ⟨f0,f1,f2,hf,⟨n0,o0,u0⟩,⟨n1,o1,u1⟩,⟨n2,o2,u2⟩⟩:=h.fields
 rw[equal_step,run_equalIn_struct w 9999 t _ _ h.und h.apart,hf]
 have p0:(part f0.type #[.int .i64 a,.int .i64 x,.int .i64 u] f0.offset).run P w=.ok (.int .i64 a) w:=run_part_of u0 (.inr rfl) (by rw[o0];try rfl) w
 have p1:(part f1.type #[.int .i64 a,.int .i64 x,.int .i64 u] f1.offset).run P w=.ok (.int .i64 x) w:=run_part_of u1 (.inr rfl) (by rw[o1];try rfl) w
 have p2:(part f2.type #[.int .i64 a,.int .i64 x,.int .i64 u] f2.offset).run P w=.ok (.int .i64 u) w:=run_part_of u2 (.inr rfl) (by rw[o2];try rfl) w
 have q0:(Op.equalIn 9999 f0.type (.int .i64 a) (.int .i64 a)).run P w=.ok (decide (a=a)) w:=run_eqInt u0 9998 a a w
 have q1:(Op.equalIn 9999 f1.type (.int .i64 x) (.int .i64 x)).run P w=.ok (decide (x=x)) w:=run_eqInt u1 9998 x x w
 have q2:(Op.equalIn 9999 f2.type (.int .i64 u) (.int .i64 u)).run P w=.ok (decide (u=u)) w:=run_eqInt u2 9998 u u w
 simp only[Op.eqFields,n0,n1,n2,ne_eq,not_false_eq_true,if_true,Sem.run_bind,p0,q0,p1,q1,p2,q2,Result.andThen_ok,decide_true,Bool.not_true,Bool.false_eq_true,if_false,Sem.run_pure]
section
variable {C:Ctx} {e:Env} {H:Heap} {dst:Option Nat} {ty:TypeId} {pos:String} {aft:Array Edge} {g:Option (Nat×Bool)} {x y:Operand}
theorem agg_int3 {ρ:Operand→Value} {w:World} {L:Live} (h:∀ x,Rep w L (e.ev x) (ρ x)) {x:Operand} {a i j:Int} (hx:e.ev x=.agg [int .i64 a,int .i64 i,int .i64 j]):ρ x=.agg #[.int .i64 a,.int .i64 i,.int .i64 j]:=by
 have hv:=h x
 rw[hx] at hv
 simp only[Rep,RepL,int] at hv
 obtain ⟨vs,h1,v0,r0,e0,rfl,v1,r1,e1,rfl,v2,r2,e2,rfl,e3⟩:=hv
 rw[h1,e0,e1,e2,e3]
theorem Pure.eqInt3 {t yT:TypeId} [h:TInt3 C.P t] {a i j:Int} (hx:e.ev x=.agg [int .i64 a,int .i64 i,int .i64 j]) (hy:e.ev y=.agg [int .i64 a,int .i64 i,int .i64 j]) :
  Pure C ⟨dst,.binOp .eql t x y yT,ty,pos,aft,g⟩ e H (bool true):=
 .of_any fun ρ _ _ hr=>⟨_,rep_atom,fun w'=>by
  have h1:=agg_int3 hr hx
  have h2:=agg_int3 hr hy
  have he:(eqGuard .eql t x y (.agg #[.int .i64 a,.int .i64 i,.int .i64 j]) (.agg #[.int .i64 a,.int .i64 i,.int .i64 j])).run C.P w'=.ok () w':=by
   simp[eqGuard,h.guard]
  have hb:binOp .eql t (.agg #[.int .i64 a,.int .i64 i,.int .i64 j]) (.agg #[.int .i64 a,.int .i64 i,.int .i64 j])=(do Pure.pure (.bool (←Op.equal t (.agg #[.int .i64 a,.int .i64 i,.int .i64 j]) (.agg #[.int .i64 a,.int .i64 i,.int .i64 j])))):=rfl
  simp only[execOp,h1,h2,he,hb,Sem.run_bind,Sem.run_pure,Result.andThen_ok,run_eqInt3]⟩
end
end Go.GL
namespace Go.Proofs.YtpbbgkoalnonoaaGreatDoor.Cmp
open Go.GL Go.RowKit Go.Stele
instance:TInt3 Tryz.prog 28:=.of zk
attribute [local irreducible] LOps LCode LStep LCalls Go.GL.Pure QThen QBlock RetPost LQ LAny LLate LLateOp LS
section
variable {B0:Nat} {w0:World}
theorem awake_spec (hG:GW B0 w0) (hM:Asm.GM w0):LCalls (KC B0 w0) 10 [] [] (Ret (bool true)):=by
 have hb:=build_spec (B0:=B0) (w0:=w0) hG hM awakeSrc defO (by unfold I64;decide) (by unfold I64;decide) (by unfold I64;decide)
 rw[awake_bld] at hb
 have hd:=defaults_spec (B0:=B0) (w0:=w0)
 have eD:orgLV defO=.agg [int .i64 10000,int .i64 0,int .i64 100000]:=rfl
 rw[eD] at hb hd
 unfold bldLV at hb
 refine cI Tryz.func10 rfl (n:=25) rfl rfl rfl ?_
 refine gai ?_
 refine oS (sF [] rfl hd ?_) rfl
 refine oS (sF [_,_] rfl hb ?_) rfl
 refine gaa ?_
 refine oS (sF [] rfl hd ?_) rfl
 refine gac ?_
 refine oP (Pure.eqInt3 rfl rfl) rfl ?_
 refine gad ?_
 exact retRet rfl (zra rfl) rfl
end
end Go.Proofs.YtpbbgkoalnonoaaGreatDoor.Cmp
namespace Go.Stele
open Go.Lib
def EndC (c:UInt8):Prop:=c=32∨c=10∨c=35
instance (c:UInt8):Decidable (EndC c):=by unfold EndC;infer_instance
theorem flush_nil:flush []=[]:=rfl
theorem scan_end {c:UInt8} (h:EndC c) (cur r:List UInt8):scanW cur false (c::r)=flush cur++scanW [] false (c::r):=by
 rcases h with rfl|rfl|rfl <;> simp[scanW,flush_nil]
theorem scan_nl (com:Bool) (r:List UInt8):scanW [] com (10::r)=scanW [] false r:=by
 simp[scanW,flush_nil]
theorem scan_hash (com:Bool) (r:List UInt8):scanW [] com (35::r)=scanW [] true r:=by
 cases com <;> simp[scanW,flush_nil]
theorem scan_com {c:UInt8} (h:c≠10) (r:List UInt8):scanW [] true (c::r)=scanW [] true r:=by
 simp[scanW,h]
theorem scan_sp (r:List UInt8):scanW [] false (32::r)=scanW [] false r:=by
 simp[scanW,flush_nil]
theorem scan_ch {c:UInt8} (h:¬ EndC c) (cur r:List UInt8):scanW cur false (c::r)=scanW (cur++[c]) false r:=by
 have h1:c≠32:=fun e=>h (.inl e)
 have h2:c≠10:=fun e=>h (.inr (.inl e))
 have h3:c≠35:=fun e=>h (.inr (.inr e))
 rw[scanW,if_neg h2,if_neg zDd,if_neg h3,if_neg h1]
def fromI:Option Nat→Int
 |none => -1
 |some p=>p
def curOf (s:List UInt8) (i:Nat):Option Nat→List UInt8
 |none=>[]
 |some p=>(s.take i).drop p
theorem cur_ne {s:List UInt8} {i p:Nat} (hp:p<i) (hi:i≤s.length):curOf s i (some p)≠[]:=by
 intro h
 have:=congrArg List.length h
 simp only[curOf,List.length_drop,List.length_take,zLn] at this
 omega
theorem cur_next {s:List UInt8} {i p:Nat} (hp:p≤i) (hi:i<s.length):curOf s (i+1) (some p)=(s.take i).drop p++[s[i]]:=by
 simp only[curOf]
 rw[List.take_succ_eq_append_getElem hi,List.drop_append_of_le_length (by rw[List.length_take];omega)]
theorem join_snoc1:∀ (l:List Wd) (x:Wd),l≠[]→join (l++[x]) [32]=join l [32]++[32]++x
 |[],_,h=>absurd rfl h
 |[a],x,_=>by simp[join]
 |a::b::r,x,_=>by
  have h:=join_snoc1 (b::r) x (by simp)
  rw[List.cons_append,List.cons_append,join_two',←List.cons_append,h,join_two']
  simp
end Go.Stele
namespace Go.Proofs.YtpbbgkoalnonoaaGreatDoor.Asm
open Go.GL Go.RowKit Go.Stele
attribute [local irreducible] LOps LCode LStep LCalls Go.GL.Pure QThen QBlock RetPost LQ LAny LLate LLateOp
section
variable {B0:Nat} {w0:World}
theorem words18_spec (s:List UInt8) (hs:s.length≤300000000):LCalls (KC B0 w0) 65 [str s] [] (RetIf fun lv=>∃ ts:List (Wd×Nat),lv=.list (ts.map tokLV)∧ts.map (·.1)=wordsP s):=by
 refine cI Tryz.func65 rfl (n:=82) rfl rfl rfl ?_
 refine gai ?_
 refine oS (S.litA [] rfl eN rfl rfl rfl fun b=>?_) rfl
 refine oP (pA (lv:=.app b 0 2 []) rfl) rfl ?_
 refine gaa ?_
 refine oL (fun k ls H=>∃ (i:Nat) (out:List (Wd×Nat)) (v:LV) (ln:Nat) (o:Option Nat) (com:Bool),i≤s.length∧k=s.length-i∧ls=[(0,str s),(3,v),(4,int .i64 (ln:Nat)),(5,int .i64 (fromI o)),(6,bool com),(7,int .i64 (i:Nat))]∧Acc 2 v (out.map tokLV) H []∧(∀ p,o=some p→p<i∧com=false)∧out.length≤i∧ln≤i+1∧out.map (·.1)++scanW (curOf s i o) com (s.drop i)=wordsP s)
  ⟨_,_,_,⟨0,[],.app b 0 2 [],1,none,false,Nat.zero_le _,rfl,rfl,Acc.row,by simp,Nat.zero_le _,by omega,scan_words s⟩,⟨rfl,rfl,rfl,rfl,rfl,rfl,trivial⟩,zhR _⟩ ?_
 rintro k ls H ⟨i,out,v,ln,o,com,hi,rfl,rfl,hacc,ho,hlen,hln,hE⟩ j hj
 have hol:(out.map tokLV).length=out.length:=zLm _
 refine gab ?_
 refine oC rfl (fun hc=>?_) (fun hc=>?_)
 ·refine gab ?_
  refine oB 20 rfl (fun h1=>?_) (fun h1=>?_)
  ·have hie:i=s.length:=by have:=zt h1;omega
   subst hie
   rw[List.drop_length] at hE
   cases com with
   |true=>
    obtain rfl:o=none:=by
     cases o with
     |none=>rfl
     |some p=>cases (ho p rfl).2
    have hE':out.map (·.1)=wordsP s:=by simpa [scanW,curOf,flush_nil] using hE
    refine gaa ?_
    refine oC rfl (fun h=>by cases h) (fun h=>?_)
    refine gab ?_
    refine oC rfl (fun h2=>?_) (fun h2=>absurd h2 (by simp))
    refine LCode.sub (d:=3) (v:=v) rfl hacc.sub ?_
    refine LCode.weak zhn ?_
    refine gab ?_
    exact retRetIf hj (rC (rT (v:=.list _) rfl zsr) rN) ⟨out,rfl,hE'⟩
   |false=>
    cases o with
    |none=>
     have hE':out.map (·.1)=wordsP s:=by simpa [scanW,curOf,flush_nil] using hE
     refine gab ?_
     refine oC rfl (fun h=>by cases h) (fun h=>?_)
     refine gab ?_
     refine oC rfl (fun h2=>?_) (fun h2=>absurd h2 (by simp))
     refine LCode.sub (d:=3) (v:=v) rfl hacc.sub ?_
     refine LCode.weak zhn ?_
     refine gab ?_
     exact retRetIf hj (rC (rT (v:=.list _) rfl zsr) rN) ⟨out,rfl,hE'⟩
    |some p=>
     obtain ⟨hp,_⟩:=ho p rfl
     have hne:=cur_ne hp (zNr s.length)
     have hE':out.map (·.1)++[curOf s s.length (some p)]=wordsP s:=by simpa [scanW,flush,hne] using hE
     refine gab ?_
     refine oC rfl (fun h=>?_) (fun h=>by cases h)
     refine gaf ?_
     refine oP (pM (lv:=v) rfl) rfl ?_
     refine gav ?_
     refine oP (Pure.sslice (i:=((p:Nat):Int)) (j:=((s.length:Nat):Int)) rfl ⟨_,rfl⟩ ⟨_,rfl⟩ zo zo zo) rfl ?_
     refine gac ?_
     refine oS (sL [_] rfl (zeC rfl rfl eN) rfl rfl rfl ?_) rfl
     refine oS (S.acc rfl hacc rfl (by simp;rfl) rfl (by simp;omega) fun v2 H2 hacc2=>?_) rfl
     refine oP (pA (lv:=v2) rfl) rfl ?_
     refine gab ?_
     refine oC rfl (fun h2=>?_) (fun h2=>absurd h2 (by simp))
     have hacc3:Acc 2 v2 ((out++[(curOf s s.length (some p),ln)]).map tokLV) H2 []:=by rw[zMa];exact hacc2
     refine LCode.sub (d:=3) (v:=v2) rfl hacc3.sub ?_
     refine LCode.weak zhn ?_
     refine gab ?_
     exact retRetIf hj (rC (rT (v:=.list _) rfl zsr) rN) ⟨_,rfl,by rw[zMa];exact hE'⟩
  ·have hlt:i<s.length:=by
    have:=zf h1
    have:=zt hc
    omega
   rw[List.drop_eq_getElem_cons hlt] at hE
   refine gam ?_
   refine LOps.cut [(0,str s),(3,v),(4,int .i64 (ln:Nat)),(5,int .i64 (fromI o)),(6,bool com),(7,int .i64 (i:Nat)),(8,bool (decide (EndC s[i])))] ?_ (fun j2 hj2=>?_)
   ·refine oP (Pure.sindex (c:=s[i]) rfl rfl zo (by simp)) rfl ?_
    refine gad ?_
    refine oB 26 rfl (fun g1=>?_) (fun g1=>?_)
    ·have e:s[i]=32:=(cv_nat _ 32 zDd).2 (zt g1)
     refine gad ?_
     exact ⟨⟨rfl,rfl,rfl,rfl,rfl,rfl,bool_eq (by rw[decide_eq_true (show EndC s[i] from .inl e)]),trivial⟩,rfl,rfl⟩
    ·have e1:¬ s[i]=32:=fun e=>zf g1 ((cv_nat _ 32 zDd).1 e)
     refine gam ?_
     refine oP (Pure.sindex (c:=s[i]) rfl rfl zo (by simp)) rfl ?_
     refine gad ?_
     refine oB 32 rfl (fun g2=>?_) (fun g2=>?_)
     ·have e:s[i]=10:=(cv_nat _ 10 zDd).2 (zt g2)
      refine gad ?_
      exact ⟨⟨rfl,rfl,rfl,rfl,rfl,rfl,bool_eq (by rw[decide_eq_true (show EndC s[i] from .inr (.inl e))]),trivial⟩,rfl,rfl⟩
     ·have e2:¬ s[i]=10:=fun e=>zf g2 ((cv_nat _ 10 zDd).1 e)
      refine gam ?_
      refine oP (Pure.sindex (c:=s[i]) rfl rfl zo (by simp)) rfl ?_
      refine gad ?_
      exact ⟨⟨rfl,rfl,rfl,rfl,rfl,rfl,bool_eq (by
       rw[decide_eq_decide]
       constructor
       ·exact fun e=>.inr (.inr ((cv_nat _ 35 zDd).2 e))
       ·rintro (e|e|e)
        ·exact absurd e e1
        ·exact absurd e e2
        ·exact (cv_nat _ 35 zDd).1 e),trivial⟩,rfl,rfl⟩
   refine LCode.seq ?_
   refine LCode.midC (A:=List (Wd×Nat)×LV×Heap×Option Nat) (fun a=>[(0,str s),(3,a.2.1),(4,int .i64 (ln:Nat)),(5,int .i64 (fromI a.2.2.2)),(6,bool com),(7,int .i64 (i:Nat)),(8,bool (decide (EndC s[i])))]) (fun a=>a.2.2.1) (fun a=>Acc 2 a.2.1 (a.1.map tokLV) a.2.2.1 []∧(∀ p,a.2.2.2=some p→p<i∧com=false∧¬ EndC s[i])∧a.1.length≤i+1∧a.1.map (·.1)++scanW (curOf s i a.2.2.2) com (s[i]::s.drop (i+1))=wordsP s) ?_ ?_
   ·cases com with
    |true=>
     obtain rfl:o=none:=by
      cases o with
      |none=>rfl
      |some p=>cases (ho p rfl).2
     refine gaa ?_
     refine oC rfl (fun h=>by cases h) (fun h=>?_)
     refine gar ?_
     exact ⟨(out,v,H,none),⟨hacc,by simp,by simp only;omega,hE⟩,⟨rfl,rfl,rfl,rfl,rfl,rfl,rfl,trivial⟩,zhR _,rfl⟩
    |false=>
     cases o with
     |none=>
      refine gab ?_
      refine oC rfl (fun h=>by cases h) (fun h=>?_)
      refine gar ?_
      exact ⟨(out,v,H,none),⟨hacc,by simp,by simp only;omega,hE⟩,⟨rfl,rfl,rfl,rfl,rfl,rfl,rfl,trivial⟩,zhR _,rfl⟩
     |some p=>
      obtain ⟨hp,_⟩:=ho p rfl
      have hne:=cur_ne hp hi
      refine gab ?_
      refine oC rfl (fun h=>?_) (fun h=>?_)
      ·have hec:EndC s[i]:=zt h
       rw[scan_end hec] at hE
       have hfl:flush (curOf s i (some p))=[curOf s i (some p)]:=by unfold flush;rw[if_neg hne]
       rw[hfl,←zAs] at hE
       refine gaf ?_
       refine oP (pM (lv:=v) rfl) rfl ?_
       refine gav ?_
       refine oP (Pure.sslice (i:=((p:Nat):Int)) (j:=((i:Nat):Int)) rfl ⟨_,rfl⟩ ⟨_,rfl⟩ zo zo zo) rfl ?_
       refine gac ?_
       refine oS (sL [_] rfl (zeC rfl rfl eN) rfl rfl rfl ?_) rfl
       refine oS (S.acc rfl hacc rfl (by simp;rfl) rfl (by simp;omega) fun v2 H2 hacc2=>?_) rfl
       refine oP (pA (lv:=v2) rfl) rfl ?_
       refine gai ?_
       exact ⟨(out++[(curOf s i (some p),ln)],v2,H2,none),⟨by rw[zMa];exact hacc2,by simp,by simp;omega,by rw[zMa];exact hE⟩,⟨rfl,rfl,rfl,rfl,rfl,rfl,rfl,trivial⟩,zhR _,rfl⟩
      ·have hec:¬ EndC s[i]:=zf h
       refine gar ?_
       exact ⟨(out,v,H,some p),⟨hacc,by rintro q hq;cases hq;exact ⟨hp,rfl,hec⟩,by simp only;omega,hE⟩,⟨rfl,rfl,rfl,rfl,rfl,rfl,rfl,trivial⟩,zhR _,rfl⟩
   clear hE ho hlen hol hacc
   rintro ⟨out2,v2,H2,o2⟩ ⟨hacc2,ho2,hlen2,hE2⟩ j3 hj3
   simp only at hacc2 ho2 hlen2 hE2
   have d3:=hj3.trans (hj2.trans hj)
   have hnone:(com=true∨EndC s[i])→o2=none:=fun hh=>by
    cases o2 with
    |none=>rfl
    |some p=>
     obtain ⟨_,h2,h3⟩:=ho2 p rfl
     rcases hh with hh|hh
     ·rw[hh] at h2;cases h2
     ·exact absurd hh h3
   refine gab ?_
   refine oC rfl (fun h=>by have:=zt h;omega) (fun h=>?_)
   refine gaa ?_
   refine oP (Pure.sindex (c:=s[i]) rfl rfl zo (by simp)) rfl ?_
   refine gad ?_
   refine oC rfl (fun g1=>?_) (fun g1=>?_)
   ·have e:s[i]=35:=(cv_nat _ 35 zDd).2 (zt g1)
    obtain rfl:=hnone (.inr (.inr (.inr e)))
    rw[e] at hE2
    rw[show curOf s i none=[] from rfl,scan_hash] at hE2
    refine gaa ?_
    refine oP (Pure.sindex (c:=s[i]) rfl rfl zo (by simp)) rfl ?_
    refine gad ?_
    refine oC rfl (fun g2=>?_) (fun g2=>?_)
    ·have e2:s[i]=10:=(cv_nat _ 10 zDd).2 (zt g2)
     rw[e] at e2
     exact absurd e2 zDd
    refine gaa ?_
    refine oC rfl (fun h=>by cases h) (fun h=>?_)
    refine gaa ?_
    exact ⟨_,_,_,by omega,⟨i+1,out2,v2,ln,none,true,by omega,rfl,rfl,hacc2,by simp,hlen2,by omega,hE2⟩,⟨rfl,rfl,rfl,rfl,rfl,int_eq zo,trivial⟩,zhR _,d3⟩
   ·have n35:¬ s[i]=35:=fun e=>zf g1 ((cv_nat _ 35 zDd).1 e)
    refine gaa ?_
    refine oP (Pure.sindex (c:=s[i]) rfl rfl zo (by simp)) rfl ?_
    refine gad ?_
    refine oC rfl (fun g2=>?_) (fun g2=>?_)
    ·have e:s[i]=10:=(cv_nat _ 10 zDd).2 (zt g2)
     have hec:EndC s[i]:=.inr (.inl e)
     obtain rfl:=hnone (.inr hec)
     rw[e] at hE2
     rw[show curOf s i none=[] from rfl,scan_nl] at hE2
     refine gaa ?_
     refine oB 76 rfl (fun g3=>absurd hec (by simpa using g3)) (fun g3=>?_)
     refine gae ?_
     refine oC rfl (fun h=>by cases h) (fun h=>?_)
     refine gaa ?_
     exact ⟨_,_,_,by omega,⟨i+1,out2,v2,ln+1,none,false,by omega,rfl,rfl,hacc2,by simp,hlen2,by omega,hE2⟩,⟨rfl,rfl,int_eq zo,rfl,rfl,int_eq zo,trivial⟩,zhR _,d3⟩
    ·have n10:¬ s[i]=10:=fun e=>zf g2 ((cv_nat _ 10 zDd).1 e)
     refine gaa ?_
     refine oB 72 rfl (fun g3=>?_) (fun g3=>?_)
     ·have hcf:com=false:=by simpa using g3
      subst hcf
      refine gad ?_
      refine oB 76 rfl (fun g4=>?_) (fun g4=>?_)
      ·have hec:¬ EndC s[i]:=by simpa using g4
       rw[scan_ch hec] at hE2
       refine gad ?_
       refine oC rfl (fun g5=>?_) (fun g5=>?_)
       ·obtain rfl:o2=none:=by
         cases o2 with
         |none=>rfl
         |some p=>exact absurd (zt g5) (by simp only[fromI];omega)
        refine gat ?_
        exact ⟨_,_,_,by omega,⟨i+1,out2,v2,ln,some i,false,by omega,rfl,rfl,hacc2,by rintro q hq;cases hq;exact ⟨by omega,rfl⟩,hlen2,by omega,by
         rw[cur_next (zNr i) hlt,List.drop_eq_nil_of_le (by rw[List.length_take];omega)]
         exact hE2⟩,⟨rfl,rfl,rfl,rfl,rfl,int_eq zo,trivial⟩,zhR _,d3⟩
       ·obtain ⟨p,rfl⟩:∃ p,o2=some p:=by
         cases o2 with
         |none=>
          have h3:¬ ((-1:Int)<0):=zf g5
          exact absurd zDd h3
         |some p=>exact ⟨p,rfl⟩
        obtain ⟨hp,_,_⟩:=ho2 p rfl
        refine gaa ?_
        exact ⟨_,_,_,by omega,⟨i+1,out2,v2,ln,some p,false,by omega,rfl,rfl,hacc2,by rintro q hq;cases hq;exact ⟨by omega,rfl⟩,hlen2,by omega,by
         rw[cur_next zo hlt]
         exact hE2⟩,⟨rfl,rfl,rfl,rfl,rfl,int_eq zo,trivial⟩,zhR _,d3⟩
      ·have hec:EndC s[i]:=by simpa using g4
       have e:s[i]=32:=by
        rcases hec with h|h|h
        ·exact h
        ·exact absurd h n10
        ·exact absurd h n35
       obtain rfl:=hnone (.inr hec)
       rw[e] at hE2
       rw[show curOf s i none=[] from rfl,scan_sp] at hE2
       refine gae ?_
       refine oC rfl (fun h=>by cases h) (fun h=>?_)
       refine gaa ?_
       exact ⟨_,_,_,by omega,⟨i+1,out2,v2,ln,none,false,by omega,rfl,rfl,hacc2,by simp,hlen2,by omega,hE2⟩,⟨rfl,rfl,rfl,rfl,rfl,int_eq zo,trivial⟩,zhR _,d3⟩
     ·have hct:com=true:=by simpa using g3
      subst hct
      obtain rfl:=hnone (.inl rfl)
      rw[show curOf s i none=[] from rfl,scan_com n10] at hE2
      refine gae ?_
      refine oC rfl (fun h=>by cases h) (fun h=>?_)
      refine gaa ?_
      exact ⟨_,_,_,by omega,⟨i+1,out2,v2,ln,none,true,by omega,rfl,rfl,hacc2,by simp,hlen2,by omega,hE2⟩,⟨rfl,rfl,rfl,rfl,rfl,int_eq zo,trivial⟩,zhR _,d3⟩
 ·have:=zf hc
  omega
end
end Go.Proofs.YtpbbgkoalnonoaaGreatDoor.Asm
namespace Go.Stele
open Go.Lib
/-! ### Six digits -/
def padW:Nat→Nat→Wd
 |0,_=>[]
 |k+1,n=>padW k (n / 10)++[UInt8.ofNat (48+n % 10)]
theorem padW_zero:∀ k,padW k 0=List.replicate k 48
 |0=>rfl
 |k+1=>by
  rw[padW,Nat.zero_div,padW_zero k,List.replicate_succ']
  try rfl
theorem padW_len:∀ k n,(padW k n).length=k
 |0,_=>rfl
 |k+1,n=>by rw[padW,zLa,padW_len k];try rfl
theorem pad_drop:∀ (k n j:Nat),k≤j+(decDigits n).length→(List.replicate j 48++decDigits n).drop (j+(decDigits n).length-k)=padW k n
 |0,n,j,_=>by
  rw[padW,List.drop_eq_nil_of_le]
  rw[zLa,List.length_replicate]
  omega
 |k+1,n,j,h=>by
  by_cases hn:n<10
  ·have e1:decDigits n=[UInt8.ofNat (48+n)]:=decDigits_one hn
   rw[e1,List.length_singleton] at h
   rw[e1,List.length_singleton,padW,show n / 10=0 by omega,padW_zero,show n % 10=n by omega,List.drop_append_of_le_length (by rw[List.length_replicate];omega),List.drop_replicate]
   congr 2
   omega
  ·have e1:decDigits n=decDigits (n / 10)++[UInt8.ofNat (48+n % 10)]:=by rw[decDigits,dif_neg hn]
   have e2:(decDigits n).length=(decDigits (n / 10)).length+1:=by rw[e1,zLa];try rfl
   have ih:=pad_drop k (n / 10) j (by omega)
   rw[e2,padW,←ih,e1,←zAs,List.drop_append_of_le_length (by rw[zLa,List.length_replicate];omega)]
   congr 2
   omega
theorem addrW_pad (n:Nat):addrW n=padW 6 n:=by
 have h1:=List.length_pos_iff.2 (decDigits_ne n)
 have:=pad_drop 6 n 5 (by omega)
 rw[←this]
 unfold addrW
 have e:([48,48,48,48,48]:List UInt8)=List.replicate 5 48:=rfl
 rw[e,zLa,List.length_replicate]
/-! ### The first token at fault -/
def fltW (all met:List Wd) (w:Wd):Nat:=match defW w with
 |some x=>if x∈met then 8 else 0
 |none=>match refW w with
  |some x=>if x∈all then 0 else 7
  |none=>if codeW w=true then 0 else 3
def errW (all:List Wd):List Wd→List Wd→Nat
 |_,[]=>0
 |met,w::r=>if fltW all met w≠0 then fltW all met w else errW all (met++defs [w]) r
theorem errW_T (all:List Wd):∀ (l:List (Wd×Nat)) (met:List Wd),(errT all met l).2=errW all met (l.map (·.1))
 |[],met=>rfl
 |(w,ln)::r,met=>by
  rw[errT,zMc,errW]
  unfold fltW defs
  rw[List.filterMap_cons,List.filterMap_nil]
  cases hd:defW w with
  |some x=>
   simp only
   by_cases h:x∈met
   ·rw[if_pos h,if_pos h,if_pos zDd]
   ·rw[if_neg h,if_neg h,if_neg zDd]
    exact errW_T all r _
  |none=>
   simp only
   cases hr:refW w with
   |some x=>
    simp only
    by_cases h:x∈all
    ·rw[if_pos h,if_pos h,if_neg zDd,zLz]
     exact errW_T all r _
    ·rw[if_neg h,if_neg h,if_pos zDd]
   |none=>
    simp only
    by_cases h:codeW w=true
    ·rw[if_pos h,if_pos h,if_neg zDd,zLz]
     exact errW_T all r _
    ·rw[if_neg h,if_neg h,if_pos zDd]
def asmE (src:Wd) (og:Int):Except Nat Wd:=
 if og<0∨262144≤og then .error 2
 else if errW (defs (wordsP src)) [] (wordsP src)≠0 then .error (errW (defs (wordsP src)) [] (wordsP src))
 else if 40000<(textA (findL (labsA (fun _=>0) og.toNat (wordsP src))) (wordsP src)).length then .error 6
 else .ok (textA (findL (labsA (fun _=>0) og.toNat (wordsP src))) (wordsP src))
theorem asmE_eq (src:Wd) (og:Int):asmE src og=match asmP src og with
  |.error e=>.error e.2
  |.ok x=>.ok x.1:=by
 unfold asmE asmP
 rw[errW_T,toksP_fst]
 by_cases h1:og<0∨262144≤og
 ·rw[if_pos h1,if_pos h1]
 rw[if_neg h1,if_neg h1]
 by_cases h2:errW (defs (wordsP src)) [] (wordsP src)≠0
 ·rw[if_pos h2,if_pos h2]
  simp only
  rw[errW_T,toksP_fst]
 rw[if_neg h2,if_neg h2]
 try split <;> rfl
end Go.Stele
namespace Go.Proofs.YtpbbgkoalnonoaaGreatDoor.Asm
open Go.GL Go.RowKit Go.Stele
def badAt (i:Nat) (c:UInt8):Bool:=!isLetter c && (decide (i=0) || (!isDigit c && decide (cv c≠95)))
theorem badAt_inner {i:Nat} {c:UInt8} (h:badAt i c=false):isInner c=true∧(i=0→isLetter c=true):=by
 unfold badAt at h
 unfold isInner
 cases hl:isLetter c with
 |true=>exact ⟨rfl,fun _=>rfl⟩
 |false=>
  rw[hl] at h
  simp only[Bool.not_false,Bool.true_and,Bool.or_eq_false_iff,Bool.and_eq_false_iff,decide_eq_false_iff_not,Bool.not_eq_false',ne_eq,Decidable.not_not] at h
  refine ⟨?_,fun e=>absurd e h.1⟩
  rcases h.2 with h2|h2
  ·rw[h2];rfl
  ·rw[decide_eq_true h2,Bool.or_true]
theorem badAt_name {s:Wd} {i:Nat} (h:i<s.length) (hb:badAt i s[i]=true):nameW s=false:=by
 cases s with
 |nil=>rfl
 |cons c r=>
  rw[nameW_eq]
  unfold badAt at hb
  simp only[zBa,Bool.not_eq_true',Bool.or_eq_true,zDe] at hb
  obtain ⟨h1,h2⟩:=hb
  rcases h2 with h2|⟨h2,h3⟩
  ·subst h2
   rw[List.getElem_cons_zero] at h1
   rw[h1,Bool.and_false,Bool.false_and]
  ·have:(c::r).all isInner=false:=by
    rw[←Bool.not_eq_true,List.all_eq_true]
    intro hall
    have h4:=hall _ (List.getElem_mem h)
    unfold isInner at h4
    rw[h1,h2] at h4
    simp at h4
    exact h3 h4
   rw[this,Bool.and_false]
theorem name_end {s:Wd} (h:∀ i (h:i<s.length),badAt i s[i]=false):(decide (s≠[]) && decide (s.length≤40))=nameW s:=by
 cases s with
 |nil=>rfl
 |cons c r=>
  rw[nameW_eq]
  have h1:isLetter c=true:=(badAt_inner (h 0 (by simp))).2 rfl
  have h2:(c::r).all isInner=true:=by
   rw[List.all_eq_true]
   intro x hx
   obtain ⟨i,hi,rfl⟩:=List.getElem_of_mem hx
   exact (badAt_inner (h i hi)).1
  rw[h1,h2,Bool.and_true,Bool.and_true]
  simp
def signS:List UInt8:=[43,45,42,47,37,94,60,64,33,63,58,59,44,46,36]
theorem code_set (c:UInt8):codeSet.contains c=(isDigit c || signS.contains c):=by
 rw[Bool.eq_iff_iff]
 unfold codeSet signS isDigit
 simp only[List.contains_cons,List.contains_nil,Bool.or_eq_true,beq_iff_eq,Bool.or_false,zBa,zDe,←UInt8.toNat_inj]
 simp[cv]
 omega
theorem code_ne {s:Wd} (h:s≠[]):(codeW s && decide (s≠[]))=codeW s:=by
 rw[decide_eq_true h,Bool.and_true]
def dfLV:Option Wd→LV
 |some x=>.tuple [str x,bool true]
 |none=>.tuple [str [],bool false]
attribute [local irreducible] LOps LCode LStep LCalls Go.GL.Pure QThen QBlock RetPost LQ LAny LLate LLateOp
section
variable {B0:Nat} {w0:World}
theorem digit18_spec (c:UInt8):LCalls (KC B0 w0) 185 [int .u8 (c.toNat:Int)] [] (Ret (bool (isDigit c))):=by
 refine cI Tryz.func185 rfl (n:=9) rfl rfl rfl ?_
 refine gab ?_
 refine oB 5 rfl (fun h1=>?_) (fun h1=>?_)
 ·have h1':48≤cv c:=zt h1
  refine gac ?_
  exact retRet rfl (zra rfl) (bool_eq (by unfold isDigit;rw[decide_eq_true h1',Bool.true_and]))
 ·have h1':¬ 48≤cv c:=zf h1
  refine gae ?_
  exact retRet rfl (zra rfl) (bool_eq (by unfold isDigit;rw[decide_eq_false h1',Bool.false_and]))
theorem sign18_spec (c:UInt8):LCalls (KC B0 w0) 186 [int .u8 (c.toNat:Int)] [] (Ret (bool (signS.contains c))):=by
 have hl:signS.length=15:=rfl
 refine cI Tryz.func186 rfl (n:=12) rfl rfl rfl ?_
 refine gaa ?_
 refine oL (fun k ls H=>∃ i:Nat,i≤15∧k=15-i∧ls=[(0,int .u8 (c.toNat:Int)),(3,int .i64 (i:Nat))]∧H=[]∧signS.contains c=(signS.drop i).contains c)
  ⟨_,_,_,⟨0,Nat.zero_le _,rfl,rfl,rfl,rfl⟩,⟨rfl,rfl,trivial⟩,zhR _⟩ ?_
 rintro k ls H ⟨i,hi,rfl,rfl,rfl,hD⟩ j hj
 refine gaa ?_
 refine oC rfl (fun hc=>?_) (fun hc=>?_)
 ·have hlt:i<signS.length:=by have:=zt hc;omega
  rw[List.drop_eq_getElem_cons hlt,List.contains_cons] at hD
  have hg:signS[(i:Int).toNat]? = some signS[i]:=by rw[Int.toNat_natCast,List.getElem?_eq_getElem hlt]
  generalize signS[i]=d at hD hg
  refine gaa ?_
  refine oP (Pure.sindex (l:=signS) (c:=d) rfl rfl zo hg) rfl ?_
  refine gad ?_
  refine oC rfl (fun h=>?_) (fun h=>?_)
  ·have h2:d=c:=UInt8.toNat_inj.1 (Int.ofNat.inj (zt h))
   rw[h2] at hD
   refine gaa ?_
   exact retRet hj (zra rfl) (bool_eq (by rw[hD];simp))
  ·have h2:¬ d=c:=fun e=>zf h (by rw[e])
   refine gaa ?_
   exact ⟨_,_,_,by omega,⟨i+1,by omega,rfl,rfl,rfl,by rw[hD,show (c == d)=false from beq_false_of_ne (fun e=>h2 e.symm),Bool.false_or]⟩,⟨rfl,int_eq zo,trivial⟩,zhR _,hj⟩
 ·have hi':i=15:=by have:=zf hc;omega
  subst hi'
  refine gaa ?_
  exact retRet hj (zra rfl) (bool_eq (by rw[hD];rfl))
theorem name18_spec (s:Wd) (hs:s.length≤1000000000):LCalls (KC B0 w0) 184 [str s] [] (Ret (bool (nameW s))):=by
 refine cI Tryz.func184 rfl (n:=47) rfl rfl rfl ?_
 refine gaa ?_
 refine oL (fun k ls H=>∃ i:Nat,i≤s.length∧k=s.length-i∧ls=[(0,str s),(3,int .i64 (i:Nat))]∧H=[]∧∀ x (h:x<s.length),x<i→badAt x s[x]=false)
  ⟨_,_,_,⟨0,Nat.zero_le _,rfl,rfl,rfl,fun x h hx=>by omega⟩,⟨rfl,rfl,trivial⟩,zhR _⟩ ?_
 rintro k ls H ⟨i,hi,rfl,rfl,rfl,hD⟩ j hj
 refine gab ?_
 refine oC rfl (fun hc=>?_) (fun hc=>?_)
 ·have hlt:i<s.length:=by have:=zt hc;omega
  have hbn:=badAt_name hlt
  have hg:s[(i:Int).toNat]? = some s[i]:=by rw[Int.toNat_natCast,List.getElem?_eq_getElem hlt]
  obtain ⟨c,hcx⟩:∃ c,c=s[i]:=⟨_,rfl⟩
  rw[←hcx] at hbn hg
  refine gaa ?_
  refine oP (Pure.sindex (c:=c) rfl rfl zo hg) rfl ?_
  refine gac ?_
  refine LOps.cut [(0,str s),(3,int .i64 (i:Nat)),(4,bool (isLetter c))] ?_ (fun j2 hj2=>?_)
  ·refine oB 15 rfl (fun h1=>?_) (fun h1=>?_)
   ·have h1':97≤cv c:=zt h1
    refine gam ?_
    refine oP (Pure.sindex (c:=c) rfl rfl zo hg) rfl ?_
    refine gac ?_
    exact ⟨⟨rfl,rfl,bool_eq (by unfold isLetter;rw[decide_eq_true h1',Bool.true_and]),trivial⟩,rfl,rfl⟩
   ·have h1':¬ 97≤cv c:=zf h1
    refine gae ?_
    exact ⟨⟨rfl,rfl,bool_eq (by unfold isLetter;rw[decide_eq_false h1',Bool.false_and]),trivial⟩,rfl,rfl⟩
  refine gaa ?_
  refine LOps.cut [(0,str s),(3,int .i64 (i:Nat)),(39,bool (badAt i c))] ?_ (fun j3 hj3=>?_)
  ·refine oB 23 rfl (fun h1=>?_) (fun h1=>?_)
   rotate_left
   ·have h1':(!isLetter c)=false:=h1
    refine gac ?_
    exact ⟨⟨rfl,rfl,bool_eq (by unfold badAt;rw[h1',Bool.false_and]),trivial⟩,rfl,rfl⟩
   have h1':(!isLetter c)=true:=h1
   refine gan ?_
   refine oB 26 rfl (fun h2=>?_) (fun h2=>?_)
   ·have h2':i=0:=by have:=zt h2;omega
    refine gac ?_
    exact ⟨⟨rfl,rfl,bool_eq (by unfold badAt;rw[h1',decide_eq_true h2',Bool.true_and,Bool.true_or]),trivial⟩,rfl,rfl⟩
   have h2':¬ i=0:=by have:=zf h2;omega
   refine gam ?_
   refine oP (Pure.sindex (c:=c) rfl rfl zo hg) rfl ?_
   refine gam ?_
   refine oS (sF [_] rfl (digit18_spec c) ?_) rfl
   refine gad ?_
   refine oB 32 rfl (fun h3=>?_) (fun h3=>?_)
   ·have h3':(!isDigit c)=true:=h3
    refine gam ?_
    refine oP (Pure.sindex (c:=c) rfl rfl zo hg) rfl ?_
    refine gac ?_
    exact ⟨⟨rfl,rfl,bool_eq (by
     unfold badAt
     rw[h1',h3',decide_eq_false h2',Bool.true_and,Bool.true_and,Bool.false_or,←decide_not]),trivial⟩,rfl,rfl⟩
   ·have h3':(!isDigit c)=false:=h3
    refine gad ?_
    exact ⟨⟨rfl,rfl,bool_eq (by
     unfold badAt
     rw[h1',h3',decide_eq_false h2']
     rfl),trivial⟩,rfl,rfl⟩
  refine oC rfl (fun h=>?_) (fun h=>?_)
  ·have h':badAt i c=true:=h
   refine gaa ?_
   exact retRet (hj3.trans (hj2.trans hj)) (zra rfl) (bool_eq (hbn h').symm)
  ·have h':badAt i c=false:=h
   refine gaa ?_
   exact ⟨_,_,_,by omega,⟨i+1,by omega,rfl,rfl,rfl,fun x hx hx1=>by
    by_cases he:x=i
    ·subst he
     rw[←hcx]
     exact h'
    ·exact hD x hx zo⟩,⟨rfl,int_eq zo,trivial⟩,zhR _,hj3.trans (hj2.trans hj)⟩
 ·have hi':i=s.length:=by have:=zf hc;omega
  subst hi'
  have hN:=name_end (s:=s) fun x hx=>hD x hx hx
  refine gab ?_
  refine oB 42 rfl (fun h1=>?_) (fun h1=>?_)
  ·have h1':s≠[]:=by simpa using h1
   rw[decide_eq_true h1',Bool.true_and] at hN
   refine gac ?_
   exact retRet hj (zra rfl) (bool_eq (by rw[←hN,decide_eq_decide];omega))
  ·have h1':¬ s≠[]:=by simpa using h1
   rw[decide_eq_false h1',Bool.false_and] at hN
   refine gae ?_
   exact retRet hj (zra rfl) (bool_eq hN)
theorem code18_spec (s:Wd) (hs:s.length≤1000000000):LCalls (KC B0 w0) 125 [str s] [] (Ret (bool (codeW s && decide (s≠[])))):=by
 refine cI Tryz.func125 rfl (n:=24) rfl rfl rfl ?_
 refine gaa ?_
 refine oL (fun k ls H=>∃ i:Nat,i≤s.length∧k=s.length-i∧ls=[(0,str s),(3,int .i64 (i:Nat))]∧H=[]∧codeW s=codeW (s.drop i))
  ⟨_,_,_,⟨0,Nat.zero_le _,rfl,rfl,rfl,rfl⟩,⟨rfl,rfl,trivial⟩,zhR _⟩ ?_
 rintro k ls H ⟨i,hi,rfl,rfl,rfl,hD⟩ j hj
 refine gab ?_
 refine oC rfl (fun hc=>?_) (fun hc=>?_)
 ·have hlt:i<s.length:=by have:=zt hc;omega
  have hg:s[(i:Int).toNat]? = some s[i]:=by rw[Int.toNat_natCast,List.getElem?_eq_getElem hlt]
  rw[List.drop_eq_getElem_cons hlt] at hD
  unfold codeW at hD
  rw[List.all_cons,code_set] at hD
  generalize s[i]=c at hD hg
  refine gaa ?_
  refine oP (Pure.sindex (c:=c) rfl rfl zo hg) rfl ?_
  refine oS (sF [_] rfl (digit18_spec c) ?_) rfl
  refine gad ?_
  refine oB 15 rfl (fun h1=>?_) (fun h1=>?_)
  ·have h1':isDigit c=false:=by simpa using h1
   rw[h1',Bool.false_or] at hD
   refine gam ?_
   refine oP (Pure.sindex (c:=c) rfl rfl zo hg) rfl ?_
   refine gam ?_
   refine oS (sF [_] rfl (sign18_spec c) ?_) rfl
   refine gad ?_
   refine oC rfl (fun h=>?_) (fun h=>?_)
   ·have h':signS.contains c=false:=by simpa using h
    rw[h',Bool.false_and] at hD
    refine gaa ?_
    exact retRet hj (zra rfl) (bool_eq (by unfold codeW;rw[hD,Bool.false_and]))
   ·have h':signS.contains c=true:=by simpa using h
    rw[h',Bool.true_and] at hD
    refine gaa ?_
    exact ⟨_,_,_,by omega,⟨i+1,by omega,rfl,rfl,rfl,hD⟩,⟨rfl,int_eq zo,trivial⟩,zhR _,hj⟩
  ·have h1':isDigit c=true:=by simpa using h1
   rw[h1',Bool.true_or,Bool.true_and] at hD
   refine gae ?_
   refine oC rfl (fun h=>by cases h) (fun h=>?_)
   refine gaa ?_
   exact ⟨_,_,_,by omega,⟨i+1,by omega,rfl,rfl,rfl,hD⟩,⟨rfl,int_eq zo,trivial⟩,zhR _,hj⟩
 ·have hi':i=s.length:=by have:=zf hc;omega
  subst hi'
  rw[List.drop_length] at hD
  have hD:codeW s=true:=hD
  refine gab ?_
  exact retRet hj (zra rfl) (bool_eq (by rw[hD,Bool.true_and,←decide_not]))
end
end Go.Proofs.YtpbbgkoalnonoaaGreatDoor.Asm
namespace Go.Proofs.YtpbbgkoalnonoaaGreatDoor.Asm
open Go.GL Go.RowKit Go.Stele
theorem wrapU8b {n:Int} (h:0≤n∧n≤255):IntKind.u8.wrap n=n:=by
 simp only[IntKind.wrap,IntKind.bits,IntKind.signed,Bool.false_and]
 simp
 omega
theorem defW_no {s:Wd} (h:s.getLast? ≠ some 58):defW s=none:=by
 unfold defW
 rw[if_neg fun g=>h g.1]
theorem defW_last {s:Wd} (h:s.getLast? = some 58):defW s=if nameW s.dropLast=true then some s.dropLast else none:=by
 unfold defW
 by_cases hn:nameW s.dropLast=true
 ·rw[if_pos ⟨h,hn⟩,if_pos hn]
 ·rw[if_neg fun g=>hn g.2,if_neg hn]
theorem padW_front:∀ (k n:Nat),padW (k+1) n=UInt8.ofNat (48+n / 10 ^ k % 10)::padW k n
 |0,n=>by simp[padW]
 |k+1,n=>by
  rw[padW,padW_front k (n / 10),padW,List.cons_append,Nat.div_div_eq_div_mul,Nat.pow_succ,Nat.mul_comm 10]
def joinR (t w:Wd):Wd:=t++(if lastD t && firstD w then [32] else [])++w
theorem addT_join (known:Wd→Nat) (t w:Wd) (h:defW w=none):addT known t w=joinR t (pieceW known w):=by
 unfold addT
 rw[h]
 rfl
attribute [local irreducible] LOps LCode LStep LCalls Go.GL.Pure QThen QBlock RetPost LQ LAny LLate LLateOp
section
variable {B0:Nat} {w0:World}
theorem defines18_spec (s:Wd) (hs:s.length≤1000000000):LCalls (KC B0 w0) 123 [str s] [] (Ret (dfLV (defW s))):=by
 refine cI Tryz.func123 rfl (n:=28) rfl rfl rfl ?_
 refine gaa ?_
 refine oB 6 rfl (fun h1=>?_) (fun h1=>?_)
 ·have h1':s=[]:=zt h1
  subst h1'
  refine gad ?_
  refine oC rfl (fun _=>?_) (fun h=>by cases h)
  refine gao ?_
  exact retRet rfl (rC (zrt rfl) (zra rfl)) rfl
 have h1':s≠[]:=zf h1
 have hp:0<s.length:=List.length_pos_iff.2 h1'
 have hl:s.getLast? = some s[s.length-1]:=by rw[List.getLast?_eq_getElem?,List.getElem?_eq_getElem zo]
 have hdl:(s.take ((s.length:Int)-1).toNat).drop (0:Int).toNat=s.dropLast:=by
  rw[show ((s.length:Int)-1).toNat=s.length-1 by omega,List.dropLast_eq_take]
  rfl
 have hget:s[((s.length:Int)-1).toNat]? = some s[s.length-1]:=by
  rw[show ((s.length:Int)-1).toNat=s.length-1 by omega,List.getElem?_eq_getElem zo]
 generalize s[s.length-1]=c at hl hget
 refine gac ?_
 refine oP (Pure.sindex (c:=c) rfl rfl zo hget) rfl ?_
 refine gac ?_
 refine oB 14 rfl (fun h2=>?_) (fun h2=>?_)
 ·have h2':¬ c=58:=fun e=>by
   have h3:(!decide ((c.toNat:Int)=58))=true:=h2
   have e2:(c.toNat:Int)=58:=(cv_nat c 58 zDd).1 e
   rw[decide_eq_true e2] at h3
   cases h3
  have hD:=defW_no (s:=s) (by rw[hl];simp[h2'])
  refine gad ?_
  refine oC rfl (fun _=>?_) (fun h=>by cases h)
  refine gao ?_
  exact retRet rfl (rC (zrt rfl) (zra rfl)) (by rw[hD];rfl)
 have h2':c=58:=by
  have h3:(!decide ((c.toNat:Int)=58))=false:=h2
  simp only[Bool.not_eq_false',zDe] at h3
  exact (cv_nat c 58 zDd).2 h3
 subst h2'
 have hD:=defW_last hl
 have hdn:s.dropLast.length≤1000000000:=by rw[List.length_dropLast];omega
 refine gac ?_
 refine oP (Pure.ssliceE (l:=s) (i:=0) (j:=(s.length:Int)-1) rfl rfl ⟨_,rfl⟩ zDd zo zo hdl) rfl ?_
 refine gam ?_
 refine oS (sF [_] rfl (name18_spec s.dropLast hdn) ?_) rfl
 refine gad ?_
 refine oC rfl (fun h=>?_) (fun h=>?_)
 ·have h':nameW s.dropLast=false:=by simpa using h
  rw[h',if_neg zDd] at hD
  refine gao ?_
  exact retRet rfl (rC (zrt rfl) (zra rfl)) (by rw[hD];rfl)
 ·have h':nameW s.dropLast=true:=by simpa using h
  rw[if_pos h'] at hD
  refine gab ?_
  refine oP (Pure.ssliceE (l:=s) (i:=0) (j:=(s.length:Int)-1) rfl rfl ⟨_,rfl⟩ zDd zo zo hdl) rfl ?_
  refine gae ?_
  exact retRet rfl (rC (zrt rfl) (zra rfl)) (by rw[hD];rfl)
theorem refers18_spec (s:Wd) (hs:s.length≤1000000000):LCalls (KC B0 w0) 124 [str s] [] (Ret (dfLV (refW s))):=by
 refine cI Tryz.func124 rfl (n:=19) rfl rfl rfl ?_
 refine gaa ?_
 refine oB 6 rfl (fun h1=>?_) (fun h1=>?_)
 ·have h1':s=[]:=zt h1
  subst h1'
  refine gad ?_
  refine oC rfl (fun _=>?_) (fun h=>by cases h)
  refine gao ?_
  exact retRet rfl (rC (zrt rfl) (zra rfl)) rfl
 have h1':s≠[]:=zf h1
 clear h1
 obtain ⟨c,r,rfl⟩:∃ c r,s=c::r:=by
  cases s with
  |nil=>exact absurd rfl h1'
  |cons c r=>exact ⟨c,r,rfl⟩
 have hD:refW (c::r)=if c=38∧nameW r=true then some r else none:=rfl
 have hcl:(c::r).length=r.length+1:=rfl
 have hdl:((c::r).take (((c::r).length:Nat):Int).toNat).drop (1:Int).toNat=r:=by
  rw[Int.toNat_natCast,List.take_length]
  rfl
 refine gam ?_
 refine oP (Pure.sindex (c:=c) rfl rfl zo rfl) rfl ?_
 refine gac ?_
 refine oB 11 rfl (fun h2=>?_) (fun h2=>?_)
 ·have h2':¬ c=38:=fun e=>by
   have h3:(!decide ((c.toNat:Int)=38))=true:=h2
   have e2:(c.toNat:Int)=38:=(cv_nat c 38 zDd).1 e
   rw[decide_eq_true e2] at h3
   cases h3
  rw[if_neg fun g=>h2' g.1] at hD
  refine gad ?_
  refine oC rfl (fun _=>?_) (fun h=>by cases h)
  refine gao ?_
  exact retRet rfl (rC (zrt rfl) (zra rfl)) (by rw[hD];rfl)
 have h2':c=38:=by
  have h3:(!decide ((c.toNat:Int)=38))=false:=h2
  simp only[Bool.not_eq_false',zDe] at h3
  exact (cv_nat c 38 zDd).2 h3
 subst h2'
 refine gam ?_
 refine oP (Pure.ssliceE (l:=38::r) (i:=1) (j:=(((38::r).length:Nat):Int)) rfl ⟨_,rfl⟩ rfl zDd zo zo hdl) rfl ?_
 refine gam ?_
 refine oS (sF [_] rfl (name18_spec r zo) ?_) rfl
 refine gad ?_
 refine oC rfl (fun h=>?_) (fun h=>?_)
 ·have h':nameW r=false:=by simpa using h
  rw[if_neg (by rw[h'];simp)] at hD
  refine gao ?_
  exact retRet rfl (rC (zrt rfl) (zra rfl)) (by rw[hD];rfl)
 ·have h':nameW r=true:=by simpa using h
  rw[if_pos ⟨rfl,h'⟩] at hD
  refine gaa ?_
  refine oP (Pure.ssliceE (l:=38::r) (i:=1) (j:=(((38::r).length:Nat):Int)) rfl ⟨_,rfl⟩ rfl zDd zo zo hdl) rfl ?_
  refine gae ?_
  exact retRet rfl (rC (zrt rfl) (zra rfl)) (by rw[hD];rfl)
theorem six18_spec (n:Nat) (hn:n≤4000000000000):LCalls (KC B0 w0) 127 [int .i64 (n:Int)] [] (Ret (str (padW 6 n))):=by
 refine cI Tryz.func127 rfl (n:=20) rfl rfl rfl ?_
 refine gaa ?_
 refine oL (fun k ls H=>∃ i:Nat,i≤6∧k=6-i∧ls=[(0,int .i64 ((n / 10 ^ i:Nat):Int)),(3,str (padW i n)),(4,int .i64 (i:Nat))]∧H=[])
  ⟨_,_,_,⟨0,Nat.zero_le _,rfl,rfl,rfl⟩,⟨int_eq (by simp),rfl,rfl,trivial⟩,zhR _⟩ ?_
 rintro k ls H ⟨i,hi,rfl,rfl,rfl⟩ j hj
 have hfr:=padW_front i n
 have hpl:=padW_len i n
 have hdv:n / 10 ^ (i+1)=n / 10 ^ i / 10:=by rw[Nat.pow_succ,Nat.div_div_eq_div_mul]
 have hle:n / 10 ^ i≤n:=Nat.div_le_self _ _
 generalize n / 10 ^ i=m at hfr hdv hle ⊢
 have hbytes:some [int .u8 (IntKind.u8.wrap (48+(m:Int) % 10))]=some ([UInt8.ofNat (48+m % 10)].map fun b=>int .u8 b.toNat):=by
  have h:((UInt8.ofNat (48+m % 10)).toNat:Int)=48+((m % 10:Nat):Int):=by
   rw[UInt8.toNat_ofNat']
   omega
  simp only[zMc,List.map_nil,h]
  rw[wrapU8b zo]
  simp
 refine gaa ?_
 refine oC rfl (fun hc=>?_) (fun hc=>?_)
 ·have hlt:i<6:=by have:=zt hc;omega
  refine gaa ?_
  refine oP (Pure.rem (a:=(m:Int)) (b:=10) rfl rfl zDd zo) rfl ?_
  refine gac ?_
  refine oS (sL [_] rfl (zeC rfl rfl eN) rfl rfl rfl ?_) rfl
  refine oP (Pure.bytesStr (l:=[UInt8.ofNat (48+m % 10)]) hbytes (by simp)) rfl ?_
  refine gab ?_
  refine oP (Pure.quo (a:=(m:Int)) (b:=10) rfl rfl zDd zo zo) rfl ?_
  refine gat ?_
  exact ⟨_,_,_,by omega,⟨i+1,by omega,rfl,rfl,rfl⟩,⟨int_eq (by rw[hdv];omega),str_eq (by rw[hfr];rfl),int_eq zo,trivial⟩,zhR _,hj⟩
 ·have hi':i=6:=by have:=zf hc;omega
  subst hi'
  refine gaa ?_
  exact retRet hj (zra rfl) rfl
theorem join18_spec (t w:Wd) (ht:t.length≤2000000000000) (hw:w.length≤2000000000000):LCalls (KC B0 w0) 126 [str t,str w] [] (Ret (str (joinR t w))):=by
 refine cI Tryz.func126 rfl (n:=31) rfl rfl rfl ?_
 refine gab ?_
 refine LOps.cut [(0,str t),(1,str w),(23,bool (lastD t && firstD w))] ?_ (fun j2 hj2=>?_)
 ·refine oB 7 rfl (fun h1=>?_) (fun h1=>?_)
  rotate_left
  ·have h1':t=[]:=by simpa using h1
   subst h1'
   refine gae ?_
   exact ⟨⟨rfl,rfl,rfl,trivial⟩,rfl,rfl⟩
  have h1':t≠[]:=by simpa using h1
  clear h1
  have hp:0<t.length:=List.length_pos_iff.2 h1'
  have hl:t.getLast? = some t[t.length-1]:=by rw[List.getLast?_eq_getElem?,List.getElem?_eq_getElem zo]
  have hget:t[((t.length:Int)-1).toNat]? = some t[t.length-1]:=by
   rw[show ((t.length:Int)-1).toNat=t.length-1 by omega,List.getElem?_eq_getElem zo]
  have hL:lastD t=isDigit t[t.length-1]:=by unfold lastD;rw[hl]
  generalize t[t.length-1]=c at hl hget hL
  refine gac ?_
  refine oB 11 rfl (fun h2=>?_) (fun h2=>?_)
  rotate_left
  ·have h2':w=[]:=by simpa using h2
   subst h2'
   refine gae ?_
   exact ⟨⟨rfl,rfl,bool_eq (by rw[show firstD []=false from rfl,Bool.and_false]),trivial⟩,rfl,rfl⟩
  have h2':w≠[]:=by simpa using h2
  clear h2
  obtain ⟨d,r,rfl⟩:∃ d r,w=d::r:=by
   cases w with
   |nil=>exact absurd rfl h2'
   |cons c r=>exact ⟨c,r,rfl⟩
  refine gac ?_
  refine oP (Pure.sindex (c:=c) rfl rfl zo hget) rfl ?_
  refine gam ?_
  refine oS (sF [_] rfl (digit18_spec c) ?_) rfl
  refine gan ?_
  refine oB 19 rfl (fun h3=>?_) (fun h3=>?_)
  ·have h3':isDigit c=true:=h3
   refine gam ?_
   refine oP (Pure.sindex (c:=d) rfl rfl zo rfl) rfl ?_
   refine gam ?_
   refine oS (sF [_] rfl (digit18_spec d) ?_) rfl
   refine gad ?_
   exact ⟨⟨rfl,rfl,bool_eq (by rw[hL,h3',Bool.true_and];rfl),trivial⟩,rfl,rfl⟩
  ·have h3':isDigit c=false:=h3
   refine gae ?_
   exact ⟨⟨rfl,rfl,bool_eq (by rw[hL,h3',Bool.false_and]),trivial⟩,rfl,rfl⟩
 refine oC rfl (fun h=>?_) (fun h=>?_)
 ·have h':(lastD t && firstD w)=true:=h
  refine gab ?_
  exact retRet hj2 (zra rfl) (str_eq (by unfold joinR;rw[if_pos h']))
 ·have h':(lastD t && firstD w)=false:=h
  refine gab ?_
  exact retRet hj2 (zra rfl) (str_eq (by unfold joinR;rw[if_neg (by rw[h'];decide),zLz]))
theorem address18_spec (l:List (Wd×Nat)) (x:Wd) (hl:l.length≤2000000000):LCalls (KC B0 w0) 128 [.list (l.map tokLV),str x] [] (Ret (int .i64 ((findL l x:Nat):Int))):=by
 have hla:(l.map tokLV).length=l.length:=zLm _
 refine cI Tryz.func128 rfl (n:=24) rfl rfl rfl ?_
 refine gaa ?_
 refine oL (fun k ls H=>∃ i:Nat,i≤l.length∧k=l.length-i∧ls=[(0,.list (l.map tokLV)),(1,str x),(5,int .i64 (i:Nat))]∧H=[]∧findL l x=findL (l.drop i) x)
  ⟨_,_,_,⟨0,Nat.zero_le _,rfl,rfl,rfl,rfl⟩,⟨rfl,rfl,rfl,trivial⟩,zhR _⟩ ?_
 rintro k ls H ⟨i,hi,rfl,rfl,rfl,hD⟩ j hj
 refine gaa ?_
 refine oC rfl (fun hc=>?_) (fun hc=>?_)
 ·have hlt:i<l.length:=by have:=zt hc;omega
  have hmg:=map_get tokLV l i hlt
  rw[List.drop_eq_getElem_cons hlt] at hD
  generalize l[i]=p at hD hmg
  obtain ⟨y,a⟩:=p
  have hF:findL ((y,a)::l.drop (i+1)) x=if y=x then a else findL (l.drop (i+1)) x:=by
   unfold findL
   rw[List.find?_cons]
   by_cases hy:y=x
   ·rw[if_pos hy,decide_eq_true hy]
   ·rw[if_neg hy,decide_eq_false hy]
  rw[hF] at hD
  refine gaa ?_
  refine oP (xR (el':=tokLV (y,a)) (cs:=[_,_]) rfl rfl zo hmg rfl rfl) rfl ?_
  refine gac ?_
  refine oC rfl (fun h=>?_) (fun h=>?_)
  ·have h':y=x:=zt h
   rw[if_pos h'] at hD
   refine gaa ?_
   refine oP (xR (el':=tokLV (y,a)) (cs:=[_,_]) rfl rfl zo hmg rfl rfl) rfl ?_
   refine gac ?_
   exact retRet hj (zra rfl) (by rw[hD];rfl)
  ·have h':¬ y=x:=zf h
   rw[if_neg h'] at hD
   refine gaa ?_
   exact ⟨_,_,_,by omega,⟨i+1,by omega,rfl,rfl,rfl,hD⟩,⟨rfl,rfl,int_eq zo,trivial⟩,zhR _,hj⟩
 ·have hi':i=l.length:=by have:=zf hc;omega
  subst hi'
  rw[List.drop_length] at hD
  refine gaa ?_
  exact retRet hj (zra rfl) (by rw[hD];rfl)
end
end Go.Proofs.YtpbbgkoalnonoaaGreatDoor.Asm
namespace Go.Proofs.YtpbbgkoalnonoaaGreatDoor.Asm
open Go.GL Go.RowKit Go.Stele
theorem mem_defs_some {w x y:Wd} {r:List Wd} (h:defW w=some y):x∈defs (w::r) ↔ (y=x∨x∈defs r):=by
 unfold defs
 rw[List.filterMap_cons,h,zMi]
 exact or_congr_left eq_comm
theorem mem_defs_none {w x:Wd} {r:List Wd} (h:defW w=none):x∈defs (w::r) ↔ x∈defs r:=by
 unfold defs
 rw[List.filterMap_cons,h]
theorem stepA_take {l:List Wd} {i:Nat} (h:i<l.length) (kn:Wd→Nat) (og:Nat):(l.take (i+1)).foldl (stepA kn og) ([],[])=stepA kn og ((l.take i).foldl (stepA kn og) ([],[])) l[i]:=by
 rw[List.take_succ_eq_append_getElem h,List.foldl_append]
 rfl
attribute [local irreducible] LOps LCode LStep LCalls Go.GL.Pure QThen QBlock RetPost LQ LAny LLate LLateOp
section
variable {B0:Nat} {w0:World}
theorem fault18_spec (ts:List (Wd×Nat)) (i:Nat) (hi:i<ts.length) (hl:ts.length≤1000000000) (hs:∀ p∈ts,p.1≠[]∧p.1.length≤1000000000) :
  LCalls (KC B0 w0) 66 [.list (ts.map tokLV),int .i64 (i:Nat)] [] (Ret (int .i64 ((fltW (defs (txt ts)) (defs (txt (ts.take i))) ts[i].1:Nat):Int))):=by
 have hla:(ts.map tokLV).length=ts.length:=zLm _
 have hmi:=map_get tokLV ts i hi
 obtain ⟨hne,hle⟩:=hs _ (List.getElem_mem hi)
 generalize ts[i]=p at hmi hne hle
 obtain ⟨w,ln⟩:=p
 simp only at hne hle
 have hD:=defines18_spec (B0:=B0) (w0:=w0) w hle
 have hR:=refers18_spec (B0:=B0) (w0:=w0) w hle
 have hC:=code18_spec (B0:=B0) (w0:=w0) w hle
 rw[code_ne hne] at hC
 generalize hF:fltW (defs (txt ts)) (defs (txt (ts.take i))) w=F
 unfold fltW at hF
 refine cI Tryz.func66 rfl (n:=81) rfl rfl rfl ?_
 refine gaa ?_
 refine oP (xR (el':=tokLV (w,ln)) (cs:=[_,_]) rfl rfl zo hmi rfl rfl) rfl ?_
 refine gac ?_
 refine oS (sF [_] rfl hD ?_) rfl
 cases hdw:defW w with
 |some x=>
  rw[hdw] at hF
  simp only at hF
  unfold dfLV
  refine gaa ?_
  refine oC rfl (fun _=>?_) (fun h=>by cases h)
  refine gaa ?_
  refine oL (fun kk ls H=>∃ k:Nat,k≤i∧kk=i-k∧ls=[(0,.list (ts.map tokLV)),(1,int .i64 (i:Nat)),(5,str x),(7,int .i64 (k:Nat))]∧H=[]∧(x∈defs (txt (ts.take i)) ↔ x∈defs (txt ((ts.take i).drop k))))
   ⟨_,_,_,⟨0,Nat.zero_le _,rfl,rfl,rfl,Iff.rfl⟩,⟨rfl,rfl,rfl,rfl,trivial⟩,zhR _⟩ ?_
  rintro kk ls H ⟨k,hk,rfl,rfl,rfl,hM⟩ j hj
  refine gaa ?_
  refine oC rfl (fun hc=>?_) (fun hc=>?_)
  ·have hlt:k<i:=by have:=zt hc;omega
   have hlt2:k<(ts.take i).length:=by rw[List.length_take];omega
   have hmk:=map_get tokLV ts k zo
   have hsk:=(hs _ (List.getElem_mem (show k<ts.length by omega))).2
   have hg:(ts.take i)[k]=ts[k]:=List.getElem_take
   rw[List.drop_eq_getElem_cons hlt2,hg] at hM
   generalize ts[k]=q at hmk hsk hM
   obtain ⟨u,lu⟩:=q
   simp only at hsk
   have hM:x∈defs (txt (ts.take i)) ↔ x∈defs (u::txt ((ts.take i).drop (k+1))):=hM
   have hDu:=defines18_spec (B0:=B0) (w0:=w0) u hsk
   refine gaa ?_
   refine oP (xR (el':=tokLV (u,lu)) (cs:=[_,_]) rfl rfl zo hmk rfl rfl) rfl ?_
   refine gac ?_
   refine oS (sF [_] rfl hDu ?_) rfl
   cases hdu:defW u with
   |none=>
    rw[mem_defs_none hdu] at hM
    unfold dfLV
    refine gaa ?_
    refine oC rfl (fun h=>by cases h) (fun _=>?_)
    refine gaa ?_
    exact ⟨_,_,_,by omega,⟨k+1,by omega,rfl,rfl,rfl,hM⟩,⟨rfl,rfl,rfl,int_eq zo,trivial⟩,zhR _,hj⟩
   |some y=>
    rw[mem_defs_some hdu] at hM
    unfold dfLV
    refine gaa ?_
    refine oC rfl (fun h=>?_) (fun h=>?_)
    ·have h':y=x:=zt h
     rw[if_pos (hM.2 (.inl h'))] at hF
     subst hF
     refine gaa ?_
     exact retRet hj (zra rfl) rfl
    ·have h':¬ y=x:=zf h
     refine gaa ?_
     exact ⟨_,_,_,by omega,⟨k+1,by omega,rfl,rfl,rfl,hM.trans ⟨fun g=>g.resolve_left h',.inr⟩⟩,⟨rfl,rfl,rfl,int_eq zo,trivial⟩,zhR _,hj⟩
  ·have hk':k=i:=by have:=zf hc;omega
   subst hk'
   rw[List.drop_eq_nil_of_le (by rw[List.length_take];omega)] at hM
   rw[if_neg (fun g=>by have:=hM.1 g;cases this)] at hF
   subst hF
   refine gaa ?_
   exact retRet hj (zra rfl) rfl
 |none=>
  rw[hdw] at hF
  simp only at hF
  unfold dfLV
  refine gaa ?_
  refine oC rfl (fun h=>by cases h) (fun _=>?_)
  refine gaa ?_
  refine oP (xR (el':=tokLV (w,ln)) (cs:=[_,_]) rfl rfl zo hmi rfl rfl) rfl ?_
  refine gac ?_
  refine oS (sF [_] rfl hR ?_) rfl
  cases hrw:refW w with
  |some x=>
   rw[hrw] at hF
   simp only at hF
   unfold dfLV
   refine gaa ?_
   refine oC rfl (fun _=>?_) (fun h=>by cases h)
   refine gaa ?_
   refine oL (fun kk ls H=>∃ k:Nat,k≤ts.length∧kk=ts.length-k∧ls=[(0,.list (ts.map tokLV)),(5,str x),(10,int .i64 (k:Nat))]∧H=[]∧(x∈defs (txt ts) ↔ x∈defs (txt (ts.drop k))))
    ⟨_,_,_,⟨0,Nat.zero_le _,rfl,rfl,rfl,Iff.rfl⟩,⟨rfl,rfl,rfl,trivial⟩,zhR _⟩ ?_
   rintro kk ls H ⟨k,hk,rfl,rfl,rfl,hM⟩ j hj
   refine gaa ?_
   refine oC rfl (fun hc=>?_) (fun hc=>?_)
   ·have hlt:k<ts.length:=by have:=zt hc;omega
    have hmk:=map_get tokLV ts k zo
    have hsk:=(hs _ (List.getElem_mem hlt)).2
    rw[List.drop_eq_getElem_cons hlt] at hM
    generalize ts[k]=q at hmk hsk hM
    obtain ⟨u,lu⟩:=q
    simp only at hsk
    have hM:x∈defs (txt ts) ↔ x∈defs (u::txt (ts.drop (k+1))):=hM
    have hDu:=defines18_spec (B0:=B0) (w0:=w0) u hsk
    refine gaa ?_
    refine oP (xR (el':=tokLV (u,lu)) (cs:=[_,_]) rfl rfl zo hmk rfl rfl) rfl ?_
    refine gac ?_
    refine oS (sF [_] rfl hDu ?_) rfl
    cases hdu:defW u with
    |none=>
     rw[mem_defs_none hdu] at hM
     unfold dfLV
     refine gaa ?_
     refine oC rfl (fun h=>by cases h) (fun _=>?_)
     refine gaa ?_
     exact ⟨_,_,_,by omega,⟨k+1,by omega,rfl,rfl,rfl,hM⟩,⟨rfl,rfl,int_eq zo,trivial⟩,zhR _,hj⟩
    |some y=>
     rw[mem_defs_some hdu] at hM
     unfold dfLV
     refine gaa ?_
     refine oC rfl (fun h=>?_) (fun h=>?_)
     ·have h':y=x:=zt h
      rw[if_pos (hM.2 (.inl h'))] at hF
      subst hF
      refine gaa ?_
      exact retRet hj (zra rfl) rfl
     ·have h':¬ y=x:=zf h
      refine gaa ?_
      exact ⟨_,_,_,by omega,⟨k+1,by omega,rfl,rfl,rfl,hM.trans ⟨fun g=>g.resolve_left h',.inr⟩⟩,⟨rfl,rfl,int_eq zo,trivial⟩,zhR _,hj⟩
   ·have hk':k=ts.length:=by have:=zf hc;omega
    subst hk'
    rw[List.drop_length] at hM
    rw[if_neg (fun g=>by have:=hM.1 g;cases this)] at hF
    subst hF
    refine gaa ?_
    exact retRet hj (zra rfl) rfl
  |none=>
   rw[hrw] at hF
   simp only at hF
   unfold dfLV
   refine gaa ?_
   refine oC rfl (fun h=>by cases h) (fun _=>?_)
   refine gaa ?_
   refine oP (xR (el':=tokLV (w,ln)) (cs:=[_,_]) rfl rfl zo hmi rfl rfl) rfl ?_
   refine gac ?_
   refine oS (sF [_] rfl hC ?_) rfl
   refine gad ?_
   refine oC rfl (fun h=>?_) (fun h=>?_)
   ·have h':codeW w=false:=by simpa using h
    rw[if_neg (by rw[h'];decide)] at hF
    subst hF
    refine gao ?_
    exact retRet rfl (zra rfl) rfl
   ·have h':codeW w=true:=by simpa using h
    rw[if_pos h'] at hF
    subst hF
    refine gaa ?_
    exact retRet rfl (zra rfl) rfl
end
end Go.Proofs.YtpbbgkoalnonoaaGreatDoor.Asm
namespace Go.Proofs.YtpbbgkoalnonoaaGreatDoor.Asm
open Go.GL Go.RowKit Go.Stele
theorem tot_take (l:List Wd) (i:Nat):tot (l.take i)≤tot l:=by
 unfold tot
 have h:(l.map fun w=>w.length+1).sum=((l.take i).map fun w=>w.length+1).sum+((l.drop i).map fun w=>w.length+1).sum:=by
  rw[←List.sum_append,←zMa,List.take_append_drop]
 omega
def Asm18 (R:Except Nat Wd) (lv:LV):Prop:=match R with
 |.error e=>∃ (ln:Int),lv=.tuple [str [],.list [],int .i64 ln,int .i64 (e:Nat)]
 |.ok t=>∃ labs:List (Wd×Nat),lv=.tuple [str t,.list (labs.map tokLV),int .i64 0,int .i64 0]
attribute [local irreducible] LOps LCode LStep LCalls Go.GL.Pure QThen QBlock RetPost LQ LAny LLate LLateOp
section
variable {B0:Nat} {w0:World}
theorem build18_spec (ts:List (Wd×Nat)) (og:Nat) (kn:List (Wd×Nat)) (hog:og≤1000000) (hl:ts.length≤1000000000) (hs:∀ p∈ts,p.1≠[]∧p.1.length≤1000000000) (hkl:kn.length≤1000000000) (hka:∀ x,findL kn x≤1000000000000) (hT:3 * tot (txt ts)≤1000000000000) :
  LCalls (KC B0 w0) 67 [.list (ts.map tokLV),int .i64 (og:Nat),.list (kn.map tokLV)] [] (Ret (.tuple [str ((txt ts).foldl (stepA (findL kn) og) ([],[])).1,.list (((txt ts).foldl (stepA (findL kn) og) ([],[])).2.map tokLV)])):=by
 have hla:(ts.map tokLV).length=ts.length:=zLm _
 have htl:(txt ts).length=ts.length:=zLm _
 have htx:∀ i,(((txt ts).take i).foldl (stepA (findL kn) og) ([],[])).1.length≤1000000000000:=fun i=>by
  rw[stepA_fst]
  have h1:=textA_len (findL kn) ((txt ts).take i) (fun w hw=>by
   obtain ⟨p,hp,rfl⟩:=List.mem_map.1 (List.mem_of_mem_take hw)
   exact (hs p hp).1)
  have h2:=lenW_le ((txt ts).take i) false
  have h3:=tot_take (txt ts) i
  unfold textA at h1
  rw[h1]
  omega
 refine cI Tryz.func67 rfl (n:=64) rfl rfl rfl ?_
 refine gai ?_
 refine oS (S.litA [] rfl eN rfl rfl rfl fun b=>?_) rfl
 refine oP (pA (lv:=str []) rfl) rfl ?_
 refine oP (pA (lv:=.app b 0 2 []) rfl) rfl ?_
 refine gaa ?_
 refine oL (fun kk ls H=>∃ (i:Nat) (t:Wd) (labs:List (Wd×Nat)) (v:LV),i≤ts.length∧kk=ts.length-i∧ls=[(0,.list (ts.map tokLV)),(1,int .i64 (og:Nat)),(2,.list (kn.map tokLV)),(8,str t),(9,v),(10,int .i64 (i:Nat))]∧Acc 2 v (labs.map tokLV) H []∧labs.length≤i∧((txt ts).take i).foldl (stepA (findL kn) og) ([],[])=(t,labs))
  ⟨_,_,_,⟨0,[],[],.app b 0 2 [],Nat.zero_le _,rfl,rfl,Acc.row,zNr _,rfl⟩,⟨rfl,rfl,rfl,rfl,rfl,rfl,trivial⟩,zhR _⟩ ?_
 rintro kk ls H ⟨i,t,labs,v,hi,rfl,rfl,hacc,hll,hS⟩ j hj
 have hlm:(labs.map tokLV).length=labs.length:=zLm _
 have ht:=htx i
 rw[hS] at ht
 simp only at ht
 refine gaa ?_
 refine oC rfl (fun hc=>?_) (fun hc=>?_)
 rotate_left
 ·have hi':i=ts.length:=by have:=zf hc;omega
  subst hi'
  rw[←htl,List.take_length] at hS
  rw[hS]
  refine LCode.sub (d:=9) (v:=v) rfl hacc.sub ?_
  refine LCode.weak zhn ?_
  refine gab ?_
  exact retRet hj (rC (zrt rfl) (rC (rT (v:=.list _) rfl zsr) rN)) rfl
 have hlt:i<ts.length:=by have:=zt hc;omega
 have hst:=stepA_take (l:=txt ts) (i:=i) zo (findL kn) og
 have hS2:=htx (i+1)
 have hgt:(txt ts)[i]'zo=ts[i].1:=List.getElem_map _
 rw[hS,hgt] at hst
 rw[hst] at hS2
 have hmi:=map_get tokLV ts i hlt
 obtain ⟨hne,hle⟩:=hs _ (List.getElem_mem hlt)
 generalize ts[i]=p at hmi hne hle hst hS2
 obtain ⟨w,ln⟩:=p
 simp only at hne hle hst hS2
 have hD:=defines18_spec (B0:=B0) (w0:=w0) w hle
 have hR:=refers18_spec (B0:=B0) (w0:=w0) w hle
 unfold stepA at hst hS2
 simp only at hst hS2
 refine gaa ?_
 refine oP (xR (el':=tokLV (w,ln)) (cs:=[_,_]) rfl rfl zo hmi rfl rfl) rfl ?_
 refine gac ?_
 refine oS (sF [_] rfl hD ?_) rfl
 cases hdw:defW w with
 |some x=>
  rw[hdw] at hst
  simp only at hst
  unfold dfLV
  refine gaa ?_
  refine oC rfl (fun _=>?_) (fun h=>by cases h)
  refine gaf ?_
  refine oP (pM (lv:=v) rfl) rfl ?_
  refine gac ?_
  refine oS (sL [_] rfl (zeC rfl rfl eN) rfl rfl rfl ?_) rfl
  refine oS (S.acc rfl hacc rfl (by simp;rfl) rfl (by rw[hlm];simp;omega) fun v' H2 hacc'=>?_) rfl
  refine oP (pA (lv:=v') rfl) rfl ?_
  refine gaa ?_
  exact ⟨_,_,_,by omega,⟨i+1,t,labs++[(x,og+t.length)],v',by omega,rfl,rfl,by rw[zMa];exact hacc',by simp;omega,hst⟩,⟨rfl,rfl,rfl,rfl,rfl,int_eq zo,trivial⟩,zhR _,hj⟩
 |none=>
  rw[hdw] at hst hS2
  simp only at hst hS2
  rw[addT_join _ _ _ hdw] at hst hS2
  unfold dfLV
  refine gaa ?_
  refine oC rfl (fun h=>by cases h) (fun _=>?_)
  refine gaa ?_
  refine oP (xR (el':=tokLV (w,ln)) (cs:=[_,_]) rfl rfl zo hmi rfl rfl) rfl ?_
  refine gac ?_
  refine oS (sF [_] rfl hR ?_) rfl
  cases hrw:refW w with
  |some x=>
   have hp:pieceW (findL kn) w=padW 6 (findL kn x):=by
    unfold pieceW
    rw[hrw]
    exact addrW_pad _
   rw[hp] at hst
   have hx:=hka x
   have h6:=padW_len 6 (findL kn x)
   unfold dfLV
   refine gaa ?_
   refine oC rfl (fun _=>?_) (fun h=>by cases h)
   refine gaa ?_
   refine oS (sF [_,_] rfl (address18_spec kn x zo) ?_) rfl
   refine oS (sF [_] rfl (six18_spec (findL kn x) zo) ?_) rfl
   refine oS (sF [_,_] rfl (join18_spec t (padW 6 (findL kn x)) zo zo) ?_) rfl
   refine gat ?_
   exact ⟨_,_,_,by omega,⟨i+1,_,labs,v,by omega,rfl,rfl,hacc,by omega,hst⟩,⟨rfl,rfl,rfl,rfl,rfl,int_eq zo,trivial⟩,zhR _,hj⟩
  |none=>
   have hp:pieceW (findL kn) w=w:=by
    unfold pieceW
    rw[hrw]
   rw[hp] at hst
   unfold dfLV
   refine gaa ?_
   refine oC rfl (fun h=>by cases h) (fun _=>?_)
   refine gaa ?_
   refine oP (xR (el':=tokLV (w,ln)) (cs:=[_,_]) rfl rfl zo hmi rfl rfl) rfl ?_
   refine gac ?_
   refine oS (sF [_,_] rfl (join18_spec t w zo zo) ?_) rfl
   refine gat ?_
   exact ⟨_,_,_,by omega,⟨i+1,_,labs,v,by omega,rfl,rfl,hacc,by omega,hst⟩,⟨rfl,rfl,rfl,rfl,rfl,int_eq zo,trivial⟩,zhR _,hj⟩
end
end Go.Proofs.YtpbbgkoalnonoaaGreatDoor.Asm
namespace Go.Proofs.YtpbbgkoalnonoaaGreatDoor.Asm
open Go.GL Go.RowKit Go.Stele
theorem findL_nil:findL []=fun _=>0:=rfl
attribute [local irreducible] LOps LCode LStep LCalls Go.GL.Pure QThen QBlock RetPost LQ LAny LLate LLateOp
section
variable {B0:Nat} {w0:World}
theorem assemble18_spec (src:List UInt8) (og:Int) (hsrc:src.length≤300000000) :
  LCalls (KC B0 w0) 32 [str src,int .i64 og] [] (RetIf (Asm18 (asmE src og))):=by
 have hw:=words18_spec (B0:=B0) (w0:=w0) src hsrc
 have hA:asmE src og=asmE src og:=rfl
 conv at hA=>rhs;unfold asmE
 generalize hR:asmE src og=R at hA ⊢
 refine LCalls.intro4 Tryz.func32 rfl (n:=62) rfl rfl rfl ?_
 refine gaa ?_
 refine oB 17 rfl (fun h1=>?_) (fun h1=>?_)
 ·have h1':og<0:=zt h1
  rw[if_pos (.inl h1')] at hA
  subst hA
  refine gad ?_
  refine oC rfl (fun _=>?_) (fun h=>by cases h)
  refine gaf ?_
  refine oS (sL (es:=[]) [] rfl eN rfl rfl rfl ?_) rfl
  refine gac ?_
  exact retRetIf rfl (rC (zrt rfl) (rC (rT (v:=.list _) rfl zsr) (rC (zrt rfl) (zra rfl)))) ⟨_,rfl⟩
 have h1':¬ og<0:=zf h1
 refine gac ?_
 refine oC rfl (fun h2=>?_) (fun h2=>?_)
 ·have h2':og ≥ 262144:=zt h2
  rw[if_pos (.inr h2')] at hA
  subst hA
  refine gaf ?_
  refine oS (sL (es:=[]) [] rfl eN rfl rfl rfl ?_) rfl
  refine gac ?_
  exact retRetIf rfl (rC (zrt rfl) (rC (rT (v:=.list _) rfl zsr) (rC (zrt rfl) (zra rfl)))) ⟨_,rfl⟩
 have h2':¬ og ≥ 262144:=zf h2
 rw[if_neg zo] at hA
 obtain ⟨o,rfl⟩:∃ o:Nat,og=(o:Int):=⟨og.toNat,by omega⟩
 rw[Int.toNat_natCast] at hA
 refine gaa ?_
 refine oS (S.fnIf [_] rfl hw ?_) rfl
 rintro lv ⟨ts,rfl,hts⟩
 have hwt:=words_tot src
 have hwl:=wordsP_len src
 have hcl:=wordsP_clean src
 rw[←hts] at hwt hwl hcl hA
 rw[zLm] at hwl
 have hne:∀ w∈txt ts,w≠[]:=fun w hw=>(hcl w hw).1
 have hs:∀ p∈ts,p.1≠[]∧p.1.length≤1000000000:=fun p hp=>by
  have hm:p.1∈ts.map (·.1):=List.mem_map_of_mem hp
  have:=tot_mem hm
  exact ⟨(hcl _ hm).1,by omega⟩
 have hla:(ts.map tokLV).length=ts.length:=zLm _
 generalize hE:errW (defs (ts.map (·.1))) [] (ts.map (·.1))=E at hA
 refine gab ?_
 refine oL (fun kk ls H=>∃ i:Nat,i≤ts.length∧kk=ts.length-i∧ls=[(1,int .i64 (o:Nat)),(8,.list (ts.map tokLV)),(9,int .i64 (i:Nat))]∧H=[]∧errW (defs (txt ts)) (defs (txt (ts.take i))) (txt (ts.drop i))=E)
  ⟨_,_,_,⟨0,Nat.zero_le _,rfl,rfl,rfl,hE⟩,⟨rfl,rfl,rfl,trivial⟩,zhR _⟩ ?_
 rintro kk ls H ⟨i,hi,rfl,rfl,rfl,hI⟩ j hj
 refine gaa ?_
 refine oC rfl (fun hc=>?_) (fun hc=>?_)
 ·have hlt:i<ts.length:=by have:=zt hc;omega
  have hf:=fault18_spec (B0:=B0) (w0:=w0) ts i hlt zo hs
  have hmi:=map_get tokLV ts i hlt
  have htk:defs (txt (ts.take (i+1)))=defs (txt (ts.take i))++defs [ts[i].1]:=by
   rw[List.take_succ_eq_append_getElem hlt,←defs_app,txt,zMa]
   rfl
  rw[List.drop_eq_getElem_cons hlt] at hI
  generalize ts[i]=p at hI hf hmi htk
  obtain ⟨w,ln⟩:=p
  have hI:errW (defs (txt ts)) (defs (txt (ts.take i))) (w::txt (ts.drop (i+1)))=E:=hI
  rw[errW,←htk] at hI
  simp only at hf
  generalize fltW (defs (txt ts)) (defs (txt (ts.take i))) w=F at hI hf
  refine gaa ?_
  refine oS (sF [_,_] rfl hf ?_) rfl
  refine gab ?_
  by_cases hF:F=0
  ·subst hF
   rw[if_neg (fun g=>g rfl)] at hI
   refine oC rfl (fun h=>?_) (fun _=>?_)
   ·have h3:(!decide (((0:Nat):Int)=0))=true:=h
    simp at h3
   refine gaa ?_
   exact ⟨_,_,_,by omega,⟨i+1,by omega,rfl,rfl,rfl,hI⟩,⟨rfl,rfl,int_eq zo,trivial⟩,zhR _,hj⟩
  ·rw[if_pos hF] at hI
   subst hI
   rw[if_pos hF] at hA
   subst hA
   refine oC rfl (fun _=>?_) (fun h=>?_)
   rotate_left
   ·have h3:(!decide ((F:Int)=0))=false:=h
    simp at h3
    exact absurd h3 hF
   refine gau ?_
   refine LCode.draw (m:=11) rfl [] ?_
   refine aT 1 rfl rfl (pM (lv:=.list _) rfl) ?_
   refine aT 2 rfl rfl (pM (lv:=.atom _) rfl) ?_
   refine aT 3 rfl rfl (xR (el':=tokLV (w,ln)) (cs:=[_,_]) rfl rfl zo hmi rfl rfl) ?_
   refine aT 4 rfl rfl (Pure.field1 rfl rfl) ?_
   refine aT 5 rfl rfl (Pure.loadRef (c:=.atom _) rfl rfl) ?_
   refine aT 6 rfl rfl (pM (lv:=.atom _) rfl) ?_
   refine aT 7 rfl rfl (pA (lv:=.atom _) rfl) ?_
   refine LAny.late ?_ zhr
   refine lO 0 (lS (H1:=[]) rfl (.inl rfl) rfl zpr zhr (sL (es:=[]) [] rfl eN rfl rfl rfl ?_))
   refine lO 8 (lH rfl rfl (pA (lv:=.list []) rfl) ?_)
   refine lO 9 (lH rfl rfl (pA (lv:=.atom _) rfl) ?_)
   refine lO 10 (lH rfl rfl (pA (lv:=.atom _) rfl) ?_)
   refine lD zk ?_
   refine gae ?_
   exact retRetIf hj (rC (zrt rfl) (rC (rT (v:=.list _) rfl zsr) (rC (zrt rfl) (zra rfl)))) ⟨_,rfl⟩
 have hi':i=ts.length:=by have:=zf hc;omega
 subst hi'
 rw[List.drop_length] at hI
 have hI:0=E:=hI
 subst hI
 rw[if_neg (fun g=>g rfl)] at hA
 have hT:3 * tot (txt ts)≤1000000000000:=by
  have:tot (txt ts)≤src.length+1:=hwt
  omega
 have hb1:=build18_spec (B0:=B0) (w0:=w0) ts o [] zo zo hs zDd (fun x=>Nat.zero_le _) hT
 rw[findL_nil] at hb1
 have hlabs:((txt ts).foldl (stepA (fun _=>0) o) ([],[])).2=labsA (fun _=>0) o (ts.map (·.1)):=rfl
 have hlen:∀ kn,((txt ts).foldl (stepA kn o) ([],[])).1.length=lenW false (txt ts):=fun kn=>by
  rw[stepA_fst]
  exact textA_len kn _ hne
 have hlw:=lenW_le (txt ts) false
 have hle:∀ p∈((txt ts).foldl (stepA (fun _=>0) o) ([],[])).2,p.2≤1000000000000:=fun p hp=>by
  have:=labs_le (fun _=>0) o (lenW false (txt ts)) (txt ts) ([],[]) hne (by rw[hlen];exact zNr _) (fun p hp=>by cases hp) p hp
  have h5:tot (txt ts)≤src.length+1:=hwt
  omega
 have hll:=(fold_labs (fun _=>0) o (txt ts) ([],[])).2
 have htl:(txt ts).length=ts.length:=zLm _
 rw[hlabs] at hle hll
 rw[hlabs] at hb1
 generalize labsA (fun _=>0) o (ts.map (·.1))=labs at hle hll hA hb1
 have hb2:=build18_spec (B0:=B0) (w0:=w0) ts o labs zo zo hs (by simp only[zLn] at hll;omega) (findL_le hle) hT
 have e1:((txt ts).foldl (stepA (findL labs) o) ([],[])).1=textA (findL labs) (ts.map (·.1)):=stepA_fst _ _ _ _
 rw[e1] at hb2
 generalize textA (findL labs) (ts.map (·.1))=tx at hA hb2
 refine gaa ?_
 refine oS (sL (es:=[]) [] rfl eN rfl rfl rfl ?_) rfl
 refine oS (sF [_,_,_] rfl hb1 ?_) rfl
 refine gab ?_
 refine oS (sF [_,_,_] rfl hb2 ?_) rfl
 refine gab ?_
 refine oC rfl (fun h=>?_) (fun h=>?_)
 ·have h5:40000<tx.length:=by have:=zt h;omega
  rw[if_pos h5] at hA
  subst hA
  refine gaf ?_
  refine oS (sL (es:=[]) [] rfl eN rfl rfl rfl ?_) rfl
  refine gac ?_
  exact retRetIf hj (rC (zrt rfl) (rC (rT (v:=.list _) rfl zsr) (rC (zrt rfl) (zra rfl)))) ⟨_,rfl⟩
 ·have h5:¬ 40000<tx.length:=by have:=zf h;omega
  rw[if_neg h5] at hA
  subst hA
  refine gab ?_
  exact retRetIf hj (rC (zrt rfl) (rC (rT (v:=.list _) rfl zsr) (rC (zrt rfl) (zra rfl)))) ⟨_,rfl⟩
end
end Go.Proofs.YtpbbgkoalnonoaaGreatDoor.Asm
