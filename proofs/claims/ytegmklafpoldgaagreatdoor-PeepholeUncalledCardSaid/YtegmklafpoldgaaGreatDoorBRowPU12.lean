/- Texts joined: CmpG, CmpH, InpNodes, InpY3, CmpI0, PtA, PtB, PtC, PtD, PtE, PtF, PtG, PtH, PtI, PtJ. -/
import Derived.Test.YtegmklafpoldgaaGreatDoorBRowPU3
import Derived.Test.YtegmklafpoldgaaGreatDoorBRowPU5
import Derived.Test.YtegmklafpoldgaaGreatDoorBRowPU6
import Derived.Test.YtegmklafpoldgaaGreatDoorBRowPU9
import Derived.Test.YtegmklafpoldgaaGreatDoorBRowPU10
import Derived.Test.YtegmklafpoldgaaGreatDoorBRowPU11
set_option linter.unusedVariables false
set_option linter.unusedSimpArgs false
set_option maxRecDepth 100000
set_option maxHeartbeats 4000000
namespace Go.Proofs.YtegmklafpoldgaaGreatDoor.Cmp
open Go.GL Go.RowKit Go.Stele
open Go.Lib (decDigits itoa join)
def regLV (r:Int×Int):LV:=.agg [int .i64 r.1,int .i64 r.2]
def orgLV (o:Org):LV:=.agg [int .i64 o.code,int .i64 o.scalars,int .i64 o.arrays]
def symLV (p:Nm×Int):LV:=.agg [str p.1,int .i64 p.2]
def I64 (n:Int):Prop := -9223372036854775808≤n∧n<9223372036854775808
def SmI (n:Int):Prop := -1000000000000≤n∧n≤1000000000000
theorem sum_take {l:List Int} {i:Nat} (h:i<l.length):(l.take (i+1)).sum=(l.take i).sum+l[i]:=by
 rw[List.take_succ_eq_append_getElem h,List.sum_append]
 simp
theorem sum_take_le:∀ (l:List Int) (i:Nat),(∀ n∈l,0<n)→0≤(l.take i).sum∧(l.take i).sum≤l.sum
 |[],i,_=>by simp
 |a::l,0,h=>by
  have:=sum_take_le l l.length fun n hn=>h n (zMo _ hn)
  have h1:=h a zMs
  rw[List.take_length] at this
  rw[List.take_zero,List.sum_nil,List.sum_cons]
  omega
 |a::l,i+1,h=>by
  have:=sum_take_le l i fun n hn=>h n (zMo _ hn)
  have h1:=h a zMs
  rw[List.take_succ_cons,List.sum_cons,List.sum_cons]
  omega
theorem symA_take {l:List (Nm×Int)} {i:Nat} (h:i<l.length) (a:Int):symA a (l.take (i+1))=symA a (l.take i)++[(l[i].1,a+((l.map (·.2)).take i).sum)]:=by
 rw[List.take_succ_eq_append_getElem h,symA_app,←List.map_take]
 rfl
attribute [local irreducible] LOps LCode LStep LCalls Go.GL.Pure QThen QBlock RetPost LQ LAny LLate LLateOp LS
section
variable {B0:Nat} {w0:World}
theorem inside_spec (r:Int×Int) (h2:SmI r.2):LCalls (KC B0 w0) 48 [regLV r] [] (Ret (bool (insideR r))):=by
 obtain ⟨a,n⟩:=r
 unfold SmI at h2
 simp only at h2
 have hI:insideR (a,n)=decide (0≤a∧a≤262144-n):=rfl
 unfold regLV
 refine cI Tryz.func48 rfl (n:=14) rfl rfl rfl ?_
 refine gac ?_
 refine oS (sB rfl fun b1=>?_) rfl
 refine gl4 ?_
 refine oB 6 rfl (fun h=>?_) (fun h=>?_)
 ·have h1:a ≥ 0:=zt h
  refine gl5 ?_
  exact retRet rfl (zra rfl) (bool_eq (by
   rw[hI,Bool.eq_iff_iff,decide_eq_true_iff,decide_eq_true_iff]
   omega))
 ·have h1:¬ a ≥ 0:=zf h
  refine gaz ?_
  exact retRet rfl (zra rfl) (bool_eq (by
   rw[hI]
   symm
   exact decide_eq_false zo))
theorem meets_spec (r s:Int×Int) (h1:SmI r.1) (h2:SmI r.2) (h3:SmI s.1) (h4:SmI s.2):LCalls (KC B0 w0) 49 [regLV r,regLV s] [] (Ret (bool (meetsR r s))):=by
 obtain ⟨a,n⟩:=r
 obtain ⟨b,m⟩:=s
 unfold SmI at h1 h2 h3 h4
 simp only at h1 h2 h3 h4
 have hI:meetsR (a,n) (b,m)=decide (0<n∧0<m∧a<b+m∧b<a+n):=rfl
 unfold regLV
 refine cI Tryz.func49 rfl (n:=33) rfl rfl rfl ?_
 refine gac ?_
 refine oS (sB rfl fun b1=>?_) rfl
 refine oS (sB rfl fun b2=>?_) rfl
 refine gl6 ?_
 refine oB 8 rfl (fun g1=>?_) (fun g1=>?_)
 rotate_left
 ·have g1':¬ n > 0:=zf g1
  refine gbt ?_
  exact retRet rfl (zra rfl) (bool_eq (by rw[hI];symm;exact decide_eq_false zo))
 have g1':n > 0:=zt g1
 refine gl7 ?_
 refine oB 13 rfl (fun g2=>?_) (fun g2=>?_)
 rotate_left
 ·have g2':¬ m > 0:=zf g2
  refine gbt ?_
  exact retRet rfl (zra rfl) (bool_eq (by rw[hI];symm;exact decide_eq_false zo))
 have g2':m > 0:=zt g2
 refine gl8 ?_
 refine oB 23 rfl (fun g3=>?_) (fun g3=>?_)
 rotate_left
 ·have g3':¬ a<b+m:=zf g3
  refine gaz ?_
  exact retRet rfl (zra rfl) (bool_eq (by rw[hI];symm;exact decide_eq_false zo))
 have g3':a<b+m:=zt g3
 refine gl9 ?_
 exact retRet rfl (zra rfl) (bool_eq (by
  rw[hI,Bool.eq_iff_iff,decide_eq_true_iff,decide_eq_true_iff]
  omega))
theorem arrays_spec (vars:List Nm) (arrays:List (Nm×Int)) (fs:List FnD) (o:Org) (hl:arrays.length≤2000000) (hp:∀ a∈arrays,0<a.2) (h0:0≤o.arrays) (h1:o.arrays+(arrays.map (·.2)).sum≤262144):LCalls (KC B0 w0) 24 [Chk.encPrG vars arrays fs,orgLV o] [] (Ret (.tuple [.list ((symA o.arrays arrays).map symLV),int .i64 0])):=by
 have hal:(arrays.map Chk.encArG).length=arrays.length:=zLm _
 have hml:(arrays.map (·.2)).length=arrays.length:=zLm _
 have hps:∀ n∈arrays.map (·.2),0<n:=fun n hn=>by
  obtain ⟨a,ha,rfl⟩:=List.mem_map.1 hn
  exact hp a ha
 unfold Chk.encPrG orgLV
 refine cI Tryz.func24 rfl (n:=50) rfl rfl rfl ?_
 refine gac ?_
 refine oS (sB rfl fun b2=>?_) rfl
 refine oS (sB rfl fun b3=>?_) rfl
 refine gma ?_
 refine oL (fun kk ls H'=>∃ (i:Nat) (v:LV),i≤arrays.length∧kk=arrays.length-i∧ls=[(6,v),(7,int .i64 (o.arrays+((arrays.map (·.2)).take i).sum)),(13,.list (arrays.map Chk.encArG)),(14,int .i64 arrays.length),(15,int .i64 (i:Nat))]∧GL.Acc 2 v ((symA o.arrays (arrays.take i)).map symLV) H' [])
  ⟨_,_,_,⟨0,nilSlice,Nat.zero_le _,rfl,rfl,Acc.nil⟩,⟨rfl,int_eq (by simp),rfl,int_eq zo,rfl,trivial⟩,HSub.nil _⟩ ?_
 rintro kk ls H' ⟨i,v,hi,rfl,rfl,hacc⟩ j hj
 have hsum:=sum_take_le (arrays.map (·.2)) i hps
 refine gae ?_
 refine oC rfl (fun hc=>?_) (fun hc=>?_)
 ·have hlt:i<arrays.length:=by have:=zt hc;omega
  have hpi:=hp _ (List.getElem_mem hlt)
  have hst:=sum_take (l:=arrays.map (·.2)) (i:=i) zo
  rw[List.getElem_map] at hst
  have hsum2:=sum_take_le (arrays.map (·.2)) (i+1) hps
  have hlen:((symA o.arrays (arrays.take i)).map symLV).length=i:=by
   rw[zLm,symA_len,List.length_take]
   omega
  generalize hsi:((arrays.map (·.2)).take i).sum=si at hsum hst
  have hsy:=symA_take hlt o.arrays
  rw[hsi] at hsy
  refine gag ?_
  refine oP (xR (el':=Chk.encArG arrays[i]) (cs:=[_,_]) rfl rfl zo (map_get _ _ _ hlt) rfl rfl) rfl ?_
  refine ga5 ?_
  refine oS (sA fun b9=>?_) rfl
  refine gmb ?_
  refine oB 21 rfl (fun h=>?_) (fun _=>?_)
  ·have:=zt h;omega
  refine gem ?_
  refine oB 25 rfl (fun h=>?_) (fun _=>?_)
  ·have:=zt h;omega
  refine gmc ?_
  refine oB 30 rfl (fun h=>?_) (fun _=>?_)
  ·have:=zt h;omega
  refine gmd ?_
  refine oC rfl (fun h=>?_) (fun _=>?_)
  ·have:=zt h;omega
  refine gdn ?_
  refine oP (pM (lv:=v) rfl) rfl ?_
  refine gme ?_
  refine oS (sL [_] rfl (eC rfl rfl eN) rfl rfl rfl ?_) rfl
  refine oS (S.acc1 rfl hacc rfl (by simp;rfl) rfl (by rw[hlen];simp;omega) fun v' H2 hacc'=>?_) rfl
  refine oP (pA (lv:=v') rfl) rfl ?_
  refine gef ?_
  exact ⟨_,_,_,by omega,⟨i+1,v',by omega,rfl,rfl,by rw[hsy,zMa];exact hacc'⟩,⟨rfl,int_eq (by rw[hst];omega),rfl,rfl,int_eq zo,trivial⟩,zhD zhr,hj⟩
 ·have hi':i=arrays.length:=by have:=zf hc;omega
  subst hi'
  rw[List.take_length] at hacc
  refine LCode.sub (d:=6) (v:=v) rfl hacc.sub ?_
  refine cW zhn ?_
  refine gmf ?_
  exact retRet hj (rC (rT (v:=.list _) rfl zsr) (zra rfl)) rfl
theorem fits_spec (vars:List Nm) (arrays:List (Nm×Int)) (fs:List FnD) (o:Org) (hv6:vars.length≤2000000) (hf6:fs.length≤2000000) (hl:arrays.length≤2000000) (hsm:∀ f∈fs,SmF f) (hn:∀ f∈fs,f.name.length≤1000∧∀ x∈f.params++f.locals,x.length≤1000)
  (hp:∀ a∈arrays,0<a.2) (ht:(arrays.map (·.2)).sum≤150000) (hsc:(scalarsP vars fs).length≤8000) (o1:I64 o.code) (o2:I64 o.scalars) (o3:I64 o.arrays) :
  LCalls (KC B0 w0) 22 [Chk.encPrG vars arrays fs,orgLV o] [] (Ret (bool (fitsP vars arrays fs o))):=by
 have hal:(arrays.map Chk.encArG).length=arrays.length:=zLm _
 have hml:(arrays.map (·.2)).length=arrays.length:=zLm _
 have hps:∀ n∈arrays.map (·.2),0<n:=fun n hn=>by
  obtain ⟨a,ha,rfl⟩:=List.mem_map.1 hn
  exact hp a ha
 have hscl:((scalarsP vars fs).map str).length=(scalarsP vars fs).length:=zLm _
 have hS:=Chk.scalars_specG (B0:=B0) (w0:=w0) (vars:=vars) (fs:=fs) (.list (arrays.map Chk.encArG)) hv6 hf6 hsm hn
 rw[fits_go]
 unfold Chk.encPrG orgLV
 refine cI Tryz.func22 rfl (n:=63) rfl rfl rfl ?_
 refine gac ?_
 refine oS (sB rfl fun b2=>?_) rfl
 refine oS (sB rfl fun b3=>?_) rfl
 refine gmg ?_
 refine oL (fun kk ls H'=>∃ (i:Nat),i≤arrays.length∧kk=arrays.length-i∧ls=[(2,ptr b2 0),(3,ptr b3 0),(5,int .i64 (((arrays.map (·.2)).take i).sum)),(14,.list (arrays.map Chk.encArG)),(15,int .i64 arrays.length),(16,int .i64 (i:Nat))]∧H'=[(b3,.cells 35 [int .i64 o.code,int .i64 o.scalars,int .i64 o.arrays]),(b2,.cells 28 [.list (vars.map str),.list (arrays.map Chk.encArG),.list (fs.map encFn)])])
  ⟨_,_,_,⟨0,Nat.zero_le _,rfl,rfl,rfl⟩,⟨rfl,rfl,rfl,rfl,int_eq zo,rfl,trivial⟩,zhR _⟩ ?_
 rintro kk ls H' ⟨i,hi,rfl,rfl,rfl⟩ j hj
 have hsum:=sum_take_le (arrays.map (·.2)) i hps
 refine gae ?_
 refine oC rfl (fun hc=>?_) (fun hc=>?_)
 ·have hlt:i<arrays.length:=by have:=zt hc;omega
  have hpi:=hp _ (List.getElem_mem hlt)
  have hst:=sum_take (l:=arrays.map (·.2)) (i:=i) zo
  rw[List.getElem_map] at hst
  have hsum2:=sum_take_le (arrays.map (·.2)) (i+1) hps
  generalize hsi:((arrays.map (·.2)).take i).sum=si at hsum hst
  refine gag ?_
  refine oP (xR (el':=Chk.encArG arrays[i]) (cs:=[_,_]) rfl rfl zo (map_get _ _ _ hlt) rfl rfl) rfl ?_
  refine ga5 ?_
  refine oS (sA fun b7=>?_) rfl
  refine gmh ?_
  exact ⟨_,_,_,by omega,⟨i+1,by omega,rfl,rfl,rfl⟩,⟨rfl,rfl,int_eq (by rw[hst]),rfl,rfl,int_eq zo,trivial⟩,zhD zhr,hj⟩
 have hi':i=arrays.length:=by have:=zf hc;omega
 subst hi'
 rw[←hml,List.take_length] at hsum ⊢
 generalize (arrays.map (·.2)).sum=total at hsum ht ⊢
 generalize (scalarsP vars fs).length=ns at hsc hscl ⊢
 refine gmi ?_
 refine cD (m:=16) rfl [(b3,.cells 35 [int .i64 o.code,int .i64 o.scalars,int .i64 o.arrays]),(b2,.cells 28 [.list (vars.map str),.list (arrays.map Chk.encArG),.list (fs.map encFn)])] ?_
 refine aT 0 rfl rfl (pF rfl) ?_
 refine aT 1 rfl rfl (pL (c:=.atom _) rfl zm0 rfl) ?_
 refine aT 2 rfl rfl (pG (cs':=[_,_,_]) rfl zm1 rfl rfl) ?_
 refine aT 7 rfl rfl (pF rfl) ?_
 refine aT 8 rfl rfl (pL (c:=.atom _) rfl zm0 rfl) ?_
 refine aT 9 rfl rfl (pB _ (cs:=[_,_]) rfl) ?_
 refine aT 10 rfl rfl (pF rfl) ?_
 refine aT 11 rfl rfl (pL (c:=.atom _) rfl zm0 rfl) ?_
 refine aT 12 rfl rfl (pM (lv:=.atom _) rfl) ?_
 refine aT 13 rfl rfl (pB _ (cs:=[_,_]) rfl) ?_
 refine aL ?_ zhr
 refine lO 3 (lS (H1:=[]) rfl (.inl rfl) rfl zpr zhr (sF [_] rfl hS ?_))
 refine lO 4 (lH rfl rfl (Pure.llen rfl) ?_)
 refine lO 5 (lH rfl rfl (Pure.add rfl rfl zo) ?_)
 refine lO 6 (lH rfl rfl (pB _ (cs:=[_,_]) rfl) ?_)
 refine lO 14 (lS (H1:=[]) rfl (.inl rfl) rfl zpr zhr (sL (es:=[LV.agg [int .i64 o.scalars,int .i64 (3+(((scalarsP vars fs).map str).length:Int))],.agg [int .i64 o.code,int .i64 40000],.agg [int .i64 o.arrays,int .i64 total]]) [_,_,_] rfl (eC rfl rfl (eC rfl rfl (eC rfl rfl eN))) rfl rfl rfl ?_))
 refine lO 15 (lH rfl rfl (pA (lv:=.list _) rfl) ?_)
 refine lD zk ?_
 have e3:(3:Int)+(((scalarsP vars fs).map str).length:Int)=3+(ns:Nat):=by rw[hscl]
 rw[e3]
 generalize hrs:[(o.scalars,(3:Int)+(ns:Nat)),(o.code,(40000:Int)),(o.arrays,total)]=rs
 have hrl:([LV.agg [int .i64 o.scalars,int .i64 (3+(ns:Int))],.agg [int .i64 o.code,int .i64 40000],.agg [int .i64 o.arrays,int .i64 total]]:List LV)=rs.map regLV:=by rw[←hrs];rfl
 rw[hrl]
 have hlr:rs.length=3:=by rw[←hrs];rfl
 have hsz:∀ r∈rs,SmI r.2∧0≤r.2:=by
  rw[←hrs]
  intro r hr
  simp only[zMi,List.not_mem_nil,or_false] at hr
  unfold SmI
  rcases hr with rfl|rfl|rfl <;> simp only <;> omega
 have hrm:(rs.map regLV).length=rs.length:=zLm _
 clear hrl hrs
 generalize hR:goR [] rs=R
 refine qN ?_
 refine cW zhn ?_
 refine gbl ?_
 refine oL (fun kk ls H'=>∃ (i:Nat),i≤rs.length∧kk=rs.length-i∧ls=[(8,.list (rs.map regLV)),(40,.list (rs.map regLV)),(41,int .i64 rs.length),(42,int .i64 (i:Nat))]∧H'=[]∧goR (rs.take i) (rs.drop i)=R∧∀ r∈rs.take i,insideR r=true)
  ⟨_,_,_,⟨0,Nat.zero_le _,rfl,rfl,rfl,hR,fun r hr=>by cases hr⟩,⟨rfl,rfl,int_eq zo,rfl,trivial⟩,zhR _⟩ ?_
 rintro kk ls H' ⟨i,hi,rfl,rfl,rfl,hgo,hins⟩ j1 hj1
 refine gae ?_
 refine oC rfl (fun hc=>?_) (fun hc=>?_)
 rotate_left
 ·have hi':i=rs.length:=by have:=zf hc;omega
  subst hi'
  rw[List.drop_length,goR] at hgo
  refine gbw ?_
  exact retRet (hj1.trans hj) (zra rfl) (bool_eq hgo)
 have hlt:i<rs.length:=by have:=zt hc;omega
 have hsi:=hsz _ (List.getElem_mem hlt)
 rw[List.drop_eq_getElem_cons hlt,goR,←List.take_succ_eq_append_getElem hlt] at hgo
 generalize hgr:rs[i]=r at hgo hsi
 refine gbo ?_
 refine oP (xR (el':=regLV r) (cs:=[_,_]) rfl rfl zo (by rw[←hgr];exact map_get _ _ _ hlt) rfl rfl) rfl ?_
 refine ga5 ?_
 refine oS (sA fun b10=>?_) rfl
 refine gmj ?_
 refine oS (sF [_] rfl (inside_spec r hsi.1) ?_) rfl
 refine ga8 ?_
 refine oC rfl (fun h=>?_) (fun h=>?_)
 ·have h':insideR r=false:=by simpa using h
  rw[h',Bool.false_and,Bool.false_and] at hgo
  refine ga2 ?_
  exact retRet (hj1.trans hj) (zra rfl) (bool_eq hgo)
 have h':insideR r=true:=by simpa using h
 rw[h',Bool.true_and] at hgo
 have inb:∀ r:Int×Int,SmI r.2∧0≤r.2→insideR r=true→SmI r.1:=fun r h1 h2=>by
  have:0≤r.1∧r.1≤262144-r.2:=zt h2
  unfold SmI at h1 ⊢
  omega
 have hri:=inb r hsi h'
 have htl:(rs.take i).length=i:=by rw[List.length_take];omega
 have htm:((rs.take i).map regLV).length=i:=by rw[zLm,htl]
 have hts:((rs.map regLV).take i)=(rs.take i).map regLV:=List.map_take.symm
 refine gfj ?_
 refine oP (Pure.lsliceE (i:=0) (j:=(i:Nat)) (es:=rs.map regLV) (ms:=(rs.take i).map regLV) rfl rfl ⟨_,rfl⟩ zo zo zo (fun v hv=>by obtain ⟨r,_,rfl⟩:=List.mem_map.1 hv;rfl) (by rw[Int.toNat_natCast,←hts];rfl)) rfl ?_
 refine gbf ?_
 refine oL (fun kk ls H'=>∃ (x:Nat),x≤i∧kk=i-x∧ls=[(8,.list (rs.map regLV)),(10,ptr b10 0),(40,.list (rs.map regLV)),(41,int .i64 rs.length),(42,int .i64 (i:Nat)),(52,.list ((rs.take i).map regLV)),(53,int .i64 i),(54,int .i64 (x:Nat))]∧H'=[(b10,.cells 125 [int .i64 r.1,int .i64 r.2])]∧((((rs.take i).drop x).all fun s=>!meetsR r s) && goR (rs.take (i+1)) (rs.drop (i+1)))=R)
  ⟨_,_,_,⟨0,Nat.zero_le _,rfl,rfl,rfl,by rw[List.drop_zero];exact hgo⟩,⟨rfl,rfl,rfl,rfl,rfl,rfl,int_eq zo,rfl,trivial⟩,zhR _⟩ ?_
 rintro kk ls H' ⟨x,hx,rfl,rfl,rfl,hall⟩ j2 hj2
 refine gae ?_
 refine oC rfl (fun hc=>?_) (fun hc=>?_)
 ·have hlx:x<(rs.take i).length:=by have:=zt hc;omega
  have hm1:=List.getElem_mem hlx
  have hss:=hsz _ (List.mem_of_mem_take hm1)
  have hsn:=inb _ hss (hins _ hm1)
  rw[List.drop_eq_getElem_cons hlx,List.all_cons] at hall
  generalize hgs:(rs.take i)[x]=s at hall hss hsn
  refine gag ?_
  refine oP (xR (el':=regLV s) (cs:=[_,_]) rfl rfl zo (by rw[←hgs];exact map_get _ _ _ hlx) rfl rfl) rfl ?_
  refine ga5 ?_
  refine oS (sA fun b12=>?_) rfl
  refine gmk ?_
  refine oS (sF [_,_] rfl (meets_spec r s hri hsi.1 hsn hss.1) ?_) rfl
  refine gaq ?_
  refine oC rfl (fun h=>?_) (fun h=>?_)
  ·have h2:meetsR r s=true:=h
   rw[h2] at hall
   refine ga2 ?_
   exact retRet (hj2.trans (hj1.trans hj)) (zra rfl) (bool_eq (by rw[←hall];rfl))
  ·have h2:meetsR r s=false:=h
   rw[h2] at hall
   refine gax ?_
   exact ⟨_,_,_,by omega,⟨x+1,by omega,rfl,rfl,rfl,hall⟩,⟨rfl,rfl,rfl,rfl,rfl,rfl,rfl,int_eq zo,trivial⟩,zhD zhr,hj2⟩
 ·have hx':x=i:=by have:=zf hc;omega
  subst hx'
  rw[List.drop_eq_nil_of_le (by rw[htl];exact zNr _)] at hall
  refine gdp ?_
  exact ⟨_,_,_,by omega,⟨x+1,by omega,rfl,rfl,rfl,hall,fun q hq=>by
   rw[List.take_succ_eq_append_getElem hlt,hgr] at hq
   rcases List.mem_append.1 hq with hq|hq
   ·exact hins q hq
   ·rw[List.mem_singleton.1 hq];exact h'⟩,⟨rfl,rfl,rfl,int_eq zo,trivial⟩,HSub.nil _,hj2.trans hj1⟩
end
end Go.Proofs.YtegmklafpoldgaaGreatDoor.Cmp
namespace Go.Proofs.YtegmklafpoldgaaGreatDoor.Cmp
open Go.GL Go.RowKit Go.Stele
open Go.Lib (decDigits itoa join)
def scKV (S:Int):Nat→List Nm→KV
 |_,[]=>[]
 |i,x::r=>(x,int .i64 (S+3+(i:Nat)))::scKV S (i+1) r
theorem scKV_app (S:Int):∀ (l m:List Nm) (i:Nat),scKV S i (l++m)=scKV S i l++scKV S (i+l.length) m
 |[],m,i=>by simp[scKV]
 |x::r,m,i=>by
  rw[List.cons_append,scKV,scKV_app S r m,scKV,List.cons_append,zLc,Nat.add_right_comm,Nat.add_assoc]
theorem scKV_keys (S:Int):∀ (l:List Nm) (i:Nat),(scKV S i l).map (·.1)=l
 |[],i=>rfl
 |x::r,i=>by rw[scKV,zMc,scKV_keys S r]
theorem scKV_take {S:Int} {l:List Nm} {i:Nat} (h:i<l.length) (hn:l.Nodup):GL.kvPut (scKV S 0 (l.take i)) l[i] (int .i64 (S+3+(i:Nat)))=scKV S 0 (l.take (i+1)):=by
 rw[List.take_succ_eq_append_getElem h,scKV_app,List.length_take,Nat.zero_add,Nat.min_eq_left zo]
 refine kv_new ?_
 rw[scKV_keys]
 intro hm
 rw[←List.take_append_drop i l,List.drop_eq_getElem_cons h,List.nodup_append] at hn
 exact hn.2.2 _ hm _ zMs rfl
theorem scKV_get (S:Int) (k:Nm):∀ (l:List Nm) (i:Nat),GL.kvGet (scKV S i l) k=if k∈l then some (int .i64 (S+3+((i+l.idxOf k:Nat):Int))) else none
 |[],i=>rfl
 |x::r,i=>by
  rw[scKV,GL.kvGet]
  by_cases h:x=k
  ·rw[if_pos h,if_pos (by rw[h];exact List.mem_cons_self ..),List.idxOf_cons,h]
   simp
  ·rw[if_neg h,scKV_get S k r (i+1)]
   by_cases hm:k∈r
   ·rw[if_pos hm,if_pos (zMo _ hm),List.idxOf_cons,cond_eq_ite,if_neg (by simpa using h)]
    congr 4
    omega
   ·rw[if_neg hm,if_neg (by rw[zMi];exact fun g=>g.elim (fun e=>h e.symm) hm)]
def arKV (l:List (Nm×Int)):KV:=l.map fun p=>(p.1,int .i64 p.2)
theorem arKV_take {l:List (Nm×Int)} {i:Nat} (h:i<l.length) (hn:(l.map (·.1)).Nodup):GL.kvPut (arKV (l.take i)) l[i].1 (int .i64 l[i].2)=arKV (l.take (i+1)):=by
 unfold arKV
 rw[List.take_succ_eq_append_getElem h,zMa]
 refine kv_new ?_
 rw[List.map_map]
 intro hm
 have e1:l.map (·.1)=(l.take i).map (·.1)++l[i].1::(l.drop (i+1)).map (·.1):=by
  conv=>lhs;rw[←List.take_append_drop i l,List.drop_eq_getElem_cons h]
  rw[zMa,zMc]
 rw[e1,List.nodup_append] at hn
 exact hn.2.2 _ hm _ zMs rfl
theorem arKV_get (name:Nm):∀ (l:List (Nm×Int)) (a:Int),(GL.kvGet (arKV (symA a l)) name).getD (int .i64 0)=int .i64 (arrA a l name)
 |[],a=>rfl
 |(x,n)::r,a=>by
  rw[symA,arrA]
  show (GL.kvGet ((x,int .i64 a)::arKV (symA (a+n) r)) name).getD (int .i64 0)=_
  rw[GL.kvGet]
  simp only
  by_cases h:x=name
  ·rw[if_pos h,if_pos h]
   rfl
  ·rw[if_neg h,if_neg h]
   exact arKV_get name r (a+n)
def cmpLV:Except Int Wd→LV
 |.error e=>.tuple [str [],int .i64 e]
 |.ok t=>.tuple [str t,int .i64 0]
theorem tb_ok {P:Pr} {o:Org} (hF:FitN P o) (own:Nm) (ho:own.length≤1000000) (b1 b2 b3 g1 g2:Nat):TBok ⟨b1,b2,b3,scKV o.scalars 0 (scalarsP P.vars P.funcs),arKV (symA o.arrays (arrsP P)),g1,g2,o.scalars.toNat⟩ (ccF P.vars (arrsP P) P.funcs o own) own:=by
 have s0:=hF.s0
 have s1:=hF.s1
 have a0:=hF.a0
 have a1:=hF.a1
 have hp:∀ p∈arrsP P,0≤p.2:=fun p hp=>by
  obtain ⟨a,_,rfl⟩:=List.mem_map.1 hp
  exact Int.natCast_nonneg _
 have hpl:∀ k,0≤placeA (scalarsP P.vars P.funcs) o.scalars k∧placeA (scalarsP P.vars P.funcs) o.scalars k≤262144∧(k∈scalarsP P.vars P.funcs→int .i64 (o.scalars+3+((0+(scalarsP P.vars P.funcs).idxOf k:Nat):Int))=int .i64 (((placeA (scalarsP P.vars P.funcs) o.scalars k).toNat:Nat):Int)):=fun k=>by
  unfold placeA
  by_cases h:k∈scalarsP P.vars P.funcs
  ·have:=List.idxOf_lt_length_of_mem h
   rw[if_pos h]
   exact ⟨by omega,by omega,fun _=>int_eq zo⟩
  ·rw[if_neg h]
   exact ⟨by omega,by omega,fun h2=>absurd h2 h⟩
 refine ⟨fun name=>?_,fun name=>?_,?_,?_,?_,?_,ho⟩
 ·refine ⟨(placeA (scalarsP P.vars P.funcs) o.scalars (keyC (scalarsP P.vars P.funcs) own name)).toNat,?_,?_,?_⟩
  ·have:=hpl (keyC (scalarsP P.vars P.funcs) own name);omega
  ·exact itoa_pos (hpl _).1
  ·show (∃ v,GL.kvGet (scKV o.scalars 0 (scalarsP P.vars P.funcs)) (own++[46]++name)=some v∧_)∨(GL.kvGet (scKV o.scalars 0 (scalarsP P.vars P.funcs)) (own++[46]++name)=none∧(GL.kvGet (scKV o.scalars 0 (scalarsP P.vars P.funcs)) name).getD _=_)
   rw[scKV_get,scKV_get]
   unfold keyC
   by_cases h:own++[46]++name∈scalarsP P.vars P.funcs
   ·left
    rw[if_pos h,if_pos h]
    exact ⟨_,rfl,(hpl _).2.2 h⟩
   ·right
    rw[if_neg h,if_neg h]
    refine ⟨rfl,?_⟩
    by_cases h2:name∈scalarsP P.vars P.funcs
    ·rw[if_pos h2]
     exact (hpl _).2.2 h2
    ·rw[if_neg h2]
     unfold placeA
     rw[if_neg h2]
     rfl
 ·have h1:=arrA_pos (arrsP P) o.arrays a0 hp name
  have h2:=arrA_le (arrsP P) o.arrays a0 hp name
  have h3:((arrsP P).map (·.2)).sum=((totA P.arrays:Nat):Int):=totA_int P.arrays
  rw[h3] at h2
  refine ⟨(arrA o.arrays (arrsP P) name).toNat,by omega,itoa_pos h1,?_⟩
  show (GL.kvGet (arKV (symA o.arrays (arrsP P))) name).getD _=_
  rw[arKV_get]
  exact int_eq zo
 ·exact itoa_pos s0
 ·show itoa (o.scalars+1)=_
  rw[itoa_pos zo]
  congr 1
  show _=o.scalars.toNat+1
  omega
 ·show itoa (o.scalars+2)=_
  rw[itoa_pos zo]
  congr 1
  show _=o.scalars.toNat+2
  omega
 ·show o.scalars.toNat≤_
  omega
theorem nm_len {s:Nm} (h:isNm s=true):s.length≤24:=by
 unfold isNm at h
 rw[zBa,zBa,zDe] at h
 exact h.1.1
theorem env_ok {P:Pr} (hv:Valid P) {f:FnD} (hf:f∈P.funcs) (hown:∀ x∈f.params++f.locals,x.length≤24) {kn:List FSum} (hk:Known P.funcs kn):EnvOk (envF P.vars (P.arrays.map (·.name)) (P.funcs.map (·.name)) kn f):=by
 have hfr:=fresh_zero _ _ hv.names
 refine ⟨fun s hs=>?_,fun k hk'=>?_⟩
 ·unfold scalarE at hs
  split at hs
  ·rename_i h
   rcases h with h|h
   ·exact nm_len (hfr.2 s (List.mem_append_left _ (List.mem_append_left _ h))).2
   ·exact hown s h
  ·split at hs <;> cases hs
 ·obtain ⟨g,g1,g2,_⟩:=hk k hk'
  rw[←g2]
  exact nm_len (hfr.2 _ (List.mem_append_right _ (List.mem_map_of_mem g1))).2
theorem own_short:∀ (vars arrays later:List Nm) (known:List FSum) (fs:List FnD),errFs vars arrays later known fs=0→∀ f∈fs,∀ x∈f.params++f.locals,x.length≤24
 |_,_,_,_,[],_,f,hf=>(List.not_mem_nil hf).elim
 |vars,arrays,later,known,g::l,h,f,hf=>by
  rw[errFs] at h
  obtain ⟨h1,h2⟩:=orE_zero.1 h
  rcases zMi.1 hf with rfl|hf
  ·unfold errF at h1
   intro x hx
   exact nm_len ((fresh_zero _ _ (orE_zero.1 h1).1).2 x hx).2
  ·exact own_short vars arrays later _ l h2 f hf
theorem permP5 {t s a b3 b2:Nat×LObj}:[t,b3,s,a,b2].Perm ([t,s,a]++[b3,b2]):=List.Perm.cons _ ((List.Perm.swap _ _ _).trans (List.Perm.cons _ (List.Perm.swap _ _ _)))
attribute [local irreducible] LOps LCode LStep LCalls Go.GL.Pure QThen QBlock RetPost LQ LAny LLate LLateOp LS
section
variable {B0:Nat} {w0:World}
theorem compile_spec (hG:GW B0 w0) (hM:Asm.GM w0) (vars:List Nm) (arrays:List (Nm×Int)) (fs:List FnD) (o:Org) (hv6:vars.length≤2000000) (ha6:arrays.length≤2000000) (har:∀ a∈arrays,I64 a.2) (hnd:ndFs fs≤2000000) (hnum:∀ f∈fs,numSs f.body) (o1:I64 o.code) (o2:I64 o.scalars) (o3:I64 o.arrays) :
  LCalls (KC B0 w0) 8 [Chk.encPrG vars arrays fs,orgLV o] [] (Ret (cmpLV (cmpP vars arrays fs o))):=by
 have hck:=Chk.check_spec (B0:=B0) (w0:=w0) vars arrays fs hv6 ha6 har hnd
 have hf6:=ndFs_len fs
 have hsm:∀ f∈fs,SmF f:=fun f hf=>smF_of (by have:=ndFs_mem hf;omega)
 generalize hC:cmpP vars arrays fs o=R
 unfold cmpP at hC
 have ePr:Chk.encPrG vars arrays fs=.agg [.list (vars.map str),.list (arrays.map Chk.encArG),.list (fs.map encFn)]:=rfl
 have eOr:orgLV o=.agg [int .i64 o.code,int .i64 o.scalars,int .i64 o.arrays]:=rfl
 rw[ePr,eOr]
 refine cI Tryz.func8 rfl (n:=102) rfl rfl rfl ?_
 refine gac ?_
 refine oS (sB rfl fun b2=>?_) rfl
 refine oS (sB rfl fun b3=>?_) rfl
 refine gml ?_
 refine oS (S.callH (H1:=[]) (F:=[_,_]) [_] rfl zpr hck ?_ (by rintro ch H' ⟨_,nm,h⟩;cases h)) rfl
 rintro lv H' ⟨rfl,nm,h⟩
 cases h
 refine gfi ?_
 by_cases hc0:checkP vars arrays fs=0
 rotate_left
 ·rw[if_pos hc0] at hC
  subst hC
  refine oC rfl (fun _=>?_) (fun hc=>?_)
  ·refine gda ?_
   exact retRet rfl (rC (zrt rfl) (zra rfl)) rfl
  ·have h2:(!decide (checkP vars arrays fs=0))=false:=hc
   simp at h2
   exact absurd h2 hc0
 refine oC rfl (fun hc=>?_) (fun _=>?_)
 ·have h2:(!decide (checkP vars arrays fs=0))=true:=hc
  simp[hc0] at h2
 rw[if_neg (by simpa using hc0)] at hC
 obtain ⟨ht,hp,hPa,hPc,hV⟩:=check_parts hc0
 have hown:∀ f∈fs,∀ x∈f.params++f.locals,x.length≤24:=by
  have h:=hc0
  unfold checkP at h
  exact own_short _ _ _ _ _ (orE_zero.1 (orE_zero.1 (orE_zero.1 h).2).2).1
 have hfr:=fresh_zero _ _ hV.names
 have hfn:∀ f∈fs,f.name.length≤24:=fun f hf=>nm_len (hfr.2 _ (List.mem_append_right _ (List.mem_map_of_mem hf))).2
 have hn:∀ f∈fs,f.name.length≤1000∧∀ x∈f.params++f.locals,x.length≤1000:=fun f hf=>⟨by have:=hfn f hf;omega,fun x hx=>by have:=hown f hf x hx;omega⟩
 have hsc8:(scalarsP vars fs).length≤8000:=hV.few
 have hft:=fits_spec (B0:=B0) (w0:=w0) vars arrays fs o hv6 zo ha6 hsm hn hp ht hsc8 o1 o2 o3
 rw[ePr,eOr] at hft
 refine gmm ?_
 refine oS (sF [_,_] rfl hft ?_) rfl
 refine ga8 ?_
 by_cases hfit:fitsP vars arrays fs o=true
 rotate_left
 ·rw[if_pos (by simpa using hfit)] at hC
  subst hC
  refine oC rfl (fun _=>?_) (fun hc=>?_)
  ·refine gaf ?_
   exact retRet rfl (rC (zrt rfl) (zra rfl)) rfl
  ·have h2:(!fitsP vars arrays fs o)=false:=hc
   simp at h2
   exact absurd h2 hfit
 refine oC rfl (fun hc=>?_) (fun _=>?_)
 ·have h2:(!fitsP vars arrays fs o)=true:=hc
  rw[hfit] at h2
  cases h2
 rw[if_neg (by rw[hfit];decide)] at hC
 have hfitP:fitsP (prOf vars arrays fs).vars (arrsP (prOf vars arrays fs)) (prOf vars arrays fs).funcs o=true:=by rw[hPa];exact hfit
 have hF:=fit_of hfitP
 have hS:=Chk.scalars_specG (B0:=B0) (w0:=w0) (vars:=vars) (fs:=fs) (.list (arrays.map Chk.encArG)) hv6 zo hsm hn
 have hT:=hF.s1
 have hS0:=hF.s0
 have hA1:=hF.a1
 have hA0:=hF.a0
 have hkeys:(scalarsP vars fs).Nodup:=hV.keys
 have htot:(arrays.map (·.2)).sum=((totA (prOf vars arrays fs).arrays:Nat):Int):=by
  have:=totA_int (prOf vars arrays fs).arrays
  rw[←this]
  congr 2
  exact hPa.symm
 have hAs:=arrays_spec (B0:=B0) (w0:=w0) vars arrays fs o ha6 hp hA0 (by rw[htot];omega)
 rw[ePr,eOr] at hAs
 have hT2:o.scalars.toNat+3+(scalarsP vars fs).length≤262144:=hT
 refine gmn ?_
 refine oS (S.kvNew fun sm=>?_) rfl
 refine oS (S.kvNew fun am=>?_) rfl
 refine gc5 ?_
 refine oS (sB rfl fun tb=>?_) rfl
 refine gmo ?_
 refine oS (sF [_] rfl hS ?_) rfl
 have hsl:((scalarsP vars fs).map str).length=(scalarsP vars fs).length:=zLm _
 refine gbf ?_
 generalize hsl2:scalarsP vars fs=sl at *
 refine oL (fun kk ls H'=>∃ (i g1:Nat),i≤sl.length∧kk=sl.length-i∧ls=[(2,ptr b2 0),(3,ptr b3 0),(8,ptr tb 0),(39,.list (sl.map str)),(40,int .i64 sl.length),(41,int .i64 (i:Nat))]∧H'=[(tb,.cells 66 [nilSlice,int .i64 0,int .i64 o.scalars,.atom (.map (some sm)),.atom (.map (some am)),str []]),(b3,.cells 35 [int .i64 o.code,int .i64 o.scalars,int .i64 o.arrays]),(sm,.map (kvs (scKV o.scalars 0 (sl.take i))) g1),(am,.map (kvs []) 0),(b2,.cells 28 [.list (vars.map str),.list (arrays.map Chk.encArG),.list (fs.map encFn)])])
  ⟨_,_,_,⟨0,0,Nat.zero_le _,rfl,rfl,rfl⟩,⟨rfl,rfl,rfl,rfl,int_eq zo,rfl,trivial⟩,zhP pH (zhP zp2 (zhP zp1 zhr))⟩ ?_
 rintro kk ls H' ⟨i,g1,hi,rfl,rfl,rfl⟩ j hj
 refine gae ?_
 refine oC rfl (fun hc=>?_) (fun hc=>?_)
 ·have hlt:i<sl.length:=by have:=zt hc;omega
  have htk:=scKV_take (S:=o.scalars) hlt hkeys
  refine gbo ?_
  refine oP (xR (el':=str sl[i]) (cs:=[str sl[i]]) rfl rfl zo (map_get _ _ _ hlt) rfl rfl) rfl ?_
  refine gmp ?_
  refine cD (m:=11) rfl [(tb,.cells 66 [nilSlice,int .i64 0,int .i64 o.scalars,.atom (.map (some sm)),.atom (.map (some am)),str []]),(b3,.cells 35 [int .i64 o.code,int .i64 o.scalars,int .i64 o.arrays])] ?_
  refine aT 0 rfl rfl (pM (lv:=.atom _) rfl) ?_
  refine aT 1 rfl rfl (pN rfl) ?_
  refine aT 2 rfl rfl (pF rfl) ?_
  refine aT 3 rfl rfl (pL (c:=.atom _) rfl zm0 rfl) ?_
  refine aT 4 rfl rfl (pM (lv:=.atom _) rfl) ?_
  refine aT 5 rfl rfl (pF rfl) ?_
  refine aT 6 rfl rfl (pL (c:=.atom _) rfl zm1 rfl) ?_
  refine aT 7 rfl rfl (Pure.add rfl rfl zo) ?_
  refine aT 8 rfl rfl (pM (lv:=.atom _) rfl) ?_
  refine aT 9 rfl rfl (Pure.add rfl rfl zo) ?_
  refine aL ?_ hsubP2
  refine lO 10 (lS (H1:=[(sm,.map (kvs (scKV o.scalars 0 (sl.take i))) g1)]) rfl (.inl rfl) rfl (show Pick _ _ _ from pT zp1) hsubP2 (S.kvSet (k:=sl[i]) (lv:=int .i64 (o.scalars+3+(i:Nat))) rfl rfl rfl pH fun g1'=>?_))
  rw[htk]
  refine lD zk ?_
  refine gah ?_
  exact ⟨_,_,_,by omega,⟨i+1,g1',by omega,rfl,rfl,rfl⟩,⟨rfl,rfl,rfl,rfl,rfl,int_eq zo,trivial⟩,zhP zp1 (zhP zp1 zhr),hj⟩
 have hi':i=sl.length:=by have:=zf hc;omega
 subst hi'
 rw[List.take_length]
 have hyl:=symA_len arrays o.arrays
 have hyn:((symA o.arrays arrays).map (·.1)).Nodup:=by
  rw[symA_names]
  have h1:=(List.nodup_append.1 (List.nodup_append.1 hfr.1).1).2.1
  have e1:(prOf vars arrays fs).arrays.map (·.name)=arrays.map (·.1):=by
   unfold prOf
   rw[List.map_map]
   rfl
  rw[e1] at h1
  exact h1
 have hym:((symA o.arrays arrays).map symLV).length=(symA o.arrays arrays).length:=zLm _
 refine gmq ?_
 refine oS (sF [_,_] rfl hAs ?_) rfl
 refine gdf ?_
 generalize hyy:symA o.arrays arrays=ys at *
 refine oC rfl (fun h=>by cases h) (fun _=>?_)
 refine gmr ?_
 refine oL (fun kk ls H'=>∃ (i g2:Nat),i≤ys.length∧kk=ys.length-i∧ls=[(2,ptr b2 0),(3,ptr b3 0),(8,ptr tb 0),(66,.list (ys.map symLV)),(67,int .i64 ys.length),(68,int .i64 (i:Nat))]∧H'=[(tb,.cells 66 [nilSlice,int .i64 0,int .i64 o.scalars,.atom (.map (some sm)),.atom (.map (some am)),str []]),(b3,.cells 35 [int .i64 o.code,int .i64 o.scalars,int .i64 o.arrays]),(sm,.map (kvs (scKV o.scalars 0 sl)) g1),(am,.map (kvs (arKV (ys.take i))) g2),(b2,.cells 28 [.list (vars.map str),.list (arrays.map Chk.encArG),.list (fs.map encFn)])])
  ⟨_,_,_,⟨0,0,Nat.zero_le _,rfl,rfl,rfl⟩,⟨rfl,rfl,rfl,rfl,int_eq zo,rfl,trivial⟩,zhR _⟩ ?_
 rintro kk ls H' ⟨i,g2,hi,rfl,rfl,rfl⟩ j2 hj2
 refine gae ?_
 refine oC rfl (fun hc=>?_) (fun hc=>?_)
 ·have hlt:i<ys.length:=by have:=zt hc;omega
  have htk:=arKV_take hlt hyn
  refine gag ?_
  refine oP (xR (el':=symLV ys[i]) (cs:=[_,_]) rfl rfl zo (map_get _ _ _ hlt) rfl rfl) rfl ?_
  refine ga5 ?_
  refine oS (sA fun b14=>?_) rfl
  refine gms ?_
  refine cD (m:=9) rfl [(b14,.cells 71 [str ys[i].1,int .i64 ys[i].2]),(tb,.cells 66 [nilSlice,int .i64 0,int .i64 o.scalars,.atom (.map (some sm)),.atom (.map (some am)),str []])] ?_
  refine aT 0 rfl rfl (pM (lv:=.atom _) rfl) ?_
  refine aT 1 rfl rfl (pN rfl) ?_
  refine aT 2 rfl rfl (pF rfl) ?_
  refine aT 3 rfl rfl (pL (c:=.atom _) rfl zm1 rfl) ?_
  refine aT 4 rfl rfl (pF rfl) ?_
  refine aT 5 rfl rfl (pL (c:=.atom _) rfl zm0 rfl) ?_
  refine aT 6 rfl rfl (pF rfl) ?_
  refine aT 7 rfl rfl (pL (c:=.atom _) rfl zm0 rfl) ?_
  refine aL ?_ hsubP2
  refine lO 8 (lS (H1:=[(am,.map (kvs (arKV (ys.take i))) g2)]) rfl (.inl rfl) rfl (show Pick _ _ _ from pT zp3) hsubP2 (S.kvSet (k:=ys[i].1) (lv:=int .i64 ys[i].2) rfl rfl rfl pH fun g2'=>?_))
  rw[htk]
  refine lD zk ?_
  refine gah ?_
  exact ⟨_,_,_,by omega,⟨i+1,g2',by omega,rfl,rfl,rfl⟩,⟨rfl,rfl,rfl,rfl,rfl,int_eq zo,trivial⟩,zhP zp2 (zhP zp2 (zhP zp2 (zhP pH (zhD zhr)))),hj2⟩
 have hi':i=ys.length:=by have:=zf hc;omega
 subst hi'
 rw[List.take_length]
 have htb:=fun own ho=>tb_ok (P:=prOf vars arrays fs) hF own ho tb sm am g1 g2
 rw[hPa] at htb
 have hW:=prW_tot hPc hnum hfitP hnd
 have hjt:=join_tot (wordsC (prOf vars arrays fs) o)
 have hwc:wordsC (prOf vars arrays fs) o=prW vars arrays fs o:=by
  unfold wordsC
  rw[hPa]
  rfl
 rw[hwc] at hW hjt
 have hcc:ccF (prOf vars arrays fs).vars arrays (prOf vars arrays fs).funcs o=ccF vars arrays fs o:=rfl
 rw[hPa,hcc] at hW
 have hwl:=tot_len (prW vars arrays fs o)
 have hnf:ndFs (prOf vars arrays fs).funcs=ndFs fs:=rfl
 rw[hnf] at hW
 have hpw:prW vars arrays fs o=[[38,102,95,109,97,105,110],[58],decDigits o.scalars.toNat,[33],[36]]++(fnWs (ccF vars arrays fs o) 0 fs).1:=by
  unfold prW
  rw[itoa_pos hS0]
 have hpl:(prW vars arrays fs o).length=5+(fnWs (ccF vars arrays fs o) 0 fs).1.length:=by
  rw[hpw,zLa]
  rfl
 have hTr:TrH ⟨tb,sm,am,scKV o.scalars 0 sl,arKV ys,g1,g2,o.scalars.toNat⟩ [] [] 0 [(tb,.cells 66 [nilSlice,int .i64 0,int .i64 o.scalars,.atom (.map (some sm)),.atom (.map (some am)),str []]),(sm,.map (kvs (scKV o.scalars 0 sl)) g1),(am,.map (kvs (arKV ys)) g2)]:=⟨nilSlice,[],Acc.nil,by
  simp only
  rw[Int.toNat_of_nonneg hS0]
  rfl⟩
 have hpg:=program_spec (B0:=B0) (w0:=w0) hG (k:=⟨tb,sm,am,scKV o.scalars 0 sl,arKV ys,g1,g2,o.scalars.toNat⟩) (cc:=ccF vars arrays fs o) (by show o.scalars.toNat≤_;omega) vars arrays fs hnd (fun f hf=>by
  obtain ⟨kn,k1,k2⟩:=hV.bodies f hf
  refine ⟨?_,hfn f hf,fun p hp=>by have:=hown f hf p (List.mem_append_left _ hp);omega,hnum f hf,_,env_ok hV hf (hown f hf) k2,k1⟩
  have:=htb f.name (by have:=hfn f hf;omega)
  rw[←hsl2,←hyy]
  exact this) (own0:=[]) (c0:=ccF vars arrays fs o []) (by
  have:=htb [] zDd
  rw[←hsl2,←hyy]
  exact this) _ hTr zo
 rw[ePr] at hpg
 refine gmt ?_
 refine oS (zsT (F:=[_,_]) [_,_] rfl permP5 hpg fun H2 h2=>?_) rfl
 obtain ⟨own,n,h2⟩:=h2
 rw[←hpw] at h2
 generalize prW vars arrays fs o=W at *
 obtain ⟨v,Hv,hacc,rfl⟩:=h2
 have j0:=Asm.joinS_spec (B0:=B0) (w0:=w0) [32] W zo zo
 have hasm:=Asm.assemble_spec (B0:=B0) (w0:=w0) hG hM (join W [32]) o.code zo
 refine gmu ?_
 refine oP (pL (c:=v) rfl zm2 rfl) rfl ?_
 refine LOps.sub 87 rfl hacc.sub ?_
 refine oS (sF [_,_] rfl j0 ?_) rfl
 refine gd8 ?_
 cases hx:asmP (join W [32]) o.code with
 |error e=>
  rw[hx] at hasm hC
  simp only at hC
  subst hC
  refine oS (sF [_,_] rfl hasm ?_) rfl
  unfold Asm.asmLV
  refine gdf ?_
  have he:¬ (e.2:Int)=0:=by
   have h3:=hF.c1
   have h4:=hF.c0
   have:=asm_vals zo hx
   omega
  refine oC rfl (fun _=>?_) (fun hc=>?_)
  ·refine gda ?_
   exact retRet (hj2.trans hj) (rC (zrt rfl) (zra rfl)) rfl
  ·have h2:(!decide ((e.2:Int)=0))=false:=hc
   simp at h2
   omega
 |ok x=>
  rw[hx] at hasm hC
  simp only at hC
  subst hC
  refine oS (sF [_,_] rfl hasm ?_) rfl
  unfold Asm.asmLV
  refine gdf ?_
  refine oC rfl (fun hc=>by cases hc) (fun _=>?_)
  refine gcn ?_
  exact retRet (hj2.trans hj) (rC (zrt rfl) (zra rfl)) rfl
end
end Go.Proofs.YtegmklafpoldgaaGreatDoor.Cmp
namespace Go.Stele
mutual
theorem PE_nd:∀ {e:Ex} {k:Nat} {ts:List KT} {d:Nat},PE e k ts d→ndE e≤ts.length∧numE e
 |_,_,_,_,.num h=>⟨by rw[ndE,ndEs];exact zNr _,by rw[numE];exact ⟨h,trivial⟩⟩
 |_,_,_,_,.var h=>⟨by rw[ndE,ndEs];exact zNr _,by rw[numE];exact ⟨by unfold Lt;omega,trivial⟩⟩
 |_,_,_,_,.elem h ha=>by
  obtain ⟨h1,h2⟩:=PE_nd ha
  refine ⟨?_,?_⟩
  ·rw[ndE,ndEs,ndEs]
   simp only[zLa,zLc,zLn]
   omega
  ·rw[numE,numEs,numEs]
   exact ⟨by unfold Lt;omega,h2,trivial⟩
 |_,_,_,_,.call h hl=>by
  obtain ⟨h1,h2⟩:=PEs_nd hl
  refine ⟨?_,?_⟩
  ·rw[ndE]
   simp only[zLa,zLc,zLn]
   omega
  ·rw[numE]
   exact ⟨by unfold Lt;omega,h2⟩
 |_,_,_,_,.neg ha=>by
  obtain ⟨h1,h2⟩:=PE_nd ha
  refine ⟨?_,?_⟩
  ·rw[ndE,ndEs,ndEs]
   simp only[zLa,zLc,zLn]
   omega
  ·rw[numE,numEs,numEs]
   exact ⟨by unfold Lt;omega,h2,trivial⟩
 |_,_,_,_,.not ha=>by
  obtain ⟨h1,h2⟩:=PE_nd ha
  refine ⟨?_,?_⟩
  ·rw[ndE,ndEs,ndEs]
   simp only[zLa,zLc,zLn]
   omega
  ·rw[numE,numEs,numEs]
   exact ⟨by unfold Lt;omega,h2,trivial⟩
 |_,_,_,_,.bin hs ho hk ha hb=>by
  obtain ⟨h1,h2⟩:=PE_nd ha
  obtain ⟨h3,h4⟩:=PE_nd hb
  refine ⟨?_,?_⟩
  ·rw[ndE,ndEs,ndEs,ndEs]
   simp only[zLa,zLc,zLn]
   omega
  ·rw[numE,numEs,numEs,numEs]
   exact ⟨by unfold Lt;omega,h2,h4,trivial⟩
 |_,_,_,_,.par hs ho hk ha hb=>by
  obtain ⟨h1,h2⟩:=PE_nd ha
  obtain ⟨h3,h4⟩:=PE_nd hb
  refine ⟨?_,?_⟩
  ·rw[ndE,ndEs,ndEs,ndEs]
   simp only[zLa,zLc,zLn]
   omega
  ·rw[numE,numEs,numEs,numEs]
   exact ⟨by unfold Lt;omega,h2,h4,trivial⟩
theorem PEs_nd:∀ {l:List Ex} {ts:List KT} {d:Nat},PEs l ts d→ndEs l≤ts.length∧numEs l
 |_,_,_,.nil=>⟨by rw[ndEs];exact Nat.zero_le _,by rw[numEs];trivial⟩
 |_,_,_,.one ha=>by
  obtain ⟨h1,h2⟩:=PE_nd ha
  rw[ndEs,ndEs,numEs,numEs]
  exact ⟨by omega,h2,trivial⟩
 |_,_,_,.more ha hl=>by
  obtain ⟨h1,h2⟩:=PE_nd ha
  obtain ⟨h3,h4⟩:=PEs_nd hl
  refine ⟨?_,?_⟩
  ·rw[ndEs]
   simp only[zLa,zLc]
   omega
  ·rw[numEs]
   exact ⟨h2,h4⟩
end
theorem one_nd {e:Ex} {ts:List KT} {d:Nat} (h:PE e 0 ts d):ndEs [e]≤ts.length∧numEs [e]:=PEs_nd (.one h)
mutual
theorem PS_nd:∀ {s:Sm} {ts:List KT} {d:Nat},PS s ts d→ndS s≤ts.length∧numS s
 |_,_,_,.assign h he=>by
  obtain ⟨h1,h2⟩:=one_nd he
  refine ⟨?_,?_⟩
  ·rw[ndS,ndEs,ndSs]
   simp only[zLa,zLc,zLn]
   omega
  ·rw[numS,numSs]
   exact ⟨by rw[numEs];trivial,h2,trivial,trivial⟩
 |_,_,_,.store h hx he=>by
  obtain ⟨h1,h2⟩:=one_nd he
  obtain ⟨h3,h4⟩:=one_nd hx
  refine ⟨?_,?_⟩
  ·rw[ndS,ndSs]
   simp only[zLa,zLc,zLn]
   omega
  ·rw[numS,numSs]
   exact ⟨h4,h2,trivial,trivial⟩
 |_,_,_,.call h hl=>by
  obtain ⟨h1,h2⟩:=PEs_nd hl
  refine ⟨?_,?_⟩
  ·rw[ndS,ndSs,ndEs,ndEs,ndEs,ndE]
   simp only[zLa,zLc,zLn]
   omega
  ·rw[numS,numSs,numEs,numEs,numEs,numE]
   exact ⟨trivial,⟨⟨by unfold Lt;omega,h2⟩,trivial⟩,trivial,trivial⟩
 |_,_,_,.ret he=>by
  obtain ⟨h1,h2⟩:=one_nd he
  refine ⟨?_,?_⟩
  ·rw[ndS,ndSs]
   simp only[zLa,zLc,zLn]
   have:ndEs []=0:=by rw[ndEs]
   omega
  ·rw[numS,numSs]
   exact ⟨by rw[numEs];trivial,h2,trivial,trivial⟩
 |_,_,_,.halt=>by
  refine ⟨?_,?_⟩
  ·rw[ndS,ndSs,ndEs]
   simp only[zLc,zLn]
   omega
  ·rw[numS,numSs,numEs]
   exact ⟨trivial,trivial,trivial,trivial⟩
 |_,_,_,.ifElse he h1 h2 hne=>by
  obtain ⟨a1,a2⟩:=one_nd he
  obtain ⟨b1,b2⟩:=PSs_nd h1
  obtain ⟨c1,c2⟩:=PSs_nd h2
  refine ⟨?_,?_⟩
  ·rw[ndS]
   simp only[zLa,zLc,zLn]
   have:ndEs []=0:=by rw[ndEs]
   omega
  ·rw[numS]
   exact ⟨by rw[numEs];trivial,a2,b2,c2⟩
 |_,_,_,.ifThen he h1=>by
  obtain ⟨a1,a2⟩:=one_nd he
  obtain ⟨b1,b2⟩:=PSs_nd h1
  refine ⟨?_,?_⟩
  ·rw[ndS]
   simp only[zLa,zLc,zLn]
   have:ndEs []=0:=by rw[ndEs]
   have:ndSs []=0:=by rw[ndSs]
   omega
  ·rw[numS]
   exact ⟨by rw[numEs];trivial,a2,b2,by rw[numSs];trivial⟩
 |_,_,_,.while he h1=>by
  obtain ⟨a1,a2⟩:=one_nd he
  obtain ⟨b1,b2⟩:=PSs_nd h1
  refine ⟨?_,?_⟩
  ·rw[ndS]
   simp only[zLa,zLc,zLn]
   have:ndEs []=0:=by rw[ndEs]
   have:ndSs []=0:=by rw[ndSs]
   omega
  ·rw[numS]
   exact ⟨by rw[numEs];trivial,a2,b2,by rw[numSs];trivial⟩
theorem PSs_nd:∀ {l:List Sm} {ts:List KT} {d:Nat},PSs l ts d→ndSs l≤ts.length∧numSs l
 |_,_,_,.nil=>⟨by rw[ndSs];exact Nat.zero_le _,by rw[numSs];trivial⟩
 |_,_,_,.cons h hl=>by
  obtain ⟨h1,h2⟩:=PS_nd h
  obtain ⟨h3,h4⟩:=PSs_nd hl
  refine ⟨?_,?_⟩
  ·rw[ndSs]
   simp only[zLa]
   omega
  ·rw[numSs]
   exact ⟨h2,h4⟩
end
theorem PFs_nd:∀ (fs:List FnD) (ts:List KT),PFs fs ts→ndFs fs≤ts.length∧∀ f∈fs,numSs f.body
 |[],ts,h=>⟨by rw[ndFs];exact Nat.zero_le _,fun f hf=>(List.not_mem_nil hf).elim⟩
 |f::fs,ts,h=>by
  cases h with
  |cons h hd hl=>
   obtain ⟨h1,h2⟩:=PFs_nd fs _ hl
   cases h with
   |mk hn hp hlo hb=>
    rename_i nm ps ls b ts' d'
    obtain ⟨h3,h4⟩:=PSs_nd hb
    have h5:=commas_ge ps
    have h6:=varK_ge ls
    refine ⟨?_,?_⟩
    ·rw[ndFs]
     unfold ndF
     simp only[zLa,zLc,zLn]
     omega
    ·intro f hf
     rcases zMi.1 hf with rfl|hf
     ·exact h4
     ·exact h2 f hf
theorem arKs_len (l:List Ar):l.length≤((l.map arK).flatten).length:=by
 induction l with
 |nil=>exact Nat.zero_le _
 |cons a l ih=>
  rw[zMc,List.flatten_cons,zLa]
  unfold arK
  simp only[zLc,zLn]
  unfold arK at ih
  omega
structure SzP (p:Pr) (n:Nat):Prop where
 vars:p.vars.length≤n
 arrays:p.arrays.length≤n
 size:∀ a∈p.arrays,a.size<4294967296
 funcs:ndFs p.funcs≤n
 nums:∀ f∈p.funcs,numSs f.body
theorem PP_nd {p:Pr} {ts:List KT} (h:PP p ts):SzP p ts.length:=by
 cases h with
 |mk hv ha hf=>
  rename_i v a f ts
  obtain ⟨h1,h2⟩:=PFs_nd f ts hf
  have h3:=varK_ge v
  have h4:=arKs_len a
  refine ⟨?_,?_,fun x hx=>(ha x hx).2,?_,h2⟩ <;> · simp only[zLa];omega
theorem SzP.mono {p:Pr} {n m:Nat} (h:SzP p n) (hm:n≤m):SzP p m:=
 ⟨zNt h.vars hm,zNt h.arrays hm,h.size,zNt h.funcs hm,h.nums⟩
theorem parse_sz {s:List UInt8} {T:List Tok} {p:Pr} {i op:Nat} (hT:lexAt s 1=.ok T) (hs:sProg T (10 * T.length+20) ⟨[],[],[]⟩ 0 0=some (.ok p i op)):SzP p s.length:=by
 obtain ⟨ts,h3,h4⟩:=src_print (lexP_again _ _ _ _ hT) hs
 exact (PP_nd h3).mono (zNt h4 (lexP_ok _ _ _ _ hT).1)
end Go.Stele
namespace Go.Proofs.YtegmklafpoldgaaGreatDoor.Inp
open Go.GL Go.RowKit Go.Stele
theorem parse_both {s:List UInt8} (hs:s.length≤60000):∃ l,parseP s=((parseQ s).1,l,(parseQ s).2)∧SzP (parseQ s).1 s.length:=by
 have h0:SzP ⟨[],[],[]⟩ s.length:=⟨Nat.zero_le _,Nat.zero_le _,fun a ha=>(List.not_mem_nil ha).elim,Nat.zero_le _,fun a ha=>(List.not_mem_nil ha).elim⟩
 have hL:lexAllP s=lexAt s 1:=by
  unfold lexAllP
  rw[if_neg zo]
  rfl
 unfold parseP parseQ
 rw[hL]
 cases hT:lexAt s 1 with
 |error x=>
  obtain ⟨l,e⟩:=x
  exact ⟨l,rfl,h0⟩
 |ok T=>
  simp only
  obtain ⟨r,hr⟩:=sProg_ends T (10 * T.length+20) noPr 0 0 (Nat.zero_le _) zo
  have hr':sProg T (10 * T.length+20) ⟨[],[],[]⟩ 0 0=some r:=hr
  rw[hr,hr']
  cases r with
  |err l e=>exact ⟨l,rfl,h0⟩
  |ok p i op=>exact ⟨0,rfl,parse_sz hT hr'⟩
theorem encPr_eq (p:Pr):encPr p=Chk.encPrG p.vars (p.arrays.map fun a=>(a.name,(a.size:Int))) p.funcs:=by
 unfold encPr Chk.encPrG
 rw[List.map_map]
 rfl
attribute [local irreducible] LOps LCode LStep LCalls Go.GL.Pure QThen QBlock RetPost LQ LAny LLate LLateOp LS
section
variable {B0:Nat} {w0:World}
end
end Go.Proofs.YtegmklafpoldgaaGreatDoor.Inp
namespace Go.Proofs.YtegmklafpoldgaaGreatDoor.Cmp
open Go.GL Go.RowKit Go.Stele
open Go.Lib (decDigits itoa join)
attribute [local irreducible] LOps LCode LStep LCalls Go.GL.Pure QThen QBlock RetPost LQ LAny LLate LLateOp LS
section
variable {B0:Nat} {w0:World}
theorem compile_pr (hG:GW B0 w0) (hM:Asm.GM w0) {p:Pr} {n:Nat} (h:SzP p n) (hn:n≤2000000) (o:Org) (o1:I64 o.code) (o2:I64 o.scalars) (o3:I64 o.arrays):LCalls (KC B0 w0) 8 [encPr p,orgLV o] [] (Ret (cmpLV (cmpP p.vars (arrsP p) p.funcs o))):=by
 rw[Inp.encPr_eq]
 exact compile_spec hG hM _ _ _ o (zNt h.vars hn) (by rw[zLm];exact zNt h.arrays hn) (fun a ha=>by
  obtain ⟨x,hx,rfl⟩:=List.mem_map.1 ha
  have:=h.size x hx
  constructor
  ·show (-9223372036854775808:Int)≤(x.size:Int)
   omega
  ·show (x.size:Int)<9223372036854775808
   omega) (zNt h.funcs hn) h.nums o1 o2 o3
def defO:Org:=⟨10000,0,100000⟩
theorem defaults_spec:LCalls (KC B0 w0) 9 [] [] (Ret (orgLV defO)):=by
 refine cI Tryz.func9 rfl (n:=2) rfl rfl rfl ?_
 refine gfp ?_
 refine oS (sA fun b=>?_) rfl
 refine gfp ?_
 exact retRet rfl (rC (rA rfl zm0 rfl zsr) rN) rfl
end
end Go.Proofs.YtegmklafpoldgaaGreatDoor.Cmp
namespace Go.Proofs.YtegmklafpoldgaaGreatDoor.Pp
open Go.GL Go.RowKit Go.Stele
open Asm (OptLV OptLV.mk ite_some)
attribute [local irreducible] LOps LCode LStep LCalls Go.GL.Pure QThen QBlock RetPost LQ LAny LLate LLateOp
structure GW (B0:Nat) (w0:World):Prop where
 base:Go.Proofs.YtegmklafpoldgaaGreatDoor.GW B0 w0
 mx:Asm.GM w0
 errSyntax : ∃ tp p, w0.var? Tryz.prog "strconv.ErrSyntax" = some #[.iface tp p]
section
variable {B0:Nat} {w0:World}
theorem GW.syn (h : GW B0 w0) {w : World} (hb : Below B0 w0 w) : ∃ tp p, w.var? Tryz.prog "strconv.ErrSyntax" = some #[.iface tp p] := by
 have hg : Tryz.prog.globalNamed "strconv.ErrSyntax" = some 4 := by kernel_rfl
 obtain ⟨tp,p,hv⟩:=h.errSyntax
 exact ⟨tp,p,var?_below hb hg (Nat.lt_of_lt_of_le zDd h.base.big) hv⟩
theorem GW.range (h : GW B0 w0) {w : World} (hb : Below B0 w0 w) : ∃ tp p, w.var? Tryz.prog "strconv.ErrRange" = some #[.iface tp p] := h.base.err hb
theorem fmtUint_spec (hG:GW B0 w0) (u:Nat) (hu:u<18446744073709551616):LCalls (KC B0 w0) 162 [int .u64 u,int .i64 10] [] (Ret (str (Go.Lib.decDigits u))):=Go.Proofs.YtegmklafpoldgaaGreatDoor.fmtUint_spec hG.base u hu
theorem cutPrefix_spec (s p:List UInt8):LCalls (KC B0 w0) 131 [str s,str p] [] (Ret (.tuple [str (Go.Lib.trimPrefix s p),bool (Go.Lib.hasPrefix s p)])):=Asm.cutPrefix_spec s p
theorem cutSuffix_spec (s p:List UInt8) (hs:s.length≤1000000000):LCalls (KC B0 w0) 157 [str s,str p] [] (Ret (.tuple [str (Go.Lib.trimSuffix s p),bool (Go.Lib.hasSuffix s p)])):=Asm.cutSuffix_spec s p hs
theorem parseUint_any (hG:GW B0 w0) (s:List UInt8) (hs:s.length≤1000000000):LCalls (KC B0 w0) 161 [str s,int .i64 10,int .i64 32] []
  (RetIf fun lv=>(∃ u,Go.Lib.parseUintB 32 s=.ok u∧lv=.tuple [int .u64 u,.atom .nilIface])∨((∀ u,Go.Lib.parseUintB 32 s≠.ok u)∧∃ v t p,lv=.tuple [int .u64 v,.atom (.iface t p)])):=by
 have hsz:∀ k,1000000000≤k→s.toArray.size≤k:=fun k hk=>by simp;omega
 refine LCalls.mono (LCalls.of_belowT (vs:=[.string ⟨s.toArray⟩,.int .i64 10,.int .i64 32]) (p:=fun us=>(∃ u,Go.Lib.parseUintB 32 s=.ok u∧us=[.int .u64 u,.nilIface])∨((∀ u,Go.Lib.parseUintB 32 s≠.ok u)∧∃ v t p,us=[.int .u64 v,.iface t p])) fun w hw=>?_) ?_
 ·cases h:Go.Lib.parseUintB 32 s with
  |ok u=>
   refine (Tryz.strconv_ParseUint_10_at32_ok ⟨s.toArray⟩ (hsz _ zDd) u (by simpa using h) w).mono fun e w' he=>⟨_,he.1,.inl ⟨u,rfl,rfl⟩,?_⟩
   rcases he.2 with h2|h2
   ·rw[h2];exact Below.refl _ _
   ·rw[h2]
    exact ⟨rfl,rfl,rfl,by rw[Go.Lib.bytesWorld_size];omega,fun k hk=>Go.Lib.bytesWorld_at_old w 5 _ k hk⟩
  |range=>
   obtain ⟨tp,p,hv⟩:=hG.range hw
   refine (Tryz.strconv_ParseUint_10_at32_range_var ⟨s.toArray⟩ (hsz _ zDd) (by simpa using h) tp p w hv).mono fun e w' he=>?_
   obtain ⟨N,h1,_,_,h4⟩:=he
   exact ⟨_,h1,.inr ⟨(fun u hu=>by cases hu),_,_,_,rfl⟩,h4⟩
  |_=>
   obtain ⟨tp,p,hv⟩:=hG.syn hw
   refine (Tryz.strconv_ParseUint_10_at32_syntax_var ⟨s.toArray⟩ (hsz _ zDd) ⟨fun u hu=>(by rw[h] at hu;cases hu),fun hu=>(by rw[h] at hu;cases hu)⟩ tp p w hv).mono fun e w' he=>?_
   obtain ⟨N,h1,_,_,h4⟩:=he
   exact ⟨_,h1,.inr ⟨(fun u hu=>by cases hu),_,_,_,rfl⟩,h4⟩
 ·rintro r H ⟨v,rfl,⟨us,hus,rfl⟩,rfl⟩
  refine ⟨_,rfl,?_,rfl⟩
  rcases hus with ⟨u,h1,rfl⟩|⟨h1,v,t,p,rfl⟩
  ·exact .inl ⟨u,h1,rfl⟩
  ·exact .inr ⟨h1,v,t,p,rfl⟩
theorem trim_spec (s:List UInt8) (hs:s.length≤1000000000):LCalls (KC B0 w0) 159 [str s,str nameSet] [] (Ret (str (Go.Lib.trimS s nameSet))):=
 LCalls.ret_of (vs:=[.string ⟨s.toArray⟩,.string ⟨nameSet.toArray⟩]) fun w hw=>(Go.Proofs.Any.strings_Trim_laid Tryz.lays160 zk ⟨s.toArray⟩ ⟨nameSet.toArray⟩ w (by show s.toArray.size≤_;simp;omega) zDd (Go.Proofs.ascii_of_all zDd))
end
end Go.Proofs.YtegmklafpoldgaaGreatDoor.Pp
namespace Go.Proofs.YtegmklafpoldgaaGreatDoor.Pp
open Go.GL Go.RowKit Go.Stele
open Asm (OptLV OptLV.mk ite_some)
theorem wrapU32 {n:Int} (h:0≤n∧n≤4294967295):IntKind.u32.wrap n=n:=by
 simp only[IntKind.wrap,IntKind.bits,IntKind.signed,Bool.false_and]
 simp
 omega
theorem wrapU64 {n:Int} (h:0≤n∧n≤4294967295):IntKind.u64.wrap n=n:=by
 simp only[IntKind.wrap,IntKind.bits,IntKind.signed,Bool.false_and]
 simp
 omega
theorem wrapU32m (n:Int):IntKind.u32.wrap n=n % 4294967296:=by
 simp only[IntKind.wrap,IntKind.bits,IntKind.signed,Bool.false_and]
 simp
instance:TIface Tryz.prog 137:=.of zk
attribute [local irreducible] LOps LCode LStep LCalls Go.GL.Pure QThen QBlock RetPost LQ LAny LLate LLateOp
section
variable {B0:Nat} {w0:World}
theorem isName_spec (s:List UInt8) (hs:s.length≤1000000000):LCalls (KC B0 w0) 132 [str s] [] (Ret (bool (nameW s))):=by
 have hT:=trim_spec (B0:=B0) (w0:=w0) s hs
 have hnil:=trim_nil s
 cases s with
 |nil=>
  refine cI Tryz.func132 rfl (n:=25) rfl rfl rfl ?_
  refine gmv ?_
  exact retRet rfl (zra rfl) rfl
 |cons c r=>
  have hN:nameW (c::r)=(decide ((c::r).length≤40) && isLetter c && (c::r).all isInner):=rfl
  rw[isLetter] at hN
  refine cI Tryz.func132 rfl (n:=25) rfl rfl rfl ?_
  refine gmw ?_
  refine oB 5 rfl (fun h1=>?_) (fun h1=>absurd h1 (by simp))
  refine oB 10 rfl (fun h2=>?_) (fun h2=>?_)
  ·have h2':(c::r).length≤40:=by have:=zt h2;omega
   rw[decide_eq_true h2',Bool.true_and] at hN
   refine gaj ?_
   refine oP (pI (c:=c) rfl rfl zo rfl) rfl ?_
   refine gmx ?_
   refine oB 15 rfl (fun h3=>?_) (fun h3=>?_)
   ·have h3':decide (97≤cv c)=true:=h3
    rw[h3',Bool.true_and] at hN
    refine gaj ?_
    refine oP (pI (c:=c) rfl rfl zo rfl) rfl ?_
    refine gmy ?_
    refine oB 20 rfl (fun h4=>?_) (fun h4=>?_)
    ·have h4':decide (cv c≤122)=true:=h4
     rw[h4',Bool.true_and] at hN
     refine gaj ?_
     refine oS (sF [_,_] rfl hT ?_) rfl
     refine gfq ?_
     exact retRet rfl (zra rfl) (bool_eq (by
      rw[hN,Bool.eq_iff_iff,decide_eq_true_iff]
      exact hnil))
    ·have h4':decide (cv c≤122)=false:=h4
     rw[h4',Bool.false_and] at hN
     refine gaz ?_
     exact retRet rfl (zra rfl) (bool_eq hN.symm)
   ·have h3':decide (97≤cv c)=false:=h3
    rw[h3',Bool.false_and,Bool.false_and] at hN
    refine gbt ?_
    exact retRet rfl (zra rfl) (bool_eq hN.symm)
  ·have h2':¬ (c::r).length≤40:=by have:=zf h2;omega
   rw[decide_eq_false h2',Bool.false_and,Bool.false_and] at hN
   refine gbt ?_
   exact retRet rfl (zra rfl) (bool_eq hN.symm)
theorem number_spec (hG:GW B0 w0) (w:Wd) (hs:w.length≤1000000000):LCalls (KC B0 w0) 135 [str w] [] (Ret (.tuple [int .u32 ((numW w).getD 0:Nat),bool (numW w).isSome])):=by
 have hP:=parseUint_any hG w hs
 refine cI Tryz.func135 rfl (n:=21) rfl rfl rfl ?_
 refine gal ?_
 refine oS (S.fnIf [_,_,_] rfl hP ?_) rfl
 rintro lv (⟨u,hu,rfl⟩|⟨hno,v,t,p,rfl⟩)
 ·have hlt:=pu32_lt hu
  refine gmz ?_
  refine oS (sF [_,_] rfl (fmtUint_spec hG u zo) ?_) rfl
  refine gck ?_
  refine oC rfl (fun h=>?_) (fun h=>?_)
  ·have hne:¬ Go.Lib.decDigits u=w:=by simpa using h
   have hn:numW w=none:=by unfold numW;rw[hu];exact if_neg hne
   refine gaf ?_
   exact retRet rfl (rC (zrt rfl) (zra rfl)) (by rw[hn];rfl)
  ·have he:Go.Lib.decDigits u=w:=by simpa using h
   have hn:numW w=some u:=by unfold numW;rw[hu];exact if_pos he
   refine gm0 ?_
   exact retRet rfl (rC (zrt rfl) (zra rfl)) (by
    rw[hn,wrapU32 zo]
    rfl)
 ·have hn:numW w=none:=by
   unfold numW
   split
   ·rename_i u hu
    exact absurd hu (hno u)
   ·rfl
  refine gm1 ?_
  refine oC rfl (fun h=>?_) (fun h=>?_)
  ·refine gaf ?_
   exact retRet rfl (rC (zrt rfl) (zra rfl)) (by rw[hn];rfl)
  ·cases h
theorem reference_spec (w:Wd) (hs:w.length≤1000000000):LCalls (KC B0 w0) 77 [str w] [] (RetIf (OptLV (refW w))):=by
 obtain ⟨r1,r2⟩:=ite_some (ref_eq w)
 have hlen:(Go.Lib.trimPrefix w [38]).length≤1000000000:=by
  unfold Go.Lib.trimPrefix
  split
  ·rw[List.length_drop];omega
  ·exact hs
 refine cI Tryz.func77 rfl (n:=17) rfl rfl rfl ?_
 refine gal ?_
 refine oS (sF [_,_] rfl (cutPrefix_spec w [38]) ?_) rfl
 refine gam ?_
 refine oB 13 rfl (fun h=>?_) (fun h=>?_)
 ·exact zT25
 ·rw[h,Bool.false_and] at r1
  refine gaz ?_
  exact retRetIf rfl (rC (zrt rfl) (zra rfl)) (OptLV.mk r1 r2)
theorem definition_spec (w:Wd) (hs:w.length≤1000000000):LCalls (KC B0 w0) 138 [str w] [] (RetIf (OptLV (defW w))):=by
 obtain ⟨r1,r2⟩:=ite_some (def_eq w)
 have hlen:(Go.Lib.trimSuffix w [58]).length≤1000000000:=by
  unfold Go.Lib.trimSuffix
  split
  ·rw[List.length_take];omega
  ·exact hs
 refine cI Tryz.func138 rfl (n:=17) rfl rfl rfl ?_
 refine gal ?_
 refine oS (sF [_,_] rfl (cutSuffix_spec w [58] hs) ?_) rfl
 refine gam ?_
 refine oB 13 rfl (fun h=>?_) (fun h=>?_)
 ·exact zT25
 ·rw[h,Bool.false_and] at r1
  refine gaz ?_
  exact retRetIf rfl (rC (zrt rfl) (zra rfl)) (OptLV.mk r1 r2)
def viewLV (v:List Wd) (m:Nat):LV:=.agg [.list (v.map str),.atom (.map (some m))]
theorem word_spec (v:List Wd) (m i:Nat) (hv:v.length≤1000000000):LCalls (KC B0 w0) 134 [viewLV v m,int .i64 i] [] (Ret (str (wdAt v i))):=by
 have hla:(v.map str).length=v.length:=zLm _
 unfold viewLV
 refine cI Tryz.func134 rfl (n:=15) rfl rfl rfl ?_
 refine gac ?_
 refine oS (sB (cs:=[.list (v.map str),.atom (.map (some m))]) rfl fun b2=>?_) rfl
 refine gm2 ?_
 refine oC rfl (fun h=>?_) (fun h=>?_)
 ·have hlt:i<v.length:=by have:=zt h;omega
  have hw:wdAt v i=v[i]:=by unfold wdAt;rw[List.getElem?_eq_getElem hlt];rfl
  refine ga7 ?_
  refine oP (xR (el':=str v[i]) (cs:=[str v[i]]) rfl rfl zo (map_get _ _ _ hlt) rfl rfl) rfl ?_
  refine gm3 ?_
  exact retRet rfl (zra rfl) (str_eq hw.symm)
 ·have hge:v.length≤i:=by have:=zf h;omega
  have hw:wdAt v i=[]:=by unfold wdAt;rw[List.getElem?_eq_none hge];rfl
  refine ga4 ?_
  exact retRet rfl (zra rfl) (str_eq hw.symm)
def Small (v:List Wd):Prop:=v.length≤1000000∧∀ w∈v,w.length≤1000000
theorem Small.at {v:List Wd} (h:Small v) (i:Nat):(wdAt v i).length≤1000000:=by
 unfold wdAt
 cases hi:v[i]? with
 |none=>exact Nat.zero_le _
 |some w=>exact h.2 w (List.mem_of_getElem? hi)
theorem jump_spec (v:List Wd) (m i:Nat) (hv:Small v) (hi:i≤1000):LCalls (KC B0 w0) 137 [viewLV v m,int .i64 i] [] (RetIf (OptLV (jumpW v i))):=by
 have h1:=word_spec (B0:=B0) (w0:=w0) v m i (by have:=hv.1;omega)
 have h2:=word_spec (B0:=B0) (w0:=w0) v m (i+1) (by have:=hv.1;omega)
 have e2:int .i64 ((i:Int)+1)=int .i64 ((i+1:Nat):Int):=int_eq zo
 rw[←e2] at h2
 have hl:=hv.at i
 have hJ:jumpW v i=match refW (wdAt v i) with
  |some l=>if wdAt v (i+1)=[63] then some l else none
  |none=>none:=rfl
 unfold viewLV at h1 h2 ⊢
 refine cI Tryz.func137 rfl (n:=24) rfl rfl rfl ?_
 refine gac ?_
 refine oS (sB (cs:=[.list (v.map str),.atom (.map (some m))]) rfl fun b2=>?_) rfl
 refine gm4 ?_
 refine oS (sF [_,_] rfl h1 ?_) rfl
 refine oS (S.fnIf [_] rfl (reference_spec _ zo) ?_) rfl
 rintro lv ⟨s,rfl,hs⟩
 refine gam ?_
 refine oB 17 rfl (fun h=>?_) (fun h=>?_)
 ·obtain ⟨l,hl2⟩:=Option.isSome_iff_exists.1 h
  have hsl:=hs l hl2
  rw[hl2] at hJ
  refine gm5 ?_
  refine oS (sF [_,_] rfl h2 ?_) rfl
  refine gfq ?_
  exact retRetIf rfl (rC (zrt rfl) (zra rfl)) (OptLV.mk (by rw[hJ];simp only;split <;> simp_all) (by
   intro l' h'
   rw[hJ] at h'
   simp only at h'
   split at h'
   ·injection h' with h'
    rw[hsl,h']
   ·cases h'))
 ·have hn:refW (wdAt v i)=none:=by
   cases h3:refW (wdAt v i) with
   |none=>rfl
   |some l=>rw[h3] at h;cases h
  rw[hn] at hJ
  refine gaz ?_
  exact retRetIf rfl (rC (zrt rfl) (zra rfl)) (OptLV.mk (by rw[hJ];rfl) (by
   intro l' h'
   rw[hJ] at h'
   cases h'))
end
end Go.Proofs.YtegmklafpoldgaaGreatDoor.Pp
namespace Go.Proofs.YtegmklafpoldgaaGreatDoor.Pp
open Go.GL Go.RowKit Go.Stele
open Asm (OptLV OptLV.mk ite_some)
theorem xor32 {a b:Nat} (ha:a<4294967296) (hb:b<4294967296):IntKind.u32.wrap (((BitVec.ofInt IntKind.u32.bits (a:Int) ^^^ BitVec.ofInt IntKind.u32.bits (b:Int)).toNat:Nat):Int)=((a ^^^ b:Nat):Int):=by
 have h1:(BitVec.ofInt 32 (a:Int) ^^^ BitVec.ofInt 32 (b:Int)).toNat=a ^^^ b:=by
  rw[BitVec.ofInt_natCast,BitVec.ofInt_natCast,BitVec.toNat_xor,BitVec.toNat_ofNat,BitVec.toNat_ofNat,Nat.mod_eq_of_lt ha,Nat.mod_eq_of_lt hb]
 have h2:a ^^^ b<4294967296:=Nat.xor_lt_two_pow (n:=32) ha hb
 show IntKind.u32.wrap (((BitVec.ofInt 32 (a:Int) ^^^ BitVec.ofInt 32 (b:Int)).toNat:Nat):Int)=_
 rw[h1,wrapU32 zo]
theorem wadd (a b:Nat):IntKind.u32.wrap ((a:Int)+b)=(((a+b) % 4294967296:Nat):Int):=by
 rw[wrapU32m]
 omega
theorem wsub {a b:Nat} (hb:b<4294967296):IntKind.u32.wrap ((a:Int)-b)=(((a+4294967296-b) % 4294967296:Nat):Int):=by
 rw[wrapU32m]
 omega
theorem wmul (a b:Nat):IntKind.u32.wrap ((a:Int) * b)=((a * b % 4294967296:Nat):Int):=by
 rw[wrapU32m,Int.natCast_emod,Int.natCast_mul]
 rfl
theorem resT {n:Int} {m:Nat} {o:Option Nat} (ho:o=some m) (h:n=(m:Int)):resLV [int .u32 n,bool true]=LV.tuple [int .u32 ((o.getD 0:Nat):Int),bool o.isSome]:=by
 subst h
 subst ho
 rfl
attribute [local irreducible] LOps LCode LStep LCalls Go.GL.Pure QThen QBlock RetPost LQ LAny LLate LLateOp
section
variable {B0:Nat} {w0:World}
theorem compute_spec (a b:Nat) (op:Wd) (ha:a<4294967296) (hb:b<4294967296):LCalls (KC B0 w0) 178 [int .u32 a,str op,int .u32 b] [] (Ret (.tuple [int .u32 ((compW a op b).getD 0:Nat),bool (compW a op b).isSome])):=by
 have hC:compW a op b=compW a op b:=rfl
 conv at hC=>rhs;unfold compW
 refine cI Tryz.func178 rfl (n:=47) rfl rfl rfl ?_
 refine gdz ?_
 refine oC rfl (fun h1=>?_) (fun h1=>?_)
 ·rw[if_pos (zt h1)] at hC
  refine gab ?_
  refine oP (Pure.addW rfl rfl) rfl ?_
  refine gau ?_
  exact retRet rfl (rC (zrt rfl) (zra rfl)) (resT hC (wadd a b))
 rw[if_neg (zf h1)] at hC
 refine gai ?_
 refine oC rfl (fun h2=>?_) (fun h2=>?_)
 ·rw[if_pos (zt h2)] at hC
  refine gab ?_
  refine oP (Pure.subW rfl rfl) rfl ?_
  refine gau ?_
  exact retRet rfl (rC (zrt rfl) (zra rfl)) (resT hC (wsub hb))
 rw[if_neg (zf h2)] at hC
 refine gai ?_
 refine oC rfl (fun h3=>?_) (fun h3=>?_)
 ·rw[if_pos (zt h3)] at hC
  refine gab ?_
  refine oP (Pure.mulW rfl rfl) rfl ?_
  refine gau ?_
  exact retRet rfl (rC (zrt rfl) (zra rfl)) (resT hC (wmul a b))
 rw[if_neg (zf h3)] at hC
 refine gai ?_
 refine oC rfl (fun h4=>?_) (fun h4=>?_)
 ·rw[if_pos (zt h4)] at hC
  refine gab ?_
  refine oP (Pure.xorW rfl rfl) rfl ?_
  refine gau ?_
  exact retRet rfl (rC (zrt rfl) (zra rfl)) (resT hC (xor32 ha hb))
 rw[if_neg (zf h4)] at hC
 refine gai ?_
 refine oC rfl (fun h5=>?_) (fun h5=>?_)
 ·rw[if_pos (zt h5)] at hC
  refine gm6 ?_
  refine oC rfl (fun h6=>?_) (fun h6=>?_)
  ·have hlt:a<b:=by have:=zt h6;omega
   refine ga2 ?_
   exact retRet rfl (rC (zrt rfl) (zra rfl)) (by rw[hC,if_pos hlt];rfl)
  ·have hlt:¬ a<b:=by have:=zf h6;omega
   refine gm7 ?_
   exact retRet rfl (rC (zrt rfl) (zra rfl)) (by rw[hC,if_neg hlt];rfl)
 rw[if_neg (zf h5)] at hC
 refine gai ?_
 refine cC [(0,int .u32 a),(1,str op),(2,int .u32 b),(34,bool (decide (op=[47]∨op=[37])))] ?_ (fun j hj=>?_)
 ·refine oC rfl (fun h6=>?_) (fun h6=>?_)
  ·refine ga6 ?_
   exact ⟨⟨rfl,rfl,rfl,bool_eq (by simp[zt h6]),trivial⟩,rfl,rfl⟩
  ·refine gd4 ?_
   exact ⟨⟨rfl,rfl,rfl,bool_eq (by simp[zf h6]),trivial⟩,rfl,rfl⟩
 refine oC rfl (fun h6=>?_) (fun h6=>?_)
 ·have h6':op=[47]∨op=[37]:=zt h6
  refine gfr ?_
  refine oC rfl (fun h7=>?_) (fun h7=>?_)
  ·have hb0:b=0:=by have:=zt h7;omega
   have hCn:compW a op b=none:=by
    rw[hC]
    rcases h6' with h|h
    ·rw[if_pos h,if_pos hb0]
    ·rw[if_neg (by rw[h];decide),if_pos h,if_pos hb0]
   refine ga2 ?_
   exact retRet hj (rC (zrt rfl) (zra rfl)) (by rw[hCn];rfl)
  ·have hb0:¬ b=0:=by have:=zf h7;omega
   refine gfs ?_
   refine oC rfl (fun h8=>?_) (fun h8=>?_)
   ·rw[if_pos (zt h8),if_neg hb0] at hC
    have hle:a / b≤a:=Nat.div_le_self _ _
    have e1:IntKind.u32.wrap ((a:Int).tdiv (b:Int))=((a / b:Nat):Int):=by
     rw[Int.tdiv_eq_ediv_of_nonneg zo,←Int.natCast_ediv]
     exact wrapU32 ⟨Int.natCast_nonneg _,Int.ofNat_le.2 (show a / b≤4294967295 by omega)⟩
    refine gab ?_
    refine oP (Pure.quoW rfl rfl zo) rfl ?_
    refine gau ?_
    exact retRet hj (rC (zrt rfl) (zra rfl)) (resT hC e1)
   ·have h9:op=[37]:=by
     rcases h6' with h|h
     ·exact absurd h (zf h8)
     ·exact h
    rw[if_neg (zf h8),if_pos h9,if_neg hb0] at hC
    have e1:(a:Int).tmod (b:Int)=((a % b:Nat):Int):=by
     rw[Int.tmod_eq_emod_of_nonneg zo,←Int.natCast_emod]
    refine gaw ?_
    refine oP (Pure.remW rfl rfl zo) rfl ?_
    refine gau ?_
    exact retRet hj (rC (zrt rfl) (zra rfl)) (resT hC e1)
 ·have h6':¬ (op=[47]∨op=[37]):=zf h6
  have hCn:compW a op b=none:=by
   rw[hC,if_neg (fun h=>h6' (.inl h)),if_neg (fun h=>h6' (.inr h))]
  refine gd5 ?_
  exact retRet hj (rC (zrt rfl) (zra rfl)) (by rw[hCn];rfl)
theorem joined_spec (hG:GW B0 w0) (x op y:Wd) (hx:x.length≤1000000) (hy:y.length≤1000000):LCalls (KC B0 w0) 133 [str x,str op,str y] [] (RetIf (OptLV (joinedW x op y))):=by
 have n1:=number_spec hG x zo
 have n2:=number_spec hG y zo
 have hJ:joinedW x op y=match numW x,numW y with
  |some a,some b=>match compW a op b with
   |some c=>if (Go.Lib.decDigits c).length≤x.length+y.length+1 then some (Go.Lib.decDigits c) else none
   |none=>none
  |_,_=>none:=rfl
 have ha:(numW x).getD 0<4294967296:=by
  cases h:numW x with
  |none=>decide
  |some u=>exact numW_lt h
 have hb:(numW y).getD 0<4294967296:=by
  cases h:numW y with
  |none=>decide
  |some u=>exact numW_lt h
 have n3:=compute_spec (B0:=B0) (w0:=w0) _ _ op ha hb
 have hc:(compW ((numW x).getD 0) op ((numW y).getD 0)).getD 0<4294967296:=by
  cases h:compW ((numW x).getD 0) op ((numW y).getD 0) with
  |none=>decide
  |some u=>exact comp_lt ha hb h
 have hdl:=dec_len hc
 refine cI Tryz.func133 rfl (n:=54) rfl rfl rfl ?_
 refine gal ?_
 refine oS (sF [_] rfl n1 ?_) rfl
 refine gam ?_
 refine oS (sF [_] rfl n2 ?_) rfl
 refine gam ?_
 refine oS (sF [_,_,_] rfl n3 ?_) rfl
 refine gm8 ?_
 refine oS (sF [_,_] (show _=[int .u64 (IntKind.u64.wrap (((compW ((numW x).getD 0) op ((numW y).getD 0)).getD 0:Nat):Int)),int .i64 10] from rfl) (by rw[wrapU64 zo];exact fmtUint_spec hG _ zo) ?_) rfl
 refine gal ?_
 refine oB 37 rfl (fun h1=>?_) (fun h1=>?_)
 ·obtain ⟨a,ha2⟩:=Option.isSome_iff_exists.1 h1
  refine gft ?_
  refine oB 40 rfl (fun h2=>?_) (fun h2=>?_)
  ·obtain ⟨b,hb2⟩:=Option.isSome_iff_exists.1 h2
   rw[ha2,hb2] at hJ
   rw[ha2,hb2]
   simp only at hJ
   simp only[Option.getD_some]
   refine gft ?_
   refine oB 43 rfl (fun h3=>?_) (fun h3=>?_)
   ·obtain ⟨c,hc2⟩:=Option.isSome_iff_exists.1 h3
    rw[ha2,hb2] at hdl
    simp only[Option.getD_some] at hdl
    rw[hc2] at hJ hdl
    rw[hc2]
    simp only[Option.getD_some] at hJ hdl ⊢
    refine gm9 ?_
    exact retRetIf rfl (rC (zrt rfl) (zra rfl)) (OptLV.mk (by
     rw[hJ]
     by_cases hle:(Go.Lib.decDigits c).length≤x.length+y.length+1
     ·rw[if_pos hle,decide_eq_true zo];rfl
     ·rw[if_neg hle,decide_eq_false zo];rfl) (by
     intro l' h'
     rw[hJ] at h'
     split at h'
     ·injection h'
     ·cases h'))
   ·have hn:compW a op b=none:=by
     cases h4:compW a op b with
     |none=>rfl
     |some l=>rw[h4] at h3;cases h3
    rw[hn] at hJ
    refine gaz ?_
    exact retRetIf rfl (rC (zrt rfl) (zra rfl)) (OptLV.mk (by rw[hJ];rfl) (by
     intro l' h'
     rw[hJ] at h'
     cases h'))
  ·have hn:numW y=none:=by
    cases h3:numW y with
    |none=>rfl
    |some l=>rw[h3] at h2;cases h2
   rw[ha2,hn] at hJ
   refine gbt ?_
   exact retRetIf rfl (rC (zrt rfl) (zra rfl)) (OptLV.mk (by rw[hJ];rfl) (by
    intro l' h'
    rw[hJ] at h'
    cases h'))
 ·have hn:numW x=none:=by
   cases h3:numW x with
   |none=>rfl
   |some l=>rw[h3] at h1;cases h1
  rw[hn] at hJ
  refine gbt ?_
  exact retRetIf rfl (rC (zrt rfl) (zra rfl)) (OptLV.mk (by rw[hJ];rfl) (by
   intro l' h'
   rw[hJ] at h'
   cases h'))
end
end Go.Proofs.YtegmklafpoldgaaGreatDoor.Pp
namespace Go.Proofs.YtegmklafpoldgaaGreatDoor.Pp
open Go.GL Go.RowKit Go.Stele
open Asm (OptLV OptLV.mk ite_some)
def ruleLV (r:RuleW):LV:=.tuple [int .i64 r.1,.list (r.2.map str)]
attribute [local irreducible] LOps LCode LStep LCalls Go.GL.Pure QThen QBlock RetPost LQ LAny LLate LLateOp
section
variable {B0:Nat} {w0:World}
theorem fold_spec (hG:GW B0 w0) (v:List Wd) (m:Nat) (hv:Small v):LCalls (KC B0 w0) 78 [viewLV v m] [] (Ret (ruleLV (rFold v))):=by
 have k0:=word_spec (B0:=B0) (w0:=w0) v m 0 (by have:=hv.1;omega)
 have k1:=word_spec (B0:=B0) (w0:=w0) v m 1 (by have:=hv.1;omega)
 have k2:=word_spec (B0:=B0) (w0:=w0) v m 2 (by have:=hv.1;omega)
 have kj:=joined_spec hG (wdAt v 0) (wdAt v 2) (wdAt v 1) (hv.at 0) (hv.at 1)
 have hF:rFold v=match joinedW (wdAt v 0) (wdAt v 2) (wdAt v 1) with
  |some s=>(3,[s])
  |none=>(0,[]):=rfl
 unfold viewLV at k0 k1 k2 ⊢
 generalize joinedW (wdAt v 0) (wdAt v 2) (wdAt v 1)=o at kj hF
 refine cI Tryz.func78 rfl (n:=19) rfl rfl rfl ?_
 refine gac ?_
 refine oS (sB (cs:=[.list (v.map str),.atom (.map (some m))]) rfl fun b1=>?_) rfl
 refine gby ?_
 refine cD (m:=12) rfl [(b1,.cells 158 [.list (v.map str),.atom (.map (some m))])] ?_
 refine aT 0 rfl rfl (pG (cs':=[_,_]) rfl zm0 rfl rfl) ?_
 refine aT 2 rfl rfl (pG (cs':=[_,_]) rfl zm0 rfl rfl) ?_
 refine aT 4 rfl rfl (pG (cs':=[_,_]) rfl zm0 rfl rfl) ?_
 refine aL ?_ zhr
 refine lO 1 (lS (H1:=[]) rfl (.inl rfl) rfl zpr zhr (sF [_,_] rfl k0 ?_))
 refine lO 3 (lS (H1:=[]) rfl (.inl rfl) rfl zpr zhr (sF [_,_] rfl k2 ?_))
 refine lO 5 (lS (H1:=[]) rfl (.inl rfl) rfl zpr zhr (sF [_,_] rfl k1 ?_))
 refine lO 6 (lS (H1:=[]) rfl (.inl rfl) rfl zpr zhr (S.fnIf [_,_,_] rfl kj ?_))
 rintro lv ⟨s,rfl,hs⟩
 refine LLate.any [(b1,.cells 158 [.list (v.map str),.atom (.map (some m))])] (fun _ h=>h) ?_
 refine aT 7 rfl rfl (pM (lv:=.tuple _) rfl) ?_
 refine aT 8 rfl rfl (Pure.extract (c:=.atom _) rfl rfl) ?_
 refine aT 9 rfl rfl (Pure.extract (c:=.atom _) rfl rfl) ?_
 refine aT 10 rfl rfl (pA (lv:=.atom _) rfl) ?_
 refine aT 11 rfl rfl (pA (lv:=.atom _) rfl) ?_
 refine aL ?_ zhr
 refine lD zk ?_
 refine gak ?_
 refine oC rfl (fun h=>?_) (fun h=>?_)
 ·obtain ⟨l,rfl⟩:=Option.isSome_iff_exists.1 h
  obtain rfl:=hs l rfl
  refine gab ?_
  refine oS (sL [_] rfl (eC rfl rfl eN) rfl rfl rfl ?_) rfl
  refine gfu ?_
  exact retRet rfl (rC (zrt rfl) (rC (rT (v:=.list _) rfl zsr) rN)) (by rw[hF];rfl)
 ·obtain rfl:o=none:=by
   cases o with
   |none=>rfl
   |some l=>cases h
  refine ga4 ?_
  exact retRet rfl (rC (zrt rfl) (rC (rT (v:=nilSlice) rfl vN) rN)) (by rw[hF];rfl)
theorem never_spec (hG:GW B0 w0) (v:List Wd) (m:Nat) (hv:Small v):LCalls (KC B0 w0) 83 [viewLV v m] [] (Ret (ruleLV (rNever v))):=by
 have k0:=word_spec (B0:=B0) (w0:=w0) v m 0 (by have:=hv.1;omega)
 have kn:=number_spec hG (wdAt v 0) (by have:=hv.at 0;omega)
 have kj:=jump_spec (B0:=B0) (w0:=w0) v m 1 hv zo
 have hF:rNever v=match numW (wdAt v 0) with
  |some n=>if n≠0∧(jumpW v 1).isSome=true then (3,[]) else (0,[])
  |none=>(0,[]):=rfl
 unfold viewLV at k0 kj ⊢
 generalize numW (wdAt v 0)=on at kn hF
 generalize jumpW v 1=oj at kj hF
 refine cI Tryz.func83 rfl (n:=27) rfl rfl rfl ?_
 refine gac ?_
 refine oS (sB (cs:=[.list (v.map str),.atom (.map (some m))]) rfl fun b1=>?_) rfl
 refine gbu ?_
 refine oS (sF [_,_] rfl k0 ?_) rfl
 refine oS (sF [_] rfl kn ?_) rfl
 refine gna ?_
 refine oS (S.fnIf [_,_] rfl kj ?_) rfl
 rintro lv ⟨s,rfl,hs⟩
 refine gam ?_
 refine oB 20 rfl (fun h1=>?_) (fun h1=>?_)
 ·rw[h1] at hF
  cases on with
  |none=>
   refine gnb ?_
   refine oC rfl (fun h=>?_) (fun h=>?_)
   ·cases h
   ·exact zT23
  |some n=>
   refine gnc ?_
   refine oC rfl (fun h=>?_) (fun h=>?_)
   ·have hn:n≠0:=by
     intro h0
     subst h0
     exact absurd h zDd
    simp only[hn,ne_eq,not_false_eq_true,and_self,if_true] at hF
    refine gaf ?_
    exact retRet rfl (rC (zrt rfl) (rC (rT (v:=nilSlice) rfl vN) rN)) (by rw[hF];rfl)
   ·have hn:n=0:=by
     have h0:¬ ¬ ((n:Int)=0):=by simpa using h
     omega
    subst hn
    refine ga4 ?_
    exact retRet rfl (rC (zrt rfl) (rC (rT (v:=nilSlice) rfl vN) rN)) (by rw[hF];rfl)
 ·rw[h1] at hF
  refine gnd ?_
  refine oC rfl (fun h=>?_) (fun h=>?_)
  ·cases h
  ·refine ga4 ?_
   exact retRet rfl (rC (zrt rfl) (rC (rT (v:=nilSlice) rfl vN) rN)) (by
    rw[hF]
    cases on <;> simp <;> rfl)
theorem unused_spec (v:List Wd) (m:Nat) (hv:Small v) {es:Array MapEntry} {clock:Nat} {p:List UInt8→Bool} (hs:SetMap es p):LCalls (KC B0 w0) 86 [viewLV v m] [(m,.obj (.map es clock))] (fun r H=>r=.ret (ruleLV (rUnused p v))∧H=[(m,.obj (.map es clock))]):=by
 have k0:=word_spec (B0:=B0) (w0:=w0) v m 0 (by have:=hv.1;omega)
 have kd:=definition_spec (B0:=B0) (w0:=w0) (wdAt v 0) (by have:=hv.at 0;omega)
 have hF:rUnused p v=match defW (wdAt v 0) with
  |some l=>if p l=true then (0,[]) else (1,[])
  |none=>(0,[]):=rfl
 unfold viewLV at k0 ⊢
 generalize defW (wdAt v 0)=o at kd hF
 refine cI Tryz.func86 rfl (n:=20) rfl rfl rfl ?_
 refine gac ?_
 refine oS (sB (cs:=[.list (v.map str),.atom (.map (some m))]) rfl fun b1=>?_) rfl
 refine gbu ?_
 refine oS (sF [_,_] rfl k0 ?_) rfl
 refine oS (S.fnIf [_] rfl kd ?_) rfl
 rintro lv ⟨s,rfl,hs2⟩
 refine gam ?_
 refine oB 13 rfl (fun h1=>?_) (fun h1=>?_)
 ·obtain ⟨l,rfl⟩:=Option.isSome_iff_exists.1 h1
  obtain rfl:=hs2 l rfl
  simp only at hF
  refine gne ?_
  refine oP (Pure.setGet (t:=102) (kt:=9) (el:=4) zk zk (fun w=>(Go.zero_of_info (P:=Tryz.prog) (n:=1) zk).1 w) rfl rfl zm1 hs) rfl ?_
  refine gnf ?_
  refine oC rfl (fun h=>?_) (fun h=>?_)
  ·have hp:p s=false:=by simpa using h
   refine gaf ?_
   exact rR rfl (rC (zrt rfl) (rC (rT (v:=nilSlice) rfl vN) rN)) (zhD zhr) ⟨by rw[hF,hp];rfl,rfl⟩
  ·have hp:p s=true:=by simpa using h
   refine ga4 ?_
   exact rR rfl (rC (zrt rfl) (rC (rT (v:=nilSlice) rfl vN) rN)) (zhD zhr) ⟨by rw[hF,hp];rfl,rfl⟩
 ·obtain rfl:o=none:=by
   cases o with
   |none=>rfl
   |some l=>cases h1
  refine gbm ?_
  refine oC rfl (fun h=>?_) (fun h=>?_)
  ·cases h
  ·refine ga4 ?_
   exact rR rfl (rC (zrt rfl) (rC (rT (v:=nilSlice) rfl vN) rN)) (zhD zhr) ⟨by rw[hF];rfl,rfl⟩
end
end Go.Proofs.YtegmklafpoldgaaGreatDoor.Pp
namespace Go.Proofs.YtegmklafpoldgaaGreatDoor.Pp
open Go.GL Go.RowKit Go.Stele
open Asm (OptLV OptLV.mk ite_some)
def isW (v:List Wd):Nat→List Wd→Bool
 |_,[]=>true
 |i,w::r=>decide (wdAt v i=w) && isW v (i+1) r
attribute [local irreducible] LOps LCode LStep LCalls Go.GL.Pure QThen QBlock RetPost LQ LAny LLate LLateOp
section
variable {B0:Nat} {w0:World}
theorem is_spec (v:List Wd) (m i:Nat) (ws:List Wd) (hv:Small v) (hi:i≤1000) (hw:ws.length≤1000):LCalls (KC B0 w0) 136 [viewLV v m,int .i64 i,.list (ws.map str)] [] (Ret (bool (isW v i ws))):=by
 have hla:(ws.map str).length=ws.length:=zLm _
 have kw:∀ k,LCalls (KC B0 w0) 134 [viewLV v m,int .i64 (k:Nat)] [] (Ret (str (wdAt v k))):=fun k=>word_spec v m k (by have:=hv.1;omega)
 unfold viewLV at kw ⊢
 refine cI Tryz.func136 rfl (n:=24) rfl rfl rfl ?_
 refine gac ?_
 refine oS (sB (cs:=[.list (v.map str),.atom (.map (some m))]) rfl fun b3=>?_) rfl
 refine ga9 ?_
 refine oL (fun k ls H=>∃ j,j≤ws.length∧k=ws.length-j∧ls=[(1,int .i64 i),(3,ptr b3 0),(9,.list (ws.map str)),(10,int .i64 ws.length),(11,int .i64 j)]∧H=[(b3,.cells 158 [.list (v.map str),.atom (.map (some m))])]∧isW v i ws=isW v (i+j) (ws.drop j))
  ⟨_,_,_,⟨0,Nat.zero_le _,rfl,rfl,rfl,rfl⟩,⟨rfl,rfl,rfl,int_eq zo,rfl,trivial⟩,zhR _⟩ ?_
 rintro k ls H ⟨j,hj,rfl,rfl,rfl,hE⟩ j1 hj1
 refine gae ?_
 refine oC rfl (fun hc=>?_) (fun hc=>?_)
 ·have hlt:j<ws.length:=by have:=zt hc;omega
  rw[List.drop_eq_getElem_cons hlt,isW] at hE
  have k1:=kw (i+j)
  have e1:int .i64 ((i+j:Nat):Int)=int .i64 ((i:Int)+j):=int_eq zo
  rw[e1] at k1
  refine gbo ?_
  refine oP (xR (el':=str ws[j]) (cs:=[str ws[j]]) rfl rfl zo (map_get _ _ _ hlt) rfl rfl) rfl ?_
  refine gng ?_
  refine oS (sF [_,_] rfl k1 ?_) rfl
  refine gnh ?_
  refine oC rfl (fun h=>?_) (fun h=>?_)
  ·have hne:¬ wdAt v (i+j)=ws[j]:=by simpa using h
   rw[decide_eq_false hne,Bool.false_and] at hE
   refine ga2 ?_
   exact retRet hj1 (zra rfl) (bool_eq hE.symm)
  ·have he:wdAt v (i+j)=ws[j]:=by simpa using h
   rw[decide_eq_true he,Bool.true_and] at hE
   refine gax ?_
   exact ⟨_,_,_,by omega,⟨j+1,by omega,rfl,rfl,rfl,by rw[hE,Nat.add_assoc]⟩,⟨rfl,rfl,rfl,rfl,int_eq zo,trivial⟩,zhR _,hj1⟩
 ·have hj':j=ws.length:=by have:=zf hc;omega
  subst hj'
  rw[List.drop_length,isW] at hE
  refine gbw ?_
  exact retRet hj1 (zra rfl) (bool_eq hE.symm)
theorem neutral_spec (v:List Wd) (m:Nat) (hv:Small v):LCalls (KC B0 w0) 79 [viewLV v m] [] (Ret (ruleLV (rNeutral v))):=by
 have k0:=word_spec (B0:=B0) (w0:=w0) v m 0 (by have:=hv.1;omega)
 have k1:=word_spec (B0:=B0) (w0:=w0) v m 1 (by have:=hv.1;omega)
 have hF:rNeutral v=if wdAt v 0=[48]∧(wdAt v 1=[43]∨wdAt v 1=[45]∨wdAt v 1=[94])∨wdAt v 0=[49]∧(wdAt v 1=[42]∨wdAt v 1=[47]) then (2,[]) else (0,[]):=rfl
 unfold viewLV at k0 k1 ⊢
 generalize wdAt v 0=a at k0 hF
 generalize wdAt v 1=b at k1 hF
 refine cI Tryz.func79 rfl (n:=36) rfl rfl rfl ?_
 refine gac ?_
 refine oS (sB (cs:=[.list (v.map str),.atom (.map (some m))]) rfl fun b1=>?_) rfl
 refine gby ?_
 refine cD (m:=6) rfl [(b1,.cells 158 [.list (v.map str),.atom (.map (some m))])] ?_
 refine aT 0 rfl rfl (pG (cs':=[_,_]) rfl zm0 rfl rfl) ?_
 refine aT 2 rfl rfl (pG (cs':=[_,_]) rfl zm0 rfl rfl) ?_
 refine aL ?_ zhr
 refine lO 1 (lS (H1:=[]) rfl (.inl rfl) rfl zpr zhr (sF [_,_] rfl k0 ?_))
 refine lO 3 (lS (H1:=[]) rfl (.inl rfl) rfl zpr zhr (sF [_,_] rfl k1 ?_))
 refine LLate.any [(b1,.cells 158 [.list (v.map str),.atom (.map (some m))])] (fun _ h=>h) ?_
 refine aT 4 rfl rfl (pA (lv:=.atom _) rfl) ?_
 refine aT 5 rfl rfl (pA (lv:=.atom _) rfl) ?_
 refine aL ?_ zhr
 refine lD zk ?_
 refine gni ?_
 refine LOps.cut [(1,ptr b1 0),(35,bool (decide (a=[48]∧(b=[43]∨b=[45]∨b=[94])∨a=[49]∧(b=[42]∨b=[47]))))] ?_ (fun j hj=>?_)
 ·refine oB 12 rfl (fun h1=>?_) (fun h1=>?_)
  ·have e1:a=[48]:=zt h1
   have n1:¬ a=[49]:=by rw[e1];decide
   refine gdg ?_
   refine oB 15 rfl (fun h2=>?_) (fun h2=>?_)
   ·have e2:b=[43]:=zt h2
    refine gfv ?_
    exact ⟨⟨rfl,bool_eq (by simp[e1,e2]),trivial⟩,rfl,rfl⟩
   ·have e2:¬ b=[43]:=zf h2
    refine gct ?_
    refine oB 19 rfl (fun h3=>?_) (fun h3=>?_)
    ·have e3:b=[45]:=zt h3
     refine gfv ?_
     exact ⟨⟨rfl,bool_eq (by simp[e1,e3]),trivial⟩,rfl,rfl⟩
    ·have e3:¬ b=[45]:=zf h3
     refine gnj ?_
     refine oB 24 rfl (fun h4=>?_) (fun h4=>?_)
     ·have e4:b=[94]:=zt h4
      refine gnk ?_
      exact ⟨⟨rfl,bool_eq (by simp[e1,e4]),trivial⟩,rfl,rfl⟩
     ·have e4:¬ b=[94]:=zf h4
      refine gdg ?_
      refine oB 27 rfl (fun h5=>absurd (zt h5) n1) (fun h5=>?_)
      refine gfw ?_
      exact ⟨⟨rfl,bool_eq (by simp[e2,e3,e4,n1]),trivial⟩,rfl,rfl⟩
  ·have e1:¬ a=[48]:=zf h1
   refine gnl ?_
   refine oB 27 rfl (fun h2=>?_) (fun h2=>?_)
   ·have e2:a=[49]:=zt h2
    refine gdg ?_
    refine oB 30 rfl (fun h3=>?_) (fun h3=>?_)
    ·have e3:b=[42]:=zt h3
     refine gdv ?_
     exact ⟨⟨rfl,bool_eq (by simp[e2,e3]),trivial⟩,rfl,rfl⟩
    ·have e3:¬ b=[42]:=zf h3
     refine gnm ?_
     exact ⟨⟨rfl,bool_eq (by simp[e2,e3]),trivial⟩,rfl,rfl⟩
   ·have e2:¬ a=[49]:=zf h2
    refine gfw ?_
    exact ⟨⟨rfl,bool_eq (by simp[e1,e2]),trivial⟩,rfl,rfl⟩
 refine oC rfl (fun h=>?_) (fun h=>?_)
 ·rw[if_pos (zt h)] at hF
  refine gaf ?_
  exact retRet hj (rC (zrt rfl) (rC (rT (v:=nilSlice) rfl vN) rN)) (by rw[hF];rfl)
 ·rw[if_neg (zf h)] at hF
  refine ga4 ?_
  exact retRet hj (rC (zrt rfl) (rC (rT (v:=nilSlice) rfl vN) rN)) (by rw[hF];rfl)
end
end Go.Proofs.YtegmklafpoldgaaGreatDoor.Pp
namespace Go.Proofs.YtegmklafpoldgaaGreatDoor.Pp
open Go.GL Go.RowKit Go.Stele
open Asm (OptLV OptLV.mk ite_some)
theorem nextW_step (l:Wd) (v:List Wd) (i:Nat):nextW l (v.drop i)=match defW (wdAt v i) with
  |some d=>decide (d=l) || nextW l (v.drop (i+1))
  |none=>false:=by
 by_cases h:i<v.length
 ·have e:wdAt v i=v[i]:=by unfold wdAt;rw[List.getElem?_eq_getElem h];rfl
  rw[List.drop_eq_getElem_cons h,nextW,e]
  first|done|(cases defW v[i] <;> rfl)
 ·have e:wdAt v i=[]:=by unfold wdAt;rw[List.getElem?_eq_none zo];rfl
  rw[List.drop_eq_nil_of_le zo,e]
  rfl
theorem defW_lt {v:List Wd} {i:Nat} {d:Wd} (h:defW (wdAt v i)=some d):i<v.length:=by
 by_cases hl:i<v.length
 ·exact hl
 ·have e:wdAt v i=[]:=by unfold wdAt;rw[List.getElem?_eq_none zo];rfl
  rw[e] at h
  cases h
attribute [local irreducible] LOps LCode LStep LCalls Go.GL.Pure QThen QBlock RetPost LQ LAny LLate LLateOp
section
variable {B0:Nat} {w0:World}
theorem next_spec (v:List Wd) (m:Nat) (hv:Small v):LCalls (KC B0 w0) 84 [viewLV v m] [] (Ret (ruleLV (rNext v))):=by
 have k0:=word_spec (B0:=B0) (w0:=w0) v m 0 (by have:=hv.1;omega)
 have kj:=jump_spec (B0:=B0) (w0:=w0) v m 1 hv zo
 have kw:∀ k,LCalls (KC B0 w0) 134 [viewLV v m,int .i64 (k:Nat)] [] (Ret (str (wdAt v k))):=fun k=>word_spec v m k (by have:=hv.1;omega)
 have kd:∀ k,LCalls (KC B0 w0) 138 [str (wdAt v k)] [] (RetIf (OptLV (defW (wdAt v k)))):=fun k=>definition_spec (wdAt v k) (by have:=hv.at k;omega)
 have hF:rNext v=match jumpW v 1 with
  |some l=>if wdAt v 0=[48]∧nextW l (v.drop 3)=true then (3,[]) else (0,[])
  |none=>(0,[]):=rfl
 unfold viewLV at k0 kj kw ⊢
 generalize jumpW v 1=oj at kj hF
 generalize wdAt v 0=a at k0 hF
 refine cI Tryz.func84 rfl (n:=35) rfl rfl rfl ?_
 refine gac ?_
 refine oS (sB (cs:=[.list (v.map str),.atom (.map (some m))]) rfl fun b1=>?_) rfl
 refine gbu ?_
 refine oS (S.fnIf [_,_] rfl kj ?_) rfl
 rintro lv ⟨s,rfl,hs⟩
 refine gcc ?_
 refine oB 16 rfl (fun h1=>?_) (fun h1=>?_)
 ·obtain rfl:oj=none:=by
   cases oj with
   |none=>rfl
   |some l=>cases h1
  refine gbg ?_
  refine oC rfl (fun h=>?_) (fun h=>?_)
  ·refine gaf ?_
   exact retRet rfl (rC (zrt rfl) (rC (rT (v:=nilSlice) rfl vN) rN)) (by rw[hF];rfl)
  ·cases h
 ·obtain ⟨l,rfl⟩:∃ l,oj=some l:=by
   cases oj with
   |none=>cases h1
   |some l=>exact ⟨l,rfl⟩
  obtain rfl:=hs l rfl
  simp only at hF
  refine gb8 ?_
  refine oS (sF [_,_] rfl k0 ?_) rfl
  refine gnn ?_
  refine oC rfl (fun h=>?_) (fun h=>?_)
  ·have hne:¬ a=[48]:=by simpa using h
   rw[if_neg (fun hc=>hne hc.1)] at hF
   refine gaf ?_
   exact retRet rfl (rC (zrt rfl) (rC (rT (v:=nilSlice) rfl vN) rN)) (by rw[hF];rfl)
  ·have he:a=[48]:=by simpa using h
   subst he
   simp only[true_and] at hF
   refine gno ?_
   refine oL (fun k ls H=>∃ i,(i≤v.length∨i=3)∧k=v.length+4-i∧ls=[(1,ptr b1 0),(4,str s),(6,int .i64 (i:Nat))]∧H=[(b1,.cells 158 [.list (v.map str),.atom (.map (some m))])]∧nextW s (v.drop 3)=nextW s (v.drop i))
    ⟨_,_,_,⟨3,Or.inr rfl,rfl,rfl,rfl,rfl⟩,⟨rfl,rfl,rfl,trivial⟩,zhR _⟩ ?_
   rintro k ls H ⟨i,hi,rfl,rfl,rfl,hE⟩ j1 hj1
   have hl:=hv.1
   rw[nextW_step s v i] at hE
   refine gnp ?_
   refine oS (sF [_,_] rfl (kw i) ?_) rfl
   refine oS (S.fnIf [_] rfl (kd i) ?_) rfl
   rintro lv ⟨d,rfl,hd⟩
   refine gcc ?_
   refine oC rfl (fun h=>?_) (fun h=>?_)
   ·have hn:defW (wdAt v i)=none:=by
     cases ho:defW (wdAt v i) with
     |none=>rfl
     |some l=>rw[ho] at h;cases h
    rw[hn] at hE
    rw[hE] at hF
    refine ga2 ?_
    exact retRet hj1 (rC (zrt rfl) (rC (rT (v:=nilSlice) rfl vN) rN)) (by rw[hF];rfl)
   ·obtain ⟨e,ho⟩:∃ e,defW (wdAt v i)=some e:=by
     cases ho:defW (wdAt v i) with
     |none=>rw[ho] at h;cases h
     |some l=>exact ⟨l,rfl⟩
    have hlt:=defW_lt ho
    obtain rfl:=hd e ho
    rw[ho] at hE
    simp only at hE
    refine gfs ?_
    refine oC rfl (fun h2=>?_) (fun h2=>?_)
    ·have he:d=s:=zt h2
     rw[decide_eq_true he,Bool.true_or] at hE
     rw[hE] at hF
     refine ga2 ?_
     exact retRet hj1 (rC (zrt rfl) (rC (rT (v:=nilSlice) rfl vN) rN)) (by rw[hF];rfl)
    ·have he:¬ d=s:=zf h2
     rw[decide_eq_false he,Bool.false_or] at hE
     refine gdh ?_
     exact ⟨_,_,_,by omega,⟨i+1,Or.inl zo,rfl,rfl,rfl,hE⟩,⟨rfl,rfl,int_eq zo,trivial⟩,zhR _,hj1⟩
end
end Go.Proofs.YtegmklafpoldgaaGreatDoor.Pp
namespace Go.Proofs.YtegmklafpoldgaaGreatDoor.Pp
open Go.GL Go.RowKit Go.Stele
open Asm (OptLV OptLV.mk ite_some)
attribute [local irreducible] LOps LCode LStep LCalls Go.GL.Pure QThen QBlock RetPost LQ LAny LLate LLateOp
section
variable {B0:Nat} {w0:World}
theorem same_spec (hG:GW B0 w0) (v:List Wd) (m:Nat) (hv:Small v):LCalls (KC B0 w0) 81 [viewLV v m] [] (Ret (ruleLV (rSame v))):=by
 have k0:=word_spec (B0:=B0) (w0:=w0) v m 0 (by have:=hv.1;omega)
 have kn:=number_spec hG (wdAt v 0) (by have:=hv.at 0;omega)
 have ki:=is_spec (B0:=B0) (w0:=w0) v m 1 [[64],wdAt v 0,[33]] hv zo (by simp only[zLc,zLn];omega)
 have hF:rSame v=if (numW (wdAt v 0)).isSome=true∧isW v 1 [[64],wdAt v 0,[33]]=true then (4,[]) else (0,[]):=by
  simp only[rSame,isW,zBa,zDe,and_true]
 unfold viewLV at k0 ki ⊢
 generalize numW (wdAt v 0)=on at kn hF
 generalize isW v 1 [[64],wdAt v 0,[33]]=q at ki hF
 generalize wdAt v 0=a at k0 kn ki
 refine cI Tryz.func81 rfl (n:=20) rfl rfl rfl ?_
 refine gac ?_
 refine oS (sB (cs:=[.list (v.map str),.atom (.map (some m))]) rfl fun b1=>?_) rfl
 refine gbu ?_
 refine oS (sF [_,_] rfl k0 ?_) rfl
 refine oS (sF [_] rfl kn ?_) rfl
 refine gnq ?_
 cases on with
 |none=>
  refine cD (m:=8) rfl [(b1,.cells 158 [.list (v.map str),.atom (.map (some m))])] ?_
  refine aT 0 rfl rfl (pM (lv:=.atom _) rfl) ?_
  refine aT 1 rfl rfl (pM (lv:=.atom _) rfl) ?_
  refine LAny.takeSkip (i:=2) rfl rfl rfl rfl zk zk zk rfl ?_
  refine LAny.takeSkip (i:=3) rfl rfl rfl rfl zk zk zk rfl ?_
  refine LAny.takeSkip (i:=4) rfl rfl rfl rfl zk zk zk rfl ?_
  refine LAny.takeSkip (i:=5) rfl rfl rfl rfl zk zk zk rfl ?_
  refine LAny.takeSkip (i:=6) rfl rfl rfl rfl zk zk zk rfl ?_
  refine aT 7 rfl rfl (Pure.pickF (lv:=.atom _) rfl rfl) ?_
  refine aL ?_ zhr
  refine lD zk ?_
  refine gfx ?_
  refine oC rfl (fun h=>?_) (fun h=>?_)
  ·cases h
  ·exact zT23
 |some n=>
  refine cD (m:=8) rfl [(b1,.cells 158 [.list (v.map str),.atom (.map (some m))])] ?_
  refine aT 0 rfl rfl (pM (lv:=.atom _) rfl) ?_
  refine aT 1 rfl rfl (pM (lv:=.atom _) rfl) ?_
  refine LAny.tkW 2 rfl rfl rfl rfl (pG (cs':=[_,_]) rfl zm0 rfl rfl) ?_
  refine LAny.tkW 3 rfl rfl rfl rfl (pG (cs':=[_,_]) rfl zm0 rfl rfl) ?_
  refine aL ?_ zhr
  refine lO 4 (lS (H1:=[]) rfl (.inr ⟨1,true,13,rfl,rfl,rfl⟩) rfl zpr zhr (sF [_,_] rfl k0 ?_))
  refine lO 5 (lS (H1:=[]) rfl (.inr ⟨1,true,13,rfl,rfl,rfl⟩) rfl zpr zhr ?_)
  refine sL [.const (.string { data:=#[64] }),.tmp 16,.const (.string { data:=#[33] })] rfl (eC rfl rfl (eC rfl rfl (eC rfl rfl eN))) rfl rfl rfl ?_
  refine lO 6 (lS (H1:=[]) rfl (.inr ⟨1,true,13,rfl,rfl,rfl⟩) rfl zpr zhr (sF [_,_,_] rfl ki ?_))
  refine LLate.any [(b1,.cells 158 [.list (v.map str),.atom (.map (some m))])] (fun _ h=>h) ?_
  refine aT 7 rfl rfl (Pure.pickT (lv:=.atom _) rfl rfl) ?_
  refine aL ?_ zhr
  refine lD zk ?_
  refine gfx ?_
  refine oC rfl (fun h=>?_) (fun h=>?_)
  ·have hq:q=true:=h
   subst hq
   refine gaf ?_
   exact retRet rfl (rC (zrt rfl) (rC (rT (v:=nilSlice) rfl vN) rN)) (by rw[hF];rfl)
  ·have hq:q=false:=h
   subst hq
   refine ga4 ?_
   exact retRet rfl (rC (zrt rfl) (rC (rT (v:=nilSlice) rfl vN) rN)) (by rw[hF];rfl)
end
end Go.Proofs.YtegmklafpoldgaaGreatDoor.Pp
namespace Go.Proofs.YtegmklafpoldgaaGreatDoor.Pp
open Go.GL Go.RowKit Go.Stele
open Asm (OptLV OptLV.mk ite_some)
theorem take6_drop4 {v:List Wd} (h:5<v.length):((v.map str).take 6).drop 4=[str (wdAt v 4),str (wdAt v 5)]:=by
 have e4:wdAt v 4=v[4]:=by unfold wdAt;rw[List.getElem?_eq_getElem zo];rfl
 have e5:wdAt v 5=v[5]:=by unfold wdAt;rw[List.getElem?_eq_getElem h];rfl
 rw[e4,e5,←List.map_take,←List.map_drop]
 have:(v.take 6).drop 4=[v[4],v[5]]:=by
  rw[List.drop_take,List.drop_eq_getElem_cons (by omega:4<v.length),List.drop_eq_getElem_cons h]
  rfl
 rw[this]
 rfl
attribute [local irreducible] LOps LCode LStep LCalls Go.GL.Pure QThen QBlock RetPost LQ LAny LLate LLateOp
section
variable {B0:Nat} {w0:World}
theorem double_spec (v:List Wd) (m:Nat) (hv:Small v):LCalls (KC B0 w0) 82 [viewLV v m] [] (Ret (ruleLV (rDouble v))):=by
 have kj:=jump_spec (B0:=B0) (w0:=w0) v m 4 hv zo
 have ki:=is_spec (B0:=B0) (w0:=w0) v m 0 [[49],[60],[49],[60]] hv zo zDd
 have hF:rDouble v=if (jumpW v 4).isSome=true∧isW v 0 [[49],[60],[49],[60]]=true then (6,[wdAt v 4,wdAt v 5]) else (0,[]):=by
  simp only[rDouble,isW,zBa,zDe,and_true]
 have hlen:∀ l,jumpW v 4=some l→5<v.length:=fun l h=>jumpW_lt h
 unfold viewLV at kj ki ⊢
 generalize jumpW v 4=oj at kj hF hlen
 generalize isW v 0 [[49],[60],[49],[60]]=q at ki hF
 refine cI Tryz.func82 rfl (n:=20) rfl rfl rfl ?_
 refine gac ?_
 refine oS (sB (cs:=[.list (v.map str),.atom (.map (some m))]) rfl fun b1=>?_) rfl
 refine gbu ?_
 refine oS (S.fnIf [_,_] rfl kj ?_) rfl
 rintro lv ⟨s,rfl,hs⟩
 refine gam ?_
 cases oj with
 |none=>
  refine gbm ?_
  refine oC rfl (fun h=>?_) (fun h=>?_)
  ·cases h
  ·exact zT23
 |some l=>
  have h5:=hlen l rfl
  refine gb8 ?_
  refine oS (sL [.const (.string { data:=#[49] }),.const (.string { data:=#[60] }),.const (.string { data:=#[49] }),.const (.string { data:=#[60] })] rfl (eC rfl rfl (eC rfl rfl (eC rfl rfl (eC rfl rfl eN)))) rfl rfl rfl ?_) rfl
  refine gcu ?_
  refine oS (sF [_,_,_] rfl ki ?_) rfl
  refine gcp ?_
  refine oC rfl (fun h=>?_) (fun h=>?_)
  ·have hq:q=true:=h
   subst hq
   refine gb4 ?_
   refine cD (m:=5) rfl [(b1,.cells 158 [.list (v.map str),.atom (.map (some m))])] ?_
   refine aT 0 rfl rfl (pF rfl) ?_
   refine aT 1 rfl rfl (pL (c:=.list _) rfl zm0 rfl) ?_
   refine LAny.take (i:=2) zhr rfl zk zk zk rfl (Pure.lslice (es:=v.map str) (i:=4) (j:=6) rfl ⟨_,rfl⟩ ⟨_,rfl⟩ zo zo (by rw[zLm];omega) (strs_len v)) ?_
   refine aT 3 rfl rfl (pA (lv:=.atom _) rfl) ?_
   refine aT 4 rfl rfl (pA (lv:=.list _) rfl) ?_
   refine aL ?_ zhr
   refine lD zk ?_
   refine gbd ?_
   exact retRet rfl (rC (zrt rfl) (rC (rT (v:=.list _) rfl zsr) rN)) (by rw[hF];exact congrArg (fun x=>LV.tuple [int .i64 6,.list x]) (take6_drop4 h5))
  ·have hq:q=false:=h
   subst hq
   refine ga4 ?_
   exact retRet rfl (rC (zrt rfl) (rC (rT (v:=nilSlice) rfl vN) rN)) (by rw[hF];rfl)
end
end Go.Proofs.YtegmklafpoldgaaGreatDoor.Pp
namespace Go.Proofs.YtegmklafpoldgaaGreatDoor.Pp
open Go.GL Go.RowKit Go.Stele
open Asm (OptLV OptLV.mk ite_some)
attribute [local irreducible] LOps LCode LStep LCalls Go.GL.Pure QThen QBlock RetPost LQ LAny LLate LLateOp
section
variable {B0:Nat} {w0:World}
theorem regroup_spec (hG:GW B0 w0) (v:List Wd) (m:Nat) (hv:Small v):LCalls (KC B0 w0) 80 [viewLV v m] [] (Ret (ruleLV (rRegroup v))):=by
 have k0:=word_spec (B0:=B0) (w0:=w0) v m 0 (by have:=hv.1;omega)
 have k1:=word_spec (B0:=B0) (w0:=w0) v m 1 (by have:=hv.1;omega)
 have k2:=word_spec (B0:=B0) (w0:=w0) v m 2 (by have:=hv.1;omega)
 have k3:=word_spec (B0:=B0) (w0:=w0) v m 3 (by have:=hv.1;omega)
 have kj:=joined_spec hG (wdAt v 0) (wdAt v 1) (wdAt v 2) (hv.at 0) (hv.at 2)
 have hF:rRegroup v=if (wdAt v 1=[43]∨wdAt v 1=[42]∨wdAt v 1=[94])∧wdAt v 3=wdAt v 1 then
  (match joinedW (wdAt v 0) (wdAt v 1) (wdAt v 2) with
  |some s=>(4,[s,wdAt v 1])
  |none=>(0,[]))
 else (0,[]):=rfl
 unfold viewLV at k0 k1 k2 k3 ⊢
 generalize joinedW (wdAt v 0) (wdAt v 1) (wdAt v 2)=o at kj hF
 generalize wdAt v 1=b at k1 kj hF
 generalize wdAt v 3=d at k3 hF
 refine cI Tryz.func80 rfl (n:=38) rfl rfl rfl ?_
 refine gac ?_
 refine oS (sB (cs:=[.list (v.map str),.atom (.map (some m))]) rfl fun b1=>?_) rfl
 refine gbu ?_
 refine oS (sF [_,_] rfl k1 ?_) rfl
 refine gnr ?_
 refine LOps.cut [(1,ptr b1 0),(4,str b),(24,bool (!decide ((b=[43]∨b=[42]∨b=[94])∧d=b)))] ?_ (fun j hj=>?_)
 ·refine oB 11 rfl (fun h1=>?_) (fun h1=>?_)
  ·have e1:¬ b=[43]:=by simpa using h1
   refine gfy ?_
   refine oB 15 rfl (fun h2=>?_) (fun h2=>?_)
   ·have e2:¬ b=[42]:=by simpa using h2
    refine gfy ?_
    refine oB 19 rfl (fun h3=>?_) (fun h3=>?_)
    ·have e3:¬ b=[94]:=by simpa using h3
     refine gbg ?_
     exact ⟨⟨rfl,rfl,bool_eq (by simp[e1,e2,e3]),trivial⟩,rfl,rfl⟩
    ·have e3:b=[94]:=by simpa using h3
     refine gb8 ?_
     refine oS (sF [_,_] rfl k3 ?_) rfl
     refine gck ?_
     exact ⟨⟨rfl,rfl,bool_eq (by simp[e3]),trivial⟩,rfl,rfl⟩
   ·have e2:b=[42]:=by simpa using h2
    refine gfz ?_
    refine oS (sF [_,_] rfl k3 ?_) rfl
    refine gck ?_
    exact ⟨⟨rfl,rfl,bool_eq (by simp[e2]),trivial⟩,rfl,rfl⟩
  ·have e1:b=[43]:=by simpa using h1
   refine gfz ?_
   refine oS (sF [_,_] rfl k3 ?_) rfl
   refine gck ?_
   exact ⟨⟨rfl,rfl,bool_eq (by simp[e1]),trivial⟩,rfl,rfl⟩
 refine oC rfl (fun h=>?_) (fun h=>?_)
 ·have hn:¬ ((b=[43]∨b=[42]∨b=[94])∧d=b):=zf (Bool.not_eq_true' _▸h)
  rw[if_neg hn] at hF
  refine gaf ?_
  exact retRet hj (rC (zrt rfl) (rC (rT (v:=nilSlice) rfl vN) rN)) (by rw[hF];rfl)
 ·have hn:(b=[43]∨b=[42]∨b=[94])∧d=b:=by
   by_cases hc:(b=[43]∨b=[42]∨b=[94])∧d=b
   ·exact hc
   ·rw[decide_eq_false hc] at h
    cases h
  rw[if_pos hn] at hF
  refine gbq ?_
  refine cD (m:=11) rfl [(b1,.cells 158 [.list (v.map str),.atom (.map (some m))])] ?_
  refine aT 0 rfl rfl (pG (cs':=[_,_]) rfl zm0 rfl rfl) ?_
  refine aT 2 rfl rfl (pM (lv:=.atom _) rfl) ?_
  refine aT 3 rfl rfl (pG (cs':=[_,_]) rfl zm0 rfl rfl) ?_
  refine aL ?_ zhr
  refine lO 1 (lS (H1:=[]) rfl (.inl rfl) rfl zpr zhr (sF [_,_] rfl k0 ?_))
  refine lO 4 (lS (H1:=[]) rfl (.inl rfl) rfl zpr zhr (sF [_,_] rfl k2 ?_))
  refine lO 5 (lS (H1:=[]) rfl (.inl rfl) rfl zpr zhr (S.fnIf [_,_,_] rfl kj ?_))
  rintro lv ⟨s,rfl,hs⟩
  refine LLate.any [(b1,.cells 158 [.list (v.map str),.atom (.map (some m))])] (fun _ h=>h) ?_
  refine aT 6 rfl rfl (pM (lv:=.tuple _) rfl) ?_
  refine aT 7 rfl rfl (Pure.extract (c:=.atom _) rfl rfl) ?_
  refine aT 8 rfl rfl (Pure.extract (c:=.atom _) rfl rfl) ?_
  refine aT 9 rfl rfl (pA (lv:=.atom _) rfl) ?_
  refine aT 10 rfl rfl (pA (lv:=.atom _) rfl) ?_
  refine aL ?_ zhr
  refine lD zk ?_
  refine gak ?_
  refine oC rfl (fun h=>?_) (fun h=>?_)
  ·obtain ⟨l,rfl⟩:=Option.isSome_iff_exists.1 h
   obtain rfl:=hs l rfl
   refine gab ?_
   refine oS (sL [.tmp 35,.tmp 36] rfl (eC rfl rfl (eC rfl rfl eN)) rfl rfl rfl ?_) rfl
   refine gfu ?_
   exact retRet hj (rC (zrt rfl) (rC (rT (v:=.list _) rfl zsr) rN)) (by rw[hF];rfl)
  ·obtain rfl:o=none:=by
    cases o with
    |none=>rfl
    |some l=>cases h
   refine ga4 ?_
   exact retRet hj (rC (zrt rfl) (rC (rT (v:=nilSlice) rfl vN) rN)) (by rw[hF];rfl)
end
end Go.Proofs.YtegmklafpoldgaaGreatDoor.Pp
namespace Go.Proofs.YtegmklafpoldgaaGreatDoor.Pp
open Go.GL Go.RowKit Go.Stele
open Asm (OptLV OptLV.mk ite_some)
theorem deadLen_stop {v:List Wd} {i:Nat} (h:v.length≤i):deadLen (v.drop i)=0:=by
 rw[List.drop_eq_nil_of_le h]
 rfl
theorem deadLen_def {v:List Wd} {i:Nat} (h:i<v.length) (hd:(defW v[i]).isSome=true):deadLen (v.drop i)=0:=by
 unfold deadLen
 rw[List.drop_eq_getElem_cons h,List.takeWhile_cons_of_neg (fun hc=>absurd (show (defW v[i]).isNone=true from hc) (by
  cases hx:defW v[i] with
  |none=>rw[hx] at hd;cases hd
  |some d=>simp))]
 rfl
theorem deadLen_step {v:List Wd} {i:Nat} (h:i<v.length) (hd:(defW v[i]).isSome=false):deadLen (v.drop i)=deadLen (v.drop (i+1))+1:=by
 unfold deadLen
 rw[List.drop_eq_getElem_cons h,List.takeWhile_cons_of_pos (by simpa using hd)]
 rfl
theorem dead_is {v:List Wd} {n i:Nat} (hn:n=stopW v) (h0:n=0→i=0) (hi:n≤i) (hE:0<n→deadLen (v.drop n)=i-n):rDead v=if n<i then (i,v.take n) else (0,[]):=by
 unfold rDead
 rw[←hn]
 by_cases h:0<n
 ·rw[hE h]
  by_cases hj:n<i
  ·rw[if_pos ⟨h,by omega⟩,if_pos hj,show n+(i-n)=i by omega]
  ·rw[if_neg (fun hc=>hj zo),if_neg hj]
 ·rw[if_neg (fun hc=>h hc.1),if_neg (by have:=h0 zo;omega)]
attribute [local irreducible] LOps LCode LStep LCalls Go.GL.Pure QThen QBlock RetPost LQ LAny LLate LLateOp
section
variable {B0:Nat} {w0:World}
theorem dead_spec (v:List Wd) (m:Nat) (hv:Small v):LCalls (KC B0 w0) 85 [viewLV v m] [] (Ret (ruleLV (rDead v))):=by
 have hla:(v.map str).length=v.length:=zLm _
 have hl:=hv.1
 have k0:=word_spec (B0:=B0) (w0:=w0) v m 0 (by have:=hv.1;omega)
 have kj:=jump_spec (B0:=B0) (w0:=w0) v m 1 hv zo
 have hS:stopW v=if (jumpW v 1).isSome=true∧wdAt v 0=[48] then 3 else if wdAt v 0=[59]∨wdAt v 0=[36] then 1 else 0:=rfl
 have hD:=@dead_is v
 unfold viewLV at k0 kj ⊢
 generalize stopW v=n at hS hD
 generalize jumpW v 1=oj at kj hS
 generalize wdAt v 0=a at k0 hS
 have hn3:n≤3:=by
  rw[hS]
  split
  ·omega
  ·split <;> omega
 refine cI Tryz.func85 rfl (n:=59) rfl rfl rfl ?_
 refine gac ?_
 refine oS (sB (cs:=[.list (v.map str),.atom (.map (some m))]) rfl fun b1=>?_) rfl
 repeat (first|refine LOps.nil ?_|refine qN ?_|refine oP (pA (lv:=.atom _) rfl) rfl ?_)
 refine gac ?_
 repeat (first|refine LOps.nil ?_|refine qN ?_|refine oP (pA (lv:=.atom _) rfl) rfl ?_)
 refine LCode.seq ?_
 refine cC [(1,ptr b1 0),(4,int .i64 (n:Nat))] ?_ (fun j hj=>?_)
 ·refine gb6 ?_
  refine oS (S.fnIf [_,_] rfl kj ?_) rfl
  rintro lv ⟨s,rfl,hs⟩
  refine gam ?_
  refine LOps.cut [(1,ptr b1 0),(4,int .i64 0),(20,bool (decide (oj.isSome=true∧a=[48])))] ?_ (fun j2 hj2=>?_)
  ·cases oj with
   |none=>
    refine gbm ?_
    exact ⟨⟨rfl,rfl,bool_eq (by simp),trivial⟩,rfl,rfl⟩
   |some l=>
    refine gb8 ?_
    refine oS (sF [_,_] rfl k0 ?_) rfl
    refine gns ?_
    exact ⟨⟨rfl,rfl,bool_eq (by simp),trivial⟩,rfl,rfl⟩
  refine oC rfl (fun h=>?_) (fun h=>?_)
  ·rw[if_pos (zt h)] at hS
   subst hS
   refine gf0 ?_
   exact ⟨⟨rfl,rfl,trivial⟩,rfl,hj2⟩
  ·rw[if_neg (zf h)] at hS
   refine gb6 ?_
   refine oS (sF [_,_] rfl k0 ?_) rfl
   refine gnt ?_
   refine LOps.cut [(1,ptr b1 0),(4,int .i64 0),(28,bool (decide (a=[59]∨a=[36])))] ?_ (fun j3 hj3=>?_)
   ·refine oB 24 rfl (fun h1=>?_) (fun h1=>?_)
    ·have e1:a=[59]:=zt h1
     refine gbg ?_
     exact ⟨⟨rfl,rfl,bool_eq (by simp[e1]),trivial⟩,rfl,rfl⟩
    ·have e1:¬ a=[59]:=zf h1
     refine gb8 ?_
     refine oS (sF [_,_] rfl k0 ?_) rfl
     refine gnu ?_
     exact ⟨⟨rfl,rfl,bool_eq (by simp[e1]),trivial⟩,rfl,rfl⟩
   refine oC rfl (fun h=>?_) (fun h=>?_)
   ·rw[if_pos (zt h)] at hS
    subst hS
    refine gf0 ?_
    exact ⟨⟨rfl,rfl,trivial⟩,rfl,hj3.trans hj2⟩
   ·rw[if_neg (zf h)] at hS
    subst hS
    refine ga6 ?_
    exact ⟨⟨rfl,rfl,trivial⟩,rfl,hj3.trans hj2⟩
 refine gcz ?_
 refine oL (fun k ls H=>∃ i:Nat,n≤i∧(i≤v.length∨i=n)∧(n=0→i=0)∧k=v.length+4-i∧ls=[(1,ptr b1 0),(4,int .i64 (n:Nat)),(7,int .i64 (i:Nat))]∧H=[(b1,.cells 158 [.list (v.map str),.atom (.map (some m))])]∧deadLen (v.drop n)=(i-n)+deadLen (v.drop i))
  ⟨_,_,_,⟨n,zNr _,Or.inr rfl,id,rfl,rfl,rfl,by omega⟩,⟨rfl,rfl,rfl,trivial⟩,zhR _⟩ ?_
 rintro k ls H ⟨i,hni,hi,h0,rfl,rfl,rfl,hE⟩ j1 hj1
 refine gnv ?_
 refine LOps.cut [(1,ptr b1 0),(4,int .i64 (n:Nat)),(7,int .i64 (i:Nat)),(38,bool (decide (0<n∧i<v.length)))] ?_ (fun j2 hj2=>?_)
 ·refine oB 32 rfl (fun h1=>?_) (fun h1=>?_)
  ·have e1:0<n:=by have:=zt h1;omega
   refine gnw ?_
   exact ⟨⟨rfl,rfl,rfl,bool_eq (by rw[decide_eq_decide];omega),trivial⟩,rfl,rfl⟩
  ·have e1:¬ 0<n:=by have:=zf h1;omega
   refine gbm ?_
   exact ⟨⟨rfl,rfl,rfl,bool_eq (by simp[e1]),trivial⟩,rfl,rfl⟩
 refine oC rfl (fun h=>?_) (fun h=>?_)
 ·obtain ⟨hn0,hlt⟩:=zt h
  have kd:=definition_spec (B0:=B0) (w0:=w0) v[i] (by have:=hv.2 _ (List.getElem_mem hlt);omega)
  refine gfo ?_
  refine oP (xR (el':=str v[i]) (cs:=[str v[i]]) rfl rfl zo (map_get _ _ _ hlt) rfl rfl) rfl ?_
  refine gch ?_
  refine oS (S.fnIf [_] rfl kd ?_) rfl
  rintro lv ⟨s,rfl,hs⟩
  refine gam ?_
  refine oC rfl (fun h2=>?_) (fun h2=>?_)
  ·rw[deadLen_def hlt h2] at hE
   replace hD:=hD rfl h0 hni (fun _=>by omega)
   refine gnx ?_
   refine oC rfl (fun h3=>?_) (fun h3=>?_)
   ·exact zT24
   ·exact zT2
  ·rw[deadLen_step hlt (by simpa using h2)] at hE
   refine gdh ?_
   exact ⟨_,_,_,by omega,⟨i+1,by omega,Or.inl zo,by omega,rfl,rfl,rfl,by omega⟩,⟨rfl,rfl,int_eq zo,trivial⟩,zhR _,hj2.trans hj1⟩
 ·have hc:=zf h
  replace hD:=hD rfl h0 hni (fun h=>by rw[deadLen_stop (v:=v) (i:=i) zo] at hE;omega)
  refine gny ?_
  refine oC rfl (fun h3=>?_) (fun h3=>?_)
  ·exact zT24
  ·exact zT2
end
end Go.Proofs.YtegmklafpoldgaaGreatDoor.Pp
