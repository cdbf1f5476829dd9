/- Texts joined: CmpG, CmpH, CmpI, LawM0, GlEqS, GlEqI, LawCS0, GlFieldI, LawCM. -/
import Derived.Laws.StructEq
import Derived.ChangeKeysEq
import Derived.Test.YtpbbgkoalnonoaaGreatDoorBRowM210
import Derived.Test.YtpbbgkoalnonoaaGreatDoorBRowM212
import Derived.Test.YtpbbgkoalnonoaaGreatDoorBRowM213
import Derived.Test.YtpbbgkoalnonoaaGreatDoorBRowM214
set_option linter.unusedVariables false
set_option linter.unusedSimpArgs false
set_option maxRecDepth 100000
set_option maxHeartbeats 4000000
namespace Go.Proofs.YtpbbgkoalnonoaaGreatDoor.Cmp
open Go.GL Go.RowKit Go.Stele
open Go.Lib (decDigits itoa join)
def regLV (r:Int×Int):LV:=.agg [int .i64 r.1,int .i64 r.2]
def orgLV (o:Org):LV:=.agg [int .i64 o.code,int .i64 o.scalars,int .i64 o.arrays]
def symLV (p:Nm×Int):LV:=.agg [str p.1,int .i64 p.2]
def I64 (n:Int):Prop := -9223372036854775808≤n∧n<9223372036854775808
def SmI (n:Int):Prop := -1000000000000≤n∧n≤1000000000000
theorem sum_take {l:List Int} {i:Nat} (h:i<l.length):(l.take (i+1)).sum=(l.take i).sum+l[i]:=by
 rw[List.take_succ_eq_append_getElem h,List.sum_append]
 simp
theorem sum_take_le:∀ (l:List Int) (i:Nat),(∀ n∈l,0<n)→0≤(l.take i).sum∧(l.take i).sum≤l.sum
 |[],i,_=>by simp
 |a::l,0,h=>by
  have:=sum_take_le l l.length fun n hn=>h n (zMo _ hn)
  have h1:=h a zMs
  rw[List.take_length] at this
  rw[List.take_zero,List.sum_nil,List.sum_cons]
  omega
 |a::l,i+1,h=>by
  have:=sum_take_le l i fun n hn=>h n (zMo _ hn)
  have h1:=h a zMs
  rw[List.take_succ_cons,List.sum_cons,List.sum_cons]
  omega
theorem symA_take {l:List (Nm×Int)} {i:Nat} (h:i<l.length) (a:Int):symA a (l.take (i+1))=symA a (l.take i)++[(l[i].1,a+((l.map (·.2)).take i).sum)]:=by
 rw[List.take_succ_eq_append_getElem h,symA_app,←List.map_take]
 try rfl
attribute [local irreducible] LOps LCode LStep LCalls Go.GL.Pure QThen QBlock RetPost LQ LAny LLate LLateOp LS
section
variable {B0:Nat} {w0:World}
theorem inside_spec (r:Int×Int) (h2:SmI r.2):LCalls (KC B0 w0) 46 [regLV r] [] (Ret (bool (insideR r))):=by
 obtain ⟨a,n⟩:=r
 unfold SmI at h2
 simp only at h2
 have hI:insideR (a,n)=decide (0≤a∧a≤262144-n):=rfl
 unfold regLV
 refine cI Tryz.func46 rfl (n:=14) rfl rfl rfl ?_
 refine gag ?_
 refine oS (S.box rfl fun b1=>?_) rfl
 refine gac ?_
 refine oB 6 rfl (fun h=>?_) (fun h=>?_)
 ·have h1:a ≥ 0:=zt h
  refine gad ?_
  exact retRet rfl (zra rfl) (bool_eq (by
   rw[hI,Bool.eq_iff_iff,decide_eq_true_iff,decide_eq_true_iff]
   omega))
 ·have h1:¬ a ≥ 0:=zf h
  refine gaa ?_
  exact retRet rfl (zra rfl) (bool_eq (by
   rw[hI]
   symm
   exact decide_eq_false zo))
theorem meets_spec (r s:Int×Int) (h1:SmI r.1) (h2:SmI r.2) (h3:SmI s.1) (h4:SmI s.2):LCalls (KC B0 w0) 47 [regLV r,regLV s] [] (Ret (bool (meetsR r s))):=by
 obtain ⟨a,n⟩:=r
 obtain ⟨b,m⟩:=s
 unfold SmI at h1 h2 h3 h4
 simp only at h1 h2 h3 h4
 have hI:meetsR (a,n) (b,m)=decide (0<n∧0<m∧a<b+m∧b<a+n):=rfl
 unfold regLV
 refine cI Tryz.func47 rfl (n:=33) rfl rfl rfl ?_
 refine gag ?_
 refine oS (S.box rfl fun b1=>?_) rfl
 refine oS (S.box rfl fun b2=>?_) rfl
 refine gac ?_
 refine oB 8 rfl (fun g1=>?_) (fun g1=>?_)
 rotate_left
 ·have g1':¬ n > 0:=zf g1
  refine gaa ?_
  exact retRet rfl (zra rfl) (bool_eq (by rw[hI];symm;exact decide_eq_false zo))
 have g1':n > 0:=zt g1
 refine gad ?_
 refine oB 13 rfl (fun g2=>?_) (fun g2=>?_)
 rotate_left
 ·have g2':¬ m > 0:=zf g2
  refine gaa ?_
  exact retRet rfl (zra rfl) (bool_eq (by rw[hI];symm;exact decide_eq_false zo))
 have g2':m > 0:=zt g2
 refine gaa ?_
 refine oB 23 rfl (fun g3=>?_) (fun g3=>?_)
 rotate_left
 ·have g3':¬ a<b+m:=zf g3
  refine gaa ?_
  exact retRet rfl (zra rfl) (bool_eq (by rw[hI];symm;exact decide_eq_false zo))
 have g3':a<b+m:=zt g3
 refine gaa ?_
 exact retRet rfl (zra rfl) (bool_eq (by
  rw[hI,Bool.eq_iff_iff,decide_eq_true_iff,decide_eq_true_iff]
  omega))
theorem arrays_spec (vars:List Nm) (arrays:List (Nm×Int)) (fs:List FnD) (o:Org) (hl:arrays.length≤2000000) (hp:∀ a∈arrays,0<a.2) (h0:0≤o.arrays) (h1:o.arrays+(arrays.map (·.2)).sum≤262144):LCalls (KC B0 w0) 27 [Chk.encPrG vars arrays fs,orgLV o] [] (Ret (.tuple [.list ((symA o.arrays arrays).map symLV),int .i64 0])):=by
 have hal:(arrays.map Chk.encArG).length=arrays.length:=zLm _
 have hml:(arrays.map (·.2)).length=arrays.length:=zLm _
 have hps:∀ n∈arrays.map (·.2),0<n:=fun n hn=>by
  obtain ⟨a,ha,rfl⟩:=List.mem_map.1 hn
  exact hp a ha
 unfold Chk.encPrG orgLV
 refine cI Tryz.func27 rfl (n:=50) rfl rfl rfl ?_
 refine gag ?_
 refine oS (S.box rfl fun b2=>?_) rfl
 refine oS (S.box rfl fun b3=>?_) rfl
 refine gac ?_
 refine oL (fun kk ls H'=>∃ (i:Nat) (v:LV),i≤arrays.length∧kk=arrays.length-i∧ls=[(6,v),(7,int .i64 (o.arrays+((arrays.map (·.2)).take i).sum)),(13,.list (arrays.map Chk.encArG)),(14,int .i64 arrays.length),(15,int .i64 (i:Nat))]∧GL.Acc 2 v ((symA o.arrays (arrays.take i)).map symLV) H' [])
  ⟨_,_,_,⟨0,nilSlice,Nat.zero_le _,rfl,rfl,Acc.nil⟩,⟨rfl,int_eq (by simp),rfl,int_eq zo,rfl,trivial⟩,HSub.nil _⟩ ?_
 rintro kk ls H' ⟨i,v,hi,rfl,rfl,hacc⟩ j hj
 have hsum:=sum_take_le (arrays.map (·.2)) i hps
 refine gal ?_
 refine oC rfl (fun hc=>?_) (fun hc=>?_)
 ·have hlt:i<arrays.length:=by have:=zt hc;omega
  have hpi:=hp _ (List.getElem_mem hlt)
  have hst:=sum_take (l:=arrays.map (·.2)) (i:=i) zo
  rw[List.getElem_map] at hst
  have hsum2:=sum_take_le (arrays.map (·.2)) (i+1) hps
  have hlen:((symA o.arrays (arrays.take i)).map symLV).length=i:=by
   rw[zLm,symA_len,List.length_take]
   omega
  generalize hsi:((arrays.map (·.2)).take i).sum=si at hsum hst
  have hsy:=symA_take hlt o.arrays
  rw[hsi] at hsy
  refine gam ?_
  refine oP (xR (el':=Chk.encArG arrays[i]) (cs:=[_,_]) rfl rfl zo (map_get _ _ _ hlt) rfl rfl) rfl ?_
  refine gad ?_
  refine oS (sA fun b9=>?_) rfl
  refine gac ?_
  refine oB 21 rfl (fun h=>?_) (fun _=>?_)
  ·have:=zt h;omega
  refine gad ?_
  refine oB 25 rfl (fun h=>?_) (fun _=>?_)
  ·have:=zt h;omega
  refine gad ?_
  refine oB 30 rfl (fun h=>?_) (fun _=>?_)
  ·have:=zt h;omega
  refine gad ?_
  refine oC rfl (fun h=>?_) (fun _=>?_)
  ·have:=zt h;omega
  refine gam ?_
  refine oP (pM (lv:=v) rfl) rfl ?_
  refine gad ?_
  refine oS (sL [_] rfl (eC rfl rfl eN) rfl rfl rfl ?_) rfl
  refine oS (S.acc1 rfl hacc rfl (by simp;rfl) rfl (by rw[hlen];simp;omega) fun v' H2 hacc'=>?_) rfl
  refine oP (pA (lv:=v') rfl) rfl ?_
  refine gab ?_
  exact ⟨_,_,_,by omega,⟨i+1,v',by omega,rfl,rfl,by rw[hsy,zMa];exact hacc'⟩,⟨rfl,int_eq (by rw[hst];omega),rfl,rfl,int_eq zo,trivial⟩,zhD zhr,hj⟩
 ·have hi':i=arrays.length:=by have:=zf hc;omega
  subst hi'
  rw[List.take_length] at hacc
  refine LCode.sub (d:=6) (v:=v) rfl hacc.sub ?_
  refine LCode.weak zhn ?_
  refine gac ?_
  exact retRet hj (rC (rT (v:=.list _) rfl zsr) (zra rfl)) rfl
theorem fits_spec (vars:List Nm) (arrays:List (Nm×Int)) (fs:List FnD) (o:Org) (hv6:vars.length≤2000000) (hf6:fs.length≤2000000) (hl:arrays.length≤2000000) (hsm:∀ f∈fs,SmF f) (hn:∀ f∈fs,f.name.length≤1000∧∀ x∈f.params++f.locals,x.length≤1000)
  (hp:∀ a∈arrays,0<a.2) (ht:(arrays.map (·.2)).sum≤150000) (hsc:(scalarsP vars fs).length≤8000) (o1:I64 o.code) (o2:I64 o.scalars) (o3:I64 o.arrays) :
  LCalls (KC B0 w0) 25 [Chk.encPrG vars arrays fs,orgLV o] [] (Ret (bool (fitsP vars arrays fs o))):=by
 have hal:(arrays.map Chk.encArG).length=arrays.length:=zLm _
 have hml:(arrays.map (·.2)).length=arrays.length:=zLm _
 have hps:∀ n∈arrays.map (·.2),0<n:=fun n hn=>by
  obtain ⟨a,ha,rfl⟩:=List.mem_map.1 hn
  exact hp a ha
 have hscl:((scalarsP vars fs).map str).length=(scalarsP vars fs).length:=zLm _
 have hS:=Chk.scalars_specG (B0:=B0) (w0:=w0) (vars:=vars) (fs:=fs) (.list (arrays.map Chk.encArG)) hv6 hf6 hsm hn
 rw[fits_go]
 unfold Chk.encPrG orgLV
 refine cI Tryz.func25 rfl (n:=63) rfl rfl rfl ?_
 refine gag ?_
 refine oS (S.box rfl fun b2=>?_) rfl
 refine oS (S.box rfl fun b3=>?_) rfl
 refine gac ?_
 refine oL (fun kk ls H'=>∃ (i:Nat),i≤arrays.length∧kk=arrays.length-i∧ls=[(2,ptr b2 0),(3,ptr b3 0),(5,int .i64 (((arrays.map (·.2)).take i).sum)),(14,.list (arrays.map Chk.encArG)),(15,int .i64 arrays.length),(16,int .i64 (i:Nat))]∧H'=[(b3,.cells 28 [int .i64 o.code,int .i64 o.scalars,int .i64 o.arrays]),(b2,.cells 26 [.list (vars.map str),.list (arrays.map Chk.encArG),.list (fs.map encFn)])])
  ⟨_,_,_,⟨0,Nat.zero_le _,rfl,rfl,rfl⟩,⟨rfl,rfl,rfl,rfl,int_eq zo,rfl,trivial⟩,zhR _⟩ ?_
 rintro kk ls H' ⟨i,hi,rfl,rfl,rfl⟩ j hj
 have hsum:=sum_take_le (arrays.map (·.2)) i hps
 refine gal ?_
 refine oC rfl (fun hc=>?_) (fun hc=>?_)
 ·have hlt:i<arrays.length:=by have:=zt hc;omega
  have hpi:=hp _ (List.getElem_mem hlt)
  have hst:=sum_take (l:=arrays.map (·.2)) (i:=i) zo
  rw[List.getElem_map] at hst
  have hsum2:=sum_take_le (arrays.map (·.2)) (i+1) hps
  generalize hsi:((arrays.map (·.2)).take i).sum=si at hsum hst
  refine gam ?_
  refine oP (xR (el':=Chk.encArG arrays[i]) (cs:=[_,_]) rfl rfl zo (map_get _ _ _ hlt) rfl rfl) rfl ?_
  refine gad ?_
  refine oS (sA fun b7=>?_) rfl
  refine gac ?_
  exact ⟨_,_,_,by omega,⟨i+1,by omega,rfl,rfl,rfl⟩,⟨rfl,rfl,int_eq (by rw[hst]),rfl,rfl,int_eq zo,trivial⟩,zhD zhr,hj⟩
 have hi':i=arrays.length:=by have:=zf hc;omega
 subst hi'
 rw[←hml,List.take_length] at hsum ⊢
 generalize (arrays.map (·.2)).sum=total at hsum ht ⊢
 generalize (scalarsP vars fs).length=ns at hsc hscl ⊢
 refine gaa ?_
 refine LCode.draw (m:=16) rfl [(b3,.cells 28 [int .i64 o.code,int .i64 o.scalars,int .i64 o.arrays]),(b2,.cells 26 [.list (vars.map str),.list (arrays.map Chk.encArG),.list (fs.map encFn)])] ?_
 refine aT 0 rfl rfl (pF rfl) ?_
 refine aT 1 rfl rfl (pL (c:=.atom _) rfl zm0 rfl) ?_
 refine aT 2 rfl rfl (Pure.ldHAgg (cs':=[_,_,_]) rfl zm1 rfl rfl) ?_
 refine aT 7 rfl rfl (pF rfl) ?_
 refine aT 8 rfl rfl (pL (c:=.atom _) rfl zm0 rfl) ?_
 refine aT 9 rfl rfl (Pure.bld _ (cs:=[_,_]) rfl) ?_
 refine aT 10 rfl rfl (pF rfl) ?_
 refine aT 11 rfl rfl (pL (c:=.atom _) rfl zm0 rfl) ?_
 refine aT 12 rfl rfl (pM (lv:=.atom _) rfl) ?_
 refine aT 13 rfl rfl (Pure.bld _ (cs:=[_,_]) rfl) ?_
 refine LAny.late ?_ zhr
 refine lO 3 (lS (H1:=[]) rfl (.inl rfl) rfl zpr zhr (sF [_] rfl hS ?_))
 refine lO 4 (lH rfl rfl (Pure.llen rfl) ?_)
 refine lO 5 (lH rfl rfl (Pure.add rfl rfl zo) ?_)
 refine lO 6 (lH rfl rfl (Pure.bld _ (cs:=[_,_]) rfl) ?_)
 refine lO 14 (lS (H1:=[]) rfl (.inl rfl) rfl zpr zhr (sL (es:=[LV.agg [int .i64 o.scalars,int .i64 (3+(((scalarsP vars fs).map str).length:Int))],.agg [int .i64 o.code,int .i64 40000],.agg [int .i64 o.arrays,int .i64 total]]) [_,_,_] rfl (eC rfl rfl (eC rfl rfl (eC rfl rfl eN))) rfl rfl rfl ?_))
 refine lO 15 (lH rfl rfl (pA (lv:=.list _) rfl) ?_)
 refine lD zk ?_
 have e3:(3:Int)+(((scalarsP vars fs).map str).length:Int)=3+(ns:Nat):=by rw[hscl]
 rw[e3]
 generalize hrs:[(o.scalars,(3:Int)+(ns:Nat)),(o.code,(40000:Int)),(o.arrays,total)]=rs
 have hrl:([LV.agg [int .i64 o.scalars,int .i64 (3+(ns:Int))],.agg [int .i64 o.code,int .i64 40000],.agg [int .i64 o.arrays,int .i64 total]]:List LV)=rs.map regLV:=by rw[←hrs];try rfl
 rw[hrl]
 have hlr:rs.length=3:=by rw[←hrs];try rfl
 have hsz:∀ r∈rs,SmI r.2∧0≤r.2:=by
  rw[←hrs]
  intro r hr
  simp only[zMi,List.not_mem_nil,or_false] at hr
  unfold SmI
  rcases hr with rfl|rfl|rfl <;> simp only <;> omega
 have hrm:(rs.map regLV).length=rs.length:=zLm _
 clear hrl hrs
 generalize hR:goR [] rs=R
 refine qN ?_
 refine LCode.weak zhn ?_
 refine gac ?_
 refine oL (fun kk ls H'=>∃ (i:Nat),i≤rs.length∧kk=rs.length-i∧ls=[(8,.list (rs.map regLV)),(40,.list (rs.map regLV)),(41,int .i64 rs.length),(42,int .i64 (i:Nat))]∧H'=[]∧goR (rs.take i) (rs.drop i)=R∧∀ r∈rs.take i,insideR r=true)
  ⟨_,_,_,⟨0,Nat.zero_le _,rfl,rfl,rfl,hR,fun r hr=>by cases hr⟩,⟨rfl,rfl,int_eq zo,rfl,trivial⟩,zhR _⟩ ?_
 rintro kk ls H' ⟨i,hi,rfl,rfl,rfl,hgo,hins⟩ j1 hj1
 refine gal ?_
 refine oC rfl (fun hc=>?_) (fun hc=>?_)
 rotate_left
 ·have hi':i=rs.length:=by have:=zf hc;omega
  subst hi'
  rw[List.drop_length,goR] at hgo
  refine gab ?_
  exact retRet (hj1.trans hj) (zra rfl) (bool_eq hgo)
 have hlt:i<rs.length:=by have:=zt hc;omega
 have hsi:=hsz _ (List.getElem_mem hlt)
 rw[List.drop_eq_getElem_cons hlt,goR,←List.take_succ_eq_append_getElem hlt] at hgo
 generalize hgr:rs[i]=r at hgo hsi
 refine gab ?_
 refine oP (xR (el':=regLV r) (cs:=[_,_]) rfl rfl zo (by rw[←hgr];exact map_get _ _ _ hlt) rfl rfl) rfl ?_
 refine gad ?_
 refine oS (sA fun b10=>?_) rfl
 refine gac ?_
 refine oS (sF [_] rfl (inside_spec r hsi.1) ?_) rfl
 refine gaa ?_
 refine oC rfl (fun h=>?_) (fun h=>?_)
 ·have h':insideR r=false:=by simpa using h
  rw[h',Bool.false_and,Bool.false_and] at hgo
  refine gab ?_
  exact retRet (hj1.trans hj) (zra rfl) (bool_eq hgo)
 have h':insideR r=true:=by simpa using h
 rw[h',Bool.true_and] at hgo
 have inb:∀ r:Int×Int,SmI r.2∧0≤r.2→insideR r=true→SmI r.1:=fun r h1 h2=>by
  have:0≤r.1∧r.1≤262144-r.2:=zt h2
  unfold SmI at h1 ⊢
  omega
 have hri:=inb r hsi h'
 have htl:(rs.take i).length=i:=by rw[List.length_take];omega
 have htm:((rs.take i).map regLV).length=i:=by rw[zLm,htl]
 have hts:((rs.map regLV).take i)=(rs.take i).map regLV:=List.map_take.symm
 refine gab ?_
 refine oP (Pure.lsliceE (i:=0) (j:=(i:Nat)) (es:=rs.map regLV) (ms:=(rs.take i).map regLV) rfl rfl ⟨_,rfl⟩ zo zo zo (fun v hv=>by obtain ⟨r,_,rfl⟩:=List.mem_map.1 hv;rfl) (by rw[Int.toNat_natCast,←hts];try rfl)) rfl ?_
 refine gad ?_
 refine oL (fun kk ls H'=>∃ (x:Nat),x≤i∧kk=i-x∧ls=[(8,.list (rs.map regLV)),(10,ptr b10 0),(40,.list (rs.map regLV)),(41,int .i64 rs.length),(42,int .i64 (i:Nat)),(52,.list ((rs.take i).map regLV)),(53,int .i64 i),(54,int .i64 (x:Nat))]∧H'=[(b10,.cells 115 [int .i64 r.1,int .i64 r.2])]∧((((rs.take i).drop x).all fun s=>!meetsR r s) && goR (rs.take (i+1)) (rs.drop (i+1)))=R)
  ⟨_,_,_,⟨0,Nat.zero_le _,rfl,rfl,rfl,by rw[List.drop_zero];exact hgo⟩,⟨rfl,rfl,rfl,rfl,rfl,rfl,int_eq zo,rfl,trivial⟩,zhR _⟩ ?_
 rintro kk ls H' ⟨x,hx,rfl,rfl,rfl,hall⟩ j2 hj2
 refine gal ?_
 refine oC rfl (fun hc=>?_) (fun hc=>?_)
 ·have hlx:x<(rs.take i).length:=by have:=zt hc;omega
  have hm1:=List.getElem_mem hlx
  have hss:=hsz _ (List.mem_of_mem_take hm1)
  have hsn:=inb _ hss (hins _ hm1)
  rw[List.drop_eq_getElem_cons hlx,List.all_cons] at hall
  generalize hgs:(rs.take i)[x]=s at hall hss hsn
  refine gam ?_
  refine oP (xR (el':=regLV s) (cs:=[_,_]) rfl rfl zo (by rw[←hgs];exact map_get _ _ _ hlx) rfl rfl) rfl ?_
  refine gad ?_
  refine oS (sA fun b12=>?_) rfl
  refine gac ?_
  refine oS (sF [_,_] rfl (meets_spec r s hri hsi.1 hsn hss.1) ?_) rfl
  refine gap ?_
  refine oC rfl (fun h=>?_) (fun h=>?_)
  ·have h2:meetsR r s=true:=h
   rw[h2] at hall
   refine gab ?_
   exact retRet (hj2.trans (hj1.trans hj)) (zra rfl) (bool_eq (by rw[←hall];try rfl))
  ·have h2:meetsR r s=false:=h
   rw[h2] at hall
   refine gab ?_
   exact ⟨_,_,_,by omega,⟨x+1,by omega,rfl,rfl,rfl,hall⟩,⟨rfl,rfl,rfl,rfl,rfl,rfl,rfl,int_eq zo,trivial⟩,zhD zhr,hj2⟩
 ·have hx':x=i:=by have:=zf hc;omega
  subst hx'
  rw[List.drop_eq_nil_of_le (by rw[htl];exact zNr _)] at hall
  refine gab ?_
  exact ⟨_,_,_,by omega,⟨x+1,by omega,rfl,rfl,rfl,hall,fun q hq=>by
   rw[List.take_succ_eq_append_getElem hlt,hgr] at hq
   rcases List.mem_append.1 hq with hq|hq
   ·exact hins q hq
   ·rw[List.mem_singleton.1 hq];exact h'⟩,⟨rfl,rfl,rfl,int_eq zo,trivial⟩,HSub.nil _,hj2.trans hj1⟩
end
end Go.Proofs.YtpbbgkoalnonoaaGreatDoor.Cmp
namespace Go.Proofs.YtpbbgkoalnonoaaGreatDoor.Cmp
open Go.GL Go.RowKit Go.Stele
open Go.Lib (decDigits itoa join)
def scKV (S:Int):Nat→List Nm→KV
 |_,[]=>[]
 |i,x::r=>(x,int .i64 (S+3+(i:Nat)))::scKV S (i+1) r
theorem scKV_app (S:Int):∀ (l m:List Nm) (i:Nat),scKV S i (l++m)=scKV S i l++scKV S (i+l.length) m
 |[],m,i=>by simp[scKV]
 |x::r,m,i=>by
  rw[List.cons_append,scKV,scKV_app S r m,scKV,List.cons_append,zLc,Nat.add_right_comm,Nat.add_assoc]
theorem scKV_keys (S:Int):∀ (l:List Nm) (i:Nat),(scKV S i l).map (·.1)=l
 |[],i=>rfl
 |x::r,i=>by rw[scKV,zMc,scKV_keys S r]
theorem scKV_take {S:Int} {l:List Nm} {i:Nat} (h:i<l.length) (hn:l.Nodup):GL.kvPut (scKV S 0 (l.take i)) l[i] (int .i64 (S+3+(i:Nat)))=scKV S 0 (l.take (i+1)):=by
 rw[List.take_succ_eq_append_getElem h,scKV_app,List.length_take,Nat.zero_add,Nat.min_eq_left zo]
 refine kv_new ?_
 rw[scKV_keys]
 intro hm
 rw[←List.take_append_drop i l,List.drop_eq_getElem_cons h,List.nodup_append] at hn
 exact hn.2.2 _ hm _ zMs rfl
theorem scKV_get (S:Int) (k:Nm):∀ (l:List Nm) (i:Nat),GL.kvGet (scKV S i l) k=if k∈l then some (int .i64 (S+3+((i+l.idxOf k:Nat):Int))) else none
 |[],i=>rfl
 |x::r,i=>by
  rw[scKV,GL.kvGet]
  by_cases h:x=k
  ·rw[if_pos h,if_pos (by rw[h];exact List.mem_cons_self ..),List.idxOf_cons,h]
   simp
  ·rw[if_neg h,scKV_get S k r (i+1)]
   by_cases hm:k∈r
   ·rw[if_pos hm,if_pos (zMo _ hm),List.idxOf_cons,cond_eq_ite,if_neg (by simpa using h)]
    congr 4
    omega
   ·rw[if_neg hm,if_neg (by rw[zMi];exact fun g=>g.elim (fun e=>h e.symm) hm)]
def arKV (l:List (Nm×Int)):KV:=l.map fun p=>(p.1,int .i64 p.2)
theorem arKV_take {l:List (Nm×Int)} {i:Nat} (h:i<l.length) (hn:(l.map (·.1)).Nodup):GL.kvPut (arKV (l.take i)) l[i].1 (int .i64 l[i].2)=arKV (l.take (i+1)):=by
 unfold arKV
 rw[List.take_succ_eq_append_getElem h,zMa]
 refine kv_new ?_
 rw[List.map_map]
 intro hm
 have e1:l.map (·.1)=(l.take i).map (·.1)++l[i].1::(l.drop (i+1)).map (·.1):=by
  conv=>lhs;rw[←List.take_append_drop i l,List.drop_eq_getElem_cons h]
  rw[zMa,zMc]
 rw[e1,List.nodup_append] at hn
 exact hn.2.2 _ hm _ zMs rfl
theorem arKV_get (name:Nm):∀ (l:List (Nm×Int)) (a:Int),(GL.kvGet (arKV (symA a l)) name).getD (int .i64 0)=int .i64 (arrA a l name)
 |[],a=>rfl
 |(x,n)::r,a=>by
  rw[symA,arrA]
  show (GL.kvGet ((x,int .i64 a)::arKV (symA (a+n) r)) name).getD (int .i64 0)=_
  rw[GL.kvGet]
  simp only
  by_cases h:x=name
  ·rw[if_pos h,if_pos h]
   try rfl
  ·rw[if_neg h,if_neg h]
   exact arKV_get name r (a+n)
def cmpLV:Except Int Wd→LV
 |.error e=>.tuple [str [],int .i64 e]
 |.ok t=>.tuple [str t,int .i64 0]
theorem tb_ok {P:Pr} {o:Org} (hF:FitN P o) (own:Nm) (ho:own.length≤1000000) (b1 b2 b3 g1 g2:Nat):TBok ⟨b1,b2,b3,scKV o.scalars 0 (scalarsP P.vars P.funcs),arKV (symA o.arrays (arrsP P)),g1,g2,o.scalars.toNat⟩ (ccF P.vars (arrsP P) P.funcs o own) own:=by
 have s0:=hF.s0
 have s1:=hF.s1
 have a0:=hF.a0
 have a1:=hF.a1
 have hp:∀ p∈arrsP P,0≤p.2:=fun p hp=>by
  obtain ⟨a,_,rfl⟩:=List.mem_map.1 hp
  exact Int.natCast_nonneg _
 have hpl:∀ k,0≤placeA (scalarsP P.vars P.funcs) o.scalars k∧placeA (scalarsP P.vars P.funcs) o.scalars k≤262144∧(k∈scalarsP P.vars P.funcs→int .i64 (o.scalars+3+((0+(scalarsP P.vars P.funcs).idxOf k:Nat):Int))=int .i64 (((placeA (scalarsP P.vars P.funcs) o.scalars k).toNat:Nat):Int)):=fun k=>by
  unfold placeA
  by_cases h:k∈scalarsP P.vars P.funcs
  ·have:=List.idxOf_lt_length_of_mem h
   rw[if_pos h]
   exact ⟨by omega,by omega,fun _=>int_eq zo⟩
  ·rw[if_neg h]
   exact ⟨by omega,by omega,fun h2=>absurd h2 h⟩
 refine ⟨fun name=>?_,fun name=>?_,?_,?_,?_,?_,ho⟩
 ·refine ⟨(placeA (scalarsP P.vars P.funcs) o.scalars (keyC (scalarsP P.vars P.funcs) own name)).toNat,?_,?_,?_⟩
  ·have:=hpl (keyC (scalarsP P.vars P.funcs) own name);omega
  ·exact itoa_pos (hpl _).1
  ·show (∃ v,GL.kvGet (scKV o.scalars 0 (scalarsP P.vars P.funcs)) (own++[46]++name)=some v∧_)∨(GL.kvGet (scKV o.scalars 0 (scalarsP P.vars P.funcs)) (own++[46]++name)=none∧(GL.kvGet (scKV o.scalars 0 (scalarsP P.vars P.funcs)) name).getD _=_)
   rw[scKV_get,scKV_get]
   unfold keyC
   by_cases h:own++[46]++name∈scalarsP P.vars P.funcs
   ·left
    rw[if_pos h,if_pos h]
    exact ⟨_,rfl,(hpl _).2.2 h⟩
   ·right
    rw[if_neg h,if_neg h]
    refine ⟨rfl,?_⟩
    by_cases h2:name∈scalarsP P.vars P.funcs
    ·rw[if_pos h2]
     exact (hpl _).2.2 h2
    ·rw[if_neg h2]
     unfold placeA
     rw[if_neg h2]
     try rfl
 ·have h1:=arrA_pos (arrsP P) o.arrays a0 hp name
  have h2:=arrA_le (arrsP P) o.arrays a0 hp name
  have h3:((arrsP P).map (·.2)).sum=((totA P.arrays:Nat):Int):=totA_int P.arrays
  rw[h3] at h2
  refine ⟨(arrA o.arrays (arrsP P) name).toNat,by omega,itoa_pos h1,?_⟩
  show (GL.kvGet (arKV (symA o.arrays (arrsP P))) name).getD _=_
  rw[arKV_get]
  exact int_eq zo
 ·exact itoa_pos s0
 ·show itoa (o.scalars+1)=_
  rw[itoa_pos zo]
  congr 1
  show _=o.scalars.toNat+1
  omega
 ·show itoa (o.scalars+2)=_
  rw[itoa_pos zo]
  congr 1
  show _=o.scalars.toNat+2
  omega
 ·show o.scalars.toNat≤_
  omega
theorem nm_len {s:Nm} (h:isNm s=true):s.length≤24:=by
 unfold isNm at h
 rw[zBa,zBa,zDe] at h
 exact h.1.1
theorem env_ok {P:Pr} (hv:Valid P) {f:FnD} (hf:f∈P.funcs) (hown:∀ x∈f.params++f.locals,x.length≤24) {kn:List FSum} (hk:Known P.funcs kn):EnvOk (envF P.vars (P.arrays.map (·.name)) (P.funcs.map (·.name)) kn f):=by
 have hfr:=fresh_zero _ _ hv.names
 refine ⟨fun s hs=>?_,fun k hk'=>?_⟩
 ·unfold scalarE at hs
  split at hs
  ·rename_i h
   rcases h with h|h
   ·exact nm_len (hfr.2 s (List.mem_append_left _ (List.mem_append_left _ h))).2
   ·exact hown s h
  ·split at hs <;> cases hs
 ·obtain ⟨g,g1,g2,_⟩:=hk k hk'
  rw[←g2]
  exact nm_len (hfr.2 _ (List.mem_append_right _ (List.mem_map_of_mem g1))).2
theorem own_short:∀ (vars arrays later:List Nm) (known:List FSum) (fs:List FnD),errFs vars arrays later known fs=0→∀ f∈fs,∀ x∈f.params++f.locals,x.length≤24
 |_,_,_,_,[],_,f,hf=>(List.not_mem_nil hf).elim
 |vars,arrays,later,known,g::l,h,f,hf=>by
  rw[errFs] at h
  obtain ⟨h1,h2⟩:=orE_zero.1 h
  rcases zMi.1 hf with rfl|hf
  ·unfold errF at h1
   intro x hx
   exact nm_len ((fresh_zero _ _ (orE_zero.1 h1).1).2 x hx).2
  ·exact own_short vars arrays later _ l h2 f hf
theorem permP5 {t s a b3 b2:Nat×LObj}:[t,b3,s,a,b2].Perm ([t,s,a]++[b3,b2]):=List.Perm.cons _ ((List.Perm.swap _ _ _).trans (List.Perm.cons _ (List.Perm.swap _ _ _)))
attribute [local irreducible] LOps LCode LStep LCalls Go.GL.Pure QThen QBlock RetPost LQ LAny LLate LLateOp LS
section
variable {B0:Nat} {w0:World}
theorem compile_spec (hG:GW B0 w0) (hM:Asm.GM w0) (vars:List Nm) (arrays:List (Nm×Int)) (fs:List FnD) (o:Org) (hv6:vars.length≤2000000) (ha6:arrays.length≤2000000) (har:∀ a∈arrays,I64 a.2) (hnd:ndFs fs≤2000000) (hnum:∀ f∈fs,numSs f.body) (o1:I64 o.code) (o2:I64 o.scalars) (o3:I64 o.arrays) :
  LCalls (KC B0 w0) 11 [Chk.encPrG vars arrays fs,orgLV o] [] (Ret (cmpLV (cmpP vars arrays fs o))):=by
 have hck:=Chk.check_spec (B0:=B0) (w0:=w0) vars arrays fs hv6 ha6 har hnd
 have hf6:=ndFs_len fs
 have hsm:∀ f∈fs,SmF f:=fun f hf=>smF_of (by have:=ndFs_mem hf;omega)
 generalize hC:cmpP vars arrays fs o=R
 unfold cmpP at hC
 have ePr:Chk.encPrG vars arrays fs=.agg [.list (vars.map str),.list (arrays.map Chk.encArG),.list (fs.map encFn)]:=rfl
 have eOr:orgLV o=.agg [int .i64 o.code,int .i64 o.scalars,int .i64 o.arrays]:=rfl
 rw[ePr,eOr]
 refine cI Tryz.func11 rfl (n:=102) rfl rfl rfl ?_
 refine gag ?_
 refine oS (S.box rfl fun b2=>?_) rfl
 refine oS (S.box rfl fun b3=>?_) rfl
 refine gaj ?_
 refine oS (S.callH (H1:=[]) (F:=[_,_]) [_] rfl zpr hck ?_ (by rintro ch H' ⟨_,nm,h⟩;cases h)) rfl
 rintro lv H' ⟨rfl,nm,h⟩
 cases h
 refine gab ?_
 by_cases hc0:checkP vars arrays fs=0
 rotate_left
 ·rw[if_pos hc0] at hC
  subst hC
  refine oC rfl (fun _=>?_) (fun hc=>?_)
  ·refine gab ?_
   exact retRet rfl (rC (zrt rfl) (zra rfl)) rfl
  ·have h2:(!decide (checkP vars arrays fs=0))=false:=hc
   simp at h2
   exact absurd h2 hc0
 refine oC rfl (fun hc=>?_) (fun _=>?_)
 ·have h2:(!decide (checkP vars arrays fs=0))=true:=hc
  simp[hc0] at h2
 rw[if_neg (by simpa using hc0)] at hC
 obtain ⟨ht,hp,hPa,hPc,hV⟩:=check_parts hc0
 have hown:∀ f∈fs,∀ x∈f.params++f.locals,x.length≤24:=by
  have h:=hc0
  unfold checkP at h
  exact own_short _ _ _ _ _ (orE_zero.1 (orE_zero.1 (orE_zero.1 h).2).2).1
 have hfr:=fresh_zero _ _ hV.names
 have hfn:∀ f∈fs,f.name.length≤24:=fun f hf=>nm_len (hfr.2 _ (List.mem_append_right _ (List.mem_map_of_mem hf))).2
 have hn:∀ f∈fs,f.name.length≤1000∧∀ x∈f.params++f.locals,x.length≤1000:=fun f hf=>⟨by have:=hfn f hf;omega,fun x hx=>by have:=hown f hf x hx;omega⟩
 have hsc8:(scalarsP vars fs).length≤8000:=hV.few
 have hft:=fits_spec (B0:=B0) (w0:=w0) vars arrays fs o hv6 zo ha6 hsm hn hp ht hsc8 o1 o2 o3
 rw[ePr,eOr] at hft
 refine gaj ?_
 refine oS (sF [_,_] rfl hft ?_) rfl
 refine gaa ?_
 by_cases hfit:fitsP vars arrays fs o=true
 rotate_left
 ·rw[if_pos (by simpa using hfit)] at hC
  subst hC
  refine oC rfl (fun _=>?_) (fun hc=>?_)
  ·refine gas ?_
   exact retRet rfl (rC (zrt rfl) (zra rfl)) rfl
  ·have h2:(!fitsP vars arrays fs o)=false:=hc
   simp at h2
   exact absurd h2 hfit
 refine oC rfl (fun hc=>?_) (fun _=>?_)
 ·have h2:(!fitsP vars arrays fs o)=true:=hc
  rw[hfit] at h2
  cases h2
 rw[if_neg (by rw[hfit];decide)] at hC
 have hfitP:fitsP (prOf vars arrays fs).vars (arrsP (prOf vars arrays fs)) (prOf vars arrays fs).funcs o=true:=by rw[hPa];exact hfit
 have hF:=fit_of hfitP
 have hS:=Chk.scalars_specG (B0:=B0) (w0:=w0) (vars:=vars) (fs:=fs) (.list (arrays.map Chk.encArG)) hv6 zo hsm hn
 have hT:=hF.s1
 have hS0:=hF.s0
 have hA1:=hF.a1
 have hA0:=hF.a0
 have hkeys:(scalarsP vars fs).Nodup:=hV.keys
 have htot:(arrays.map (·.2)).sum=((totA (prOf vars arrays fs).arrays:Nat):Int):=by
  have:=totA_int (prOf vars arrays fs).arrays
  rw[←this]
  congr 2
  exact hPa.symm
 have hAs:=arrays_spec (B0:=B0) (w0:=w0) vars arrays fs o ha6 hp hA0 (by rw[htot];omega)
 rw[ePr,eOr] at hAs
 have hT2:o.scalars.toNat+3+(scalarsP vars fs).length≤262144:=hT
 refine gab ?_
 refine oS (S.kvNew fun sm=>?_) rfl
 refine oS (S.kvNew fun am=>?_) rfl
 refine gad ?_
 refine oS (S.box rfl fun tb=>?_) rfl
 refine gac ?_
 refine oS (sF [_] rfl hS ?_) rfl
 have hsl:((scalarsP vars fs).map str).length=(scalarsP vars fs).length:=zLm _
 refine gad ?_
 generalize hsl2:scalarsP vars fs=sl at *
 refine oL (fun kk ls H'=>∃ (i g1:Nat),i≤sl.length∧kk=sl.length-i∧ls=[(2,ptr b2 0),(3,ptr b3 0),(8,ptr tb 0),(39,.list (sl.map str)),(40,int .i64 sl.length),(41,int .i64 (i:Nat))]∧H'=[(tb,.cells 64 [nilSlice,int .i64 0,int .i64 o.scalars,.atom (.map (some sm)),.atom (.map (some am)),str []]),(b3,.cells 28 [int .i64 o.code,int .i64 o.scalars,int .i64 o.arrays]),(sm,.map (kvs (scKV o.scalars 0 (sl.take i))) g1),(am,.map (kvs []) 0),(b2,.cells 26 [.list (vars.map str),.list (arrays.map Chk.encArG),.list (fs.map encFn)])])
  ⟨_,_,_,⟨0,0,Nat.zero_le _,rfl,rfl,rfl⟩,⟨rfl,rfl,rfl,rfl,int_eq zo,rfl,trivial⟩,zhP pH (zhP zp2 (zhP zp1 zhr))⟩ ?_
 rintro kk ls H' ⟨i,g1,hi,rfl,rfl,rfl⟩ j hj
 refine gal ?_
 refine oC rfl (fun hc=>?_) (fun hc=>?_)
 ·have hlt:i<sl.length:=by have:=zt hc;omega
  have htk:=scKV_take (S:=o.scalars) hlt hkeys
  refine gab ?_
  refine oP (xR (el':=str sl[i]) (cs:=[str sl[i]]) rfl rfl zo (map_get _ _ _ hlt) rfl rfl) rfl ?_
  refine gaa ?_
  refine LCode.draw (m:=11) rfl [(tb,.cells 64 [nilSlice,int .i64 0,int .i64 o.scalars,.atom (.map (some sm)),.atom (.map (some am)),str []]),(b3,.cells 28 [int .i64 o.code,int .i64 o.scalars,int .i64 o.arrays])] ?_
  refine aT 0 rfl rfl (pM (lv:=.atom _) rfl) ?_
  refine aT 1 rfl rfl (pN rfl) ?_
  refine aT 2 rfl rfl (pF rfl) ?_
  refine aT 3 rfl rfl (pL (c:=.atom _) rfl zm0 rfl) ?_
  refine aT 4 rfl rfl (pM (lv:=.atom _) rfl) ?_
  refine aT 5 rfl rfl (pF rfl) ?_
  refine aT 6 rfl rfl (pL (c:=.atom _) rfl zm1 rfl) ?_
  refine aT 7 rfl rfl (Pure.add rfl rfl zo) ?_
  refine aT 8 rfl rfl (pM (lv:=.atom _) rfl) ?_
  refine aT 9 rfl rfl (Pure.add rfl rfl zo) ?_
  refine LAny.late ?_ hsubP2
  refine lO 10 (lS (H1:=[(sm,.map (kvs (scKV o.scalars 0 (sl.take i))) g1)]) rfl (.inl rfl) rfl (show Pick _ _ _ from pT zp1) hsubP2 (S.kvSet (k:=sl[i]) (lv:=int .i64 (o.scalars+3+(i:Nat))) rfl rfl rfl pH fun g1'=>?_))
  rw[htk]
  refine lD zk ?_
  refine gaq ?_
  exact ⟨_,_,_,by omega,⟨i+1,g1',by omega,rfl,rfl,rfl⟩,⟨rfl,rfl,rfl,rfl,rfl,int_eq zo,trivial⟩,zhP zp1 (zhP zp1 zhr),hj⟩
 have hi':i=sl.length:=by have:=zf hc;omega
 subst hi'
 rw[List.take_length]
 have hyl:=symA_len arrays o.arrays
 have hyn:((symA o.arrays arrays).map (·.1)).Nodup:=by
  rw[symA_names]
  have h1:=(List.nodup_append.1 (List.nodup_append.1 hfr.1).1).2.1
  have e1:(prOf vars arrays fs).arrays.map (·.name)=arrays.map (·.1):=by
   unfold prOf
   rw[List.map_map]
   try rfl
  rw[e1] at h1
  exact h1
 have hym:((symA o.arrays arrays).map symLV).length=(symA o.arrays arrays).length:=zLm _
 refine gac ?_
 refine oS (sF [_,_] rfl hAs ?_) rfl
 refine gac ?_
 generalize hyy:symA o.arrays arrays=ys at *
 refine oC rfl (fun h=>by cases h) (fun _=>?_)
 refine gac ?_
 refine oL (fun kk ls H'=>∃ (i g2:Nat),i≤ys.length∧kk=ys.length-i∧ls=[(2,ptr b2 0),(3,ptr b3 0),(8,ptr tb 0),(66,.list (ys.map symLV)),(67,int .i64 ys.length),(68,int .i64 (i:Nat))]∧H'=[(tb,.cells 64 [nilSlice,int .i64 0,int .i64 o.scalars,.atom (.map (some sm)),.atom (.map (some am)),str []]),(b3,.cells 28 [int .i64 o.code,int .i64 o.scalars,int .i64 o.arrays]),(sm,.map (kvs (scKV o.scalars 0 sl)) g1),(am,.map (kvs (arKV (ys.take i))) g2),(b2,.cells 26 [.list (vars.map str),.list (arrays.map Chk.encArG),.list (fs.map encFn)])])
  ⟨_,_,_,⟨0,0,Nat.zero_le _,rfl,rfl,rfl⟩,⟨rfl,rfl,rfl,rfl,int_eq zo,rfl,trivial⟩,zhR _⟩ ?_
 rintro kk ls H' ⟨i,g2,hi,rfl,rfl,rfl⟩ j2 hj2
 refine gal ?_
 refine oC rfl (fun hc=>?_) (fun hc=>?_)
 ·have hlt:i<ys.length:=by have:=zt hc;omega
  have htk:=arKV_take hlt hyn
  refine gam ?_
  refine oP (xR (el':=symLV ys[i]) (cs:=[_,_]) rfl rfl zo (map_get _ _ _ hlt) rfl rfl) rfl ?_
  refine gad ?_
  refine oS (sA fun b14=>?_) rfl
  refine gad ?_
  refine LCode.draw (m:=9) rfl [(b14,.cells 70 [str ys[i].1,int .i64 ys[i].2]),(tb,.cells 64 [nilSlice,int .i64 0,int .i64 o.scalars,.atom (.map (some sm)),.atom (.map (some am)),str []])] ?_
  refine aT 0 rfl rfl (pM (lv:=.atom _) rfl) ?_
  refine aT 1 rfl rfl (pN rfl) ?_
  refine aT 2 rfl rfl (pF rfl) ?_
  refine aT 3 rfl rfl (pL (c:=.atom _) rfl zm1 rfl) ?_
  refine aT 4 rfl rfl (pF rfl) ?_
  refine aT 5 rfl rfl (pL (c:=.atom _) rfl zm0 rfl) ?_
  refine aT 6 rfl rfl (pF rfl) ?_
  refine aT 7 rfl rfl (pL (c:=.atom _) rfl zm0 rfl) ?_
  refine LAny.late ?_ hsubP2
  refine lO 8 (lS (H1:=[(am,.map (kvs (arKV (ys.take i))) g2)]) rfl (.inl rfl) rfl (show Pick _ _ _ from pT zp3) hsubP2 (S.kvSet (k:=ys[i].1) (lv:=int .i64 ys[i].2) rfl rfl rfl pH fun g2'=>?_))
  rw[htk]
  refine lD zk ?_
  refine gaq ?_
  exact ⟨_,_,_,by omega,⟨i+1,g2',by omega,rfl,rfl,rfl⟩,⟨rfl,rfl,rfl,rfl,rfl,int_eq zo,trivial⟩,zhP zp2 (zhP zp2 (zhP zp2 (zhP pH (zhD zhr)))),hj2⟩
 have hi':i=ys.length:=by have:=zf hc;omega
 subst hi'
 rw[List.take_length]
 have htb:=fun own ho=>tb_ok (P:=prOf vars arrays fs) hF own ho tb sm am g1 g2
 rw[hPa] at htb
 have hW:=prW_tot hPc hnum hfitP hnd
 have hjt:=join_tot (wordsC (prOf vars arrays fs) o)
 have hwc:wordsC (prOf vars arrays fs) o=prW vars arrays fs o:=by
  unfold wordsC
  rw[hPa]
  try rfl
 rw[hwc] at hW hjt
 have hcc:ccF (prOf vars arrays fs).vars arrays (prOf vars arrays fs).funcs o=ccF vars arrays fs o:=rfl
 rw[hPa,hcc] at hW
 have hwl:=tot_len (prW vars arrays fs o)
 have hnf:ndFs (prOf vars arrays fs).funcs=ndFs fs:=rfl
 rw[hnf] at hW
 have hpw:prW vars arrays fs o=[[38,102,95,109,97,105,110],[58],decDigits o.scalars.toNat,[33],[36]]++(fnWs (ccF vars arrays fs o) 0 fs).1:=by
  unfold prW
  rw[itoa_pos hS0]
 have hpl:(prW vars arrays fs o).length=5+(fnWs (ccF vars arrays fs o) 0 fs).1.length:=by
  rw[hpw,zLa]
  try rfl
 have hTr:TrH ⟨tb,sm,am,scKV o.scalars 0 sl,arKV ys,g1,g2,o.scalars.toNat⟩ [] [] 0 [(tb,.cells 64 [nilSlice,int .i64 0,int .i64 o.scalars,.atom (.map (some sm)),.atom (.map (some am)),str []]),(sm,.map (kvs (scKV o.scalars 0 sl)) g1),(am,.map (kvs (arKV ys)) g2)]:=⟨nilSlice,[],Acc.nil,by
  simp only
  rw[Int.toNat_of_nonneg hS0]
  rfl⟩
 have hpg:=program_spec (B0:=B0) (w0:=w0) hG (k:=⟨tb,sm,am,scKV o.scalars 0 sl,arKV ys,g1,g2,o.scalars.toNat⟩) (cc:=ccF vars arrays fs o) (by show o.scalars.toNat≤_;omega) vars arrays fs hnd (fun f hf=>by
  obtain ⟨kn,k1,k2⟩:=hV.bodies f hf
  refine ⟨?_,hfn f hf,fun p hp=>by have:=hown f hf p (List.mem_append_left _ hp);omega,hnum f hf,_,env_ok hV hf (hown f hf) k2,k1⟩
  have:=htb f.name (by have:=hfn f hf;omega)
  rw[←hsl2,←hyy]
  exact this) (own0:=[]) (c0:=ccF vars arrays fs o []) (by
  have:=htb [] zDd
  rw[←hsl2,←hyy]
  exact this) _ hTr zo
 rw[ePr] at hpg
 refine gac ?_
 refine oS (S.callT (F:=[_,_]) [_,_] rfl permP5 hpg fun H2 h2=>?_) rfl
 obtain ⟨own,n,h2⟩:=h2
 rw[←hpw] at h2
 generalize prW vars arrays fs o=W at *
 obtain ⟨v,Hv,hacc,rfl⟩:=h2
 have j0:=Asm.joinS_spec (B0:=B0) (w0:=w0) [32] W zo zo
 have hasm:=Asm.assemble_spec (B0:=B0) (w0:=w0) hG hM (join W [32]) o.code zo
 refine gab ?_
 refine oP (pL (c:=v) rfl zm2 rfl) rfl ?_
 refine LOps.sub 87 rfl hacc.sub ?_
 refine oS (sF [_,_] rfl j0 ?_) rfl
 refine gab ?_
 cases hx:asmP (join W [32]) o.code with
 |error e=>
  rw[hx] at hasm hC
  simp only at hC
  subst hC
  refine oS (sF [_,_] rfl hasm ?_) rfl
  unfold Asm.asmLV
  refine gac ?_
  have he:¬ (e.2:Int)=0:=by
   have h3:=hF.c1
   have h4:=hF.c0
   have:=asm_vals zo hx
   omega
  refine oC rfl (fun _=>?_) (fun hc=>?_)
  ·refine gab ?_
   exact retRet (hj2.trans hj) (rC (zrt rfl) (zra rfl)) rfl
  ·have h2:(!decide ((e.2:Int)=0))=false:=hc
   simp at h2
   omega
 |ok x=>
  rw[hx] at hasm hC
  simp only at hC
  subst hC
  refine oS (sF [_,_] rfl hasm ?_) rfl
  unfold Asm.asmLV
  refine gac ?_
  refine oC rfl (fun hc=>by cases hc) (fun _=>?_)
  refine gab ?_
  exact retRet (hj2.trans hj) (rC (zrt rfl) (zra rfl)) rfl
end
end Go.Proofs.YtpbbgkoalnonoaaGreatDoor.Cmp
namespace Go.Proofs.YtpbbgkoalnonoaaGreatDoor.Cmp
open Go.GL Go.RowKit Go.Stele
open Go.Lib (decDigits itoa join)
def bldR (r:Pr×Int×Int) (o:Org):Wd×Int×Int:=if r.2.2≠0 then ([],r.2.1,r.2.2) else match buildC r.1.vars (arrsP r.1) r.1.funcs o with
 |.error e=>([],0,e)
 |.ok x=>(x,0,0)
def bldLV (b:Wd×Int×Int):LV:=.tuple [str b.1,int .i64 b.2.1,int .i64 b.2.2]
theorem parse_size (s:List UInt8):SzP (parseP s).1 60000:=by
 by_cases h:s.length≤60000
 ·obtain ⟨l,h1,h2⟩:=Inp.parse_both h
  rw[h1]
  exact ⟨zNt h2.vars h,zNt h2.arrays h,h2.size,zNt h2.funcs h,h2.nums⟩
 ·have h0:SzP ⟨[],[],[]⟩ 60000:=⟨Nat.zero_le _,Nat.zero_le _,fun a ha=>(List.not_mem_nil ha).elim,Nat.zero_le _,fun a ha=>(List.not_mem_nil ha).elim⟩
  have hL:lexAllP s=.error (0,6):=by unfold lexAllP;rw[if_pos zo]
  have:parseP s=(noPr,0,6):=by unfold parseP;rw[hL]
  rw[this]
  exact h0
attribute [local irreducible] LOps LCode LStep LCalls Go.GL.Pure QThen QBlock RetPost LQ LAny LLate LLateOp LS
section
variable {B0:Nat} {w0:World}
theorem compile_pr (hG:GW B0 w0) (hM:Asm.GM w0) {p:Pr} {n:Nat} (h:SzP p n) (hn:n≤2000000) (o:Org) (o1:I64 o.code) (o2:I64 o.scalars) (o3:I64 o.arrays):LCalls (KC B0 w0) 11 [encPr p,orgLV o] [] (Ret (cmpLV (cmpP p.vars (arrsP p) p.funcs o))):=by
 rw[Inp.encPr_eq]
 exact compile_spec hG hM _ _ _ o (zNt h.vars hn) (by rw[zLm];exact zNt h.arrays hn) (fun a ha=>by
  obtain ⟨x,hx,rfl⟩:=List.mem_map.1 ha
  have:=h.size x hx
  constructor
  ·show (-9223372036854775808:Int)≤(x.size:Int)
   omega
  ·show (x.size:Int)<9223372036854775808
   omega) (zNt h.funcs hn) h.nums o1 o2 o3
theorem build_spec (hG:GW B0 w0) (hM:Asm.GM w0) (s:List UInt8) (o:Org) (o1:I64 o.code) (o2:I64 o.scalars) (o3:I64 o.arrays):LCalls (KC B0 w0) 13 [str s,orgLV o] [] (Ret (bldLV (bldR (parseP s) o))):=by
 have hps:=parse_any (B0:=B0) (w0:=w0) hG s
 have hsz:=parse_size s
 generalize parseP s=r at hps hsz ⊢
 obtain ⟨p,l,e⟩:=r
 simp only at hsz
 have hcp:=compile_pr (B0:=B0) (w0:=w0) hG hM hsz zDd o o1 o2 o3
 generalize hR:bldR (p,l,e) o=R
 unfold bldR at hR
 simp only at hR
 have eOr:orgLV o=.agg [int .i64 o.code,int .i64 o.scalars,int .i64 o.arrays]:=rfl
 rw[eOr] at hcp ⊢
 refine cI Tryz.func13 rfl (n:=44) rfl rfl rfl ?_
 refine gag ?_
 refine oS (S.box rfl fun b3=>?_) rfl
 refine gao ?_
 refine oS (sF [_] rfl hps ?_) rfl
 unfold encParse
 simp only
 refine gad ?_
 refine oS (sA fun b7=>?_) rfl
 refine gab ?_
 by_cases hc0:e=0
 rotate_left
 ·rw[if_pos hc0] at hR
  subst hR
  refine oC rfl (fun _=>?_) (fun hc=>?_)
  ·refine gab ?_
   exact retRet rfl (rC (zrt rfl) (rC (zrt rfl) (zra rfl))) rfl
  ·have h2:(!decide (e=0))=false:=hc
   simp at h2
   exact absurd h2 hc0
 refine oC rfl (fun hc=>?_) (fun _=>?_)
 ·have h2:(!decide (e=0))=true:=hc
  simp[hc0] at h2
 rw[if_neg (by simpa using hc0)] at hR
 unfold buildC at hR
 cases hcm:cmpP p.vars (arrsP p) p.funcs o with
 |error er=>
  have hne:=cmp_ne hcm
  rw[hcm] at hR hcp
  simp only at hR
  subst hR
  refine gaj ?_
  refine oS (sF [_,_] rfl hcp ?_) rfl
  unfold cmpLV
  refine gab ?_
  refine oC rfl (fun _=>?_) (fun hc=>?_)
  ·refine gab ?_
   exact retRet rfl (rC (zrt rfl) (rC (zrt rfl) (zra rfl))) rfl
  ·have h2:(!decide (er=0))=false:=hc
   simp at h2
   exact absurd h2 hne
 |ok t=>
  obtain ⟨x,hx,_⟩:=cmp_asm hcm
  have htl:t.length≤300000000:=by
   have h0:=hcm
   have hpc:checkP p.vars (arrsP p) p.funcs=0:=by
    unfold cmpP at h0
    split at h0
    ·cases h0
    ·rename_i h;exact Classical.not_not.1 h
   have hft:fitsP p.vars (arrsP p) p.funcs o=true:=by
    unfold cmpP at h0
    split at h0
    ·cases h0
    split at h0
    ·cases h0
    rename_i h;simpa using h
   have hts:t=join (prW p.vars (arrsP p) p.funcs o) [32]:=by
    unfold cmpP at h0
    split at h0
    ·cases h0
    split at h0
    ·cases h0
    split at h0
    ·cases h0
    injection h0 with h0
    exact h0.symm
   have hw:=(prW_tot (P:=p) (o:=o) hpc hsz.nums hft (zNt hsz.funcs zDd)).1
   have hj:=join_tot (prW p.vars (arrsP p) p.funcs o)
   have hw2:tot (prW p.vars (arrsP p) p.funcs o)≤60+60 * ndFs p.funcs:=hw
   have:=hsz.funcs
   rw[hts]
   omega
  have hasm:=Asm.assemble_spec (B0:=B0) (w0:=w0) hG hM t o.code htl
  rw[hcm] at hR hcp
  simp only at hR
  rw[hx] at hR hasm
  simp only at hR
  subst hR
  refine gaj ?_
  refine oS (sF [_,_] rfl hcp ?_) rfl
  unfold cmpLV
  refine gab ?_
  refine oC rfl (fun hc=>by cases hc) (fun _=>?_)
  refine gab ?_
  refine oS (sF [_,_] rfl hasm ?_) rfl
  unfold Asm.asmLV
  refine gac ?_
  exact retRet rfl (rC (zrt rfl) (rC (zrt rfl) (zra rfl))) rfl
def defO:Org:=⟨10000,0,100000⟩
theorem defaults_spec:LCalls (KC B0 w0) 17 [] [] (Ret (orgLV defO)):=by
 refine cI Tryz.func17 rfl (n:=2) rfl rfl rfl ?_
 refine gag ?_
 refine oS (sA fun b=>?_) rfl
 refine gac ?_
 exact retRet rfl (rC (rA rfl zm0 rfl zsr) rN) rfl
def awakeSrc:List UInt8:=[102,117,110,99,32,109,97,105,110,40,41,32,123,32,111,117,116,40,39,65,39,41,59,32,125]
theorem awake_bld:bldR (parseP awakeSrc) defO=([48,49,48,48,49,48,58,48,33,36,54,53,46,48,32,48,33,48,59],0,0):=by kernel_rfl
end
end Go.Proofs.YtpbbgkoalnonoaaGreatDoor.Cmp
namespace Go.Proofs.YtpbbgkoalnonoaaGreatDoor.Mch
open Go.Stele
open Cmp (bldR)
theorem cmp_parts {vars:List Nm} {arrays:List (Nm×Int)} {fs:List FnD} {o:Org} {t:Wd} (h:cmpP vars arrays fs o=.ok t):checkP vars arrays fs=0∧0≤o.code∧o.code+40000≤262144:=by
 unfold cmpP at h
 split at h
 ·cases h
 rename_i h1
 split at h
 ·cases h
 rename_i h2
 have h3:fitsP vars arrays fs o=true:=by simpa using h2
 unfold fitsP insideA at h3
 simp only[zBa,zDe] at h3
 have:=h3.1.1.1.1.2
 exact ⟨Classical.not_not.1 h1,by omega⟩
structure BldOk (s:List UInt8) (o:Org) (x:Wd):Prop where
 code0:0≤o.code
 code1:o.code+40000≤262144
 len:x.length≤40000
 src:∀ (inp:List Nat) (n:Nat),0<n→n≤100000000→sourceI s inp n=runI (parseQ s).1 inp n
 nums:∀ f∈(parseQ s).1.funcs,numSs f.body
 ex:∃ t labs,cmpP (parseQ s).1.vars (arrsP (parseQ s).1) (parseQ s).1.funcs o=.ok t∧asmP t o.code=.ok (x,labs)
theorem bld_ok {s:List UInt8} {o:Org} {x:Wd} {l:Int} (hs:s.length≤60000) (h:bldR (parseP s) o=(x,l,0)):BldOk s o x:=by
 obtain ⟨l',hP,hsz⟩:=Inp.parse_both hs
 rw[hP] at h
 unfold bldR at h
 simp only at h
 split at h
 ·rename_i h1
  exact absurd (congrArg (·.2.2) h) h1
 rename_i h1
 have h1':(parseQ s).2=0:=Classical.not_not.1 h1
 split at h
 ·rename_i e he
  exact absurd (congrArg (·.2.2) h) (cmp_ne (build_err he))
 rename_i y hy
 have e1:y=x:=congrArg (·.1) h
 subst e1
 obtain ⟨t,labs,h2,h3⟩:=build_cmp hy
 obtain ⟨h4,h5,h6⟩:=cmp_parts h2
 refine ⟨h5,h6,(form_law hy).1,fun inp n n0 n1=>?_,hsz.nums,t,labs,h2,h3⟩
 have hq:parseQ s=((parseQ s).1,0):=by rw[←h1']
 rw[source_ok hq h4]
 unfold limitI
 rw[if_neg (by omega),if_neg (by omega),Int.toNat_natCast]
theorem correct_out {s:List UInt8} {o:Org} {x:Wd} (h:BldOk s o x) (inp:List Nat) (he:(sourceI s inp 3000).err=0∨(sourceI s inp 3000).err=12) :
  ((runM 1000000 (startM x o.code.toNat inp)).1:Int)=(sourceI s inp 3000).err∧(runM 1000000 (startM x o.code.toNat inp)).2.1=(sourceI s inp 3000).out:=by
 obtain ⟨t,labs,h2,h3⟩:=h.ex
 have hS:sourceI s inp 3000=runI (parseQ s).1 inp 3000:=h.src inp 3000 zDd zDd
 rw[hS] at he ⊢
 obtain ⟨h4,h5⟩:=correct_law h.nums h2 h3 inp 3000 1000000 zDd he
 rw[h4,h5]
 exact ⟨by omega,rfl⟩
theorem progress_out {s:List UInt8} {o:Org} {x:Wd} (h:BldOk s o x) (inp:List Nat) (n:Nat) (n0:0<n) (n1:n≤100000000) (he:(sourceI s inp n).err=13) :
  (sourceI s inp n).out <+: (runM 20000 (startM x o.code.toNat inp)).2.1∨(runM 20000 (startM x o.code.toNat inp)).2.1 <+: (sourceI s inp n).out:=by
 obtain ⟨t,labs,h2,h3⟩:=h.ex
 have hS:=h.src inp n n0 n1
 rw[hS] at he ⊢
 exact progress_law h.nums h2 h3 inp n 20000 he
end Go.Proofs.YtpbbgkoalnonoaaGreatDoor.Mch
namespace Go.GL
open Go.RowKit
def chkStrF (P : Program) (f : Field) (o : Nat) : Bool := f.name != "_" && f.offset == o && (match P.underlying f.type with | some .string => true | _ => false)
def chkI64 (P : Program) (f : Field) (o : Nat) : Bool := f.name != "_" && f.offset == o && (match P.underlying f.type with | some (.int .i64) => true | _ => false)
theorem chkI64_of {P : Program} {f : Field} {o : Nat} (h : chkI64 P f o = true) : f.name ≠ "_" ∧ f.offset = o ∧ P.underlying f.type = some (.int .i64) := by
 unfold chkI64 at h
 simp only[zBa,bne_iff_ne,beq_iff_eq] at h
 obtain ⟨⟨h1,h2⟩,h3⟩:=h
 refine ⟨h1,h2,?_⟩
 split at h3
 ·assumption
 ·cases h3
theorem run_part_of {P:Program} {t:TypeId} {d:TypeDesc} (hu:P.underlying t=some d) (hp:d=.string∨d=.int .i64) {xs:Array Value} {off:Nat} {v:Value} (hx:xs[off]? = some v) (w:World):(part t xs off).run P w=.ok v w:=
 run_part_plain w (by rcases hp with rfl|rfl <;> simp[Program.plainKey,hu]) hx
theorem run_eqInt {P:Program} {t:TypeId} (hu:P.underlying t=some (.int .i64)) (d:Nat) (a b:Int) (w:World):(Op.equalIn (d+1) t (.int .i64 a) (.int .i64 b)).run P w=.ok (decide (a=b)) w:=by
 simp only[Op.equalIn,Sem.run_bind,run_underlying' hu,Result.andThen_ok,Sem.run_pure,if_true]
 congr 1
section
variable {C:Ctx} {e:Env} {H:Heap} {dst:Option Nat} {ty:TypeId} {pos:String} {aft:Array Edge} {g:Option (Nat×Bool)} {x y:Operand}
end
end Go.GL
namespace Go.GL
open Go.RowKit
class TInt3 (P:Program) (t:TypeId):Prop where
 und:P.underlying t=some (.struct (P.fieldsOf t))
 apart:P.stoodInHeld t=false
 guard:P.eqGuardType P.depth t=false
 fields : ∃ f0 f1 f2 : Field, (P.fieldsOf t).toList = [f0, f1, f2] ∧ (f0.name ≠ "_" ∧ f0.offset = 0 ∧ P.underlying f0.type = some (.int .i64)) ∧ (f1.name ≠ "_" ∧ f1.offset = 1 ∧ P.underlying f1.type = some (.int .i64)) ∧ (f2.name ≠ "_" ∧ f2.offset = 2 ∧ P.underlying f2.type = some (.int .i64))
def chkInt3 (P:Program) (t:TypeId):Bool:=(match P.underlying t with|some (.struct _)=>true|_=>false) && !P.stoodInHeld t && !P.eqGuardType P.depth t && (match (P.fieldsOf t).toList with|[f0,f1,f2]=>chkI64 P f0 0 && chkI64 P f1 1 && chkI64 P f2 2|_=>false)
theorem TInt3.of {P:Program} {t:TypeId} (h:chkInt3 P t=true):TInt3 P t:=by
 unfold chkInt3 at h
 simp only[zBa,Bool.not_eq_true'] at h
 obtain ⟨⟨⟨h1,h2⟩,h3⟩,h4⟩:=h
 refine ⟨?_,h2,h3,?_⟩
 ·split at h1
  ·rename_i fs hu
   rw[hu]
   simp[Program.fieldsOf,hu]
  ·cases h1
 ·split at h4
  ·rename_i f0 f1 f2 hf
   simp only[zBa] at h4
   exact ⟨f0,f1,f2,hf,chkI64_of h4.1.1,chkI64_of h4.1.2,chkI64_of h4.2⟩
  ·cases h4
theorem run_eqInt3 {P:Program} {t:TypeId} [h:TInt3 P t] (a x u:Int) (w:World) :
  (Op.equal t (.agg #[.int .i64 a,.int .i64 x,.int .i64 u]) (.agg #[.int .i64 a,.int .i64 x,.int .i64 u])).run P w=.ok true w:=by
 obtain ⟨f0,f1,f2,hf,⟨n0,o0,u0⟩,⟨n1,o1,u1⟩,⟨n2,o2,u2⟩⟩:=h.fields
 rw[equal_step,run_equalIn_struct w 9999 t _ _ h.und h.apart,hf]
 have p0:(part f0.type #[.int .i64 a,.int .i64 x,.int .i64 u] f0.offset).run P w=.ok (.int .i64 a) w:=run_part_of u0 (.inr rfl) (by rw[o0];try rfl) w
 have p1:(part f1.type #[.int .i64 a,.int .i64 x,.int .i64 u] f1.offset).run P w=.ok (.int .i64 x) w:=run_part_of u1 (.inr rfl) (by rw[o1];try rfl) w
 have p2:(part f2.type #[.int .i64 a,.int .i64 x,.int .i64 u] f2.offset).run P w=.ok (.int .i64 u) w:=run_part_of u2 (.inr rfl) (by rw[o2];try rfl) w
 have q0:(Op.equalIn 9999 f0.type (.int .i64 a) (.int .i64 a)).run P w=.ok (decide (a=a)) w:=run_eqInt u0 9998 a a w
 have q1:(Op.equalIn 9999 f1.type (.int .i64 x) (.int .i64 x)).run P w=.ok (decide (x=x)) w:=run_eqInt u1 9998 x x w
 have q2:(Op.equalIn 9999 f2.type (.int .i64 u) (.int .i64 u)).run P w=.ok (decide (u=u)) w:=run_eqInt u2 9998 u u w
 simp only[Op.eqFields,n0,n1,n2,ne_eq,not_false_eq_true,if_true,Sem.run_bind,p0,q0,p1,q1,p2,q2,Result.andThen_ok,decide_true,Bool.not_true,Bool.false_eq_true,if_false,Sem.run_pure]
section
variable {C:Ctx} {e:Env} {H:Heap} {dst:Option Nat} {ty:TypeId} {pos:String} {aft:Array Edge} {g:Option (Nat×Bool)} {x y:Operand}
theorem agg_int3 {ρ:Operand→Value} {w:World} {L:Live} (h:∀ x,Rep w L (e.ev x) (ρ x)) {x:Operand} {a i j:Int} (hx:e.ev x=.agg [int .i64 a,int .i64 i,int .i64 j]):ρ x=.agg #[.int .i64 a,.int .i64 i,.int .i64 j]:=by
 have hv:=h x
 rw[hx] at hv
 simp only[Rep,RepL,int] at hv
 obtain ⟨vs,h1,v0,r0,e0,rfl,v1,r1,e1,rfl,v2,r2,e2,rfl,e3⟩:=hv
 rw[h1,e0,e1,e2,e3]
theorem Pure.eqInt3 {t yT:TypeId} [h:TInt3 C.P t] {a i j:Int} (hx:e.ev x=.agg [int .i64 a,int .i64 i,int .i64 j]) (hy:e.ev y=.agg [int .i64 a,int .i64 i,int .i64 j]) :
  Pure C ⟨dst,.binOp .eql t x y yT,ty,pos,aft,g⟩ e H (bool true):=
 .of_any fun ρ _ _ hr=>⟨_,rep_atom,fun w'=>by
  have h1:=agg_int3 hr hx
  have h2:=agg_int3 hr hy
  have he:(eqGuard .eql t x y (.agg #[.int .i64 a,.int .i64 i,.int .i64 j]) (.agg #[.int .i64 a,.int .i64 i,.int .i64 j])).run C.P w'=.ok () w':=by
   simp[eqGuard,h.guard]
  have hb:binOp .eql t (.agg #[.int .i64 a,.int .i64 i,.int .i64 j]) (.agg #[.int .i64 a,.int .i64 i,.int .i64 j])=(do Pure.pure (.bool (←Op.equal t (.agg #[.int .i64 a,.int .i64 i,.int .i64 j]) (.agg #[.int .i64 a,.int .i64 i,.int .i64 j])))):=rfl
  simp only[execOp,h1,h2,he,hb,Sem.run_bind,Sem.run_pure,Result.andThen_ok,run_eqInt3]⟩
end
end Go.GL
namespace Go.Proofs.YtpbbgkoalnonoaaGreatDoor.Cmp
open Go.GL Go.RowKit Go.Stele
instance:TInt3 Tryz.prog 28:=.of zk
attribute [local irreducible] LOps LCode LStep LCalls Go.GL.Pure QThen QBlock RetPost LQ LAny LLate LLateOp LS
section
variable {B0:Nat} {w0:World}
theorem awake_spec (hG:GW B0 w0) (hM:Asm.GM w0):LCalls (KC B0 w0) 10 [] [] (Ret (bool true)):=by
 have hb:=build_spec (B0:=B0) (w0:=w0) hG hM awakeSrc defO (by unfold I64;decide) (by unfold I64;decide) (by unfold I64;decide)
 rw[awake_bld] at hb
 have hd:=defaults_spec (B0:=B0) (w0:=w0)
 have eD:orgLV defO=.agg [int .i64 10000,int .i64 0,int .i64 100000]:=rfl
 rw[eD] at hb hd
 unfold bldLV at hb
 refine cI Tryz.func10 rfl (n:=25) rfl rfl rfl ?_
 refine gai ?_
 refine oS (sF [] rfl hd ?_) rfl
 refine oS (sF [_,_] rfl hb ?_) rfl
 refine gab ?_
 refine oS (sF [] rfl hd ?_) rfl
 refine gad ?_
 refine oP (Pure.eqInt3 rfl rfl) rfl ?_
 refine gaa ?_
 exact retRet rfl (zra rfl) rfl
end
end Go.Proofs.YtpbbgkoalnonoaaGreatDoor.Cmp
namespace Go.GL
open Go.RowKit
section
variable {C:Ctx} {e:Env} {H:Heap} {dst:Option Nat} {ty:TypeId} {pos:String} {aft:Array Edge} {g:Option (Nat×Bool)} {x:Operand}
theorem Pure.field0 {t:TypeId} [h:TInt3 C.P t] {a i j:Int} (hx:e.ev x=.agg [int .i64 a,int .i64 i,int .i64 j]) :
  Pure C ⟨dst,.field t x 0,ty,pos,aft,g⟩ e H (int .i64 a):=
 .of_any fun ρ _ _ hr=>⟨_,rep_atom,fun w'=>by
  have h1:=agg_int3 hr hx
  obtain ⟨f0,f1,f2,hf,⟨n0,o0,u0⟩,_,_⟩:=h.fields
  have h3:execOp ρ ⟨dst,.field t x 0,ty,pos,aft,g⟩=(do Pure.pure (.value (←Instr.field t (ρ x) 0))):=rfl
  have hg:(C.P.fieldsOf t)[0]? = some f0:=by
   rw[←Array.getElem?_toList,hf]
   try rfl
  have hp:(part f0.type #[.int .i64 a,.int .i64 i,.int .i64 j] f0.offset).run C.P w'=.ok (.int .i64 a) w':=by
   rw[o0]
   simp[part,isAgg,run_underlying' u0]
  rw[h3,h1]
  simp only[Instr.field,Sem.run_bind,run_underlying' h.und,Result.andThen_ok,hg,asAgg,Sem.run_pure,hp]⟩
end
end Go.GL
namespace Go.Proofs.YtpbbgkoalnonoaaGreatDoor.Mch
open Go.GL Go.RowKit Go.Stele
open Inp (u32)
open Cmp (I64 bldR bldLV defO orgLV build_spec defaults_spec awake_spec)
attribute [local irreducible] LOps LCode LStep LCalls Go.GL.Pure QThen QBlock RetPost LQ LAny LLate LLateOp LS
section
variable {B0:Nat} {w0:World}
theorem lrun_spec {code:Wd} {og:Nat} {inp:List Nat} (hog:og+code.length≤262144) (hog2:og<262144) (hin:∀ v∈inp,v<4294967296) :
  LCalls (KC B0 w0) 20 [str code,int .i64 (og:Nat),.list (us inp)] [] (Ret (mchLV (runM 1000000 (startM code og inp)))):=by
 have hrun:=mrun_spec (B0:=B0) (w0:=w0) hog hog2 hin (steps:=1000000) zDd zDd
 generalize runM 1000000 (startM code og inp)=R at hrun ⊢
 unfold mchLV at hrun ⊢
 unfold txtLV at hrun
 refine cI Tryz.func20 rfl (n:=14) rfl rfl rfl ?_
 refine gag ?_
 refine oS (sA fun b6=>?_) rfl
 refine gac ?_
 refine oS (sL [_] rfl (eC rfl rfl eN) rfl rfl rfl ?_) rfl
 refine gaa ?_
 refine oS (sF [_,_,_,_] rfl hrun ?_) rfl
 refine gaa ?_
 exact retRet rfl (rC (rA rfl zm0 rfl zsr) rN) rfl
theorem short_spec (s:List UInt8) (inp:List Nat):LCalls (KC B0 w0) 18 [str s,.list (us inp)] [] (Ret (bool (decide (s.length≤1500∧inp.length≤40)))):=by
 have hl:=us_len inp
 refine cI Tryz.func18 rfl (n:=13) rfl rfl rfl ?_
 refine gac ?_
 refine oB 8 rfl (fun h=>?_) (fun h=>?_)
 ·have h1:=zt h
  refine gad ?_
  exact retRet rfl (zra rfl) (bool_eq (by rw[decide_eq_decide];omega))
 ·have h1:=zf h
  refine gaa ?_
  exact retRet rfl (zra rfl) (bool_eq (by rw[eq_comm,decide_eq_false_iff_not];omega))
theorem correct_walk (hG:GW B0 w0) (hM:Asm.GM w0) (s:List UInt8) {inp:List Nat} (hin:∀ v∈inp,Lt v):LCalls (KC B0 w0) 6 [str s,.list (inp.map u32)] [] (Ret (bool true)):=by
 have hb:=build_spec (B0:=B0) (w0:=w0) hG hM s defO (by unfold I64;decide) (by unfold I64;decide) (by unfold I64;decide)
 have hd:=defaults_spec (B0:=B0) (w0:=w0)
 have haw:=awake_spec (B0:=B0) (w0:=w0) hG hM
 have hsh:=short_spec (B0:=B0) (w0:=w0) s inp
 have hsrc:=fun hs=>Inp.source_spec (B0:=B0) (w0:=w0) hG s hs hin 3000
 have hok:=fun (x:Wd) (l:Int) (hs:s.length≤60000) (h:bldR (parseP s) defO=(x,l,0))=>bld_ok hs h
 have eD:orgLV defO=.agg [int .i64 10000,int .i64 0,int .i64 100000]:=rfl
 rw[eD] at hb hd
 generalize hr:bldR (parseP s) defO=r at hb
 obtain ⟨x,l,e⟩:=r
 unfold bldLV at hb
 simp only at hb
 refine cI Tryz.func6 rfl (n:=58) rfl rfl rfl ?_
 refine gao ?_
 refine oS (sF [] rfl hd ?_) rfl
 refine oS (sF [_,_] rfl hb ?_) rfl
 refine gab ?_
 refine oS (sF [_,_] rfl hsh ?_) rfl
 refine gaa ?_
 refine oB 21 rfl (fun h1=>?_) (fun h1=>?_)
 ·refine gaa ?_
  refine oC rfl (fun _=>?_) (fun hc=>by cases hc)
  refine gag ?_
  refine oS (sF [] rfl haw ?_) rfl
  refine gaa ?_
  exact retRet rfl (zra rfl) rfl
 have hs:s.length≤1500∧inp.length≤40:=by simpa using h1
 refine gaa ?_
 by_cases he:e=0
 rotate_left
 ·refine oC rfl (fun _=>?_) (fun hc=>?_)
  ·refine gag ?_
   refine oS (sF [] rfl haw ?_) rfl
   refine gaa ?_
   exact retRet rfl (zra rfl) rfl
  ·have h2:(!decide (e=0))=false:=hc
   simp at h2
   exact absurd h2 he
 subst he
 refine oC rfl (fun hc=>by cases hc) (fun _=>?_)
 have hB:=hok x l zo hr
 have hW:=hsrc zo
 have hco:=correct_out hB inp
 have hrun:=lrun_spec (B0:=B0) (w0:=w0) (code:=x) (og:=10000) (inp:=inp) (by have:=hB.len;omega) zDd hin
 have ho:defO.code.toNat=10000:=rfl
 rw[ho] at hco
 generalize sourceI s inp 3000=W at hW hco
 generalize runM 1000000 (startM x 10000 inp)=R at hrun hco
 unfold Inp.encO at hW
 unfold mchLV at hrun
 refine gab ?_
 refine oS (sF [_,_,_] rfl hW ?_) rfl
 refine oS (sA fun b8=>?_) rfl
 refine gab ?_
 by_cases h0:W.err=0
 ·refine oB 32 rfl (fun hh=>?_) (fun _=>?_)
  ·simp[h0] at hh
  obtain ⟨c1,c2⟩:=hco (.inl h0)
  refine gaa ?_
  refine oC rfl (fun hc=>by cases hc) (fun _=>?_)
  refine gab ?_
  refine oS (sF [] rfl hd ?_) rfl
  refine oP (Pure.field0 rfl) rfl ?_
  refine gaa ?_
  refine oS (sF [_,_,_] rfl hrun ?_) rfl
  refine oS (sA fun b9=>?_) rfl
  refine gab ?_
  refine oB 48 rfl (fun _=>?_) (fun hh=>?_)
  rotate_left
  ·have:=zf hh
   exact absurd c1 this
  refine gaa ?_
  refine oB 55 rfl (fun _=>?_) (fun hh=>?_)
  rotate_left
  ·have:=zf hh
   exact absurd c2 this
  refine gaa ?_
  refine oS (sF [] rfl haw ?_) rfl
  refine gaa ?_
  exact retRet rfl (zra rfl) rfl
 refine oB 32 rfl (fun _=>?_) (fun hh=>?_)
 rotate_left
 ·simp at hh
  exact absurd hh h0
 refine gaa ?_
 by_cases h12:W.err=12
 rotate_left
 ·refine oC rfl (fun _=>?_) (fun hc=>?_)
  ·refine gag ?_
   refine oS (sF [] rfl haw ?_) rfl
   refine gaa ?_
   exact retRet rfl (zra rfl) rfl
  ·simp at hc
   exact absurd hc h12
 obtain ⟨c1,c2⟩:=hco (.inr h12)
 refine oC rfl (fun hc=>?_) (fun _=>?_)
 ·simp[h12] at hc
 refine gab ?_
 refine oS (sF [] rfl hd ?_) rfl
 refine oP (Pure.field0 rfl) rfl ?_
 refine gaa ?_
 refine oS (sF [_,_,_] rfl hrun ?_) rfl
 refine oS (sA fun b9=>?_) rfl
 refine gab ?_
 refine oB 48 rfl (fun _=>?_) (fun hh=>?_)
 rotate_left
 ·have:=zf hh
  exact absurd c1 this
 refine gaa ?_
 refine oB 55 rfl (fun _=>?_) (fun hh=>?_)
 rotate_left
 ·have:=zf hh
  exact absurd c2 this
 refine gaa ?_
 refine oS (sF [] rfl haw ?_) rfl
 refine gaa ?_
 exact retRet rfl (zra rfl) rfl
end
end Go.Proofs.YtpbbgkoalnonoaaGreatDoor.Mch
