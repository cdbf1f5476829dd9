/- Texts joined: CmpG, CmpH, InpNodes, InpX3, CmpI, GlEqS, GlEqI, LawA0, Fmt5, RtSize. -/
import Derived.Laws.StructEq
import Derived.ChangeKeysEq
import Derived.Test.YtpokklffoihafaaGreatDoorBRowC23
import Derived.Test.YtpokklffoihafaaGreatDoorBRowC24
import Derived.Test.YtpokklffoihafaaGreatDoorBRowC25
import Derived.Test.YtpokklffoihafaaGreatDoorBRowC26
import Derived.Test.YtpokklffoihafaaGreatDoorBRowC27
import Derived.Test.YtpokklffoihafaaGreatDoorBRowC210
import Derived.Test.YtpokklffoihafaaGreatDoorBRowC212
set_option linter.unusedVariables false
set_option linter.unusedSimpArgs false
namespace Go.Proofs.YtpokklffoihafaaGreatDoor.Cmp
open Go.GL Go.RowKit Go.Stele
open Go.Lib (decDigits itoa join)
set_option maxRecDepth 100000
set_option maxHeartbeats 4000000
def regLV (r:Int×Int):LV:=.agg [int .i64 r.1,int .i64 r.2]
def orgLV (o:Org):LV:=.agg [int .i64 o.code,int .i64 o.scalars,int .i64 o.arrays]
def symLV (p:Nm×Int):LV:=.agg [str p.1,int .i64 p.2]
def I64 (n:Int):Prop := -9223372036854775808≤n∧n<9223372036854775808
def SmI (n:Int):Prop := -1000000000000≤n∧n≤1000000000000
theorem sum_take {l:List Int} {i:Nat} (h:i<l.length):(l.take (i+1)).sum=(l.take i).sum+l[i]:=by
 rw[List.take_succ_eq_append_getElem h,List.sum_append]
 simp
theorem sum_take_le:∀ (l:List Int) (i:Nat),(∀ n∈l,0<n)→0≤(l.take i).sum∧(l.take i).sum≤l.sum
 |[],i,_=>by simp
 |a::l,0,h=>by
  have:=sum_take_le l l.length fun n hn=>h n (List.mem_cons_of_mem _ hn)
  have h1:=h a (List.mem_cons_self ..)
  rw[List.take_length] at this
  rw[List.take_zero,List.sum_nil,List.sum_cons]
  omega
 |a::l,i+1,h=>by
  have:=sum_take_le l i fun n hn=>h n (List.mem_cons_of_mem _ hn)
  have h1:=h a (List.mem_cons_self ..)
  rw[List.take_succ_cons,List.sum_cons,List.sum_cons]
  omega
theorem symA_take {l:List (Nm×Int)} {i:Nat} (h:i<l.length) (a:Int):symA a (l.take (i+1))=symA a (l.take i)++[(l[i].1,a+((l.map (·.2)).take i).sum)]:=by
 rw[List.take_succ_eq_append_getElem h,symA_app,←List.map_take]
 rfl
attribute [local irreducible] LOps LCode LStep LCalls Go.GL.Pure QThen QBlock RetPost LQ LAny LLate LLateOp LS
section
variable {B0:Nat} {w0:World}
theorem inside_spec (r:Int×Int) (h2:SmI r.2):LCalls (KC B0 w0) 65 [regLV r] [] (Ret (bool (insideR r))):=by
 obtain ⟨a,n⟩:=r
 unfold SmI at h2
 simp only at h2
 have hI:insideR (a,n)=decide (0≤a∧a≤262144-n):=rfl
 unfold regLV
 refine cI Tryz.func65 rfl (n:=14) rfl rfl rfl ?_
 refine gae ?_
 refine oS (S.box rfl fun b1=>?_) rfl
 refine gae ?_
 refine oB 6 rfl (fun h=>?_) (fun h=>?_)
 ·have h1:a ≥ 0:=zt h
  refine gae ?_
  exact retRet rfl (zra rfl) (bool_eq (by
   rw[hI,Bool.eq_iff_iff,decide_eq_true_iff,decide_eq_true_iff]
   omega))
 ·have h1:¬ a ≥ 0:=zf h
  refine gae ?_
  exact retRet rfl (zra rfl) (bool_eq (by
   rw[hI]
   symm
   exact decide_eq_false zo))
theorem meets_spec (r s:Int×Int) (h1:SmI r.1) (h2:SmI r.2) (h3:SmI s.1) (h4:SmI s.2):LCalls (KC B0 w0) 66 [regLV r,regLV s] [] (Ret (bool (meetsR r s))):=by
 obtain ⟨a,n⟩:=r
 obtain ⟨b,m⟩:=s
 unfold SmI at h1 h2 h3 h4
 simp only at h1 h2 h3 h4
 have hI:meetsR (a,n) (b,m)=decide (0<n∧0<m∧a<b+m∧b<a+n):=rfl
 unfold regLV
 refine cI Tryz.func66 rfl (n:=33) rfl rfl rfl ?_
 refine gar ?_
 refine oS (S.box rfl fun b1=>?_) rfl
 refine oS (S.box rfl fun b2=>?_) rfl
 refine gar ?_
 refine oB 8 rfl (fun g1=>?_) (fun g1=>?_)
 rotate_left
 ·have g1':¬ n > 0:=zf g1
  refine gar ?_
  exact retRet rfl (zra rfl) (bool_eq (by rw[hI];symm;exact decide_eq_false zo))
 have g1':n > 0:=zt g1
 refine gar ?_
 refine oB 13 rfl (fun g2=>?_) (fun g2=>?_)
 rotate_left
 ·have g2':¬ m > 0:=zf g2
  refine gar ?_
  exact retRet rfl (zra rfl) (bool_eq (by rw[hI];symm;exact decide_eq_false zo))
 have g2':m > 0:=zt g2
 refine gar ?_
 refine oB 23 rfl (fun g3=>?_) (fun g3=>?_)
 rotate_left
 ·have g3':¬ a<b+m:=zf g3
  refine gar ?_
  exact retRet rfl (zra rfl) (bool_eq (by rw[hI];symm;exact decide_eq_false zo))
 have g3':a<b+m:=zt g3
 refine gar ?_
 exact retRet rfl (zra rfl) (bool_eq (by
  rw[hI,Bool.eq_iff_iff,decide_eq_true_iff,decide_eq_true_iff]
  omega))
theorem arrays_spec (vars:List Nm) (arrays:List (Nm×Int)) (fs:List FnD) (o:Org) (hl:arrays.length≤2000000) (hp:∀ a∈arrays,0<a.2) (h0:0≤o.arrays) (h1:o.arrays+(arrays.map (·.2)).sum≤262144):LCalls (KC B0 w0) 35 [Chk.encPrG vars arrays fs,orgLV o] [] (Ret (.tuple [.list ((symA o.arrays arrays).map symLV),int .i64 0])):=by
 have hal:(arrays.map Chk.encArG).length=arrays.length:=List.length_map _
 have hml:(arrays.map (·.2)).length=arrays.length:=List.length_map _
 have hps:∀ n∈arrays.map (·.2),0<n:=fun n hn=>by
  obtain ⟨a,ha,rfl⟩:=List.mem_map.1 hn
  exact hp a ha
 unfold Chk.encPrG orgLV
 refine cI Tryz.func35 rfl (n:=50) rfl rfl rfl ?_
 refine gan ?_
 refine oS (S.box rfl fun b2=>?_) rfl
 refine oS (S.box rfl fun b3=>?_) rfl
 refine gan ?_
 refine oL (fun kk ls H'=>∃ (i:Nat) (v:LV),i≤arrays.length∧kk=arrays.length-i∧ls=[(6,v),(7,int .i64 (o.arrays+((arrays.map (·.2)).take i).sum)),(13,.list (arrays.map Chk.encArG)),(14,int .i64 arrays.length),(15,int .i64 (i:Nat))]∧GL.Acc 2 v ((symA o.arrays (arrays.take i)).map symLV) H' [])
  ⟨_,_,_,⟨0,nilSlice,Nat.zero_le _,rfl,rfl,Acc.nil⟩,⟨rfl,int_eq (by simp),rfl,int_eq zo,rfl,trivial⟩,HSub.nil _⟩ ?_
 rintro kk ls H' ⟨i,v,hi,rfl,rfl,hacc⟩ j hj
 have hsum:=sum_take_le (arrays.map (·.2)) i hps
 refine gan ?_
 refine oC rfl (fun hc=>?_) (fun hc=>?_)
 ·have hlt:i<arrays.length:=by have:=zt hc;omega
  have hpi:=hp _ (List.getElem_mem hlt)
  have hst:=sum_take (l:=arrays.map (·.2)) (i:=i) zo
  rw[List.getElem_map] at hst
  have hsum2:=sum_take_le (arrays.map (·.2)) (i+1) hps
  have hlen:((symA o.arrays (arrays.take i)).map symLV).length=i:=by
   rw[List.length_map,symA_len,List.length_take]
   omega
  generalize hsi:((arrays.map (·.2)).take i).sum=si at hsum hst
  have hsy:=symA_take hlt o.arrays
  rw[hsi] at hsy
  refine gan ?_
  refine oP (xR (el':=Chk.encArG arrays[i]) (cs:=[_,_]) rfl rfl zo (map_get _ _ _ hlt) rfl rfl) rfl ?_
  refine gan ?_
  refine oS (S.alloc fun b9=>?_) rfl
  refine gan ?_
  refine oB 21 rfl (fun h=>?_) (fun _=>?_)
  ·have:=zt h;omega
  refine gan ?_
  refine oB 25 rfl (fun h=>?_) (fun _=>?_)
  ·have:=zt h;omega
  refine gan ?_
  refine oB 30 rfl (fun h=>?_) (fun _=>?_)
  ·have:=zt h;omega
  refine gan ?_
  refine oC rfl (fun h=>?_) (fun _=>?_)
  ·have:=zt h;omega
  refine gan ?_
  refine oP (Pure.mv (lv:=v) rfl) rfl ?_
  refine gan ?_
  refine oS (S.lit [_] rfl (eC rfl rfl eN) rfl rfl rfl ?_) rfl
  refine oS (S.acc1 rfl hacc rfl (by simp;rfl) rfl (by rw[hlen];simp;omega) fun v' H2 hacc'=>?_) rfl
  refine oP (Pure.as (lv:=v') rfl) rfl ?_
  refine gan ?_
  exact ⟨_,_,_,by omega,⟨i+1,v',by omega,rfl,rfl,by rw[hsy,List.map_append];exact hacc'⟩,⟨rfl,int_eq (by rw[hst];omega),rfl,rfl,int_eq zo,trivial⟩,zhD zhr,hj⟩
 ·have hi':i=arrays.length:=by have:=zf hc;omega
  subst hi'
  rw[List.take_length] at hacc
  refine LCode.sub (d:=6) (v:=v) rfl hacc.sub ?_
  refine LCode.weak zhn ?_
  refine gan ?_
  exact retRet hj (rC (rT (v:=.list _) rfl zsr) (zra rfl)) rfl
theorem fits_spec (vars:List Nm) (arrays:List (Nm×Int)) (fs:List FnD) (o:Org) (hv6:vars.length≤2000000) (hf6:fs.length≤2000000) (hl:arrays.length≤2000000) (hsm:∀ f∈fs,SmF f) (hn:∀ f∈fs,f.name.length≤1000∧∀ x∈f.params++f.locals,x.length≤1000)
  (hp:∀ a∈arrays,0<a.2) (ht:(arrays.map (·.2)).sum≤150000) (hsc:(scalarsP vars fs).length≤8000) (o1:I64 o.code) (o2:I64 o.scalars) (o3:I64 o.arrays) :
  LCalls (KC B0 w0) 33 [Chk.encPrG vars arrays fs,orgLV o] [] (Ret (bool (fitsP vars arrays fs o))):=by
 have hal:(arrays.map Chk.encArG).length=arrays.length:=List.length_map _
 have hml:(arrays.map (·.2)).length=arrays.length:=List.length_map _
 have hps:∀ n∈arrays.map (·.2),0<n:=fun n hn=>by
  obtain ⟨a,ha,rfl⟩:=List.mem_map.1 hn
  exact hp a ha
 have hscl:((scalarsP vars fs).map str).length=(scalarsP vars fs).length:=List.length_map _
 have hS:=Chk.scalars_specG (B0:=B0) (w0:=w0) (vars:=vars) (fs:=fs) (.list (arrays.map Chk.encArG)) hv6 hf6 hsm hn
 rw[fits_go]
 unfold Chk.encPrG orgLV
 refine cI Tryz.func33 rfl (n:=63) rfl rfl rfl ?_
 refine gat ?_
 refine oS (S.box rfl fun b2=>?_) rfl
 refine oS (S.box rfl fun b3=>?_) rfl
 refine gat ?_
 refine oL (fun kk ls H'=>∃ (i:Nat),i≤arrays.length∧kk=arrays.length-i∧ls=[(2,ptr b2 0),(3,ptr b3 0),(5,int .i64 (((arrays.map (·.2)).take i).sum)),(14,.list (arrays.map Chk.encArG)),(15,int .i64 arrays.length),(16,int .i64 (i:Nat))]∧H'=[(b3,.cells 28 [int .i64 o.code,int .i64 o.scalars,int .i64 o.arrays]),(b2,.cells 26 [.list (vars.map str),.list (arrays.map Chk.encArG),.list (fs.map encFn)])])
  ⟨_,_,_,⟨0,Nat.zero_le _,rfl,rfl,rfl⟩,⟨rfl,rfl,rfl,rfl,int_eq zo,rfl,trivial⟩,HSub.refl _⟩ ?_
 rintro kk ls H' ⟨i,hi,rfl,rfl,rfl⟩ j hj
 have hsum:=sum_take_le (arrays.map (·.2)) i hps
 refine gat ?_
 refine oC rfl (fun hc=>?_) (fun hc=>?_)
 ·have hlt:i<arrays.length:=by have:=zt hc;omega
  have hpi:=hp _ (List.getElem_mem hlt)
  have hst:=sum_take (l:=arrays.map (·.2)) (i:=i) zo
  rw[List.getElem_map] at hst
  have hsum2:=sum_take_le (arrays.map (·.2)) (i+1) hps
  generalize hsi:((arrays.map (·.2)).take i).sum=si at hsum hst
  refine gat ?_
  refine oP (xR (el':=Chk.encArG arrays[i]) (cs:=[_,_]) rfl rfl zo (map_get _ _ _ hlt) rfl rfl) rfl ?_
  refine gat ?_
  refine oS (S.alloc fun b7=>?_) rfl
  refine gat ?_
  exact ⟨_,_,_,by omega,⟨i+1,by omega,rfl,rfl,rfl⟩,⟨rfl,rfl,int_eq (by rw[hst]),rfl,rfl,int_eq zo,trivial⟩,zhD zhr,hj⟩
 have hi':i=arrays.length:=by have:=zf hc;omega
 subst hi'
 rw[←hml,List.take_length] at hsum ⊢
 generalize (arrays.map (·.2)).sum=total at hsum ht ⊢
 generalize (scalarsP vars fs).length=ns at hsc hscl ⊢
 refine gat ?_
 refine LCode.draw (m:=16) rfl [(b3,.cells 28 [int .i64 o.code,int .i64 o.scalars,int .i64 o.arrays]),(b2,.cells 26 [.list (vars.map str),.list (arrays.map Chk.encArG),.list (fs.map encFn)])] ?_
 first|refine aT 0 rfl rfl (Pure.fieldH rfl) ?_|refine aT 0 rfl rfl (Pure.field1 rfl rfl) ?_
 first|refine aT 1 rfl rfl (Pure.loadRef (c:=.atom _) rfl rfl) ?_|refine aT 1 rfl rfl (Pure.loadH (c:=.atom _) rfl zm0 rfl) ?_|refine aT 1 rfl rfl (Pure.loadH (c:=.atom _) rfl zm1 rfl) ?_|refine aT 1 rfl rfl (Pure.loadH (c:=.atom _) rfl zm2 rfl) ?_
 first|refine aT 2 rfl rfl (Pure.ldRefAgg (cs':=[_,_,_]) rfl rfl rfl) ?_|refine aT 2 rfl rfl (Pure.ldHAgg (cs':=[_,_,_]) rfl zm0 rfl rfl) ?_|refine aT 2 rfl rfl (Pure.ldHAgg (cs':=[_,_,_]) rfl zm1 rfl rfl) ?_|refine aT 2 rfl rfl (Pure.ldHAgg (cs':=[_,_,_]) rfl zm2 rfl rfl) ?_
 first|refine aT 7 rfl rfl (Pure.fieldH rfl) ?_|refine aT 7 rfl rfl (Pure.field1 rfl rfl) ?_
 first|refine aT 8 rfl rfl (Pure.loadRef (c:=.atom _) rfl rfl) ?_|refine aT 8 rfl rfl (Pure.loadH (c:=.atom _) rfl zm0 rfl) ?_|refine aT 8 rfl rfl (Pure.loadH (c:=.atom _) rfl zm1 rfl) ?_|refine aT 8 rfl rfl (Pure.loadH (c:=.atom _) rfl zm2 rfl) ?_
 first|refine aT 9 rfl rfl (Pure.bld _ (cs:=[_,_]) rfl) ?_
 first|refine aT 10 rfl rfl (Pure.fieldH rfl) ?_|refine aT 10 rfl rfl (Pure.field1 rfl rfl) ?_
 first|refine aT 11 rfl rfl (Pure.loadRef (c:=.atom _) rfl rfl) ?_|refine aT 11 rfl rfl (Pure.loadH (c:=.atom _) rfl zm0 rfl) ?_|refine aT 11 rfl rfl (Pure.loadH (c:=.atom _) rfl zm1 rfl) ?_|refine aT 11 rfl rfl (Pure.loadH (c:=.atom _) rfl zm2 rfl) ?_
 first|refine aT 12 rfl rfl (Pure.mv (lv:=.atom _) rfl) ?_
 first|refine aT 13 rfl rfl (Pure.bld _ (cs:=[_,_]) rfl) ?_
 refine LAny.late ?_ zhr
 refine lO 3 (lS (H1:=[]) rfl (.inl rfl) rfl zpr zhr (S.fn [_] rfl hS ?_))
 refine lO 4 (lH rfl rfl (Pure.llen rfl) ?_)
 refine lO 5 (lH rfl rfl (Pure.add rfl rfl zo) ?_)
 refine lO 6 (lH rfl rfl (Pure.bld _ (cs:=[_,_]) rfl) ?_)
 refine lO 14 (lS (H1:=[]) rfl (.inl rfl) rfl zpr zhr (S.lit (es:=[LV.agg [int .i64 o.scalars,int .i64 (3+(((scalarsP vars fs).map str).length:Int))],.agg [int .i64 o.code,int .i64 40000],.agg [int .i64 o.arrays,int .i64 total]]) [_,_,_] rfl (eC rfl rfl (eC rfl rfl (eC rfl rfl eN))) rfl rfl rfl ?_))
 refine lO 15 (lH rfl rfl (Pure.as (lv:=.list _) rfl) ?_)
 refine lD zk ?_
 have e3:(3:Int)+(((scalarsP vars fs).map str).length:Int)=3+(ns:Nat):=by rw[hscl]
 rw[e3]
 generalize hrs:[(o.scalars,(3:Int)+(ns:Nat)),(o.code,(40000:Int)),(o.arrays,total)]=rs
 have hrl:([LV.agg [int .i64 o.scalars,int .i64 (3+(ns:Int))],.agg [int .i64 o.code,int .i64 40000],.agg [int .i64 o.arrays,int .i64 total]]:List LV)=rs.map regLV:=by rw[←hrs];rfl
 rw[hrl]
 have hlr:rs.length=3:=by rw[←hrs];rfl
 have hsz:∀ r∈rs,SmI r.2∧0≤r.2:=by
  rw[←hrs]
  intro r hr
  simp only[List.mem_cons,List.not_mem_nil,or_false] at hr
  unfold SmI
  rcases hr with rfl|rfl|rfl <;> simp only <;> omega
 have hrm:(rs.map regLV).length=rs.length:=List.length_map _
 clear hrl hrs
 generalize hR:goR [] rs=R
 refine QThen.normal ?_
 refine LCode.weak zhn ?_
 refine gat ?_
 refine oL (fun kk ls H'=>∃ (i:Nat),i≤rs.length∧kk=rs.length-i∧ls=[(8,.list (rs.map regLV)),(40,.list (rs.map regLV)),(41,int .i64 rs.length),(42,int .i64 (i:Nat))]∧H'=[]∧goR (rs.take i) (rs.drop i)=R∧∀ r∈rs.take i,insideR r=true)
  ⟨_,_,_,⟨0,Nat.zero_le _,rfl,rfl,rfl,hR,fun r hr=>by cases hr⟩,⟨rfl,rfl,int_eq zo,rfl,trivial⟩,HSub.refl _⟩ ?_
 rintro kk ls H' ⟨i,hi,rfl,rfl,rfl,hgo,hins⟩ j1 hj1
 refine gat ?_
 refine oC rfl (fun hc=>?_) (fun hc=>?_)
 rotate_left
 ·have hi':i=rs.length:=by have:=zf hc;omega
  subst hi'
  rw[List.drop_length,goR] at hgo
  refine gat ?_
  exact retRet (hj1.trans hj) (zra rfl) (bool_eq hgo)
 have hlt:i<rs.length:=by have:=zt hc;omega
 have hsi:=hsz _ (List.getElem_mem hlt)
 rw[List.drop_eq_getElem_cons hlt,goR,←List.take_succ_eq_append_getElem hlt] at hgo
 generalize hgr:rs[i]=r at hgo hsi
 refine gat ?_
 refine oP (xR (el':=regLV r) (cs:=[_,_]) rfl rfl zo (by rw[←hgr];exact map_get _ _ _ hlt) rfl rfl) rfl ?_
 refine gat ?_
 refine oS (S.alloc fun b10=>?_) rfl
 refine gat ?_
 refine oS (S.fn [_] rfl (inside_spec r hsi.1) ?_) rfl
 refine gat ?_
 refine oC rfl (fun h=>?_) (fun h=>?_)
 ·have h':insideR r=false:=by simpa using h
  rw[h',Bool.false_and,Bool.false_and] at hgo
  refine gat ?_
  exact retRet (hj1.trans hj) (zra rfl) (bool_eq hgo)
 have h':insideR r=true:=by simpa using h
 rw[h',Bool.true_and] at hgo
 have inb:∀ r:Int×Int,SmI r.2∧0≤r.2→insideR r=true→SmI r.1:=fun r h1 h2=>by
  have:0≤r.1∧r.1≤262144-r.2:=zt h2
  unfold SmI at h1 ⊢
  omega
 have hri:=inb r hsi h'
 have htl:(rs.take i).length=i:=by rw[List.length_take];omega
 have htm:((rs.take i).map regLV).length=i:=by rw[List.length_map,htl]
 have hts:((rs.map regLV).take i)=(rs.take i).map regLV:=List.map_take.symm
 refine gat ?_
 refine oP (Pure.lsliceE (i:=0) (j:=(i:Nat)) (es:=rs.map regLV) (ms:=(rs.take i).map regLV) rfl rfl ⟨_,rfl⟩ zo zo zo (fun v hv=>by obtain ⟨r,_,rfl⟩:=List.mem_map.1 hv;rfl) (by rw[Int.toNat_natCast,←hts];rfl)) rfl ?_
 refine gat ?_
 refine oL (fun kk ls H'=>∃ (x:Nat),x≤i∧kk=i-x∧ls=[(8,.list (rs.map regLV)),(10,ptr b10 0),(40,.list (rs.map regLV)),(41,int .i64 rs.length),(42,int .i64 (i:Nat)),(52,.list ((rs.take i).map regLV)),(53,int .i64 i),(54,int .i64 (x:Nat))]∧H'=[(b10,.cells 144 [int .i64 r.1,int .i64 r.2])]∧((((rs.take i).drop x).all fun s=>!meetsR r s) && goR (rs.take (i+1)) (rs.drop (i+1)))=R)
  ⟨_,_,_,⟨0,Nat.zero_le _,rfl,rfl,rfl,by rw[List.drop_zero];exact hgo⟩,⟨rfl,rfl,rfl,rfl,rfl,rfl,int_eq zo,rfl,trivial⟩,HSub.refl _⟩ ?_
 rintro kk ls H' ⟨x,hx,rfl,rfl,rfl,hall⟩ j2 hj2
 refine gat ?_
 refine oC rfl (fun hc=>?_) (fun hc=>?_)
 ·have hlx:x<(rs.take i).length:=by have:=zt hc;omega
  have hm1:=List.getElem_mem hlx
  have hss:=hsz _ (List.mem_of_mem_take hm1)
  have hsn:=inb _ hss (hins _ hm1)
  rw[List.drop_eq_getElem_cons hlx,List.all_cons] at hall
  generalize hgs:(rs.take i)[x]=s at hall hss hsn
  refine gat ?_
  refine oP (xR (el':=regLV s) (cs:=[_,_]) rfl rfl zo (by rw[←hgs];exact map_get _ _ _ hlx) rfl rfl) rfl ?_
  refine gat ?_
  refine oS (S.alloc fun b12=>?_) rfl
  refine gat ?_
  refine oS (S.fn [_,_] rfl (meets_spec r s hri hsi.1 hsn hss.1) ?_) rfl
  refine gat ?_
  refine oC rfl (fun h=>?_) (fun h=>?_)
  ·have h2:meetsR r s=true:=h
   rw[h2] at hall
   refine gat ?_
   exact retRet (hj2.trans (hj1.trans hj)) (zra rfl) (bool_eq (by rw[←hall];rfl))
  ·have h2:meetsR r s=false:=h
   rw[h2] at hall
   refine gat ?_
   exact ⟨_,_,_,by omega,⟨x+1,by omega,rfl,rfl,rfl,hall⟩,⟨rfl,rfl,rfl,rfl,rfl,rfl,rfl,int_eq zo,trivial⟩,zhD zhr,hj2⟩
 ·have hx':x=i:=by have:=zf hc;omega
  subst hx'
  rw[List.drop_eq_nil_of_le (by rw[htl];exact Nat.le_refl _)] at hall
  refine gat ?_
  exact ⟨_,_,_,by omega,⟨x+1,by omega,rfl,rfl,rfl,hall,fun q hq=>by
   rw[List.take_succ_eq_append_getElem hlt,hgr] at hq
   rcases List.mem_append.1 hq with hq|hq
   ·exact hins q hq
   ·rw[List.mem_singleton.1 hq];exact h'⟩,⟨rfl,rfl,rfl,int_eq zo,trivial⟩,HSub.nil _,hj2.trans hj1⟩
end
end Go.Proofs.YtpokklffoihafaaGreatDoor.Cmp
namespace Go.Proofs.YtpokklffoihafaaGreatDoor.Cmp
open Go.GL Go.RowKit Go.Stele
open Go.Lib (decDigits itoa join)
set_option maxRecDepth 100000
set_option maxHeartbeats 4000000
def scKV (S:Int):Nat→List Nm→KV
 |_,[]=>[]
 |i,x::r=>(x,int .i64 (S+3+(i:Nat)))::scKV S (i+1) r
theorem scKV_app (S:Int):∀ (l m:List Nm) (i:Nat),scKV S i (l++m)=scKV S i l++scKV S (i+l.length) m
 |[],m,i=>by simp[scKV]
 |x::r,m,i=>by
  rw[List.cons_append,scKV,scKV_app S r m,scKV,List.cons_append,List.length_cons,Nat.add_right_comm,Nat.add_assoc]
theorem scKV_keys (S:Int):∀ (l:List Nm) (i:Nat),(scKV S i l).map (·.1)=l
 |[],i=>rfl
 |x::r,i=>by rw[scKV,List.map_cons,scKV_keys S r]
theorem scKV_take {S:Int} {l:List Nm} {i:Nat} (h:i<l.length) (hn:l.Nodup):GL.kvPut (scKV S 0 (l.take i)) l[i] (int .i64 (S+3+(i:Nat)))=scKV S 0 (l.take (i+1)):=by
 rw[List.take_succ_eq_append_getElem h,scKV_app,List.length_take,Nat.zero_add,Nat.min_eq_left zo]
 refine kv_new ?_
 rw[scKV_keys]
 intro hm
 rw[←List.take_append_drop i l,List.drop_eq_getElem_cons h,List.nodup_append] at hn
 exact hn.2.2 _ hm _ (List.mem_cons_self ..) rfl
theorem scKV_get (S:Int) (k:Nm):∀ (l:List Nm) (i:Nat),GL.kvGet (scKV S i l) k=if k∈l then some (int .i64 (S+3+((i+l.idxOf k:Nat):Int))) else none
 |[],i=>rfl
 |x::r,i=>by
  rw[scKV,GL.kvGet]
  by_cases h:x=k
  ·rw[if_pos h,if_pos (by rw[h];exact List.mem_cons_self ..),List.idxOf_cons,h]
   simp
  ·rw[if_neg h,scKV_get S k r (i+1)]
   by_cases hm:k∈r
   ·rw[if_pos hm,if_pos (List.mem_cons_of_mem _ hm),List.idxOf_cons,cond_eq_ite,if_neg (by simpa using h)]
    congr 4
    omega
   ·rw[if_neg hm,if_neg (by rw[List.mem_cons];exact fun g=>g.elim (fun e=>h e.symm) hm)]
def arKV (l:List (Nm×Int)):KV:=l.map fun p=>(p.1,int .i64 p.2)
theorem arKV_take {l:List (Nm×Int)} {i:Nat} (h:i<l.length) (hn:(l.map (·.1)).Nodup):GL.kvPut (arKV (l.take i)) l[i].1 (int .i64 l[i].2)=arKV (l.take (i+1)):=by
 unfold arKV
 rw[List.take_succ_eq_append_getElem h,List.map_append]
 refine kv_new ?_
 rw[List.map_map]
 intro hm
 have e1:l.map (·.1)=(l.take i).map (·.1)++l[i].1::(l.drop (i+1)).map (·.1):=by
  conv=>lhs;rw[←List.take_append_drop i l,List.drop_eq_getElem_cons h]
  rw[List.map_append,List.map_cons]
 rw[e1,List.nodup_append] at hn
 exact hn.2.2 _ hm _ (List.mem_cons_self ..) rfl
theorem arKV_get (name:Nm):∀ (l:List (Nm×Int)) (a:Int),(GL.kvGet (arKV (symA a l)) name).getD (int .i64 0)=int .i64 (arrA a l name)
 |[],a=>rfl
 |(x,n)::r,a=>by
  rw[symA,arrA]
  show (GL.kvGet ((x,int .i64 a)::arKV (symA (a+n) r)) name).getD (int .i64 0)=_
  rw[GL.kvGet]
  simp only
  by_cases h:x=name
  ·rw[if_pos h,if_pos h]
   rfl
  ·rw[if_neg h,if_neg h]
   exact arKV_get name r (a+n)
def cmpLV:Except Int Wd→LV
 |.error e=>.tuple [str [],int .i64 e]
 |.ok t=>.tuple [str t,int .i64 0]
theorem tb_ok {P:Pr} {o:Org} (hF:FitN P o) (own:Nm) (ho:own.length≤1000000) (b1 b2 b3 g1 g2:Nat):TBok ⟨b1,b2,b3,scKV o.scalars 0 (scalarsP P.vars P.funcs),arKV (symA o.arrays (arrsP P)),g1,g2,o.scalars.toNat⟩ (ccF P.vars (arrsP P) P.funcs o own) own:=by
 have s0:=hF.s0
 have s1:=hF.s1
 have a0:=hF.a0
 have a1:=hF.a1
 have hp:∀ p∈arrsP P,0≤p.2:=fun p hp=>by
  obtain ⟨a,_,rfl⟩:=List.mem_map.1 hp
  exact Int.natCast_nonneg _
 have hpl:∀ k,0≤placeA (scalarsP P.vars P.funcs) o.scalars k∧placeA (scalarsP P.vars P.funcs) o.scalars k≤262144∧(k∈scalarsP P.vars P.funcs→int .i64 (o.scalars+3+((0+(scalarsP P.vars P.funcs).idxOf k:Nat):Int))=int .i64 (((placeA (scalarsP P.vars P.funcs) o.scalars k).toNat:Nat):Int)):=fun k=>by
  unfold placeA
  by_cases h:k∈scalarsP P.vars P.funcs
  ·have:=List.idxOf_lt_length_of_mem h
   rw[if_pos h]
   exact ⟨by omega,by omega,fun _=>int_eq zo⟩
  ·rw[if_neg h]
   exact ⟨by omega,by omega,fun h2=>absurd h2 h⟩
 refine ⟨fun name=>?_,fun name=>?_,?_,?_,?_,?_,ho⟩
 ·refine ⟨(placeA (scalarsP P.vars P.funcs) o.scalars (keyC (scalarsP P.vars P.funcs) own name)).toNat,?_,?_,?_⟩
  ·have:=hpl (keyC (scalarsP P.vars P.funcs) own name);omega
  ·exact itoa_pos (hpl _).1
  ·show (∃ v,GL.kvGet (scKV o.scalars 0 (scalarsP P.vars P.funcs)) (own++[46]++name)=some v∧_)∨(GL.kvGet (scKV o.scalars 0 (scalarsP P.vars P.funcs)) (own++[46]++name)=none∧(GL.kvGet (scKV o.scalars 0 (scalarsP P.vars P.funcs)) name).getD _=_)
   rw[scKV_get,scKV_get]
   unfold keyC
   by_cases h:own++[46]++name∈scalarsP P.vars P.funcs
   ·left
    rw[if_pos h,if_pos h]
    exact ⟨_,rfl,(hpl _).2.2 h⟩
   ·right
    rw[if_neg h,if_neg h]
    refine ⟨rfl,?_⟩
    by_cases h2:name∈scalarsP P.vars P.funcs
    ·rw[if_pos h2]
     exact (hpl _).2.2 h2
    ·rw[if_neg h2]
     unfold placeA
     rw[if_neg h2]
     rfl
 ·have h1:=arrA_pos (arrsP P) o.arrays a0 hp name
  have h2:=arrA_le (arrsP P) o.arrays a0 hp name
  have h3:((arrsP P).map (·.2)).sum=((totA P.arrays:Nat):Int):=totA_int P.arrays
  rw[h3] at h2
  refine ⟨(arrA o.arrays (arrsP P) name).toNat,by omega,itoa_pos h1,?_⟩
  show (GL.kvGet (arKV (symA o.arrays (arrsP P))) name).getD _=_
  rw[arKV_get]
  exact int_eq zo
 ·exact itoa_pos s0
 ·show itoa (o.scalars+1)=_
  rw[itoa_pos zo]
  congr 1
  show _=o.scalars.toNat+1
  omega
 ·show itoa (o.scalars+2)=_
  rw[itoa_pos zo]
  congr 1
  show _=o.scalars.toNat+2
  omega
 ·show o.scalars.toNat≤_
  omega
theorem nm_len {s:Nm} (h:isNm s=true):s.length≤24:=by
 unfold isNm at h
 rw[Bool.and_eq_true,Bool.and_eq_true,decide_eq_true_eq] at h
 exact h.1.1
theorem env_ok {P:Pr} (hv:Valid P) {f:FnD} (hf:f∈P.funcs) (hown:∀ x∈f.params++f.locals,x.length≤24) {kn:List FSum} (hk:Known P.funcs kn):EnvOk (envF P.vars (P.arrays.map (·.name)) (P.funcs.map (·.name)) kn f):=by
 have hfr:=fresh_zero _ _ hv.names
 refine ⟨fun s hs=>?_,fun k hk'=>?_⟩
 ·unfold scalarE at hs
  split at hs
  ·rename_i h
   rcases h with h|h
   ·exact nm_len (hfr.2 s (List.mem_append_left _ (List.mem_append_left _ h))).2
   ·exact hown s h
  ·split at hs <;> cases hs
 ·obtain ⟨g,g1,g2,_⟩:=hk k hk'
  rw[←g2]
  exact nm_len (hfr.2 _ (List.mem_append_right _ (List.mem_map_of_mem g1))).2
theorem own_short:∀ (vars arrays later:List Nm) (known:List FSum) (fs:List FnD),errFs vars arrays later known fs=0→∀ f∈fs,∀ x∈f.params++f.locals,x.length≤24
 |_,_,_,_,[],_,f,hf=>(List.not_mem_nil hf).elim
 |vars,arrays,later,known,g::l,h,f,hf=>by
  rw[errFs] at h
  obtain ⟨h1,h2⟩:=orE_zero.1 h
  rcases List.mem_cons.1 hf with rfl|hf
  ·unfold errF at h1
   intro x hx
   exact nm_len ((fresh_zero _ _ (orE_zero.1 h1).1).2 x hx).2
  ·exact own_short vars arrays later _ l h2 f hf
theorem permP5 {t s a b3 b2:Nat×LObj}:[t,b3,s,a,b2].Perm ([t,s,a]++[b3,b2]):=List.Perm.cons _ ((List.Perm.swap _ _ _).trans (List.Perm.cons _ (List.Perm.swap _ _ _)))
attribute [local irreducible] LOps LCode LStep LCalls Go.GL.Pure QThen QBlock RetPost LQ LAny LLate LLateOp LS
section
variable {B0:Nat} {w0:World}
theorem compile_spec (hG:GW B0 w0) (hM:Asm.GM w0) (vars:List Nm) (arrays:List (Nm×Int)) (fs:List FnD) (o:Org) (hv6:vars.length≤2000000) (ha6:arrays.length≤2000000) (har:∀ a∈arrays,I64 a.2) (hnd:ndFs fs≤2000000) (hnum:∀ f∈fs,numSs f.body) (o1:I64 o.code) (o2:I64 o.scalars) (o3:I64 o.arrays) :
  LCalls (KC B0 w0) 14 [Chk.encPrG vars arrays fs,orgLV o] [] (Ret (cmpLV (cmpP vars arrays fs o))):=by
 have hck:=Chk.check_spec (B0:=B0) (w0:=w0) vars arrays fs hv6 ha6 har hnd
 have hf6:=ndFs_len fs
 have hsm:∀ f∈fs,SmF f:=fun f hf=>smF_of (by have:=ndFs_mem hf;omega)
 generalize hC:cmpP vars arrays fs o=R
 unfold cmpP at hC
 have ePr:Chk.encPrG vars arrays fs=.agg [.list (vars.map str),.list (arrays.map Chk.encArG),.list (fs.map encFn)]:=rfl
 have eOr:orgLV o=.agg [int .i64 o.code,int .i64 o.scalars,int .i64 o.arrays]:=rfl
 rw[ePr,eOr]
 refine cI Tryz.func14 rfl (n:=102) rfl rfl rfl ?_
 refine gap ?_
 refine oS (S.box rfl fun b2=>?_) rfl
 refine oS (S.box rfl fun b3=>?_) rfl
 refine gap ?_
 refine oS (S.callH (H1:=[]) (F:=[_,_]) [_] rfl zpr hck ?_ (by rintro ch H' ⟨_,nm,h⟩;cases h)) rfl
 rintro lv H' ⟨rfl,nm,h⟩
 cases h
 refine gap ?_
 by_cases hc0:checkP vars arrays fs=0
 rotate_left
 ·rw[if_pos hc0] at hC
  subst hC
  refine oC rfl (fun _=>?_) (fun hc=>?_)
  ·refine gap ?_
   exact retRet rfl (rC (zrt rfl) (zra rfl)) rfl
  ·have h2:(!decide (checkP vars arrays fs=0))=false:=hc
   simp at h2
   exact absurd h2 hc0
 refine oC rfl (fun hc=>?_) (fun _=>?_)
 ·have h2:(!decide (checkP vars arrays fs=0))=true:=hc
  simp[hc0] at h2
 rw[if_neg (by simpa using hc0)] at hC
 obtain ⟨ht,hp,hPa,hPc,hV⟩:=check_parts hc0
 have hown:∀ f∈fs,∀ x∈f.params++f.locals,x.length≤24:=by
  have h:=hc0
  unfold checkP at h
  exact own_short _ _ _ _ _ (orE_zero.1 (orE_zero.1 (orE_zero.1 h).2).2).1
 have hfr:=fresh_zero _ _ hV.names
 have hfn:∀ f∈fs,f.name.length≤24:=fun f hf=>nm_len (hfr.2 _ (List.mem_append_right _ (List.mem_map_of_mem hf))).2
 have hn:∀ f∈fs,f.name.length≤1000∧∀ x∈f.params++f.locals,x.length≤1000:=fun f hf=>⟨by have:=hfn f hf;omega,fun x hx=>by have:=hown f hf x hx;omega⟩
 have hsc8:(scalarsP vars fs).length≤8000:=hV.few
 have hft:=fits_spec (B0:=B0) (w0:=w0) vars arrays fs o hv6 zo ha6 hsm hn hp ht hsc8 o1 o2 o3
 rw[ePr,eOr] at hft
 refine gap ?_
 refine oS (S.fn [_,_] rfl hft ?_) rfl
 refine gap ?_
 by_cases hfit:fitsP vars arrays fs o=true
 rotate_left
 ·rw[if_pos (by simpa using hfit)] at hC
  subst hC
  refine oC rfl (fun _=>?_) (fun hc=>?_)
  ·refine gap ?_
   exact retRet rfl (rC (zrt rfl) (zra rfl)) rfl
  ·have h2:(!fitsP vars arrays fs o)=false:=hc
   simp at h2
   exact absurd h2 hfit
 refine oC rfl (fun hc=>?_) (fun _=>?_)
 ·have h2:(!fitsP vars arrays fs o)=true:=hc
  rw[hfit] at h2
  cases h2
 rw[if_neg (by rw[hfit];decide)] at hC
 have hfitP:fitsP (prOf vars arrays fs).vars (arrsP (prOf vars arrays fs)) (prOf vars arrays fs).funcs o=true:=by rw[hPa];exact hfit
 have hF:=fit_of hfitP
 have hS:=Chk.scalars_specG (B0:=B0) (w0:=w0) (vars:=vars) (fs:=fs) (.list (arrays.map Chk.encArG)) hv6 zo hsm hn
 have hT:=hF.s1
 have hS0:=hF.s0
 have hA1:=hF.a1
 have hA0:=hF.a0
 have hkeys:(scalarsP vars fs).Nodup:=hV.keys
 have htot:(arrays.map (·.2)).sum=((totA (prOf vars arrays fs).arrays:Nat):Int):=by
  have:=totA_int (prOf vars arrays fs).arrays
  rw[←this]
  congr 2
  exact hPa.symm
 have hAs:=arrays_spec (B0:=B0) (w0:=w0) vars arrays fs o ha6 hp hA0 (by rw[htot];omega)
 rw[ePr,eOr] at hAs
 have hT2:o.scalars.toNat+3+(scalarsP vars fs).length≤262144:=hT
 refine gap ?_
 refine oS (S.kvNew fun sm=>?_) rfl
 refine oS (S.kvNew fun am=>?_) rfl
 refine gap ?_
 refine oS (S.box rfl fun tb=>?_) rfl
 refine gap ?_
 refine oS (S.fn [_] rfl hS ?_) rfl
 have hsl:((scalarsP vars fs).map str).length=(scalarsP vars fs).length:=List.length_map _
 refine gap ?_
 generalize hsl2:scalarsP vars fs=sl at *
 refine oL (fun kk ls H'=>∃ (i g1:Nat),i≤sl.length∧kk=sl.length-i∧ls=[(2,ptr b2 0),(3,ptr b3 0),(8,ptr tb 0),(39,.list (sl.map str)),(40,int .i64 sl.length),(41,int .i64 (i:Nat))]∧H'=[(tb,.cells 72 [nilSlice,int .i64 0,int .i64 o.scalars,.atom (.map (some sm)),.atom (.map (some am)),str []]),(b3,.cells 28 [int .i64 o.code,int .i64 o.scalars,int .i64 o.arrays]),(sm,.map (kvs (scKV o.scalars 0 (sl.take i))) g1),(am,.map (kvs []) 0),(b2,.cells 26 [.list (vars.map str),.list (arrays.map Chk.encArG),.list (fs.map encFn)])])
  ⟨_,_,_,⟨0,0,Nat.zero_le _,rfl,rfl,rfl⟩,⟨rfl,rfl,rfl,rfl,int_eq zo,rfl,trivial⟩,zhP pH (zhP zp2 (zhP zp1 zhr))⟩ ?_
 rintro kk ls H' ⟨i,g1,hi,rfl,rfl,rfl⟩ j hj
 refine gap ?_
 refine oC rfl (fun hc=>?_) (fun hc=>?_)
 ·have hlt:i<sl.length:=by have:=zt hc;omega
  have htk:=scKV_take (S:=o.scalars) hlt hkeys
  refine gap ?_
  refine oP (xR (el':=str sl[i]) (cs:=[str sl[i]]) rfl rfl zo (map_get _ _ _ hlt) rfl rfl) rfl ?_
  refine gap ?_
  refine LCode.draw (m:=11) rfl [(tb,.cells 72 [nilSlice,int .i64 0,int .i64 o.scalars,.atom (.map (some sm)),.atom (.map (some am)),str []]),(b3,.cells 28 [int .i64 o.code,int .i64 o.scalars,int .i64 o.arrays])] ?_
  first|refine aT 0 rfl rfl (Pure.mv (lv:=.atom _) rfl) ?_|refine aT 0 rfl rfl (Pure.mv (lv:=.ref _) rfl) ?_
  first|refine aT 1 rfl rfl (Pure.nilCheckH rfl) ?_|refine aT 1 rfl rfl (Pure.nilCheckRef rfl) ?_
  first|refine aT 2 rfl rfl (Pure.fieldH rfl) ?_|refine aT 2 rfl rfl (Pure.field1 rfl rfl) ?_
  first|refine aT 3 rfl rfl (Pure.loadRef (c:=.atom _) rfl rfl) ?_|refine aT 3 rfl rfl (Pure.loadH (c:=.atom _) rfl zm0 rfl) ?_|refine aT 3 rfl rfl (Pure.loadH (c:=.atom _) rfl zm1 rfl) ?_|refine aT 3 rfl rfl (Pure.loadH (c:=.atom _) rfl zm2 rfl) ?_|refine aT 3 rfl rfl (Pure.loadH (c:=.atom _) rfl zm3 rfl) ?_|refine aT 3 rfl rfl (Pure.loadH (c:=.atom _) rfl zm4 rfl) ?_|refine aT 3 rfl rfl (Pure.loadH (c:=.atom _) rfl zm5 rfl) ?_
  first|refine aT 4 rfl rfl (Pure.mv (lv:=.atom _) rfl) ?_
  first|refine aT 5 rfl rfl (Pure.fieldH rfl) ?_|refine aT 5 rfl rfl (Pure.field1 rfl rfl) ?_
  first|refine aT 6 rfl rfl (Pure.loadRef (c:=.atom _) rfl rfl) ?_|refine aT 6 rfl rfl (Pure.loadH (c:=.atom _) rfl zm0 rfl) ?_|refine aT 6 rfl rfl (Pure.loadH (c:=.atom _) rfl zm1 rfl) ?_|refine aT 6 rfl rfl (Pure.loadH (c:=.atom _) rfl zm2 rfl) ?_|refine aT 6 rfl rfl (Pure.loadH (c:=.atom _) rfl zm3 rfl) ?_|refine aT 6 rfl rfl (Pure.loadH (c:=.atom _) rfl zm4 rfl) ?_|refine aT 6 rfl rfl (Pure.loadH (c:=.atom _) rfl zm5 rfl) ?_
  first|refine aT 7 rfl rfl (Pure.add rfl rfl zo) ?_
  first|refine aT 8 rfl rfl (Pure.mv (lv:=.atom _) rfl) ?_
  first|refine aT 9 rfl rfl (Pure.add rfl rfl zo) ?_
  refine LAny.late ?_ hsubP2
  refine lO 10 (lS (H1:=[(sm,.map (kvs (scKV o.scalars 0 (sl.take i))) g1)]) rfl (.inl rfl) rfl (show Pick _ _ _ from pT zp1) hsubP2 (S.kvSet (k:=sl[i]) (lv:=int .i64 (o.scalars+3+(i:Nat))) rfl rfl rfl pH fun g1'=>?_))
  rw[htk]
  refine lD zk ?_
  refine gap ?_
  exact ⟨_,_,_,by omega,⟨i+1,g1',by omega,rfl,rfl,rfl⟩,⟨rfl,rfl,rfl,rfl,rfl,int_eq zo,trivial⟩,zhP zp1 (zhP zp1 zhr),hj⟩
 have hi':i=sl.length:=by have:=zf hc;omega
 subst hi'
 rw[List.take_length]
 have hyl:=symA_len arrays o.arrays
 have hyn:((symA o.arrays arrays).map (·.1)).Nodup:=by
  rw[symA_names]
  have h1:=(List.nodup_append.1 (List.nodup_append.1 hfr.1).1).2.1
  have e1:(prOf vars arrays fs).arrays.map (·.name)=arrays.map (·.1):=by
   unfold prOf
   rw[List.map_map]
   rfl
  rw[e1] at h1
  exact h1
 have hym:((symA o.arrays arrays).map symLV).length=(symA o.arrays arrays).length:=List.length_map _
 refine gap ?_
 refine oS (S.fn [_,_] rfl hAs ?_) rfl
 refine gap ?_
 generalize hyy:symA o.arrays arrays=ys at *
 refine oC rfl (fun h=>by cases h) (fun _=>?_)
 refine gap ?_
 refine oL (fun kk ls H'=>∃ (i g2:Nat),i≤ys.length∧kk=ys.length-i∧ls=[(2,ptr b2 0),(3,ptr b3 0),(8,ptr tb 0),(66,.list (ys.map symLV)),(67,int .i64 ys.length),(68,int .i64 (i:Nat))]∧H'=[(tb,.cells 72 [nilSlice,int .i64 0,int .i64 o.scalars,.atom (.map (some sm)),.atom (.map (some am)),str []]),(b3,.cells 28 [int .i64 o.code,int .i64 o.scalars,int .i64 o.arrays]),(sm,.map (kvs (scKV o.scalars 0 sl)) g1),(am,.map (kvs (arKV (ys.take i))) g2),(b2,.cells 26 [.list (vars.map str),.list (arrays.map Chk.encArG),.list (fs.map encFn)])])
  ⟨_,_,_,⟨0,0,Nat.zero_le _,rfl,rfl,rfl⟩,⟨rfl,rfl,rfl,rfl,int_eq zo,rfl,trivial⟩,HSub.refl _⟩ ?_
 rintro kk ls H' ⟨i,g2,hi,rfl,rfl,rfl⟩ j2 hj2
 refine gap ?_
 refine oC rfl (fun hc=>?_) (fun hc=>?_)
 ·have hlt:i<ys.length:=by have:=zt hc;omega
  have htk:=arKV_take hlt hyn
  refine gap ?_
  refine oP (xR (el':=symLV ys[i]) (cs:=[_,_]) rfl rfl zo (map_get _ _ _ hlt) rfl rfl) rfl ?_
  refine gap ?_
  refine oS (S.alloc fun b14=>?_) rfl
  refine gap ?_
  refine LCode.draw (m:=9) rfl [(b14,.cells 77 [str ys[i].1,int .i64 ys[i].2]),(tb,.cells 72 [nilSlice,int .i64 0,int .i64 o.scalars,.atom (.map (some sm)),.atom (.map (some am)),str []])] ?_
  first|refine aT 0 rfl rfl (Pure.mv (lv:=.atom _) rfl) ?_|refine aT 0 rfl rfl (Pure.mv (lv:=.ref _) rfl) ?_
  first|refine aT 1 rfl rfl (Pure.nilCheckH rfl) ?_|refine aT 1 rfl rfl (Pure.nilCheckRef rfl) ?_
  first|refine aT 2 rfl rfl (Pure.fieldH rfl) ?_|refine aT 2 rfl rfl (Pure.field1 rfl rfl) ?_
  first|refine aT 3 rfl rfl (Pure.loadRef (c:=.atom _) rfl rfl) ?_|refine aT 3 rfl rfl (Pure.loadH (c:=.atom _) rfl zm0 rfl) ?_|refine aT 3 rfl rfl (Pure.loadH (c:=.atom _) rfl zm1 rfl) ?_|refine aT 3 rfl rfl (Pure.loadH (c:=.atom _) rfl zm2 rfl) ?_|refine aT 3 rfl rfl (Pure.loadH (c:=.atom _) rfl zm3 rfl) ?_|refine aT 3 rfl rfl (Pure.loadH (c:=.atom _) rfl zm4 rfl) ?_|refine aT 3 rfl rfl (Pure.loadH (c:=.atom _) rfl zm5 rfl) ?_
  first|refine aT 4 rfl rfl (Pure.fieldH rfl) ?_|refine aT 4 rfl rfl (Pure.field1 rfl rfl) ?_
  first|refine aT 5 rfl rfl (Pure.loadRef (c:=.atom _) rfl rfl) ?_|refine aT 5 rfl rfl (Pure.loadH (c:=.atom _) rfl zm0 rfl) ?_|refine aT 5 rfl rfl (Pure.loadH (c:=.atom _) rfl zm1 rfl) ?_|refine aT 5 rfl rfl (Pure.loadH (c:=.atom _) rfl zm2 rfl) ?_|refine aT 5 rfl rfl (Pure.loadH (c:=.atom _) rfl zm3 rfl) ?_|refine aT 5 rfl rfl (Pure.loadH (c:=.atom _) rfl zm4 rfl) ?_|refine aT 5 rfl rfl (Pure.loadH (c:=.atom _) rfl zm5 rfl) ?_
  first|refine aT 6 rfl rfl (Pure.fieldH rfl) ?_|refine aT 6 rfl rfl (Pure.field1 rfl rfl) ?_
  first|refine aT 7 rfl rfl (Pure.loadRef (c:=.atom _) rfl rfl) ?_|refine aT 7 rfl rfl (Pure.loadH (c:=.atom _) rfl zm0 rfl) ?_|refine aT 7 rfl rfl (Pure.loadH (c:=.atom _) rfl zm1 rfl) ?_|refine aT 7 rfl rfl (Pure.loadH (c:=.atom _) rfl zm2 rfl) ?_|refine aT 7 rfl rfl (Pure.loadH (c:=.atom _) rfl zm3 rfl) ?_|refine aT 7 rfl rfl (Pure.loadH (c:=.atom _) rfl zm4 rfl) ?_|refine aT 7 rfl rfl (Pure.loadH (c:=.atom _) rfl zm5 rfl) ?_
  refine LAny.late ?_ hsubP2
  refine lO 8 (lS (H1:=[(am,.map (kvs (arKV (ys.take i))) g2)]) rfl (.inl rfl) rfl (show Pick _ _ _ from pT zp3) hsubP2 (S.kvSet (k:=ys[i].1) (lv:=int .i64 ys[i].2) rfl rfl rfl pH fun g2'=>?_))
  rw[htk]
  refine lD zk ?_
  refine gap ?_
  exact ⟨_,_,_,by omega,⟨i+1,g2',by omega,rfl,rfl,rfl⟩,⟨rfl,rfl,rfl,rfl,rfl,int_eq zo,trivial⟩,zhP zp2 (zhP zp2 (zhP zp2 (zhP pH (zhD zhr)))),hj2⟩
 have hi':i=ys.length:=by have:=zf hc;omega
 subst hi'
 rw[List.take_length]
 have htb:=fun own ho=>tb_ok (P:=prOf vars arrays fs) hF own ho tb sm am g1 g2
 rw[hPa] at htb
 have hW:=prW_tot hPc hnum hfitP hnd
 have hjt:=join_tot (wordsC (prOf vars arrays fs) o)
 have hwc:wordsC (prOf vars arrays fs) o=prW vars arrays fs o:=by
  unfold wordsC
  rw[hPa]
  rfl
 rw[hwc] at hW hjt
 have hcc:ccF (prOf vars arrays fs).vars arrays (prOf vars arrays fs).funcs o=ccF vars arrays fs o:=rfl
 rw[hPa,hcc] at hW
 have hwl:=tot_len (prW vars arrays fs o)
 have hnf:ndFs (prOf vars arrays fs).funcs=ndFs fs:=rfl
 rw[hnf] at hW
 have hpw:prW vars arrays fs o=[[38,102,95,109,97,105,110],[58],decDigits o.scalars.toNat,[33],[36]]++(fnWs (ccF vars arrays fs o) 0 fs).1:=by
  unfold prW
  rw[itoa_pos hS0]
 have hpl:(prW vars arrays fs o).length=5+(fnWs (ccF vars arrays fs o) 0 fs).1.length:=by
  rw[hpw,List.length_append]
  rfl
 have hTr:TrH ⟨tb,sm,am,scKV o.scalars 0 sl,arKV ys,g1,g2,o.scalars.toNat⟩ [] [] 0 [(tb,.cells 72 [nilSlice,int .i64 0,int .i64 o.scalars,.atom (.map (some sm)),.atom (.map (some am)),str []]),(sm,.map (kvs (scKV o.scalars 0 sl)) g1),(am,.map (kvs (arKV ys)) g2)]:=⟨nilSlice,[],Acc.nil,by
  simp only
  rw[Int.toNat_of_nonneg hS0]
  rfl⟩
 have hpg:=program_spec (B0:=B0) (w0:=w0) hG (k:=⟨tb,sm,am,scKV o.scalars 0 sl,arKV ys,g1,g2,o.scalars.toNat⟩) (cc:=ccF vars arrays fs o) (by show o.scalars.toNat≤_;omega) vars arrays fs hnd (fun f hf=>by
  obtain ⟨kn,k1,k2⟩:=hV.bodies f hf
  refine ⟨?_,hfn f hf,fun p hp=>by have:=hown f hf p (List.mem_append_left _ hp);omega,hnum f hf,_,env_ok hV hf (hown f hf) k2,k1⟩
  have:=htb f.name (by have:=hfn f hf;omega)
  rw[←hsl2,←hyy]
  exact this) (own0:=[]) (c0:=ccF vars arrays fs o []) (by
  have:=htb [] (by decide)
  rw[←hsl2,←hyy]
  exact this) _ hTr zo
 rw[ePr] at hpg
 refine gap ?_
 refine oS (S.callT (F:=[_,_]) [_,_] rfl permP5 hpg fun H2 h2=>?_) rfl
 obtain ⟨own,n,h2⟩:=h2
 rw[←hpw] at h2
 generalize prW vars arrays fs o=W at *
 obtain ⟨v,Hv,hacc,rfl⟩:=h2
 have j0:=Asm.joinS_spec (B0:=B0) (w0:=w0) [32] W zo zo
 have hasm:=Asm.assemble_spec (B0:=B0) (w0:=w0) hG hM (join W [32]) o.code zo
 refine gap ?_
 refine oP (Pure.loadH (c:=v) rfl zm2 rfl) rfl ?_
 refine LOps.sub 87 rfl hacc.sub ?_
 refine oS (S.fn [_,_] rfl j0 ?_) rfl
 refine gap ?_
 cases hx:asmP (join W [32]) o.code with
 |error e=>
  rw[hx] at hasm hC
  simp only at hC
  subst hC
  refine oS (S.fn [_,_] rfl hasm ?_) rfl
  unfold Asm.asmLV
  refine gap ?_
  have he:¬ (e.2:Int)=0:=by
   have h3:=hF.c1
   have h4:=hF.c0
   have:=asm_vals zo hx
   omega
  refine oC rfl (fun _=>?_) (fun hc=>?_)
  ·refine gap ?_
   exact retRet (hj2.trans hj) (rC (zrt rfl) (zra rfl)) rfl
  ·have h2:(!decide ((e.2:Int)=0))=false:=hc
   simp at h2
   omega
 |ok x=>
  rw[hx] at hasm hC
  simp only at hC
  subst hC
  refine oS (S.fn [_,_] rfl hasm ?_) rfl
  unfold Asm.asmLV
  refine gap ?_
  refine oC rfl (fun hc=>by cases hc) (fun _=>?_)
  refine gap ?_
  exact retRet (hj2.trans hj) (rC (zrt rfl) (zra rfl)) rfl
end
end Go.Proofs.YtpokklffoihafaaGreatDoor.Cmp
set_option maxRecDepth 100000
namespace Go.Stele
mutual
theorem PE_nd:∀ {e:Ex} {k:Nat} {ts:List KT} {d:Nat},PE e k ts d→ndE e≤ts.length∧numE e
 |_,_,_,_,.num h=>⟨by rw[ndE,ndEs];exact Nat.le_refl _,by rw[numE];exact ⟨h,trivial⟩⟩
 |_,_,_,_,.var h=>⟨by rw[ndE,ndEs];exact Nat.le_refl _,by rw[numE];exact ⟨by unfold Lt;omega,trivial⟩⟩
 |_,_,_,_,.elem h ha=>by
  obtain ⟨h1,h2⟩:=PE_nd ha
  refine ⟨?_,?_⟩
  ·rw[ndE,ndEs,ndEs]
   simp only[List.length_append,List.length_cons,List.length_nil]
   omega
  ·rw[numE,numEs,numEs]
   exact ⟨by unfold Lt;omega,h2,trivial⟩
 |_,_,_,_,.call h hl=>by
  obtain ⟨h1,h2⟩:=PEs_nd hl
  refine ⟨?_,?_⟩
  ·rw[ndE]
   simp only[List.length_append,List.length_cons,List.length_nil]
   omega
  ·rw[numE]
   exact ⟨by unfold Lt;omega,h2⟩
 |_,_,_,_,.neg ha=>by
  obtain ⟨h1,h2⟩:=PE_nd ha
  refine ⟨?_,?_⟩
  ·rw[ndE,ndEs,ndEs]
   simp only[List.length_append,List.length_cons,List.length_nil]
   omega
  ·rw[numE,numEs,numEs]
   exact ⟨by unfold Lt;omega,h2,trivial⟩
 |_,_,_,_,.not ha=>by
  obtain ⟨h1,h2⟩:=PE_nd ha
  refine ⟨?_,?_⟩
  ·rw[ndE,ndEs,ndEs]
   simp only[List.length_append,List.length_cons,List.length_nil]
   omega
  ·rw[numE,numEs,numEs]
   exact ⟨by unfold Lt;omega,h2,trivial⟩
 |_,_,_,_,.bin hs ho hk ha hb=>by
  obtain ⟨h1,h2⟩:=PE_nd ha
  obtain ⟨h3,h4⟩:=PE_nd hb
  refine ⟨?_,?_⟩
  ·rw[ndE,ndEs,ndEs,ndEs]
   simp only[List.length_append,List.length_cons,List.length_nil]
   omega
  ·rw[numE,numEs,numEs,numEs]
   exact ⟨by unfold Lt;omega,h2,h4,trivial⟩
 |_,_,_,_,.par hs ho hk ha hb=>by
  obtain ⟨h1,h2⟩:=PE_nd ha
  obtain ⟨h3,h4⟩:=PE_nd hb
  refine ⟨?_,?_⟩
  ·rw[ndE,ndEs,ndEs,ndEs]
   simp only[List.length_append,List.length_cons,List.length_nil]
   omega
  ·rw[numE,numEs,numEs,numEs]
   exact ⟨by unfold Lt;omega,h2,h4,trivial⟩
theorem PEs_nd:∀ {l:List Ex} {ts:List KT} {d:Nat},PEs l ts d→ndEs l≤ts.length∧numEs l
 |_,_,_,.nil=>⟨by rw[ndEs];exact Nat.zero_le _,by rw[numEs];trivial⟩
 |_,_,_,.one ha=>by
  obtain ⟨h1,h2⟩:=PE_nd ha
  rw[ndEs,ndEs,numEs,numEs]
  exact ⟨by omega,h2,trivial⟩
 |_,_,_,.more ha hl=>by
  obtain ⟨h1,h2⟩:=PE_nd ha
  obtain ⟨h3,h4⟩:=PEs_nd hl
  refine ⟨?_,?_⟩
  ·rw[ndEs]
   simp only[List.length_append,List.length_cons]
   omega
  ·rw[numEs]
   exact ⟨h2,h4⟩
end
theorem one_nd {e:Ex} {ts:List KT} {d:Nat} (h:PE e 0 ts d):ndEs [e]≤ts.length∧numEs [e]:=PEs_nd (.one h)
mutual
theorem PS_nd:∀ {s:Sm} {ts:List KT} {d:Nat},PS s ts d→ndS s≤ts.length∧numS s
 |_,_,_,.assign h he=>by
  obtain ⟨h1,h2⟩:=one_nd he
  refine ⟨?_,?_⟩
  ·rw[ndS,ndEs,ndSs]
   simp only[List.length_append,List.length_cons,List.length_nil]
   omega
  ·rw[numS,numSs]
   exact ⟨by rw[numEs];trivial,h2,trivial,trivial⟩
 |_,_,_,.store h hx he=>by
  obtain ⟨h1,h2⟩:=one_nd he
  obtain ⟨h3,h4⟩:=one_nd hx
  refine ⟨?_,?_⟩
  ·rw[ndS,ndSs]
   simp only[List.length_append,List.length_cons,List.length_nil]
   omega
  ·rw[numS,numSs]
   exact ⟨h4,h2,trivial,trivial⟩
 |_,_,_,.call h hl=>by
  obtain ⟨h1,h2⟩:=PEs_nd hl
  refine ⟨?_,?_⟩
  ·rw[ndS,ndSs,ndEs,ndEs,ndEs,ndE]
   simp only[List.length_append,List.length_cons,List.length_nil]
   omega
  ·rw[numS,numSs,numEs,numEs,numEs,numE]
   exact ⟨trivial,⟨⟨by unfold Lt;omega,h2⟩,trivial⟩,trivial,trivial⟩
 |_,_,_,.ret he=>by
  obtain ⟨h1,h2⟩:=one_nd he
  refine ⟨?_,?_⟩
  ·rw[ndS,ndSs]
   simp only[List.length_append,List.length_cons,List.length_nil]
   have:ndEs []=0:=by rw[ndEs]
   omega
  ·rw[numS,numSs]
   exact ⟨by rw[numEs];trivial,h2,trivial,trivial⟩
 |_,_,_,.halt=>by
  refine ⟨?_,?_⟩
  ·rw[ndS,ndSs,ndEs]
   simp only[List.length_cons,List.length_nil]
   omega
  ·rw[numS,numSs,numEs]
   exact ⟨trivial,trivial,trivial,trivial⟩
 |_,_,_,.ifElse he h1 h2 hne=>by
  obtain ⟨a1,a2⟩:=one_nd he
  obtain ⟨b1,b2⟩:=PSs_nd h1
  obtain ⟨c1,c2⟩:=PSs_nd h2
  refine ⟨?_,?_⟩
  ·rw[ndS]
   simp only[List.length_append,List.length_cons,List.length_nil]
   have:ndEs []=0:=by rw[ndEs]
   omega
  ·rw[numS]
   exact ⟨by rw[numEs];trivial,a2,b2,c2⟩
 |_,_,_,.ifThen he h1=>by
  obtain ⟨a1,a2⟩:=one_nd he
  obtain ⟨b1,b2⟩:=PSs_nd h1
  refine ⟨?_,?_⟩
  ·rw[ndS]
   simp only[List.length_append,List.length_cons,List.length_nil]
   have:ndEs []=0:=by rw[ndEs]
   have:ndSs []=0:=by rw[ndSs]
   omega
  ·rw[numS]
   exact ⟨by rw[numEs];trivial,a2,b2,by rw[numSs];trivial⟩
 |_,_,_,.while he h1=>by
  obtain ⟨a1,a2⟩:=one_nd he
  obtain ⟨b1,b2⟩:=PSs_nd h1
  refine ⟨?_,?_⟩
  ·rw[ndS]
   simp only[List.length_append,List.length_cons,List.length_nil]
   have:ndEs []=0:=by rw[ndEs]
   have:ndSs []=0:=by rw[ndSs]
   omega
  ·rw[numS]
   exact ⟨by rw[numEs];trivial,a2,b2,by rw[numSs];trivial⟩
theorem PSs_nd:∀ {l:List Sm} {ts:List KT} {d:Nat},PSs l ts d→ndSs l≤ts.length∧numSs l
 |_,_,_,.nil=>⟨by rw[ndSs];exact Nat.zero_le _,by rw[numSs];trivial⟩
 |_,_,_,.cons h hl=>by
  obtain ⟨h1,h2⟩:=PS_nd h
  obtain ⟨h3,h4⟩:=PSs_nd hl
  refine ⟨?_,?_⟩
  ·rw[ndSs]
   simp only[List.length_append]
   omega
  ·rw[numSs]
   exact ⟨h2,h4⟩
end
theorem PFs_nd:∀ (fs:List FnD) (ts:List KT),PFs fs ts→ndFs fs≤ts.length∧∀ f∈fs,numSs f.body
 |[],ts,h=>⟨by rw[ndFs];exact Nat.zero_le _,fun f hf=>(List.not_mem_nil hf).elim⟩
 |f::fs,ts,h=>by
  cases h with
  |cons h hd hl=>
   obtain ⟨h1,h2⟩:=PFs_nd fs _ hl
   cases h with
   |mk hn hp hlo hb=>
    rename_i nm ps ls b ts' d'
    obtain ⟨h3,h4⟩:=PSs_nd hb
    have h5:=commas_ge ps
    have h6:=varK_ge ls
    refine ⟨?_,?_⟩
    ·rw[ndFs]
     unfold ndF
     simp only[List.length_append,List.length_cons,List.length_nil]
     omega
    ·intro f hf
     rcases List.mem_cons.1 hf with rfl|hf
     ·exact h4
     ·exact h2 f hf
theorem arKs_len (l:List Ar):l.length≤((l.map arK).flatten).length:=by
 induction l with
 |nil=>exact Nat.zero_le _
 |cons a l ih=>
  rw[List.map_cons,List.flatten_cons,List.length_append]
  unfold arK
  simp only[List.length_cons,List.length_nil]
  unfold arK at ih
  omega
structure SzP (p:Pr) (n:Nat):Prop where
 vars:p.vars.length≤n
 arrays:p.arrays.length≤n
 size:∀ a∈p.arrays,a.size<4294967296
 funcs:ndFs p.funcs≤n
 nums:∀ f∈p.funcs,numSs f.body
theorem PP_nd {p:Pr} {ts:List KT} (h:PP p ts):SzP p ts.length:=by
 cases h with
 |mk hv ha hf=>
  rename_i v a f ts
  obtain ⟨h1,h2⟩:=PFs_nd f ts hf
  have h3:=varK_ge v
  have h4:=arKs_len a
  refine ⟨?_,?_,fun x hx=>(ha x hx).2,?_,h2⟩ <;> · simp only[List.length_append];omega
theorem SzP.mono {p:Pr} {n m:Nat} (h:SzP p n) (hm:n≤m):SzP p m:=
 ⟨Nat.le_trans h.vars hm,Nat.le_trans h.arrays hm,h.size,Nat.le_trans h.funcs hm,h.nums⟩
theorem parse_sz {s:List UInt8} {T:List Tok} {p:Pr} {i op:Nat} (hT:lexAt s 1=.ok T) (hs:sProg T (10 * T.length+20) ⟨[],[],[]⟩ 0 0=some (.ok p i op)):SzP p s.length:=by
 obtain ⟨ts,h3,h4⟩:=src_print (lexP_again _ _ _ _ hT) hs
 exact (PP_nd h3).mono (Nat.le_trans h4 (lexP_ok _ _ _ _ hT).1)
end Go.Stele
namespace Go.Proofs.YtpokklffoihafaaGreatDoor.Inp
open Go.GL Go.RowKit Go.Stele
set_option maxRecDepth 100000
set_option maxHeartbeats 4000000
theorem parse_both {s:List UInt8} (hs:s.length≤60000):∃ l,parseP s=((parseQ s).1,l,(parseQ s).2)∧SzP (parseQ s).1 s.length:=by
 have h0:SzP ⟨[],[],[]⟩ s.length:=⟨Nat.zero_le _,Nat.zero_le _,fun a ha=>(List.not_mem_nil ha).elim,Nat.zero_le _,fun a ha=>(List.not_mem_nil ha).elim⟩
 have hL:lexAllP s=lexAt s 1:=by
  unfold lexAllP
  rw[if_neg zo]
  rfl
 unfold parseP parseQ
 rw[hL]
 cases hT:lexAt s 1 with
 |error x=>
  obtain ⟨l,e⟩:=x
  exact ⟨l,rfl,h0⟩
 |ok T=>
  simp only
  obtain ⟨r,hr⟩:=sProg_ends T (10 * T.length+20) noPr 0 0 (Nat.zero_le _) zo
  have hr':sProg T (10 * T.length+20) ⟨[],[],[]⟩ 0 0=some r:=hr
  rw[hr,hr']
  cases r with
  |err l e=>exact ⟨l,rfl,h0⟩
  |ok p i op=>exact ⟨0,rfl,parse_sz hT hr'⟩
theorem encPr_eq (p:Pr):encPr p=Chk.encPrG p.vars (p.arrays.map fun a=>(a.name,(a.size:Int))) p.funcs:=by
 unfold encPr Chk.encPrG
 rw[List.map_map]
 rfl
attribute [local irreducible] LOps LCode LStep LCalls Go.GL.Pure QThen QBlock RetPost LQ LAny LLate LLateOp LS
section
variable {B0:Nat} {w0:World}
end
end Go.Proofs.YtpokklffoihafaaGreatDoor.Inp
namespace Go.Proofs.YtpokklffoihafaaGreatDoor.Cmp
open Go.GL Go.RowKit Go.Stele
open Go.Lib (decDigits itoa join)
set_option maxRecDepth 100000
set_option maxHeartbeats 4000000
def bldR (r:Pr×Int×Int) (o:Org):Wd×Int×Int:=if r.2.2≠0 then ([],r.2.1,r.2.2) else match buildC r.1.vars (arrsP r.1) r.1.funcs o with
 |.error e=>([],0,e)
 |.ok x=>(x,0,0)
def bldLV (b:Wd×Int×Int):LV:=.tuple [str b.1,int .i64 b.2.1,int .i64 b.2.2]
theorem parse_size (s:List UInt8):SzP (parseP s).1 60000:=by
 by_cases h:s.length≤60000
 ·obtain ⟨l,h1,h2⟩:=Inp.parse_both h
  rw[h1]
  exact ⟨Nat.le_trans h2.vars h,Nat.le_trans h2.arrays h,h2.size,Nat.le_trans h2.funcs h,h2.nums⟩
 ·have h0:SzP ⟨[],[],[]⟩ 60000:=⟨Nat.zero_le _,Nat.zero_le _,fun a ha=>(List.not_mem_nil ha).elim,Nat.zero_le _,fun a ha=>(List.not_mem_nil ha).elim⟩
  have hL:lexAllP s=.error (0,6):=by unfold lexAllP;rw[if_pos zo]
  have:parseP s=(noPr,0,6):=by unfold parseP;rw[hL]
  rw[this]
  exact h0
theorem asm_len {p:Pr} {n:Nat} (hsz:SzP p n) {o:Org} {t:Wd} (hn:n≤2000000:=by decide) (hcm:cmpP p.vars (arrsP p) p.funcs o=.ok t):t.length≤300000000:=by
 have h0:=hcm
 have hpc:checkP p.vars (arrsP p) p.funcs=0:=by
  unfold cmpP at h0
  split at h0
  ·cases h0
  ·rename_i h;exact Classical.not_not.1 h
 have hft:fitsP p.vars (arrsP p) p.funcs o=true:=by
  unfold cmpP at h0
  split at h0
  ·cases h0
  split at h0
  ·cases h0
  rename_i h;simpa using h
 have hts:t=join (prW p.vars (arrsP p) p.funcs o) [32]:=by
  unfold cmpP at h0
  split at h0
  ·cases h0
  split at h0
  ·cases h0
  split at h0
  ·cases h0
  injection h0 with h0
  exact h0.symm
 have hw:=(prW_tot (P:=p) (o:=o) hpc hsz.nums hft (Nat.le_trans hsz.funcs hn)).1
 have hj:=join_tot (prW p.vars (arrsP p) p.funcs o)
 have hw2:tot (prW p.vars (arrsP p) p.funcs o)≤60+60 * ndFs p.funcs:=hw
 have:=hsz.funcs
 rw[hts]
 omega
attribute [local irreducible] LOps LCode LStep LCalls Go.GL.Pure QThen QBlock RetPost LQ LAny LLate LLateOp LS
section
variable {B0:Nat} {w0:World}
theorem compile_pr (hG:GW B0 w0) (hM:Asm.GM w0) {p:Pr} {n:Nat} (h:SzP p n) (hn:n≤2000000) (o:Org) (o1:I64 o.code) (o2:I64 o.scalars) (o3:I64 o.arrays):LCalls (KC B0 w0) 14 [encPr p,orgLV o] [] (Ret (cmpLV (cmpP p.vars (arrsP p) p.funcs o))):=by
 rw[Inp.encPr_eq]
 exact compile_spec hG hM _ _ _ o (Nat.le_trans h.vars hn) (by rw[List.length_map];exact Nat.le_trans h.arrays hn) (fun a ha=>by
  obtain ⟨x,hx,rfl⟩:=List.mem_map.1 ha
  have:=h.size x hx
  constructor
  ·show (-9223372036854775808:Int)≤(x.size:Int)
   omega
  ·show (x.size:Int)<9223372036854775808
   omega) (Nat.le_trans h.funcs hn) h.nums o1 o2 o3
theorem build_spec (hG:GW B0 w0) (hM:Asm.GM w0) (s:List UInt8) (o:Org) (o1:I64 o.code) (o2:I64 o.scalars) (o3:I64 o.arrays):LCalls (KC B0 w0) 16 [str s,orgLV o] [] (Ret (bldLV (bldR (parseP s) o))):=by
 have hps:=parse_any (B0:=B0) (w0:=w0) hG s
 have hsz:=parse_size s
 generalize parseP s=r at hps hsz ⊢
 obtain ⟨p,l,e⟩:=r
 simp only at hsz
 have hcp:=compile_pr (B0:=B0) (w0:=w0) hG hM hsz (by decide) o o1 o2 o3
 generalize hR:bldR (p,l,e) o=R
 unfold bldR at hR
 simp only at hR
 have eOr:orgLV o=.agg [int .i64 o.code,int .i64 o.scalars,int .i64 o.arrays]:=rfl
 rw[eOr] at hcp ⊢
 refine cI Tryz.func16 rfl (n:=44) rfl rfl rfl ?_
 refine gaj ?_
 refine oS (S.box rfl fun b3=>?_) rfl
 refine gaj ?_
 refine oS (S.fn [_] rfl hps ?_) rfl
 unfold encParse
 simp only
 refine gaj ?_
 refine oS (S.alloc fun b7=>?_) rfl
 refine gaj ?_
 by_cases hc0:e=0
 rotate_left
 ·rw[if_pos hc0] at hR
  subst hR
  refine oC rfl (fun _=>?_) (fun hc=>?_)
  ·refine gaj ?_
   exact retRet rfl (rC (zrt rfl) (rC (zrt rfl) (zra rfl))) rfl
  ·have h2:(!decide (e=0))=false:=hc
   simp at h2
   exact absurd h2 hc0
 refine oC rfl (fun hc=>?_) (fun _=>?_)
 ·have h2:(!decide (e=0))=true:=hc
  simp[hc0] at h2
 rw[if_neg (by simpa using hc0)] at hR
 unfold buildC at hR
 cases hcm:cmpP p.vars (arrsP p) p.funcs o with
 |error er=>
  have hne:=cmp_ne hcm
  rw[hcm] at hR hcp
  simp only at hR
  subst hR
  refine gaj ?_
  refine oS (S.fn [_,_] rfl hcp ?_) rfl
  unfold cmpLV
  refine gaj ?_
  refine oC rfl (fun _=>?_) (fun hc=>?_)
  ·refine gaj ?_
   exact retRet rfl (rC (zrt rfl) (rC (zrt rfl) (zra rfl))) rfl
  ·have h2:(!decide (er=0))=false:=hc
   simp at h2
   exact absurd h2 hne
 |ok t=>
  obtain ⟨x,hx,_⟩:=cmp_asm hcm
  have htl:t.length≤300000000:=by
   have h0:=hcm
   have hpc:checkP p.vars (arrsP p) p.funcs=0:=by
    unfold cmpP at h0
    split at h0
    ·cases h0
    ·rename_i h;exact Classical.not_not.1 h
   have hft:fitsP p.vars (arrsP p) p.funcs o=true:=by
    unfold cmpP at h0
    split at h0
    ·cases h0
    split at h0
    ·cases h0
    rename_i h;simpa using h
   have hts:t=join (prW p.vars (arrsP p) p.funcs o) [32]:=by
    unfold cmpP at h0
    split at h0
    ·cases h0
    split at h0
    ·cases h0
    split at h0
    ·cases h0
    injection h0 with h0
    exact h0.symm
   have hw:=(prW_tot (P:=p) (o:=o) hpc hsz.nums hft (Nat.le_trans hsz.funcs (by decide))).1
   have hj:=join_tot (prW p.vars (arrsP p) p.funcs o)
   have hw2:tot (prW p.vars (arrsP p) p.funcs o)≤60+60 * ndFs p.funcs:=hw
   have:=hsz.funcs
   rw[hts]
   omega
  have hasm:=Asm.assemble_spec (B0:=B0) (w0:=w0) hG hM t o.code htl
  rw[hcm] at hR hcp
  simp only at hR
  rw[hx] at hR hasm
  simp only at hR
  subst hR
  refine gaj ?_
  refine oS (S.fn [_,_] rfl hcp ?_) rfl
  unfold cmpLV
  refine gaj ?_
  refine oC rfl (fun hc=>by cases hc) (fun _=>?_)
  refine gaj ?_
  refine oS (S.fn [_,_] rfl hasm ?_) rfl
  unfold Asm.asmLV
  refine gaj ?_
  exact retRet rfl (rC (zrt rfl) (rC (zrt rfl) (zra rfl))) rfl
def defO:Org:=⟨10000,0,100000⟩
theorem defaults_spec:LCalls (KC B0 w0) 24 [] [] (Ret (orgLV defO)):=by
 refine cI Tryz.func24 rfl (n:=2) rfl rfl rfl ?_
 refine gae ?_
 refine oS (S.alloc fun b=>?_) rfl
 refine gae ?_
 exact retRet rfl (rC (rA rfl zm0 rfl zsr) rN) rfl
def awakeSrc:List UInt8:=[102,117,110,99,32,109,97,105,110,40,41,32,123,32,111,117,116,40,39,65,39,41,59,32,125]
theorem awake_bld:bldR (parseP awakeSrc) defO=([48,49,48,48,49,48,58,48,33,36,54,53,46,48,32,48,33,48,59],0,0):=by kernel_rfl
end
end Go.Proofs.YtpokklffoihafaaGreatDoor.Cmp
namespace Go.GL
open Go.RowKit
def chkStrF (P : Program) (f : Field) (o : Nat) : Bool := f.name != "_" && f.offset == o && (match P.underlying f.type with | some .string => true | _ => false)
def chkI64 (P : Program) (f : Field) (o : Nat) : Bool := f.name != "_" && f.offset == o && (match P.underlying f.type with | some (.int .i64) => true | _ => false)
theorem chkI64_of {P : Program} {f : Field} {o : Nat} (h : chkI64 P f o = true) : f.name ≠ "_" ∧ f.offset = o ∧ P.underlying f.type = some (.int .i64) := by
 unfold chkI64 at h
 simp only[Bool.and_eq_true,bne_iff_ne,beq_iff_eq] at h
 obtain ⟨⟨h1,h2⟩,h3⟩:=h
 refine ⟨h1,h2,?_⟩
 split at h3
 ·assumption
 ·cases h3
theorem run_part_of {P:Program} {t:TypeId} {d:TypeDesc} (hu:P.underlying t=some d) (hp:d=.string∨d=.int .i64) {xs:Array Value} {off:Nat} {v:Value} (hx:xs[off]? = some v) (w:World):(part t xs off).run P w=.ok v w:=
 run_part_plain w (by rcases hp with rfl|rfl <;> simp[Program.plainKey,hu]) hx
theorem run_eqInt {P:Program} {t:TypeId} (hu:P.underlying t=some (.int .i64)) (d:Nat) (a b:Int) (w:World):(Op.equalIn (d+1) t (.int .i64 a) (.int .i64 b)).run P w=.ok (decide (a=b)) w:=by
 simp only[Op.equalIn,Sem.run_bind,run_underlying' hu,Result.andThen_ok,Sem.run_pure,if_true]
 congr 1
section
variable {C:Ctx} {e:Env} {H:Heap} {dst:Option Nat} {ty:TypeId} {pos:String} {aft:Array Edge} {g:Option (Nat×Bool)} {x y:Operand}
end
end Go.GL
namespace Go.GL
open Go.RowKit
class TInt3 (P:Program) (t:TypeId):Prop where
 und:P.underlying t=some (.struct (P.fieldsOf t))
 apart:P.stoodInHeld t=false
 guard:P.eqGuardType P.depth t=false
 fields : ∃ f0 f1 f2 : Field, (P.fieldsOf t).toList = [f0, f1, f2] ∧ (f0.name ≠ "_" ∧ f0.offset = 0 ∧ P.underlying f0.type = some (.int .i64)) ∧ (f1.name ≠ "_" ∧ f1.offset = 1 ∧ P.underlying f1.type = some (.int .i64)) ∧ (f2.name ≠ "_" ∧ f2.offset = 2 ∧ P.underlying f2.type = some (.int .i64))
def chkInt3 (P:Program) (t:TypeId):Bool:=(match P.underlying t with|some (.struct _)=>true|_=>false) && !P.stoodInHeld t && !P.eqGuardType P.depth t && (match (P.fieldsOf t).toList with|[f0,f1,f2]=>chkI64 P f0 0 && chkI64 P f1 1 && chkI64 P f2 2|_=>false)
theorem TInt3.of {P:Program} {t:TypeId} (h:chkInt3 P t=true):TInt3 P t:=by
 unfold chkInt3 at h
 simp only[Bool.and_eq_true,Bool.not_eq_true'] at h
 obtain ⟨⟨⟨h1,h2⟩,h3⟩,h4⟩:=h
 refine ⟨?_,h2,h3,?_⟩
 ·split at h1
  ·rename_i fs hu
   rw[hu]
   simp[Program.fieldsOf,hu]
  ·cases h1
 ·split at h4
  ·rename_i f0 f1 f2 hf
   simp only[Bool.and_eq_true] at h4
   exact ⟨f0,f1,f2,hf,chkI64_of h4.1.1,chkI64_of h4.1.2,chkI64_of h4.2⟩
  ·cases h4
theorem run_eqInt3 {P:Program} {t:TypeId} [h:TInt3 P t] (a x u:Int) (w:World) :
  (Op.equal t (.agg #[.int .i64 a,.int .i64 x,.int .i64 u]) (.agg #[.int .i64 a,.int .i64 x,.int .i64 u])).run P w=.ok true w:=by
 obtain ⟨f0,f1,f2,hf,⟨n0,o0,u0⟩,⟨n1,o1,u1⟩,⟨n2,o2,u2⟩⟩:=h.fields
 rw[equal_step,run_equalIn_struct w 9999 t _ _ h.und h.apart,hf]
 have p0:(part f0.type #[.int .i64 a,.int .i64 x,.int .i64 u] f0.offset).run P w=.ok (.int .i64 a) w:=run_part_of u0 (.inr rfl) (by rw[o0];rfl) w
 have p1:(part f1.type #[.int .i64 a,.int .i64 x,.int .i64 u] f1.offset).run P w=.ok (.int .i64 x) w:=run_part_of u1 (.inr rfl) (by rw[o1];rfl) w
 have p2:(part f2.type #[.int .i64 a,.int .i64 x,.int .i64 u] f2.offset).run P w=.ok (.int .i64 u) w:=run_part_of u2 (.inr rfl) (by rw[o2];rfl) w
 have q0:(Op.equalIn 9999 f0.type (.int .i64 a) (.int .i64 a)).run P w=.ok (decide (a=a)) w:=run_eqInt u0 9998 a a w
 have q1:(Op.equalIn 9999 f1.type (.int .i64 x) (.int .i64 x)).run P w=.ok (decide (x=x)) w:=run_eqInt u1 9998 x x w
 have q2:(Op.equalIn 9999 f2.type (.int .i64 u) (.int .i64 u)).run P w=.ok (decide (u=u)) w:=run_eqInt u2 9998 u u w
 simp only[Op.eqFields,n0,n1,n2,ne_eq,not_false_eq_true,if_true,Sem.run_bind,p0,q0,p1,q1,p2,q2,Result.andThen_ok,decide_true,Bool.not_true,Bool.false_eq_true,if_false,Sem.run_pure]
section
variable {C:Ctx} {e:Env} {H:Heap} {dst:Option Nat} {ty:TypeId} {pos:String} {aft:Array Edge} {g:Option (Nat×Bool)} {x y:Operand}
theorem agg_int3 {ρ:Operand→Value} {w:World} {L:Live} (h:∀ x,Rep w L (e.ev x) (ρ x)) {x:Operand} {a i j:Int} (hx:e.ev x=.agg [int .i64 a,int .i64 i,int .i64 j]):ρ x=.agg #[.int .i64 a,.int .i64 i,.int .i64 j]:=by
 have hv:=h x
 rw[hx] at hv
 simp only[Rep,RepL,int] at hv
 obtain ⟨vs,h1,v0,r0,e0,rfl,v1,r1,e1,rfl,v2,r2,e2,rfl,e3⟩:=hv
 rw[h1,e0,e1,e2,e3]
theorem Pure.eqInt3 {t yT:TypeId} [h:TInt3 C.P t] {a i j:Int} (hx:e.ev x=.agg [int .i64 a,int .i64 i,int .i64 j]) (hy:e.ev y=.agg [int .i64 a,int .i64 i,int .i64 j]) :
  Pure C ⟨dst,.binOp .eql t x y yT,ty,pos,aft,g⟩ e H (bool true):=
 .of_any fun ρ _ _ hr=>⟨_,rep_atom,fun w'=>by
  have h1:=agg_int3 hr hx
  have h2:=agg_int3 hr hy
  have he:(eqGuard .eql t x y (.agg #[.int .i64 a,.int .i64 i,.int .i64 j]) (.agg #[.int .i64 a,.int .i64 i,.int .i64 j])).run C.P w'=.ok () w':=by
   simp[eqGuard,h.guard]
  have hb:binOp .eql t (.agg #[.int .i64 a,.int .i64 i,.int .i64 j]) (.agg #[.int .i64 a,.int .i64 i,.int .i64 j])=(do Pure.pure (.bool (←Op.equal t (.agg #[.int .i64 a,.int .i64 i,.int .i64 j]) (.agg #[.int .i64 a,.int .i64 i,.int .i64 j])))):=rfl
  simp only[execOp,h1,h2,he,hb,Sem.run_bind,Sem.run_pure,Result.andThen_ok,run_eqInt3]⟩
end
end Go.GL
namespace Go.Proofs.YtpokklffoihafaaGreatDoor
open Go.GL Go.RowKit Go.Stele
set_option maxRecDepth 100000
set_option maxHeartbeats 4000000
theorem prog_end {T:List Tok}:∀ (f:Nat) (p:Pr) (i op:Nat) (q:Pr) (i' op':Nat),i≤T.length→sProg T f p i op=some (.ok q i' op')→i'≤T.length
 |0,_,_,_,_,_,_,_,h=>by rw[sProg] at h;cases h
 |f+1,p,i,op,q,i',op',hi,h=>by
  rw[sProg] at h
  split at h
  ·cases h
   exact hi
  ·split at h
   ·rcases obind_some h with ⟨l,i1,op1,h1,h⟩|⟨l,e,_,h⟩
    ·exact prog_end f _ i1 op1 q i' op' ((sVars_good T f _ _ _ _ h1).2.2.1 hi) h
    ·cases h
   ·split at h
    ·rename_i h0
     have:=isTok_lt h0
     rcases obind_some h with ⟨a,i1,op1,h1,h⟩|⟨l,e,_,h⟩
     ·exact prog_end f _ i1 op1 q i' op' ((sArray_good T _ _ _ h1).2.2.1 zo) h
     ·cases h
    ·split at h
     ·rename_i h0
      have:=isTok_lt h0
      rcases obind_some h with ⟨a,i1,op1,h1,h⟩|⟨l,e,_,h⟩
      ·exact prog_end f _ i1 op1 q i' op' ((sFunc_good T f _ _ _ h1).2.2.1 zo) h
      ·cases h
     ·cases h
theorem noPr_ok:PrOk noPr:=⟨by decide,by intro a ha;cases ha⟩
theorem parseP_ok (s:List UInt8):PrOk (parseP s).1:=by
 unfold parseP
 split
 ·exact noPr_ok
 ·rename_i T hT
  have ht:=tok_lex hT
  have hk:∀ t∈T,TokOk t:=by
   unfold lexAllP at hT
   split at hT
   ·cases hT
   ·exact (lexP_ok _ _ _ _ hT).2
  split
  ·rename_i p i op hp
   obtain ⟨h1,h2⟩:=prog_nd hk _ _ _ _ _ _ _ (by intro a ha;cases ha) hp
   have h3:=prog_end _ _ _ _ _ _ _ (Nat.zero_le _) hp
   have:=ht.len
   have h0:nPr noPr=0:=rfl
   exact ⟨by show nPr p≤_;omega,h2⟩
  ·exact noPr_ok
  ·exact noPr_ok
end Go.Proofs.YtpokklffoihafaaGreatDoor
namespace Go.Proofs.YtpokklffoihafaaGreatDoor
open Go.GL Go.RowKit Go.Stele
set_option maxRecDepth 100000
set_option maxHeartbeats 4000000
section
variable {C:Ctx} {e:Env} {dst:Option Nat} {ty:TypeId} {pos:String} {aft:Array Edge} {g:Option (Nat×Bool)} {K:LV→Heap→Prop} {X:List PanicEntry→Heap→Prop}
theorem S.callBH {f:FuncId} [TEnter C.P f] (args:List Operand) {ats:Array TypeId} {avs:List LV} {R:Heap→Prop} {q:Nat×LObj} {H1:Heap} (has:args.map e.ev=avs)
  (hc:LCalls C f avs H1 (fun r H'=>(∃ x,r=.ret x)∧R H')) (hk:∀ v H',R H'→K v (q::H')) :
  LStep C ⟨dst,.call { callee:=.value (.func f),args:=args.toArray,argTypes:=ats },ty,pos,aft,g⟩ e (q::H1) K X:=by
 refine LStep.conseq (K:=fun lv H'=>∃ H2,H'=H2++[q]∧R H2) (S.callH (H1:=H1) (F:=[q]) args has (List.perm_append_singleton _ _).symm hc (fun v H' h=>⟨H',rfl,h.2⟩) (fun ch H' h=>by
  obtain ⟨⟨x,hx⟩,_⟩:=h
  cases hx)) ?_
 rintro lv H' ⟨H2,rfl,h⟩
 exact ⟨lv,[q]++H2,LV.Sub.refl _,⟨[],by simp⟩,hk _ _ h⟩
end
attribute [local irreducible] LOps LCode LStep LCalls Go.GL.Pure QThen QBlock RetPost LQ LAny LLate LLateOp
section
variable {B0:Nat} {w0:World}
theorem one_spec (l:List Ex) (hn:l.length≤1000000000) (hl:(fOne l).length≤1000000000) (he:∀ e∈l,LCalls (KC B0 w0) 189 [encE e] [] (Ret (str (fE e)))) :
  LCalls (KC B0 w0) 122 [.list (l.map encE)] [] (Ret (str (fOne l))):=by
 refine cI Tryz.func122 rfl (n:=5) rfl rfl rfl ?_
 refine gah ?_
 refine oS (S.fn [_] rfl (list_spec l hn hl he) ?_) rfl
 refine gab ?_
 exact retRet rfl (zra rfl) rfl
theorem nExs_lens:∀ l:List Ex,l.length≤nExs l
 |[]=>Nat.zero_le _
 |e::r=>by
  have h1:=nExs_lens r
  obtain ⟨op,num,name,args⟩:=e
  rw[nExs,nEx,List.length_cons]
  omega
theorem one_ok (hG:GW B0 w0) (l:List Ex) (hk:okEs l) (hn:nExs l≤1000000000) (hl:(fOne l).length≤1000000000):LCalls (KC B0 w0) 122 [.list (l.map encE)] [] (Ret (str (fOne l))):=
 one_spec l (by have:=nExs_lens l;omega) hl fun e he=>fexpr_spec hG _ e (Nat.le_refl _) (okEs_mem hk he) (by
  have:=join_mem comSp (List.mem_map_of_mem (f:=fE) he)
  have h2:(Go.Lib.join (l.map fE) comSp).length≤1000000000:=hl
  omega)
mutual
def okS:Sm→Prop
 |.mk _ _ index value thn els=>okEs index∧okEs value∧okSs thn∧okSs els
def okSs:List Sm→Prop
 |[]=>True
 |s::r=>okS s∧okSs r
end
theorem okSs_mem:∀ {l:List Sm} {s:Sm},okSs l→s∈l→okS s
 |s::r,x,h,hx=>by
  rw[okSs] at h
  rcases List.mem_cons.mp hx with hx|hx
  ·exact hx▸h.1
  ·exact okSs_mem h.2 hx
theorem fSs_mem (ind:List UInt8):∀ {l:List Sm} {i:Nat} (h:i<l.length),(fSs ind (l.take i)).length+(fS ind l[i]).length≤(fSs ind l).length:=by
 intro l i h
 have h1:=fSs_take ind h
 have h2:fSs ind l=fSs ind (l.take (i+1))++fSs ind (l.drop (i+1)):=by rw[←fSs_append,List.take_append_drop]
 rw[h2,h1]
 simp only[List.length_append]
 omega
theorem nSms_lens:∀ l:List Sm,l.length≤nSms l
 |[]=>Nat.zero_le _
 |s::r=>by
  have h1:=nSms_lens r
  obtain ⟨k,name,i,v,t,e⟩:=s
  rw[nSms,nSm,List.length_cons]
  omega
theorem lines_step (hG:GW B0 w0) (n:Nat) (ih:∀ (l:List Sm) (ind acc:List UInt8) (b:Nat) (H:Heap),nSms l<n→okSs l→acc.length+(fSs ind l).length≤1000000000→BH b acc H →
   LCalls (KC B0 w0) 54 [ptr b 0,.list (l.map encS),str ind] H (fun r H'=>(∃ x,r=.ret x)∧BH b (acc++fSs ind l) H'))
  (l:List Sm) (ind acc:List UInt8) (b:Nat) (H:Heap) (hn:nSms l≤n) (hn2:n≤1000000000) (hk:okSs l) (hl:acc.length+(fSs ind l).length≤1000000000) (hB:BH b acc H) :
  LCalls (KC B0 w0) 54 [ptr b 0,.list (l.map encS),str ind] H (fun r H'=>(∃ x,r=.ret x)∧BH b (acc++fSs ind l) H'):=by
 have hla:(l.map encS).length=l.length:=List.length_map _
 have hlen:=nSms_lens l
 refine cI Tryz.func54 rfl (n:=116) rfl rfl rfl ?_
 refine gah ?_
 refine oL (fun k ls H=>∃ i,i≤l.length∧k=l.length-i∧ls=[(0,ptr b 0),(2,str ind),(6,.atom (.func (.func 122) #[] #[])),(10,.list (l.map encS)),(11,int .i64 l.length),(12,int .i64 i)]∧BH b (acc++fSs ind (l.take i)) H)
  ⟨_,_,_,⟨0,Nat.zero_le _,rfl,rfl,by simpa [fSs] using hB⟩,⟨rfl,rfl,rfl,rfl,int_eq zo,rfl,trivial⟩,HSub.refl _⟩ ?_
 rintro k ls H ⟨i,hi,rfl,rfl,hB⟩ j hj
 refine gas ?_
 refine oC rfl (fun hc=>?_) (fun hc=>?_)
 ·have hlt:i<l.length:=by have:=zt hc;omega
  have hm:=fSs_mem ind hlt
  have hke:=okSs_mem hk (List.getElem_mem hlt)
  have hne:=nSms_mem (List.getElem_mem hlt)
  have hta:=fSs_take ind hlt
  refine gau ?_
  refine oP (xR (el':=encS l[i]) (cs:=[_,_,_,_,_,_]) rfl rfl zo (map_get _ _ _ hlt) rfl rfl) rfl ?_
  refine gab ?_
  refine oS (S.alloc fun b8=>?_) rfl
  refine gai ?_
  generalize l[i]=s at hm hke hne hta ⊢
  obtain ⟨kind,name,index,value,thn,els⟩:=s
  rw[fS_mk] at hm hta
  simp only[List.length_append] at hm
  rw[okS] at hke
  rw[nSm] at hne
  obtain ⟨hk1,hk2,hk3,hk4⟩:=hke
  refine oS (S.callBH [_,_] rfl (writeString_spec b _ ind H hB (by simp only[List.length_append];omega)) fun v H2 hB2=>?_) rfl
  refine gaj ?_
  refine oC rfl (fun h1=>?_) (fun h1=>?_)
  ·have e1:kind=1:=zt h1
   rw[fLine,if_pos e1] at hm hta
   simp only[List.length_append,List.length_cons,List.length_nil] at hm
   refine LCode.draw (m:=11) rfl [(b8,.cells 131 [int .i64 kind,str name,.list (index.map encE),.list (value.map encE),.list (encThen (.mk kind name index value thn els)),.list (encElse (.mk kind name index value thn els))])] ?_
   refine aT 0 rfl rfl (Pure.mv (lv:=.atom _) rfl) ?_
   refine aT 1 rfl rfl (Pure.fieldH rfl) ?_
   refine aT 2 rfl rfl (Pure.loadH (c:=.atom _) rfl zm0 rfl) ?_
   refine aT 3 rfl rfl (Pure.sadd rfl rfl (by first|omega|(simp only[List.length_append,List.length_cons,List.length_nil];omega))) ?_
   refine aT 4 rfl rfl (Pure.mv (lv:=.atom _) rfl) ?_
   refine aT 5 rfl rfl (Pure.fieldH rfl) ?_
   refine aT 6 rfl rfl (Pure.loadH (c:=.list _) rfl zm0 rfl) ?_
   refine LAny.late ?_ zhp
   refine lO 7 (lS (H1:=[]) rfl (.inl rfl) rfl zpr zhp (S.fnV [_] rfl rfl (one_ok hG value hk2 zo zo) ?_))
   refine lO 8 (lH rfl rfl (Pure.sadd rfl rfl (by simp only[List.length_append,List.length_cons,List.length_nil];omega)) ?_)
   refine lO 9 (lH rfl rfl (Pure.sadd rfl rfl (by simp only[List.length_append,List.length_cons,List.length_nil];omega)) ?_)
   refine lO 10 (lS (H1:=H2) (F:=[(b8,.cells 131 [int .i64 kind,str name,.list (index.map encE),.list (value.map encE),.list (encThen (.mk kind name index value thn els)),.list (encElse (.mk kind name index value thn els))])]) rfl (.inl rfl) rfl (List.perm_append_singleton _ _).symm zhr (LStep.call (args:=[_,_]) (writeString_spec b _ (name++[32,61,32]++fOne value++[59,10]) H2 hB2 (by simp only[List.length_append,List.length_cons,List.length_nil];omega)) (fun v3 H3 h3=>?_) (fun ch H3 h3=>?_)))
   rotate_left
   ·obtain ⟨⟨x,hx⟩,_⟩:=h3
    cases hx
   obtain ⟨_,hB3⟩:=h3
   refine lD zk ?_
   refine gad ?_
   exact ⟨_,_,_,by omega,⟨i+1,by omega,rfl,rfl,by rw[hta];simpa only[List.append_assoc] using hB3⟩,⟨rfl,rfl,rfl,rfl,rfl,int_eq zo,trivial⟩,⟨_,List.Perm.refl _⟩,hj⟩
  have e1:¬ kind=1:=zf h1
  refine gad ?_
  refine oC rfl (fun h2=>?_) (fun h2=>?_)
  ·have e2:kind=2:=zt h2
   rw[fLine,if_neg e1,if_pos e2] at hm hta
   simp only[List.length_append,List.length_cons,List.length_nil] at hm
   refine LCode.draw (m:=17) rfl [(b8,.cells 131 [int .i64 kind,str name,.list (index.map encE),.list (value.map encE),.list (encThen (.mk kind name index value thn els)),.list (encElse (.mk kind name index value thn els))])] ?_
   refine aT 0 rfl rfl (Pure.mv (lv:=.atom _) rfl) ?_
   refine aT 1 rfl rfl (Pure.fieldH rfl) ?_
   refine aT 2 rfl rfl (Pure.loadH (c:=.atom _) rfl zm0 rfl) ?_
   refine aT 3 rfl rfl (Pure.sadd rfl rfl (by first|omega|(simp only[List.length_append,List.length_cons,List.length_nil];omega))) ?_
   refine aT 4 rfl rfl (Pure.mv (lv:=.atom _) rfl) ?_
   refine aT 5 rfl rfl (Pure.fieldH rfl) ?_
   refine aT 6 rfl rfl (Pure.loadH (c:=.list _) rfl zm0 rfl) ?_
   refine aT 10 rfl rfl (Pure.mv (lv:=.atom _) rfl) ?_
   refine aT 11 rfl rfl (Pure.fieldH rfl) ?_
   refine aT 12 rfl rfl (Pure.loadH (c:=.list _) rfl zm0 rfl) ?_
   refine LAny.late ?_ zhp
   refine lO 7 (lS (H1:=[]) rfl (.inl rfl) rfl zpr zhp (S.fnV [_] rfl rfl (one_ok hG index hk1 zo zo) ?_))
   refine LLate.any [(b8,.cells 131 [int .i64 kind,str name,.list (index.map encE),.list (value.map encE),.list (encThen (.mk kind name index value thn els)),.list (encElse (.mk kind name index value thn els))])] (fun _ h=>h) ?_
   refine aT 8 rfl rfl (Pure.sadd rfl rfl (by first|omega|(simp only[List.length_append,List.length_cons,List.length_nil];omega))) ?_
   refine aT 9 rfl rfl (Pure.sadd rfl rfl (by first|omega|(simp only[List.length_append,List.length_cons,List.length_nil];omega))) ?_
   refine LAny.late ?_ zhp
   refine lO 13 (lS (H1:=[]) rfl (.inl rfl) rfl zpr zhp (S.fnV [_] rfl rfl (one_ok hG value hk2 zo zo) ?_))
   refine lO 14 (lH rfl rfl (Pure.sadd rfl rfl (by simp only[List.length_append,List.length_cons,List.length_nil];omega)) ?_)
   refine lO 15 (lH rfl rfl (Pure.sadd rfl rfl (by simp only[List.length_append,List.length_cons,List.length_nil];omega)) ?_)
   refine lO 16 (lS (H1:=H2) (F:=[(b8,.cells 131 [int .i64 kind,str name,.list (index.map encE),.list (value.map encE),.list (encThen (.mk kind name index value thn els)),.list (encElse (.mk kind name index value thn els))])]) rfl (.inl rfl) rfl (List.perm_append_singleton _ _).symm zhr (LStep.call (args:=[_,_]) (writeString_spec b _ (name++[91]++fOne index++[93,32,61,32]++fOne value++[59,10]) H2 hB2 (by simp only[List.length_append,List.length_cons,List.length_nil];omega)) (fun v3 H3 h3=>?_) (fun ch H3 h3=>?_)))
   rotate_left
   ·obtain ⟨⟨x,hx⟩,_⟩:=h3
    cases hx
   obtain ⟨_,hB3⟩:=h3
   refine lD zk ?_
   refine gad ?_
   exact ⟨_,_,_,by omega,⟨i+1,by omega,rfl,rfl,by rw[hta];simpa only[List.append_assoc] using hB3⟩,⟨rfl,rfl,rfl,rfl,rfl,int_eq zo,trivial⟩,⟨_,List.Perm.refl _⟩,hj⟩
  have e2:¬ kind=2:=zf h2
  refine gad ?_
  refine oC rfl (fun h3=>?_) (fun h3=>?_)
  ·have e3:kind=6:=zt h3
   rw[fLine,if_neg e1,if_neg e2,if_pos e3] at hm hta
   simp only[List.length_append,List.length_cons,List.length_nil] at hm
   refine gaf ?_
   refine oS (S.fnV [_] rfl rfl (one_ok hG value hk2 zo zo) ?_) rfl
   refine gaa ?_
   refine oS (S.callBH [_,_] rfl (writeString_spec b _ (fOne value++[59,10]) H2 hB2 (by simp only[List.length_append,List.length_cons,List.length_nil];omega)) fun v3 H3 hB3=>?_) rfl
   refine gad ?_
   exact ⟨_,_,_,by omega,⟨i+1,by omega,rfl,rfl,by rw[hta];simpa only[List.append_assoc] using hB3⟩,⟨rfl,rfl,rfl,rfl,rfl,int_eq zo,trivial⟩,zhD zhr,hj⟩
  have e3:¬ kind=6:=zf h3
  refine gad ?_
  refine oC rfl (fun h4=>?_) (fun h4=>?_)
  ·have e4:kind=5:=zt h4
   rw[fLine,if_neg e1,if_neg e2,if_neg e3,if_pos e4] at hm hta
   simp only[List.length_append,List.length_cons,List.length_nil] at hm
   refine gaf ?_
   refine oS (S.fnV [_] rfl rfl (one_ok hG value hk2 zo zo) ?_) rfl
   refine gaa ?_
   refine oS (S.callBH [_,_] rfl (writeString_spec b _ ([114,101,116,117,114,110,32]++fOne value++[59,10]) H2 hB2 (by simp only[List.length_append,List.length_cons,List.length_nil];omega)) fun v3 H3 hB3=>?_) rfl
   refine gad ?_
   exact ⟨_,_,_,by omega,⟨i+1,by omega,rfl,rfl,by rw[hta];simpa only[List.append_assoc] using hB3⟩,⟨rfl,rfl,rfl,rfl,rfl,int_eq zo,trivial⟩,zhD zhr,hj⟩
  have e4:¬ kind=5:=zf h4
  refine gad ?_
  refine oC rfl (fun h5=>?_) (fun h5=>?_)
  ·have e5:kind=7:=zt h5
   rw[fLine,if_neg e1,if_neg e2,if_neg e3,if_neg e4,if_pos e5] at hm hta
   simp only[List.length_append,List.length_cons,List.length_nil] at hm
   refine gak ?_
   refine oS (S.callBH [_,_] rfl (writeString_spec b _ ([104,97,108,116,59,10]) H2 hB2 (by simp only[List.length_append,List.length_cons,List.length_nil];omega)) fun v3 H3 hB3=>?_) rfl
   refine gad ?_
   exact ⟨_,_,_,by omega,⟨i+1,by omega,rfl,rfl,by rw[hta];simpa only[List.append_assoc] using hB3⟩,⟨rfl,rfl,rfl,rfl,rfl,int_eq zo,trivial⟩,zhD zhr,hj⟩
  have e5:¬ kind=7:=zf h5
  refine gad ?_
  refine LCode.cut [(0,ptr b 0),(2,str ind),(6,.atom (.func (.func 122) #[] #[])),(8,ptr b8 0),(10,.list (l.map encS)),(11,int .i64 l.length),(12,int .i64 i),(76,bool (decide (kind=3∨kind=4)))] ?_ (fun j2 hj2=>?_)
  ·refine oC rfl (fun h6=>?_) (fun h6=>?_)
   ·have e6:kind=3:=zt h6
    refine gaa ?_
    exact ⟨⟨rfl,rfl,rfl,rfl,rfl,rfl,rfl,bool_eq (by simp[e6];rfl),trivial⟩,rfl,rfl⟩
   ·have e6:¬ kind=3:=zf h6
    refine gad ?_
    exact ⟨⟨rfl,rfl,rfl,rfl,rfl,rfl,rfl,bool_eq (by simp[e6];exact Iff.rfl),trivial⟩,rfl,rfl⟩
  refine oC rfl (fun h6=>?_) (fun h6=>?_)
  ·have e6:kind=3∨kind=4:=zt h6
   rw[fLine,if_neg e1,if_neg e2,if_neg e3,if_neg e4,if_neg e5,if_pos e6] at hm hta
   obtain ⟨word,hw⟩:∃ w:List UInt8,w=(if kind=4 then [119,104,105,108,101,32] else [105,102,32]):=⟨_,rfl⟩
   rw[←hw] at hm hta
   simp only[List.length_append,List.length_cons,List.length_nil] at hm
   refine gaj ?_
   refine LCode.cut [(0,ptr b 0),(2,str ind),(6,.atom (.func (.func 122) #[] #[])),(8,ptr b8 0),(9,str word),(10,.list (l.map encS)),(11,int .i64 l.length),(12,int .i64 i)] ?_ (fun j3 hj3=>?_)
   ·refine oC rfl (fun h7=>?_) (fun h7=>?_)
    ·have e7:kind=4:=zt h7
     refine gac ?_
     exact ⟨⟨rfl,rfl,rfl,rfl,str_eq (by rw[hw,if_pos e7]),rfl,rfl,rfl,trivial⟩,rfl,rfl⟩
    ·have e7:¬ kind=4:=zf h7
     refine gaa ?_
     exact ⟨⟨rfl,rfl,rfl,rfl,str_eq (by rw[hw,if_neg e7]),rfl,rfl,rfl,trivial⟩,rfl,rfl⟩
   refine gaf ?_
   refine oS (S.fnV [_] rfl rfl (one_ok hG value hk2 zo zo) ?_) rfl
   refine gaa ?_
   refine oS (S.callBH [_,_] rfl (writeString_spec b _ (word++fOne value++[32,123,10]) H2 hB2 (by simp only[List.length_append,List.length_cons,List.length_nil];omega)) fun v3 H3 hB3=>?_) rfl
   refine gaf ?_
   refine oS (S.callBH [_,_,_] (show _=[ptr b 0,.list (encThen (.mk kind name index value thn els)),str (ind2 ind)] from rfl) (by
    rw[encThen_eq]
    exact ih thn (ind2 ind) _ b H3 zo hk3 (by simp only[List.length_append,List.length_cons,List.length_nil];omega) hB3) fun v4 H4 hB4=>?_) rfl
   refine gan ?_
   have hel:(encElse (.mk kind name index value thn els)).length=els.length:=by
    rw[encElse_eq,List.length_map]
    rfl
   refine oC rfl (fun h8=>?_) (fun h8=>?_)
   ·have hne:els.isEmpty=false:=by
     have:=zt h8
     cases els with
     |nil=>simp only[List.length_nil] at hel;omega
     |cons _ _=>rfl
    rw[hne,if_neg (by decide)] at hm hta
    simp only[List.length_append,List.length_cons,List.length_nil] at hm
    refine gaf ?_
    refine oS (S.callBH [_,_] rfl (writeString_spec b _ (ind++[125,32,101,108,115,101,32,123,10]) H4 hB4 (by simp only[List.length_append,List.length_cons,List.length_nil];omega)) fun v5 H5 hB5=>?_) rfl
    refine gaf ?_
    refine oS (S.callBH [_,_,_] (show _=[ptr b 0,.list (encElse (.mk kind name index value thn els)),str (ind2 ind)] from rfl) (by
     rw[encElse_eq]
     exact ih els (ind2 ind) _ b H5 zo hk4 (by simp only[List.length_append,List.length_cons,List.length_nil];omega) hB5) fun v6 H6 hB6=>?_) rfl
    refine gaf ?_
    refine oS (S.callBH [_,_] rfl (writeString_spec b _ (ind++[125,10]) H6 hB6 (by simp only[List.length_append,List.length_cons,List.length_nil];omega)) fun v7 H7 hB7=>?_) rfl
    refine gad ?_
    exact ⟨_,_,_,by omega,⟨i+1,by omega,rfl,rfl,by rw[hta];simpa only[List.append_assoc] using hB7⟩,⟨rfl,rfl,rfl,rfl,rfl,int_eq zo,trivial⟩,zhD zhr,hj3.trans (hj2.trans hj)⟩
   ·have hne:els.isEmpty=true:=by
     have:=zf h8
     cases els with
     |nil=>rfl
     |cons _ _=>simp only[List.length_cons] at hel;omega
    rw[hne,if_pos rfl] at hm hta
    simp only[List.length_append,List.length_cons,List.length_nil] at hm
    refine gaf ?_
    refine oS (S.callBH [_,_] rfl (writeString_spec b _ (ind++[125,10]) H4 hB4 (by simp only[List.length_append,List.length_cons,List.length_nil];omega)) fun v7 H7 hB7=>?_) rfl
    refine gad ?_
    exact ⟨_,_,_,by omega,⟨i+1,by omega,rfl,rfl,by rw[hta];simpa only[List.append_assoc,List.append_nil,List.nil_append] using hB7⟩,⟨rfl,rfl,rfl,rfl,rfl,int_eq zo,trivial⟩,zhD zhr,hj3.trans (hj2.trans hj)⟩
  ·have e6:¬ (kind=3∨kind=4):=zf h6
   rw[fLine,if_neg e1,if_neg e2,if_neg e3,if_neg e4,if_neg e5,if_neg e6] at hm hta
   refine gad ?_
   exact ⟨_,_,_,by omega,⟨i+1,by omega,rfl,rfl,by rw[hta];simpa only[List.append_assoc,List.append_nil] using hB2⟩,⟨rfl,rfl,rfl,rfl,rfl,int_eq zo,trivial⟩,zhD zhr,hj2.trans hj⟩
 ·have hi':i=l.length:=by have:=zf hc;omega
  subst hi'
  rw[List.take_length] at hB
  refine gaa ?_
  exact RetPost.normal hj rN zhr ⟨⟨_,rfl⟩,hB⟩
theorem lines_spec (hG:GW B0 w0):∀ (n:Nat) (l:List Sm) (ind acc:List UInt8) (b:Nat) (H:Heap),nSms l≤n→n≤1000000000→okSs l→acc.length+(fSs ind l).length≤1000000000→BH b acc H →
   LCalls (KC B0 w0) 54 [ptr b 0,.list (l.map encS),str ind] H (fun r H'=>(∃ x,r=.ret x)∧BH b (acc++fSs ind l) H'):=by
 intro n
 induction n with
 |zero=>exact fun l ind acc b H hn hn2 hk hl hB=>lines_step hG 0 (fun _ _ _ _ _ h=>by omega) l ind acc b H hn hn2 hk hl hB
 |succ n ih=>exact fun l ind acc b H hn hn2 hk hl hB=>lines_step hG (n+1) (fun l ind acc b H h hk hl hB=>ih l ind acc b H zo zo hk hl hB) l ind acc b H hn hn2 hk hl hB
end
end Go.Proofs.YtpokklffoihafaaGreatDoor
set_option maxRecDepth 100000
namespace Go.Stele
open Go.Lib
theorem NameOk.len {s:List UInt8} (h:NameOk s):s.length≤24:=h.1
theorem opnd_le (o t:List UInt8) (k:Nat):(opnd (o,t) k).length≤t.length+2:=by
 unfold opnd
 split
 ·simp only[List.length_append,List.length_cons,List.length_nil]
  omega
 ·simp only
  omega
def ZE (e:Ex):Prop:=∀ (k:Nat) (ts:List KT) (d:Nat),k≤6→PE e k ts d→(opnd (exOp e,fE e) k).length≤26 * ts.length
theorem ZE.zero {e:Ex} (h:ZE e) {ts:List KT} {d:Nat} (hp:PE e 0 ts d):(fE e).length≤26 * ts.length:=by
 have:=h 0 ts d (by omega) hp
 rwa [opnd_no (Nat.zero_le _)] at this
theorem list_size:∀ (l:List Ex) (ts:List KT) (d:Nat),(∀ x∈l,ZE x)→PEs l ts d→(join (l.map fE) comSp).length≤26 * ts.length
 |[],ts,d,_,hp=>Nat.zero_le _
 |a::l,ts,d,hl,hp=>by
  cases hp with
  |one ha=>
   rw[show List.map fE [a]=[fE a] from rfl,join_one]
   exact (hl a (List.mem_cons_self ..)).zero ha
  |@more _ b l t1 t2 d1 d2 ha hr=>
   have h1:=(hl a (List.mem_cons_self ..)).zero ha
   have h2:=list_size (b::l) t2 d2 (fun x hx=>hl x (List.mem_cons_of_mem _ hx)) hr
   rw[List.map_cons] at h2
   rw[List.map_cons,List.map_cons,join_two]
   simp only[List.length_append,List.length_cons]
   omega
theorem ex_size:∀ (n:Nat) (e:Ex),nEx e≤n→ZE e
 |0,.mk _ _ _ _,hn=>by rw[nEx] at hn;omega
 |n+1,e,hn=>by
  intro k ts d hk hp
  have bin:∀ {s:Nat} {o:List UInt8} {a b:Ex} {t1 t2:List KT} {d1 d2:Nat},nEx (.mk o 0 [] [a,b])≤n+1→s<6→o∈lvOps s→PE a (leftLv s) t1 d1→PE b (s+1) t2 d2→(fE (.mk o 0 [] [a,b])).length≤26 * (t1++(4,o)::t2).length:=by
   intro s o a b t1 t2 d1 d2 hn hs ho pa pb
   obtain ⟨_,_,_,_,_,_,_,h8⟩:=op_facts s hs o ho
   have h9:o.length≤24:=(again_sg h8).1
   simp only[nEx,nExs] at hn
   have h1:=ex_size n a (by omega) (leftLv s) t1 d1 (by unfold leftLv;split <;> omega) pa
   have h2:=ex_size n b (by omega) (s+1) t2 d2 (by omega) pb
   rw[fE_bin hs ho]
   simp only[List.length_append,List.length_cons,List.length_nil]
   omega
  cases hp with
  |num h=>
   rename_i m
   show (opnd (nNum,fE _) k).length≤_
   rw[opnd_no (by rw[show strengthP nNum=7 from rfl];omega),fE_num]
   have:=dec_len h
   simp only[List.length_cons,List.length_nil]
   omega
  |var h=>
   show (opnd (nVar,fE _) k).length≤_
   rw[opnd_no (by rw[show strengthP nVar=7 from rfl];omega),fE_var]
   have:=h.len
   simp only[List.length_cons,List.length_nil]
   omega
  |elem h ha=>
   rename_i s a t1 d1
   simp only[nEx,nExs] at hn
   show (opnd (nElem,fE _) k).length≤_
   rw[opnd_no (by rw[show strengthP nElem=7 from rfl];omega),fE_elem]
   have:=h.len
   have h1:=(ex_size n a (by omega)).zero ha
   simp only[List.length_append,List.length_cons,List.length_nil]
   omega
  |call h ha=>
   rename_i s l t1 d1
   simp only[nEx] at hn
   show (opnd (nCall,fE _) k).length≤_
   rw[opnd_no (by rw[show strengthP nCall=7 from rfl];omega),fE_call]
   have:=h.len
   have h1:=list_size l t1 d1 (fun x hx=>ex_size n x (by have:=nExs_mem hx;omega)) ha
   simp only[List.length_append,List.length_cons,List.length_nil]
   omega
  |neg ha=>
   simp only[nEx,nExs] at hn
   show (opnd (nNeg,fE _) k).length≤_
   rw[opnd_no (by rw[show strengthP nNeg=6 from rfl];omega),fE_neg]
   have h1:=ex_size n _ (by omega) 6 _ _ (by omega) ha
   simp only[List.length_cons]
   omega
  |not ha=>
   simp only[nEx,nExs] at hn
   show (opnd (nNot,fE _) k).length≤_
   rw[opnd_no (by rw[show strengthP nNot=6 from rfl];omega),fE_not]
   have h1:=ex_size n _ (by omega) 6 _ _ (by omega) ha
   simp only[List.length_cons]
   omega
  |par hs ho hk2 ha hb=>
   have h1:=bin hn hs ho ha hb
   refine Nat.le_trans (opnd_le _ _ k) ?_
   simp only[List.length_append,List.length_cons,List.length_nil] at h1 ⊢
   omega
  |bin hs ho hk2 ha hb=>
   obtain ⟨_,_,_,_,_,_,h7,_⟩:=op_facts _ hs _ ho
   simp only[exOp]
   rw[opnd_no (by omega)]
   exact bin hn hs ho ha hb
theorem ze (e:Ex):ZE e:=ex_size _ e (Nat.le_refl _)
theorem ind2_len (ind:List UInt8):(ind2 ind).length=ind.length+2:=by simp[ind2]
theorem sm_size:∀ (n:Nat),(∀ (s:Sm),nSm s≤n→∀ (ts:List KT) (d M:Nat) (ind:List UInt8),PS s ts d→ind.length+2 * d+40≤M→(fS ind s).length≤ts.length * M) ∧
  (∀ (l:List Sm),nSms l≤n→∀ (ts:List KT) (d M:Nat) (ind:List UInt8),PSs l ts d→ind.length+2 * d+40≤M→(fSs ind l).length≤ts.length * M)
 |0=>by
  refine ⟨fun s hn=>?_,fun l hn ts d M ind hp hM=>?_⟩
  ·obtain ⟨k,a,b,c,d,e⟩:=s
   rw[nSm] at hn
   omega
  ·cases hp with
   |nil=>exact Nat.zero_le _
   |cons h1 h2=>
    rename_i s _ _ _ _ _
    obtain ⟨k,a,b,c,d,e⟩:=s
    rw[nSms,nSm] at hn
    omega
 |n+1=>by
  obtain ⟨hS,hL⟩:=sm_size n
  have hS':∀ (s:Sm),nSm s≤n+1→∀ (ts:List KT) (d M:Nat) (ind:List UInt8),PS s ts d→ind.length+2 * d+40≤M→(fS ind s).length≤ts.length * M:=by
   intro s hn ts d M ind hp hM
   have em:∀ (t:Nat),26 * t≤t * M:=fun t=>by rw[Nat.mul_comm];exact Nat.mul_le_mul_left t (by omega)
   cases hp with
   |assign hs he=>
    rename_i s e t1
    have h1:=(ze e).zero he
    have h2:=em t1.length
    have h3:=hs.len
    rw[fS_mk,fLine,if_pos rfl,fOne_one]
    simp only[List.length_append,List.length_cons,List.length_nil,Nat.add_mul,Nat.one_mul,Nat.zero_mul,Nat.zero_add]
    omega
   |store hs hx he=>
    rename_i s x e t1 t2 d1 d2
    have h1:=(ze x).zero hx
    have h1':=(ze e).zero he
    have h2:=em t1.length
    have h2':=em t2.length
    have h3:=hs.len
    rw[fS_mk,fLine,if_neg (by decide),if_pos rfl,fOne_one,fOne_one]
    simp only[List.length_append,List.length_cons,List.length_nil,Nat.add_mul,Nat.one_mul,Nat.zero_mul,Nat.zero_add]
    omega
   |call hs hl=>
    rename_i s l t1 d1
    have h1:=list_size l t1 d1 (fun x _=>ze x) hl
    have h2:=em t1.length
    have h3:=hs.len
    rw[fS_mk,fLine,if_neg (by decide),if_neg (by decide),if_pos rfl,fOne_one,fE_call]
    simp only[List.length_append,List.length_cons,List.length_nil,Nat.add_mul,Nat.one_mul,Nat.zero_mul,Nat.zero_add]
    omega
   |ret he=>
    rename_i e t1
    have h1:=(ze e).zero he
    have h2:=em t1.length
    rw[fS_mk,fLine,if_neg (by decide),if_neg (by decide),if_neg (by decide),if_pos rfl,fOne_one]
    simp only[List.length_append,List.length_cons,List.length_nil,Nat.add_mul,Nat.one_mul,Nat.zero_mul,Nat.zero_add]
    omega
   |halt=>
    rw[fS_mk,fLine,if_neg (by decide),if_neg (by decide),if_neg (by decide),if_neg (by decide),if_pos rfl]
    simp only[List.length_append,List.length_cons,List.length_nil,Nat.add_mul,Nat.one_mul,Nat.zero_mul,Nat.zero_add]
    omega
   |ifElse he g1 g2 hne=>
    rename_i e th el t0 t1 t2 d0 d1 d2
    simp only[nSm] at hn
    have h1:=(ze e).zero he
    have h2:=em t0.length
    have k1:=hL th (by omega) t1 d1 M (ind2 ind) g1 (by rw[ind2_len];omega)
    have k2:=hL el (by omega) t2 d2 M (ind2 ind) g2 (by rw[ind2_len];omega)
    have hem:el.isEmpty=false:=by cases el <;> simp_all
    rw[fS_mk,fLine,if_neg (by decide),if_neg (by decide),if_neg (by decide),if_neg (by decide),if_neg (by decide),if_pos (by decide),if_neg (by decide),fOne_one,hem,if_neg (by decide)]
    simp only[List.length_append,List.length_cons,List.length_nil,Nat.add_mul,Nat.one_mul,Nat.zero_mul,Nat.zero_add]
    omega
   |ifThen he g1=>
    rename_i e th t0 t1 d0 d1
    simp only[nSm] at hn
    have h1:=(ze e).zero he
    have h2:=em t0.length
    have k1:=hL th (by omega) t1 d1 M (ind2 ind) g1 (by rw[ind2_len];omega)
    rw[fS_mk,fLine,if_neg (by decide),if_neg (by decide),if_neg (by decide),if_neg (by decide),if_neg (by decide),if_pos (by decide),if_neg (by decide),fOne_one,if_pos (by rfl)]
    simp only[List.length_append,List.length_cons,List.length_nil,Nat.add_mul,Nat.one_mul,Nat.zero_mul,Nat.zero_add]
    omega
   |«while» he g1=>
    rename_i e th t0 t1 d0 d1
    simp only[nSm] at hn
    have h1:=(ze e).zero he
    have h2:=em t0.length
    have k1:=hL th (by omega) t1 d1 M (ind2 ind) g1 (by rw[ind2_len];omega)
    rw[fS_mk,fLine,if_neg (by decide),if_neg (by decide),if_neg (by decide),if_neg (by decide),if_neg (by decide),if_pos (by decide),if_pos rfl,fOne_one,if_pos (by rfl)]
    simp only[List.length_append,List.length_cons,List.length_nil,Nat.add_mul,Nat.one_mul,Nat.zero_mul,Nat.zero_add]
    omega
  refine ⟨hS',fun l hn ts d M ind hp hM=>?_⟩
  cases hp with
  |nil=>exact Nat.zero_le _
  |cons h1 h2=>
   rename_i s l t1 t2 d1 d2
   have hpos:0<nSm s:=by obtain ⟨k,a,b,c,d,e⟩:=s;rw[nSm];omega
   rw[nSms] at hn
   have k1:=hS' s (by omega) t1 d1 M ind h1 (by omega)
   have k2:=hL l (by omega) t2 d2 M ind h2 (by omega)
   rw[fSs,List.length_append,List.length_append,Nat.add_mul]
   omega
theorem names_size:∀ (l:List (List UInt8)),AllOk l→(join l comSp).length≤26 * (commas l).length
 |[],_=>Nat.zero_le _
 |[a],ha=>by
  rw[join_one]
  have:=(ha a (List.mem_cons_self ..)).len
  simp only[commas,List.length_cons,List.length_nil]
  omega
 |a::b::l,ha=>by
  have h1:=names_size (b::l) fun x hx=>ha x (List.mem_cons_of_mem _ hx)
  have:=(ha a (List.mem_cons_self ..)).len
  rw[join_two]
  simp only[commas,List.length_append,List.length_cons]
  omega
theorem varsT_size {l:List (List UInt8)} (hl:AllOk l):(if l=[] then [] else varsT l).length≤26 * (varK l).length:=by
 have h1:=names_size l hl
 unfold varK varsT
 split
 ·exact Nat.zero_le _
 ·simp only[List.length_append,List.length_cons,List.length_nil]
  omega
theorem fn_size {a:FnD} {ts:List KT} {d:Nat} (hp:PF a ts d) (hd:d≤100):(fFn a).length≤242 * ts.length:=by
 cases hp with
 |mk hn hps hls hb=>
  rename_i nm ps ls b t1 d1
  have h1:=names_size ps hps
  have h2:=varsT_size hls
  have h3:=hn.len
  have h4:=(sm_size _).2 b (Nat.le_refl _) t1 d1 242 [32,32] hb (by simp only[List.length_cons,List.length_nil];omega)
  unfold fFn
  by_cases hl0:ls=[]
  ·rw[if_pos hl0]
   simp only[List.length_append,List.length_cons,List.length_nil]
   omega
  ·rw[if_neg hl0] at h2
   rw[if_neg hl0]
   simp only[List.length_append,List.length_cons,List.length_nil] at h2 ⊢
   omega
theorem ars_size:∀ (l:List Ar),ArsOk l→((l.map fAr).flatten).length≤242 * ((l.map arK).flatten).length
 |[],_=>Nat.zero_le _
 |a::l,hl=>by
  have h1:=ars_size l fun x hx=>hl x (List.mem_cons_of_mem _ hx)
  have h2:=(hl a (List.mem_cons_self ..)).1.len
  have h3:=dec_len (hl a (List.mem_cons_self ..)).2
  rw[List.map_cons,List.map_cons,List.flatten_cons,List.flatten_cons,List.length_append,List.length_append]
  have h4:(fAr a).length≤242 * (arK a).length:=by
   unfold fAr arK
   simp only[List.length_append,List.length_cons,List.length_nil]
   omega
  omega
theorem fns_size:∀ (l:List FnD) {ts:List KT},PFs l ts→((l.map fFn).flatten).length≤242 * ts.length
 |[],_,hp=>Nat.zero_le _
 |a::l,_,hp=>by
  cases hp with
  |cons hf hd hl=>
   have h1:=fn_size hf hd
   have h2:=fns_size l hl
   rw[List.map_cons,List.flatten_cons,List.length_append,List.length_append]
   omega
theorem print_size {p:Pr} {ts:List KT} (hp:PP p ts):(formatP p).length≤242 * ts.length:=by
 cases hp with
 |mk hv ha hf=>
  have h1:=varsT_size hv
  have h2:=ars_size _ ha
  have h3:=fns_size _ hf
  unfold formatP
  simp only[List.length_append] at h1 h2 h3 ⊢
  omega
theorem pes_len:∀ (l:List Ex) (ts:List KT) (d:Nat),PEs l ts d→l.length≤ts.length+1
 |[],_,_,_=>Nat.zero_le _
 |a::l,ts,d,hp=>by
  cases hp with
  |one ha=>simp only[List.length_cons,List.length_nil];omega
  |@more _ b l t1 t2 d1 d2 ha hr=>
   have:=pes_len (b::l) t2 d2 hr
   simp only[List.length_cons,List.length_append] at this ⊢
   omega
theorem pes_mem:∀ (l:List Ex) (ts:List KT) (d:Nat),PEs l ts d→∀ x∈l,∃ t d',PE x 0 t d'∧t.length≤ts.length
 |[],_,_,_,_,hx=>by cases hx
 |a::l,ts,d,hp,x,hx=>by
  cases hp with
  |one ha=>
   rcases List.mem_cons.1 hx with rfl|hx
   ·exact ⟨_,_,ha,Nat.le_refl _⟩
   ·cases hx
  |@more _ b l t1 t2 d1 d2 ha hr=>
   rcases List.mem_cons.1 hx with rfl|hx
   ·exact ⟨_,_,ha,by simp only[List.length_append];omega⟩
   ·obtain ⟨t,d',h1,h2⟩:=pes_mem (b::l) t2 d2 hr x hx
    exact ⟨t,d',h1,by simp only[List.length_append,List.length_cons];omega⟩
end Go.Stele
