/- Texts joined: CmpCln, CmpCln2, CmpSize, CmpA, CmpB, CmpC, CmpD, CmpE, CmpF, CmpMap, CmpLaw, CmpFit, GlClear. -/
import Derived.Test.YtegmklafpoldgaaGreatDoorBRowPU3
import Derived.Test.YtegmklafpoldgaaGreatDoorBRowPU5
import Derived.Test.YtegmklafpoldgaaGreatDoorBRowPU9
import Derived.Test.YtegmklafpoldgaaGreatDoorBRowPU10
set_option linter.unusedVariables false
set_option linter.unusedSimpArgs false
set_option maxRecDepth 100000
set_option maxHeartbeats 4000000
namespace Go.Stele
open Go.Lib
def AllC (l:List Wd):Prop:=∀ w∈l,CleanW w
theorem allC_nil:AllC []:=fun w hw=>(List.not_mem_nil hw).elim
theorem allC_cons {w:Wd} {l:List Wd}:AllC (w::l) ↔ CleanW w∧AllC l:=List.forall_mem_cons
theorem allC_app {a b:List Wd}:AllC (a++b) ↔ AllC a∧AllC b:=List.forall_mem_append
def cleanB (w:Wd):Bool:=decide (w≠[]) && w.all fun c=>decide (c≠10∧c≠32∧c≠35)
theorem clean_b {w:Wd} (h:cleanB w=true):CleanW w:=by
 unfold cleanB at h
 rw[zBa,zDe,List.all_eq_true] at h
 refine ⟨h.1,fun c hc=>?_⟩
 have:=of_decide_eq_true (h.2 c hc)
 exact this
theorem allC_b {l:List Wd} (h:l.all cleanB=true):AllC l:=fun w hw=>clean_b (List.all_eq_true.1 h w hw)
theorem itoa_clean {z:Int} (h:0≤z):CleanW (itoa z):=by rw[itoa_pos h];exact dec_clean _
theorem clean_put {a b:Wd} (h:Plain a) (h2:Plain b) (hne:a≠[]):CleanW (a++b):=⟨fun h=>hne (List.append_eq_nil_iff.1 h).1,fun c hc=>(List.mem_append.1 hc).elim (h c) (h2 c)⟩
theorem ite_C {p:Prop} [Decidable p] {a b:List Wd} (h1:p→AllC a) (h2:¬ p→AllC b):AllC (if p then a else b):=by
 by_cases h:p
 ·rw[if_pos h];exact h1 h
 ·rw[if_neg h];exact h2 h
structure ClC (c:CC):Prop where
 sc:∀ n,CleanW (c.sc n)
 ar:∀ n,CleanW (c.ar n)
 t0:CleanW c.t0
 t1:CleanW c.t1
 t2:CleanW c.t2
theorem nm_plain {s:Nm} (h:isNm s=true):Plain s:=by
 unfold isNm at h
 rw[zBa] at h
 have h2:=h.2
 have hi:∀ c:UInt8,isLetter c=true∨isInner c=true→c≠10∧c≠32∧c≠35:=fun c hc=>by
  refine ⟨?_,?_,?_⟩ <;> (rintro rfl;exact absurd hc zDd)
 cases s with
 |nil=>exact fun c hc=>(List.not_mem_nil hc).elim
 |cons c r=>
  simp only[zBa] at h2
  intro d hd
  rcases zMi.1 hd with rfl|hd
  ·exact hi _ (.inl h2.1)
  ·exact hi _ (.inr (List.all_eq_true.1 h2.2 d hd))
theorem greater_clean {c:CC} (hc:ClC c):AllC (greaterW c):=by
 have hs:∀ {k:UInt8},(k≠10∧k≠32∧k≠35)→CleanW [k]:=fun h=>⟨by simp,fun x hx=>by rw[List.mem_singleton.1 hx];exact h⟩
 unfold greaterW
 repeat' first|exact hc.t1|exact hc.t2|exact hs zDd|exact allC_nil|refine allC_cons.2 ⟨?_,?_⟩
theorem opW_clean {c:CC} (hc:ClC c) {op name:Nm} {num:Nat} {l:List (List Wd)} (hl:∀ ws∈l,AllC ws) (hop:opnds op ≠ -2) (hcall:op=nCall→Plain name):AllC (opW c op num name l):=by
 have hh:AllC (l.headD []):=by
  cases l with
  |nil=>exact allC_nil
  |cons a r=>exact hl a zMs
 have h2:AllC ((l.drop 1).headD []):=by
  cases l with
  |nil=>exact allC_nil
  |cons a r=>
   cases r with
   |nil=>exact allC_nil
   |cons b r=>exact hl b (zMo _ zMs)
 have hf:AllC l.flatten:=fun w hw=>by
  obtain ⟨ws,h1,h3⟩:=List.mem_flatten.1 hw
  exact hl ws h1 w h3
 have hg:=greater_clean hc
 have hs:∀ {k:UInt8},(k≠10∧k≠32∧k≠35)→CleanW [k]:=fun h=>⟨by simp,fun x hx=>by rw[List.mem_singleton.1 hx];exact h⟩
 have hbin:¬ (op=nNum)→¬ (op=nVar)→¬ (op=nElem)→¬ (op=nCall)→¬ (op=nNeg)→¬ (op=nNot)→CleanW op:=by
  intro a1 a2 a3 a4 a5 a6
  unfold opnds at hop
  rw[if_neg (by simp[a1,a2]),if_neg (by simp[a3,a5,a6]),if_neg a4] at hop
  split at hop
  ·rename_i h
   exact allC_b (l:=binOps) zDd op h
  ·exact absurd rfl hop
 unfold opW
 refine ite_C (fun n1=>?_) fun n1=>ite_C (fun n2=>?_) fun n2=>ite_C (fun n3=>?_) fun n3=>ite_C (fun n4=>?_) fun n4=>ite_C (fun n5=>?_) fun n5=>ite_C (fun n6=>?_) fun n6=>ite_C (fun n7=>?_) fun n7=>ite_C (fun n8=>?_) fun n8=>ite_C (fun n9=>?_) fun n9=>?_
 ·exact allC_cons.2 ⟨dec_clean _,allC_nil⟩
 ·repeat' first|exact hh|exact h2|exact allC_nil|exact hc.sc _|exact hc.ar _|exact hs zDd|refine allC_cons.2 ⟨?_,?_⟩|refine allC_app.2 ⟨?_,?_⟩
 ·repeat' first|exact hh|exact h2|exact allC_nil|exact hc.sc _|exact hc.ar _|exact hs zDd|refine allC_cons.2 ⟨?_,?_⟩|refine allC_app.2 ⟨?_,?_⟩
 ·refine allC_app.2 ⟨hf,ite_C (fun _=>allC_b zDd) fun _=>ite_C (fun _=>allC_b zDd) fun _=>?_⟩
  refine allC_cons.2 ⟨clean_put (fun x hx=>?_) (hcall n4) (by simp),allC_b zDd⟩
  have:=List.all_eq_true.1 (show ([38,102,95]:Wd).all (fun c=>decide (c≠10∧c≠32∧c≠35))=true by decide) x hx
  exact of_decide_eq_true this
 ·repeat' first|exact hh|exact h2|exact allC_nil|exact hc.sc _|exact hc.ar _|exact hs zDd|refine allC_cons.2 ⟨?_,?_⟩|refine allC_app.2 ⟨?_,?_⟩
 ·repeat' first|exact hh|exact h2|exact allC_nil|exact hc.sc _|exact hc.ar _|exact hs zDd|refine allC_cons.2 ⟨?_,?_⟩|refine allC_app.2 ⟨?_,?_⟩
 ·repeat' first|exact hh|exact h2|exact allC_nil|exact hc.sc _|exact hc.ar _|exact hs zDd|refine allC_cons.2 ⟨?_,?_⟩|refine allC_app.2 ⟨?_,?_⟩
 ·repeat' first|exact hh|exact h2|exact allC_nil|exact hc.sc _|exact hc.ar _|exact hs zDd|refine allC_cons.2 ⟨?_,?_⟩|refine allC_app.2 ⟨?_,?_⟩
 ·repeat' first|exact hh|exact h2|exact allC_nil|exact hc.sc _|exact hc.ar _|exact hs zDd|refine allC_cons.2 ⟨?_,?_⟩|refine allC_app.2 ⟨?_,?_⟩
 refine allC_app.2 ⟨allC_app.2 ⟨hh,h2⟩,?_⟩
 refine ite_C (fun _=>hg) fun _=>ite_C (fun _=>allC_app.2 ⟨hg,allC_b zDd⟩) fun _=>ite_C (fun _=>allC_b zDd) fun _=>ite_C (fun _=>allC_b zDd) fun _=>?_
 exact allC_cons.2 ⟨hbin n1 n2 n3 n4 n5 n6,allC_nil⟩
mutual
theorem exW_clean {c:CC} (hc:ClC c) {env:CEnv} (hfn:∀ k∈env.funcs,Plain k.name):∀ e,errE env e=0→AllC (exW c e)
 |.mk op num name args,h=>by
  rw[errE] at h
  split at h
  ·rename_i ho
   obtain ⟨h1,h3⟩:=orE_zero.1 h
   rw[exW]
   refine opW_clean hc (exWl_clean hc hfn args h1) (by omega) (fun hcl=>?_)
   subst hcl
   unfold useE at h3
   rw[if_neg zDd,if_neg zDd,if_pos rfl] at h3
   unfold callE at h3
   split at h3
   ·rename_i e;rw[e]
    exact fun x hx=>of_decide_eq_true (List.all_eq_true.1 (show ([105,110]:Wd).all (fun c=>decide (c≠10∧c≠32∧c≠35))=true by decide) x hx)
   split at h3
   ·rename_i e;rw[e]
    exact fun x hx=>of_decide_eq_true (List.all_eq_true.1 (show ([111,117,116]:Wd).all (fun c=>decide (c≠10∧c≠32∧c≠35))=true by decide) x hx)
   unfold CEnv.fn at h3
   cases hf:env.funcs.find? fun f=>decide (f.name=name) with
   |none=>
    rw[hf] at h3
    simp only at h3
    split at h3 <;> cases h3
   |some k=>
    have e:k.name=name:=of_decide_eq_true (List.find?_some (p:=fun g:FSum=>decide (g.name=name)) hf)
    rw[←e]
    exact hfn k (List.mem_of_find?_eq_some hf)
  ·cases h
theorem exWl_clean {c:CC} (hc:ClC c) {env:CEnv} (hfn:∀ k∈env.funcs,Plain k.name):∀ l,errEs env l=0→∀ ws∈exWl c l,AllC ws
 |[],h,ws,hw=>by rw[exWl] at hw;exact (List.not_mem_nil hw).elim
 |x::l,h,ws,hw=>by
  rw[errEs] at h
  obtain ⟨h1,h2⟩:=orE_zero.1 h
  rw[exWl] at hw
  rcases zMi.1 hw with rfl|hw
  ·exact exW_clean hc hfn x h1
  ·exact exWl_clean hc hfn l h2 ws hw
end
end Go.Stele
namespace Go.Stele
open Go.Lib
theorem lab_clean (n:Nat):CleanW (labW n)∧CleanW (38::labW n)∧CleanW (labW n++[58]):=by
 have h:=(dec_clean n).2
 have h1:∀ {c:UInt8} {w:Wd},(c≠10∧c≠32∧c≠35)→Plain w→Plain (c::w):=fun hc hw x hx=>by
  rcases zMi.1 hx with rfl|hx
  ·exact hc
  ·exact hw x hx
 have h2:Plain (labW n):=h1 zDd h
 exact ⟨⟨by simp[labW],h2⟩,⟨by simp,h1 zDd h2⟩,clean_put h2 (h1 zDd fun x hx=>(List.not_mem_nil hx).elim) (by simp[labW])⟩
section
variable {c:CC} {env:CEnv}
theorem hs_clean {k:UInt8} (h:k≠10∧k≠32∧k≠35):CleanW [k]:=⟨by simp,fun x hx=>by rw[List.mem_singleton.1 hx];exact h⟩
theorem head_clean (hc:ClC c) (hfn:∀ k∈env.funcs,Plain k.name) {l:List Ex} (h1:l.length=1) (h:errEs env l=0):AllC (exW c (l.headD default)):=by
 obtain ⟨x,rfl⟩:=List.length_eq_one_iff.1 h1
 rw[errEs] at h
 exact exW_clean hc hfn x (orE_zero.1 h).1
mutual
theorem stW_clean (hc:ClC c) (hfn:∀ k∈env.funcs,Plain k.name):∀ (s:Sm) (n:Nat),errS env s=0→AllC (stW c n s).1
 |.mk kind name index value thn els,n,h=>by
  rw[errS] at h
  by_cases hf:formS (.mk kind name index value thn els)=false
  ·rw[if_pos hf] at h;cases h
  rw[if_neg hf] at h
  obtain ⟨h1,h⟩:=orE_zero.1 h
  obtain ⟨h2,h⟩:=orE_zero.1 h
  obtain ⟨h3,h⟩:=orE_zero.1 h
  obtain ⟨h4,h5⟩:=orE_zero.1 h
  rw[Bool.not_eq_false] at hf
  unfold formS at hf
  have hv:kind=1∨kind=2∨kind=3∨kind=4∨kind=5∨kind=6→AllC (exW c (value.headD default)):=fun hk=>head_clean hc hfn (by
   rcases hk with rfl|rfl|rfl|rfl|rfl|rfl <;> simp at hf <;> simp[hf]) h1
  have ht:=fun n=>stWs_clean hc hfn thn n h4
  have he:=fun n=>stWs_clean hc hfn els n h5
  unfold stW
  by_cases k1:kind=1
  ·rw[if_pos k1]
   exact allC_app.2 ⟨hv (by simp[k1]),allC_cons.2 ⟨hc.sc _,allC_b zDd⟩⟩
  rw[if_neg k1]
  by_cases k2:kind=2
  ·rw[if_pos k2]
   refine allC_app.2 ⟨hv (by simp[k2]),allC_cons.2 ⟨hc.ar _,allC_app.2 ⟨head_clean hc hfn ?_ h2,allC_b zDd⟩⟩⟩
   subst k2
   simp at hf
   simp[hf]
  rw[if_neg k2]
  by_cases k3:kind=3
  ·rw[if_pos k3]
   have h8:=hv (by simp[k3])
   cases els with
   |nil=>
    simp only
    exact allC_app.2 ⟨allC_app.2 ⟨allC_app.2 ⟨h8,allC_cons.2 ⟨(lab_clean n).2.1,allC_b zDd⟩⟩,ht _⟩,allC_cons.2 ⟨(lab_clean n).2.2,allC_nil⟩⟩
   |cons a r=>
    simp only
    exact allC_app.2 ⟨allC_app.2 ⟨allC_app.2 ⟨allC_app.2 ⟨allC_app.2 ⟨h8,allC_cons.2 ⟨(lab_clean n).2.1,allC_b zDd⟩⟩,ht _⟩,allC_cons.2 ⟨hs_clean zDd,allC_cons.2 ⟨(lab_clean (n+1)).2.1,allC_cons.2 ⟨hs_clean zDd,allC_cons.2 ⟨(lab_clean n).2.2,allC_nil⟩⟩⟩⟩⟩,he _⟩,allC_cons.2 ⟨(lab_clean (n+1)).2.2,allC_nil⟩⟩
  rw[if_neg k3]
  by_cases k4:kind=4
  ·rw[if_pos k4]
   have h8:=hv (by simp[k4])
   exact allC_app.2 ⟨allC_app.2 ⟨allC_app.2 ⟨allC_app.2 ⟨allC_cons.2 ⟨(lab_clean n).2.2,allC_nil⟩,h8⟩,allC_cons.2 ⟨(lab_clean (n+1)).2.1,allC_b zDd⟩⟩,ht _⟩,allC_cons.2 ⟨hs_clean zDd,allC_cons.2 ⟨(lab_clean n).2.1,allC_cons.2 ⟨hs_clean zDd,allC_cons.2 ⟨(lab_clean (n+1)).2.2,allC_nil⟩⟩⟩⟩⟩
  rw[if_neg k4]
  by_cases k5:kind=5
  ·rw[if_pos k5]
   exact allC_app.2 ⟨hv (by simp[k5]),allC_b zDd⟩
  rw[if_neg k5]
  by_cases k6:kind=6
  ·rw[if_pos k6]
   exact allC_app.2 ⟨hv (by simp[k6]),allC_cons.2 ⟨hc.t0,allC_b zDd⟩⟩
  rw[if_neg k6]
  by_cases k7:kind=7
  ·rw[if_pos k7]
   exact allC_cons.2 ⟨hs_clean zDd,allC_nil⟩
  ·rw[if_neg k7]
   exact allC_nil
theorem stWs_clean (hc:ClC c) (hfn:∀ k∈env.funcs,Plain k.name):∀ (l:List Sm) (n:Nat),errSs env l=0→AllC (stWs c n l).1
 |[],n,h=>by rw[stWs];exact allC_nil
 |s::l,n,h=>by
  rw[errSs] at h
  obtain ⟨h1,h2⟩:=orE_zero.1 h
  rw[stWs]
  exact allC_app.2 ⟨stW_clean hc hfn s n h1,stWs_clean hc hfn l _ h2⟩
end
theorem fnW_clean (hc:ClC c) (hfn:∀ k∈env.funcs,Plain k.name) (f:FnD) (n:Nat) (hname:Plain f.name) (h:errSs env f.body=0):AllC (fnW c n f).1:=by
 unfold fnW
 simp only
 refine allC_app.2 ⟨allC_app.2 ⟨allC_app.2 ⟨allC_cons.2 ⟨?_,allC_nil⟩,fun w hw=>?_⟩,stWs_clean hc hfn _ _ h⟩,allC_b zDd⟩
 ·rw[zAs]
  refine clean_put (fun x hx=>?_) (fun x hx=>?_) (by simp)
  ·exact of_decide_eq_true (List.all_eq_true.1 (show ([102,95]:Wd).all (fun c=>decide (c≠10∧c≠32∧c≠35))=true by decide) x hx)
  ·rcases List.mem_append.1 hx with h|h
   ·exact hname x h
   ·exact (hs_clean (k:=58) zDd).2 x h
 ·obtain ⟨p,h1,h2⟩:=List.mem_flatMap.1 hw
  rcases zMi.1 h2 with rfl|h2
  ·exact hc.sc _
  ·rw[List.mem_singleton.1 h2]
   exact hs_clean zDd
end
theorem fnWs_clean {cc:Nm→CC} (hc:∀ n,ClC (cc n)):∀ (fs:List FnD) (n:Nat),(∀ f∈fs,∀ m,AllC (fnW (cc f.name) m f).1)→AllC (fnWs cc n fs).1
 |[],n,_=>by rw[fnWs];exact allC_nil
 |f::l,n,h=>by
  rw[fnWs]
  exact allC_app.2 ⟨h f zMs n,fnWs_clean hc l _ fun g hg=>h g (zMo _ hg)⟩
section
variable {P:Pr} {o:Org}
theorem arrA_pos:∀ (l:List (Nm×Int)) (a:Int),0≤a→(∀ p∈l,0≤p.2)→∀ n,0≤arrA a l n
 |[],a,_,_,n=>by simp[arrA]
 |(x,k)::l,a,h,hl,n=>by
  rw[arrA]
  split
  ·exact h
  ·have:0≤k:=hl (x,k) zMs
   exact arrA_pos l _ (by omega) (fun p hp=>hl p (zMo _ hp)) n
theorem cc_clean (hF:FitN P o) (own:Nm):ClC (ccF P.vars (arrsP P) P.funcs o own):=by
 have s0:=hF.s0
 refine ⟨fun n=>?_,fun n=>?_,?_,?_,?_⟩
 ·refine itoa_clean ?_
  unfold placeA
  split <;> omega
 ·refine itoa_clean (arrA_pos _ _ hF.a0 (fun p hp=>?_) n)
  obtain ⟨a,_,rfl⟩:=List.mem_map.1 hp
  exact Int.natCast_nonneg _
 ·exact itoa_clean s0
 ·exact itoa_clean (z:=o.scalars+1) (by omega)
 ·exact itoa_clean (z:=o.scalars+2) (by omega)
theorem prW_clean (hc:checkPr P=0) (hfit:fitsP P.vars (arrsP P) P.funcs o=true):AllC (wordsC P o):=by
 have hv:=valid_of hc
 have hF:=fit_of hfit
 have hfr:=fresh_zero _ _ hv.names
 have hpl:∀ f∈P.funcs,Plain f.name:=fun f hf=>nm_plain (hfr.2 _ (List.mem_append.2 (.inr (List.mem_map.2 ⟨f,hf,rfl⟩)))).2
 have h1:AllC ([[38,102,95,109,97,105,110],[58],itoa o.scalars,[33],[36]]:List Wd):=allC_cons.2 ⟨clean_b zDd,allC_cons.2 ⟨clean_b zDd,allC_cons.2 ⟨itoa_clean hF.s0,allC_b zDd⟩⟩⟩
 refine allC_app.2 ⟨h1,fnWs_clean (fun n=>cc_clean hF n) P.funcs 0 fun f hf m=>?_⟩
 obtain ⟨kn,k1,k2⟩:=hv.bodies f hf
 refine fnW_clean (cc_clean hF f.name) (fun k hk=>?_) f m (hpl f hf) k1
 obtain ⟨g,g1,g2,_⟩:=k2 k hk
 rw[←g2]
 exact hpl g g1
theorem cmp_ok {t:Wd} (hnum:∀ f∈P.funcs,numSs f.body) (h:cmpP P.vars (arrsP P) P.funcs o=.ok t) :
  checkPr P=0∧fitsP P.vars (arrsP P) P.funcs o=true∧t=join (wordsC P o) [32]∧wordsP t=wordsC P o∧asmP t o.code=.ok (textA (knownC P o) (wordsC P o),labsA (fun _=>0) o.code.toNat (wordsC P o))∧TrnOk (trnP P o)∧o.code.toNat+(textA (knownC P o) (wordsC P o)).length≤262144:=by
 unfold cmpP at h
 split at h
 ·cases h
 rename_i h1
 split at h
 ·cases h
 rename_i h2
 have hc:checkPr P=0:=by
  have:=Classical.not_not.1 h1
  exact this
 have hfit:fitsP P.vars (arrsP P) P.funcs o=true:=by simpa using h2
 have hcl:=prW_clean hc hfit
 have hw:wordsP (join (wordsC P o) [32])=wordsC P o:=words_join hcl
 split at h
 ·cases h
 rename_i x hx
 injection h with h
 have hx:asmP (join (wordsC P o) [32]) o.code=.ok x:=hx
 have ht:t=join (wordsC P o) [32]:=h.symm
 rw[ht]
 have hx0:=hx
 unfold asmP at hx
 rw[hw] at hx
 split at hx
 ·cases hx
 split at hx
 ·cases hx
 rename_i h4
 split at hx
 ·cases hx
 rename_i h5
 injection hx with hx
 have hA:AsmOk (wordsC P o):=by
  have:=asm_ok (src:=join (wordsC P o) [32]) (by rw[hw];exact Classical.not_not.1 h4)
  rwa [hw] at this
 have hlen:(textA (knownC P o) (wordsC P o)).length≤40000:=Nat.le_of_not_lt h5
 have hF:=fit_of hfit
 refine ⟨hc,hfit,rfl,hw,by rw[hx0,←hx];try rfl,trn_ok hc hnum hfit hA (fun w hw=>(hcl w hw).1) hlen,?_⟩
 have:=hF.c1
 omega
end
end Go.Stele
namespace Go.Stele
open Go.Lib
structure ShC (c:CC):Prop where
 sc:∀ n,(c.sc n).length≤10
 ar:∀ n,(c.ar n).length≤10
 t0:c.t0.length≤10
 t1:c.t1.length≤10
 t2:c.t2.length≤10
def sumW (l:List (List Wd)):Nat:=(l.map tot).sum
theorem sumW_cons (a:List Wd) (l:List (List Wd)):sumW (a::l)=tot a+sumW l:=by simp[sumW]
theorem head_sum (l:List (List Wd)):tot (l.headD [])+tot ((l.drop 1).headD [])≤sumW l:=by
 cases l with
 |nil=>simp[tot,sumW]
 |cons a r=>
  rw[sumW_cons]
  cases r with
  |nil=>simp[tot,sumW]
  |cons b r=>rw[sumW_cons];simp only[List.headD_cons,List.drop_one,List.tail_cons];omega
theorem flat_sum:∀ l:List (List Wd),tot l.flatten=sumW l
 |[]=>rfl
 |a::l=>by rw[List.flatten_cons,tot_app,flat_sum l,sumW_cons]
theorem ite_le {p:Prop} [Decidable p] {a b:List Wd} {n:Nat} (h1:p→tot a≤n) (h2:¬ p→tot b≤n):tot (if p then a else b)≤n:=by
 by_cases h:p
 ·rw[if_pos h];exact h1 h
 ·rw[if_neg h];exact h2 h
theorem op_len {op:Nm} (h:op∈binOps):op.length≤2:=by
 have:∀ o∈binOps,o.length≤2:=by decide
 exact this op h
theorem opW_tot {c:CC} (hc:ShC c) {op name:Nm} {num:Nat} {l:List (List Wd)} (hn:num<4294967296) (hop:opnds op ≠ -2) (hcall:op=nCall→name.length≤24):tot (opW c op num name l)≤60+sumW l:=by
 have hh:=head_sum l
 have hf:=flat_sum l
 have hd:=dec_len hn
 have h0:=hc.t0
 have h1:=hc.t1
 have h2:=hc.t2
 have hs:=hc.sc name
 have ha:=hc.ar name
 have hbin:¬ (op=nNum)→¬ (op=nVar)→¬ (op=nElem)→¬ (op=nCall)→¬ (op=nNeg)→¬ (op=nNot)→op.length≤2:=by
  intro a1 a2 a3 a4 a5 a6
  unfold opnds at hop
  rw[if_neg (by simp[a1,a2]),if_neg (by simp[a3,a5,a6]),if_neg a4] at hop
  split at hop
  ·rename_i h
   exact op_len h
  ·exact absurd rfl hop
 have hg:tot (greaterW c)≤54:=by
  unfold greaterW
  simp only[tot_cons,tot_nil,zLc,zLn]
  omega
 unfold opW
 refine ite_le (fun n1=>?_) fun n1=>ite_le (fun n2=>?_) fun n2=>ite_le (fun n3=>?_) fun n3=>ite_le (fun n4=>?_) fun n4=>ite_le (fun n5=>?_) fun n5=>ite_le (fun n6=>?_) fun n6=>ite_le (fun n7=>?_) fun n7=>ite_le (fun n8=>?_) fun n8=>ite_le (fun n9=>?_) fun n9=>?_
 ·simp only[tot_cons,tot_nil];omega
 ·simp only[tot_cons,tot_nil,zLc,zLn];omega
 ·simp only[tot_cons,tot_app,tot_nil,zLc,zLn];omega
 ·have hnl:=hcall n4
  rw[tot_app,hf]
  have:tot (if name=[105,110] then ([[44]]:List Wd) else if name=[111,117,116] then [[46],[48]] else [[38,102,95]++name,[58]])≤60:=ite_le (fun _=>by decide) fun _=>ite_le (fun _=>by decide) fun _=>by
   simp only[tot_cons,tot_nil,zLa,zLc,zLn];omega
  omega
 ·simp only[tot_cons,tot_app,tot_nil,zLc,zLn];omega
 ·simp only[tot_cons,tot_app,tot_nil,zLc,zLn];omega
 ·simp only[tot_cons,tot_app,tot_nil,zLc,zLn];omega
 ·simp only[tot_cons,tot_app,tot_nil,zLc,zLn];omega
 ·simp only[tot_cons,tot_app,tot_nil,zLc,zLn];omega
 ·have hb:=hbin n1 n2 n3 n4 n5 n6
  rw[tot_app,tot_app]
  have:tot (if op=[62] then greaterW c else if op=[60,61] then greaterW c++[[49],[94]] else if op=[62,61] then ([[60],[49],[94]]:List Wd) else if op=[61,61] then [[94],[49],[60]] else [op])≤60:=ite_le (fun _=>by omega) fun _=>ite_le (fun _=>by
   simp only[tot_cons,tot_app,tot_nil,zLc,zLn];omega) fun _=>ite_le (fun _=>by decide) fun _=>ite_le (fun _=>by decide) fun _=>by
   simp only[tot_cons,tot_nil];omega
  omega
mutual
theorem exW_tot {c:CC} (hc:ShC c) {env:CEnv} (hfn:∀ k∈env.funcs,k.name.length≤24):∀ e,numE e→errE env e=0→tot (exW c e)≤60 * ndE e
 |.mk op num name args,hn,h=>by
  rw[errE] at h
  rw[numE] at hn
  rw[ndE]
  split at h
  ·rename_i ho
   obtain ⟨h1,h3⟩:=orE_zero.1 h
   rw[exW]
   have:=exWl_tot hc hfn args hn.2 h1
   have h5:=opW_tot hc (op:=op) (name:=name) (num:=num) (l:=exWl c args) hn.1 (by omega) (fun hcl=>?_)
   ·omega
   subst hcl
   unfold useE at h3
   rw[if_neg zDd,if_neg zDd,if_pos rfl] at h3
   unfold callE at h3
   split at h3
   ·rename_i e;rw[e];decide
   split at h3
   ·rename_i e;rw[e];decide
   unfold CEnv.fn at h3
   cases hf:env.funcs.find? fun f=>decide (f.name=name) with
   |none=>
    rw[hf] at h3
    simp only at h3
    split at h3 <;> cases h3
   |some k=>
    have e:k.name=name:=of_decide_eq_true (List.find?_some (p:=fun g:FSum=>decide (g.name=name)) hf)
    rw[←e]
    exact hfn k (List.mem_of_find?_eq_some hf)
  ·cases h
theorem exWl_tot {c:CC} (hc:ShC c) {env:CEnv} (hfn:∀ k∈env.funcs,k.name.length≤24):∀ l,numEs l→errEs env l=0→sumW (exWl c l)≤60 * ndEs l
 |[],_,h=>by rw[exWl];exact Nat.zero_le _
 |x::l,hn,h=>by
  rw[errEs] at h
  rw[numEs] at hn
  obtain ⟨h1,h2⟩:=orE_zero.1 h
  have a1:=exW_tot hc hfn x hn.1 h1
  have a2:=exWl_tot hc hfn l hn.2 h2
  rw[exWl,sumW_cons,ndEs]
  omega
end
theorem head_tot {c:CC} (hc:ShC c) {env:CEnv} (hfn:∀ k∈env.funcs,k.name.length≤24) {l:List Ex} (h1:l.length=1) (hn:numEs l) (h:errEs env l=0):tot (exW c (l.headD default))≤60 * ndEs l:=by
 obtain ⟨x,rfl⟩:=List.length_eq_one_iff.1 h1
 rw[errEs] at h
 rw[numEs] at hn
 have:=exW_tot hc hfn x hn.1 (orE_zero.1 h).1
 rw[ndEs]
 simp only[List.headD_cons]
 omega
theorem lab_len {n:Nat} (h:n≤4000000000):(labW n).length≤11:=by
 have:=dec_len (u:=n) (by omega)
 simp only[labW,zLc]
 omega
mutual
theorem stW_tot {c:CC} (hc:ShC c) {env:CEnv} (hfn:∀ k∈env.funcs,k.name.length≤24):∀ (s:Sm) (n:Nat),numS s→errS env s=0→n+2 * ndS s≤4000000000→tot (stW c n s).1≤60 * ndS s∧(stW c n s).2≤n+2 * ndS s
 |.mk kind name index value thn els,n,hnm,h,hN=>by
  rw[errS] at h
  rw[numS] at hnm
  rw[ndS] at hN ⊢
  obtain ⟨m1,m2,m3,m4⟩:=hnm
  by_cases hf:formS (.mk kind name index value thn els)=false
  ·rw[if_pos hf] at h;cases h
  rw[if_neg hf] at h
  obtain ⟨h1,h⟩:=orE_zero.1 h
  obtain ⟨h2,h⟩:=orE_zero.1 h
  obtain ⟨h3,h⟩:=orE_zero.1 h
  obtain ⟨h4,h5⟩:=orE_zero.1 h
  rw[Bool.not_eq_false] at hf
  unfold formS at hf
  have hv:kind=1∨kind=2∨kind=3∨kind=4∨kind=5∨kind=6→tot (exW c (value.headD default))≤60 * ndEs value:=fun hk=>head_tot hc hfn (by
   rcases hk with rfl|rfl|rfl|rfl|rfl|rfl <;> simp at hf <;> simp[hf]) m2 h1
  have ht:=fun n hn=>stWs_tot hc hfn thn n m3 h4 hn
  have he:=fun n hn=>stWs_tot hc hfn els n m4 h5 hn
  have l0:=lab_len (n:=n) (by omega)
  have l1:=lab_len (n:=n+1) (by omega)
  have t0:=hc.t0
  have ts:=hc.sc name
  have ta:=hc.ar name
  unfold stW
  by_cases k1:kind=1
  ·have:=hv (by simp[k1])
   rw[if_pos k1]
   simp only[tot_cons,tot_app,tot_nil,zLc,zLn]
   omega
  rw[if_neg k1]
  by_cases k2:kind=2
  ·have:=hv (by simp[k2])
   have hi:tot (exW c (index.headD default))≤60 * ndEs index:=by
    refine head_tot hc hfn ?_ m1 h2
    subst k2
    simp at hf
    simp[hf]
   rw[if_pos k2]
   simp only[tot_cons,tot_app,tot_nil,zLc,zLn]
   omega
  rw[if_neg k2]
  by_cases k3:kind=3
  ·rw[if_pos k3]
   have h8:=hv (by simp[k3])
   cases els with
   |nil=>
    have h9:=ht (n+1) (by omega)
    simp only[tot_cons,tot_app,tot_nil,zLc,zLn,zLa]
    omega
   |cons a r=>
    have h9:=ht (n+2) (by omega)
    have h10:=he (stWs c (n+2) thn).2 (by omega)
    simp only[tot_cons,tot_app,tot_nil,zLc,zLn,zLa]
    omega
  rw[if_neg k3]
  by_cases k4:kind=4
  ·rw[if_pos k4]
   have h8:=hv (by simp[k4])
   have h9:=ht (n+2) (by omega)
   simp only[tot_cons,tot_app,tot_nil,zLc,zLn,zLa]
   omega
  rw[if_neg k4]
  by_cases k5:kind=5
  ·have:=hv (by simp[k5])
   rw[if_pos k5]
   simp only[tot_cons,tot_app,tot_nil,zLc,zLn]
   omega
  rw[if_neg k5]
  by_cases k6:kind=6
  ·have:=hv (by simp[k6])
   rw[if_pos k6]
   simp only[tot_cons,tot_app,tot_nil,zLc,zLn]
   omega
  rw[if_neg k6]
  by_cases k7:kind=7
  ·rw[if_pos k7]
   simp only[tot_cons,tot_nil,zLc,zLn]
   omega
  ·rw[if_neg k7]
   simp only[tot_nil]
   omega
theorem stWs_tot {c:CC} (hc:ShC c) {env:CEnv} (hfn:∀ k∈env.funcs,k.name.length≤24):∀ (l:List Sm) (n:Nat),numSs l→errSs env l=0→n+2 * ndSs l≤4000000000→tot (stWs c n l).1≤60 * ndSs l∧(stWs c n l).2≤n+2 * ndSs l
 |[],n,_,h,_=>by rw[stWs];simp[tot_nil]
 |s::l,n,hnm,h,hN=>by
  rw[errSs] at h
  rw[numSs] at hnm
  rw[ndSs] at hN ⊢
  obtain ⟨h1,h2⟩:=orE_zero.1 h
  have a1:=stW_tot hc hfn s n hnm.1 h1 (by omega)
  have a2:=stWs_tot hc hfn l (stW c n s).2 hnm.2 h2 (by omega)
  rw[stWs]
  simp only[tot_app]
  omega
end
theorem param_tot {c:CC} (hc:ShC c):∀ l:List Nm,tot (l.flatMap fun p=>[c.sc p,[33]])≤20 * l.length
 |[]=>zNr _
 |p::l=>by
  have:=param_tot hc l
  have:=hc.sc p
  rw[List.flatMap_cons,tot_app]
  simp only[tot_cons,tot_nil,zLc,zLn]
  omega
theorem fnW_tot {c:CC} (hc:ShC c) {env:CEnv} (hfn:∀ k∈env.funcs,k.name.length≤24) (f:FnD) (n:Nat) (hname:f.name.length≤24) (hnm:numSs f.body) (h:errSs env f.body=0) (hN:n+2 * ndF f≤4000000000):tot (fnW c n f).1≤60 * ndF f∧(fnW c n f).2≤n+2 * ndF f:=by
 unfold ndF at hN ⊢
 have h1:=stWs_tot hc hfn f.body n hnm h (by omega)
 have h2:=param_tot hc f.params.reverse
 rw[List.length_reverse] at h2
 unfold fnW
 simp only[tot_cons,tot_app,tot_nil,zLc,zLn,zLa]
 omega
theorem fnWs_tot {cc:Nm→CC}:∀ (fs:List FnD) (n:Nat),(∀ f∈fs,∀ m,m+2 * ndF f≤4000000000→tot (fnW (cc f.name) m f).1≤60 * ndF f∧(fnW (cc f.name) m f).2≤m+2 * ndF f)→n+2 * ndFs fs≤4000000000→tot (fnWs cc n fs).1≤60 * ndFs fs∧(fnWs cc n fs).2≤n+2 * ndFs fs
 |[],n,_,_=>by rw[fnWs];simp[tot_nil]
 |f::l,n,h,hN=>by
  rw[ndFs] at hN ⊢
  have a1:=h f zMs n (by omega)
  have a2:=fnWs_tot l (fnW (cc f.name) n f).2 (fun g hg=>h g (zMo _ hg)) (by omega)
  rw[fnWs]
  simp only[tot_app]
  omega
section
variable {P:Pr} {o:Org}
theorem itoa_len {z:Int} (h:0≤z) (h2:z<4294967296):(itoa z).length≤10:=by
 rw[itoa_pos h]
 exact dec_len (by omega)
theorem arrA_le:∀ (l:List (Nm×Int)) (a:Int),0≤a→(∀ p∈l,0≤p.2)→∀ n,arrA a l n≤a+(l.map (·.2)).sum
 |[],a,h,_,n=>by simp[arrA];exact h
 |(x,k)::l,a,h,hl,n=>by
  have hk:0≤k:=hl (x,k) zMs
  have hl':=fun p hp=>hl p (zMo (x,k) hp)
  have hs:∀ m:List (Nm×Int),(∀ p∈m,0≤p.2)→0≤(m.map (·.2)).sum:=by
   intro m
   induction m with
   |nil=>intro _;simp
   |cons q m ih=>
    intro hm
    have h1:=hm q zMs
    have h2:=ih fun p hp=>hm p (zMo _ hp)
    rw[zMc,List.sum_cons]
    omega
  have hsl:=hs l hl'
  rw[arrA,zMc,List.sum_cons]
  split
  ·show a≤a+(k+_)
   omega
  ·have:=arrA_le l (a+k) (by omega) hl' n
   show _≤a+(k+_)
   omega
theorem cc_short (hF:FitN P o) (own:Nm):ShC (ccF P.vars (arrsP P) P.funcs o own):=by
 have s0:=hF.s0
 have s1:=hF.s1
 have a0:=hF.a0
 have a1:=hF.a1
 have hp:∀ p∈arrsP P,0≤p.2:=fun p hp=>by
  obtain ⟨a,_,rfl⟩:=List.mem_map.1 hp
  exact Int.natCast_nonneg _
 refine ⟨fun n=>?_,fun n=>?_,?_,?_,?_⟩
 ·refine itoa_len ?_ ?_
  ·unfold placeA
   split <;> omega
  ·unfold placeA
   split
   ·rename_i h
    have:=List.idxOf_lt_length_of_mem h
    omega
   ·omega
 ·refine itoa_len (arrA_pos _ _ a0 hp n) ?_
  have h1:=arrA_le (arrsP P) o.arrays a0 hp n
  have h2:((arrsP P).map (·.2)).sum=((totA P.arrays:Nat):Int):=totA_int P.arrays
  rw[h2] at h1
  omega
 ·exact itoa_len s0 (by omega)
 ·exact itoa_len (z:=o.scalars+1) (by omega) (by omega)
 ·exact itoa_len (z:=o.scalars+2) (by omega) (by omega)
theorem prW_tot (hc:checkPr P=0) (hnum:∀ f∈P.funcs,numSs f.body) (hfit:fitsP P.vars (arrsP P) P.funcs o=true) (hnd:ndFs P.funcs≤2000000):tot (wordsC P o)≤60+60 * ndFs P.funcs∧(fnWs (ccF P.vars (arrsP P) P.funcs o) 0 P.funcs).2≤2 * ndFs P.funcs:=by
 have hv:=valid_of hc
 have hF:=fit_of hfit
 have hfr:=fresh_zero _ _ hv.names
 have hpl:∀ f∈P.funcs,f.name.length≤24:=fun f hf=>by
  have h:=(hfr.2 _ (List.mem_append.2 (.inr (List.mem_map.2 ⟨f,hf,rfl⟩)))).2
  unfold isNm at h
  rw[zBa,zBa,zDe] at h
  exact h.1.1
 have hb:=fnWs_tot (cc:=ccF P.vars (arrsP P) P.funcs o) P.funcs 0 (fun f hf m hm=>by
  obtain ⟨kn,k1,k2⟩:=hv.bodies f hf
  refine fnW_tot (cc_short hF f.name) (fun k hk=>?_) f m (hpl f hf) (hnum f hf) k1 hm
  obtain ⟨g,g1,g2,_⟩:=k2 k hk
  rw[←g2]
  exact hpl g g1) (by omega)
 have ht:=itoa_len (z:=o.scalars) hF.s0 (by have:=hF.s1;omega)
 refine ⟨?_,by omega⟩
 unfold wordsC prW
 rw[tot_app]
 simp only[tot_cons,tot_nil,zLc,zLn]
 omega
end
end Go.Stele
namespace Go.Proofs.YtegmklafpoldgaaGreatDoor.Cmp
open Go.GL Go.RowKit Go.Stele
open Go.Lib (decDigits itoa join)
structure TB where
 tb:Nat
 sm:Nat
 am:Nat
 S:KV
 A:KV
 g1:Nat
 g2:Nat
 sc:Nat
def TrH (k:TB) (own:Nm) (ws:List Wd) (n:Nat) (H:Heap):Prop:=∃ v Hv,GL.Acc 1 v (ws.map str) Hv []∧H=(k.tb,.cells 66 [v,int .i64 (n:Nat),int .i64 (k.sc:Nat),.atom (.map (some k.sm)),.atom (.map (some k.am)),str own])::(k.sm,.map (kvs k.S) k.g1)::(k.am,.map (kvs k.A) k.g2)::Hv
def PostT (P:Heap→Prop):LRes→Heap→Prop:=fun r H=>r=.ret (.tuple [])∧P H
def PostS (s:List UInt8) (P:Heap→Prop):LRes→Heap→Prop:=fun r H=>r=.ret (str s)∧P H
structure TBok (k:TB) (c:CC) (own:Nm):Prop where
 sc:∀ name,∃ a:Nat,a≤1000000000∧c.sc name=decDigits a∧((∃ v,GL.kvGet k.S (own++[46]++name)=some v∧v=int .i64 (a:Nat))∨(GL.kvGet k.S (own++[46]++name)=none∧(GL.kvGet k.S name).getD (int .i64 0)=int .i64 (a:Nat)))
 ar:∀ name,∃ a:Nat,a≤1000000000∧c.ar name=decDigits a∧(GL.kvGet k.A name).getD (int .i64 0)=int .i64 (a:Nat)
 t0:c.t0=decDigits k.sc
 t1:c.t1=decDigits (k.sc+1)
 t2:c.t2=decDigits (k.sc+2)
 small:k.sc≤1000000000
 own:own.length≤1000000
theorem perm3 {x y z:Nat×LObj} {A:Heap}:(x::y::z::A).Perm (A++[x,y,z]):=zPc (l₁:=[x,y,z])
theorem permR {x:Nat×LObj} {A:Heap}:(x::A).Perm (A++[x]):=(List.perm_append_singleton _ _).symm
theorem permR2 {x y:Nat×LObj} {A:Heap}:(x::y::A).Perm (A++[x,y]):=zPc (l₁:=[x,y])
theorem permN {A:Heap}:A.Perm (A++[]):=by rw[zLz]
theorem hsubD1 {x:Nat×LObj} {A:Heap}:HSub A (x::A):=zhD zhr
theorem hsubD2 {x y:Nat×LObj} {A:Heap}:HSub A (x::y::A):=zhD (zhD zhr)
theorem hsubP1 {x:Nat×LObj} {A:Heap}:HSub [x] (x::A):=zhP pH zhn
theorem hsubP2 {x y:Nat×LObj} {A:Heap}:HSub [x,y] (x::y::A):=zhP pH zhp
theorem hsubRot1 {x:Nat×LObj} {A:Heap}:HSub (x::A) (A++[x]):=⟨[],by rw[zLz];exact permR.symm⟩
theorem hsubRot2 {x y:Nat×LObj} {A:Heap}:HSub (x::y::A) (A++[x,y]):=⟨[],by rw[zLz];exact permR2.symm⟩
theorem wrap_u64n {m:Nat} (h:m<4294967296):IntKind.u64.wrap (m:Int)=m:=by
 simp only[IntKind.wrap,IntKind.bits,IntKind.signed,Bool.false_and]
 simp
 omega
section
variable {C:Ctx} {e:Env} {H:Heap} {dst:Option Nat} {ty:TypeId} {pos:String} {aft:Array Edge} {g:Option (Nat×Bool)} {K:LV→Heap→Prop} {X:List PanicEntry→Heap→Prop}
theorem zsT {f:FuncId} [TEnter C.P f] (args:List Operand) {ats:Array TypeId} {avs:List LV} {P:Heap→Prop} {H1 F:Heap} (has:args.map e.ev=avs) (hp:H.Perm (H1++F)) (hc:LCalls C f avs H1 (PostT P)) (hk:∀ H',P H'→K (.tuple []) (F++H')) :
  LStep C ⟨dst,.call { callee:=.value (.func f),args:=args.toArray,argTypes:=ats },ty,pos,aft,g⟩ e H K X:=
 LStep.conseq (K:=fun lv H''=>∃ H',H''=H'++F∧P H'∧lv=.tuple []) (S.callH args has hp hc (by rintro v H' ⟨h,h2⟩;cases h;exact ⟨H',rfl,h2,rfl⟩) (by rintro ch H' ⟨h,_⟩;cases h))
  (by rintro lv H'' ⟨H',rfl,hP,rfl⟩;exact ⟨_,F++H',vR _,⟨[],by rw[zLz];exact zPc⟩,hk H' hP⟩)
theorem Pure.kvOr {t el:TypeId} {zv:Value} {zl lv:LV} [h:TMap C.P t el zv zl] {x y:Operand} {b clock:Nat} {m:KV} {s:List UInt8} (hm:e.ev x=.atom (.map (some b))) (hx:e.ev y=str s) (hb:(b,.map (kvs m) clock)∈H) (hg:(GL.kvGet m s).getD zl=lv) :
  GL.Pure C ⟨dst,.lookup t x y false,ty,pos,aft,g⟩ e H lv:=by
 obtain ⟨kt,h1,h2⟩:=h.und
 exact hg▸GL.Pure.kvGet h1 h2 h.zero h.rep hm hx hb
theorem S.callS {f:FuncId} [TEnter C.P f] (args:List Operand) {ats:Array TypeId} {avs:List LV} {P:Heap→Prop} {s:List UInt8} {H1 F:Heap} (has:args.map e.ev=avs) (hp:H.Perm (H1++F)) (hc:LCalls C f avs H1 (PostS s P)) (hk:∀ H',P H'→K (str s) (F++H')) :
  LStep C ⟨dst,.call { callee:=.value (.func f),args:=args.toArray,argTypes:=ats },ty,pos,aft,g⟩ e H K X:=
 LStep.conseq (K:=fun lv H''=>∃ H',H''=H'++F∧P H'∧lv=str s) (S.callH args has hp hc (by rintro v H' ⟨h,h2⟩;cases h;exact ⟨H',rfl,h2,rfl⟩) (by rintro ch H' ⟨h,_⟩;cases h))
  (by rintro lv H'' ⟨H',rfl,hP,rfl⟩;exact ⟨_,F++H',vR _,⟨[],by rw[zLz];exact zPc⟩,hk H' hP⟩)
theorem S.callTV {fo:Operand} {f:FuncId} [TEnter C.P f] {first caps:Array Value} (args:List Operand) {ats:Array TypeId} {avs:List LV} {P:Heap→Prop} {H1 F:Heap} (hf:e.ev fo=.atom (.func (.func f) first caps))
  (has:first.toList.map .atom++args.map e.ev++caps.toList.map .atom=avs) (hp:H.Perm (H1++F)) (hc:LCalls C f avs H1 (PostT P)) (hk:∀ H',P H'→K (.tuple []) (F++H')) :
  LStep C ⟨dst,.call { callee:=.value fo,args:=args.toArray,argTypes:=ats },ty,pos,aft,g⟩ e H K X:=
 LStep.conseq (K:=fun lv H''=>∃ H',H''=H'++F∧P H'∧lv=.tuple []) (S.callV args hf has hp hc (by rintro v H' ⟨h,h2⟩;cases h;exact ⟨H',rfl,h2,rfl⟩) (by rintro ch H' ⟨h,_⟩;cases h))
  (by rintro lv H'' ⟨H',rfl,hP,rfl⟩;exact ⟨_,F++H',vR _,⟨[],by rw[zLz];exact zPc⟩,hk H' hP⟩)
end
attribute [local irreducible] LOps LCode LStep LCalls Go.GL.Pure QThen QBlock RetPost LQ LAny LLate LLateOp LS
section
variable {B0:Nat} {w0:World} {k:TB} {own:Nm} {c:CC} {ws:List Wd} {n:Nat} {H:Heap}
theorem put_spec (h:TrH k own ws n H) (W:List Wd) {a:LV} (ha:GL.elems a=some (W.map str)) (hr:ws.length+W.length≤1000000000):LCalls (KC B0 w0) 52 [ptr k.tb 0,a] H (PostT (TrH k own (ws++W) n)):=by
 obtain ⟨v,Hv,hacc,rfl⟩:=h
 have h1:(ws.map str).length=ws.length:=zLm _
 have h2:(W.map str).length=W.length:=zLm _
 refine cI Tryz.func52 rfl (n:=13) rfl rfl rfl ?_
 refine glf ?_
 refine oP (pL (c:=v) rfl zm0 rfl) rfl ?_
 refine oP (pM (lv:=a) rfl) rfl ?_
 refine oS (sG perm3 rfl hacc ha (strs_len W) (strs_ok W) zo fun v' H' hacc'=>?_) rfl
 refine gc7 ?_
 refine oS (sS (cs':=[v',int .i64 (n:Nat),int .i64 (k.sc:Nat),.atom (.map (some k.sm)),.atom (.map (some k.am)),str own]) rfl pH (Acc.cell hacc').1 rfl rfl (Acc.cell hacc').2 rfl ?_) rfl
 refine gba ?_
 exact rO rfl rN zhr ⟨rfl,v',H',by rw[zMa];exact hacc',rfl⟩
theorem label_spec (hG:GW B0 w0) (h:TrH k own ws n H) (hn:n≤1000000000000):LCalls (KC B0 w0) 170 [ptr k.tb 0] H (PostS (labW n) (TrH k own ws (n+1))):=by
 obtain ⟨v,Hv,hacc,rfl⟩:=h
 have hd:(Go.Lib.decDigits n).length≤20:=by
  rw[Go.Lib.decDigits_length]
  exact zNt (nDigits_le 12 n zo) zDd
 refine cI Tryz.func170 rfl (n:=18) rfl rfl rfl ?_
 refine gfe ?_
 refine oS (sF [_] rfl (itoa_spec hG n zo) ?_) rfl
 refine glg ?_
 first|(refine oS (sS (cs':=[_,_,_,_,_,_]) rfl pH rfl rfl rfl rfl rfl ?_) rfl)|skip
 refine glh ?_
 exact rR rfl (zra rfl) zhr ⟨rfl,v,Hv,hacc,rfl⟩
theorem scalar_spec (hG:GW B0 w0) (hk:TBok k c own) (h:TrH k own ws n H) (name:List UInt8) (hn:name.length≤1000000):LCalls (KC B0 w0) 54 [ptr k.tb 0,str name] H (PostS (c.sc name) (TrH k own ws n)):=by
 obtain ⟨a,ha1,ha2,ha3⟩:=hk.sc name
 have ho:=hk.own
 have h0:=h
 obtain ⟨v,Hv,hacc,rfl⟩:=h
 rw[ha2]
 refine cI Tryz.func54 rfl (n:=32) rfl rfl rfl ?_
 refine ga1 ?_
 refine LCode.quiet zk ?_
 refine gli ?_
 rcases ha3 with ⟨v3,hv3,rfl⟩|⟨hv3,hv4⟩
 ·refine qP (Pure.kvHit2 rfl rfl zm1 hv3) rfl ?_
  refine gfk ?_
  refine oC rfl (fun hc=>?_) (fun hc=>?_)
  ·refine gab ?_
   refine oS (sF [_] rfl (itoa_spec hG a zo) ?_) rfl
   refine glj ?_
   exact rR rfl (zra rfl) zhr ⟨rfl,h0⟩
  ·cases hc
 ·refine qP (Pure.kvMiss2 rfl rfl zm1 hv3) rfl ?_
  refine gfk ?_
  refine oC rfl (fun hc=>?_) (fun hc=>?_)
  ·cases hc
  ·refine glk ?_
   refine oP (Pure.kvOr rfl rfl zm1 hv4) rfl ?_
   refine oS (sF [_] rfl (itoa_spec hG a zo) ?_) rfl
   refine ga0 ?_
   exact rR rfl (zra rfl) zhr ⟨rfl,h0⟩
theorem temporary_spec (hG:GW B0 w0) (hk:TBok k c own) (h:TrH k own ws n H) (i:Nat) (hi:i≤2):LCalls (KC B0 w0) 53 [ptr k.tb 0,int .i64 (i:Nat)] H (PostS (decDigits (k.sc+i)) (TrH k own ws n)):=by
 have h0:=h
 obtain ⟨v,Hv,hacc,rfl⟩:=h
 have hs:=hk.small
 have e1:int .i64 ((k.sc:Int)+(i:Int))=int .i64 ((k.sc+i:Nat):Int):=int_eq zo
 refine cI Tryz.func53 rfl (n:=12) rfl rfl rfl ?_
 refine gll ?_
 refine oS (sF [_] (by show [_]=_;exact congrArg (fun x=>[x]) e1) (itoa_spec hG (k.sc+i) zo) ?_) rfl
 refine ga0 ?_
 exact rR rfl (zra rfl) zhr ⟨rfl,h0⟩
theorem greater_spec (hG:GW B0 w0) (hk:TBok k c own) (h:TrH k own ws n H) (hr:ws.length+(greaterW c).length≤1000000000):LCalls (KC B0 w0) 208 [ptr k.tb 0] H (PostT (TrH k own (ws++greaterW c) n)):=by
 have e:greaterW c=[c.t2,[33],c.t1,[33],c.t2,[64],c.t1,[64],[60]]:=rfl
 rw[e] at hr ⊢
 rw[hk.t1,hk.t2]
 rw[hk.t1,hk.t2] at hr
 refine cI Tryz.func208 rfl (n:=15) rfl rfl rfl ?_
 refine gab ?_
 refine oS (S.callS (F:=[]) [_,_] rfl permN (temporary_spec hG hk h 1 zDd) fun H1 h1=>?_) rfl
 refine gat ?_
 refine oS (S.callS (H1:=H1) (F:=[]) [_,_] rfl permN (temporary_spec hG hk h1 2 zDd) fun H2 h2=>?_) rfl
 refine glm ?_
 refine oS (sL [_,_,_,_,_,_,_,_,_] rfl (elemsOk_strs [_,_,_,_,_,_,_,_,_]) rfl rfl rfl ?_) rfl
 refine oS (zsT (H1:=H2) (F:=[]) [_,_] rfl permN (put_spec h2 [_,_,_,_,_,_,_,_,_] rfl hr) fun H3 h3=>?_) rfl
 refine gba ?_
 exact rO rfl rN zhr ⟨rfl,h3⟩
end
end Go.Proofs.YtegmklafpoldgaaGreatDoor.Cmp
namespace Go.Proofs.YtegmklafpoldgaaGreatDoor.Cmp
open Go.GL Go.RowKit Go.Stele
open Go.Lib (decDigits itoa join)
structure EnvOk (env:CEnv):Prop where
 sc:∀ s,scalarE env s=0→s.length≤24
 fn:∀ k∈env.funcs,k.name.length≤24
theorem EnvOk.call {env:CEnv} (h:EnvOk env) {name:Nm} {m:Nat} (hc:callE env name m=0):name.length≤24:=by
 unfold callE at hc
 split at hc
 ·rename_i e;rw[e];decide
 split at hc
 ·rename_i e;rw[e];decide
 unfold CEnv.fn at hc
 cases hf:env.funcs.find? fun f=>decide (f.name=name) with
 |none=>
  rw[hf] at hc
  simp only at hc
  split at hc <;> cases hc
 |some k=>
  have e:k.name=name:=zt (List.find?_some (p:=fun g:FSum=>decide (g.name=name)) hf)
  rw[←e]
  exact h.fn k (List.mem_of_find?_eq_some hf)
section
variable {C:Ctx} {e:Env} {H:Heap} {dst:Option Nat} {ty:TypeId} {pos:String} {aft:Array Edge} {g:Option (Nat×Bool)} {K:LV→Heap→Prop} {X:List PanicEntry→Heap→Prop}
theorem LStep.callT {f:FuncId} [TEnter C.P f] (args:List Operand) {ats:Array TypeId} {avs:List LV} {P:Heap→Prop} (has:args.map e.ev=avs) (hc:LCalls C f avs H (PostT P)) (hk:∀ H',P H'→K (.tuple []) H') :
  LStep C ⟨dst,.call { callee:=.value (.func f),args:=args.toArray,argTypes:=ats },ty,pos,aft,g⟩ e H K X:=
 LStep.conseq (zsT (F:=[]) (K:=fun lv H'=>K lv H') (X:=X) args has (by rw[zLz]) hc (fun H' h=>hk H' h)) (fun lv H' h=>⟨lv,H',vR _,zhR _,h⟩)
end
attribute [local irreducible] LOps LCode LStep LCalls Go.GL.Pure QThen QBlock RetPost LQ LAny LLate LLateOp LS
section
variable {B0:Nat} {w0:World}
abbrev exB (b:Nat) (op:Nm) (num:Nat) (name:Nm) (args:List Ex):Nat×LObj:=(b,.cells 170 [str op,int .u32 (num:Int),str name,.list (args.map encE)])
def ExprT (B0:Nat) (w0:World) (k:TB) (own:Nm) (c:CC) (env:CEnv) (m:Nat):Prop:=∀ (x:Ex) (ws:List Wd) (n:Nat) (H:Heap),ndE x≤m→numE x→errE env x=0→TrH k own ws n H→ws.length+(exW c x).length≤1000000000→LCalls (KC B0 w0) 125 [ptr k.tb 0,encE x] H (PostT (TrH k own (ws++exW c x) n))
theorem all_spec {k:TB} {own:Nm} {c:CC} {env:CEnv} {m:Nat} (ih:ExprT B0 w0 k own c env m) (l:List Ex) (ws:List Wd) (n:Nat) (H:Heap) (hm:ndEs l≤m) (hl:l.length≤2000000) (hnum:numEs l) (he:errEs env l=0) (h:TrH k own ws n H) (hr:ws.length+(exWl c l).flatten.length≤1000000000) :
  LCalls (KC B0 w0) 168 [ptr k.tb 0,.list (l.map encE)] H (PostT (TrH k own (ws++(exWl c l).flatten) n)):=by
 have hall:(l.map encE).length=l.length:=zLm _
 refine cI Tryz.func168 rfl (n:=16) rfl rfl rfl ?_
 refine gbl ?_
 refine oL (fun kk ls H'=>∃ (pre l1:List Ex) (ws':List Wd),l=pre++l1∧kk=l1.length∧ls=[(0,ptr k.tb 0),(6,.list (l.map encE)),(7,int .i64 ((l.map encE).length:Int)),(8,int .i64 (pre.length:Int))]∧TrH k own ws' n H'∧ws'++(exWl c l1).flatten=ws++(exWl c l).flatten∧errEs env l1=0∧numEs l1)
  ⟨l.length,_,_,⟨[],l,ws,rfl,rfl,rfl,h,rfl,he,hnum⟩,⟨rfl,rfl,rfl,rfl,trivial⟩,zhR _⟩ ?_
 rintro kk ls H' ⟨pre,l1,ws',hLe,rfl,rfl,hT,hW,he1,hn1⟩ j hj
 have hb2:pre.length≤2000000:=by
  have:=congrArg List.length hLe
  rw[zLa] at this
  omega
 refine gae ?_
 refine oC rfl (fun hc=>?_) (fun hc=>?_)
 ·have hlen:=zt hc
  rw[zLm,hLe,zLa] at hlen
  obtain ⟨a,l2,rfl⟩:∃ a l2,l1=a::l2:=by
   cases l1 with
   |nil=>simp at hlen
   |cons a l2=>exact ⟨a,l2,rfl⟩
  have ham:ndE a≤ndEs l:=ndEs_mem (by rw[hLe];exact List.mem_append_right _ zMs)
  rw[errEs] at he1
  rw[numEs] at hn1
  rw[exWl,List.flatten_cons,←zAs] at hW
  obtain ⟨h1,h2⟩:=orE_zero.1 he1
  have hlw:=congrArg List.length hW
  rw[zLa,zLa,zLa] at hlw
  refine gag ?_
  refine oP (xR (el':=encE a) (cs:=[_,_,_,_]) rfl rfl zo (by rw[hLe];exact Chk.get_mid encE pre a l2) rfl rfl) rfl ?_
  refine gan ?_
  refine oS (sA fun b8=>?_) rfl
  refine geg ?_
  refine oS (zsT (H1:=H') (F:=[_]) [_,_] rfl permR (ih a ws' n H' zo hn1.1 h1 hT zo) fun H2 hT2=>?_) rfl
  refine gah ?_
  exact ⟨l2.length,_,_,Nat.lt_succ_self _,⟨pre++[a],l2,ws'++exW c a,by rw[hLe];simp,rfl,rfl,hT2,hW,h2,hn1.2⟩,⟨rfl,rfl,rfl,int_eq (by simp),trivial⟩,hsubD1,hj⟩
 ·have hlen:=zf hc
  rw[zLm,hLe,zLa] at hlen
  obtain rfl:l1=[]:=by
   cases l1 with
   |nil=>rfl
   |cons a l2=>simp at hlen;omega
  rw[exWl,List.flatten_nil,zLz] at hW
  refine gb3 ?_
  exact rO hj rN zhr ⟨rfl,by rw[←hW];exact hT⟩
theorem between_spec {k:TB} {own:Nm} {c:CC} {env:CEnv} {m:Nat} (ih:ExprT B0 w0 k own c env m) (b2 b3:Nat) (op:Nm) (num:Nat) (name:Nm) (x y:Ex) (ws:List Wd) (n:Nat) (H:Heap) (hx:ndE x≤m) (hy:ndE y≤m) (nx:numE x) (ny:numE y) (ex:errE env x=0) (ey:errE env y=0) (h:TrH k own ws n H)
  (A B:List Wd) {a b:LV} (ha:GL.elems a=some (A.map str)) (hb:GL.elems b=some (B.map str)) (hr:ws.length+(A++exW c x++B++exW c y).length≤1000000000) :
  LCalls (KC B0 w0) 207 [a,b,ptr b2 0,ptr b3 0] ((b2,.cells 63 [ptr k.tb 0])::exB b3 op num name [x,y]::H)
   (PostT (fun H'=>∃ H2,H'=(b2,.cells 63 [ptr k.tb 0])::exB b3 op num name [x,y]::H2∧TrH k own (ws++(A++exW c x++B++exW c y)) n H2)):=by
 simp only[zLa] at hr
 refine cI Tryz.func207 rfl (n:=24) rfl rfl rfl ?_
 refine gdb ?_
 refine oP (pM (lv:=a) rfl) rfl ?_
 refine oS (zsT (H1:=H) (F:=[_,_]) [_,_] rfl permR2 (put_spec h A ha zo) fun H2 h2=>?_) rfl
 refine gcv ?_
 refine cD (m:=6) rfl [(b2,.cells 63 [ptr k.tb 0]),exB b3 op num name [x,y]] ?_
 refine aT 0 rfl rfl (pL (c:=.atom _) rfl zm0 rfl) ?_
 refine aT 1 rfl rfl (pF rfl) ?_
 refine aT 2 rfl rfl (pL (c:=.list _) rfl zm1 rfl) ?_
 refine LAny.take (i:=3) hsubP2 rfl zk zk zk rfl (xR (el':=encE x) (cs:=[_,_,_,_]) rfl rfl zDd rfl rfl rfl) ?_
 refine aT 4 rfl rfl (pR (cs':=[_,_,_,_]) rfl rfl rfl) ?_
 refine aL ?_ hsubP2
 refine lO 5 (lS (H1:=H2) (F:=[_,_]) rfl (.inl rfl) rfl permR2 zhr (LStep.callT [_,_] rfl (ih x _ n H2 hx nx ex h2 (by rw[zLa];omega)) fun H3 h3=>?_))
 refine lD zk ?_
 refine qN ?_
 refine cW hsubRot2 ?_
 refine gdb ?_
 refine oP (pM (lv:=b) rfl) rfl ?_
 refine oS (zsT (H1:=H3) (F:=[_,_]) [_,_] rfl permR2 (put_spec h3 B hb (by simp only[zLa];omega)) fun H4 h4=>?_) rfl
 refine gaq ?_
 refine cD (m:=6) rfl [(b2,.cells 63 [ptr k.tb 0]),exB b3 op num name [x,y]] ?_
 refine aT 0 rfl rfl (pL (c:=.atom _) rfl zm0 rfl) ?_
 refine aT 1 rfl rfl (pF rfl) ?_
 refine aT 2 rfl rfl (pL (c:=.list _) rfl zm1 rfl) ?_
 refine LAny.take (i:=3) hsubP2 rfl zk zk zk rfl (xR (el':=encE y) (cs:=[_,_,_,_]) rfl rfl zDd rfl rfl rfl) ?_
 refine aT 4 rfl rfl (pR (cs':=[_,_,_,_]) rfl rfl rfl) ?_
 refine aL ?_ hsubP2
 refine lO 5 (lS (H1:=H4) (F:=[_,_]) rfl (.inl rfl) rfl permR2 zhr (LStep.callT [_,_] rfl (ih y _ n H4 hy ny ey h4 (by simp only[zLa];omega)) fun H5 h5=>?_))
 refine lD zk ?_
 exact rO rfl rN hsubRot2 ⟨rfl,H5,rfl,by
  simp only[zAs] at h5 ⊢
  exact h5⟩
end
end Go.Proofs.YtegmklafpoldgaaGreatDoor.Cmp
namespace Go.Proofs.YtegmklafpoldgaaGreatDoor.Cmp
open Go.GL Go.RowKit Go.Stele
open Go.Lib (decDigits itoa join)
theorem exWl_nil (c:CC):exWl c []=[]:=by rw[exWl]
theorem exWl_cons (c:CC) (x:Ex) (l:List Ex):exWl c (x::l)=exW c x::exWl c l:=by rw[exWl]
theorem one_arg {env:CEnv} {op name:Nm} {args:List Ex} (h:opnds op = -1∨opnds op=args.length) (ho:opnds op=1):∃ x,args=[x]:=by
 have:args.length=1:=by omega
 exact List.length_eq_one_iff.1 this
theorem two_args {op:Nm} {args:List Ex} (h:opnds op = -1∨opnds op=args.length) (ho:opnds op=2):∃ x y,args=[x,y]:=by
 have h2:args.length=2:=by omega
 match args,h2 with
 |[x,y],_=>exact ⟨x,y,rfl⟩
def binW (c:CC) (op:Nm):List Wd:=if op=[62] then greaterW c else if op=[60,61] then greaterW c++[[49],[94]] else if op=[62,61] then [[60],[49],[94]] else if op=[61,61] then [[94],[49],[60]] else [op]
def twoW (c:CC) (op:Nm) (X Y:List Wd):List Wd:=
 if op=[33,61] then [[48]]++X++[]++Y++[[94],[60]]
 else if op=[38,38] then [[48]]++X++[[60],[48]]++Y++[[60],[42]]
 else if op=[124,124] then [[48],[48]]++X++[[60],[48]]++Y++[[60],[43],[60]]
 else []++X++[]++Y++binW c op
theorem exW_two (c:CC) {op:Nm} (num:Nat) (name:Nm) (x y:Ex) (h1:op≠nNum) (h2:op≠nVar) (h3:op≠nElem) (h4:op≠nCall) (h5:op≠nNeg) (h6:op≠nNot):exW c (.mk op num name [x,y])=twoW c op (exW c x) (exW c y):=by
 rw[exW,exWl_cons,exWl_cons,exWl_nil]
 unfold opW twoW binW
 rw[if_neg h1,if_neg h2,if_neg h3,if_neg h4,if_neg h5,if_neg h6]
 simp only[List.headD_cons,List.drop_one,List.tail_cons,List.nil_append,zLz,zAs,List.cons_append,List.singleton_append]
attribute [local irreducible] LOps LCode LStep LCalls Go.GL.Pure QThen QBlock RetPost LQ LAny LLate LLateOp LS
section
variable {B0:Nat} {w0:World}
theorem binary_spec (hG:GW B0 w0) {k:TB} {own:Nm} {c:CC} (hk:TBok k c own) {env:CEnv} {m:Nat} (ih:ExprT B0 w0 k own c env m) (op:Nm) (num:Nat) (name:Nm) (x y:Ex) (ws:List Wd) (n:Nat) (H:Heap) (hx:ndE x≤m) (hy:ndE y≤m) (nx:numE x) (ny:numE y) (ex:errE env x=0) (ey:errE env y=0) (h:TrH k own ws n H)
  (hr:ws.length+(twoW c op (exW c x) (exW c y)).length≤1000000000) :
  LCalls (KC B0 w0) 169 [ptr k.tb 0,encE (.mk op num name [x,y])] H (PostT (TrH k own (ws++twoW c op (exW c x) (exW c y)) n)):=by
 rw[encE_mk]
 generalize hW:twoW c op (exW c x) (exW c y)=W at hr ⊢
 unfold twoW at hW
 refine cI Tryz.func169 rfl (n:=64) rfl rfl rfl ?_
 refine gac ?_
 refine oS (sB rfl fun b2=>?_) rfl
 refine oS (sB rfl fun b3=>?_) rfl
 refine LOps.weak (H':=(b2,.cells 63 [ptr k.tb 0])::exB b3 op num name [x,y]::H) ⟨[],by rw[zLz];exact List.Perm.swap _ _ _⟩ ?_
 refine gln ?_
 have hBT:=fun (A B:List Wd) {a b:LV} (ha:GL.elems a=some (A.map str)) (hb:GL.elems b=some (B.map str)) hr=>between_spec (B0:=B0) (w0:=w0) ih b2 b3 op num name x y ws n H hx hy nx ny ex ey h A B ha hb hr
 by_cases h1:op=[33,61]
 ·rw[if_pos h1] at hW
  refine oC rfl (fun _=>?_) (fun hc=>absurd h1 (zf hc))
  refine gab ?_
  refine oS (sL [_] rfl (elemsOk_strs [_]) rfl rfl rfl ?_) rfl
  refine oS (S.callTV (f:=207) (F:=[]) [_,_] rfl rfl permN (hBT [[48]] [] rfl rfl (by rw[←hW] at hr;simp only[zLa] at hr ⊢;omega)) ?_) rfl
  rintro H1 ⟨H2,rfl,h2⟩
  refine gdc ?_
  refine oS (sL [_,_] rfl (elemsOk_strs [_,_]) rfl rfl rfl ?_) rfl
  refine oS (zsT (H1:=H2) (F:=[_,_]) [_,_] rfl permR2 (put_spec h2 [[94],[60]] rfl (by rw[←hW] at hr;simp only[zLa] at hr ⊢;omega)) fun H3 h3=>?_) rfl
  refine gdd ?_
  exact rR rfl rN hsubD2 ⟨rfl,by rw[←hW];simp only[zAs] at h3 ⊢;exact h3⟩
 rw[if_neg h1] at hW
 refine oC rfl (fun hc=>absurd (zt hc) h1) (fun _=>?_)
 refine gai ?_
 by_cases h2:op=[38,38]
 ·rw[if_pos h2] at hW
  refine oC rfl (fun _=>?_) (fun hc=>absurd h2 (zf hc))
  refine gab ?_
  refine oS (sL [_] rfl (elemsOk_strs [_]) rfl rfl rfl ?_) rfl
  refine oS (sL [_,_] rfl (elemsOk_strs [_,_]) rfl rfl rfl ?_) rfl
  refine oS (S.callTV (f:=207) (F:=[]) [_,_] rfl rfl permN (hBT [[48]] [[60],[48]] rfl rfl (by rw[←hW] at hr;simp only[zLa] at hr ⊢;omega)) ?_) rfl
  rintro H1 ⟨H2,rfl,h2⟩
  refine gdc ?_
  refine oS (sL [_,_] rfl (elemsOk_strs [_,_]) rfl rfl rfl ?_) rfl
  refine oS (zsT (H1:=H2) (F:=[_,_]) [_,_] rfl permR2 (put_spec h2 [[60],[42]] rfl (by rw[←hW] at hr;simp only[zLa] at hr ⊢;omega)) fun H3 h3=>?_) rfl
  refine gdd ?_
  exact rR rfl rN hsubD2 ⟨rfl,by rw[←hW];simp only[zAs] at h3 ⊢;exact h3⟩
 rw[if_neg h2] at hW
 refine oC rfl (fun hc=>absurd (zt hc) h2) (fun _=>?_)
 refine gai ?_
 by_cases h3:op=[124,124]
 ·rw[if_pos h3] at hW
  refine oC rfl (fun _=>?_) (fun hc=>absurd h3 (zf hc))
  refine gab ?_
  refine oS (sL [_,_] rfl (elemsOk_strs [_,_]) rfl rfl rfl ?_) rfl
  refine oS (sL [_,_] rfl (elemsOk_strs [_,_]) rfl rfl rfl ?_) rfl
  refine oS (S.callTV (f:=207) (F:=[]) [_,_] rfl rfl permN (hBT [[48],[48]] [[60],[48]] rfl rfl (by rw[←hW] at hr;simp only[zLa] at hr ⊢;omega)) ?_) rfl
  rintro H1 ⟨H2,rfl,h2⟩
  refine gdc ?_
  refine oS (sL [_,_,_] rfl (elemsOk_strs [_,_,_]) rfl rfl rfl ?_) rfl
  refine oS (zsT (H1:=H2) (F:=[_,_]) [_,_] rfl permR2 (put_spec h2 [[60],[43],[60]] rfl (by rw[←hW] at hr;simp only[zLa] at hr ⊢;omega)) fun H3 h3=>?_) rfl
  refine gdd ?_
  exact rR rfl rN hsubD2 ⟨rfl,by rw[←hW];simp only[zAs] at h3 ⊢;exact h3⟩
 rw[if_neg h3] at hW
 refine oC rfl (fun hc=>absurd (zt hc) h3) (fun _=>?_)
 refine gb0 ?_
 refine oS (S.callTV (f:=207) (F:=[]) [_,_] rfl rfl permN (hBT [] [] rfl rfl (by rw[←hW] at hr;simp only[zLa] at hr ⊢;omega)) ?_) rfl
 rintro H1 ⟨H2,rfl,h2⟩
 generalize hX:ws++([]++exW c x++[]++exW c y)=wx at h2
 have hW2:wx++binW c op=ws++W:=by rw[←hW,←hX];simp only[zAs]
 have hlw:=congrArg List.length hW2
 rw[zLa,zLa] at hlw
 unfold binW at hW2 hlw
 refine glo ?_
 by_cases g1:op=[62]
 ·rw[if_pos g1] at hW2 hlw
  refine oC rfl (fun _=>?_) (fun hc=>absurd g1 (zf hc))
  refine gde ?_
  refine oS (zsT (H1:=H2) (F:=[_,_]) [_] rfl permR2 (greater_spec hG hk h2 zo) fun H3 h3=>?_) rfl
  refine gay ?_
  exact rO rfl rN hsubD2 ⟨rfl,by rw[←hW2];exact h3⟩
 rw[if_neg g1] at hW2 hlw
 refine oC rfl (fun hc=>absurd (zt hc) g1) (fun _=>?_)
 refine gai ?_
 by_cases g2:op=[60,61]
 ·rw[if_pos g2] at hW2 hlw
  rw[zLa] at hlw
  refine oC rfl (fun _=>?_) (fun hc=>absurd g2 (zf hc))
  refine gdb ?_
  refine oS (zsT (H1:=H2) (F:=[_,_]) [_] rfl permR2 (greater_spec hG hk h2 zo) fun H3 h3=>?_) rfl
  refine glp ?_
  refine oS (sL [_,_] rfl (elemsOk_strs [_,_]) rfl rfl rfl ?_) rfl
  refine oS (zsT (H1:=H3) (F:=[_,_]) [_,_] rfl permR2 (put_spec h3 [[49],[94]] rfl (by rw[zLa];omega)) fun H4 h4=>?_) rfl
  refine gay ?_
  exact rO rfl rN hsubD2 ⟨rfl,by rw[←hW2,←zAs];exact h4⟩
 rw[if_neg g2] at hW2 hlw
 refine oC rfl (fun hc=>absurd (zt hc) g2) (fun _=>?_)
 refine gai ?_
 by_cases g3:op=[62,61]
 ·rw[if_pos g3] at hW2 hlw
  refine oC rfl (fun _=>?_) (fun hc=>absurd g3 (zf hc))
  refine gde ?_
  refine oS (sL [_,_,_] rfl (elemsOk_strs [_,_,_]) rfl rfl rfl ?_) rfl
  refine oS (zsT (H1:=H2) (F:=[_,_]) [_,_] rfl permR2 (put_spec h2 [[60],[49],[94]] rfl zo) fun H3 h3=>?_) rfl
  refine gay ?_
  exact rO rfl rN hsubD2 ⟨rfl,by rw[←hW2];exact h3⟩
 rw[if_neg g3] at hW2 hlw
 refine oC rfl (fun hc=>absurd (zt hc) g3) (fun _=>?_)
 refine gai ?_
 by_cases g4:op=[61,61]
 ·rw[if_pos g4] at hW2 hlw
  refine oC rfl (fun _=>?_) (fun hc=>absurd g4 (zf hc))
  refine gde ?_
  refine oS (sL [_,_,_] rfl (elemsOk_strs [_,_,_]) rfl rfl rfl ?_) rfl
  refine oS (zsT (H1:=H2) (F:=[_,_]) [_,_] rfl permR2 (put_spec h2 [[94],[49],[60]] rfl zo) fun H3 h3=>?_) rfl
  refine gay ?_
  exact rO rfl rN hsubD2 ⟨rfl,by rw[←hW2];exact h3⟩
 rw[if_neg g4] at hW2 hlw
 refine oC rfl (fun hc=>absurd (zt hc) g4) (fun _=>?_)
 refine glq ?_
 refine oS (sL [_] rfl (elemsOk_strs [_]) rfl rfl rfl ?_) rfl
 refine oS (zsT (H1:=H2) (F:=[_,_]) [_,_] rfl permR2 (put_spec h2 [op] rfl zo) fun H3 h3=>?_) rfl
 refine gay ?_
 exact rO rfl rN hsubD2 ⟨rfl,by rw[←hW2];exact h3⟩
theorem expr_spec (hG:GW B0 w0) {k:TB} {own:Nm} {c:CC} (hk:TBok k c own) {env:CEnv} (hE:EnvOk env):∀ m:Nat,m≤2000000→ExprT B0 w0 k own c env m
 |0,_=>fun x ws n H h=>by have:=ndE_pos x;omega
 |m+1,hm6=>by
  have ih:=expr_spec hG hk hE m zo
  intro x ws n H hnd hnum herr h hr
  obtain ⟨op,num,name,args⟩:=x
  rw[ndE] at hnd
  rw[numE] at hnum
  obtain ⟨hnum,hna⟩:=hnum
  have hal:=ndEs_len args
  have hall:(args.map encE).length=args.length:=zLm _
  rw[errE] at herr
  by_cases hop:opnds op = -1∨opnds op=args.length
  rotate_left
  ·rw[if_neg hop] at herr;cases herr
  rw[if_pos hop] at herr
  obtain ⟨he1,he2⟩:=orE_zero.1 herr
  have hW:exW c (Ex.mk op num name args)=opW c op num name (exWl c args):=by rw[exW]
  have hone:opnds op=1→∃ x,args=[x]:=fun h1=>one_arg (env:=env) (name:=name) hop h1
  rw[encE_mk]
  refine cI Tryz.func125 rfl (n:=98) rfl rfl rfl ?_
  refine gac ?_
  refine oS (sB rfl fun b3=>?_) rfl
  refine gfl ?_
  by_cases h1:op=[110,117,109]
  ·have hW1:exW c (Ex.mk op num name args)=[decDigits num]:=by rw[hW];subst h1;rfl
   rw[hW1] at hr ⊢
   refine oC rfl (fun _=>?_) (fun hc=>absurd h1 (zf hc))
   refine glr ?_
   refine oS (sF [_,_] (by show [int .u64 (IntKind.u64.wrap (num:Int)),_]=[int .u64 (num:Nat),int .i64 10];rw[wrap_u64n hnum];rfl) (fmtUint_spec hG num (by have:num<4294967296:=hnum;omega)) ?_) rfl
   refine oS (sL [_] rfl (elemsOk_strs [_]) rfl rfl rfl ?_) rfl
   refine oS (zsT (H1:=H) (F:=[_]) [_,_] rfl permR (put_spec h [decDigits num] rfl hr) fun H2 h2=>?_) rfl
   refine gay ?_
   exact rO rfl rN hsubD1 ⟨rfl,h2⟩
  refine oC rfl (fun hc=>absurd (zt hc) h1) (fun _=>?_)
  refine gai ?_
  by_cases h2:op=[118,97,114]
  ·have hW1:exW c (Ex.mk op num name args)=[c.sc name,[64]]:=by rw[hW];subst h2;rfl
   have hsc:scalarE env name=0:=by rw[←he2];subst h2;rfl
   have hnl:=hE.sc name hsc
   rw[hW1] at hr ⊢
   refine oC rfl (fun _=>?_) (fun hc=>absurd h2 (zf hc))
   refine gd7 ?_
   refine oS (S.callS (H1:=H) (F:=[_]) [_,_] rfl permR (scalar_spec hG hk h name zo) fun H2 h2=>?_) rfl
   refine oS (sL [_,_] rfl (elemsOk_strs [_,_]) rfl rfl rfl ?_) rfl
   refine oS (zsT (H1:=H2) (F:=[_]) [_,_] rfl permR (put_spec h2 [c.sc name,[64]] rfl hr) fun H3 h3=>?_) rfl
   refine gay ?_
   exact rO rfl rN hsubD1 ⟨rfl,h3⟩
  refine oC rfl (fun hc=>absurd (zt hc) h2) (fun _=>?_)
  refine gai ?_
  by_cases h3:op=[101,108,101,109]
  ·obtain ⟨x,rfl⟩:=hone (by subst h3;rfl)
   have hW1:exW c (Ex.mk op num name [x])=[c.ar name]++(exW c x++[[43],[64]]):=by rw[hW,exWl_cons,exWl_nil];subst h3;rfl
   rw[hW1] at hr ⊢
   simp only[zLa,zLc,zLn] at hr
   rw[errEs] at he1
   rw[numEs] at hna
   rw[ndEs] at hnd
   have hex:=(orE_zero.1 he1).1
   obtain ⟨a,ha1,ha2,ha3⟩:=hk.ar name
   refine oC rfl (fun _=>?_) (fun hc=>absurd h3 (zf hc))
   refine gb4 ?_
   have h0:=h
   obtain ⟨v,Hv,hacc,rfl⟩:=h
   refine cD (m:=11) rfl [exB b3 op num name [x]] ?_
   refine aT 0 rfl rfl (pM (lv:=.atom _) rfl) ?_
   refine aT 1 rfl rfl (pM (lv:=.atom _) rfl) ?_
   refine aT 2 rfl rfl (pN rfl) ?_
   refine aT 3 rfl rfl (pF rfl) ?_
   refine aT 5 rfl rfl (pF rfl) ?_
   refine aT 6 rfl rfl (pL (c:=.atom _) rfl zm0 rfl) ?_
   refine aL ?_ zhp
   refine lO 4 (lH rfl rfl (pL (c:=.atom _) rfl zm1 rfl) ?_)
   refine lO 7 (lH rfl rfl (Pure.kvOr rfl rfl zm3 ha3) ?_)
   refine lO 8 (lS (H1:=[]) rfl (.inl rfl) rfl zpr zhp (sF [_] rfl (itoa_spec hG a zo) ?_))
   rw[←ha2]
   refine lO 9 (lS (H1:=[]) rfl (.inl rfl) rfl zpr zhp (sL [_] rfl (elemsOk_strs [_]) rfl rfl rfl ?_))
   refine lO 10 (lS (F:=[exB b3 op num name [x]]) rfl (.inl rfl) rfl permR zhr (LStep.callT [_,_] rfl (put_spec h0 [c.ar name] rfl (by simp only[zLc,zLn];omega)) fun H2 h2=>?_))
   refine lD zk ?_
   refine qN ?_
   refine cW hsubRot1 ?_
   refine ga7 ?_
   refine oP (xR (el':=encE x) (cs:=[_,_,_,_]) rfl rfl zDd rfl rfl rfl) rfl ?_
   refine gan ?_
   refine oS (zsT (H1:=H2) (F:=[_]) [_,_] rfl permR (ih x _ n H2 zo hna.1 hex h2 (by simp only[zLa,zLc,zLn];omega)) fun H3 h3=>?_) rfl
   refine ga3 ?_
   refine oS (sL [_,_] rfl (elemsOk_strs [_,_]) rfl rfl rfl ?_) rfl
   refine oS (zsT (H1:=H3) (F:=[_]) [_,_] rfl permR (put_spec h3 [[43],[64]] rfl (by simp only[zLa,zLc,zLn];omega)) fun H4 h4=>?_) rfl
   refine gay ?_
   exact rO rfl rN hsubD1 ⟨rfl,by rw[zAs,zAs] at h4;exact h4⟩
  refine oC rfl (fun hc=>absurd (zt hc) h3) (fun _=>?_)
  refine gai ?_
  by_cases h4:op=[99,97,108,108]
  ·have hcl:callE env name args.length=0:=by rw[←he2];subst h4;rfl
   have hnl:=hE.call hcl
   have hW1:exW c (Ex.mk op num name args)=(exWl c args).flatten++(if name=[105,110] then [[44]] else if name=[111,117,116] then [[46],[48]] else [[38,102,95]++name,[58]]):=by rw[hW];subst h4;rfl
   rw[hW1] at hr ⊢
   rw[zLa] at hr
   refine oC rfl (fun _=>?_) (fun hc=>absurd h4 (zf hc))
   refine ga7 ?_
   refine oS (zsT (H1:=H) (F:=[_]) [_,_] rfl permR (all_spec ih args ws n H zo zo hna he1 h zo) fun H2 h2=>?_) rfl
   rw[←zAs]
   generalize hX:ws++(exWl c args).flatten=wx at h2 ⊢
   have hlx:=congrArg List.length hX
   rw[zLa] at hlx
   refine gfl ?_
   by_cases g1:name=[105,110]
   ·rw[if_pos g1] at hr ⊢
    refine oC rfl (fun _=>?_) (fun hc=>absurd g1 (zf hc))
    refine gas ?_
    refine oS (sL [_] rfl (elemsOk_strs [_]) rfl rfl rfl ?_) rfl
    refine oS (zsT (H1:=H2) (F:=[_]) [_,_] rfl permR (put_spec h2 [[44]] rfl zo) fun H3 h3=>?_) rfl
    refine gay ?_
    exact rO rfl rN hsubD1 ⟨rfl,h3⟩
   rw[if_neg g1] at hr ⊢
   refine oC rfl (fun hc=>absurd (zt hc) g1) (fun _=>?_)
   refine gai ?_
   by_cases g2:name=[111,117,116]
   ·rw[if_pos g2] at hr ⊢
    refine oC rfl (fun _=>?_) (fun hc=>absurd g2 (zf hc))
    refine gas ?_
    refine oS (sL [_,_] rfl (elemsOk_strs [_,_]) rfl rfl rfl ?_) rfl
    refine oS (zsT (H1:=H2) (F:=[_]) [_,_] rfl permR (put_spec h2 [[46],[48]] rfl zo) fun H3 h3=>?_) rfl
    refine gay ?_
    exact rO rfl rN hsubD1 ⟨rfl,h3⟩
   rw[if_neg g2] at hr ⊢
   refine oC rfl (fun hc=>absurd (zt hc) g2) (fun _=>?_)
   refine gls ?_
   refine oS (sL [_,_] rfl (elemsOk_strs [_,_]) rfl rfl rfl ?_) rfl
   refine oS (zsT (H1:=H2) (F:=[_]) [_,_] rfl permR (put_spec h2 [[38,102,95]++name,[58]] rfl zo) fun H3 h3=>?_) rfl
   refine gay ?_
   exact rO rfl rN hsubD1 ⟨rfl,h3⟩
  refine oC rfl (fun hc=>absurd (zt hc) h4) (fun _=>?_)
  refine gai ?_
  by_cases h5:op=[110,101,103]
  ·obtain ⟨x,rfl⟩:=hone (by subst h5;rfl)
   have hW1:exW c (Ex.mk op num name [x])=[[48]]++(exW c x++[[45]]):=by rw[hW,exWl_cons,exWl_nil];subst h5;rfl
   rw[hW1] at hr ⊢
   simp only[zLa,zLc,zLn] at hr
   rw[errEs] at he1
   rw[numEs] at hna
   rw[ndEs] at hnd
   have hex:=(orE_zero.1 he1).1
   refine oC rfl (fun _=>?_) (fun hc=>absurd h5 (zf hc))
   refine gab ?_
   refine oS (sL [_] rfl (elemsOk_strs [_]) rfl rfl rfl ?_) rfl
   refine oS (zsT (H1:=H) (F:=[_]) [_,_] rfl permR (put_spec h [[48]] rfl (by simp only[zLc,zLn];omega)) fun H2 h2=>?_) rfl
   refine gbs ?_
   refine oP (xR (el':=encE x) (cs:=[_,_,_,_]) rfl rfl zDd rfl rfl rfl) rfl ?_
   refine gan ?_
   refine oS (zsT (H1:=H2) (F:=[_]) [_,_] rfl permR (ih x _ n H2 zo hna.1 hex h2 (by simp only[zLa,zLc,zLn];omega)) fun H3 h3=>?_) rfl
   refine ga3 ?_
   refine oS (sL [_] rfl (elemsOk_strs [_]) rfl rfl rfl ?_) rfl
   refine oS (zsT (H1:=H3) (F:=[_]) [_,_] rfl permR (put_spec h3 [[45]] rfl (by simp only[zLa,zLc,zLn];omega)) fun H4 h4=>?_) rfl
   refine gay ?_
   exact rO rfl rN hsubD1 ⟨rfl,by rw[zAs,zAs] at h4;exact h4⟩
  refine oC rfl (fun hc=>absurd (zt hc) h5) (fun _=>?_)
  refine gai ?_
  by_cases h6:op=[110,111,116]
  ·obtain ⟨x,rfl⟩:=hone (by subst h6;rfl)
   have hW1:exW c (Ex.mk op num name [x])=exW c x++[[49],[60]]:=by rw[hW,exWl_cons,exWl_nil];subst h6;rfl
   rw[hW1] at hr ⊢
   simp only[zLa,zLc,zLn] at hr
   rw[errEs] at he1
   rw[numEs] at hna
   rw[ndEs] at hnd
   have hex:=(orE_zero.1 he1).1
   refine oC rfl (fun _=>?_) (fun hc=>absurd h6 (zf hc))
   refine ga7 ?_
   refine oP (xR (el':=encE x) (cs:=[_,_,_,_]) rfl rfl zDd rfl rfl rfl) rfl ?_
   refine gan ?_
   refine oS (zsT (H1:=H) (F:=[_]) [_,_] rfl permR (ih x _ n H zo hna.1 hex h zo) fun H3 h3=>?_) rfl
   refine ga3 ?_
   refine oS (sL [_,_] rfl (elemsOk_strs [_,_]) rfl rfl rfl ?_) rfl
   refine oS (zsT (H1:=H3) (F:=[_]) [_,_] rfl permR (put_spec h3 [[49],[60]] rfl (by simp only[zLa,zLc,zLn];omega)) fun H4 h4=>?_) rfl
   refine gay ?_
   exact rO rfl rN hsubD1 ⟨rfl,by rw[zAs] at h4;exact h4⟩
  refine oC rfl (fun hc=>absurd (zt hc) h6) (fun _=>?_)
  have htwo:opnds op=2:=by
   unfold opnds at hop ⊢
   rw[if_neg (fun h=>h.elim h1 h2),if_neg (fun h=>h.elim h3 (fun h=>h.elim h5 h6)),if_neg (show ¬ op=nCall from h4)] at hop ⊢
   split
   ·rfl
   ·rename_i hb
    rw[if_neg hb] at hop
    omega
  obtain ⟨x,y,rfl⟩:=two_args hop htwo
  have hW2:=exW_two c num name x y h1 h2 h3 h4 h5 h6
  rw[hW2] at hr ⊢
  simp only[errEs] at he1
  simp only[numEs] at hna
  simp only[ndEs] at hnd
  have hex:=orE_zero.1 he1
  refine glt ?_
  refine oS (zsT (H1:=H) (F:=[_]) [_,_] rfl permR (binary_spec hG hk ih op num name x y ws n H zo zo hna.1 hna.2.1 hex.1 (orE_zero.1 hex.2).1 h hr) fun H3 h3=>?_) rfl
  refine gay ?_
  exact rO rfl rN hsubD1 ⟨rfl,h3⟩
end
end Go.Proofs.YtegmklafpoldgaaGreatDoor.Cmp
namespace Go.Proofs.YtegmklafpoldgaaGreatDoor.Cmp
open Go.GL Go.RowKit Go.Stele
open Go.Lib (decDigits itoa join)
mutual
theorem stW_lab (c:CC):∀ (s:Sm) (n:Nat),(stW c n s).2≤n+2 * ndS s
 |.mk kind name index value thn els,n=>by
  have ht:=fun n=>stWs_lab c thn n
  have he:=fun n=>stWs_lab c els n
  rw[ndS]
  unfold stW
  by_cases k1:kind=1
  ·rw[if_pos k1];simp only;omega
  rw[if_neg k1]
  by_cases k2:kind=2
  ·rw[if_pos k2];simp only;omega
  rw[if_neg k2]
  by_cases k3:kind=3
  ·rw[if_pos k3]
   cases els with
   |nil=>have:=ht (n+1);simp only;omega
   |cons a r=>have h1:=ht (n+2);have h2:=he (stWs c (n+2) thn).2;simp only;omega
  rw[if_neg k3]
  by_cases k4:kind=4
  ·have h1:=ht (n+2);rw[if_pos k4];simp only;omega
  rw[if_neg k4]
  by_cases k5:kind=5
  ·rw[if_pos k5];simp only;omega
  rw[if_neg k5]
  by_cases k6:kind=6
  ·rw[if_pos k6];simp only;omega
  rw[if_neg k6]
  by_cases k7:kind=7
  ·rw[if_pos k7];simp only;omega
  ·rw[if_neg k7];simp only;omega
theorem stWs_lab (c:CC):∀ (l:List Sm) (n:Nat),(stWs c n l).2≤n+2 * ndSs l
 |[],n=>by rw[stWs,ndSs];simp
 |s::l,n=>by
  have h1:=stW_lab c s n
  have h2:=stWs_lab c l (stW c n s).2
  rw[stWs,ndSs]
  simp only
  omega
end
theorem stWs_cons (c:CC) (n:Nat) (s:Sm) (l:List Sm):stWs c n (s::l)=((stW c n s).1++(stWs c (stW c n s).2 l).1,(stWs c (stW c n s).2 l).2):=by rw[stWs]
theorem stWs_nil (c:CC) (n:Nat):stWs c n []=([],n):=by rw[stWs]
theorem headD_one (x:Ex):([x]:List Ex).headD default=x:=rfl
theorem ndSs_mem:∀ {l:List Sm} {x:Sm},x∈l→ndS x≤ndSs l
 |g::l,f,h=>by
  rw[ndSs]
  rcases zMi.1 h with rfl|h
  ·omega
  ·have:=ndSs_mem h
   omega
abbrev stB (b:Nat) (kind:Int) (name:Nm) (index value:List Ex) (thn els:List Sm):Nat×LObj:=(b,.cells 168 [int .i64 kind,str name,.list (index.map encE),.list (value.map encE),.list (thn.map encS),.list (els.map encS)])
attribute [local irreducible] LOps LCode LStep LCalls Go.GL.Pure QThen QBlock RetPost LQ LAny LLate LLateOp LS
section
variable {B0:Nat} {w0:World}
def BlockT (B0:Nat) (w0:World) (k:TB) (own:Nm) (c:CC) (env:CEnv) (m:Nat):Prop:=∀ (l:List Sm) (ws:List Wd) (n:Nat) (H:Heap),ndSs l≤m→numSs l→errSs env l=0→TrH k own ws n H→ws.length+(stWs c n l).1.length≤1000000000→n+2 * ndSs l≤1000000000→LCalls (KC B0 w0) 55 [ptr k.tb 0,.list (l.map encS)] H (PostT (TrH k own (ws++(stWs c n l).1) (stWs c n l).2))
theorem branch_spec (hG:GW B0 w0) {k:TB} {own:Nm} {c:CC} {env:CEnv} (hX:ExprT B0 w0 k own c env 2000000) {m:Nat} (ih:BlockT B0 w0 k own c env m) (name:Nm) (index:List Ex) (v:Ex) (thn els:List Sm) (ws:List Wd) (n:Nat) (H:Heap) (hv:ndE v≤2000000) (hm:ndSs thn+ndSs els≤m) (h2m:els.length≤2000000)
  (nv:numE v) (nt:numSs thn) (ne:numSs els) (ev:errE env v=0) (et:errSs env thn=0) (ee:errSs env els=0) (h:TrH k own ws n H) (hr:ws.length+(stW c n (.mk 3 name index [v] thn els)).1.length≤1000000000) (hN:n+2+2 * (ndSs thn+ndSs els)≤1000000000) :
  LCalls (KC B0 w0) 126 [ptr k.tb 0,encS (.mk 3 name index [v] thn els)] H (PostT (TrH k own (ws++(stW c n (.mk 3 name index [v] thn els)).1) (stW c n (.mk 3 name index [v] thn els)).2)):=by
 have hlt:=stWs_lab c thn (n+2)
 have hlab:∀ i:Nat,i≤1000000001→(labW i).length≤11:=fun i hi=>lab_len zo
 have hle:(els.map encS).length=els.length:=zLm _
 rw[encS_mk]
 refine cI Tryz.func126 rfl (n:=65) rfl rfl rfl ?_
 refine gac ?_
 refine oS (sB rfl fun b3=>?_) rfl
 refine gak ?_
 refine oS (S.callS (H1:=H) (F:=[_]) [_] rfl permR (label_spec hG h zo) fun H1 h1=>?_) rfl
 have hl0:=hlab n zo
 refine glu ?_
 cases els with
 |nil=>
  have hS:stW c n (.mk 3 name index [v] thn [])=(exW c v++([38::labW n,[63]]++((stWs c (n+1) thn).1++[labW n++[58]])),(stWs c (n+1) thn).2):=by
   unfold stW;rw[if_neg zDd,if_neg zDd,if_pos rfl]
   simp only[headD_one,zAs]
  rw[hS] at hr ⊢
  simp only[zLa,zLc,zLn] at hr
  refine oC rfl (fun _=>?_) (fun hc=>by cases hc)
  refine ga7 ?_
  refine oP (xR (el':=encE v) (cs:=[_,_,_,_]) rfl rfl zDd rfl rfl rfl) rfl ?_
  refine gan ?_
  refine oS (zsT (H1:=H1) (F:=[_]) [_,_] rfl permR (hX v ws (n+1) H1 hv nv ev h1 zo) fun H2 h2=>?_) rfl
  refine gb7 ?_
  refine oS (sL [_,_] rfl (elemsOk_strs [_,_]) rfl rfl rfl ?_) rfl
  refine oS (zsT (H1:=H2) (F:=[_]) [_,_] rfl permR (put_spec h2 [38::labW n,[63]] rfl (by simp only[zLa,zLc,zLn];omega)) fun H3 h3=>?_) rfl
  refine gbs ?_
  refine oS (zsT (H1:=H3) (F:=[_]) [_,_] rfl permR (ih thn _ (n+1) H3 zo nt et h3 (by simp only[zLa,zLc,zLn];omega) zo) fun H4 h4=>?_) rfl
  refine gb7 ?_
  refine oS (sL [_] rfl (elemsOk_strs [_]) rfl rfl rfl ?_) rfl
  refine oS (zsT (H1:=H4) (F:=[_]) [_,_] rfl permR (put_spec h4 [labW n++[58]] rfl (by simp only[zLa,zLc,zLn];omega)) fun H5 h5=>?_) rfl
  refine glv ?_
  exact rR rfl rN hsubD1 ⟨rfl,by simp only[zAs] at h5 ⊢;exact h5⟩
 |cons s0 r0=>
  have hS:stW c n (.mk 3 name index [v] thn (s0::r0))=(exW c v++([38::labW n,[63]]++((stWs c (n+2) thn).1++([[48],38::labW (n+1),[63],labW n++[58]]++((stWs c (stWs c (n+2) thn).2 (s0::r0)).1++[labW (n+1)++[58]])))),(stWs c (stWs c (n+2) thn).2 (s0::r0)).2):=by
   unfold stW;rw[if_neg zDd,if_neg zDd,if_pos rfl]
   simp only[headD_one,zAs]
  rw[hS] at hr ⊢
  simp only[zLa,zLc,zLn] at hr
  have hl1:=hlab (n+1) zo
  generalize hels:s0::r0=els at *
  have hne:¬ ((els.map encS).length:Int)=0:=by
   rw[←hels]
   simp only[zLm,zLc]
   omega
  refine oC rfl (fun hc=>absurd (zt hc) hne) (fun _=>?_)
  refine gaw ?_
  refine oS (S.callS (H1:=H1) (F:=[_]) [_] rfl permR (label_spec hG h1 zo) fun H1 h1=>?_) rfl
  refine glw ?_
  refine oP (xR (el':=encE v) (cs:=[_,_,_,_]) rfl rfl zDd rfl rfl rfl) rfl ?_
  refine gan ?_
  refine oS (zsT (H1:=H1) (F:=[_]) [_,_] rfl permR (hX v ws (n+1+1) H1 hv nv ev h1 zo) fun H2 h2=>?_) rfl
  refine gb7 ?_
  refine oS (sL [_,_] rfl (elemsOk_strs [_,_]) rfl rfl rfl ?_) rfl
  refine oS (zsT (H1:=H2) (F:=[_]) [_,_] rfl permR (put_spec h2 [38::labW n,[63]] rfl (by simp only[zLa,zLc,zLn];omega)) fun H3 h3=>?_) rfl
  refine gbs ?_
  refine oS (zsT (H1:=H3) (F:=[_]) [_,_] rfl permR (ih thn _ (n+2) H3 zo nt et h3 (by simp only[zLa,zLc,zLn];omega) zo) fun H4 h4=>?_) rfl
  refine gb7 ?_
  refine oS (sL [_,_,_,_] rfl (elemsOk_strs [_,_,_,_]) rfl rfl rfl ?_) rfl
  refine oS (zsT (H1:=H4) (F:=[_]) [_,_] rfl permR (put_spec h4 [[48],38::labW (n+1),[63],labW n++[58]] rfl (by simp only[zLa,zLc,zLn];omega)) fun H5 h5=>?_) rfl
  refine gbs ?_
  refine oS (zsT (H1:=H5) (F:=[_]) [_,_] rfl permR (ih els _ _ H5 zo ne ee h5 (by simp only[zLa,zLc,zLn];omega) zo) fun H6 h6=>?_) rfl
  refine gfm ?_
  refine oS (sL [_] rfl (elemsOk_strs [_]) rfl rfl rfl ?_) rfl
  refine oS (zsT (H1:=H6) (F:=[_]) [_,_] rfl permR (put_spec h6 [labW (n+1)++[58]] rfl (by simp only[zLa,zLc,zLn];omega)) fun H7 h7=>?_) rfl
  refine gba ?_
  exact rO rfl rN hsubD1 ⟨rfl,by simp only[zAs] at h7 ⊢;exact h7⟩
theorem loop_spec (hG:GW B0 w0) {k:TB} {own:Nm} {c:CC} {env:CEnv} (hX:ExprT B0 w0 k own c env 2000000) {m:Nat} (ih:BlockT B0 w0 k own c env m) (name:Nm) (index:List Ex) (v:Ex) (thn els:List Sm) (ws:List Wd) (n:Nat) (H:Heap) (hv:ndE v≤2000000) (hm:ndSs thn≤m)
  (nv:numE v) (nt:numSs thn) (ev:errE env v=0) (et:errSs env thn=0) (h:TrH k own ws n H) (hr:ws.length+(stW c n (.mk 4 name index [v] thn els)).1.length≤1000000000) (hN:n+2+2 * ndSs thn≤1000000000) :
  LCalls (KC B0 w0) 127 [ptr k.tb 0,encS (.mk 4 name index [v] thn els)] H (PostT (TrH k own (ws++(stW c n (.mk 4 name index [v] thn els)).1) (stW c n (.mk 4 name index [v] thn els)).2)):=by
 have hl0:(labW n).length≤11:=lab_len zo
 have hl1:(labW (n+1)).length≤11:=lab_len zo
 have hS:stW c n (.mk 4 name index [v] thn els)=([labW n++[58]]++(exW c v++([38::labW (n+1),[63]]++((stWs c (n+2) thn).1++[[48],38::labW n,[63],labW (n+1)++[58]]))),(stWs c (n+2) thn).2):=by
  unfold stW;rw[if_neg zDd,if_neg zDd,if_neg zDd,if_pos rfl]
  simp only[headD_one,zAs]
 rw[hS] at hr ⊢
 simp only[zLa,zLc,zLn] at hr
 rw[encS_mk]
 refine cI Tryz.func127 rfl (n:=37) rfl rfl rfl ?_
 refine gac ?_
 refine oS (sB rfl fun b3=>?_) rfl
 refine gak ?_
 refine oS (S.callS (H1:=H) (F:=[_]) [_] rfl permR (label_spec hG h zo) fun H1 h1=>?_) rfl
 refine gat ?_
 refine oS (S.callS (H1:=H1) (F:=[_]) [_] rfl permR (label_spec hG h1 zo) fun H1 h1=>?_) rfl
 refine glx ?_
 refine oS (sL [_] rfl (elemsOk_strs [_]) rfl rfl rfl ?_) rfl
 refine oS (zsT (H1:=H1) (F:=[_]) [_,_] rfl permR (put_spec h1 [labW n++[58]] rfl (by simp only[zLa,zLc,zLn];omega)) fun H2 h2=>?_) rfl
 refine gbs ?_
 refine oP (xR (el':=encE v) (cs:=[_,_,_,_]) rfl rfl zDd rfl rfl rfl) rfl ?_
 refine gan ?_
 refine oS (zsT (H1:=H2) (F:=[_]) [_,_] rfl permR (hX v _ (n+1+1) H2 hv nv ev h2 (by simp only[zLa,zLc,zLn];omega)) fun H3 h3=>?_) rfl
 refine gb7 ?_
 refine oS (sL [_,_] rfl (elemsOk_strs [_,_]) rfl rfl rfl ?_) rfl
 refine oS (zsT (H1:=H3) (F:=[_]) [_,_] rfl permR (put_spec h3 [38::labW (n+1),[63]] rfl (by simp only[zLa,zLc,zLn];omega)) fun H4 h4=>?_) rfl
 refine gbs ?_
 refine oS (zsT (H1:=H4) (F:=[_]) [_,_] rfl permR (ih thn _ (n+2) H4 zo nt et h4 (by simp only[zLa,zLc,zLn];omega) zo) fun H5 h5=>?_) rfl
 refine gfm ?_
 refine oS (sL [_,_,_,_] rfl (elemsOk_strs [_,_,_,_]) rfl rfl rfl ?_) rfl
 refine oS (zsT (H1:=H5) (F:=[_]) [_,_] rfl permR (put_spec h5 [[48],38::labW n,[63],labW (n+1)++[58]] rfl (by simp only[zLa,zLc,zLn];omega)) fun H6 h6=>?_) rfl
 refine gba ?_
 exact rO rfl rN hsubD1 ⟨rfl,by simp only[zAs] at h6 ⊢;exact h6⟩
end
end Go.Proofs.YtegmklafpoldgaaGreatDoor.Cmp
namespace Go.Proofs.YtegmklafpoldgaaGreatDoor.Cmp
open Go.GL Go.RowKit Go.Stele
open Go.Lib (decDigits itoa join)
theorem form_idx1 {name:List UInt8} {index value:List Ex} {thn els:List Sm} (h:formS (.mk 2 name index value thn els)=true):∃ x,index=[x]:=by
 have h1:index.length=1:=by
  simp only[formS] at h
  repeat' (split at h)
  all_goals first
   |(simp only[zDe] at h;omega)
   |cases h
   |contradiction
 exact List.length_eq_one_iff.1 h1
theorem form_kind {kind:Int} {name:List UInt8} {index value:List Ex} {thn els:List Sm} (h:formS (.mk kind name index value thn els)=true):kind=1∨kind=2∨kind=3∨kind=4∨kind=5∨kind=6∨kind=7:=by
 simp only[formS] at h
 repeat' (split at h)
 all_goals first
  |omega
  |cases h
attribute [local irreducible] LOps LCode LStep LCalls Go.GL.Pure QThen QBlock RetPost LQ LAny LLate LLateOp LS
section
variable {B0:Nat} {w0:World}
theorem block_spec (hG:GW B0 w0) {k:TB} {own:Nm} {c:CC} (hk:TBok k c own) {env:CEnv} (hE:EnvOk env):∀ m:Nat,m≤2000000→BlockT B0 w0 k own c env m
 |0,_=>fun l ws n H hm hnum herr h hr hN=>by
  have:l=[]:=by
   cases l with
   |nil=>rfl
   |cons s r=>have:=ndS_pos s;rw[ndSs] at hm;omega
  subst this
  rw[stWs_nil]
  refine cI Tryz.func55 rfl (n:=97) rfl rfl rfl ?_
  refine gbl ?_
  refine oL (fun kk ls H'=>kk=0∧ls=[(0,ptr k.tb 0),(6,.list []),(7,int .i64 0),(8,int .i64 0)]∧H'=H) ⟨0,_,_,⟨rfl,rfl,rfl⟩,⟨rfl,rfl,rfl,rfl,trivial⟩,zhR _⟩ ?_
  rintro kk ls H' ⟨rfl,rfl,rfl⟩ j hj
  refine gae ?_
  refine oC rfl (fun hc=>by cases hc) (fun hc=>?_)
  refine gb3 ?_
  exact rO hj rN zhr ⟨rfl,by rw[zLz];exact h⟩
 |m+1,hm6=>by
  have ih:=block_spec hG hk hE m zo
  have hX:ExprT B0 w0 k own c env 2000000:=expr_spec hG hk hE 2000000 (zNr _)
  intro l ws n H hm hnum herr h hr hN
  have hal:=ndSs_len l
  generalize hT:stWs c n l=T at hr ⊢
  refine cI Tryz.func55 rfl (n:=97) rfl rfl rfl ?_
  refine gbl ?_
  refine oL (fun kk ls H'=>∃ (pre l1:List Sm) (ws':List Wd) (n':Nat),l=pre++l1∧kk=l1.length∧ls=[(0,ptr k.tb 0),(6,.list (l.map encS)),(7,int .i64 ((l.map encS).length:Int)),(8,int .i64 (pre.length:Int))]∧TrH k own ws' n' H'∧ws'++(stWs c n' l1).1=ws++T.1∧(stWs c n' l1).2=T.2∧n'+2 * ndSs l1≤1000000000∧errSs env l1=0∧numSs l1)
   ⟨l.length,_,_,⟨[],l,ws,n,rfl,rfl,rfl,h,by rw[hT],by rw[hT],hN,herr,hnum⟩,⟨rfl,rfl,rfl,rfl,trivial⟩,zhR _⟩ ?_
  rintro kk ls H' ⟨pre,l1,ws',n',hLe,rfl,rfl,hTr,hW,hL,hN1,he1,hn1⟩ j hj
  have hb2:pre.length≤2000000:=by
   have:=congrArg List.length hLe
   rw[zLa] at this
   omega
  refine gae ?_
  refine oC rfl (fun hc=>?_) (fun hc=>?_)
  rotate_left
  ·have hlen:=zf hc
   rw[zLm,hLe,zLa] at hlen
   obtain rfl:l1=[]:=by
    cases l1 with
    |nil=>rfl
    |cons a l2=>simp at hlen;omega
   rw[stWs_nil,zLz] at hW
   rw[stWs_nil] at hL
   simp only at hL
   refine gb3 ?_
   exact rO hj rN zhr ⟨rfl,by rw[←hW,←hL];exact hTr⟩
  have hlen:=zt hc
  rw[zLm,hLe,zLa] at hlen
  obtain ⟨s,l2,rfl⟩:∃ a l2,l1=a::l2:=by
   cases l1 with
   |nil=>simp at hlen
   |cons a l2=>exact ⟨a,l2,rfl⟩
  have ham:ndS s≤ndSs l:=ndSs_mem (by rw[hLe];exact List.mem_append_right _ zMs)
  have hsl:=stW_lab c s n'
  rw[errSs] at he1
  rw[numSs] at hn1
  rw[ndSs] at hN1
  obtain ⟨hns,hn2⟩:=hn1
  obtain ⟨hes,he2⟩:=orE_zero.1 he1
  rw[stWs_cons] at hW hL
  simp only at hW hL
  rw[←zAs] at hW
  have hlw:=congrArg List.length hW
  rw[zLa,zLa,zLa] at hlw
  obtain ⟨kind,name,index,value,thn,els⟩:=s
  rw[errS] at hes
  by_cases hf:formS (.mk kind name index value thn els)=false
  ·rw[if_pos hf] at hes;cases hes
  rw[if_neg hf] at hes
  rw[Bool.not_eq_false] at hf
  obtain ⟨e1,hes⟩:=orE_zero.1 hes
  obtain ⟨e2,hes⟩:=orE_zero.1 hes
  obtain ⟨e3,hes⟩:=orE_zero.1 hes
  obtain ⟨e4,e5⟩:=orE_zero.1 hes
  rw[numS] at hns
  obtain ⟨n1,n2,n3,n4⟩:=hns
  rw[ndS] at ham hN1 hsl
  have hel:=ndSs_len els
  refine gag ?_
  refine oP (xR (el':=.agg [int .i64 kind,str name,.list (index.map encE),.list (value.map encE),.list (thn.map encS),.list (els.map encS)]) (cs:=[_,_,_,_,_,_]) rfl rfl zo (by
   have h9:=Chk.get_mid encS pre (Sm.mk kind name index value thn els) l2
   rw[encS_mk] at h9
   rw[hLe]
   exact h9) rfl rfl) rfl ?_
  refine gd6 ?_
  refine oS (sA fun b5=>?_) rfl
  refine gly ?_
  have fin:∀ {e:Env} {Hx:Heap} (W:List Wd) (nx:Nat) (H2:Heap),stW c n' (.mk kind name index value thn els)=(W,nx)→TrH k own (ws'++W) nx H2→HSub H2 Hx→e.ds=j.ds →
    (e.s 0=ptr k.tb 0∧e.s 6=.list (l.map encS)∧e.s 7=int .i64 ((l.map encS).length:Int)∧e.s 8=int .i64 ((pre.length:Int)+1)) →
    ∃ k' ls' H3,k'<(Sm.mk kind name index value thn els::l2).length∧(∃ (pre l1:List Sm) (ws':List Wd) (n':Nat),l=pre++l1∧k'=l1.length∧ls'=[(0,ptr k.tb 0),(6,.list (l.map encS)),(7,int .i64 ((l.map encS).length:Int)),(8,int .i64 (pre.length:Int))]∧TrH k own ws' n' H3∧ws'++(stWs c n' l1).1=ws++T.1∧(stWs c n' l1).2=T.2∧n'+2 * ndSs l1≤1000000000∧errSs env l1=0∧numSs l1)∧AllSlots e ls'∧HSub H3 Hx∧e.ds=[]:=by
   intro e Hx W nx H2 hS hT2 hsub hd hv
   rw[hS] at hW hL hsl
   simp only at hW hL hsl
   exact ⟨l2.length,_,H2,Nat.lt_succ_self _,⟨pre++[Sm.mk kind name index value thn els],l2,ws'++W,nx,by rw[hLe];simp,rfl,rfl,hT2,hW,hL,by omega,he2,hn2⟩,⟨hv.1,hv.2.1,hv.2.2.1,by rw[hv.2.2.2];exact int_eq (by simp),trivial⟩,hsub,hd.trans hj⟩
  by_cases k1:kind=1
  ·subst k1
   obtain ⟨x,rfl⟩:=Inp.form_value hf zDd
   rw[errEs] at e1
   rw[numEs] at n2
   rw[ndEs,ndEs] at ham hN1 hsl
   have hex:=(orE_zero.1 e1).1
   have hsc:scalarE env name=0:=by rw[if_pos rfl] at e3;exact e3
   have hnl:=hE.sc name hsc
   have hS:stW c n' (.mk 1 name index [x] thn els)=(exW c x++[c.sc name,[33]],n'):=by unfold stW;rw[if_pos rfl];rfl
   have hlS:=hlw
   rw[hS] at hlS
   simp only[zLa,zLc,zLn] at hlS
   refine oC rfl (fun _=>?_) (fun hc=>by cases hc)
   refine ga7 ?_
   refine oP (xR (el':=encE x) (cs:=[_,_,_,_]) rfl rfl zDd rfl rfl rfl) rfl ?_
   refine gan ?_
   refine oS (zsT (H1:=H') (F:=[_]) [_,_] rfl permR (hX x ws' n' H' zo n2.1 hex hTr zo) fun H2 h2=>?_) rfl
   refine glz ?_
   refine oS (S.callS (H1:=H2) (F:=[_]) [_,_] rfl permR (scalar_spec hG hk h2 name zo) fun H3 h3=>?_) rfl
   refine oS (sL [_,_] rfl (elemsOk_strs [_,_]) rfl rfl rfl ?_) rfl
   refine oS (zsT (H1:=H3) (F:=[_]) [_,_] rfl permR (put_spec h3 [c.sc name,[33]] rfl (by simp only[zLa,zLc,zLn];omega)) fun H4 h4=>?_) rfl
   refine gah ?_
   exact fin _ _ H4 hS (by rw[←zAs];exact h4) hsubD1 rfl ⟨rfl,rfl,rfl,rfl⟩
  refine oC rfl (fun hc=>absurd (zt hc) k1) (fun _=>?_)
  refine gav ?_
  by_cases k2:kind=2
  ·subst k2
   obtain ⟨x,rfl⟩:=Inp.form_value hf zDd
   obtain ⟨y,rfl⟩:=form_idx1 hf
   rw[errEs] at e1 e2
   rw[numEs] at n1 n2
   rw[ndEs,ndEs,ndEs,ndEs] at ham hN1 hsl
   have hex:=(orE_zero.1 e1).1
   have hey:=(orE_zero.1 e2).1
   obtain ⟨a,ha1,ha2,ha3⟩:=hk.ar name
   have hS:stW c n' (.mk 2 name [y] [x] thn els)=(exW c x++([c.ar name]++(exW c y++[[43],[33]])),n'):=by unfold stW;rw[if_neg zDd,if_pos rfl];rfl
   have hlS:=hlw
   rw[hS] at hlS
   simp only[zLa,zLc,zLn] at hlS
   refine oC rfl (fun _=>?_) (fun hc=>by cases hc)
   refine ga7 ?_
   refine oP (xR (el':=encE x) (cs:=[_,_,_,_]) rfl rfl zDd rfl rfl rfl) rfl ?_
   refine gan ?_
   refine oS (zsT (H1:=H') (F:=[_]) [_,_] rfl permR (hX x ws' n' H' zo n2.1 hex hTr zo) fun H2 h2=>?_) rfl
   refine gcv ?_
   have h0:=h2
   obtain ⟨v,Hv,hacc,rfl⟩:=h2
   refine cD (m:=11) rfl [stB b5 2 name [y] [x] thn els] ?_
   refine aT 0 rfl rfl (pM (lv:=.atom _) rfl) ?_
   refine aT 1 rfl rfl (pM (lv:=.atom _) rfl) ?_
   refine aT 2 rfl rfl (pN rfl) ?_
   refine aT 3 rfl rfl (pF rfl) ?_
   refine aT 5 rfl rfl (pF rfl) ?_
   refine aT 6 rfl rfl (pL (c:=.atom _) rfl zm0 rfl) ?_
   refine aL ?_ hsubP1
   refine lO 4 (lH rfl rfl (pL (c:=.atom _) rfl zm1 rfl) ?_)
   refine lO 7 (lH rfl rfl (Pure.kvOr rfl rfl zm3 ha3) ?_)
   refine lO 8 (lS (H1:=[]) rfl (.inl rfl) rfl zpr hsubP1 (sF [_] rfl (itoa_spec hG a zo) ?_))
   rw[←ha2]
   refine lO 9 (lS (H1:=[]) rfl (.inl rfl) rfl zpr hsubP1 (sL [_] rfl (elemsOk_strs [_]) rfl rfl rfl ?_))
   refine lO 10 (lS (F:=[stB b5 2 name [y] [x] thn els]) rfl (.inl rfl) rfl permR zhr (LStep.callT [_,_] rfl (put_spec h0 [c.ar name] rfl (by simp only[zLa,zLc,zLn];omega)) fun H2 h2=>?_))
   refine lD zk ?_
   refine qN ?_
   refine cW hsubRot1 ?_
   refine ga7 ?_
   refine oP (xR (el':=encE y) (cs:=[_,_,_,_]) rfl rfl zDd rfl rfl rfl) rfl ?_
   refine gan ?_
   refine oS (zsT (H1:=H2) (F:=[_]) [_,_] rfl permR (hX y _ n' H2 zo n1.1 hey h2 (by simp only[zLa,zLc,zLn];omega)) fun H3 h3=>?_) rfl
   refine ga3 ?_
   refine oS (sL [_,_] rfl (elemsOk_strs [_,_]) rfl rfl rfl ?_) rfl
   refine oS (zsT (H1:=H3) (F:=[_]) [_,_] rfl permR (put_spec h3 [[43],[33]] rfl (by simp only[zLa,zLc,zLn];omega)) fun H4 h4=>?_) rfl
   refine gah ?_
   exact fin _ _ H4 hS (by simp only[zAs] at h4 ⊢;exact h4) hsubD1 rfl ⟨rfl,rfl,rfl,rfl⟩
  refine oC rfl (fun hc=>absurd (zt hc) k2) (fun _=>?_)
  refine gav ?_
  by_cases k3:kind=3
  ·subst k3
   obtain ⟨x,rfl⟩:=Inp.form_value hf zDd
   rw[errEs] at e1
   rw[numEs] at n2
   rw[ndEs,ndEs] at ham hN1 hsl
   have hex:=(orE_zero.1 e1).1
   refine oC rfl (fun _=>?_) (fun hc=>by cases hc)
   refine gfn ?_
   refine oS (zsT (H1:=H') (F:=[_]) [_,_] (by show [ptr k.tb 0,_]=_;rw[encS_mk];rfl) permR (branch_spec hG hX ih name index x thn els ws' n' H' zo zo zo n2.1 n3 n4 hex e4 e5 hTr zo zo) fun H2 h2=>?_) rfl
   refine gah ?_
   exact fin _ _ H2 rfl h2 hsubD1 rfl ⟨rfl,rfl,rfl,rfl⟩
  refine oC rfl (fun hc=>absurd (zt hc) k3) (fun _=>?_)
  refine gav ?_
  by_cases k4:kind=4
  ·subst k4
   obtain ⟨x,rfl⟩:=Inp.form_value hf zDd
   rw[errEs] at e1
   rw[numEs] at n2
   rw[ndEs,ndEs] at ham hN1 hsl
   have hex:=(orE_zero.1 e1).1
   refine oC rfl (fun _=>?_) (fun hc=>by cases hc)
   refine gfn ?_
   refine oS (zsT (H1:=H') (F:=[_]) [_,_] (by show [ptr k.tb 0,_]=_;rw[encS_mk];rfl) permR (loop_spec hG hX ih name index x thn els ws' n' H' zo zo n2.1 n3 hex e4 hTr zo zo) fun H2 h2=>?_) rfl
   refine gah ?_
   exact fin _ _ H2 rfl h2 hsubD1 rfl ⟨rfl,rfl,rfl,rfl⟩
  refine oC rfl (fun hc=>absurd (zt hc) k4) (fun _=>?_)
  refine gav ?_
  by_cases k5:kind=5
  ·subst k5
   obtain ⟨x,rfl⟩:=Inp.form_value hf zDd
   rw[errEs] at e1
   rw[numEs] at n2
   rw[ndEs,ndEs] at ham hN1 hsl
   have hex:=(orE_zero.1 e1).1
   have hS:stW c n' (.mk 5 name index [x] thn els)=(exW c x++[[59]],n'):=by unfold stW;rw[if_neg zDd,if_neg zDd,if_neg zDd,if_neg zDd,if_pos rfl];rfl
   have hlS:=hlw
   rw[hS] at hlS
   simp only[zLa,zLc,zLn] at hlS
   refine oC rfl (fun _=>?_) (fun hc=>by cases hc)
   refine ga7 ?_
   refine oP (xR (el':=encE x) (cs:=[_,_,_,_]) rfl rfl zDd rfl rfl rfl) rfl ?_
   refine gan ?_
   refine oS (zsT (H1:=H') (F:=[_]) [_,_] rfl permR (hX x ws' n' H' zo n2.1 hex hTr zo) fun H2 h2=>?_) rfl
   refine ga3 ?_
   refine oS (sL [_] rfl (elemsOk_strs [_]) rfl rfl rfl ?_) rfl
   refine oS (zsT (H1:=H2) (F:=[_]) [_,_] rfl permR (put_spec h2 [[59]] rfl (by simp only[zLa,zLc,zLn];omega)) fun H4 h4=>?_) rfl
   refine gah ?_
   exact fin _ _ H4 hS (by rw[←zAs];exact h4) hsubD1 rfl ⟨rfl,rfl,rfl,rfl⟩
  refine oC rfl (fun hc=>absurd (zt hc) k5) (fun _=>?_)
  refine gav ?_
  by_cases k6:kind=6
  ·subst k6
   obtain ⟨x,rfl⟩:=Inp.form_value hf zDd
   rw[errEs] at e1
   rw[numEs] at n2
   rw[ndEs,ndEs] at ham hN1 hsl
   have hex:=(orE_zero.1 e1).1
   have hS:stW c n' (.mk 6 name index [x] thn els)=(exW c x++[c.t0,[33]],n'):=by unfold stW;rw[if_neg zDd,if_neg zDd,if_neg zDd,if_neg zDd,if_neg zDd,if_pos rfl];rfl
   have hlS:=hlw
   rw[hS] at hlS
   simp only[zLa,zLc,zLn] at hlS
   refine oC rfl (fun _=>?_) (fun hc=>by cases hc)
   refine ga7 ?_
   refine oP (xR (el':=encE x) (cs:=[_,_,_,_]) rfl rfl zDd rfl rfl rfl) rfl ?_
   refine gan ?_
   refine oS (zsT (H1:=H') (F:=[_]) [_,_] rfl permR (hX x ws' n' H' zo n2.1 hex hTr zo) fun H2 h2=>?_) rfl
   refine ga3 ?_
   refine oS (S.callS (H1:=H2) (F:=[_]) [_,_] rfl permR (by
    have h9:=temporary_spec (B0:=B0) (w0:=w0) hG hk h2 0 zDd
    rw[Nat.add_zero,←hk.t0] at h9
    exact h9) fun H3 h3=>?_) rfl
   refine oS (sL [_,_] rfl (elemsOk_strs [_,_]) rfl rfl rfl ?_) rfl
   refine oS (zsT (H1:=H3) (F:=[_]) [_,_] rfl permR (put_spec h3 [c.t0,[33]] rfl (by simp only[zLa,zLc,zLn];omega)) fun H4 h4=>?_) rfl
   refine gah ?_
   exact fin _ _ H4 hS (by rw[←zAs];exact h4) hsubD1 rfl ⟨rfl,rfl,rfl,rfl⟩
  refine oC rfl (fun hc=>absurd (zt hc) k6) (fun _=>?_)
  refine gav ?_
  have k7:kind=7:=by have:=form_kind hf;omega
  subst k7
  have hS:stW c n' (.mk 7 name index value thn els)=([[36]],n'):=by unfold stW;rw[if_neg zDd,if_neg zDd,if_neg zDd,if_neg zDd,if_neg zDd,if_neg zDd,if_pos rfl]
  have hlS:=hlw
  rw[hS] at hlS
  simp only[zLa,zLc,zLn] at hlS
  refine oC rfl (fun _=>?_) (fun hc=>by cases hc)
  refine gas ?_
  refine oS (sL [_] rfl (elemsOk_strs [_]) rfl rfl rfl ?_) rfl
  refine oS (zsT (H1:=H') (F:=[_]) [_,_] rfl permR (put_spec hTr [[36]] rfl (by simp only[zLa,zLc,zLn];omega)) fun H4 h4=>?_) rfl
  refine gah ?_
  exact fin _ _ H4 hS h4 hsubD1 rfl ⟨rfl,rfl,rfl,rfl⟩
end
end Go.Proofs.YtegmklafpoldgaaGreatDoor.Cmp
namespace Go.Proofs.YtegmklafpoldgaaGreatDoor.Cmp
open Go.GL Go.RowKit Go.Stele
open Go.Lib (decDigits itoa join)
abbrev parW (c:CC) (l:List Nm):List Wd:=l.flatMap fun p=>[c.sc p,[33]]
theorem parW_cons (c:CC) (p:Nm) (l:List Nm):parW c (p::l)=[c.sc p,[33]]++parW c l:=by
 unfold parW
 rw[List.flatMap_cons]
theorem fnWs_nil (cc:Nm→CC) (n:Nat):fnWs cc n []=([],n):=by rw[fnWs]
theorem fnWs_cons (cc:Nm→CC) (n:Nat) (f:FnD) (l:List FnD):fnWs cc n (f::l)=((fnW (cc f.name) n f).1++(fnWs cc (fnW (cc f.name) n f).2 l).1,(fnWs cc (fnW (cc f.name) n f).2 l).2):=by rw[fnWs]
theorem fnW_eq (c:CC) (n:Nat) (f:FnD):fnW c n f=([[102,95]++f.name++[58]]++(parW c f.params.reverse++((stWs c n f.body).1++[[48],[59]])),(stWs c n f.body).2):=by
 unfold fnW parW
 simp only[zAs]
theorem take_rev {l:List Nm} {i:Nat} (h:i<l.length):(l.take (i+1)).reverse=l[i]::(l.take i).reverse:=by
 rw[List.take_succ_eq_append_getElem h,List.reverse_append]
 rfl
structure FnT (k:TB) (cc:Nm→CC) (f:FnD):Prop where
 tb:TBok k (cc f.name) f.name
 name:f.name.length≤24
 params:∀ p∈f.params,p.length≤1000000
 num:numSs f.body
 env:∃ env,EnvOk env∧errSs env f.body=0
attribute [local irreducible] LOps LCode LStep LCalls Go.GL.Pure QThen QBlock RetPost LQ LAny LLate LLateOp LS
section
variable {B0:Nat} {w0:World}
theorem program_spec (hG:GW B0 w0) {k:TB} {cc:Nm→CC} (hsm:k.sc≤1000000000) (vars:List Nm) (arrays:List (Nm×Int)) (fs:List FnD) (hnd:ndFs fs≤2000000) (hf:∀ f∈fs,FnT k cc f) {own0:Nm} {c0:CC} (hk0:TBok k c0 own0) (H:Heap) (h:TrH k own0 [] 0 H)
  (hr:5+(fnWs cc 0 fs).1.length≤1000000000) :
  LCalls (KC B0 w0) 25 [ptr k.tb 0,Chk.encPrG vars arrays fs] H (PostT (fun H'=>∃ own n,TrH k own ([[38,102,95,109,97,105,110],[58],decDigits k.sc,[33],[36]]++(fnWs cc 0 fs).1) n H')):=by
 have hal:=ndFs_len fs
 have hall:(fs.map encFn).length=fs.length:=zLm _
 refine cI Tryz.func25 rfl (n:=57) rfl rfl rfl ?_
 refine gac ?_
 refine oS (sB rfl fun b3=>?_) rfl
 refine gak ?_
 refine oS (S.callS (H1:=H) (F:=[_]) [_,_] rfl permR (by
  have h9:=temporary_spec (B0:=B0) (w0:=w0) hG hk0 h 0 zDd
  rw[Nat.add_zero] at h9
  exact h9) fun H1 h1=>?_) rfl
 refine oS (sL [_,_,_,_,_] rfl (elemsOk_strs [_,_,_,_,_]) rfl rfl rfl ?_) rfl
 refine oS (zsT (H1:=H1) (F:=[_]) [_,_] rfl permR (put_spec h1 [[38,102,95,109,97,105,110],[58],decDigits k.sc,[33],[36]] rfl (by simp only[zLc,zLn];omega)) fun H2 h2=>?_) rfl
 rw[List.nil_append] at h2
 refine gco ?_
 generalize hP:([[38,102,95,109,97,105,110],[58],decDigits k.sc,[33],[36]]:List Wd)=P5 at h2 ⊢
 have hP5:P5.length=5:=by rw[←hP];rfl
 clear hP
 generalize hT:fnWs cc 0 fs=T at hr ⊢
 refine oL (fun kk ls H'=>∃ (pre l1:List FnD) (ws':List Wd) (n':Nat) (own:Nm),fs=pre++l1∧kk=l1.length∧ls=[(0,ptr k.tb 0),(13,.list (fs.map encFn)),(14,int .i64 ((fs.map encFn).length:Int)),(15,int .i64 (pre.length:Int))]∧TrH k own ws' n' H'∧ws'++(fnWs cc n' l1).1=P5++T.1∧n'+2 * ndFs l1≤1000000000)
  ⟨fs.length,_,_,⟨[],fs,P5,0,own0,rfl,rfl,rfl,h2,by rw[hT],by omega⟩,⟨rfl,rfl,rfl,rfl,trivial⟩,hsubD1⟩ ?_
 rintro kk ls H' ⟨pre,l1,ws',n',own,hLe,rfl,rfl,hTr,hW,hN1⟩ j hj
 have hb2:pre.length≤2000000:=by
  have:=congrArg List.length hLe
  rw[zLa] at this
  omega
 refine gae ?_
 refine oC rfl (fun hc=>?_) (fun hc=>?_)
 rotate_left
 ·have hlen:=zf hc
  rw[zLm,hLe,zLa] at hlen
  obtain rfl:l1=[]:=by
   cases l1 with
   |nil=>rfl
   |cons a l2=>simp at hlen;omega
  rw[fnWs_nil,zLz] at hW
  refine gb3 ?_
  exact rO hj rN zhr ⟨rfl,own,n',by rw[←hW];exact hTr⟩
 have hlen:=zt hc
 rw[zLm,hLe,zLa] at hlen
 obtain ⟨f,l2,rfl⟩:∃ a l2,l1=a::l2:=by
  cases l1 with
  |nil=>simp at hlen
  |cons a l2=>exact ⟨a,l2,rfl⟩
 have hfm:f∈fs:=by rw[hLe];exact List.mem_append_right _ zMs
 have hnf:=ndFs_mem hfm
 obtain ⟨hk,hnm,hpm,hnum,env,hE,herr⟩:=hf f hfm
 rw[ndFs] at hN1
 have hbl:=stWs_lab (cc f.name) f.body n'
 have hpl:(f.params.map str).length=f.params.length:=zLm _
 unfold ndF at hnf hN1
 rw[fnWs_cons] at hW
 rw[fnW_eq] at hW
 simp only at hW
 have hlw:=congrArg List.length hW
 simp only[zLa,zLc,zLn] at hlw
 obtain ⟨v,Hv,hacc,rfl⟩:=hTr
 refine gag ?_
 refine oP (xR (el':=encFn f) (cs:=[_,_,_,_]) rfl rfl zo (by rw[hLe];exact Chk.get_mid encFn pre f l2) rfl rfl) rfl ?_
 refine gan ?_
 refine oS (sA fun b5=>?_) rfl
 refine gl0 ?_
 first|(refine oS (sS (cs':=[_,_,_,_,_,_]) rfl zp1 rfl rfl rfl rfl rfl ?_) rfl)|skip
 refine gl1 ?_
 have h1:TrH k f.name ws' n' ((k.tb,.cells 66 [v,int .i64 (n':Nat),int .i64 (k.sc:Nat),.atom (.map (some k.sm)),.atom (.map (some k.am)),str f.name])::(k.sm,.map (kvs k.S) k.g1)::(k.am,.map (kvs k.A) k.g2)::Hv):=⟨v,Hv,hacc,rfl⟩
 refine LOps.weak (H':=(b5,.cells 89 [str f.name,.list (f.params.map str),.list (f.locals.map str),.list (f.body.map encS)])::(k.tb,.cells 66 [v,int .i64 (n':Nat),int .i64 (k.sc:Nat),.atom (.map (some k.sm)),.atom (.map (some k.am)),str f.name])::(k.sm,.map (kvs k.S) k.g1)::(k.am,.map (kvs k.A) k.g2)::Hv) ⟨[],by rw[zLz];exact List.Perm.swap _ _ _⟩ ?_
 generalize ((k.tb,.cells 66 [v,int .i64 (n':Nat),int .i64 (k.sc:Nat),.atom (.map (some k.sm)),.atom (.map (some k.am)),str f.name])::(k.sm,.map (kvs k.S) k.g1)::(k.am,.map (kvs k.A) k.g2)::Hv:Heap)=H1 at h1 ⊢
 refine oS (sL [_] rfl (elemsOk_strs [_]) rfl rfl rfl ?_) rfl
 refine oS (zsT (H1:=H1) (F:=[_]) [_,_] rfl permR (put_spec h1 [[102,95]++f.name++[58]] rfl (by simp only[zLc,zLn];omega)) fun H2 h2=>?_) rfl
 refine gl2 ?_
 refine oL (fun kk ls H'=>∃ (i:Nat) (ws2:List Wd) (H3:Heap),i≤f.params.length∧kk=i∧ls=[(0,ptr k.tb 0),(5,ptr b5 0),(6,int .i64 ((i:Int)-1)),(13,.list (fs.map encFn)),(14,int .i64 ((fs.map encFn).length:Int)),(15,int .i64 (pre.length:Int))]∧H'=(b5,.cells 89 [str f.name,.list (f.params.map str),.list (f.locals.map str),.list (f.body.map encS)])::H3∧TrH k f.name ws2 n' H3∧ws2++parW (cc f.name) (f.params.take i).reverse=ws'++[[102,95]++f.name++[58]]++parW (cc f.name) f.params.reverse)
  ⟨f.params.length,_,_,⟨f.params.length,_,H2,zNr _,rfl,rfl,rfl,h2,by rw[List.take_length]⟩,⟨rfl,rfl,by rw[←hpl];rfl,rfl,rfl,rfl,trivial⟩,zhR _⟩ ?_
 rintro kk ls H' ⟨i,ws2,H3,hi,rfl,rfl,rfl,h3,hW3⟩ j2 hj2
 refine ge2 ?_
 refine oC rfl (fun hc=>?_) (fun hc=>?_)
 ·have hge:=zt hc
  obtain ⟨i,rfl⟩:∃ i',kk=i'+1:=⟨kk-1,by omega⟩
  have hlt:i<f.params.length:=by omega
  rw[take_rev hlt,parW_cons] at hW3
  have hlw3:=congrArg List.length hW3
  simp only[zLa,zLc,zLn] at hlw3
  have hpi:=hpm _ (List.getElem_mem hlt)
  refine gfo ?_
  refine oP (xR (el':=str f.params[i]) (cs:=[str f.params[i]]) rfl rfl zo (by rw[show (((i+1:Nat):Int)-1).toNat=i by omega,List.getElem?_map,List.getElem?_eq_getElem hlt];rfl) rfl rfl) rfl ?_
  refine gch ?_
  refine oS (S.callS (H1:=H3) (F:=[_]) [_,_] rfl permR (scalar_spec hG hk h3 f.params[i] zo) fun H4 h4=>?_) rfl
  refine oS (sL [_,_] rfl (elemsOk_strs [_,_]) rfl rfl rfl ?_) rfl
  refine oS (zsT (H1:=H4) (F:=[_]) [_,_] rfl permR (put_spec h4 [(cc f.name).sc f.params[i],[33]] rfl (by simp only[zLc,zLn];omega)) fun H5 h5=>?_) rfl
  refine gl3 ?_
  exact ⟨i,_,_,Nat.lt_succ_self _,⟨i,_,H5,by omega,rfl,rfl,rfl,h5,by rw[zAs];exact hW3⟩,⟨rfl,rfl,int_eq zo,rfl,rfl,rfl,trivial⟩,zhR _,hj2⟩
 ·have hlt:=zf hc
  obtain rfl:kk=0:=by omega
  rw[List.take_zero,List.reverse_nil,show parW (cc f.name) []=[] from rfl,zLz] at hW3
  have hlw3:=congrArg List.length hW3
  simp only[zLa,zLc,zLn] at hlw3
  refine gee ?_
  refine oS (zsT (H1:=H3) (F:=[_]) [_,_] rfl permR (block_spec hG hk hE (ndSs f.body) zo f.body ws2 n' H3 (zNr _) hnum herr h3 zo zo) fun H4 h4=>?_) rfl
  refine ga3 ?_
  refine oS (sL [_,_] rfl (elemsOk_strs [_,_]) rfl rfl rfl ?_) rfl
  refine oS (zsT (H1:=H4) (F:=[_]) [_,_] rfl permR (put_spec h4 [[48],[59]] rfl (by simp only[zLa,zLc,zLn];omega)) fun H5 h5=>?_) rfl
  refine gah ?_
  exact ⟨l2.length,_,_,Nat.lt_succ_self _,⟨pre++[f],l2,_,_,f.name,by rw[hLe];simp,rfl,rfl,h5,by
   rw[hW3]
   simp only[zAs] at hW ⊢
   exact hW,by omega⟩,⟨rfl,rfl,rfl,int_eq (by simp),trivial⟩,hsubD1,hj2.trans hj⟩
end
end Go.Proofs.YtegmklafpoldgaaGreatDoor.Cmp
namespace Go.Stele
open Go.Lib
def prOf (vars:List Nm) (arrays:List (Nm×Int)) (fs:List FnD):Pr:=⟨vars,arrays.map fun a=>⟨a.1,a.2.toNat⟩,fs⟩
theorem prOf_arrs {vars:List Nm} {arrays:List (Nm×Int)} {fs:List FnD} (h:∀ a∈arrays,0≤a.2):arrsP (prOf vars arrays fs)=arrays:=by
 unfold arrsP prOf
 simp only[List.map_map]
 conv=>rhs;rw[←List.map_id arrays]
 refine List.map_congr_left fun a ha=>?_
 have:=h a ha
 simp only[Function.comp,id]
 rw[Int.toNat_of_nonneg this]
theorem sizes_sum:∀ (l:List Int) (t:Int),0≤t→t≤150000→sizesE t l=0→t+l.sum≤150000∧∀ n∈l,0<n
 |[],t,h0,h1,_=>by
  rw[List.sum_nil]
  exact ⟨by omega,fun n hn=>(List.not_mem_nil hn).elim⟩
 |a::l,t,h0,h1,h=>by
  rw[sizesE] at h
  split at h
  ·cases h
  split at h
  ·cases h
  obtain ⟨g1,g2⟩:=sizes_sum l (t+a) (by omega) (by omega) h
  rw[List.sum_cons]
  refine ⟨by omega,fun n hn=>?_⟩
  rcases zMi.1 hn with rfl|hn
  ·omega
  ·exact g2 n hn
theorem check_parts {vars:List Nm} {arrays:List (Nm×Int)} {fs:List FnD} (h:checkP vars arrays fs=0):(arrays.map (·.2)).sum≤150000∧(∀ a∈arrays,0<a.2)∧arrsP (prOf vars arrays fs)=arrays∧checkPr (prOf vars arrays fs)=0∧Valid (prOf vars arrays fs):=by
 have h0:=h
 unfold checkP at h
 obtain ⟨h1,h⟩:=orE_zero.1 h
 obtain ⟨h2,h⟩:=orE_zero.1 h
 obtain ⟨s1,s2⟩:=sizes_sum _ 0 zDd zDd h2
 have hp:∀ a∈arrays,0<a.2:=fun a ha=>s2 a.2 (List.mem_map_of_mem ha)
 have ha:=prOf_arrs (vars:=vars) (fs:=fs) fun a ha=>Int.le_of_lt (hp a ha)
 have hc:checkPr (prOf vars arrays fs)=0:=by
  have:(prOf vars arrays fs).arrays.map (fun a=>(a.name,(a.size:Int)))=arrays:=ha
  unfold checkPr
  rw[this]
  exact h0
 exact ⟨by omega,hp,ha,hc,valid_of hc⟩
def symA:Int→List (Nm×Int)→List (Nm×Int)
 |_,[]=>[]
 |a,(x,n)::r=>(x,a)::symA (a+n) r
theorem symA_names:∀ (l:List (Nm×Int)) (a:Int),(symA a l).map (·.1)=l.map (·.1)
 |[],_=>rfl
 |(x,n)::r,a=>by rw[symA,zMc,zMc,symA_names r]
theorem symA_len:∀ (l:List (Nm×Int)) (a:Int),(symA a l).length=l.length
 |[],_=>rfl
 |(x,n)::r,a=>by rw[symA,zLc,zLc,symA_len r]
theorem symA_app:∀ (l m:List (Nm×Int)) (a:Int),symA a (l++m)=symA a l++symA (a+(l.map (·.2)).sum) m
 |[],m,a=>by simp[symA]
 |(x,n)::r,m,a=>by
  rw[List.cons_append,symA,symA_app r m,symA,List.cons_append,zMc,List.sum_cons,Int.add_assoc]
/-! ### The regions -/
def insideR (r:Int×Int):Bool:=insideA r.1 r.2
def meetsR (r s:Int×Int):Bool:=meetsA r.1 r.2 s.1 s.2
def goR:List (Int×Int)→List (Int×Int)→Bool
 |_,[]=>true
 |prev,r::rest=>insideR r && (prev.all fun s=>!meetsR r s) && goR (prev++[r]) rest
theorem fits_go (vars:List Nm) (arrays:List (Nm×Int)) (fs:List FnD) (o:Org):fitsP vars arrays fs o=goR [] [(o.scalars,3+((scalarsP vars fs).length:Nat)),(o.code,40000),(o.arrays,(arrays.map (·.2)).sum)]:=by
 unfold fitsP goR goR goR goR insideR meetsR
 simp only[List.all_nil,List.nil_append,List.all_cons,List.singleton_append,List.cons_append,Bool.and_true]
 generalize insideA o.scalars _=a
 generalize insideA o.code 40000=b
 generalize insideA o.arrays _=c
 generalize meetsA o.code 40000 o.scalars _=d
 generalize meetsA o.arrays _ o.scalars _=e
 generalize meetsA o.arrays _ o.code 40000=f
 revert a b c d e f
 decide
end Go.Stele
namespace Go.Stele
open Go.Lib
section
variable {P:Pr} {o o':Org} {t t' x x':Wd} {labs labs':List (Wd×Nat)}
end
/-! ### The form of program texts -/
theorem piece_chars {ds:List Wd} {known:Wd→Nat} {w:Wd} (h:OkW ds w) (hd:defW w=none):∀ c∈pieceW known w,codeSet.contains c=true:=by
 unfold OkW at h
 rw[hd] at h
 unfold pieceW
 cases hr:refW w with
 |some x=>
  intro c hc
  exact code_digit ((addrW_len (known x)).2 c hc)
 |none=>
  rw[hr] at h
  simp only at h
  exact fun c hc=>List.all_eq_true.1 h c hc
theorem foldT_chars {ds:List Wd} {known:Wd→Nat}:∀ (l:List Wd) (t:Wd),(∀ w∈l,OkW ds w)→(∀ c∈t,codeSet.contains c=true∨c=32)→∀ c∈l.foldl (addT known) t,codeSet.contains c=true∨c=32
 |[],t,_,h=>h
 |w::l,t,hw,h=>by
  rw[List.foldl_cons]
  refine foldT_chars l _ (fun x hx=>hw x (zMo _ hx)) fun c hc=>?_
  unfold addT at hc
  cases hd:defW w with
  |some y=>
   rw[hd] at hc
   exact h c hc
  |none=>
   rw[hd] at hc
   simp only at hc
   rcases List.mem_append.1 hc with hc|hc
   ·rcases List.mem_append.1 hc with hc|hc
    ·exact h c hc
    ·split at hc
     ·exact .inr (List.mem_singleton.1 hc)
     ·exact (List.not_mem_nil hc).elim
   ·exact .inl (piece_chars (hw w zMs) hd c hc)
theorem asm_chars {src x:Wd} {og:Int} {labs:List (Wd×Nat)} (h:asmP src og=.ok (x,labs)):x.length≤40000∧(defs (wordsP src)).Nodup∧∀ c∈x,codeSet.contains c=true∨c=32:=by
 unfold asmP at h
 split at h
 ·cases h
 split at h
 ·cases h
 rename_i h1
 split at h
 ·cases h
 rename_i h2
 injection h with h
 injection h with h _
 have hA:=asm_ok (Classical.not_not.1 h1)
 refine ⟨by rw[←h];exact Nat.le_of_not_lt h2,hA.1,?_⟩
 rw[←h]
 exact foldT_chars _ _ hA.2 fun c hc=>(List.not_mem_nil hc).elim
end Go.Stele
namespace Go.Stele
open Go.Lib
theorem errT_vals (all:List Wd):∀ (l:List (Wd×Nat)) (met:List Wd),(errT all met l).2=0∨(errT all met l).2=8∨(errT all met l).2=7∨(errT all met l).2=3
 |[],met=>.inl rfl
 |(w,ln)::r,met=>by
  rw[errT]
  cases hd:defW w with
  |some x=>
   simp only
   split
   ·exact .inr (.inl rfl)
   ·exact errT_vals all r _
  |none=>
   simp only
   cases hr:refW w with
   |some x=>
    simp only
    split
    ·exact errT_vals all r _
    ·exact .inr (.inr (.inl rfl))
   |none=>
    simp only
    split
    ·exact errT_vals all r _
    ·exact .inr (.inr (.inr rfl))
theorem asm_vals {src:Wd} {og:Int} (h:0≤og∧og<262144) {e:Nat×Nat} (he:asmP src og=.error e):e.2=8∨e.2=7∨e.2=3∨e.2=6:=by
 unfold asmP at he
 split at he
 ·omega
 split at he
 ·rename_i h1
  injection he with he
  rw[←he]
  rcases errT_vals (defs (wordsP src)) (toksP src) [] with h2|h2|h2|h2
  ·exact absurd h2 h1
  ·exact .inl h2
  ·exact .inr (.inl h2)
  ·exact .inr (.inr (.inl h2))
 split at he
 ·injection he with he
  rw[←he]
  exact .inr (.inr (.inr rfl))
 ·cases he
section
variable {vars:List Nm} {arrays:List (Nm×Int)} {fs:List FnD} {o:Org}
end
end Go.Stele
namespace Go.GL
open Go.RowKit
section
variable {C:Ctx} {e:Env} {H:Heap} {x y:Operand} {dst:Option Nat} {ty:TypeId} {pos:String} {aft:Array Edge} {g:Option (Nat×Bool)} {K:LV→Heap→Prop} {X:List PanicEntry→Heap→Prop}
theorem Pure.lsliceE {t el s:Nat} {lo hi:Option Operand} {es ms:List LV} {i j:Int} [ht:TSlice C.P t el s] (hx:elems (e.ev x)=some es)
  (hlo:BoundIs e lo 0 i) (hhi:BoundIs e hi es.length j) (h0:0≤i) (h1:i≤j) (h2:j≤es.length) (hs:∀ v∈es,v.cells.length=s) (he:(es.take j.toNat).drop i.toNat=ms) :
  Pure C ⟨dst,.slice t x lo hi none,ty,pos,aft,g⟩ e H (.list ms):=he▸Pure.lslice hx hlo hhi h0 h1 h2 hs
end
section
variable {C:Ctx} {n:Nat} {Q:Post} {e:Env} {H F:Heap}
end
end Go.GL
