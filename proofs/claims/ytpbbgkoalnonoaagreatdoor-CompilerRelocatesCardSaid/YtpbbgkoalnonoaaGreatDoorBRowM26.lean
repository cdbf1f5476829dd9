/- Texts joined: AsmB, AsmC, GlFour, MchSpec, MchWord, MchIns, InpSpec, ChkSpec, InpArith, RtPrint. -/
import Derived.KernelRfl
import Derived.Test.YtpbbgkoalnonoaaGreatDoorBRowM22
import Derived.Test.YtpbbgkoalnonoaaGreatDoorBRowM23
import Derived.Test.YtpbbgkoalnonoaaGreatDoorBRowM24
import Derived.Test.YtpbbgkoalnonoaaGreatDoorBRowM25
set_option linter.unusedVariables false
set_option linter.unusedSimpArgs false
set_option maxRecDepth 100000
set_option maxHeartbeats 4000000
namespace Go.Proofs.YtpbbgkoalnonoaaGreatDoor.Asm
open Go.GL Go.RowKit Go.Stele
abbrev txt (l:List (Wd×Nat)):List Wd:=l.map (·.1)
theorem txt_take {l:List (Wd×Nat)} {i:Nat} (h:i<l.length):txt (l.take (i+1))=txt (l.take i)++[l[i].1]:=by
 unfold txt
 rw[List.take_succ_eq_append_getElem h,zMa]
 rfl
theorem defs_some {a:List Wd} {w d:Wd} (h:defW w=some d):defs (a++[w])=defs a++[d]:=by
 rw[defs_app,defs_cons,h]
 rfl
theorem defs_no {a:List Wd} {w:Wd} (h:defW w=none):defs (a++[w])=defs a:=by
 rw[defs_app,defs_none h]
 simp[defs]
theorem set_nil:SetMap #[] (fun s=>decide (s∈([]:List Wd))):=⟨fun e he=>by simp at he,fun s h=>by simp at h⟩
theorem set_snoc {es:Array MapEntry} {ds:List Wd} {d:Wd} (h:SetMap es (fun s=>decide (s∈ds) || decide (s=d))):SetMap es (fun s=>decide (s∈ds++[d])):=
 cast (congrArg (SetMap es) (funext fun s=>by simp)) h
attribute [local irreducible] LOps LCode LStep LCalls Go.GL.Pure QThen QBlock RetPost LQ LAny LLate LLateOp
section
variable {B0:Nat} {w0:World}
theorem tokens_spec (hG:GW B0 w0) (hM:GM w0) (s:List UInt8) (hs:s.length≤400000000):LCalls (KC B0 w0) 57 [str s] [] (Ret (.list ((toksP s).map tokLV))):=by
 have hP:toksP s=toksN 0 (pieces 10 s):=rfl
 have hpl:=pieces_len 10 s
 have hpa:((pieces 10 s).map str).length=(pieces 10 s).length:=zLm _
 have htl:(toksP s).length≤s.length+1:=by
  have h1:=wordsP_len s
  rw[←toksP_fst,zLm] at h1
  exact h1
 have hsp:=split_spec hG hM s 10 zo
 refine cI Tryz.func57 rfl (n:=41) rfl rfl rfl ?_
 refine gao ?_
 refine oS (sF [_,_] rfl hsp ?_) rfl
 refine gad ?_
 refine oL (fun k ls H=>∃ (i:Nat) (out:List (Wd×Nat)) (v:LV),i≤(pieces 10 s).length∧k=(pieces 10 s).length-i∧ls=[(3,v),(9,.list ((pieces 10 s).map str)),(10,int .i64 (pieces 10 s).length),(11,int .i64 (i:Nat))]∧Acc 2 v (out.map tokLV) H []∧out++toksN i ((pieces 10 s).drop i)=toksP s)
  ⟨_,_,_,⟨0,[],nilSlice,Nat.zero_le _,rfl,rfl,Acc.nil,rfl⟩,⟨rfl,rfl,int_eq zo,rfl,trivial⟩,zhR _⟩ ?_
 rintro k ls H ⟨i,out,v,hi,rfl,rfl,hacc,hE⟩ j hj
 refine gal ?_
 refine oC rfl (fun hc=>?_) (fun hc=>?_)
 ·have hlt:i<(pieces 10 s).length:=by have:=zt hc;omega
  have hlo:out.length≤(toksP s).length:=by rw[←hE,zLa];omega
  rw[toksN_drop hlt] at hE
  have hll:=pieces_mem_len (List.getElem_mem hlt)
  have hc1:=cut_spec hG hM (pieces 10 s)[i] 35 zo
  have hW:lineW (pieces 10 s)[i]=full (pieces 32 ((pieces 10 s)[i].takeWhile fun d=>decide (d≠35))):=rfl
  have htw:((pieces 10 s)[i].takeWhile fun d=>decide (d≠35)).length≤(pieces 10 s)[i].length:=(List.takeWhile_prefix _).length_le
  have hs2:=split_spec hG hM ((pieces 10 s)[i].takeWhile fun d=>decide (d≠35)) 32 zo
  have hql:=pieces_len 32 ((pieces 10 s)[i].takeWhile fun d=>decide (d≠35))
  generalize (pieces 10 s)[i].takeWhile (fun d=>decide (d≠35))=line at hc1 hW htw hs2 hql
  generalize hq:pieces 32 line=q at hW hs2 hql
  have hqa:(q.map str).length=q.length:=zLm _
  repeat (first|refine LOps.nil ?_|refine qN ?_|refine LCode.skip ?_)
  refine LCode.seq ?_
  refine LCode.midC (A:=List (Wd×Nat)×LV×Heap) (fun a=>[(3,a.2.1),(9,.list ((pieces 10 s).map str)),(10,int .i64 (pieces 10 s).length),(11,int .i64 (i:Nat))]) (fun a=>a.2.2) (fun a=>a.1=out++(full q).map (fun w=>(w,i+1))∧Acc 2 a.2.1 (a.1.map tokLV) a.2.2 []) ?_ ?_
  ·refine gab ?_
   refine oP (xR (el':=str (pieces 10 s)[i]) (cs:=[str (pieces 10 s)[i]]) rfl rfl zo (map_get _ _ _ hlt) rfl rfl) rfl ?_
   refine gab ?_
   refine oS (S.fnIf [_,_] rfl hc1 ?_) rfl
   rintro lv ⟨a,b,rfl⟩
   refine gab ?_
   refine oS (sF [_,_] rfl hs2 ?_) rfl
   refine gad ?_
   refine oL (fun k ls H=>∃ (x:Nat) (out2:List (Wd×Nat)) (v:LV),x≤q.length∧k=q.length-x∧ls=[(3,v),(4,int .i64 (i:Nat)),(9,.list ((pieces 10 s).map str)),(10,int .i64 (pieces 10 s).length),(11,int .i64 (i:Nat)),(23,.list (q.map str)),(24,int .i64 q.length),(25,int .i64 (x:Nat))]∧Acc 2 v (out2.map tokLV) H []∧out2.length≤out.length+x∧out2++(full (q.drop x)).map (fun w=>(w,i+1))=out++(full q).map (fun w=>(w,i+1)))
    ⟨_,_,_,⟨0,out,v,Nat.zero_le _,rfl,rfl,hacc,by omega,rfl⟩,⟨rfl,rfl,rfl,rfl,rfl,rfl,int_eq zo,rfl,trivial⟩,zhR _⟩ ?_
   rintro k ls H ⟨x,out2,v2,hx,rfl,rfl,hacc2,hlen2,hE2⟩ j2 hj2
   have hol2:(out2.map tokLV).length=out2.length:=zLm _
   refine gal ?_
   refine oC rfl (fun hc=>?_) (fun hc=>?_)
   ·have hlt2:x<q.length:=by have:=zt hc;omega
    rw[full_drop hlt2] at hE2
    refine gam ?_
    refine oP (xR (el':=str q[x]) (cs:=[str q[x]]) rfl rfl zo (map_get _ _ _ hlt2) rfl rfl) rfl ?_
    refine gac ?_
    refine oC rfl (fun hn=>?_) (fun hn=>?_)
    ·have hne:¬ q[x]=[]:=by simpa using hn
     rw[if_neg hne] at hE2
     refine gag ?_
     refine oP (pM (lv:=v2) rfl) rfl ?_
     refine gad ?_
     refine oS (sL [_] rfl (eC rfl rfl eN) rfl rfl rfl ?_) rfl
     refine oS (S.acc rfl hacc2 rfl (by simp;rfl) rfl (by simp;omega) fun v3 H3 hacc3=>?_) rfl
     refine oP (pA (lv:=v3) rfl) rfl ?_
     refine gaq ?_
     exact ⟨_,_,_,by omega,⟨x+1,out2++[(q[x],i+1)],v3,by omega,rfl,rfl,by rw[zMa];exact hacc3,by simp;omega,by rw[zAs];exact hE2⟩,⟨rfl,rfl,rfl,rfl,rfl,rfl,rfl,int_eq zo,trivial⟩,zhR _,hj2⟩
    ·have hne:q[x]=[]:=by simpa using hn
     rw[if_pos hne] at hE2
     refine gab ?_
     exact ⟨_,_,_,by omega,⟨x+1,out2,v2,by omega,rfl,rfl,hacc2,by omega,hE2⟩,⟨rfl,rfl,rfl,rfl,rfl,rfl,rfl,int_eq zo,trivial⟩,zhR _,hj2⟩
   ·have hx':x=q.length:=by have:=zf hc;omega
    subst hx'
    rw[List.drop_length] at hE2
    refine gaa ?_
    exact ⟨(out2,v2,H),⟨by simpa [full] using hE2,hacc2⟩,⟨rfl,rfl,rfl,rfl,trivial⟩,zhR _,hj2⟩
  ·rintro ⟨out2,v2,H2⟩ ⟨ho,hacc2⟩ j3 hj3
   simp only at ho hacc2
   rw[hW,←zAs,←ho] at hE
   refine gaq ?_
   exact ⟨_,_,_,by omega,⟨i+1,out2,v2,by omega,rfl,rfl,hacc2,by rw[←hE]⟩,⟨rfl,rfl,rfl,int_eq zo,trivial⟩,zhR _,hj3.trans hj⟩
 ·have hi':i=(pieces 10 s).length:=by have:=zf hc;omega
  subst hi'
  rw[List.drop_length,toksN,zLz] at hE
  subst hE
  refine LCode.sub (d:=3) (v:=v) rfl hacc.sub ?_
  refine LCode.weak zhn ?_
  refine gac ?_
  exact retRet hj (rC (rT (v:=.list _) rfl zsr) rN) rfl
end
theorem errT_def {all met:List Wd} {p:Wd×Nat} {x:Wd} {r:List (Wd×Nat)} (h:defW p.1=some x):errT all met (p::r)=if x∈met then (p.2,8) else errT all (met++[x]) r:=by
 obtain ⟨w,ln⟩:=p
 simp only at h
 rw[errT,h]
theorem errT_ref {all met:List Wd} {p:Wd×Nat} {x:Wd} {r:List (Wd×Nat)} (h:defW p.1=none) (h2:refW p.1=some x):errT all met (p::r)=if x∈all then errT all met r else (p.2,7):=by
 obtain ⟨w,ln⟩:=p
 simp only at h h2
 rw[errT,h,h2]
theorem errT_code {all met:List Wd} {p:Wd×Nat} {r:List (Wd×Nat)} (h:defW p.1=none) (h2:refW p.1=none):errT all met (p::r)=if codeW p.1=true then errT all met r else (p.2,3):=by
 obtain ⟨w,ln⟩:=p
 simp only at h h2
 rw[errT,h,h2]
section
variable {B0:Nat} {w0:World}
theorem check_spec (l:List (Wd×Nat)) (hl:l.length≤1000000000) (hs:∀ p∈l,p.1.length≤1000000000):LCalls (KC B0 w0) 58 [.list (l.map tokLV)] [] (Ret (.tuple [int .i64 ((errT (defs (txt l)) [] l).1:Nat),int .i64 ((errT (defs (txt l)) [] l).2:Nat)])):=by
 have hla:(l.map tokLV).length=l.length:=zLm _
 have zb:∀ w,(zeroValue 4).run (KC B0 w0).P w=.ok (.bool false) w:=fun w=>(Go.zero_of_info (P:=Tryz.prog) (n:=1) zk).1 w
 generalize hR:errT (defs (txt l)) [] l=R
 refine cI Tryz.func58 rfl (n:=70) rfl rfl rfl ?_
 refine gai ?_
 refine oS (S.makeMap fun m=>?_) rfl
 refine gac ?_
 refine oL (fun k ls H=>∃ (i:Nat) (es:Array MapEntry) (clock:Nat),i≤l.length∧k=l.length-i∧ls=[(0,.list (l.map tokLV)),(4,.atom (.map (some m))),(17,.list (l.map tokLV)),(18,int .i64 l.length),(19,int .i64 (i:Nat))]∧H=[(m,.obj (.map es clock))]∧SetMap es (fun s=>decide (s∈defs (txt (l.take i)))))
  ⟨_,_,_,⟨0,#[],0,Nat.zero_le _,rfl,rfl,rfl,set_nil⟩,⟨rfl,rfl,rfl,int_eq zo,rfl,trivial⟩,zhR _⟩ ?_
 rintro k ls H ⟨i,es,clock,hi,rfl,rfl,rfl,hM⟩ j1 hj1
 refine gal ?_
 refine oC rfl (fun hc=>?_) (fun hc=>?_)
 ·have hlt:i<l.length:=by have:=zt hc;omega
  have kd:=asmDef_spec (B0:=B0) (w0:=w0) l[i] (by have:=hs _ (List.getElem_mem hlt);omega)
  have htt:=txt_take hlt
  refine gam ?_
  refine oP (xR (el':=tokLV l[i]) (cs:=[_,_]) rfl rfl zo (map_get _ _ _ hlt) rfl rfl) rfl ?_
  refine gad ?_
  refine oS (sA fun b6=>?_) rfl
  refine gac ?_
  refine oS (S.fnIf [_] rfl kd ?_) rfl
  rintro lv ⟨s,rfl,hs2⟩
  refine gab ?_
  refine oC rfl (fun h=>?_) (fun h=>?_)
  ·obtain ⟨d,hd⟩:=Option.isSome_iff_exists.1 h
   obtain rfl:=hs2 d hd
   refine gaf ?_
   refine oS (S.setPut (t:=110) (kt:=9) (el:=4) zk zk rfl rfl rfl zp1 hM fun es' clock' hM'=>?_) rfl
   refine gaq ?_
   exact ⟨_,_,_,by omega,⟨i+1,es',clock',by omega,rfl,rfl,rfl,by rw[htt,defs_some hd];exact set_snoc hM'⟩,⟨rfl,rfl,rfl,rfl,int_eq zo,trivial⟩,⟨[_],List.Perm.refl _⟩,hj1⟩
  ·have hn:defW l[i].1=none:=by
    cases ho:defW l[i].1 with
    |none=>rfl
    |some d=>rw[ho] at h;cases h
   refine gab ?_
   exact ⟨_,_,_,by omega,⟨i+1,es,clock,by omega,rfl,rfl,rfl,by rw[htt,defs_no hn];exact hM⟩,⟨rfl,rfl,rfl,rfl,int_eq zo,trivial⟩,zhD zhr,hj1⟩
 ·have hi':i=l.length:=by have:=zf hc;omega
  subst hi'
  rw[List.take_length] at hM
  refine gab ?_
  refine oS (S.makeMap fun m2=>?_) rfl
  refine gac ?_
  refine oL (fun k ls H=>∃ (i:Nat) (es2:Array MapEntry) (clock2:Nat),i≤l.length∧k=l.length-i∧ls=[(4,.atom (.map (some m))),(9,.atom (.map (some m2))),(33,.list (l.map tokLV)),(34,int .i64 l.length),(35,int .i64 (i:Nat))]∧H=[(m2,.obj (.map es2 clock2)),(m,.obj (.map es clock))]∧SetMap es2 (fun s=>decide (s∈defs (txt (l.take i))))∧errT (defs (txt l)) (defs (txt (l.take i))) (l.drop i)=R)
   ⟨_,_,_,⟨0,#[],0,Nat.zero_le _,rfl,rfl,rfl,set_nil,hR⟩,⟨rfl,rfl,rfl,int_eq zo,rfl,trivial⟩,zhR _⟩ ?_
  rintro k ls H ⟨i,es2,clock2,hi,rfl,rfl,rfl,hM2,hE⟩ j2 hj2
  refine gal ?_
  refine oC rfl (fun hc=>?_) (fun hc=>?_)
  ·have hlt:i<l.length:=by have:=zt hc;omega
   have hsl:=hs _ (List.getElem_mem hlt)
   have kd:=asmDef_spec (B0:=B0) (w0:=w0) l[i] zo
   have kr:=asmRef_spec (B0:=B0) (w0:=w0) l[i] zo
   have kc:=asmCode_spec (B0:=B0) (w0:=w0) l[i] zo
   have htt:=txt_take hlt
   rw[List.drop_eq_getElem_cons hlt] at hE
   refine gam ?_
   refine oP (xR (el':=tokLV l[i]) (cs:=[_,_]) rfl rfl zo (map_get _ _ _ hlt) rfl rfl) rfl ?_
   refine gad ?_
   refine oS (sA fun b11=>?_) rfl
   refine gac ?_
   refine oS (S.fnIf [_] rfl kd ?_) rfl
   rintro lv ⟨s,rfl,hs2⟩
   refine gab ?_
   refine oC rfl (fun h=>?_) (fun h=>?_)
   ·obtain ⟨d,hd⟩:=Option.isSome_iff_exists.1 h
    obtain rfl:=hs2 d hd
    refine gaf ?_
    refine oP (Pure.setGet (t:=110) (kt:=9) (el:=4) zk zk zb rfl rfl zm1 hM2) rfl ?_
    refine gap ?_
    refine oC rfl (fun h3=>?_) (fun h3=>?_)
    ·have hin:=zt h3
     refine gab ?_
     rw[errT_def hd,if_pos hin] at hE
     exact retRet (hj2.trans hj1) (rC (zrt rfl) (zra rfl)) (by rw[←hE];rfl)
    ·have hin:=zf h3
     refine gab ?_
     refine oS (S.setPut (t:=110) (kt:=9) (el:=4) zk zk rfl rfl rfl zp1 hM2 fun es' clock' hM'=>?_) rfl
     refine gaq ?_
     exact ⟨_,_,_,by omega,⟨i+1,es',clock',by omega,rfl,rfl,rfl,by rw[htt,defs_some hd];exact set_snoc hM',by rw[htt,defs_some hd,←hE,errT_def hd,if_neg hin]⟩,⟨rfl,rfl,rfl,rfl,int_eq zo,trivial⟩,⟨[_],List.Perm.cons _ (List.Perm.swap ..)⟩,hj2⟩
   ·have hn:defW l[i].1=none:=by
     cases ho:defW l[i].1 with
     |none=>rfl
     |some d=>rw[ho] at h;cases h
    refine gac ?_
    refine oS (S.fnIf [_] rfl kr ?_) rfl
    rintro lv ⟨s,rfl,hs3⟩
    refine gab ?_
    refine oC rfl (fun h3=>?_) (fun h3=>?_)
    ·obtain ⟨d,hd⟩:=Option.isSome_iff_exists.1 h3
     obtain rfl:=hs3 d hd
     refine gaf ?_
     refine oP (Pure.setGet (t:=110) (kt:=9) (el:=4) zk zk zb rfl rfl zm2 hM) rfl ?_
     refine gaa ?_
     refine oC rfl (fun h4=>?_) (fun h4=>?_)
     ·have hin:¬ s∈defs (txt l):=by simpa using h4
      refine gab ?_
      rw[errT_ref hn hd,if_neg hin] at hE
      exact retRet (hj2.trans hj1) (rC (zrt rfl) (zra rfl)) (by rw[←hE];rfl)
     ·have hin:s∈defs (txt l):=by simpa using h4
      refine gab ?_
      exact ⟨_,_,_,by omega,⟨i+1,es2,clock2,by omega,rfl,rfl,rfl,by rw[htt,defs_no hn];exact hM2,by rw[htt,defs_no hn,←hE,errT_ref hn hd,if_pos hin]⟩,⟨rfl,rfl,rfl,rfl,int_eq zo,trivial⟩,zhD zhr,hj2⟩
    ·have hrn:refW l[i].1=none:=by
      cases ho:refW l[i].1 with
      |none=>rfl
      |some d=>rw[ho] at h3;cases h3
     refine gac ?_
     refine oS (sF [_] rfl kc ?_) rfl
     refine gaa ?_
     refine oC rfl (fun h4=>?_) (fun h4=>?_)
     ·have hin:¬ codeW l[i].1=true:=by simpa using h4
      refine gab ?_
      rw[errT_code hn hrn,if_neg hin] at hE
      exact retRet (hj2.trans hj1) (rC (zrt rfl) (zra rfl)) (by rw[←hE];rfl)
     ·have hin:codeW l[i].1=true:=by simpa using h4
      refine gab ?_
      exact ⟨_,_,_,by omega,⟨i+1,es2,clock2,by omega,rfl,rfl,rfl,by rw[htt,defs_no hn];exact hM2,by rw[htt,defs_no hn,←hE,errT_code hn hrn,if_pos hin]⟩,⟨rfl,rfl,rfl,rfl,int_eq zo,trivial⟩,zhD zhr,hj2⟩
  ·have hi':i=l.length:=by have:=zf hc;omega
   subst hi'
   rw[List.drop_length,errT] at hE
   refine gab ?_
   exact retRet (hj2.trans hj1) (rC (zrt rfl) (zra rfl)) (by rw[←hE];rfl)
end
end Go.Proofs.YtpbbgkoalnonoaaGreatDoor.Asm
namespace Go.Proofs.YtpbbgkoalnonoaaGreatDoor.Asm
open Go.GL Go.RowKit Go.Stele
def Known (km:Option Nat) (Hk:Heap) (kn:Wd→Nat):Prop:=(km=none∧Hk=[]∧∀ x,kn x=0)∨∃ b m clock,km=some b∧Hk=[(b,.map (kvs m) clock)]∧∀ x,(GL.kvGet m x).getD (int .i64 0)=int .i64 (kn x:Nat)
section
variable {C:Ctx} {e:Env} {H:Heap} {dst:Option Nat} {ty:TypeId} {pos:String} {aft:Array Edge} {g:Option (Nat×Bool)} {K:LV→Heap→Prop} {X:List PanicEntry→Heap→Prop} {x y:Operand}
theorem S.known {t kt el:TypeId} (ht:C.P.underlying t=some (.map kt el)) (hkt:C.P.underlying kt=some .string) (hz:∀ w,(zeroValue el).run C.P w=.ok (.int .i64 0) w) {km:Option Nat} {Hk:Heap} {kn:Wd→Nat} {k:List UInt8} (hK:Known km Hk kn) (hm:e.ev x=.atom (.map km)) (hx:e.ev y=str k)
  (hb:∀ q∈Hk,q∈H) (hk:K (int .i64 (kn k:Nat)) H):LStep C ⟨dst,.lookup t x y false,ty,pos,aft,g⟩ e H K X:=by
 rcases hK with ⟨rfl,rfl,h0⟩|⟨b,m,clock,rfl,rfl,hI⟩
 ·refine Pure.step (Pure.nilGet ht hkt hz hm hx) ?_
  rw[h0 k] at hk
  exact hk
 ·refine Pure.step (Pure.kvGet ht hkt hz (zl:=int .i64 0) (fun _ _=>rep_atom) hm hx (hb _ (List.mem_singleton.2 rfl))) ?_
  rw[hI k]
  exact hk
end
theorem sub_mid {a b:Heap} {q:Nat×LObj}:HSub (a++b) (a++q::b):=⟨[q],List.perm_middle.trans (List.perm_append_singleton _ _).symm⟩
theorem sub_mid' {a b:Heap} {q:Nat×LObj}:HSub (a++b) ((a++[q])++b):=by
 rw[zAs]
 exact sub_mid
theorem add_eq2 (a b:Nat):int .i64 ((a+b:Nat):Int)=int .i64 ((a:Int)+(b:Nat)):=int_eq zo
theorem perm_acc {a b:Heap} {q:Nat×LObj}:(a++q::b).Perm (b++(a++[q])):=by
 have h:=List.perm_append_comm (l₁:=a++[q]) (l₂:=b)
 rw[zAs] at h
 exact h
theorem acc_sub {s:Nat} {v:LV} {es:List LV} {a H F:Heap} (h:Acc s v es H F):HSub (a++F) (a++H):=by
 cases h with
 |nil=>exact zhR _
 |row=>exact sub_mid
theorem fold_le (kn:Wd→Nat) (og:Nat) (l:List Wd) (t:Wd) (labs:List (Wd×Nat)) (h:∀ w∈l,w≠[]):t.length≤(l.foldl (stepA kn og) (t,labs)).1.length:=by
 rw[stepA_fst,foldT_len kn l t h]
 omega
theorem fold_labs (kn:Wd→Nat) (og:Nat):∀ (l:List Wd) (s:Wd×List (Wd×Nat)),s.2.length≤((l.foldl (stepA kn og) s).2).length∧((l.foldl (stepA kn og) s).2).length≤s.2.length+l.length
 |[],s=>by simp
 |w::r,s=>by
  rw[List.foldl_cons]
  have:=fold_labs kn og r (stepA kn og s w)
  have h2:s.2.length≤(stepA kn og s w).2.length∧(stepA kn og s w).2.length≤s.2.length+1:=by
   unfold stepA
   cases defW w with
   |some x=>simp
   |none=>simp
  simp only[zLc]
  omega
theorem last_nil:lastD []=isDigit 32:=by decide
attribute [local irreducible] LOps LCode LStep LCalls Go.GL.Pure QThen QBlock RetPost LQ LAny LLate LLateOp
section
variable {B0:Nat} {w0:World}
theorem joined_ex (hG:GW B0 w0) (l:List (Wd×Nat)) (og:Nat) (hog:og≤1000000) (hl:l.length≤1000000000) (hs:∀ p∈l,p.1≠[]∧p.1.length≤1000000000) (kn:Wd→Nat) (hkn:∀ x,kn x≤1000000000000) (hL:((txt l).foldl (stepA kn og) ([],[])).1.length≤2000000000) (km:Option Nat) (Hk:Heap) (hK:Known km Hk kn) :
  LCalls (KC B0 w0) 59 [.list (l.map tokLV),int .i64 (og:Nat),.atom (.map km)] Hk (fun r H'=>r=.ret (.tuple [str ((txt l).foldl (stepA kn og) ([],[])).1,.list (((txt l).foldl (stepA kn og) ([],[])).2.map tokLV)])∧H'=Hk):=by
 have hla:(l.map tokLV).length=l.length:=zLm _
 have zi:∀ w,(zeroValue 3).run (KC B0 w0).P w=.ok (.int .i64 0) w:=fun w=>(Go.zero_of_info (P:=Tryz.prog) (n:=1) zk).1 w
 have hne0:∀ i,∀ w∈txt (l.drop i),w≠[]:=fun i w hw=>by
  obtain ⟨p,hp,rfl⟩:=List.mem_map.1 hw
  exact (hs p (List.mem_of_mem_drop hp)).1
 generalize hR:(txt l).foldl (stepA kn og) ([],[])=R at hL ⊢
 refine cI Tryz.func59 rfl (n:=68) rfl rfl rfl ?_
 refine gai ?_
 refine oS (sA fun bb=>?_) rfl
 refine gac ?_
 refine oL (fun k ls H=>∃ (i:Nat) (t:List UInt8) (labs:List (Wd×Nat)) (v:LV) (last:UInt8) (HB HL:Heap),i≤l.length∧k=l.length-i∧ls=[(1,int .i64 (og:Nat)),(2,.atom (.map km)),(8,ptr bb 0),(9,v),(10,int .u8 last.toNat),(18,.list (l.map tokLV)),(19,int .i64 l.length),(20,int .i64 (i:Nat))]∧H=HB++HL∧BH bb t HB∧Acc 2 v (labs.map tokLV) HL Hk∧lastD t=isDigit last∧labs.length≤i∧(txt (l.drop i)).foldl (stepA kn og) (t,labs)=R)
  ⟨_,_,_,⟨0,[],[],nilSlice,32,[(bb,.cells 126 [.atom (.pointer none),.atom (.slice none 0 0)])],Hk,Nat.zero_le _,rfl,rfl,rfl,⟨_,_,[],.inl rfl,BRow.nil,rfl⟩,Acc.nil,last_nil,Nat.zero_le _,hR⟩,⟨rfl,rfl,rfl,rfl,rfl,rfl,int_eq zo,rfl,trivial⟩,zhR _⟩ ?_
 rintro k ls H ⟨i,t,labs,v,last,HB,HL,hi,rfl,rfl,rfl,hB,hacc,hla2,hll,hE⟩ j hj
 have hol:(labs.map tokLV).length=labs.length:=zLm _
 have htR:=fold_le kn og (txt (l.drop i)) t labs (hne0 i)
 rw[hE] at htR
 refine gal ?_
 refine oC rfl (fun hc=>?_) (fun hc=>?_)
 ·have hlt:i<l.length:=by have:=zt hc;omega
  obtain ⟨hne,hsl⟩:=hs _ (List.getElem_mem hlt)
  have kd:=asmDef_spec (B0:=B0) (w0:=w0) l[i] zo
  have kr:=asmRef_spec (B0:=B0) (w0:=w0) l[i] zo
  have hdr:txt (l.drop i)=l[i].1::txt (l.drop (i+1)):=by
   unfold txt
   rw[List.drop_eq_getElem_cons hlt,zMc]
  rw[hdr,List.foldl_cons] at hE
  refine gam ?_
  refine oP (xR (el':=tokLV l[i]) (cs:=[_,_]) rfl rfl zo (map_get _ _ _ hlt) rfl rfl) rfl ?_
  refine gad ?_
  refine oS (sA fun b12=>?_) rfl
  refine gac ?_
  refine oS (S.fnIf [_] rfl kd ?_) rfl
  rintro lv ⟨s,rfl,hs2⟩
  refine gab ?_
  refine oC rfl (fun h=>?_) (fun h=>?_)
  ·obtain ⟨d,hd⟩:=Option.isSome_iff_exists.1 h
   obtain rfl:=hs2 d hd
   have hst:stepA kn og (t,labs) l[i].1=(t,labs++[(s,og+t.length)]):=by unfold stepA;rw[hd]
   rw[hst] at hE
   refine gag ?_
   refine oP (pM (lv:=v) rfl) rfl ?_
   refine gaa ?_
   refine oS (S.callH (H1:=HB) (F:=(b12,.cells 208 [str l[i].1,int .i64 l[i].2])::HL) [_] rfl List.perm_middle.symm (builderLen_spec bb t HB hB) (fun v' H' h=>?_) (fun ch H' h=>by obtain ⟨h,_⟩:=h;cases h)) rfl
   obtain ⟨hv,rfl⟩:=h
   cases hv
   refine gad ?_
   refine oS (sL [_] rfl (eC rfl rfl eN) rfl rfl rfl ?_) rfl
   refine oS (S.accF (H1:=HL) (A:=H'++[(b12,.cells 208 [str l[i].1,int .i64 l[i].2])]) perm_acc rfl hacc rfl (by simp;rfl) rfl (by simp;omega) fun v' H2 hacc'=>?_) rfl
   refine oP (pA (lv:=v') rfl) rfl ?_
   refine gab ?_
   exact ⟨_,_,_,by omega,⟨i+1,t,labs++[(s,og+t.length)],v',last,H',H2,by omega,rfl,rfl,rfl,hB,by
    rw[zMa]
    have e1:[tokLV (s,og+t.length)]=[LV.agg [str s,int .i64 ((og:Int)+(t.length:Nat))]]:=by
     unfold tokLV
     rw[add_eq2]
    rw[List.map_singleton,e1]
    exact hacc',hla2,by simp;omega,hE⟩,⟨rfl,rfl,rfl,rfl,rfl,rfl,rfl,int_eq zo,trivial⟩,sub_mid',hj⟩
  ·have hn:defW l[i].1=none:=by
    cases ho:defW l[i].1 with
    |none=>rfl
    |some d=>rw[ho] at h;cases h
   have hst:stepA kn og (t,labs) l[i].1=(addT kn t l[i].1,labs):=by unfold stepA;rw[hn]
   obtain ⟨hp0,hp1,hp2⟩:=addT_nil kn t l[i].1 hn hne
   have hadd:addT kn t l[i].1=t++(if lastD t && firstD (pieceW kn l[i].1) then [32] else [])++pieceW kn l[i].1:=by unfold addT;rw[hn]
   have htR2:=fold_le kn og (txt (l.drop (i+1))) (addT kn t l[i].1) labs (hne0 (i+1))
   rw[hst] at hE
   rw[hE] at htR2
   refine LCode.midC (A:=Wd) (fun s=>[(1,int .i64 (og:Nat)),(2,.atom (.map km)),(8,ptr bb 0),(9,v),(10,int .u8 last.toNat),(13,str s),(18,.list (l.map tokLV)),(19,int .i64 l.length),(20,int .i64 (i:Nat))]) (fun _=>(b12,.cells 208 [str l[i].1,int .i64 l[i].2])::(HB++HL)) (fun s=>s=pieceW kn l[i].1) ?_ ?_
   ·refine gac ?_
    refine oS (S.fnIf [_] rfl kr ?_) rfl
    rintro lv ⟨s,rfl,hs3⟩
    refine gab ?_
    refine oC rfl (fun h3=>?_) (fun h3=>?_)
    ·obtain ⟨d,hd⟩:=Option.isSome_iff_exists.1 h3
     obtain rfl:=hs3 d hd
     refine gaf ?_
     refine oS (S.known (t:=62) (kt:=9) (el:=3) zk zk zi hK rfl rfl (fun q hq=>zMo _ (List.mem_append_right _ (hacc.hsub.mem q hq))) ?_) rfl
     refine oS (sF [_] rfl (address_spec hG (kn s) (hkn s)) ?_) rfl
     refine gau ?_
     exact ⟨addrW (kn s),(by unfold pieceW;rw[hd]),⟨rfl,rfl,rfl,rfl,rfl,rfl,rfl,rfl,rfl,trivial⟩,zhR _,rfl⟩
    ·have hrn:refW l[i].1=none:=by
      cases ho:refW l[i].1 with
      |none=>rfl
      |some d=>rw[ho] at h3;cases h3
     refine gaa ?_
     exact ⟨l[i].1,(by unfold pieceW;rw[hrn]),⟨rfl,rfl,rfl,rfl,rfl,rfl,rfl,rfl,rfl,trivial⟩,zhR _,rfl⟩
   rintro s hpc j2 hj2
   rw[←hpc] at hp0 hp1 hp2 hadd
   have hs0:=hp0
   have hone:=one_le (isDigit last && firstD s)
   obtain ⟨c,r,hcr⟩:=List.exists_cons_of_ne_nil hs0
   have hfc:firstD s=isDigit c:=by rw[hcr];rfl
   rw[hla2] at hadd hp2
   refine LCode.seq ?_
   refine LCode.midC (A:=Heap) (fun _=>[(1,int .i64 (og:Nat)),(2,.atom (.map km)),(8,ptr bb 0),(9,v),(10,int .u8 last.toNat),(13,str s),(18,.list (l.map tokLV)),(19,int .i64 l.length),(20,int .i64 (i:Nat))]) (fun HB'=>HB'++(b12,.cells 208 [str l[i].1,int .i64 l[i].2])::HL) (fun HB'=>BH bb (t++if (isDigit last && firstD s)=true then [32] else []) HB') ?_ ?_
   ·refine gaf ?_
    refine oS (sF [_] rfl (asmDigit_spec last) ?_) rfl
    refine gaa ?_
    refine oB 52 rfl (fun h4=>?_) (fun h4=>?_)
    ·have h4':isDigit last=true:=h4
     rw[h4',Bool.true_and,hfc]
     refine gaa ?_
     refine oP (Pure.sindex (c:=c) rfl rfl zo (by rw[hcr];rfl)) rfl ?_
     refine gaa ?_
     refine oS (sF [_] rfl (asmDigit_spec c) ?_) rfl
     refine gaa ?_
     refine oC rfl (fun h5=>?_) (fun h5=>?_)
     ·refine gag ?_
      refine oS (S.callH (H1:=HB) (F:=(b12,.cells 208 [str l[i].1,int .i64 l[i].2])::HL) [_,_] rfl List.perm_middle.symm (writeByte_spec bb t 32 HB hB zo) (fun v' H' h=>?_) (fun ch H' h=>by obtain ⟨⟨x,h⟩,_⟩:=h;cases h)) rfl
      refine gap ?_
      exact ⟨H',by rw[if_pos h5];exact h.2,⟨rfl,rfl,rfl,rfl,rfl,rfl,rfl,rfl,rfl,trivial⟩,zhR _,rfl⟩
     ·refine gaa ?_
      exact ⟨HB,by rw[if_neg (by rw[h5];decide),zLz];exact hB,⟨rfl,rfl,rfl,rfl,rfl,rfl,rfl,rfl,rfl,trivial⟩,⟨[],by simpa using List.perm_middle.symm⟩,rfl⟩
    ·have h4':isDigit last=false:=h4
     rw[h4',Bool.false_and]
     refine gaa ?_
     refine oC rfl (fun h5=>by cases h5) (fun h5=>?_)
     refine gaa ?_
     exact ⟨HB,by rw[if_neg zDd,zLz];exact hB,⟨rfl,rfl,rfl,rfl,rfl,rfl,rfl,rfl,rfl,trivial⟩,⟨[],by simpa using List.perm_middle.symm⟩,rfl⟩
   rintro HB' hB' j3 hj3
   have hsl3:=List.length_pos_iff.2 hs0
   have hget:s[((s.length:Int)-1).toNat]? = some (s.getLast hs0):=by
    rw[show ((s.length:Int)-1).toNat=s.length-1 by omega,List.getLast_eq_getElem,List.getElem?_eq_getElem zo]
   have hlast:lastD s=isDigit (s.getLast hs0):=by
    unfold lastD
    rw[List.getLast?_eq_some_getLast hs0]
   have htl:(t++if (isDigit last && firstD s)=true then [32] else []).length+s.length≤2000000000:=by
    have:(t++if (isDigit last && firstD s)=true then [32] else []).length=t.length+one (isDigit last && firstD s):=by
     rw[zLa]
     unfold one
     split <;> rfl
    omega
   rw[hadd] at hE hp1
   generalize (t++if (isDigit last && firstD s)=true then [32] else [])=t2 at hB' htl hE hp1
   refine gaf ?_
   refine oS (S.callH (H1:=HB') (F:=(b12,.cells 208 [str l[i].1,int .i64 l[i].2])::HL) [_,_] rfl zpr (writeString_spec bb t2 s HB' hB' zo) (fun v' H' h=>?_) (fun ch H' h=>by obtain ⟨⟨x,h⟩,_⟩:=h;cases h)) rfl
   obtain ⟨⟨x,hx⟩,hB2⟩:=h
   refine gac ?_
   refine oP (Pure.sindex (c:=s.getLast hs0) rfl rfl zo hget) rfl ?_
   refine gab ?_
   exact ⟨_,_,_,by omega,⟨i+1,t2++s,labs,v,s.getLast hs0,H',HL,by omega,rfl,rfl,rfl,hB2,hacc,by rw[hp1,hlast],by omega,hE⟩,⟨rfl,rfl,rfl,rfl,rfl,rfl,rfl,int_eq zo,trivial⟩,sub_mid,hj3.trans (hj2.trans hj)⟩
 ·have hi':i=l.length:=by have:=zf hc;omega
  subst hi'
  rw[List.drop_length] at hE
  have hE':(t,labs)=R:=hE
  subst hE'
  refine LCode.sub (d:=9) (v:=v) rfl hacc.sub ?_
  refine LCode.weak (acc_sub hacc) ?_
  refine gab ?_
  refine oS (S.callH (H1:=HB) (F:=Hk) [_] rfl zpr (string_spec bb t HB hB zo) (fun v' H' h=>?_) (fun ch H' h=>by obtain ⟨h,_⟩:=h;cases h)) rfl
  obtain ⟨hv,rfl⟩:=h
  cases hv
  refine gad ?_
  exact rR hj (rC (zrt rfl) (rC (rT (v:=.list _) rfl zsr) rN)) zhr ⟨rfl,by simp⟩
end
end Go.Proofs.YtpbbgkoalnonoaaGreatDoor.Asm
namespace Go.GL
open Go.RowKit
theorem results4 {P:Program} {fn:Func} {r s t q:ResultVar} (h:fn.results=#[r,s,t,q]) {tmps:Array Value} {w:World} {v u x y:Value} (h1:(readRes tmps r).run P w=.ok v w) (h2:(readRes tmps s).run P w=.ok u w) (h3:(readRes tmps t).run P w=.ok x w) (h4:(readRes tmps q).run P w=.ok y w) :
  (results fn tmps).run P w=.ok (.tuple #[v,u,x,y]) w:=by
 have:results fn tmps=(do let v ←readRes tmps r;let u ←readRes tmps s;let x ←readRes tmps t;let y ←readRes tmps q;Pure.pure (.tuple #[v,u,x,y])):=by
  cases r <;> cases s <;> cases t <;> cases q <;> simp[results,h,readRes]
 rw[this,bind_run h1,bind_run h2,bind_run h3,bind_run h4]
 rfl
theorem results_of4 {C:Ctx} {n:Nat} {fn:Func} {e:Env} {H:Heap} {a:Act} {w:World} {L:Live} (hE:RelE n a e w L) (hH:RelH C w L H) {vs:List LV}
  (h:AllRes C n e H fn.results.toList vs) (h3:fn.results.size=4):∃ v,(results fn a.tmps).run C.P w=.ok v w∧Rep w L (resLV vs) v:=by
 obtain ⟨rs,hrs⟩:∃ rs,fn.results=List.toArray rs:=⟨fn.results.toList,by simp⟩
 rw[hrs] at h h3
 simp only[List.size_toArray] at h h3
 match rs,vs,h,h3,hrs with
 |[r,s,t,q],[x,y,z,o],h,_,hrs=>
  obtain ⟨v1,g1,r1⟩:=h.1 a w L hE hH
  obtain ⟨v2,g2,r2⟩:=h.2.1 a w L hE hH
  obtain ⟨v3,g3,r3⟩:=h.2.2.1 a w L hE hH
  obtain ⟨v4,g4,r4⟩:=h.2.2.2.1 a w L hE hH
  exact ⟨_,results4 hrs g1 g2 g3 g4,by simp only[resLV,Rep];exact ⟨[v1,v2,v3,v4],rfl,by simp only[RepL];exact ⟨v1,_,rfl,r1,v2,_,rfl,r2,v3,_,rfl,r3,v4,_,rfl,r4,rfl⟩⟩⟩
 |[_,_,_,_],[],h,_,_=>exact h.elim
 |[_,_,_,_],[_],h,_,_=>exact h.2.elim
 |[_,_,_,_],[_,_],h,_,_=>exact h.2.2.elim
 |[_,_,_,_],[_,_,_],h,_,_=>exact h.2.2.2.elim
 |[_,_,_,_],_::_::_::_::_::_,h,_,_=>exact h.2.2.2.2.elim
theorem LCalls.intro4 {C:Ctx} {f:FuncId} {fn:Func} {c:Code} {n:Nat} {args:List LV} {H:Heap} {R:LRes→Heap→Prop} (hf:C.P.funcs[f]? = some fn) (hb:fn.body=some c) (hn:fn.ntmps=n) (h3:Nat.beq fn.results.size 4=true)
  (hl:Nat.ble args.length n=true) (h:LCode C n c (RetPost C n fn.results.toList R) (argsEnv args) H):LCalls C f args H R:=fun vs w L hv hH=>by
 subst hn
 have hl':args.length≤fn.ntmps:=by simpa using hl
 have h3':fn.results.size=4:=Nat.eq_of_beq_eq_true h3
 have hlen:=hv.length
 refine calls_of_wp hf hb (Go.wp_mono (h _ w L ⟨?_,rfl,fun i=>?_⟩ hH) fun ex a' w' hq=>?_)
 ·simp;omega
 ·exact zT3
 ·obtain ⟨e',H',L',g1,g2,g3,g4⟩:=hq
  have ret:RelE fn.ntmps a' e' w' L'→(e'.ds=[]∧∃ vs H'',AllRes C fn.ntmps e' H' fn.results.toList vs∧HSub H'' H'∧R (.ret (resLV vs)) H'') →
    a'.defers=[]∧∃ v,(results fn a'.tmps).run C.P w'=.ok v w'∧CallPost C w L H (fun v=>R (.ret v)) (fun ch=>R (.panic ch)) (.returned v) w':=fun hE hr=>by
   obtain ⟨h1,vs',H'',h2,h4,h5⟩:=hr
   obtain ⟨v,r1,r2⟩:=results_of4 hE g2 h2 h3'
   exact ⟨hE.ds.trans h1,v,r1,resLV vs',H'',L',g1.weak h4,g2.weak h4,r2,h5⟩
  cases ex with
  |normal=>exact ret g3 g4
  |ret=>exact ret g3 g4
  |panic ch=>
   obtain ⟨h1,H'',h4,h5⟩:=g4
   exact ⟨g3.trans h1,H'',L',g1.weak h4,g2.weak h4,h5⟩
  |exit id=>exact g4.elim
  |goto id=>exact g4.elim
  |outgrown=>exact g4.elim
end Go.GL
namespace Go.Stele
open Go.Lib
structure MS where
 mem:Nat→Nat
 pc:Nat
 data:List Nat
 calls:List Nat
 inp:List Nat
 out:Wd
 digit:Bool
inductive MR where
 |run (s:MS)
 |stop (e:Nat) (out:Wd)
def MR.trap (s:MS):MR:=.stop 12 s.out
def pushM (v:Nat) (s:MS):MR:=if s.data.length<256 then .run { s with data:=v::s.data } else .trap s
def binM (c a b:Nat):Option Nat:=
 if c=43 then some ((a+b) % 4294967296)
 else if c=45 then some ((a+4294967296-b) % 4294967296)
 else if c=42 then some (a * b % 4294967296)
 else if c=47 then (if b=0 then none else some (a / b))
 else if c=37 then (if b=0 then none else some (a % b))
 else if c=94 then some (a ^^^ b)
 else some (if a<b then 1 else 0)
def isDigN (c:Nat):Bool:=decide (48≤c) && decide (c≤57)
def digM' (c:Nat) (s:MS):MR:=if s.digit=true then (match s.data with
 |d::r=>.run { s with data:=(d * 10+c-48) % 4294967296::r }
 |[]=>.trap s) else pushM (c-48) s
def ldM (s:MS):MR:=match s.data with
 |a::r=>if a<262144 then pushM (s.mem a) { s with data:=r } else .trap s
 |[]=>.trap s
def stoM (s:MS):MR:=match s.data with
 |a::v::r=>if a<262144 then .run { s with data:=r,mem:=fun i=>if i=a then v else s.mem i } else .trap s
 |_=>.trap s
def jmpM (s:MS):MR:=match s.data with
 |t::v::r=>.run { s with data:=r,pc:=if v=0 then t else s.pc }
 |_=>.trap s
def callM (s:MS):MR:=match s.data with
 |t::r=>if s.calls.length<64 then .run { s with data:=r,calls:=s.pc::s.calls,pc:=t } else .trap s
 |[]=>.trap s
def bakM (s:MS):MR:=match s.calls with
 |t::r=>.run { s with calls:=r,pc:=t }
 |[]=>.trap s
def rdM (s:MS):MR:=match s.inp with
 |v::r=>pushM v { s with inp:=r }
 |[]=>pushM 4294967295 s
def wrM (s:MS):MR:=match s.data with
 |v::r=>.run { s with data:=r,out:=s.out++[UInt8.ofNat v] }
 |[]=>.trap s
def opM (c:Nat) (s:MS):MR:=match s.data with
 |b::a::r=>(match binM c a b with
  |some v=>pushM v { s with data:=r }
  |none=>.trap s)
 |_=>.trap s
def exeM (c:Nat) (s:MS):MR:=
 if isDigN c=true then digM' c s
 else if c=32∨c=10 then .run s
 else if c=64 then ldM s
 else if c=33 then stoM s
 else if c=63 then jmpM s
 else if c=58 then callM s
 else if c=59 then bakM s
 else if c=44 then rdM s
 else if c=46 then wrM s
 else if c=36 then .stop 0 s.out
 else if c=43∨c=45∨c=42∨c=47∨c=37∨c=94∨c=60 then opM c s
 else .trap s
def stepM (s:MS):MR:=
 if s.pc<262144 then (match exeM (s.mem s.pc) { s with pc:=s.pc+1 } with
  |.run s'=>.run { s' with digit:=isDigN (s.mem s.pc) }
  |.stop e o=>.stop e o)
 else .trap s
def runM:Nat→MS→Nat×Wd×Nat
 |0,s=>(13,s.out,0)
 |n+1,s=>match stepM s with
  |.run s'=>((runM n s').1,(runM n s').2.1,(runM n s').2.2+1)
  |.stop e o=>(e,o,1)
def loadM (code:Wd) (og:Nat):Nat→Nat:=fun i=>if og≤i then (match code[i-og]? with
 |some c=>c.toNat
 |none=>0) else 0
def startM (code:Wd) (og:Nat) (inp:List Nat):MS:=⟨loadM code og,og,[],[],inp,[],false⟩
/-! ### Some steps -/
inductive Stp:Nat→MS→MS→Prop
 |zero (s:MS):Stp 0 s s
 |step {k:Nat} {s s' s2:MS}:stepM s=.run s'→Stp k s' s2→Stp (k+1) s s2
theorem Stp.one {s s':MS} (h:stepM s=.run s'):Stp 1 s s':=.step h (.zero _)
theorem Stp.trans {a b:Nat} {s s' s2:MS} (h:Stp a s s') (k:Stp b s' s2):Stp (a+b) s s2:=by
 induction h with
 |zero s=>rw[Nat.zero_add];exact k
 |step h1 _ ih=>rw[Nat.add_right_comm];exact .step h1 (ih k)
theorem run_stp {k:Nat} {s s':MS} (h:Stp k s s'):∀ n,runM (k+n) s=((runM n s').1,(runM n s').2.1,(runM n s').2.2+k):=by
 induction h with
 |zero s=>intro n;rw[Nat.zero_add];rfl
 |step h1 _ ih=>
  intro n
  rw[Nat.add_right_comm,runM,h1]
  simp only
  rw[ih n]
  simp only[Nat.add_assoc]
def MR.out:MR→Wd
 |.run s=>s.out
 |.stop _ o=>o
theorem push_out (v:Nat) (s:MS):(pushM v s).out=s.out:=by
 unfold pushM
 split <;> rfl
theorem digM'_out (c:Nat) (s:MS):s.out <+: (digM' c s).out:=by
 unfold digM'
 split
 all_goals first|exact zPf _|(rw[push_out];exact zPf _)|exact List.prefix_append _ _|(split <;> first|exact zPf _|(rw[push_out];exact zPf _))
theorem ldM_out (s:MS):s.out <+: (ldM s).out:=by
 unfold ldM
 split
 all_goals first|exact zPf _|(rw[push_out];exact zPf _)|exact List.prefix_append _ _|(split <;> first|exact zPf _|(rw[push_out];exact zPf _))
theorem stoM_out (s:MS):s.out <+: (stoM s).out:=by
 unfold stoM
 split
 all_goals first|exact zPf _|(rw[push_out];exact zPf _)|exact List.prefix_append _ _|(split <;> first|exact zPf _|(rw[push_out];exact zPf _))
theorem jmpM_out (s:MS):s.out <+: (jmpM s).out:=by
 unfold jmpM
 split
 all_goals first|exact zPf _|(rw[push_out];exact zPf _)|exact List.prefix_append _ _|(split <;> first|exact zPf _|(rw[push_out];exact zPf _))
theorem callM_out (s:MS):s.out <+: (callM s).out:=by
 unfold callM
 split
 all_goals first|exact zPf _|(rw[push_out];exact zPf _)|exact List.prefix_append _ _|(split <;> first|exact zPf _|(rw[push_out];exact zPf _))
theorem bakM_out (s:MS):s.out <+: (bakM s).out:=by
 unfold bakM
 split
 all_goals first|exact zPf _|(rw[push_out];exact zPf _)|exact List.prefix_append _ _|(split <;> first|exact zPf _|(rw[push_out];exact zPf _))
theorem rdM_out (s:MS):s.out <+: (rdM s).out:=by
 unfold rdM
 split
 all_goals first|exact zPf _|(rw[push_out];exact zPf _)|exact List.prefix_append _ _|(split <;> first|exact zPf _|(rw[push_out];exact zPf _))
theorem wrM_out (s:MS):s.out <+: (wrM s).out:=by
 unfold wrM
 split
 all_goals first|exact zPf _|(rw[push_out];exact zPf _)|exact List.prefix_append _ _|(split <;> first|exact zPf _|(rw[push_out];exact zPf _))
theorem opM_out (c:Nat) (s:MS):s.out <+: (opM c s).out:=by
 unfold opM
 split
 all_goals first|exact zPf _|(rw[push_out];exact zPf _)|exact List.prefix_append _ _|(split <;> first|exact zPf _|(rw[push_out];exact zPf _))
theorem exe_out (c:Nat) (s:MS):s.out <+: (exeM c s).out:=by
 unfold exeM
 split
 ·exact digM'_out c s
 split
 ·exact zPf _
 split
 ·exact ldM_out s
 split
 ·exact stoM_out s
 split
 ·exact jmpM_out s
 split
 ·exact callM_out s
 split
 ·exact bakM_out s
 split
 ·exact rdM_out s
 split
 ·exact wrM_out s
 split
 ·exact zPf _
 split
 ·exact opM_out c s
 ·exact zPf _
theorem step_out (s:MS):s.out <+: (stepM s).out:=by
 unfold stepM
 split
 ·have h:=exe_out (s.mem s.pc) { s with pc:=s.pc+1 }
  revert h
  cases exeM (s.mem s.pc) { s with pc:=s.pc+1 } with
  |run s'=>exact fun h=>h
  |stop e o=>exact fun h=>h
 ·exact zPf _
theorem runM_out:∀ (n:Nat) (s:MS),s.out <+: (runM n s).2.1
 |0,s=>zPf _
 |n+1,s=>by
  have h:=step_out s
  rw[runM]
  revert h
  cases stepM s with
  |run s'=>exact fun h=>List.IsPrefix.trans h (runM_out n s')
  |stop e o=>exact fun h=>h
def Stx (m:Nat) (s s':MS):Prop:=∃ k,k≤m∧Stp k s s'
theorem Stx.refl (s:MS):Stx 0 s s:=⟨0,zNr _,.zero _⟩
theorem Stx.one {s s':MS} (h:stepM s=.run s'):Stx 1 s s':=⟨1,zNr _,.one h⟩
theorem Stx.trans {a b:Nat} {s s' s2:MS} (h:Stx a s s') (k:Stx b s' s2):Stx (a+b) s s2:=by
 obtain ⟨i,h1,h2⟩:=h
 obtain ⟨j,k1,k2⟩:=k
 exact ⟨i+j,by omega,h2.trans k2⟩
theorem Stx.mono {a b:Nat} {s s':MS} (h:Stx a s s') (hab:a≤b):Stx b s s':=by
 obtain ⟨i,h1,h2⟩:=h
 exact ⟨i,by omega,h2⟩
end Go.Stele
namespace Go.Stele
open Go.Lib
def InMem (mem:Nat→Nat) (p:Nat) (t:Wd):Prop:=∀ i (h:i<t.length),mem (p+i)=(t[i]).toNat
theorem InMem.app {mem:Nat→Nat} {p:Nat} {a b:Wd} (h:InMem mem p (a++b)):InMem mem p a∧InMem mem (p+a.length) b:=by
 constructor
 ·intro i hi
  have:=h i (by rw[zLa];omega)
  rw[List.getElem_append_left hi] at this
  exact this
 ·intro i hi
  have:=h (a.length+i) (by rw[zLa];omega)
  rw[List.getElem_append_right (by omega)] at this
  rw[Nat.add_assoc]
  simpa using this
theorem InMem.pre {mem:Nat→Nat} {p:Nat} {a t:Wd} (h:InMem mem p t) (hp:a <+: t):InMem mem p a:=by
 obtain ⟨b,rfl⟩:=hp
 exact h.app.1
theorem load_in (code:Wd) (og:Nat):InMem (loadM code og) og code:=fun i hi=>by
 unfold loadM
 rw[if_pos (Nat.le_add_right _ _),Nat.add_sub_cancel_left,List.getElem?_eq_getElem hi]
def valD (a:Nat) (l:Wd):Nat:=l.foldl (fun a c=>10 * a+(c.toNat-48)) a
theorem valD_app (a:Nat) (l m:Wd):valD a (l++m)=valD (valD a l) m:=List.foldl_append ..
theorem dig_iff {c:UInt8}:isDigit c=true ↔ 48≤c.toNat∧c.toNat≤57:=by
 have h:∀ n:Nat,n<256→(isDigit (UInt8.ofNat n)=true ↔ 48≤n∧n≤57):=by decide +kernel
 have:=h c.toNat c.toNat_lt
 rwa [UInt8.ofNat_toNat] at this
theorem valD_dec (u:Nat):valD 0 (decDigits u)=u:=by
 rw[decDigits]
 split
 ·rename_i h
  unfold valD
  simp only[List.foldl_cons,List.foldl_nil]
  have:(UInt8.ofNat (48+u)).toNat=48+u:=by
   rw[UInt8.toNat_ofNat']
   omega
  rw[this]
  omega
 ·rename_i h
  have ih:=valD_dec (u / 10)
  rw[valD_app,ih]
  unfold valD
  simp only[List.foldl_cons,List.foldl_nil]
  have:(UInt8.ofNat (48+u % 10)).toNat=48+u % 10:=by
   rw[UInt8.toNat_ofNat']
   omega
  rw[this]
  omega
termination_by u
theorem valD_zeros:∀ k:Nat,valD 0 (List.replicate k 48)=0
 |0=>rfl
 |k+1=>by
  have:=valD_zeros k
  rw[List.replicate_succ]
  exact this
theorem dec_lenM:∀ (k n:Nat),n<10 ^ (k+1)→(decDigits n).length≤k+1
 |0,n,h=>by rw[decDigits,dif_pos (by simpa using h)];simp
 |k+1,n,h=>by
  rw[decDigits]
  split
  ·simp
  ·have:=dec_lenM k (n / 10) (by rw[Nat.pow_succ] at h;omega)
   rw[zLa,List.length_singleton]
   omega
theorem addrW_val {n:Nat} (h:n<1000000):valD 0 (addrW n)=n:=by
 have h1:=dec_lenM 5 n h
 have h2:1≤(decDigits n).length:=List.length_pos_iff.2 (decDigits_ne n)
 have h3:addrW n=List.replicate (6-(decDigits n).length) 48++decDigits n:=by
  unfold addrW
  rw[zLa,List.drop_append_of_le_length (by simp only[zLc,zLn];omega)]
  congr 1
  have:∀ k:Nat,k≤6→1≤k→([48,48,48,48,48]:Wd).drop (([48,48,48,48,48]:Wd).length+k-6)=List.replicate (6-k) 48:=by
   intro k hk h1
   have:k=1∨k=2∨k=3∨k=4∨k=5∨k=6:=by omega
   rcases this with rfl|rfl|rfl|rfl|rfl|rfl <;> rfl
  exact this _ h1 h2
 rw[h3,valD_app,valD_zeros,valD_dec]
theorem valD_mod (l:Wd):∀ a:Nat,(∀ c∈l,isDigit c=true)→l.foldl (fun a c=>(a * 10+c.toNat-48) % 4294967296) (a % 4294967296)=valD a l % 4294967296:=by
 induction l with
 |nil=>intro a _;rfl
 |cons c l ih=>
  intro a h
  have hc:=dig_iff.1 (h c (by simp))
  have h1:=ih (a * 10+c.toNat-48) fun x hx=>h x (zMo _ hx)
  have h2:valD a (c::l)=valD (a * 10+c.toNat-48) l:=by
   unfold valD
   rw[List.foldl_cons]
   congr 1
   omega
  rw[h2,←h1,List.foldl_cons]
  congr 1
  omega
/-! ### Digits -/
theorem digs_more:∀ (l:Wd) (s:MS) (d:Nat) (r:List Nat),(∀ c∈l,isDigit c=true)→s.digit=true→s.data=d::r→InMem s.mem s.pc l→s.pc+l.length≤262144 →
  Stp l.length s { s with pc:=s.pc+l.length,data:=l.foldl (fun a c=>(a * 10+c.toNat-48) % 4294967296) d::r }
 |[],s,d,r,_,_,hd,_,_=>by
  have:({ s with pc:=s.pc+([]:Wd).length,data:=([]:Wd).foldl (fun a c=>(a * 10+c.toNat-48) % 4294967296) d::r }:MS)=s:=by
   cases s;simp only at hd;subst hd;rfl
  rw[this];exact .zero s
 |c::l,s,d,r,h,hg,hd,hm,hp=>by
  have hc:=h c (by simp)
  have hcn:=dig_iff.1 hc
  have hm0:=hm 0 (by simp)
  simp only[Nat.add_zero,List.getElem_cons_zero] at hm0
  have hdn:isDigN c.toNat=true:=by unfold isDigN;simp[hcn.1,hcn.2]
  rw[zLc] at hp
  have hst:stepM s=.run { s with pc:=s.pc+1,data:=(d * 10+c.toNat-48) % 4294967296::r }:=by
   unfold stepM
   rw[if_pos (by omega),hm0]
   unfold exeM digM'
   rw[if_pos hdn]
   simp only[hg,if_true,hd,hdn]
  have hm1:InMem s.mem (s.pc+1) l:=fun i hi=>by
   have:=hm (i+1) (by rw[zLc];omega)
   rw[show s.pc+1+i=s.pc+(i+1) by omega]
   simpa using this
  have ih:=digs_more l { s with pc:=s.pc+1,data:=(d * 10+c.toNat-48) % 4294967296::r } _ r (fun x hx=>h x (zMo _ hx)) hg rfl hm1 (by simp only;omega)
  have e:({ s with pc:=s.pc+(c::l).length,data:=(c::l).foldl (fun a c=>(a * 10+c.toNat-48) % 4294967296) d::r }:MS)={ s with pc:=s.pc+1+l.length,data:=l.foldl (fun a c=>(a * 10+c.toNat-48) % 4294967296) ((d * 10+c.toNat-48) % 4294967296)::r }:=by
   rw[zLc,List.foldl_cons,Nat.add_assoc,Nat.add_comm 1]
  rw[e]
  exact .step hst ih
theorem digs_all {l:Wd} {s:MS} (hne:l≠[]) (h:∀ c∈l,isDigit c=true) (hg:s.digit=false) (hroom:s.data.length<256) (hm:InMem s.mem s.pc l) (hp:s.pc+l.length≤262144) (hv:valD 0 l<4294967296) :
  Stp l.length s { s with pc:=s.pc+l.length,data:=valD 0 l::s.data,digit:=true }:=by
 cases l with
 |nil=>exact absurd rfl hne
 |cons c l=>
  have hc:=h c (by simp)
  have hcn:=dig_iff.1 hc
  have hm0:=hm 0 (by simp)
  simp only[Nat.add_zero,List.getElem_cons_zero] at hm0
  have hdn:isDigN c.toNat=true:=by unfold isDigN;simp[hcn.1,hcn.2]
  rw[zLc] at hp
  have hst:stepM s=.run { s with pc:=s.pc+1,data:=(c.toNat-48)::s.data,digit:=true }:=by
   unfold stepM
   rw[if_pos (by omega),hm0]
   unfold exeM digM' pushM
   rw[if_pos hdn]
   simp[hg,hroom,hdn]
  have hm1:InMem s.mem (s.pc+1) l:=fun i hi=>by
   have:=hm (i+1) (by rw[zLc];omega)
   rw[show s.pc+1+i=s.pc+(i+1) by omega]
   simpa using this
  have hl:=fun x hx=>h x (zMo c hx)
  have ih:=digs_more l { s with pc:=s.pc+1,data:=(c.toNat-48)::s.data,digit:=true } _ s.data hl rfl rfl hm1 (by simp only;omega)
  have h3:=valD_mod l (c.toNat-48) hl
  have h4:valD 0 (c::l)=valD (c.toNat-48) l:=by unfold valD;rw[List.foldl_cons];congr 1;omega
  rw[Nat.mod_eq_of_lt (show c.toNat-48<4294967296 by omega),←h4,Nat.mod_eq_of_lt hv] at h3
  rw[h3] at ih
  have e:({ s with pc:=s.pc+(c::l).length,data:=valD 0 (c::l)::s.data,digit:=true }:MS)={ s with pc:=s.pc+1+l.length,data:=valD 0 (c::l)::s.data,digit:=true }:=by
   rw[zLc,Nat.add_assoc,Nat.add_comm 1]
  rw[e]
  exact .step hst ih
/-! ### Words -/
structure PW where
 W:List Wd
 og:Nat
 known:Wd→Nat
def PW.pre (C:PW) (i:Nat):Wd:=textA C.known (C.W.take i)
def PW.plc (C:PW) (i:Nat):Nat:=C.og+(C.pre i).length
def PW.At (C:PW) (s:MS) (i:Nat):Prop:=s.pc=C.plc i∧(s.digit=true→lastD (C.pre i)=true)
structure PW.Ok (C:PW) (mem:Nat→Nat):Prop where
 here:InMem mem C.og (textA C.known C.W)
 fits:C.og+(textA C.known C.W).length≤262144
theorem addT_pre (known:Wd→Nat) (t w:Wd):t <+: addT known t w:=by
 unfold addT
 split
 ·exact zPf _
 ·rw[zAs];exact List.prefix_append _ _
theorem foldT_pre (known:Wd→Nat):∀ (l:List Wd) (t:Wd),t <+: l.foldl (addT known) t
 |[],t=>zPf _
 |w::l,t=>List.IsPrefix.trans (addT_pre known t w) (foldT_pre known l _)
theorem PW.pre_all (C:PW) (i:Nat):C.pre i <+: textA C.known C.W:=by
 have h:textA C.known C.W=(C.W.drop i).foldl (addT C.known) (C.pre i):=by
  unfold PW.pre textA
  rw[←List.foldl_append,List.take_append_drop]
 rw[h]
 exact foldT_pre _ _ _
theorem PW.pre_succ (C:PW) {i:Nat} {w:Wd} (h:C.W[i]? = some w):C.pre (i+1)=addT C.known (C.pre i) w:=by
 obtain ⟨hi,rfl⟩:=List.getElem?_eq_some_iff.1 h
 unfold PW.pre textA
 rw[List.take_succ_eq_append_getElem hi,List.foldl_append]
 rfl
theorem PW.pre_le (C:PW) (i:Nat):C.plc i≤C.og+(textA C.known C.W).length:=by
 have:=(C.pre_all i).length_le
 unfold PW.plc
 omega
theorem PW.atDef {C:PW} {s:MS} {i:Nat} {w x:Wd} (h:C.At s i) (hw:C.W[i]? = some w) (hd:defW w=some x):C.At s (i+1):=by
 have h1:=C.pre_succ hw
 have h2:addT C.known (C.pre i) w=C.pre i:=by unfold addT;rw[hd]
 rw[h2] at h1
 unfold PW.At PW.plc at h ⊢
 rw[h1]
 exact h
theorem PW.piece {C:PW} {mem:Nat→Nat} {i:Nat} {w:Wd} (hk:C.Ok mem) (hw:C.W[i]? = some w) (hd:defW w=none) :
  C.pre (i+1)=C.pre i++(if lastD (C.pre i) && firstD (pieceW C.known w) then [32] else [])++pieceW C.known w ∧
  InMem mem (C.plc i) ((if lastD (C.pre i) && firstD (pieceW C.known w) then [32] else [])++pieceW C.known w)∧C.plc (i+1)≤262144:=by
 have h1:=C.pre_succ hw
 have h2:addT C.known (C.pre i) w=C.pre i++(if lastD (C.pre i) && firstD (pieceW C.known w) then [32] else [])++pieceW C.known w:=by unfold addT;rw[hd]
 rw[h2] at h1
 refine ⟨h1,?_,zNt (C.pre_le _) hk.fits⟩
 have h3:=hk.here.pre (C.pre_all (i+1))
 rw[h1,zAs] at h3
 exact h3.app.2
theorem PW.digs {C:PW} {s:MS} {i:Nat} {w:Wd} (hk:C.Ok s.mem) (h:C.At s i) (hw:C.W[i]? = some w) (hd:defW w=none) (hne:pieceW C.known w≠[]) (hg:∀ c∈pieceW C.known w,isDigit c=true) (hv:valD 0 (pieceW C.known w)<4294967296) (hroom:s.data.length<256) :
  Stx ((pieceW C.known w).length+1) s { s with pc:=C.plc (i+1),data:=valD 0 (pieceW C.known w)::s.data,digit:=true }∧lastD (C.pre (i+1))=true:=by
 obtain ⟨h1,h2,h3⟩:=C.piece hk hw hd
 have hf:firstD (pieceW C.known w)=true:=by
  cases hp:pieceW C.known w with
  |nil=>exact absurd hp hne
  |cons c r=>exact hg c (by rw[hp];simp)
 have hl:lastD (C.pre (i+1))=true:=by
  rw[h1,lastD_app hne]
  unfold lastD
  rw[List.getLast?_eq_some_getLast hne]
  exact hg _ (List.getLast_mem hne)
 refine ⟨?_,hl⟩
 obtain ⟨hpc,hdg⟩:=h
 have hplc:C.plc (i+1)=C.plc i+(if lastD (C.pre i) && firstD (pieceW C.known w) then [32] else []:Wd).length+(pieceW C.known w).length:=by
  unfold PW.plc
  rw[h1,zLa,zLa]
  omega
 rw[hf,Bool.and_true] at h2 hplc
 by_cases hsp:lastD (C.pre i)=true
 ·rw[if_pos hsp] at h2 hplc
  obtain ⟨m1,m2⟩:=h2.app
  have m0:=m1 0 (by simp)
  simp only[Nat.add_zero,List.getElem_cons_zero] at m0
  simp only[zLc,zLn] at hplc m2
  have hst:stepM s=.run { s with pc:=s.pc+1,digit:=false }:=by
   unfold stepM
   rw[if_pos (by rw[hpc];omega),hpc,m0]
   unfold exeM
   rw[if_neg zDd,if_pos zDd]
   rfl
  have hd1:=digs_all (s:={ s with pc:=s.pc+1,digit:=false }) hne hg rfl hroom (by simp only;rw[hpc];exact m2) (by simp only;rw[hpc];omega) hv
  refine ⟨1+(pieceW C.known w).length,by omega,?_⟩
  have:=(Stp.one hst).trans hd1
  simp only at this
  rw[hplc,←hpc]
  exact this
 ·rw[if_neg hsp] at h2 hplc
  rw[List.nil_append] at h2
  have hdf:s.digit=false:=by
   cases hx:s.digit with
   |false=>rfl
   |true=>exact absurd (hdg hx) hsp
  have hd1:=digs_all (s:=s) hne hg hdf hroom (by rw[hpc];exact h2) (by rw[hpc];simp only[zLn] at hplc;omega) hv
  refine ⟨(pieceW C.known w).length,by omega,?_⟩
  simp only[zLn,Nat.add_zero] at hplc
  rw[hplc,←hpc]
  exact hd1
theorem PW.sign {C:PW} {s:MS} {i:Nat} {c:UInt8} (hk:C.Ok s.mem) (h:C.At s i) (hw:C.W[i]? = some [c]) (hd:defW [c]=none) (hr:refW [c]=none) (hc:isDigit c=false) :
  stepM s=(match exeM c.toNat { s with pc:=C.plc (i+1) } with
   |.run s'=>.run { s' with digit:=false }
   |.stop e o=>.stop e o)∧lastD (C.pre (i+1))=false:=by
 obtain ⟨h1,h2,h3⟩:=C.piece hk hw hd
 have hp:pieceW C.known [c]=[c]:=by unfold pieceW;rw[hr]
 have hf:firstD [c]=false:=hc
 rw[hp,hf,Bool.and_false,if_neg zDd] at h1 h2
 rw[zLz] at h1
 rw[List.nil_append] at h2
 have m0:=h2 0 (by simp)
 simp only[Nat.add_zero,List.getElem_cons_zero] at m0
 have hplc:C.plc (i+1)=C.plc i+1:=by
  unfold PW.plc
  rw[h1,zLa]
  rfl
 have hn:isDigN c.toNat=false:=by
  cases hx:isDigN c.toNat with
  |false=>rfl
  |true=>
   unfold isDigN at hx
   simp only[zBa,zDe] at hx
   rw[dig_iff.2 hx] at hc
   cases hc
 constructor
 ·unfold stepM
  rw[if_pos (by rw[h.1];omega),h.1,m0,←hplc,hn]
  try cases exeM c.toNat { s with pc:=C.plc (i+1) } <;> rfl
 ·rw[h1]
  unfold lastD
  simp[hc]
end Go.Stele
namespace Go.Stele
open Go.Lib
def PW.Code (C:PW) (i:Nat) (ws:List Wd):Prop:=∀ k (h:k<ws.length),C.W[i+k]? = some ws[k]
theorem PW.Code.app {C:PW} {i:Nat} {a b:List Wd} (h:C.Code i (a++b)):C.Code i a∧C.Code (i+a.length) b:=by
 constructor
 ·intro k hk
  have:=h k (by rw[zLa];omega)
  rwa [List.getElem_append_left hk] at this
 ·intro k hk
  have:=h (a.length+k) (by rw[zLa];omega)
  rw[List.getElem_append_right (by omega)] at this
  rw[Nat.add_assoc]
  simpa using this
theorem PW.Code.cons {C:PW} {i:Nat} {w:Wd} {b:List Wd} (h:C.Code i (w::b)):C.W[i]? = some w∧C.Code (i+1) b:=by
 have h1:=PW.Code.app (a:=[w]) (b:=b) h
 have h2:=h1.1 0 (by simp)
 exact ⟨by simpa using h2,h1.2⟩
def PW.put (C:PW) (s:MS) (i:Nat) (d:List Nat):MS:={ s with pc:=C.plc i,data:=d,digit:=false }
theorem PW.put_at (C:PW) (s:MS) (i:Nat) (d:List Nat):C.At (C.put s i d) i:=⟨rfl,fun h=>by cases h⟩
theorem sign_words {c:UInt8} (h:c∈([43,45,42,47,37,94,60,64,33,63,58,59,44,46,36]:Wd)):defW [c]=none∧refW [c]=none∧isDigit c=false:=by
 have:∀ c∈([43,45,42,47,37,94,60,64,33,63,58,59,44,46,36]:Wd),defW [c]=none∧refW [c]=none∧isDigit c=false:=by decide +kernel
 exact this c h
section
variable {C:PW} {s:MS} {i:Nat}
theorem PW.ref (hk:C.Ok s.mem) (h:C.At s i) {w x:Wd} (hw:C.W[i]? = some w) (hr:refW w=some x) (hn:C.known x<1000000) (hroom:s.data.length<256) :
  ∃ s',Stx 7 s s'∧C.At s' (i+1)∧s'={ s with pc:=C.plc (i+1),data:=C.known x::s.data,digit:=true }:=by
 have hp:pieceW C.known w=addrW (C.known x):=by unfold pieceW;rw[hr]
 obtain ⟨b1,b2⟩:=addrW_len (C.known x)
 have h1:=C.digs hk h hw (ref_notdef hr) (by rw[hp];intro h;rw[h] at b1;cases b1) (by rw[hp];exact b2) (by rw[hp,addrW_val hn];omega) hroom
 rw[hp,addrW_val hn,b1] at h1
 exact ⟨_,h1.1,⟨rfl,fun _=>h1.2⟩,rfl⟩
theorem PW.load (hk:C.Ok s.mem) (h:C.At s i) (hw:C.W[i]? = some [64]) {a:Nat} {r:List Nat} (hd:s.data=a::r) (ha:a<262144) (hroom:r.length<256):Stx 1 s (C.put s (i+1) (s.mem a::r)):=by
 obtain ⟨e1,e2,e3⟩:=sign_words (c:=64) zDd
 obtain ⟨h1,_⟩:=C.sign hk h hw e1 e2 e3
 refine Stx.one (h1.trans ?_)
 have:exeM (64:UInt8).toNat { s with pc:=C.plc (i+1) }=.run { s with pc:=C.plc (i+1),data:=s.mem a::r }:=by
  unfold exeM
  rw[if_neg zDd,if_neg zDd,if_pos zDd]
  unfold ldM pushM
  simp[hd,ha,hroom]
 rw[this]
 rfl
theorem PW.store (hk:C.Ok s.mem) (h:C.At s i) (hw:C.W[i]? = some [33]) {a v:Nat} {r:List Nat} (hd:s.data=a::v::r) (ha:a<262144):Stx 1 s { C.put s (i+1) r with mem:=fun i=>if i=a then v else s.mem i }:=by
 obtain ⟨e1,e2,e3⟩:=sign_words (c:=33) zDd
 obtain ⟨h1,_⟩:=C.sign hk h hw e1 e2 e3
 refine Stx.one (h1.trans ?_)
 have:exeM (33:UInt8).toNat { s with pc:=C.plc (i+1) }=.run { s with pc:=C.plc (i+1),data:=r,mem:=fun i=>if i=a then v else s.mem i }:=by
  unfold exeM
  rw[if_neg zDd,if_neg zDd,if_neg zDd,if_pos zDd]
  unfold stoM
  simp[hd,ha]
 rw[this]
 rfl
theorem PW.jump (hk:C.Ok s.mem) (h:C.At s i) (hw:C.W[i]? = some [63]) {t v:Nat} {r:List Nat} (hd:s.data=t::v::r):Stx 1 s { C.put s (i+1) r with pc:=if v=0 then t else C.plc (i+1) }:=by
 obtain ⟨e1,e2,e3⟩:=sign_words (c:=63) zDd
 obtain ⟨h1,_⟩:=C.sign hk h hw e1 e2 e3
 refine Stx.one (h1.trans ?_)
 have:exeM (63:UInt8).toNat { s with pc:=C.plc (i+1) }=.run { s with pc:=if v=0 then t else C.plc (i+1),data:=r }:=by
  unfold exeM
  rw[if_neg zDd,if_neg zDd,if_neg zDd,if_neg zDd,if_pos zDd]
  unfold jmpM
  simp[hd]
 rw[this]
 rfl
theorem PW.call (hk:C.Ok s.mem) (h:C.At s i) (hw:C.W[i]? = some [58]) {t:Nat} {r:List Nat} (hd:s.data=t::r) (hc:s.calls.length<64):Stx 1 s { C.put s (i+1) r with pc:=t,calls:=C.plc (i+1)::s.calls }:=by
 obtain ⟨e1,e2,e3⟩:=sign_words (c:=58) zDd
 obtain ⟨h1,_⟩:=C.sign hk h hw e1 e2 e3
 refine Stx.one (h1.trans ?_)
 have:exeM (58:UInt8).toNat { s with pc:=C.plc (i+1) }=.run { s with pc:=t,data:=r,calls:=C.plc (i+1)::s.calls }:=by
  unfold exeM
  rw[if_neg zDd,if_neg zDd,if_neg zDd,if_neg zDd,if_neg zDd,if_pos zDd]
  unfold callM
  simp[hd,hc]
 rw[this]
 rfl
theorem PW.back (hk:C.Ok s.mem) (h:C.At s i) (hw:C.W[i]? = some [59]) {t:Nat} {r:List Nat} (hd:s.calls=t::r):Stx 1 s { s with pc:=t,calls:=r,digit:=false }:=by
 obtain ⟨e1,e2,e3⟩:=sign_words (c:=59) zDd
 obtain ⟨h1,_⟩:=C.sign hk h hw e1 e2 e3
 refine Stx.one (h1.trans ?_)
 have:exeM (59:UInt8).toNat { s with pc:=C.plc (i+1) }=.run { s with pc:=t,calls:=r }:=by
  unfold exeM
  rw[if_neg zDd,if_neg zDd,if_neg zDd,if_neg zDd,if_neg zDd,if_neg zDd,if_pos zDd]
  unfold bakM
  simp[hd]
 rw[this]
theorem PW.read (hk:C.Ok s.mem) (h:C.At s i) (hw:C.W[i]? = some [44]) (hroom:s.data.length<256):Stx 1 s { C.put s (i+1) ((s.inp.headD 4294967295)::s.data) with inp:=s.inp.tail }:=by
 obtain ⟨e1,e2,e3⟩:=sign_words (c:=44) zDd
 obtain ⟨h1,_⟩:=C.sign hk h hw e1 e2 e3
 refine Stx.one (h1.trans ?_)
 have:exeM (44:UInt8).toNat { s with pc:=C.plc (i+1) }=.run { s with pc:=C.plc (i+1),data:=(s.inp.headD 4294967295)::s.data,inp:=s.inp.tail }:=by
  unfold exeM
  rw[if_neg zDd,if_neg zDd,if_neg zDd,if_neg zDd,if_neg zDd,if_neg zDd,if_neg zDd,if_pos zDd]
  unfold rdM pushM
  cases hi:s.inp with
  |nil=>simp[hi,hroom]
  |cons v r=>simp[hi,hroom]
 rw[this]
 rfl
theorem PW.write (hk:C.Ok s.mem) (h:C.At s i) (hw:C.W[i]? = some [46]) {v:Nat} {r:List Nat} (hd:s.data=v::r):Stx 1 s { C.put s (i+1) r with out:=s.out++[UInt8.ofNat v] }:=by
 obtain ⟨e1,e2,e3⟩:=sign_words (c:=46) zDd
 obtain ⟨h1,_⟩:=C.sign hk h hw e1 e2 e3
 refine Stx.one (h1.trans ?_)
 have:exeM (46:UInt8).toNat { s with pc:=C.plc (i+1) }=.run { s with pc:=C.plc (i+1),data:=r,out:=s.out++[UInt8.ofNat v] }:=by
  unfold exeM
  rw[if_neg zDd,if_neg zDd,if_neg zDd,if_neg zDd,if_neg zDd,if_neg zDd,if_neg zDd,if_neg zDd,if_pos zDd]
  unfold wrM
  simp[hd]
 rw[this]
 rfl
theorem PW.halt (hk:C.Ok s.mem) (h:C.At s i) (hw:C.W[i]? = some [36]):stepM s=.stop 0 s.out:=by
 obtain ⟨e1,e2,e3⟩:=sign_words (c:=36) zDd
 obtain ⟨h1,_⟩:=C.sign hk h hw e1 e2 e3
 rw[h1]
 have:exeM (36:UInt8).toNat { s with pc:=C.plc (i+1) }=.stop 0 s.out:=by
  unfold exeM
  rw[if_neg zDd,if_neg zDd,if_neg zDd,if_neg zDd,if_neg zDd,if_neg zDd,if_neg zDd,if_neg zDd,if_neg zDd,if_pos zDd]
 rw[this]
def isOp (c:UInt8):Prop:=c=43∨c=45∨c=42∨c=47∨c=37∨c=94∨c=60
theorem exe_op {c:UInt8} (hc:isOp c) (s:MS):exeM c.toNat s=opM c.toNat s:=by
 have h:isDigN c.toNat=false∧¬ (c.toNat=32∨c.toNat=10)∧c.toNat≠64∧c.toNat≠33∧c.toNat≠63∧c.toNat≠58∧c.toNat≠59∧c.toNat≠44∧c.toNat≠46∧c.toNat≠36∧(c.toNat=43∨c.toNat=45∨c.toNat=42∨c.toNat=47∨c.toNat=37∨c.toNat=94∨c.toNat=60):=by
  rcases hc with rfl|rfl|rfl|rfl|rfl|rfl|rfl <;> decide
 obtain ⟨a1,a2,a3,a4,a5,a6,a7,a8,a9,a10,a11⟩:=h
 unfold exeM
 rw[if_neg (by rw[a1];decide),if_neg a2,if_neg a3,if_neg a4,if_neg a5,if_neg a6,if_neg a7,if_neg a8,if_neg a9,if_neg a10,if_pos a11]
theorem op_words {c:UInt8} (hc:isOp c):defW [c]=none∧refW [c]=none∧isDigit c=false:=
 sign_words (by unfold isOp at hc;rcases hc with rfl|rfl|rfl|rfl|rfl|rfl|rfl <;> decide)
theorem PW.op (hk:C.Ok s.mem) (h:C.At s i) {c:UInt8} (hc:isOp c) (hw:C.W[i]? = some [c]) {a b v:Nat} {r:List Nat} (hd:s.data=b::a::r) (hv:binM c.toNat a b=some v) (hroom:r.length<256):Stx 1 s (C.put s (i+1) (v::r)):=by
 obtain ⟨e1,e2,e3⟩:=op_words hc
 obtain ⟨h1,_⟩:=C.sign hk h hw e1 e2 e3
 refine Stx.one (h1.trans ?_)
 have:exeM c.toNat { s with pc:=C.plc (i+1) }=.run { s with pc:=C.plc (i+1),data:=v::r }:=by
  rw[exe_op hc]
  unfold opM pushM
  simp[hd,hv,hroom]
 rw[this]
 rfl
theorem PW.opTrap (hk:C.Ok s.mem) (h:C.At s i) {c:UInt8} (hc:isOp c) (hw:C.W[i]? = some [c]) {a b:Nat} {r:List Nat} (hd:s.data=b::a::r) (hv:binM c.toNat a b=none):stepM s=.stop 12 s.out:=by
 obtain ⟨e1,e2,e3⟩:=op_words hc
 obtain ⟨h1,_⟩:=C.sign hk h hw e1 e2 e3
 rw[h1]
 have:exeM c.toNat { s with pc:=C.plc (i+1) }=.stop 12 s.out:=by
  rw[exe_op hc]
  unfold opM MR.trap
  simp[hd,hv]
 rw[this]
end
end Go.Stele
namespace Go.Stele
structure IS where
 sc:List UInt8→Nat
 ar:List UInt8→List Nat
 inp:List Nat
 out:List UInt8
 left:Nat
inductive IR (A:Type) where
 |ok (v:A) (s:IS)
 |stop (e:Int) (s:IS)
def IR.bind {A B:Type} (r:IR A) (f:A→IS→IR B):IR B:=match r with
 |.ok v s=>f v s
 |.stop e s=>.stop e s
def IR.st {A:Type}:IR A→IS
 |.ok _ s=>s
 |.stop _ s=>s
def tick (s:IS):IR Unit:=if s.left=0 then .stop 13 s else .ok () { s with left:=s.left-1 }
def b2n (b:Bool):Nat:=if b=true then 1 else 0
def binI (op:List UInt8) (a b:Nat):Option Nat:=
 if op=[43] then some ((a+b) % 4294967296)
 else if op=[45] then some ((a+4294967296-b) % 4294967296)
 else if op=[42] then some (a * b % 4294967296)
 else if op=[94] then some (a ^^^ b)
 else if op=[61,61] then some (b2n (decide (a=b)))
 else if op=[33,61] then some (b2n (decide (a≠b)))
 else if op=[60] then some (b2n (decide (a<b)))
 else if op=[62] then some (b2n (decide (b<a)))
 else if op=[60,61] then some (b2n (decide (a≤b)))
 else if op=[62,61] then some (b2n (decide (b≤a)))
 else if op=[38,38] then some (b2n (decide (a≠0∧b≠0)))
 else if op=[124,124] then some (b2n (decide (a≠0∨b≠0)))
 else if b=0 then none
 else if op=[47] then some (a / b) else some (a % b)
def keyI (f:FnD) (name:List UInt8):List UInt8:=if name∈f.params∨name∈f.locals then f.name++[46]++name else name
def fnI (P:Pr) (name:List UInt8):FnD:=(P.funcs.find? fun f=>decide (f.name=name)).getD ⟨[],[],[],[]⟩
def setSc (s:IS) (k:List UInt8) (v:Nat):IS:={ s with sc:=fun x=>if x=k then v else s.sc x }
def setPs (f:FnD):List (List UInt8)→List Nat→IS→IS
 |p::ps,v::vs,s=>setPs f ps vs (setSc s (keyI f p) v)
 |_,_,s=>s
def mapR {A:Type} (g:A→IS→IR Nat):List A→IS→IR (List Nat)
 |[],s=>.ok [] s
 |a::l,s=>(g a s).bind fun v s=>(mapR g l s).bind fun vs s=>.ok (v::vs) s
def blkR (g:Sm→IS→IR (Option Nat)):List Sm→IS→IR (Option Nat)
 |[],s=>.ok none s
 |a::l,s=>(g a s).bind fun r s=>match r with
  |some v=>.ok (some v) s
  |none=>blkR g l s
def whlR (c:IS→IR Nat) (b:IS→IR (Option Nat)):Nat→Nat→IS→IR (Option Nat)
 |0,v,s=>if v=0 then .ok none s else .stop 13 s
 |m+1,v,s=>if v=0 then .ok none s else (b s).bind fun r s=>match r with
  |some x=>.ok (some x) s
  |none=>(c s).bind fun v s=>whlR c b m v s
def callI (P:Pr) (g:FnD→Sm→IS→IR (Option Nat)) (name:List UInt8) (vs:List Nat) (s:IS):IR Nat:=
 if name=[105,110] then (match s.inp with
  |[]=>.ok 4294967295 s
  |v::r=>.ok v { s with inp:=r })
 else if name=[111,117,116] then .ok 0 { s with out:=s.out++[UInt8.ofNat (vs.headD 0)] }
 else (blkR (g (fnI P name)) (fnI P name).body (setPs (fnI P name) (fnI P name).params vs s)).bind fun r s=>.ok (r.getD 0) s
def opI (P:Pr) (g:FnD→Sm→IS→IR (Option Nat)) (f:FnD) (op:List UInt8) (num:Nat) (name:List UInt8) (vs:List Nat) (s:IS):IR Nat:=
 if op=[110,117,109] then .ok num s
 else if op=[118,97,114] then .ok (s.sc (keyI f name)) s
 else if op=[101,108,101,109] then (match (s.ar name)[vs.headD 0]? with
  |some v=>.ok v s
  |none=>.stop 2 s)
 else if op=[110,101,103] then .ok ((4294967296-vs.headD 0) % 4294967296) s
 else if op=[110,111,116] then .ok (b2n (decide (vs.headD 0=0))) s
 else if op=[99,97,108,108] then callI P g name vs s
 else match binI op (vs.headD 0) (vs.tail.headD 0) with
  |some v=>.ok v s
  |none=>.stop 12 s
mutual
def evI (P:Pr):Nat→FnD→Ex→IS→IR Nat
 |0,_,_,s=>.stop 13 s
 |n+1,f,.mk op num name args,s=>(tick s).bind fun _ s=>(mapR (evI P n f) args s).bind fun vs s=>opI P (stI P n) f op num name vs s
def stI (P:Pr):Nat→FnD→Sm→IS→IR (Option Nat)
 |0,_,_,s=>.stop 13 s
 |n+1,f,.mk kind name index value thn els,s=>(tick s).bind fun _ s=>
  if kind=7 then .stop 0 s else (evI P n f (value.headD default) s).bind fun v s=>
   if kind=1 then .ok none (setSc s (keyI f name) v)
   else if kind=2 then (evI P n f (index.headD default) s).bind fun i s=>match (s.ar name)[i]? with
    |some _=>.ok none { s with ar:=fun x=>if x=name then (s.ar name).set i v else s.ar x }
    |none=>.stop 2 s
   else if kind=5 then .ok (some v) s
   else if kind=3 then (if v≠0 then blkR (stI P n f) thn s else blkR (stI P n f) els s)
   else if kind=4 then whlR (evI P n f (value.headD default)) (blkR (stI P n f) thn) n v s
   else .ok none s
end
/-! ### A greater limit -/
def up (k:Nat) (s:IS):IS:={ s with left:=s.left+k }
def Grow {A:Type} (s:IS) (r:IR A):Prop:=s.out <+: r.st.out∧r.st.left≤s.left
theorem Grow.bind {A B:Type} {s:IS} {r:IR A} {f:A→IS→IR B} (h:Grow s r) (hf:∀ v s',Grow s' (f v s')):Grow s (r.bind f):=by
 cases r with
 |ok v s'=>exact ⟨List.IsPrefix.trans h.1 (hf v s').1,zNt (hf v s').2 h.2⟩
 |stop e s'=>exact h
theorem tick_grow (s:IS):Grow s (tick s):=by
 unfold tick
 split
 ·exact ⟨zPf _,zNr _⟩
 ·exact ⟨zPf _,Nat.sub_le _ _⟩
theorem mapR_grow {A:Type} {g:A→IS→IR Nat} (h:∀ a s,Grow s (g a s)):∀ (l:List A) (s:IS),Grow s (mapR g l s)
 |[],s=>⟨zPf _,zNr _⟩
 |a::l,s=>(h a s).bind fun v s=>(mapR_grow h l s).bind fun vs s=>⟨zPf _,zNr _⟩
theorem blkR_grow {g:Sm→IS→IR (Option Nat)} (h:∀ a s,Grow s (g a s)):∀ (l:List Sm) (s:IS),Grow s (blkR g l s)
 |[],s=>⟨zPf _,zNr _⟩
 |a::l,s=>(h a s).bind fun r s=>by
  cases r with
  |none=>exact blkR_grow h l s
  |some v=>exact ⟨zPf _,zNr _⟩
theorem whlR_grow {c:IS→IR Nat} {b:IS→IR (Option Nat)} (hc:∀ s,Grow s (c s)) (hb:∀ s,Grow s (b s)):∀ (m v:Nat) (s:IS),Grow s (whlR c b m v s)
 |0,v,s=>by
  unfold whlR
  split <;> exact ⟨zPf _,zNr _⟩
 |m+1,v,s=>by
  unfold whlR
  split
  ·exact ⟨zPf _,zNr _⟩
  ·refine (hb s).bind fun r s=>?_
   cases r with
   |some x=>exact ⟨zPf _,zNr _⟩
   |none=>exact (hc s).bind fun v s=>whlR_grow hc hb m v s
theorem setPs_same (f:FnD):∀ (ps:List (List UInt8)) (vs:List Nat) (s:IS),(setPs f ps vs s).out=s.out∧(setPs f ps vs s).left=s.left∧∀ k,setPs f ps vs (up k s)=up k (setPs f ps vs s)
 |p::ps,v::vs,s=>by
  obtain ⟨h1,h2,h3⟩:=setPs_same f ps vs (setSc s (keyI f p) v)
  exact ⟨h1,h2,fun k=>h3 k⟩
 |[],_,s=>by unfold setPs;exact ⟨rfl,rfl,fun _=>rfl⟩
 |_::_,[],s=>by unfold setPs;exact ⟨rfl,rfl,fun _=>rfl⟩
theorem opI_grow {P:Pr} {g:FnD→Sm→IS→IR (Option Nat)} (h:∀ f a s,Grow s (g f a s)) (f:FnD) (op:List UInt8) (num:Nat) (name:List UInt8) (vs:List Nat) (s:IS):Grow s (opI P g f op num name vs s):=by
 unfold opI
 split
 ·exact ⟨zPf _,zNr _⟩
 split
 ·exact ⟨zPf _,zNr _⟩
 split
 ·split <;> exact ⟨zPf _,zNr _⟩
 split
 ·exact ⟨zPf _,zNr _⟩
 split
 ·exact ⟨zPf _,zNr _⟩
 split
 ·unfold callI
  split
  ·split <;> exact ⟨zPf _,zNr _⟩
  split
  ·exact ⟨List.prefix_append _ _,zNr _⟩
  ·refine Grow.bind ?_ fun r s=>⟨zPf _,zNr _⟩
   have:=blkR_grow (h (fnI P name)) (fnI P name).body (setPs (fnI P name) (fnI P name).params vs s)
   unfold Grow at this ⊢
   rwa [(setPs_same _ _ _ _).1,(setPs_same _ _ _ _).2.1] at this
 ·split <;> exact ⟨zPf _,zNr _⟩
theorem grow_all (P:Pr):∀ n:Nat,(∀ f x s,Grow s (evI P n f x s))∧∀ f x s,Grow s (stI P n f x s)
 |0=>⟨fun f x s=>by unfold evI;exact ⟨zPf _,zNr _⟩,fun f x s=>by unfold stI;exact ⟨zPf _,zNr _⟩⟩
 |n+1=>by
  obtain ⟨h1,h2⟩:=grow_all P n
  refine ⟨fun f x s=>?_,fun f x s=>?_⟩
  ·obtain ⟨op,num,name,args⟩:=x
   unfold evI
   exact (tick_grow s).bind fun _ s=>(mapR_grow (h1 f) args s).bind fun vs s=>opI_grow h2 f op num name vs s
  ·obtain ⟨kind,name,index,value,thn,els⟩:=x
   unfold stI
   refine (tick_grow s).bind fun _ s=>?_
   split
   ·exact ⟨zPf _,zNr _⟩
   ·refine (h1 f _ s).bind fun v s=>?_
    split
    ·exact ⟨zPf _,zNr _⟩
    split
    ·refine (h1 f _ s).bind fun i s=>?_
     split <;> exact ⟨zPf _,zNr _⟩
    split
    ·exact ⟨zPf _,zNr _⟩
    split
    ·split
     ·exact blkR_grow (h2 f) _ _
     ·exact blkR_grow (h2 f) _ _
    split
    ·exact whlR_grow (h1 f _) (blkR_grow (h2 f) _) _ _ _
    ·exact ⟨zPf _,zNr _⟩
theorem whlR_zero (c:IS→IR Nat) (b:IS→IR (Option Nat)) (m:Nat) (s:IS):whlR c b m 0 s=.ok none s:=by
 cases m <;> rw[whlR,if_pos rfl]
theorem tick_less {s s':IS} {u:Unit} (h:tick s=.ok u s'):s'.left<s.left:=by
 unfold tick at h
 split at h
 ·cases h
 ·cases h
  simp only
  omega
theorem ev_less (P:Pr) (n:Nat) (f:FnD) (x:Ex) (s s':IS) (v:Nat) (h:evI P n f x s=.ok v s'):s'.left<s.left:=by
 cases n with
 |zero=>unfold evI at h;cases h
 |succ n=>
  obtain ⟨op,num,name,args⟩:=x
  unfold evI at h
  cases ht:tick s with
  |stop e s1=>rw[ht] at h;cases h
  |ok u s1=>
   rw[ht] at h
   have h1:=tick_less ht
   have hG:Grow s1 ((mapR (evI P n f) args s1).bind fun vs s=>opI P (stI P n) f op num name vs s):=(mapR_grow ((grow_all P n).1 f) args s1).bind fun vs s=>opI_grow (grow_all P n).2 f op num name vs s
   have h2:=hG.2
   have h3:(mapR (evI P n f) args s1).bind (fun vs s=>opI P (stI P n) f op num name vs s)=.ok v s':=h
   rw[h3] at h2
   exact Nat.lt_of_le_of_lt h2 h1
/-! ### A run -/
structure OutI where
 out:List UInt8
 err:Int
 steps:Nat
def startI (P:Pr) (inp:List Nat) (limit:Nat):IS:=⟨fun _=>0,fun x=>match P.arrays.find? fun a=>decide (a.name=x) with
 |some a=>List.replicate a.size 0
 |none=>[],inp,[],limit⟩
def mainI (P:Pr):FnD:=P.funcs.getLast?.getD ⟨[],[],[],[]⟩
def endI {A:Type} (limit:Nat):IR A→OutI
 |.ok _ s=>⟨s.out,0,limit-s.left⟩
 |.stop e s=>⟨s.out,e,limit-s.left⟩
def runI (P:Pr) (inp:List Nat) (limit:Nat):OutI:=endI limit (blkR (stI P limit (mainI P)) (mainI P).body (startI P inp limit))
end Go.Stele
namespace Go.Stele
abbrev Nm:=List UInt8
def noName:List Nm:=keywords++[[105,110],[111,117,116]]
def isNm (s:Nm):Bool:=decide (s.length≤24) && !noName.contains s && (match s with
 |[]=>false
 |c::r=>isLetter c && r.all isInner)
structure FSum where
 name:Nm
 params:Nat
 need:Nat
 depth:Nat
structure CEnv where
 vars:List Nm
 arrays:List Nm
 later:List Nm
 own:List Nm
 funcs:List FSum
def CEnv.globals (c:CEnv):List Nm:=c.vars++c.arrays++c.later
def CEnv.fn (c:CEnv) (name:Nm):Option FSum:=c.funcs.find? fun f=>decide (f.name=name)
def orE (a b:Int):Int:=if a≠0 then a else b
def binOps:List Nm:=[[124,124],[38,38],[61,61],[33,61],[60],[62],[60,61],[62,61],[94],[43],[45],[42],[47],[37]]
def opnds (op:Nm):Int:=if op=nNum∨op=nVar then 0 else if op=nElem∨op=nNeg∨op=nNot then 1 else if op=nCall then -1 else if op∈binOps then 2 else -2
def scalarE (c:CEnv) (name:Nm):Int:=if name∈c.vars∨name∈c.own then 0 else if name∈c.globals then 10 else 7
def arrayE (c:CEnv) (name:Nm):Int:=if name∈c.arrays then 0 else if name∈c.globals∨name∈c.own then 10 else 7
def callE (c:CEnv) (name:Nm) (n:Nat):Int:=
 if name=[105,110] then (if n=0 then 0 else 1)
 else if name=[111,117,116] then (if n=1 then 0 else 1)
 else match c.fn name with
  |some f=>if n=f.params then 0 else 1
  |none=>if name∈c.vars∨name∈c.arrays∨name∈c.own then 10 else 7
def useE (c:CEnv) (op name:Nm) (n:Nat):Int:=if op=nVar then scalarE c name else if op=nElem then arrayE c name else if op=nCall then callE c name n else 0
mutual
def errE (c:CEnv):Ex→Int
 |.mk op num name args=>if opnds op = -1∨opnds op=args.length then orE (errEs c args) (useE c op name args.length) else 3
def errEs (c:CEnv):List Ex→Int
 |[]=>0
 |x::l=>orE (errE c x) (errEs c l)
end
def stair:Nat→List Nat→Nat→Nat
 |i,[],m=>m
 |i,n::l,m=>stair (i+1) l (max m (i+n))
def callN (c:CEnv) (name:Nm) (ns:List Nat):Nat:=
 if name=[105,110] then 1
 else if name=[111,117,116] then ns.headD 0
 else match c.fn name with
  |some f=>stair 0 ns (max (f.params+1) f.need)
  |none=>0
def opN (c:CEnv) (op name:Nm) (ns:List Nat):Nat:=
 if op=nNum∨op=nVar then 1
 else if op=nElem∨op=nNeg then 1+ns.headD 0
 else if op=nCall then callN c name ns
 else if op=nNot then max 2 (ns.headD 0)
 else if op=[62]∨op=[60,61] then max (max 3 (ns.headD 0)) (1+ns.tail.headD 0)
 else if op=[33,61] then max (max 3 (1+ns.headD 0)) (2+ns.tail.headD 0)
 else if op=[38,38] then max (1+ns.headD 0) (2+ns.tail.headD 0)
 else if op=[124,124] then max (2+ns.headD 0) (3+ns.tail.headD 0)
 else max (max 2 (ns.headD 0)) (1+ns.tail.headD 0)
mutual
def needE (c:CEnv):Ex→Nat
 |.mk op num name args=>opN c op name (needEs c args)
def needEs (c:CEnv):List Ex→List Nat
 |[]=>[]
 |x::l=>needE c x::needEs c l
end
def callD (c:CEnv) (op name:Nm):Nat:=if op=nCall∧name≠[105,110]∧name≠[111,117,116] then (match c.fn name with
 |some f=>f.depth+1
 |none=>0) else 0
mutual
def depE (c:CEnv):Ex→Nat
 |.mk op num name args=>max (depEs c args) (callD c op name)
def depEs (c:CEnv):List Ex→Nat
 |[]=>0
 |x::l=>max (depE c x) (depEs c l)
end
def exOp1:Ex→Nm
 |.mk op _ _ _=>op
def formS:Sm→Bool
 |.mk kind name index value thn els=>
  if kind=1 then decide (name≠[]∧index.length=0∧value.length=1∧thn.length=0∧els.length=0)
  else if kind=2 then decide (name≠[]∧index.length=1∧value.length=1∧thn.length=0∧els.length=0)
  else if kind=3 then decide (name=[]∧index.length=0∧value.length=1)
  else if kind=4 then decide (name=[]∧index.length=0∧value.length=1∧els.length=0)
  else if kind=5 then decide (name=[]∧index.length=0∧value.length=1∧thn.length=0∧els.length=0)
  else if kind=6 then decide (name=[]∧index.length=0∧value.length=1∧thn.length=0∧els.length=0∧exOp1 (value.headD default)=nCall)
  else if kind=7 then decide (name=[]∧index.length=0∧value.length=0∧thn.length=0∧els.length=0)
  else false
mutual
def errS (c:CEnv):Sm→Int
 |.mk kind name index value thn els=>if formS (.mk kind name index value thn els)=false then 3
  else orE (errEs c value) (orE (errEs c index) (orE (if kind=1 then scalarE c name else if kind=2 then arrayE c name else 0) (orE (errSs c thn) (errSs c els))))
def errSs (c:CEnv):List Sm→Int
 |[]=>0
 |s::l=>orE (errS c s) (errSs c l)
end
mutual
def needS (c:CEnv):Sm→Nat
 |.mk kind name index value thn els=>
  if kind=7 then 0
  else if kind=2 then max (needE c (value.headD default)) (2+needE c (index.headD default))
  else if kind=5 then needE c (value.headD default)
  else max 2 (max (max (needE c (value.headD default)) (needSs c thn)) (needSs c els))
def needSs (c:CEnv):List Sm→Nat
 |[]=>0
 |s::l=>max (needS c s) (needSs c l)
end
mutual
def depS (c:CEnv):Sm→Nat
 |.mk kind name index value thn els=>max (max (depEs c value) (depEs c index)) (max (depSs c thn) (depSs c els))
def depSs (c:CEnv):List Sm→Nat
 |[]=>0
 |s::l=>max (depS c s) (depSs c l)
end
def freshE:List Nm→List Nm→Int
 |known,[]=>0
 |known,s::l=>if isNm s=false then 7 else if s∈known then 8 else freshE (s::known) l
def sizesE:Int→List Int→Int
 |total,[]=>0
 |total,n::l=>if n≤0 then 2 else if 150000-total<n then 6 else sizesE (total+n) l
def envF (vars arrays later:List Nm) (known:List FSum) (f:FnD):CEnv:=⟨vars,arrays,later,f.params++f.locals,known⟩
def errF (vars arrays later:List Nm) (known:List FSum) (f:FnD):Int:=orE (freshE (vars++arrays++later) (f.params++f.locals)) (errSs (envF vars arrays later known f) f.body)
def sumF (vars arrays later:List Nm) (known:List FSum) (f:FnD):FSum:=⟨f.name,f.params.length,max (max 2 (f.params.length+1)) (needSs (envF vars arrays later known f) f.body),max 1 (depSs (envF vars arrays later known f) f.body)⟩
def errFs (vars arrays later:List Nm):List FSum→List FnD→Int
 |known,[]=>0
 |known,f::l=>orE (errF vars arrays later known f) (errFs vars arrays later (known++[sumF vars arrays later known f]) l)
def sumFs (vars arrays later:List Nm):List FSum→List FnD→List FSum
 |known,[]=>known
 |known,f::l=>sumFs vars arrays later (known++[sumF vars arrays later known f]) l
def scalarsP (vars:List Nm) (fs:List FnD):List Nm:=vars++(fs.map fun f=>(f.params++f.locals).map fun x=>f.name++[46]++x).flatten
def mainE (vars:List Nm) (fs:List FnD) (sums:List FSum):Int:=match fs.getLast?,sums.getLast? with
 |some f,some m=>if f.name=[109,97,105,110]∧f.params=[] then (if (scalarsP vars fs).length≤8000∧m.need≤200∧m.depth≤60 then 0 else 6) else 9
 |_,_=>9
def checkP (vars:List Nm) (arrays:List (Nm×Int)) (fs:List FnD):Int:=
 orE (freshE [] (vars++arrays.map (·.1)++fs.map (·.name))) (orE (sizesE 0 (arrays.map (·.2)))
  (orE (errFs vars (arrays.map (·.1)) (fs.map (·.name)) [] fs) (mainE vars fs (sumFs vars (arrays.map (·.1)) (fs.map (·.name)) [] fs))))
def checkPr (p:Pr):Int:=checkP p.vars (p.arrays.map fun a=>(a.name,(a.size:Int))) p.funcs
theorem orE_zero {a b:Int}:orE a b=0 ↔ a=0∧b=0:=by
 unfold orE
 split
 ·constructor
  ·intro h;contradiction
  ·rintro ⟨h,_⟩;contradiction
 ·constructor
  ·intro h;exact ⟨by omega,h⟩
  ·rintro ⟨_,h⟩;exact h
end Go.Stele
namespace Go.Stele
abbrev KT:=Int×List UInt8
def sg (c:UInt8):KT:=(4,[c])
def NameOk (x:List UInt8):Prop:=Again ⟨2,x,0⟩
mutual
inductive PE:Ex→Nat→List KT→Nat→Prop
 |num {n k:Nat} (h:n<4294967296):PE (.mk nNum n [] []) k [(1,Go.Lib.decDigits n)] 0
 |var {s:List UInt8} {k:Nat} (h:NameOk s):PE (.mk nVar 0 s []) k [(2,s)] 0
 |elem {s:List UInt8} {k:Nat} {a:Ex} {ts:List KT} {d:Nat} (h:NameOk s) (ha:PE a 0 ts d):PE (.mk nElem 0 s [a]) k ((2,s)::sg 91::(ts++[sg 93])) (d+1)
 |call {s:List UInt8} {k:Nat} {l:List Ex} {ts:List KT} {d:Nat} (h:NameOk s) (hl:PEs l ts d):PE (.mk nCall 0 s l) k ((2,s)::sg 40::(ts++[sg 41])) (d+1)
 |neg {k:Nat} {a:Ex} {ts:List KT} {d:Nat} (ha:PE a 6 ts d):PE (.mk nNeg 0 [] [a]) k (sg 45::ts) (d+1)
 |not {k:Nat} {a:Ex} {ts:List KT} {d:Nat} (ha:PE a 6 ts d):PE (.mk nNot 0 [] [a]) k (sg 33::ts) (d+1)
 |bin {s k:Nat} {op:List UInt8} {a b:Ex} {t1 t2:List KT} {d1 d2:Nat} (hs:s<6) (ho:op∈lvOps s) (hk:k≤s) (ha:PE a (leftLv s) t1 d1) (hb:PE b (s+1) t2 d2):PE (.mk op 0 [] [a,b]) k (t1++(4,op)::t2) (max d1 d2)
 |par {s k:Nat} {op:List UInt8} {a b:Ex} {t1 t2:List KT} {d1 d2:Nat} (hs:s<6) (ho:op∈lvOps s) (hk:s<k) (ha:PE a (leftLv s) t1 d1) (hb:PE b (s+1) t2 d2):PE (.mk op 0 [] [a,b]) k (sg 40::((t1++(4,op)::t2)++[sg 41])) (max d1 d2+1)
inductive PEs:List Ex→List KT→Nat→Prop
 |nil:PEs [] [] 0
 |one {a:Ex} {ts:List KT} {d:Nat} (ha:PE a 0 ts d):PEs [a] ts d
 |more {a b:Ex} {l:List Ex} {t1 t2:List KT} {d1 d2:Nat} (ha:PE a 0 t1 d1) (hl:PEs (b::l) t2 d2):PEs (a::b::l) (t1++sg 44::t2) (max d1 d2)
end
theorem PE.weak {e:Ex} {k k':Nat} {ts:List KT} {d:Nat} (h:PE e k ts d) (hk:k'≤k):∃ ts' d',PE e k' ts' d'∧ts'.length≤ts.length∧d'≤d:=by
 cases h with
 |num h=>exact ⟨_,_,.num h,zNr _,zNr _⟩
 |var h=>exact ⟨_,_,.var h,zNr _,zNr _⟩
 |elem h ha=>exact ⟨_,_,.elem h ha,zNr _,zNr _⟩
 |call h ha=>exact ⟨_,_,.call h ha,zNr _,zNr _⟩
 |neg ha=>exact ⟨_,_,.neg ha,zNr _,zNr _⟩
 |not ha=>exact ⟨_,_,.not ha,zNr _,zNr _⟩
 |bin hs ho hk2 ha hb=>exact ⟨_,_,.bin hs ho (by omega) ha hb,zNr _,zNr _⟩
 |par hs ho hk2 ha hb=>
  rename_i s _ _ _ _ _ _ _
  by_cases h2:k'≤s
  ·exact ⟨_,_,.bin hs ho h2 ha hb,by simp only[zLa,zLc,zLn];omega,by omega⟩
  ·exact ⟨_,_,.par hs ho (by omega) ha hb,zNr _,zNr _⟩
theorem PE.paren {e:Ex} {ts:List KT} {d:Nat} (h:PE e 0 ts d):∃ ts' d',PE e 6 ts' d'∧ts'.length≤ts.length+2∧d'≤d+1:=by
 cases h with
 |num h=>exact ⟨_,_,.num h,by omega,by omega⟩
 |var h=>exact ⟨_,_,.var h,by omega,by omega⟩
 |elem h ha=>exact ⟨_,_,.elem h ha,by omega,by omega⟩
 |call h ha=>exact ⟨_,_,.call h ha,by omega,by omega⟩
 |neg ha=>exact ⟨_,_,.neg ha,by omega,by omega⟩
 |not ha=>exact ⟨_,_,.not ha,by omega,by omega⟩
 |bin hs ho hk2 ha hb=>exact ⟨_,_,.par hs ho hs ha hb,by simp only[zLa,zLc,zLn];omega,by omega⟩
 |par hs ho hk2 ha hb=>omega
theorem PEs.snoc:∀ {l:List Ex} {a:Ex} {t0 t1:List KT} {d0 d1:Nat},PEs l t0 d0→PE a 0 t1 d1→∃ t,PEs (l++[a]) t (max d0 d1)∧t.length=t0.length+(if l=[] then 0 else 1)+t1.length:=by
 intro l
 induction l with
 |nil=>
  intro a t0 t1 d0 d1 h h1
  cases h with
  |nil=>exact ⟨t1,by rw[Nat.zero_max];exact .one h1,by simp⟩
 |cons b l ih=>
  intro a t0 t1 d0 d1 h h1
  cases h with
  |one hb=>exact ⟨_,.more hb (.one h1),by simp only[zLa,zLc];simp;omega⟩
  |more hb hl=>
   obtain ⟨t,g1,g2⟩:=ih hl h1
   exact ⟨_,by rw[Nat.max_assoc];exact .more hb g1,by simp only[zLa,zLc,g2];simp;omega⟩
/-! ### What is read can be printed -/
def Wh {A:Type} (P:A→Nat→Nat→Prop) (r:OR A):Prop:=∀ v i op,r=some (.ok v i op)→P v i op
theorem wh_bind {A B:Type} {r:OR A} {k:A→Nat→Nat→OR B} {P:A→Nat→Nat→Prop} {Q:B→Nat→Nat→Prop} (hr:Wh P r) (hk:∀ v i op,P v i op→Wh Q (k v i op)):Wh Q (obind r k):=fun v i op h=>by
 rcases obind_some h with ⟨w,i1,op1,h1,h2⟩|⟨_,_,_,h2⟩
 ·exact hk _ _ _ (hr _ _ _ h1) v i op h2
 ·cases h2
theorem wh_any {A B:Type} {r:OR A} {k:A→Nat→Nat→OR B} {Q:B→Nat→Nat→Prop} (hk:∀ v i op,r=some (.ok v i op)→Wh Q (k v i op)):Wh Q (obind r k):=wh_bind (fun _ _ _ h=>h) hk
theorem wh_ok {A:Type} {P:A→Nat→Nat→Prop} {v:A} {i op:Nat} (h:P v i op):Wh P (some (.ok v i op)):=fun _ _ _ e=>by cases e;exact h
theorem wh_none {A:Type} {P:A→Nat→Nat→Prop}:Wh P none:=fun _ _ _ e=>by cases e
theorem wh_mono {A:Type} {P Q:A→Nat→Nat→Prop} {r:OR A} (h:Wh P r) (hPQ:∀ v i op,P v i op→Q v i op):Wh Q r:=fun v i op e=>hPQ _ _ _ (h v i op e)
theorem wh_begin {B:Type} {T:List Tok} {x:List UInt8} {i op:Nat} {k:Unit→Nat→Nat→OR B} {Q:B→Nat→Nat→Prop} (hk:op<100→Wh Q (k () (i+1) (op+1))):Wh Q (obind (some (sBegin T x i op)) k):=wh_any fun v i1 op1 h=>by
 injection h with h
 obtain ⟨rfl,rfl,h3,_⟩:=sBegin_ok h
 exact hk h3
theorem wh_end {B:Type} {T:List Tok} {x:List UInt8} {i op:Nat} {k:Unit→Nat→Nat→OR B} {Q:B→Nat→Nat→Prop} (hk:Wh Q (k () (i+1) (op-1))):Wh Q (obind (some (sEnd T x i op)) k):=wh_any fun v i1 op1 h=>by
 injection h with h
 obtain ⟨rfl,rfl,_⟩:=sEnd_ok h
 exact hk
theorem wh_need {B:Type} {T:List Tok} {x:List UInt8} {i op:Nat} {k:Unit→Nat→Nat→OR B} {Q:B→Nat→Nat→Prop} (hk:Wh Q (k () (i+1) op)):Wh Q (obind (some (sNeed T x i op)) k):=wh_any fun v i1 op1 h=>by
 obtain ⟨rfl,rfl⟩:=nd_need h
 exact hk
theorem word_again {T:List Tok} (hT:∀ t∈T,Again t) {i op i' op':Nat} {s:List UInt8} (h:sWord T 2 i op=.ok s i' op'):NameOk s∧i'=i+1∧op'=op:=by
 unfold sWord at h
 split at h
 ·rename_i t ht
  split at h
  ·rename_i hk
   cases h
   have:=hT t (List.mem_of_getElem? ht)
   refine ⟨?_,rfl,rfl⟩
   unfold NameOk
   unfold Again at this ⊢
   rw[hk] at this
   exact this
  ·cases h
 ·cases h
theorem wh_name {B:Type} {T:List Tok} (hT:∀ t∈T,Again t) {i op:Nat} {k:List UInt8→Nat→Nat→OR B} {Q:B→Nat→Nat→Prop} (hk:∀ s,NameOk s→Wh Q (k s (i+1) op)):Wh Q (obind (some (sWord T 2 i op)) k):=wh_any fun v i1 op1 h=>by
 injection h with h
 obtain ⟨h1,rfl,rfl⟩:=word_again hT h
 exact hk v h1
theorem numOf_lt (s:List UInt8):numOf s<4294967296:=by
 unfold numOf
 split
 ·rename_i u h
  exact pu32_lt h
 ·decide
theorem wh_number {B:Type} {T:List Tok} {i op:Nat} {k:Nat→Nat→Nat→OR B} {Q:B→Nat→Nat→Prop} (hk:∀ n,n<4294967296→Wh Q (k n (i+1) op)):Wh Q (obind (some (sNumber T i op)) k):=wh_any fun v i1 op1 h=>by
 injection h with h
 unfold sNumber Res.bind at h
 split at h
 ·rename_i h1
  cases h
  obtain ⟨rfl,rfl⟩:=nd_word (congrArg some h1)
  exact hk _ (numOf_lt _)
 ·cases h
theorem isTok_text {T:List Tok} {i:Nat} {xs:List (List UInt8)} (h:isTok T i xs=true):textAt T i∈xs:=by
 unfold isTok at h
 unfold textAt
 split at h
 ·rename_i t ht
  simp only[zBa] at h
  simpa using h.2
 ·cases h
def SE (k i op:Nat) (e:Ex) (i' op':Nat):Prop:=op'=op∧∃ ts d,PE e k ts d∧ts.length+i≤i'∧d≤100-op
def SX (i op:Nat) (e:Ex) (i' op':Nat):Prop:=op'=op∧∃ ts d,PE e 0 ts d∧ts.length+2+i≤i'∧d+1≤100-op
def SA (i op:Nat) (l:List Ex) (i' op':Nat):Prop:=op'=op∧∃ ts d,PEs l ts d∧ts.length+2+i≤i'∧d+1≤100-op
def SL (i op:Nat) (l:List Ex) (i' op':Nat):Prop:=op'=op∧∃ ts d,PEs l ts d∧ts.length+i≤i'∧d≤100-op
theorem ex_src {T:List Tok} (hT:∀ t∈T,Again t):∀ f:Nat,(∀ k i op,k≤6→Wh (SE k i op) (eLev T f k i op))∧(∀ k e i0 i op ts d,k<6→PE e (leftLv k) ts d→ts.length+i0≤i→d≤100-op→Wh (SE k i0 op) (eLoop T f k e i op)) ∧
  (∀ i op,Wh (SE 6 i op) (eUnary T f i op))∧(∀ i op,Wh (SE 6 i op) (ePrim T f i op))∧(∀ i op,Wh (SX i op) (eIndex T f i op))∧(∀ i op,Wh (SA i op) (eArgs T f i op)) ∧
  (∀ acc i0 i op ts d,PEs acc ts d→ts.length+i0≤i→d≤100-op→Wh (SL i0 op) (eArgsLoop T f acc i op))
 |0=>⟨fun _ _ _ _=>by rw[eLev];exact wh_none,fun _ _ _ _ _ _ _ _ _ _ _=>by rw[eLoop];exact wh_none,fun _ _=>by rw[eUnary];exact wh_none,fun _ _=>by rw[ePrim];exact wh_none,fun _ _=>by rw[eIndex];exact wh_none,fun _ _=>by rw[eArgs];exact wh_none,fun _ _ _ _ _ _ _ _ _=>by rw[eArgsLoop];exact wh_none⟩
 |f+1=>by
  obtain ⟨hL,hO,hU,hP,hI,hA,hB⟩:=ex_src hT f
  refine ⟨fun k i op hk=>?_,fun k e i0 i op ts d hk hP0 hts hd=>?_,fun i op=>?_,fun i op=>?_,fun i op=>?_,fun i op=>?_,fun acc i0 i op ts d hP0 hts hd=>?_⟩
  ·rw[eLev]
   split
   ·rename_i h6
    subst h6
    exact hU i op
   ·refine wh_bind (hL (k+1) i op (by omega)) fun v i' op' h=>?_
    obtain ⟨rfl,ts,d,h1,h2,h3⟩:=h
    obtain ⟨ts',d',g1,g2,g3⟩:=h1.weak (k':=leftLv k) (by unfold leftLv;split <;> omega)
    exact hO k v i i' _ ts' d' (by omega) g1 (by omega) (by omega)
  ·rw[eLoop]
   split
   ·rename_i ht
    refine wh_bind (hL (k+1) (i+1) op (by omega)) fun v i' op' h=>?_
    obtain ⟨rfl,t2,d2,h1,h2,h3⟩:=h
    have hb:PE (.mk (textAt T i) 0 [] [e,v]) k (ts++(4,textAt T i)::t2) (max d d2):=.bin hk (isTok_text ht) (zNr _) hP0 h1
    split
    ·exact wh_ok ⟨rfl,_,_,hb,by simp only[zLa,zLc];omega,by omega⟩
    ·rename_i h22
     refine hO k _ i0 i' _ _ _ hk (by rw[leftLv,if_neg h22];exact hb) (by simp only[zLa,zLc];omega) (by omega)
   ·obtain ⟨ts',d',g1,g2,g3⟩:=hP0.weak (k':=k) (by unfold leftLv;split <;> omega)
    exact wh_ok ⟨rfl,ts',d',g1,by omega,by omega⟩
  ·rw[eUnary]
   split
   ·refine wh_begin fun ho=>wh_bind (hU (i+1) (op+1)) fun v i' op' h=>?_
    obtain ⟨rfl,ts,d,h1,h2,h3⟩:=h
    exact wh_ok ⟨by omega,_,_,.neg h1,by simp only[zLc];omega,by omega⟩
   ·split
    ·refine wh_begin fun ho=>wh_bind (hU (i+1) (op+1)) fun v i' op' h=>?_
     obtain ⟨rfl,ts,d,h1,h2,h3⟩:=h
     exact wh_ok ⟨by omega,_,_,.not h1,by simp only[zLc];omega,by omega⟩
    ·exact hP i op
  ·rw[ePrim]
   split
   ·refine wh_begin fun ho=>wh_bind (hL 0 (i+1) (op+1) (by omega)) fun v i' op' h=>wh_end ?_
    obtain ⟨rfl,ts,d,h1,h2,h3⟩:=h
    obtain ⟨ts',d',g1,g2,g3⟩:=h1.paren
    exact wh_ok ⟨by omega,ts',d',g1,by omega,by omega⟩
   ·split
    ·exact wh_number fun n hn=>wh_ok ⟨rfl,_,_,.num hn,by simp only[zLc,zLn];omega,by omega⟩
    ·refine wh_name hT fun s hs=>?_
     split
     ·refine wh_bind (hI (i+1) op) fun v i' op' h=>?_
      obtain ⟨rfl,ts,d,h1,h2,h3⟩:=h
      exact wh_ok ⟨rfl,_,_,.elem hs h1,by simp only[zLc,zLa,zLn];omega,by omega⟩
     ·split
      ·refine wh_bind (hA (i+1) op) fun v i' op' h=>?_
       obtain ⟨rfl,ts,d,h1,h2,h3⟩:=h
       exact wh_ok ⟨rfl,_,_,.call hs h1,by simp only[zLc,zLa,zLn];omega,by omega⟩
      ·exact wh_ok ⟨rfl,_,_,.var hs,by simp only[zLc,zLn];omega,by omega⟩
  ·rw[eIndex]
   refine wh_begin fun ho=>wh_bind (hL 0 (i+1) (op+1) (by omega)) fun v i' op' h=>wh_end ?_
   obtain ⟨rfl,ts,d,h1,h2,h3⟩:=h
   exact wh_ok ⟨by omega,ts,d,h1,by omega,by omega⟩
  ·rw[eArgs]
   refine wh_begin fun ho=>wh_bind (hB [] (i+1) (i+1) (op+1) [] 0 .nil (by simp) (by omega)) fun v i' op' h=>wh_end ?_
   obtain ⟨rfl,ts,d,h1,h2,h3⟩:=h
   exact wh_ok ⟨by omega,ts,d,h1,by omega,by omega⟩
  ·rw[eArgsLoop]
   split
   ·exact wh_ok ⟨rfl,ts,d,hP0,by omega,by omega⟩
   ·refine wh_any fun _ i1 op1 h1=>?_
    have hi:i1=i+(if acc=[] then 0 else 1)∧op1=op:=by
     injection h1 with h1
     split at h1
     ·rename_i ha
      cases h1
      rw[if_pos ha]
      exact ⟨rfl,rfl⟩
     ·rename_i ha
      rw[if_neg ha]
      exact nd_need (congrArg some h1)
    obtain ⟨rfl,rfl⟩:=hi
    refine wh_bind (hL 0 _ op1 (by omega)) fun v i' op' h=>?_
    obtain ⟨rfl,t2,d2,h1,h2,h3⟩:=h
    obtain ⟨t,g1,g2⟩:=hP0.snoc h1
    exact hB _ i0 i' _ t _ g1 (by omega) (by omega)
/-! ### Statements -/
mutual
inductive PS:Sm→List KT→Nat→Prop
 |assign {s:List UInt8} {e:Ex} {ts:List KT} {d:Nat} (h:NameOk s) (he:PE e 0 ts d):PS (.mk 1 s [] [e] [] []) ((2,s)::sg 61::(ts++[sg 59])) d
 |store {s:List UInt8} {x e:Ex} {t1 t2:List KT} {d1 d2:Nat} (h:NameOk s) (hx:PE x 0 t1 d1) (he:PE e 0 t2 d2):PS (.mk 2 s [x] [e] [] []) ((2,s)::sg 91::(t1++sg 93::sg 61::(t2++[sg 59]))) (max (d1+1) d2)
 |call {s:List UInt8} {l:List Ex} {ts:List KT} {d:Nat} (h:NameOk s) (hl:PEs l ts d):PS (.mk 6 [] [] [.mk nCall 0 s l] [] []) ((2,s)::sg 40::(ts++[sg 41,sg 59])) (d+1)
 |ret {e:Ex} {ts:List KT} {d:Nat} (he:PE e 0 ts d):PS (.mk 5 [] [] [e] [] []) ((3,kwReturn)::(ts++[sg 59])) d
 |halt:PS (.mk 7 [] [] [] [] []) [(3,kwHalt),sg 59] 0
 |ifElse {e:Ex} {th el:List Sm} {ts t1 t2:List KT} {d d1 d2:Nat} (he:PE e 0 ts d) (h1:PSs th t1 d1) (h2:PSs el t2 d2) (hne:el≠[]) :
   PS (.mk 3 [] [] [e] th el) ((3,kwIf)::(ts++sg 123::(t1++sg 125::(3,kwElse)::sg 123::(t2++[sg 125])))) (max d (max (d1+1) (d2+1)))
 |ifThen {e:Ex} {th:List Sm} {ts t1:List KT} {d d1:Nat} (he:PE e 0 ts d) (h1:PSs th t1 d1):PS (.mk 3 [] [] [e] th []) ((3,kwIf)::(ts++sg 123::(t1++[sg 125]))) (max d (d1+1))
 |while {e:Ex} {th:List Sm} {ts t1:List KT} {d d1:Nat} (he:PE e 0 ts d) (h1:PSs th t1 d1):PS (.mk 4 [] [] [e] th []) ((3,kwWhile)::(ts++sg 123::(t1++[sg 125]))) (max d (d1+1))
inductive PSs:List Sm→List KT→Nat→Prop
 |nil:PSs [] [] 0
 |cons {s:Sm} {l:List Sm} {t1 t2:List KT} {d1 d2:Nat} (h:PS s t1 d1) (hl:PSs l t2 d2):PSs (s::l) (t1++t2) (max d1 d2)
end
theorem PSs.snoc:∀ {l:List Sm} {a:Sm} {t0 t1:List KT} {d0 d1:Nat},PSs l t0 d0→PS a t1 d1→PSs (l++[a]) (t0++t1) (max d0 d1):=by
 intro l
 induction l with
 |nil=>
  intro a t0 t1 d0 d1 h h1
  cases h with
  |nil=>
   have:=PSs.cons h1 .nil
   rw[zLz,Nat.max_zero] at this
   rw[Nat.zero_max]
   exact this
 |cons b l ih=>
  intro a t0 t1 d0 d1 h h1
  cases h with
  |cons hb hl=>
   rw[zAs,Nat.max_assoc]
   exact .cons hb (ih hl h1)
def SS (i op:Nat) (s:Sm) (i' op':Nat):Prop:=op'=op∧∃ ts d,PS s ts d∧ts.length+i≤i'∧d≤100-op
def SM (i op:Nat) (s:Sm) (i' op':Nat):Prop:=op'=op∧∃ ts d,PS s ts d∧ts.length+i≤i'+1∧d≤100-op
def SSs (i op:Nat) (s:List Sm) (i' op':Nat):Prop:=op'=op∧∃ ts d,PSs s ts d∧ts.length+i≤i'∧d≤100-op
def SB (i op:Nat) (s:List Sm) (i' op':Nat):Prop:=op'=op∧∃ ts d,PSs s ts d∧ts.length+2+i≤i'∧d+1≤100-op
theorem st_src {T:List Tok} (hT:∀ t∈T,Again t):∀ f:Nat,(∀ i op,Wh (SB i op) (sBlock T f i op))∧(∀ acc i0 i op ts d,PSs acc ts d→ts.length+i0≤i→d≤100-op→Wh (SSs i0 op) (sStmts T f acc i op)) ∧
  (∀ i op,Wh (SS i op) (sStmt T f i op))∧(∀ i op,Wh (SM i op) (sSimple T f i op))
 |0=>⟨fun _ _=>by rw[sBlock];exact wh_none,fun _ _ _ _ _ _ _ _ _=>by rw[sStmts];exact wh_none,fun _ _=>by rw[sStmt];exact wh_none,fun _ _=>by rw[sSimple];exact wh_none⟩
 |f+1=>by
  obtain ⟨hB,hL,hS,hM⟩:=st_src hT f
  obtain ⟨eL,_,_,_,eI,eA,_⟩:=ex_src hT f
  refine ⟨fun i op=>?_,fun acc i0 i op ts d hP0 hts hd=>?_,fun i op=>?_,fun i op=>?_⟩
  ·rw[sBlock]
   refine wh_begin fun ho=>wh_bind (hL [] (i+1) (i+1) (op+1) [] 0 .nil (by simp) (by omega)) fun v i' op' h=>wh_end ?_
   obtain ⟨rfl,ts,d,h1,h2,h3⟩:=h
   exact wh_ok ⟨by omega,ts,d,h1,by omega,by omega⟩
  ·rw[sStmts]
   split
   ·exact wh_ok ⟨rfl,ts,d,hP0,hts,hd⟩
   ·refine wh_bind (hS i op) fun v i' op' h=>?_
    obtain ⟨rfl,t2,d2,h1,h2,h3⟩:=h
    exact hL _ i0 i' _ _ _ (hP0.snoc h1) (by simp only[zLa];omega) (by omega)
  ·rw[sStmt]
   split
   ·refine wh_bind (eL 0 (i+1) op (by omega)) fun v i1 op1 h=>?_
    obtain ⟨rfl,t1,d1,g1,g2,g3⟩:=h
    refine wh_bind (hB i1 _) fun th i2 op2 h=>?_
    obtain ⟨rfl,t2,d2,k1,k2,k3⟩:=h
    split
    ·refine wh_bind (hB (i2+1) _) fun el i3 op3 h=>?_
     obtain ⟨rfl,t3,d3,l1,l2,l3⟩:=h
     by_cases hne:el=[]
     ·subst hne
      exact wh_ok ⟨rfl,_,_,.ifThen g1 k1,by simp only[zLc,zLa,zLn];omega,by omega⟩
     ·exact wh_ok ⟨rfl,_,_,.ifElse g1 k1 l1 hne,by simp only[zLc,zLa,zLn];omega,by omega⟩
    ·exact wh_ok ⟨rfl,_,_,.ifThen g1 k1,by simp only[zLc,zLa,zLn];omega,by omega⟩
   ·split
    ·refine wh_bind (eL 0 (i+1) op (by omega)) fun v i1 op1 h=>?_
     obtain ⟨rfl,t1,d1,g1,g2,g3⟩:=h
     refine wh_bind (hB i1 _) fun th i2 op2 h=>?_
     obtain ⟨rfl,t2,d2,k1,k2,k3⟩:=h
     exact wh_ok ⟨rfl,_,_,.while g1 k1,by simp only[zLc,zLa,zLn];omega,by omega⟩
    ·refine wh_bind (hM i op) fun v i1 op1 h=>wh_need ?_
     obtain ⟨rfl,t1,d1,g1,g2,g3⟩:=h
     exact wh_ok ⟨rfl,_,_,g1,by omega,by omega⟩
  ·rw[sSimple]
   split
   ·refine wh_bind (eL 0 (i+1) op (by omega)) fun v i1 op1 h=>?_
    obtain ⟨rfl,t1,d1,g1,g2,g3⟩:=h
    exact wh_ok ⟨rfl,_,_,.ret g1,by simp only[zLc,zLa,zLn];omega,by omega⟩
   ·split
    ·exact wh_ok ⟨rfl,_,_,.halt,by simp only[zLc,zLa,zLn];omega,by omega⟩
    ·refine wh_name hT fun s hs=>?_
     split
     ·refine wh_bind (eA (i+1) op) fun v i1 op1 h=>?_
      obtain ⟨rfl,t1,d1,g1,g2,g3⟩:=h
      exact wh_ok ⟨rfl,_,_,.call hs g1,by simp only[zLc,zLa,zLn];omega,by omega⟩
     ·split
      ·refine wh_bind (eI (i+1) op) fun v i1 op1 h=>wh_need ?_
       obtain ⟨rfl,t1,d1,g1,g2,g3⟩:=h
       refine wh_bind (eL 0 (i1+1) _ (by omega)) fun e i2 op2 h=>?_
       obtain ⟨rfl,t2,d2,k1,k2,k3⟩:=h
       exact wh_ok ⟨rfl,_,_,.store hs g1 k1,by simp only[zLc,zLa,zLn];omega,by omega⟩
      ·refine wh_need (wh_bind (eL 0 (i+1+1) op (by omega)) fun e i2 op2 h=>?_)
       obtain ⟨rfl,t2,d2,k1,k2,k3⟩:=h
       exact wh_ok ⟨rfl,_,_,.assign hs k1,by simp only[zLc,zLa,zLn];omega,by omega⟩
/-! ### Declarations -/
def commas:List (List UInt8)→List KT
 |[]=>[]
 |[a]=>[(2,a)]
 |a::b::l=>(2,a)::sg 44::commas (b::l)
theorem commas_len:∀ l:List (List UInt8),(commas l).length=2 * l.length-1
 |[]=>rfl
 |[a]=>rfl
 |a::b::l=>by
  rw[commas,zLc,zLc,commas_len (b::l)]
  simp only[zLc]
  omega
def varK (l:List (List UInt8)):List KT:=if l=[] then [] else (3,kwVar)::(commas l++[sg 59])
theorem varK_len (l:List (List UInt8)):(varK l).length=if l=[] then 0 else 2 * l.length+1:=by
 unfold varK
 split
 ·rfl
 ·rename_i h
  have:0<l.length:=List.length_pos_iff.2 h
  simp only[zLc,zLa,commas_len,zLn]
  omega
def AllOk (l:List (List UInt8)):Prop:=∀ x∈l,NameOk x
theorem AllOk.app {a b:List (List UInt8)} (ha:AllOk a) (hb:AllOk b):AllOk (a++b):=fun x hx=>by
 rcases List.mem_append.1 hx with h|h
 ·exact ha x h
 ·exact hb x h
inductive PF:FnD→List KT→Nat→Prop
 |mk {nm:List UInt8} {ps ls:List (List UInt8)} {b:List Sm} {ts:List KT} {d:Nat} (h:NameOk nm) (hp:AllOk ps) (hl:AllOk ls) (hb:PSs b ts d) :
   PF ⟨nm,ps,ls,b⟩ ((3,kwFunc)::(2,nm)::sg 40::(commas ps++sg 41::sg 123::(varK ls++(ts++[sg 125])))) (d+1)
inductive PFs:List FnD→List KT→Prop
 |nil:PFs [] []
 |cons {f:FnD} {l:List FnD} {t1 t2:List KT} {d:Nat} (h:PF f t1 d) (hd:d≤100) (hl:PFs l t2):PFs (f::l) (t1++t2)
def arK (a:Ar):List KT:=[(3,kwArray),(2,a.name),sg 91,(1,Go.Lib.decDigits a.size),sg 93,sg 59]
def ArsOk (l:List Ar):Prop:=∀ a∈l,NameOk a.name∧a.size<4294967296
inductive PP:Pr→List KT→Prop
 |mk {v:List (List UInt8)} {a:List Ar} {f:List FnD} {ts:List KT} (hv:AllOk v) (ha:ArsOk a) (hf:PFs f ts):PP ⟨v,a,f⟩ (varK v++((a.map arK).flatten++ts))
theorem PFs.snoc:∀ {l:List FnD} {a:FnD} {t0 t1:List KT} {d:Nat},PFs l t0→PF a t1 d→d≤100→PFs (l++[a]) (t0++t1):=by
 intro l
 induction l with
 |nil=>
  intro a t0 t1 d h h1 hd
  cases h with
  |nil=>
   have:=PFs.cons h1 hd .nil
   rw[zLz] at this
   exact this
 |cons b l ih=>
  intro a t0 t1 d h h1 hd
  cases h with
  |cons hb hd' hl=>
   rw[zAs]
   exact .cons hb hd' (ih hl h1 hd)
theorem namesLoop_src {T:List Tok} (hT:∀ t∈T,Again t):∀ (f:Nat) (acc:List (List UInt8)) (i op:Nat),AllOk acc→Wh (fun l i' op'=>op'=op∧AllOk l∧acc.length≤l.length∧2 * l.length+i≤2 * acc.length+i') (sNamesLoop T f acc i op)
 |0,_,_,_,_=>by rw[sNamesLoop];exact wh_none
 |f+1,acc,i,op,ha=>by
  rw[sNamesLoop]
  split
  ·refine wh_name hT fun s hs=>wh_mono (namesLoop_src hT f (acc++[s]) (i+1+1) op (ha.app fun x hx=>by cases List.mem_singleton.1 hx;exact hs)) fun l i' op' h=>?_
   obtain ⟨rfl,h1,h2,h3⟩:=h
   rw[zLa,List.length_singleton] at h2 h3
   exact ⟨rfl,h1,by omega,by omega⟩
  ·exact wh_ok ⟨rfl,ha,zNr _,by omega⟩
theorem names_src {T:List Tok} (hT:∀ t∈T,Again t) (f i op:Nat):Wh (fun l i' op'=>op'=op∧AllOk l∧0<l.length∧2 * l.length+i≤1+i') (sNames T f i op):=
 wh_name hT fun s hs=>wh_mono (namesLoop_src hT f [s] (i+1) op fun x hx=>by cases List.mem_singleton.1 hx;exact hs) fun l i' op' h=>by
  obtain ⟨rfl,h1,h2,h3⟩:=h
  rw[List.length_singleton] at h2 h3
  exact ⟨rfl,h1,by omega,by omega⟩
theorem vars_src {T:List Tok} (hT:∀ t∈T,Again t):∀ (f:Nat) (acc:List (List UInt8)) (i op:Nat),AllOk acc→Wh (fun l i' op'=>op'=op∧AllOk l∧acc.length≤l.length∧(if acc.length=l.length then i≤i' else 2 * l.length+1+i≤2 * acc.length+i')) (sVars T f acc i op)
 |0,_,_,_,_=>by rw[sVars];exact wh_none
 |f+1,acc,i,op,ha=>by
  rw[sVars]
  split
  ·refine wh_bind (names_src hT f (i+1) op) fun l i1 op1 h=>wh_need ?_
   obtain ⟨rfl,h1,h2,h3⟩:=h
   refine wh_mono (vars_src hT f (acc++l) (i1+1) _ (ha.app h1)) fun l2 i' op' h=>?_
   obtain ⟨rfl,g1,g2,g3⟩:=h
   rw[zLa] at g2 g3
   refine ⟨rfl,g1,by omega,?_⟩
   rw[if_neg (by omega)]
   split at g3 <;> omega
  ·exact wh_ok ⟨rfl,ha,zNr _,by rw[if_pos rfl];omega⟩
theorem func_src {T:List Tok} (hT:∀ t∈T,Again t) (f i:Nat):Wh (fun a i' op'=>op'=0∧∃ ts d,PF a ts d∧d≤100∧ts.length+i≤i'+1) (sFunc T f i 0):=by
 unfold sFunc
 refine wh_name hT fun nm hnm=>wh_begin fun _=>wh_bind (P:=fun ps i' op'=>op'=1∧AllOk ps∧2 * ps.length-1+(i+1+1)≤i') ?_ fun ps i1 op1 h=>wh_end (wh_begin fun _=>?_)
 ·split
  ·exact wh_ok ⟨rfl,(fun x hx=>by cases hx),by simp⟩
  ·exact wh_mono (names_src hT f _ _) fun l i' op' h=>⟨h.1,h.2.1,by omega⟩
 obtain ⟨rfl,h1,h2⟩:=h
 refine wh_bind (vars_src hT f [] _ _ fun x hx=>by cases hx) fun ls i2 op2 h=>?_
 obtain ⟨rfl,g1,_,g3⟩:=h
 refine wh_bind ((st_src hT f).2.1 [] i2 i2 _ [] 0 .nil (by simp) (by omega)) fun b i3 op3 h=>wh_end ?_
 obtain ⟨rfl,ts,d,k1,k2,k3⟩:=h
 refine wh_ok ⟨by omega,_,_,.mk hnm h1 g1 k1,by omega,?_⟩
 simp only[zLc,zLa,zLn,commas_len,varK_len] at g3 ⊢
 by_cases hl:ls=[]
 ·subst hl
  simp only[zLn,if_pos] at g3 ⊢
  omega
 ·have:¬ 0=ls.length:=fun h=>hl (List.eq_nil_of_length_eq_zero h.symm)
  rw[if_neg this] at g3
  rw[if_neg hl]
  omega
theorem array_src {T:List Tok} (hT:∀ t∈T,Again t) (i:Nat):Wh (fun a i' op'=>op'=0∧NameOk a.name∧a.size<4294967296∧5+i≤i') (sArray T i 0):=by
 unfold sArray
 exact wh_name hT fun nm hnm=>wh_begin fun _=>wh_number fun n hn=>wh_end (wh_need (wh_ok ⟨rfl,hnm,hn,by omega⟩))
def ntK (v:Nat) (a:Nat) (t:Nat):Nat:=(if v=0 then 0 else 2 * v+1)+6 * a+t
theorem prog_src {T:List Tok} (hT:∀ t∈T,Again t):∀ (f:Nat) (v:List (List UInt8)) (a:List Ar) (fs:List FnD) (ts:List KT) (i:Nat),AllOk v→ArsOk a→PFs fs ts→ntK v.length a.length ts.length≤i→i≤T.length →
  Wh (fun q _ _=>∃ v' a' f' t',q=⟨v',a',f'⟩∧AllOk v'∧ArsOk a'∧PFs f' t'∧ntK v'.length a'.length t'.length≤T.length) (sProg T f ⟨v,a,fs⟩ i 0)
 |0,_,_,_,_,_,_,_,_,_,_=>by rw[sProg];exact wh_none
 |f+1,v,a,fs,ts,i,hv,ha,hf,hi,hT'=>by
  rw[sProg]
  split
  ·exact wh_ok ⟨_,_,_,_,rfl,hv,ha,hf,by omega⟩
  rename_i hlt
  split
  ·rename_i hw
   refine wh_any fun l i1 op1 h1=>?_
   have hg:=(sVars_good T f [] i 0 _ h1).2.2.1 hT'
   obtain ⟨rfl,g1,_,g3⟩:=vars_src hT f [] i 0 (fun x hx=>by cases hx) _ _ _ h1
   refine prog_src hT f (v++l) a fs ts i1 (hv.app g1) ha hf ?_ hg
   rw[zLa]
   simp only[zLn] at g3
   unfold ntK at hi ⊢
   split at g3
   ·rename_i h0
    rw[←h0,Nat.add_zero]
    omega
   ·rw[if_neg (by omega)]
    split at hi <;> omega
  ·split
   ·refine wh_any fun l i1 op1 h1=>?_
    have hg:=(sArray_good T (i+1) 0 _ h1).2.2.1 (by omega)
    obtain ⟨rfl,g1,g2,g3⟩:=array_src hT (i+1) _ _ _ h1
    refine prog_src hT f v (a++[l]) fs ts i1 hv (fun x hx=>?_) hf ?_ hg
    ·rcases List.mem_append.1 hx with h|h
     ·exact ha x h
     ·cases List.mem_singleton.1 h;exact ⟨g1,g2⟩
    ·rw[zLa,List.length_singleton]
     unfold ntK at hi ⊢
     omega
   ·split
    ·refine wh_any fun l i1 op1 h1=>?_
     have hg:=(sFunc_good T f (i+1) 0 _ h1).2.2.1 (by omega)
     obtain ⟨rfl,t1,d,g1,g2,g3⟩:=func_src hT f (i+1) _ _ _ h1
     refine prog_src hT f v a (fs++[l]) (ts++t1) i1 hv ha (hf.snoc g1 g2) ?_ hg
     rw[zLa]
     unfold ntK at hi ⊢
     omega
    ·exact fun _ _ _ e=>by cases e
theorem arK_len:∀ a:List Ar,((a.map arK).flatten).length=6 * a.length
 |[]=>rfl
 |a::l=>by
  rw[zMc,List.flatten_cons,zLa,arK_len l,zLc]
  simp only[arK,zLc,zLn]
  omega
theorem src_print {T:List Tok} (hT:∀ t∈T,Again t) {f i op:Nat} {p:Pr} (h:sProg T f ⟨[],[],[]⟩ 0 0=some (.ok p i op)):∃ ts,PP p ts∧ts.length≤T.length:=by
 obtain ⟨v,a,fs,t,rfl,h1,h2,h3,h4⟩:=prog_src hT f [] [] [] [] 0 (fun x hx=>by cases hx) (fun x hx=>by cases hx) .nil (by simp[ntK]) (Nat.zero_le _) _ _ _ h
 refine ⟨_,.mk h1 h2 h3,?_⟩
 simp only[zLa,varK_len,arK_len]
 unfold ntK at h4
 by_cases hv:v=[]
 ·subst hv
  simp only[zLn,if_pos] at h4 ⊢
  omega
 ·have:¬ v.length=0:=fun h=>hv (List.eq_nil_of_length_eq_zero h)
  rw[if_neg this] at h4
  rw[if_neg hv]
  omega
end Go.Stele
