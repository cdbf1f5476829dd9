/- Texts joined: InpValid, CmpLab, AsmD, GlArith, GlRows, GlPart, InpOut, InpShort, InpSmall, InpY1, InpW1, InpW2, InpW3, InpW4, InpW5, InpW6, InpW7. -/
import Derived.StillTail
import Derived.KernelRfl
import Derived.Deep.WholeRow
import Derived.Test.YtdakelgkjdaijaaGreatDoorBRowTS3
import Derived.Test.YtdakelgkjdaijaaGreatDoorBRowTS4
import Derived.Test.YtdakelgkjdaijaaGreatDoorBRowTS5
import Derived.Test.YtdakelgkjdaijaaGreatDoorBRowTS6
import Derived.Test.YtdakelgkjdaijaaGreatDoorBRowTS7
set_option linter.unusedVariables false
set_option linter.unusedSimpArgs false
set_option maxRecDepth 100000
set_option maxHeartbeats 4000000
namespace Go.Stele
def qh8 (fs:List FnD) (known:List FSum):Prop:=∀ k∈known,∃ g∈fs,g.name=k.name/\g.params.length=k.params
theorem qkp {vars arrays later:List Nm} {all:List FnD}:∀ (fs:List FnD) (known:List FSum),qf5 vars arrays later known fs=0->qh8 all known->(∀ f∈fs,f∈all)->∀ f∈fs,∃ kn,qcr (envF vars arrays later kn f) f.body=0/\qh8 all kn
 |[],known,_,_,_,f,hf=>(List.not_mem_nil hf).elim
 |g::l,known,h,hk,ha,f,hf=>by
  rw[qf5] at h;obtain ⟨h1,h2⟩:=qap.1 h;rcases zMi.1 hf with rfl|hf
  ·exact ⟨known,(qap.1 h1).2,hk⟩
  ·refine qkp l _ h2 (fun k hk'=>?_) (fun x hx=>ha x (zMo _ hx)) f hf;rcases List.mem_append.1 hk' with g1|g1
   ·exact hk k g1
   ·rw[List.mem_singleton.1 g1];exact ⟨g,ha g zMs,rfl,rfl⟩
theorem qiI:∀ (l:List Int) (t:Int),0<=t->qg9 t l=0->∀ n∈l,0<n/\t+n<=150000
 |[],t,_,_,n,hn=>(List.not_mem_nil hn).elim
 |a::l,t,ht,h,n,hn=>by
  rw[qg9] at h;split at h
  ·cases h
  split at h
  ·cases h
  rcases zMi.1 hn with rfl|hn
  ·constructor <;> omega
  ·have:=qiI l (t+a) (by omega) h n hn;constructor <;> omega
structure Valid (p:Pr):Prop where
 names:qb1 [] (p.vars++p.arrays.map (·.name)++p.funcs.map (·.name))=0
 sizes:∀ a∈p.arrays,0<a.size/\a.size<=150000
 own:∀ f∈p.funcs,(f.params++f.locals).Nodup/\∀ x∈f.params++f.locals,x ∉ p.vars++p.arrays.map (·.name)++p.funcs.map (·.name)
 bodies:∀ f∈p.funcs,∃ kn,qcr (envF p.vars (p.arrays.map (·.name)) (p.funcs.map (·.name)) kn f) f.body=0/\qh8 p.funcs kn
 keys:(qan p.vars p.funcs).Nodup
 main:qcG p∈p.funcs/\(qcG p).name=[109,97,105,110]/\(qcG p).params=[]
 few:(qan p.vars p.funcs).length<=8000
theorem qkL {p:Pr} (h:qbI p=0):Valid p:=by
 unfold qbI qc2 at h;have e1:(p.arrays.map fun a=>(a.name,(a.size:Int))).map (·.1)=p.arrays.map (·.name):=by rw[List.map_map];try rfl
 rw[e1] at h;obtain ⟨h1,h⟩:=qap.1 h;obtain ⟨h2,h⟩:=qap.1 h;obtain ⟨h3,h4⟩:=qap.1 h
 have hm:qcG p∈p.funcs/\(qcG p).name=[109,97,105,110]/\(qcG p).params=[]/\(qan p.vars p.funcs).length<=8000:=by
  unfold qti at h4;split at h4
  ·rename_i f m hf hms
   split at h4
   ·rename_i h5
    split at h4
    ·rename_i h6
     have e:qcG p=f:=by unfold qcG;rw[hf];try rfl
     rw[e];exact ⟨List.mem_of_getLast? hf,h5.1,h5.2,h6.1⟩
    ·cases h4
   ·cases h4
  ·cases h4
 refine ⟨h1,fun a ha=>?_,qjf _ _ h3,qkp _ _ h3 (fun k hk=>(List.not_mem_nil hk).elim) (fun f hf=>hf),qpo h1 h3,⟨hm.1,hm.2.1,hm.2.2.1⟩,hm.2.2.2⟩
 have:=qiI _ 0 zDd h2 (a.size:Int) (by
  rw[List.map_map]
  exact List.mem_map.2 ⟨a,ha,rfl⟩)
 constructor <;> omega
theorem qpM {p:Pr} {f:FnD} {kn:List FSum} (hv:Valid p) (hk:qh8 p.funcs kn) {name:Nm} {n:Nat} (h:callE (envF p.vars (p.arrays.map (·.name)) (p.funcs.map (·.name)) kn f) name n=0) (h1:name≠[105,110]) (h2:name≠[111,117,116]):fnI p name∈p.funcs/\(fnI p name).name=name/\(fnI p name).params.length=n:=by
 unfold callE at h;rw[if_neg h1,if_neg h2] at h;unfold CEnv.fn at h;rw[show (envF p.vars (p.arrays.map (·.name)) (p.funcs.map (·.name)) kn f).funcs=kn from rfl] at h
 cases hf:kn.find? fun f=>decide (f.name=name) with
 |none=>
  rw[hf] at h;simp only at h
  split at h <;> cases h
 |some k=>
  rw[hf] at h;simp only at h;split at h
  ·rename_i hn
   obtain ⟨g,g1,g2,g3⟩:=hk k (List.mem_of_find?_eq_some hf);have hkn:k.name=name:=of_decide_eq_true (List.find?_some (p:=fun g:FSum=>decide (g.name=name)) hf);have e:=qvS (P:=p) (List.nodup_append.1 (qa6 _ _ hv.names).1).2.1 g1;rw[g2,hkn] at e;rw[e];exact ⟨g1,g2.trans hkn,by rw[g3,hn]⟩
  ·cases h
end Go.Stele
namespace Go.Stele
open Go.Lib
theorem qiw (all:List Wd):∀ (l:List (Wd×Nat)) (met:List Wd),(errT all met l).2=0->met.Nodup->(met++defs (l.map (·.1))).Nodup/\∀ w∈l.map (·.1),OkW all w
 |[],met,_,hm=>by
  simp only[List.map_nil,defs,List.filterMap_nil,zLz]
  exact ⟨hm,fun w hw=>(List.not_mem_nil hw).elim⟩
 |(w,ln)::r,met,h,hm=>by
  rw[errT] at h;rw[zMc,qiB]
  cases hd:defW w with
  |some x=>
   rw[hd] at h;simp only at h ⊢;split at h
   ·simp at h
   ·rename_i hx
    have hn:(met++[x]).Nodup:=List.nodup_append.2 ⟨hm,by simp,fun a ha b hb=>by
     rw[List.mem_singleton.1 hb]
     exact fun e=>hx (e▸ha)⟩
    obtain ⟨h1,h2⟩:=qiw all r (met++[x]) h hn;refine ⟨by rw[zAs] at h1;exact h1,fun y hy=>?_⟩;rcases zMi.1 hy with rfl|hy
    ·unfold OkW;rw[hd];trivial
    ·exact h2 y hy
  |none=>
   rw[hd] at h;simp only at h ⊢
   have key:OkW all w/\(errT all met r).2=0:=by
    unfold OkW;rw[hd]
    cases hr:refW w with
    |some x=>
     rw[hr] at h;simp only at h ⊢;split at h
     ·rename_i hx;exact ⟨hx,h⟩
     ·simp at h
    |none=>
     rw[hr] at h;simp only at h ⊢;split at h
     ·rename_i hx;exact ⟨hx,h⟩
     ·simp at h
   obtain ⟨h1,h2⟩:=qiw all r met key.2 hm;refine ⟨by simpa using h1,fun y hy=>?_⟩;rcases zMi.1 hy with rfl|hy
   ·exact key.1
   ·exact h2 y hy
theorem qwP {src:Wd} (h:(errT (defs (qbU src)) [] (qgp src)).2=0):AsmOk (qbU src):=by
 have:=qiw _ _ _ h List.nodup_nil;rw[qfJ,List.nil_append] at this;exact this
/-! ### Labels that the assembler took -/
end Go.Stele
namespace Go.Proofs.YtdakelgkjdaijaaGreatDoor.Asm
open Go.GL Go.RowKit Go.Stele
theorem qly:∀ (l:List Wd) (d:Bool),lenW d l<=3 * tot l
 |[],d=>Nat.zero_le _
 |w::r,d=>by
  have h1:=qqi d;have h2:=qqi (d && qdw w);rw[lenW,qaO]
  cases defW w with
  |some l=>have:=qly r d;simp only;omega
  |none=>
   cases hr:refW w with
   |some l=>
    have:=qly r true
    have hlen:2<=w.length:=by
     unfold refW at hr;split at hr
     ·cases hr
     ·rename_i c q
      split at hr
      ·rename_i hc
       have:=List.length_pos_iff.2 (qtw hc.2);simp only[zLc];omega
      ·cases hr
    simp only
    omega
   |none=>have:=qly r (qdC w);simp only;omega
theorem qqo (kn:Wd->Nat) (og M:Nat):∀ (l:List Wd) (s:Wd×List (Wd×Nat)),(∀ w∈l,w≠[])->((l.foldl (qbL kn og) s).1).length<=M->(∀ p∈s.2,p.2<=og+M)->∀ p∈(l.foldl (qbL kn og) s).2,p.2<=og+M
 |[],s,_,_,h=>h
 |w::r,s,hw,hM,h=>by
  rw[List.foldl_cons] at hM ⊢;refine qqo kn og M r _ (fun x hx=>hw x (zMo w hx)) hM ?_;have h1:=qne kn og r (qbL kn og s w).1 (qbL kn og s w).2 (fun x hx=>hw x (zMo w hx));intro p hp;unfold qbL at hp h1 hM
  cases hd:defW w with
  |none=>
   rw[hd] at hp
   exact h p hp
  |some x=>
   rw[hd] at hp h1 hM;simp only at hp h1 hM;rcases List.mem_append.1 hp with hp|hp
   ·exact h p hp
   ·rw[List.mem_singleton.1 hp];simp only;omega
def qkV (labs:List (Wd×Nat)):KV:=labs.map fun p=>(p.1,int .i64 (p.2:Nat))
theorem qmJ:∀ (labs:List (Wd×Nat)) (x:Wd),(GL.kvGet (qkV labs) x).getD (int .i64 0)=int .i64 (qhu labs x:Nat)
 |[],x=>rfl
 |p::r,x=>by
  unfold qkV qhu;rw[zMc,GL.kvGet,List.find?_cons]
  by_cases h:p.1=x
  ·rw[if_pos h,decide_eq_true h];rfl
  ·rw[if_neg h,decide_eq_false h];exact qmJ r x
theorem qpe {labs:List (Wd×Nat)} {i:Nat} (h:i<labs.length) (hn:(labs.map (·.1)).Nodup):GL.kvPut (qkV (labs.take i)) labs[i].1 (int .i64 (labs[i].2:Nat))=qkV (labs.take (i+1)):=by
 unfold qkV;rw[List.take_succ_eq_append_getElem h,zMa];refine qjs ?_;rw[List.map_map];intro hm
 have e1:labs.map (·.1)=(labs.take i).map (·.1)++labs[i].1::(labs.drop (i+1)).map (·.1):=by
  conv=>lhs;rw[<-List.take_append_drop i labs,List.drop_eq_getElem_cons h]
  rw[zMa,zMc]
 rw[e1,List.nodup_append] at hn;exact hn.2.2 _ hm _ zMs rfl
theorem qtJ {labs:List (Wd×Nat)} {M:Nat} (h:∀ p∈labs,p.2<=M) (x:Wd):qhu labs x<=M:=by
 unfold qhu
 cases hf:labs.find? fun p=>decide (p.1=x) with
 |none=>exact Nat.zero_le _
 |some p=>exact h p (List.mem_of_find?_eq_some hf)
def asmLV:Except (Nat×Nat) (Wd×List (Wd×Nat))->LV
 |.error e=>.tuple [str [],.list [],int .i64 (e.1:Nat),int .i64 (e.2:Nat)]
 |.ok x=>.tuple [str x.1,.list (x.2.map qcg),int .i64 0,int .i64 0]
attribute [local irreducible] LOps qae qad LCalls Go.GL.Pure qax qaj qac LQ LAny qaE qal
section
variable {B0:Nat} {w0:World}
theorem assemble_spec (hG:GW B0 w0) (hM:GM w0) (src:List UInt8) (og:Int) (hs:src.length<=300000000):LCalls (KC B0 w0) 20 [str src,int .i64 og] [] (Ret (asmLV (asmP src og))):=by
 have hA:asmP src og=asmP src og:=rfl
 conv at hA=>rhs;unfold asmP
 generalize hR:asmP src og=R at hA ⊢;refine LCalls.intro4 Tryz.func20 rfl (n:=65) rfl rfl rfl ?_;refine gaa ?_;refine oB 19 rfl (fun h1=>?_) (fun h1=>?_)
 ·have h1':og<0:=zt h1;rw[if_pos (.inl h1')] at hA;subst hA;refine gab ?_;refine oC rfl (fun h=>?_) (fun h=>by cases h);refine gar ?_;exact qaf rfl (rC (zrt rfl) (rC (rT (v:=qab) rfl vN) (rC (zrt rfl) (zra rfl)))) rfl
 have h1':¬ og<0:=zf h1;refine gad ?_;refine oC rfl (fun h2=>?_) (fun h2=>?_)
 ·have h2':og ≥ 262144:=zt h2;rw[if_pos (.inr h2')] at hA;subst hA;refine gar ?_;exact qaf rfl (rC (zrt rfl) (rC (rT (v:=qab) rfl vN) (rC (zrt rfl) (zra rfl)))) rfl
 have h2':¬ og ≥ 262144:=zf h2;rw[if_neg zo] at hA;obtain ⟨o,rfl⟩:∃ o:Nat,og=(o:Int):=⟨og.toNat,by omega⟩;rw[Int.toNat_natCast] at hA;have hao:=@qwP src;have hft:=qfJ src;have hwt:=qjF src;have hwl:=qhG src;have hcl:=qhW src;have hlw:=qly (qbU src) false;have htk:=tokens_spec hG hM src zo;rw[<-hft] at hwt hwl hcl hlw hA hao;rw[zLm] at hwl;generalize qgp src=l at hwt hwl hcl hlw htk hA hao;have hne:∀ w∈txt l,w≠[]:=fun w hw=>(hcl w hw).1
 have hsz:∀ p∈l,p.1≠[]/\p.1.length<=1000000000:=fun p hp=>by
  have hm:p.1∈l.map (·.1):=List.mem_map_of_mem hp;have:=qsg hm;exact ⟨(hcl _ hm).1,by omega⟩
 have hck:=check_spec (B0:=B0) (w0:=w0) l zo (fun p hp=>(hsz p hp).2)
 have hlen:∀ kn,((txt l).foldl (qbL kn o) ([],[])).1.length=lenW false (txt l):=fun kn=>by
  rw[qgJ];exact qrz kn _ hne
 have hjo:=fun kn hkn km Hk hK=>qqg hG l o zo zo hsz kn hkn (by rw[hlen kn];show lenW false (l.map (·.1))<=_;omega) km Hk hK;generalize hE:errT (defs (txt l)) [] l=E at hck hA hao;have hE2:E=(E.1,E.2):=rfl;refine gaa ?_;refine oS (sF [_] rfl htk ?_) rfl;refine gac ?_;refine oS (sF [_] rfl hck ?_) rfl;refine gaa ?_;refine oC rfl (fun h1=>?_) (fun h1=>?_)
 ·have h3:¬ E.2=0:=by simpa using h1
  rw[if_pos h3] at hA;subst hA;refine gaa ?_;exact qaf rfl (rC (zrt rfl) (rC (rT (v:=qab) rfl vN) (rC (zrt rfl) (zra rfl)))) rfl
 have h3:E.2=0:=by simpa using h1
 rw[if_neg zo] at hA;have hnd:=(hao h3).1;refine gaa ?_;refine oS (S.callH (H1:=[]) (F:=[]) [_,_,.const (.map none)] rfl zpr (hjo (fun _=>0) (fun _=>Nat.zero_le _) none [] (.inl ⟨rfl,rfl,fun _=>rfl⟩)) (fun v' H' hh=>?_) (fun ch H' hh=>by obtain ⟨h,_⟩:=hh;cases h)) rfl;obtain ⟨hv,rfl⟩:=hh;cases hv;have hlabs:((txt l).foldl (qbL (fun _=>0) o) ([],[])).2=qlW (fun _=>0) o (l.map (·.1)):=rfl
 have hle:∀ p∈((txt l).foldl (qbL (fun _=>0) o) ([],[])).2,p.2<=1000000000000:=fun p hp=>by
  have:=qqo (fun _=>0) o (lenW false (txt l)) (txt l) ([],[]) hne (by rw[hlen];exact zNr _) (fun p hp=>by cases hp) p hp;have h5:lenW false (txt l)<=3 * tot (l.map (·.1)):=hlw;omega
 have hnl:(((txt l).foldl (qbL (fun _=>0) o) ([],[])).2.map (·.1)).Nodup:=by
  rw[qiT];exact hnd
 have hll:=(qmS (fun _=>0) o (txt l) ([],[])).2;rw[hlabs] at hle hnl hll;generalize hLB:qlW (fun _=>0) o (l.map (·.1))=labs at hle hnl hll hA hlabs;rw[hlabs]
 have hll2:labs.length<=l.length:=by
  have:(txt l).length=l.length:=zLm _;simp only[zLn] at hll;omega
 have hlab:(labs.map qcg).length=labs.length:=zLm _;refine gat ?_;refine oS (S.kvNew fun m=>?_) rfl;refine gaa ?_
 refine oL (fun k ls H=>∃ (i:Nat) (clock:Nat),i<=labs.length/\k=labs.length-i/\ls=[(1,int .i64 (o:Nat)),(8,.list (l.map qcg)),(13,.atom (.map (some m))),(41,.list (labs.map qcg)),(42,int .i64 labs.length),(43,int .i64 (i:Nat))]/\H=[(m,.map (kvs (qkV (labs.take i))) clock)])
  ⟨_,_,_,⟨0,0,Nat.zero_le _,rfl,rfl,rfl⟩,⟨rfl,rfl,rfl,rfl,qak zo,rfl,trivial⟩,zhR _⟩ ?_
 rintro k ls H ⟨i,clock,hi,rfl,rfl,rfl⟩ j hj;refine gaj ?_;refine oC rfl (fun hc=>?_) (fun hc=>?_)
 ·have hlt:i<labs.length:=by have:=zt hc;omega
  refine gam ?_;refine oP (xR (el':=qcg labs[i]) (cs:=[_,_]) rfl rfl zo (qbd _ _ _ hlt) rfl rfl) rfl ?_;refine gad ?_;refine oS (sA fun b15=>?_) rfl;refine gac ?_;refine oS (S.kvPut (t:=104) (kt:=9) (el:=3) (m:=qkV (labs.take i)) (k:=labs[i].1) (lv:=int .i64 (labs[i].2:Nat)) zk zk rfl rfl rfl zp1 fun clock'=>?_) rfl;rw[qpe hlt hnl];refine gan ?_;exact ⟨_,_,_,by omega,⟨i+1,clock',by omega,rfl,rfl,rfl⟩,⟨rfl,rfl,rfl,rfl,rfl,qak zo,trivial⟩,⟨[_],List.Perm.refl _⟩,hj⟩
 ·have hi':i=labs.length:=by have:=zf hc;omega
  subst hi';rw[List.take_length];have hkn:=qtJ hle;refine gaa ?_;refine oS (S.callH (H1:=[(m,.map (kvs (qkV labs)) clock)]) (F:=[]) [_,_,_] rfl zpr (hjo (qhu labs) hkn (some m) _ (.inr ⟨m,qkV labs,clock,rfl,rfl,qmJ labs⟩)) (fun v' H' hh=>?_) (fun ch H' hh=>by obtain ⟨h,_⟩:=hh;cases h)) rfl;obtain ⟨hv,rfl⟩:=hh;cases hv;have e1:((txt l).foldl (qbL (qhu labs) o) ([],[])).1=qo5 (qhu labs) (l.map (·.1)):=qgJ _ _ _ _
  have e2:((txt l).foldl (qbL (qhu labs) o) ([],[])).2=labs:=by
   show qlW (qhu labs) o (l.map (·.1))=labs;rw[qrs (qhu labs) (fun _=>0) o (l.map (·.1)) hne];exact hLB
  rw[e1,e2];generalize qo5 (qhu labs) (l.map (·.1))=tx at hA;refine gac ?_;refine oC rfl (fun h2=>?_) (fun h2=>?_)
  ·have h5:40000<tx.length:=by have:=zt h2;omega
   rw[if_pos h5] at hA;subst hA;refine gar ?_;exact qaf hj (rC (zrt rfl) (rC (rT (v:=qab) rfl vN) (rC (zrt rfl) (zra rfl)))) rfl
  ·have h5:¬ 40000<tx.length:=by have:=zf h2;omega
   rw[if_neg h5] at hA;subst hA;refine gac ?_;exact qaf hj (rC (zrt rfl) (rC (rT (v:=.list _) rfl zsr) (rC (zrt rfl) (zra rfl)))) rfl
end
end Go.Proofs.YtdakelgkjdaijaaGreatDoor.Asm
namespace Go.GL
open Go.RowKit
section
variable {C:Ctx} {e:Env} {H:Heap} {dst:Option Nat} {ty:TypeId} {pos:String} {aft:Array Edge} {g:Option (Nat×Bool)} {xT yT:TypeId} {x y:Operand} {k k2:IntKind} {a b:Int}
theorem qlx {P:Program} {op:BinOp} {xT yT:TypeId} {x y:Operand} {k k2:IntKind} {a b:Int} {ρ:Operand->Value} (hx:ρ x=.int k a) (hy:ρ y=.int k2 b) {s:Sem Value}
  (h:(binOp op xT (.int k a) (.int k2 b))=s) {v:Value} (hv:∀ w,s.run P w=.ok v w) (w:World):(execOp ρ ⟨dst,.binOp op xT x y yT,ty,pos,aft,g⟩).run P w=.ok (.value v) w:=by
 subst h
 have he:eqGuard op xT x y (.int k a) (.int k2 b)=Pure.pure ():=by
  unfold eqGuard;cases op <;> rfl
 simp only[execOp,hx,hy,he,Sem.run_bind,Sem.run_pure,Result.andThen_ok,hv]
theorem Pure.quoW (hx:e.ev x=int k a) (hy:e.ev y=int k b) (hb:b≠0):Pure C ⟨dst,.binOp .quo xT x y yT,ty,pos,aft,g⟩ e H (int k (k.wrap (a.tdiv b))):=
 .of_any fun _ _ _ h=>⟨_,qah,qlx (qag h hx) (qag h hy) (s:=Op.intDiv .quo k a b) (by simp only[binOp,ne_eq,not_true_eq_false,if_false]) (fun _=>by simp only[Op.intDiv,if_neg hb,Sem.run_pure])⟩
theorem Pure.remW (hx:e.ev x=int k a) (hy:e.ev y=int k b) (hb:b≠0):Pure C ⟨dst,.binOp .rem xT x y yT,ty,pos,aft,g⟩ e H (int k (a.tmod b)):=
 .of_any fun _ _ _ h=>⟨_,qah,qlx (qag h hx) (qag h hy) (s:=Op.intDiv .rem k a b) (by simp only[binOp,ne_eq,not_true_eq_false,if_false]) (fun _=>by simp only[Op.intDiv,if_neg hb,Sem.run_pure])⟩
theorem Pure.xorW (hx:e.ev x=int k a) (hy:e.ev y=int k b):Pure C ⟨dst,.binOp .xor xT x y yT,ty,pos,aft,g⟩ e H (int k (k.wrap ((BitVec.ofInt k.bits a ^^^ BitVec.ofInt k.bits b).toNat:Nat))):=
 .of_any fun _ _ _ h=>⟨_,qah,qlx (qag h hx) (qag h hy) (s:=Op.intBits .xor k a b) (by simp only[binOp,ne_eq,not_true_eq_false,if_false]) (fun _=>rfl)⟩
end
theorem qh1 {P:Program} {md:Region.Mode} {ops:Array Oper} {Q:Exit->Act->World->Prop} {S S':World->Prop} (hS:∀ w,S' w->S w):∀ (fuel:Nat) (listed:Array Bool) (a:Act) (w:World),
  wpAnyH P md ops Q S' fuel listed a w->wpAnyH P md ops Q S fuel listed a w
 |0,_,_,_,k=>k
 |fuel+1,_,_,_,k=>⟨k.1,fun i hi=>wpOp_mono (fun a' w' h=>⟨hS _ h.1,qh1 hS fuel _ a' w' h.2⟩) (k.2 i hi)⟩
theorem qaE.any {C:Ctx} {n:Nat} {ops:Array Oper} {Q:Post} {HF:Heap} {fuel:Nat} {listed:Array Bool} {e:Env} {H:Heap} (HF':Heap) (hs:∀ p∈HF,p∈HF') (h:LAny C n ops Q HF' fuel listed e H):qaE C n ops Q HF fuel listed e H:=fun w0 L0 a w L hL hA _ hE hH=>
 qh1 (fun w' hw'=>⟨fun p hp=>(hw'.1 p (hs p hp)).trans (hA.1 p hp),fun b i hi=>(hw'.2 b i (Nat.lt_of_lt_of_le hi (hL b))).trans (hA.2 b i hi)⟩) _ _ _ _ (h a w L hE hH)
/-! ### A drawn region whose last operations stand in a row: what is ahead of them only computes or reads. -/
def LS (C:Ctx) (n:Nat) (ops:Array Oper) (K:Env->Prop) (rest:List Oper) (e:Env) (H:Heap):Prop:=
 ∀ a w L,RelE n a e w L->RelH C w L H->wpStill C.P ops w (fun a'=>∃ e',RelE n a' e' w L/\K e') rest a
section still
variable {C:Ctx} {n:Nat} {ops:Array Oper} {K:Env->Prop} {e:Env} {H:Heap} {dst:Option Nat} {op:Op} {ty:TypeId} {pos:String} {aft:Array Edge} {rest:List Oper}
theorem LS.nil (h:K e):LS C n ops K [] e H:=fun _ _ _ hE _=>⟨e,hE,h⟩
theorem qsG {P:Program} {Q:Act->Prop} {a:Act} {w:World} {o:Oper} (hg:Region.wanted o (yielded ops a.tmps)=true) {v:Value} (h:(execOp a.eval o).run P w=.ok (.value v) w) (k:wpStill P ops w Q rest (a.put o.dst v)):wpStill P ops w Q (o::rest) a:=by
 unfold wpStill;rw[if_pos hg];unfold Oper.still;rw[h];exact ⟨rfl,k⟩
theorem lP {lv:LV} (h:Pure C ⟨dst,op,ty,pos,aft,none⟩ e H lv) (hd:qcK n dst) (k:LS C n ops K rest (e.put dst lv) H):LS C n ops K (⟨dst,op,ty,pos,aft,none⟩::rest) e H:=fun a w L hE hH=>by
 obtain ⟨v,hv,hr⟩:=h a.eval w L hE.ev hH;exact qsG (by simp[Region.wanted]) (hr w (qeN.refl _ _ _)) (k _ w L (hE.put hd hv) hH)
theorem qfc {P:Program} {w:World} {Q Q':Act->Prop} (h:∀ a,Q a->Q' a):∀ (l:List Oper) (a:Act),wpStill P ops w Q l a->wpStill P ops w Q' l a
 |[],a,k=>h a k
 |o::l,a,k=>by
  unfold wpStill at k ⊢;split at k
  ·rename_i hw
   rw[if_pos hw];exact Oper.still_mono (fun a=>qfc h l a) k
  ·rename_i hw
   rw[if_neg hw];exact qfc h l _ k
theorem qae.tail [hm:TMixed C.P] {id:Nat} {l:List Oper} {Q:Post} (m:Nat) (hB:Region.lexTailB .any l.toArray m=true) (h:LS C n l.toArray (fun e'=>LOps C n l.toArray Q (l.drop m) e' H) (l.take m) e H):qae C n (.region id l.toArray true) Q e H:=fun a w L hE hH=>by
 refine wp_region_still_tail m hm.out hB ?_;refine qfc (fun a' h'=>?_) _ _ (h a w.drew L (hE.mono (qej w L)) hH.drew);obtain ⟨e',hE',hk⟩:=h';refine qbr (fun x a2 w' hq=>?_) _ _ _ (hk a' w.drew L hE' hH.drew);obtain ⟨e2,H',L',h1,h2,h3,h4⟩:=hq;exact ⟨e2,H',L',h1.of_drew,h2,h3,h4⟩
end still
end Go.GL
namespace Go.GL
open Go.RowKit
@[reducible] def rowV (b n:Nat):LV:=.atom (.slice (some ⟨b,0,none⟩) n n)
section
variable {C:Ctx} {e:Env} {H:Heap} {dst:Option Nat} {ty:TypeId} {pos:String} {aft:Array Edge} {g:Option (Nat×Bool)} {K:LV->Heap->Prop} {X:List PanicEntry->Heap->Prop} {x y:Operand}
theorem qph (n:Nat) (z:Value):(Array.range n).map (fun i=>(if n * 1=0 then #[] else #[z])[i % (if n * 1=0 then (#[]:Array Value) else #[z]).size]!)=(List.replicate n z).toArray:=by
 rcases Nat.eq_zero_or_pos n with rfl|hn
 ·simp
 ·rw[if_neg zo];apply Array.ext
  ·simp
  ·intro i h1 h2;simp[Nat.mod_one]
theorem S.makeRow {t el bytes:Nat} {zv:Value} [ht:TSlice C.P t el 1] [hr:TRow C.P el 1 bytes] [hz:TZero C.P el [zv]] {n:Nat} {k k2:IntKind} (hx:e.ev x=int k n) (hy:e.ev y=int k2 n) (hb:bytes * n<=100000000000) (hn:n<=100000000000)
  (hk:∀ b,K (rowV b n) ((b,.cells el (List.replicate n (.atom zv)))::H)):qad C ⟨dst,.makeSlice t x y,ty,pos,aft,g⟩ e H K X:=by
 refine qad.at0 fun ρ w L h hH=>?_;have h3:execOp ρ ⟨dst,.makeSlice t x y,ty,pos,aft,g⟩=(do Pure.pure (.value (<-Instr.makeSlice t (ρ x) (ρ y)))):=rfl;obtain ⟨i,z,hi,hs,hby,hb0,hzz,hzs⟩:=hr.out;obtain ⟨i',z',hi',hz',hc',hs'⟩:=hz.out;rw[hi] at hi';obtain rfl:=Option.some.inj hi';rw[hzz] at hz';obtain rfl:=Option.some.inj hz';have wn:IntKind.i64.wrap (n:Int)=n:=qeS zo;have n1:¬ ((n:Int)<0):=by omega
 have n2:¬ ((281474976710656:Int)<(i.bytes:Int) * n):=by
  rw[hby];have:((bytes * n:Nat):Int)<=100000000000:=by omega
  rw[Int.natCast_mul] at this;omega
 have n3:¬ (n * i.bytes > roomBytes):=by
  rw[hby,Nat.mul_comm];unfold roomBytes;omega
 have hrun:(Instr.makeSlice t (.int k n) (.int k2 n)).run C.P w=.ok (.slice (some ⟨w.heap.size,0,none⟩) n n) (World.push w (.cells (List.replicate n zv).toArray el)):=by
  have hrz:=qph n zv
  by_cases h0:n=0
  ·subst h0;have wz:IntKind.i64.wrap 0=0:=qeS zo;simp[Instr.makeSlice,qaa ht.und,asInt,asIntOf,qdA hi,qbn hi,hs,wz,newRow,askRoom,roomBytes,newObj,World.push,Sem.run_bind,Sem.run_pure];have e0:(Array.range 0).map (fun _=>(default:Value))=#[]:=by simp
   rw[e0]
   try rfl
  ·simp only[Nat.mul_one,h0,if_false] at hrz;simp[Instr.makeSlice,qaa ht.und,asInt,asIntOf,qdA hi,qbn hi,hs,wn,n1,n2,n3,h0,zeroValue,hzz,hc',newRow,askRoom,newObj,World.push,Sem.run_bind,Sem.run_pure,hrz];simp at hrz;rw[hrz]
   try rfl
 rw[h3,qag h hx,qag h hy,Sem.run_bind,hrun]
 have hrep:RepL w L (List.replicate n (.atom zv)) (List.replicate n zv):=by
  have:=qaT (w:=w) (L:=L) (List.replicate n zv)
  rwa [List.map_replicate] at this
 have hx':=qeg hH.wf (.cells (List.replicate n zv).toArray el) 0
 have:=qem hH (.cells (List.replicate n zv).toArray el) 0 [(w.heap.size,.cells el (List.replicate n (.atom zv)))] (fun p hp=>by
  simp only[List.mem_singleton] at hp;subst hp
  exact ⟨rfl,by simp[Live.upd],List.replicate n zv,qaI,hrep.mono hx' _ _⟩) (by simp)
 exact ⟨_,_,_,this.1,this.2,qah,hk _⟩
theorem Pure.indexRow {t el s:Nat} [ht:TSlice C.P t el s] {b off m cap:Nat} {n:Int} {k:IntKind} (hx:e.ev x=.atom (.slice (some ⟨b,off,none⟩) m cap)) (hy:e.ev y=int k n) (h0:0<=n) (hn:n<m) :
  Pure C ⟨dst,.indexAddr t x y,ty,pos,aft,g⟩ e H (ptr b (off+n.toNat * s)):=.of_any fun ρ w L h=>by
 obtain ⟨i,hi,hsz⟩:=ht.size;refine ⟨_,qah,fun w'=>?_⟩;have h3:execOp ρ ⟨dst,.indexAddr t x y,ty,pos,aft,g⟩=(do Pure.pure (.value (<-Instr.indexAt t (ρ x) (ρ y)))):=rfl;rw[h3,qag h hx,qag h hy];have hc:0<=n/\n<(m:Int):=⟨h0,hn⟩;simp[Instr.indexAt,asIntOf,qaa ht.und,hc,qbn hi,add_mk,hsz]
theorem Pure.rowLen {t el s:Nat} [TSlice C.P t el s] {a:Option Addr} {m cap:Nat} (hx:e.ev x=.atom (.slice a m cap)):Pure C ⟨dst,.call { callee:=.builtin .len,args:=#[x],argTypes:=#[t] },ty,pos,aft,g⟩ e H (int .i64 m):=
 .of_any fun ρ _ _ h=>⟨_,qah,fun w'=>by
  have hu:=qaa (P:=C.P) (TSlice.und (t:=t)) w';rw[qaC,qd9]
  simp[Builtin.len_,hu,goInt,qag h hx]⟩
theorem Pure.negW {xT:TypeId} {k:IntKind} {a:Int} (hx:e.ev x=int k a):Pure C ⟨dst,.unOp .neg xT x,ty,pos,aft,g⟩ e H (int k (k.wrap (0-a))):=
 .of_any fun ρ _ _ h=>⟨_,qah,fun w'=>by simp only[execOp,qag h hx,Op.unary];rfl⟩
end
section shut
variable {C:Ctx} {n:Nat} {Q:Post} {e:Env} {H F:Heap}
theorem qlw {w:World} {L:Live} {b el:Nat} {vs:List Value} (hp:Pick (b,.cells el (vs.map .atom)) H F) (hH:RelH C w L H) :
  RelH C w (L.upd b vs.length) F/\Ext w L w (L.upd b vs.length)/\Rep w (L.upd b vs.length) (.list (vs.map .atom)) (.slice (some ⟨b,0,none⟩) vs.length vs.length):=by
 have hH1:=hH.perm hp;obtain ⟨hb0,hbs,hl,xs,hx1,hx2⟩:=hH1.objs _ List.mem_cons_self;simp only at hb0 hbs hl hx1 hx2;have hxs:xs=vs:=RepL.atoms hx2;subst hxs
 have hx:Ext w L w (L.upd b xs.length):=⟨zNr _,fun _ _=>rfl,fun _ _ _=>rfl,fun c=>by
  unfold Live.upd;split
  ·rename_i h;subst h;rw[hl];exact Nat.zero_le _
  ·exact zNr _⟩
 have hne:∀ p∈F,p.1≠b:=fun p hp' he=>by
  have:=hH1.nodup;rw[zMc,List.nodup_cons] at this;exact this.1 (List.mem_map.2 ⟨p,hp',he⟩)
 refine ⟨⟨hH1.base,trivial,hH1.b0,fun c hc=>?_,?_,fun p hp'=>?_⟩,hx,?_⟩
 ·unfold Live.upd;rw[if_neg zo];exact hH1.wf c hc
 ·have:=hH1.nodup;rw[zMc,List.nodup_cons] at this;exact this.2
 ·obtain ⟨g1,g2,g3⟩:=hH1.objs p (zMo _ hp');exact ⟨g1,g2,g3.keep hx rfl (by unfold Live.upd;rw[if_neg (hne p hp')])⟩
 ·have hL:(L.upd b xs.length) b=xs.length:=by unfold Live.upd;rw[if_pos rfl]
  have hlen:(xs.map LV.atom).length=xs.length:=zLm _;simp only[Rep];refine ⟨some ⟨b,0,none⟩,xs.length,by rw[hlen],by rw[hlen];exact zNr _,fun _=>⟨b,0,1,rfl,?_⟩⟩
  have hflat:∀ l:List Value,(l.map LV.atom).flatMap LV.cells=l.map LV.atom:=fun l=>by
   induction l with
   |nil=>rfl
   |cons a l ih=>simp only[zMc,List.flatMap_cons,ih];rfl
  refine qai.ofC (fun v hv=>?_) ?_
  ·obtain ⟨a,_,rfl⟩:=List.mem_map.1 hv;rfl
  ·rw[hflat];refine RepC.of_cells (qaT xs) (by rw[hL];omega) fun j x hx=>?_;simp only[World.cell?,hx1,Nat.zero_add];simpa using hx
theorem qqH {w:World} {L:Live} {b el:Nat} {vs:List Value} (hp:Pick (b,.cells el (vs.map .atom)) H F) (hH:RelH C w L H) {x:Exit} {a:Act} {w':World} (h:lift C n w (L.upd b vs.length) (keys F) Q x a w'):lift C n w L (keys H) Q x a w':=by
 obtain ⟨e',H',L',h1,h2,h3,h4⟩:=h;have hx:=(qlw hp hH).2.1
 have hin:∀ c,c∈keys F->c∈keys H:=fun c hc=>by
  obtain ⟨p,hp',rfl⟩:=List.mem_map.1 hc;exact List.mem_map_of_mem (hp.mem_iff.2 (zMo _ hp'))
 have hb:b∈keys H:=List.mem_map.2 ⟨_,hp.mem_iff.2 List.mem_cons_self,rfl⟩;refine ⟨e',H',L',⟨h1.os,h1.tape,h1.output,hx.trans h1.ext,fun c hc hn=>h1.block c hc (fun k=>hn (hin c k)),fun c hc hn=>?_,fun p hp'=>(h1.kin p hp').imp (hin _) id⟩,h2,h3,h4⟩;rw[h1.lsame c hc (fun k=>hn (hin c k))];unfold Live.upd;rw[if_neg (fun he=>hn (by rw[he];exact hb))]
theorem qsu {a:Act} {w:World} {L:Live} {b el d:Nat} {vs:List Value} (hp:Pick (b,.cells el (vs.map .atom)) H F) (hd:e.s d=rowV b vs.length) (hE:RelE n a e w L) (hH:RelH C w L H):RelE n a (e.upd d (.list (vs.map .atom))) w (L.upd b vs.length):=by
 obtain ⟨_,hx,hr⟩:=qlw hp hH;refine ⟨hE.size,hE.ds,fun i=>?_⟩;have hv:=hE.vals i;simp only[Env.upd]
 cases hb:Nat.beq i d with
 |false=>exact hv.mono hx _ _
 |true=>
  have hi:=Nat.eq_of_beq_eq_true hb;subst hi;rw[hd] at hv;simp only[Rep] at hv;rw[hv];exact hr
theorem qae.rowShut {c:Code} (d:Nat) {b el:Nat} {vs:List Value} (hp:Pick (b,.cells el (vs.map .atom)) H F) (hd:e.s d=rowV b vs.length) (h:qae C n c Q (e.upd d (.list (vs.map .atom))) F):qae C n c Q e H:=fun a w L hE hH=>
 Go.wp_mono (h a w _ (qsu hp hd hE hH) (qlw hp hH).1) fun _ _ _=>qqH hp hH
end shut
end Go.GL
namespace Go.GL
open Go.RowKit
section
variable {C:Ctx} {n:Nat} {ops:Array Oper} {Q:Post} {HF:Heap} {fuel:Nat} {listed:Array Bool} {e:Env} {H F:Heap} {i:Nat} {dst:Option Nat} {op:Op} {ty:TypeId} {pos:String} {aft:Array Edge}
theorem qaE.weakH {H':Heap} (s:HSub H' H) (h:qaE C n ops Q HF fuel listed e H'):qaE C n ops Q HF fuel listed e H:=fun w0 L0 a w L hL hA hsz hE hH=>
 qca (fun _ _ _=>qfx s.keys) _ _ _ _ (h w0 L0 a w L hL hA hsz hE (hH.weak s))
end
end Go.GL
namespace Go.Stele
def Few {A:Type} (k:Nat) (s:IS) (r:IR A):Prop:=r.st.out.length+r.st.left<=s.out.length+s.left+k
theorem Few.bind {A B:Type} {k:Nat} {s:IS} {r:IR A} {f:A->IS->IR B} (h:Few 0 s r) (hf:∀ v s',Few k s' (f v s')):Few k s (r.bind f):=by
 cases r with
 |ok v s'=>exact zNt (hf v s') (Nat.add_le_add_right h k)
 |stop e s'=>exact zNt h (Nat.le_add_right _ _)
theorem Few.bind' {A B:Type} {k:Nat} {s:IS} {r:IR A} {f:A->IS->IR B} (h:Few k s r) (hf:∀ v s',Few 0 s' (f v s')):Few k s (r.bind f):=by
 cases r with
 |ok v s'=>exact zNt (hf v s') h
 |stop e s'=>exact h
theorem Few.refl {A:Type} {k:Nat} {v:A} {s:IS}:Few k s (.ok v s):=Nat.le_add_right _ _
theorem Few.reflS {A:Type} {k:Nat} {e:Int} {s:IS}:Few (A:=A) k s (.stop e s):=Nat.le_add_right _ _
theorem Few.tick {B:Type} {s:IS} {f:Unit->IS->IR B} (hf:∀ s',Few 1 s' (f () s')):Few 0 s ((tick s).bind f):=by
 unfold Go.Stele.tick;split
 ·exact Few.reflS
 ·rename_i h
  have:=hf { s with left:=s.left-1 };unfold Few at this ⊢;simp only at this;show (f () { s with left:=s.left-1 }).st.out.length+(f () { s with left:=s.left-1 }).st.left<=_
  omega
theorem Few.up {A:Type} {s:IS} {r:IR A} (h:Few 0 s r):Few 1 s r:=zNt h (Nat.le_add_right _ _)
theorem qot {A:Type} {g:A->IS->IR Nat} (h:∀ a s,Few 0 s (g a s)):∀ (l:List A) (s:IS),Few 0 s (mapR g l s)
 |[],s=>Few.refl
 |a::l,s=>(h a s).bind fun v s=>(qot h l s).bind fun vs s=>Few.refl
theorem qf0 {g:Sm->IS->IR (Option Nat)} (h:∀ a s,Few 0 s (g a s)):∀ (l:List Sm) (s:IS),Few 0 s (blkR g l s)
 |[],s=>Few.refl
 |a::l,s=>(h a s).bind fun r s=>by
  cases r with
  |none=>exact qf0 h l s
  |some v=>exact Few.refl
theorem qoh {c:IS->IR Nat} {b:IS->IR (Option Nat)} (hc:∀ s,Few 0 s (c s)) (hb:∀ s,Few 0 s (b s)):∀ (m v:Nat) (s:IS),Few 0 s (whlR c b m v s)
 |0,v,s=>by
  unfold whlR;split
  ·exact Few.refl
  ·exact Few.reflS
 |m+1,v,s=>by
  unfold whlR;split
  ·exact Few.refl
  ·refine (hb s).bind fun r s=>?_
   cases r with
   |some x=>exact Few.refl
   |none=>exact (hc s).bind fun v s=>qoh hc hb m v s
theorem qvq {P:Pr} {g:FnD->Sm->IS->IR (Option Nat)} (h:∀ f a s,Few 0 s (g f a s)) (f:FnD) (op:List UInt8) (num:Nat) (name:List UInt8) (vs:List Nat) (s:IS):Few 1 s (opI P g f op num name vs s):=by
 unfold opI;split
 ·exact Few.refl
 split
 ·exact Few.refl
 split
 ·split
  ·exact Few.refl
  ·exact Few.reflS
 split
 ·exact Few.refl
 split
 ·exact Few.refl
 split
 ·unfold callI;split
  ·split
   ·exact Few.refl
   ·exact Nat.le_add_right _ _
  split
  ·unfold Few;simp only[IR.st,zLa,zLc,zLn];omega
  ·refine Few.bind' (Few.up ?_) fun r s=>Few.refl;have:=qf0 (h (fnI P name)) (fnI P name).body (qe3 (fnI P name) (fnI P name).params vs s);unfold Few at this ⊢
   rwa [(qdQ _ _ _ _).1,(qdQ _ _ _ _).2.1] at this
 ·split
  ·exact Few.refl
  ·exact Few.reflS
theorem qjE (P:Pr):∀ n:Nat,(∀ f x s,Few 0 s (evI P n f x s))/\∀ f x s,Few 0 s (stI P n f x s)
 |0=>⟨fun f x s=>by unfold evI;exact Few.reflS,fun f x s=>by unfold stI;exact Few.reflS⟩
 |n+1=>by
  obtain ⟨h1,h2⟩:=qjE P n;refine ⟨fun f x s=>?_,fun f x s=>?_⟩
  ·obtain ⟨op,num,name,args⟩:=x;unfold evI;exact Few.tick fun s=>(qot (h1 f) args s).bind fun vs s=>qvq h2 f op num name vs s
  ·obtain ⟨kind,name,index,value,thn,els⟩:=x;unfold stI;refine Few.tick fun s=>Few.up ?_;split
   ·exact Few.reflS
   refine (h1 f _ s).bind fun v s=>?_;split
   ·exact Few.refl
   split
   ·refine (h1 f _ s).bind fun i s=>?_;split
    ·exact Few.refl
    ·exact Few.reflS
   split
   ·exact Few.refl
   split
   ·split
    ·exact qf0 (h2 f) _ _
    ·exact qf0 (h2 f) _ _
   split
   ·exact qoh (h1 f _) (qf0 (h2 f) _) _ _ _
   ·exact Few.refl
end Go.Stele
namespace Go.Stele
theorem qis {s:Nm} (h:isNm s=true):s.length<=24:=by
 unfold isNm at h;simp only[zBa,zDe] at h;exact h.1.1
theorem qll {vars arrays later:List Nm}:∀ (fs:List FnD) (known:List FSum),qf5 vars arrays later known fs=0->∀ f∈fs,∀ x∈f.params++f.locals,isNm x=true
 |[],known,_,f,hf=>(List.not_mem_nil hf).elim
 |g::l,known,h,f,hf=>by
  rw[qf5] at h;obtain ⟨h1,h2⟩:=qap.1 h;rcases zMi.1 hf with rfl|hf
  ·obtain ⟨g1,g2⟩:=qa6 _ _ (qap.1 h1).1;exact fun x hx=>(g2 x hx).2
  ·exact qll l _ h2 f hf
theorem qn9 {p:Pr} (h:qbI p=0):(∀ f∈p.funcs,f.name.length<=24)/\∀ k∈qan p.vars p.funcs,k.length<=49:=by
 unfold qbI qc2 at h;have e1:(p.arrays.map fun a=>(a.name,(a.size:Int))).map (·.1)=p.arrays.map (·.name):=by rw[List.map_map];try rfl
 rw[e1] at h;obtain ⟨h1,h⟩:=qap.1 h;obtain ⟨h2,h⟩:=qap.1 h;obtain ⟨h3,h4⟩:=qap.1 h;have hn:=(qa6 _ _ h1).2;have hf:∀ f∈p.funcs,f.name.length<=24:=fun f hf=>qis (hn _ (List.mem_append.2 (.inr (List.mem_map.2 ⟨f,hf,rfl⟩)))).2;refine ⟨hf,fun k hk=>?_⟩;unfold qan at hk;rcases List.mem_append.1 hk with g|g
 ·have:=qis (hn k (List.mem_append.2 (.inl (List.mem_append.2 (.inl g))))).2;omega
 ·obtain ⟨l,g1,g2⟩:=List.mem_flatten.1 g;obtain ⟨f,g3,rfl⟩:=List.mem_map.1 g1;obtain ⟨x,g4,rfl⟩:=List.mem_map.1 g2;have a1:=hf f g3;have a2:=qis (qll _ _ h3 f g3 x g4);simp only[zLa,zLc,zLn];omega
theorem qgD {p:Pr} (h:qbI p=0):∀ f∈p.funcs,f.name.length<=1000/\∀ x∈f.params++f.locals,x.length<=1000:=by
 have h0:=(qn9 h).1;unfold qbI qc2 at h;have e1:(p.arrays.map fun a=>(a.name,(a.size:Int))).map (·.1)=p.arrays.map (·.name):=by rw[List.map_map];try rfl
 rw[e1] at h;have h3:=(qap.1 (qap.1 (qap.1 h).2).2).1;exact fun f hf=>⟨zNt (h0 f hf) zDd,fun x hx=>zNt (qis (qll _ _ h3 f hf x hx)) zDd⟩
theorem qru {p:Pr} {f:FnD} {name:Nm} (h:∀ k∈qan p.vars p.funcs,k.length<=49) (hk:keyI f name∈qan p.vars p.funcs):name.length<=49:=by
 have:=h _ hk;unfold keyI at this;split at this
 ·simp only[zLa,zLc,zLn] at this;omega
 ·exact this
end Go.Stele
namespace Go.Stele
def Few6 (n:Nat):Prop:=n<=2000000
mutual
def smE:Ex->Prop
 |.mk op num name args=>Few6 args.length/\smEs args
def smEs:List Ex->Prop
 |[]=>True
 |x::l=>smE x/\smEs l
end
mutual
def smS:Sm->Prop
 |.mk kind name index value thn els=>Few6 index.length/\Few6 value.length/\Few6 thn.length/\Few6 els.length/\smEs index/\smEs value/\smSs thn/\smSs els
def smSs:List Sm->Prop
 |[]=>True
 |x::l=>smS x/\smSs l
end
structure SmF (f:FnD):Prop where
 params:Few6 f.params.length
 locals:Few6 f.locals.length
 body:Few6 f.body.length
 stmts:smSs f.body
structure SmP (p:Pr):Prop where
 vars:Few6 p.vars.length
 arrays:Few6 p.arrays.length
 funcs:Few6 p.funcs.length
 each:∀ f∈p.funcs,SmF f
end Go.Stele
namespace Go.Proofs.YtdakelgkjdaijaaGreatDoor.Inp
open Go.GL Go.RowKit Go.Stele
@[reducible] def u32 (n:Nat):LV:=int .u32 (n:Int)
theorem swap1 {x:Nat×LObj} {H:Heap}:(x::H).Perm (H++[x]):=zPc (l₁:=[x])
theorem qd0 {x y:Nat×LObj} {H:Heap}:(x::y::H).Perm (H++[x,y]):=zPc (l₁:=[x,y])
theorem qaF {H F:Heap}:HSub H (H++F):=⟨F,List.Perm.refl _⟩
theorem qrD {H:Heap} {x y:Nat×LObj}:HSub (y::H) (H++[x,y]):=⟨[x],by
 refine (zPc (l₂:=[x,y])).trans ?_
 exact (List.Perm.swap y x H).trans (List.Perm.cons y swap1)⟩
theorem get_mid {A B:Type} (g:A->B) (pre:List A) (a:A) (l:List A):((pre++a::l).map g)[((pre.length:Nat):Int).toNat]? = some (g a):=by
 rw[Int.toNat_natCast,List.getElem?_map,List.getElem?_append_right (zNr _),Nat.sub_self];rfl
theorem qpk {c:CEnv} {kind:Int} {name:List UInt8} {index value:List Ex} {thn els:List Sm} (h:errS c (.mk kind name index value thn els)=0) :
  qbX (.mk kind name index value thn els)=true/\qb6 c value=0/\qb6 c index=0/\(if kind=1 then qcA c name else if kind=2 then qfF c name else 0)=0/\qcr c thn=0/\qcr c els=0:=by
 rw[errS] at h;split at h
 ·cases h
 ·rename_i hf
  obtain ⟨h1,h⟩:=qap.1 h;obtain ⟨h2,h⟩:=qap.1 h;obtain ⟨h3,h⟩:=qap.1 h;obtain ⟨h4,h5⟩:=qap.1 h;exact ⟨by simpa using hf,h1,h2,h3,h4,h5⟩
theorem form_value {kind:Int} {name:List UInt8} {index value:List Ex} {thn els:List Sm} (h:qbX (.mk kind name index value thn els)=true) (h7:¬ kind=7):∃ x,value=[x]:=by
 have h1:value.length=1:=by
  simp only[qbX] at h
  repeat' (split at h)
  all_goals first
   |(simp only[zDe] at h;omega)
   |cases h
   |contradiction
 cases value with
 |nil=>cases h1
 |cons x l=>
  cases l with
  |nil=>exact ⟨x,rfl⟩
  |cons y l=>simp at h1
theorem form_index {name:List UInt8} {index value:List Ex} {thn els:List Sm} (h:qbX (.mk 2 name index value thn els)=true):∃ x,index=[x]:=by
 have h1:index.length=1:=by
  simp only[qbX] at h;simp only[show ¬ ((2:Int)=1) by decide,if_false,if_true,zDe] at h;exact h.2.1
 cases index with
 |nil=>cases h1
 |cons x l=>
  cases l with
  |nil=>exact ⟨x,rfl⟩
  |cons y l=>simp at h1
end Go.Proofs.YtdakelgkjdaijaaGreatDoor.Inp
namespace Go.Proofs.YtdakelgkjdaijaaGreatDoor.Inp
open Go.GL Go.RowKit Go.Stele
def unitV:Unit->LV:=fun _=>.tuple []
def retV:Option Nat->LV:=fun r=>.tuple [u32 (r.getD 0),bool r.isSome]
@[reducible] def fnV (f:FuncId):LV:=.atom (.func (.func f) #[] #[])
def qj4 (db:Nat):KV:=[([43],fnV 125),([45],fnV 126),([42],fnV 127),([47],.atom (.func (.func 128) #[] #[.pointer (some ⟨db,0,none⟩)])),([37],.atom (.func (.func 129) #[] #[.pointer (some ⟨db,0,none⟩)])),
 ([94],fnV 130),([61,61],fnV 131),([33,61],fnV 133),([60],fnV 134),([62],fnV 135),([60,61],fnV 136),([62,61],fnV 137),([38,38],fnV 138),([124,124],fnV 139)]
structure Cfg where
 p:Pr
 rb:Nat
 db:Nat
 om:Nat
 sm:Nat
 am:Nat
 fm:Nat
 oc:Nat
 sc:Nat
 ac:Nat
 fc:Nat
 sb:List (List UInt8×Nat)
 ab:List (List UInt8×Nat×Nat)
 lim:Nat
def scKV (sb:List (List UInt8×Nat)):KV:=sb.map fun q=>(q.1,ptr q.2 0)
def arKV (ab:List (List UInt8×Nat×Nat)):KV:=ab.map fun q=>(q.1,rowV q.2.1 q.2.2)
def fnKV (fs:List FnD):KV:=fs.map fun f=>(f.name,qaQ f)
def runC (c:Cfg) (s:IS) (v:LV):List LV:=[.list (c.p.vars.map str),.list (c.p.arrays.map qd8),.list (c.p.funcs.map qaQ),.atom (.map (some c.om)),.list (s.inp.map u32),v,int .i64 ((c.lim-s.left:Nat):Int),int .i64 (s.left:Int),.atom (.map (some c.sm)),.atom (.map (some c.am)),.atom (.map (some c.fm))]
def scH (sb:List (List UInt8×Nat)) (s:IS):Heap:=sb.map fun q=>(q.2,LObj.cells 56 [u32 (s.sc q.1)])
def arH (ab:List (List UInt8×Nat×Nat)) (s:IS):Heap:=ab.map fun q=>(q.2.1,LObj.cells 56 ((s.ar q.1).map u32))
@[reducible] def divH (db:Nat):Nat×LObj:=(db,.cells 201 [fnV 124])
def stH (c:Cfg) (s:IS) (v:LV) (Ha:Heap):Heap:=(c.rb,.cells 150 (runC c s v))::(c.sm,.map (kvs (scKV c.sb)) c.sc)::(c.am,.map (kvs (arKV c.ab)) c.ac)::(c.fm,.map (kvs (fnKV c.p.funcs)) c.fc)::(c.om,.map (kvs (qj4 c.db)) c.oc)::divH c.db::(scH c.sb s++(arH c.ab s++Ha))
def St (c:Cfg) (s:IS) (H:Heap):Prop:=(∀ q∈c.ab,(s.ar q.1).length=q.2.2)/\s.left<=c.lim/\∃ v Ha,Acc 1 v (byts s.out) Ha []/\H=stH c s v Ha
structure CfgOk (c:Cfg):Prop where
 valid:Valid c.p
 nums:∀ f∈c.p.funcs,qb7 f.body
 sbk:c.sb.map (·.1)=qan c.p.vars c.p.funcs
 abk:c.ab.map (·.1)=c.p.arrays.map (·.name)
 small:SmP c.p
 asz:∀ q∈c.ab,q.2.2<=150000
 lim:c.lim<=100000000
 fshort:∀ f∈c.p.funcs,f.name.length<=24
 short:∀ k∈qan c.p.vars c.p.funcs,k.length<=49
def panI (e:Int):List PanicEntry:=[{ v:=.iface 200 (.agg #[.int .i64 e]),recovered:=false }]
def qj1 {A:Type} (c:Cfg) (enc:A->LV) (r:IR A) (res:LRes) (H:Heap):Prop:=match r with
 |.ok v s=>res=.ret (enc v)/\St c s H
 |.stop e s=>res=.panic (panI e)/\St c s H
@[reducible] def Same (v:LV) (H:Heap):LRes->Heap->Prop:=fun r H'=>r=.ret v/\H'=H
section steps
variable {C:Ctx} {n:Nat} {e:Env} {H:Heap} {dst:Option Nat} {ty:TypeId} {pos:String} {aft:Array Edge} {g:Option (Nat×Bool)} {K:LV->Heap->Prop} {X:List PanicEntry->Heap->Prop}
theorem S.callS {f:FuncId} [TEnter C.P f] (args:List Operand) {ats:Array TypeId} {av:List LV} {lv:LV} {H1 F:Heap} (has:args.map e.ev=av) (hp:H.Perm (H1++F)) (hc:LCalls C f av H1 (Same lv H1)) (hk:K lv (H1++F)) :
  qad C ⟨dst,.call { callee:=.value (.func f),args:=args.toArray,argTypes:=ats },ty,pos,aft,g⟩ e H K X:=
 S.callH args has hp hc (by rintro v H' ⟨h,rfl⟩;cases h;exact hk) (by rintro ch H' ⟨h,_⟩;cases h)
theorem S.callI {A:Type} {c:Cfg} {enc:A->LV} {r:IR A} {f:FuncId} [TEnter C.P f] (args:List Operand) {ats:Array TypeId} {av:List LV} {H1 F:Heap} (has:args.map e.ev=av) (hp:H.Perm (H1++F))
  (hc:LCalls C f av H1 (qj1 c enc r)) (hk:∀ v s H',r=.ok v s->St c s H'->K (enc v) (H'++F)) (hx:∀ er s H',r=.stop er s->St c s H'->X (panI er) (H'++F)) :
  qad C ⟨dst,.call { callee:=.value (.func f),args:=args.toArray,argTypes:=ats },ty,pos,aft,g⟩ e H K X:=by
 refine S.callH args has hp hc ?_ ?_
 ·intro v H' h
  cases hr:r with
  |ok u s=>
   rw[hr] at h;obtain ⟨h1,h2⟩:=h;cases h1
   exact hk _ _ _ hr h2
  |stop er s=>
   rw[hr] at h;obtain ⟨h1,_⟩:=h;cases h1
 ·intro ch H' h
  cases hr:r with
  |ok u s=>
   rw[hr] at h;obtain ⟨h1,_⟩:=h
   cases h1
  |stop er s=>
   rw[hr] at h;obtain ⟨h1,h2⟩:=h;cases h1;exact hx _ _ _ hr h2
theorem retI {A:Type} {c:Cfg} {enc:A->LV} {r:IR A} {rs:List ResultVar} {vs:List LV} {v:A} {s:IS} {H':Heap} (hd:e.ds=[]) (h:qbA C n e H rs vs) (hr:r=.ok v s) (hv:qbq vs=enc v) (hH:HSub H' H) (hs:St c s H') :
  qac C n rs (qj1 c enc r) .ret e H:=rR hd h hH (by rw[hr];exact ⟨by rw[hv],hs⟩)
theorem retIn {A:Type} {c:Cfg} {enc:A->LV} {r:IR A} {rs:List ResultVar} {vs:List LV} {v:A} {s:IS} {H':Heap} (hd:e.ds=[]) (h:qbA C n e H rs vs) (hr:r=.ok v s) (hv:qbq vs=enc v) (hH:HSub H' H) (hs:St c s H') :
  qac C n rs (qj1 c enc r) .normal e H:=rO hd h hH (by rw[hr];exact ⟨by rw[hv],hs⟩)
theorem qeK {A:Type} {c:Cfg} {enc:A->LV} {r:IR A} {rs:List ResultVar} {er:Int} {s:IS} {H':Heap} (hd:e.ds=[]) (hr:r=.stop er s) (hH:HSub H' H) (hs:St c s H') :
  qac C n rs (qj1 c enc r) (.panic (panI er)) e H:=qac.panic hd hH (by rw[hr];exact ⟨rfl,hs⟩)
theorem retS {rs:List ResultVar} {vs:List LV} {lv:LV} {H0:Heap} (hd:e.ds=[]) (h:qbA C n e H rs vs) (hv:qbq vs=lv) (hH:HSub H0 H):qac C n rs (Same lv H0) .ret e H:=
 rR hd h hH ⟨by rw[hv],rfl⟩
end steps
instance:TMap Tryz.prog 146 151 (.pointer none) (.atom (.pointer none)):=⟨⟨9,by kernel_rfl,by kernel_rfl⟩,fun w=>(Go.zero_of_info (P:=Tryz.prog) (n:=1) zk).1 w,fun _ _=>qah⟩
instance:TMap Tryz.prog 147 22 (.slice none 0 0) qab:=⟨⟨9,by kernel_rfl,by kernel_rfl⟩,fun w=>(Go.zero_of_info (P:=Tryz.prog) (n:=1) zk).1 w,fun _ _=>qah⟩
instance:TMap Tryz.prog 148 79 (.agg [.string ⟨#[]⟩,.slice none 0 0,.slice none 0 0,.slice none 0 0].toArray) (.agg ([.string ⟨#[]⟩,.slice none 0 0,.slice none 0 0,.slice none 0 0].map .atom)):=⟨⟨9,by kernel_rfl,by kernel_rfl⟩,fun w=>(Go.zero_of_info (P:=Tryz.prog) (n:=4) zk).1 w,fun w L=>qoN w L _⟩
instance:TMap Tryz.prog 144 202 .nilFunc (.atom .nilFunc):=⟨⟨9,by kernel_rfl,by kernel_rfl⟩,fun w=>(Go.zero_of_info (P:=Tryz.prog) (n:=1) zk).1 w,fun _ _=>qah⟩
attribute [local irreducible] LOps qae qad LCalls Go.GL.Pure qax qaj qac LQ LAny qaE qal
section
variable {B0:Nat} {w0:World} {H:Heap}
theorem qgu {c:Cfg} (hC:CfgOk c) {s:IS} (hs:St c s H):LCalls (KC B0 w0) 211 [ptr c.rb 0] H (qj1 c unitV (tick s)):=by
 have hs0:=hs;have hlim:=hC.lim;obtain ⟨hl,hle,v,Ha,hacc,rfl⟩:=hs;refine cI Tryz.func211 rfl (n:=23) rfl rfl rfl ?_;refine gaa ?_;refine oC rfl (fun hc=>?_) (fun hc=>?_)
 ·refine gac ?_;refine oS (qad.panic rfl fun e' he'=>?_) rfl;refine gak ?_;have h0:s.left=0:=by have:=zt hc;omega
  exact qeK (he'.trans rfl) (by rw[tick,if_pos h0]) zhr hs0
 ·have h0:¬ s.left=0:=by have:=zf hc;omega
  refine gac ?_;have e1:(s.left:Int)-1=((s.left-1:Nat):Int):=by omega
  have e2:((c.lim-s.left:Nat):Int)+1=((c.lim-(s.left-1):Nat):Int):=by omega
  rw[e1,e2];exact retIn rfl rN (v:=()) (s:={ s with left:=s.left-1 }) (by rw[tick,if_neg h0]) rfl zhr ⟨hl,by show s.left-1<=c.lim;omega,v,Ha,hacc,rfl⟩
theorem qj7 (b:Bool):LCalls (KC B0 w0) 132 [bool b] H (Same (u32 (b2n b)) H):=by
 refine cI Tryz.func132 rfl (n:=4) rfl rfl rfl ?_;refine gao ?_;refine oC rfl (fun hc=>?_) (fun hc=>?_)
 ·refine gar ?_;exact retS rfl (zra rfl) (by rw[hc];rfl) zhr
 ·refine gaa ?_;exact retS rfl (zra rfl) (by rw[hc];rfl) zhr
end
end Go.Proofs.YtdakelgkjdaijaaGreatDoor.Inp
namespace Go.Proofs.YtdakelgkjdaijaaGreatDoor.Inp
open Go.GL Go.RowKit Go.Stele
theorem qek (n:Int):IntKind.u32.wrap n=n % 4294967296:=by
 simp only[IntKind.wrap,IntKind.bits,IntKind.signed,Bool.false_and];rfl
theorem qdy {a:Int} {b:Nat} (h:a=b):int .u32 a=u32 b:=by rw[h]
theorem qhA {p q:Prop} [Decidable p] [Decidable q] (h:p ↔ q):b2n (decide p)=b2n (decide q):=by rw[decide_eq_decide.2 h]
attribute [local irreducible] LOps qae qad LCalls Go.GL.Pure qax qaj qac LQ LAny qaE qal
section
variable {B0:Nat} {w0:World} {H:Heap} {a b:Nat}
theorem qnf (ha:a<4294967296) (hb:b<4294967296):IntKind.u32.wrap ((BitVec.ofInt IntKind.u32.bits a ^^^ BitVec.ofInt IntKind.u32.bits b).toNat:Nat)=((a ^^^ b:Nat):Int):=by
 rw[qek,BitVec.toNat_xor]
 have h1:∀ n:Nat,n<4294967296->(BitVec.ofInt IntKind.u32.bits (n:Int)).toNat=n:=fun n hn=>by
  rw[BitVec.ofInt_natCast,BitVec.toNat_ofNat];exact Nat.mod_eq_of_lt hn
 rw[h1 a ha,h1 b hb];have:a ^^^ b<4294967296:=Nat.xor_lt_two_pow (n:=32) ha hb;omega
theorem qtk (ha:a<4294967296) (hb:b<4294967296):LCalls (KC B0 w0) 125 [u32 a,u32 b] H (Same (u32 ((a+b) % 4294967296)) H):=by
 refine cI Tryz.func125 rfl (n:=8) rfl rfl rfl ?_;refine gao ?_;refine oP (Pure.addW rfl rfl) rfl ?_;refine gaf ?_;exact retS rfl (zra rfl) (qdy (by rw[qek];omega)) zhr
theorem qt9 (ha:a<4294967296) (hb:b<4294967296):LCalls (KC B0 w0) 126 [u32 a,u32 b] H (Same (u32 ((a+4294967296-b) % 4294967296)) H):=by
 refine cI Tryz.func126 rfl (n:=8) rfl rfl rfl ?_;refine gao ?_;refine oP (Pure.subW rfl rfl) rfl ?_;refine gaf ?_;exact retS rfl (zra rfl) (qdy (by rw[qek];omega)) zhr
theorem qtG (ha:a<4294967296) (hb:b<4294967296):LCalls (KC B0 w0) 127 [u32 a,u32 b] H (Same (u32 (a * b % 4294967296)) H):=by
 refine cI Tryz.func127 rfl (n:=8) rfl rfl rfl ?_;refine gao ?_;refine oP (Pure.mulW rfl rfl) rfl ?_;refine gaf ?_;exact retS rfl (zra rfl) (qdy (by rw[qek,<-Int.natCast_mul];generalize a * b=q;omega)) zhr
theorem qtg (ha:a<4294967296) (hb:b<4294967296):LCalls (KC B0 w0) 130 [u32 a,u32 b] H (Same (u32 (a ^^^ b)) H):=by
 refine cI Tryz.func130 rfl (n:=8) rfl rfl rfl ?_;refine gao ?_;refine oP (Pure.xorW rfl rfl) rfl ?_;refine gaf ?_;exact retS rfl (zra rfl) (qdy (qnf ha hb)) zhr
theorem qtm:LCalls (KC B0 w0) 131 [u32 a,u32 b] H (Same (u32 (b2n (decide (a=b)))) H):=by
 refine cI Tryz.func131 rfl (n:=9) rfl rfl rfl ?_;refine gaa ?_;refine zQ12 ?_;rw[zLz];refine gaf ?_;exact retS rfl (zra rfl) (congrArg u32 (qhA zo)) zhr
theorem qvK:b2n (!decide ((a:Int)=b))=b2n (decide (a≠b)):=by
 by_cases h:a=b
 ·simp[h,b2n]
 ·have:¬ (a:Int)=b:=by omega
  simp[h,this,b2n]
theorem qt0:LCalls (KC B0 w0) 133 [u32 a,u32 b] H (Same (u32 (b2n (decide (a≠b)))) H):=by
 refine cI Tryz.func133 rfl (n:=9) rfl rfl rfl ?_;refine gaa ?_;refine zQ12 ?_;rw[zLz];refine gaf ?_;exact retS rfl (zra rfl) (congrArg u32 (qvK)) zhr
theorem qsI:LCalls (KC B0 w0) 134 [u32 a,u32 b] H (Same (u32 (b2n (decide (a<b)))) H):=by
 refine cI Tryz.func134 rfl (n:=9) rfl rfl rfl ?_;refine gaa ?_;refine zQ12 ?_;rw[zLz];refine gaf ?_;exact retS rfl (zra rfl) (congrArg u32 (qhA zo)) zhr
theorem qsA:LCalls (KC B0 w0) 135 [u32 a,u32 b] H (Same (u32 (b2n (decide (b<a)))) H):=by
 refine cI Tryz.func135 rfl (n:=9) rfl rfl rfl ?_;refine gal ?_;refine zQ12 ?_;rw[zLz];refine gaf ?_;exact retS rfl (zra rfl) (congrArg u32 (qhA zo)) zhr
theorem qsO:LCalls (KC B0 w0) 136 [u32 a,u32 b] H (Same (u32 (b2n (decide (a<=b)))) H):=by
 refine cI Tryz.func136 rfl (n:=9) rfl rfl rfl ?_;refine gac ?_;refine zQ12 ?_;rw[zLz];refine gaf ?_;exact retS rfl (zra rfl) (congrArg u32 (qhA zo)) zhr
theorem qqr:LCalls (KC B0 w0) 137 [u32 a,u32 b] H (Same (u32 (b2n (decide (b<=a)))) H):=by
 refine cI Tryz.func137 rfl (n:=9) rfl rfl rfl ?_;refine gac ?_;refine zQ12 ?_;rw[zLz];refine gaf ?_;exact retS rfl (zra rfl) (congrArg u32 (qhA zo)) zhr
theorem qsc:LCalls (KC B0 w0) 138 [u32 a,u32 b] H (Same (u32 (b2n (decide (a≠0/\b≠0)))) H):=by
 refine cI Tryz.func138 rfl (n:=12) rfl rfl rfl ?_;refine gaa ?_;refine oB 7 rfl (fun ht=>?_) (fun ht=>?_)
 ·exact zT35
 ·exact zT36
theorem qqk:LCalls (KC B0 w0) 139 [u32 a,u32 b] H (Same (u32 (b2n (decide (a≠0∨b≠0)))) H):=by
 refine cI Tryz.func139 rfl (n:=12) rfl rfl rfl ?_;refine gaa ?_;refine oB 7 rfl (fun ht=>?_) (fun ht=>?_)
 ·exact zT35
 ·exact zT36
theorem qfu:LCalls (KC B0 w0) 124 [u32 b] H (fun r H'=>H'=H/\r=if b=0 then .panic (panI 12) else .ret (u32 b)):=by
 refine cI Tryz.func124 rfl (n:=8) rfl rfl rfl ?_;refine gaa ?_;refine oC rfl (fun hc=>?_) (fun hc=>?_)
 ·have h0:b=0:=by have:=zt hc;omega
  refine gac ?_;refine oS (qad.panic rfl fun e' he'=>?_) rfl;refine gak ?_;exact qac.panic (he'.trans rfl) zhr ⟨rfl,by rw[if_pos h0];rfl⟩
 ·have h0:¬ b=0:=by have:=zf hc;omega
  refine gaa ?_;exact rR rfl (zra rfl) zhr ⟨rfl,by rw[if_neg h0];rfl⟩
theorem qt8 {db:Nat} (ha:a<4294967296):LCalls (KC B0 w0) 128 [u32 a,u32 b,ptr db 0] [divH db] (fun r H'=>H'=[divH db]/\r=if b=0 then .panic (panI 12) else .ret (u32 (a / b))):=by
 refine cI Tryz.func128 rfl (n:=11) rfl rfl rfl ?_;refine gaa ?_
 by_cases h0:b=0
 ·exact zT21
 ·refine oS (S.callV (f:=124) (first:=#[]) (caps:=#[]) (H1:=[divH db]) (F:=[]) [_] rfl rfl (by simp) qfu ?_ ?_) rfl
  ·rintro v H' ⟨rfl,h⟩;rw[if_neg h0] at h;cases h;refine oP (Pure.quoW rfl rfl zo) rfl ?_;refine zQ50 ?_;rw[if_neg h0];exact congrArg LRes.ret (qdy (by rw[qek,Int.tdiv_eq_ediv_of_nonneg zo,<-Int.natCast_ediv];have hq:a / b<4294967296:=Nat.lt_of_le_of_lt (Nat.div_le_self a b) ha;generalize a / b=q at hq ⊢;omega))
  ·rintro ch H' ⟨rfl,h⟩;rw[if_neg h0] at h;cases h
theorem qt3 {db:Nat} (ha:a<4294967296):LCalls (KC B0 w0) 129 [u32 a,u32 b,ptr db 0] [divH db] (fun r H'=>H'=[divH db]/\r=if b=0 then .panic (panI 12) else .ret (u32 (a % b))):=by
 refine cI Tryz.func129 rfl (n:=11) rfl rfl rfl ?_;refine gaa ?_
 by_cases h0:b=0
 ·exact zT21
 ·refine oS (S.callV (f:=124) (first:=#[]) (caps:=#[]) (H1:=[divH db]) (F:=[]) [_] rfl rfl (by simp) qfu ?_ ?_) rfl
  ·rintro v H' ⟨rfl,h⟩;rw[if_neg h0] at h;cases h;refine oP (Pure.remW rfl rfl zo) rfl ?_;refine zQ50 ?_;rw[if_neg h0];exact congrArg LRes.ret (qdy (by rw[Int.tmod_eq_emod_of_nonneg zo,<-Int.natCast_emod]))
  ·rintro ch H' ⟨rfl,h⟩;rw[if_neg h0] at h;cases h
def resB (o:Option Nat):LRes:=match o with
 |some v=>.ret (u32 v)
 |none=>.panic (panI 12)
theorem qpl {db:Nat} {op:List UInt8} (hop:op∈qjL) (ha:a<4294967296) (hb:b<4294967296):∃ (f:FuncId) (caps:Array Value),GL.kvGet (qj4 db) op=some (.atom (.func (.func f) #[] caps))/\TEnter Tryz.prog f /\
  LCalls (KC B0 w0) f ([u32 a,u32 b]++caps.toList.map .atom) [divH db] (fun r H'=>H'=[divH db]/\r=resB (binI op a b)):=by
 simp only[qjL,zMi,List.not_mem_nil,or_false] at hop;rcases hop with rfl|rfl|rfl|rfl|rfl|rfl|rfl|rfl|rfl|rfl|rfl|rfl|rfl|rfl
 ·exact ⟨139,#[],rfl,inferInstance,LCalls.mono (qqk) fun r H' ⟨h1,h2⟩=>⟨h2,h1⟩⟩
 ·exact ⟨138,#[],rfl,inferInstance,LCalls.mono (qsc) fun r H' ⟨h1,h2⟩=>⟨h2,h1⟩⟩
 ·exact ⟨131,#[],rfl,inferInstance,LCalls.mono (qtm) fun r H' ⟨h1,h2⟩=>⟨h2,h1⟩⟩
 ·exact ⟨133,#[],rfl,inferInstance,LCalls.mono (qt0) fun r H' ⟨h1,h2⟩=>⟨h2,h1⟩⟩
 ·exact ⟨134,#[],rfl,inferInstance,LCalls.mono (qsI) fun r H' ⟨h1,h2⟩=>⟨h2,h1⟩⟩
 ·exact ⟨135,#[],rfl,inferInstance,LCalls.mono (qsA) fun r H' ⟨h1,h2⟩=>⟨h2,h1⟩⟩
 ·exact ⟨136,#[],rfl,inferInstance,LCalls.mono (qsO) fun r H' ⟨h1,h2⟩=>⟨h2,h1⟩⟩
 ·exact ⟨137,#[],rfl,inferInstance,LCalls.mono (qqr) fun r H' ⟨h1,h2⟩=>⟨h2,h1⟩⟩
 ·exact ⟨130,#[],rfl,inferInstance,LCalls.mono (qtg ha hb) fun r H' ⟨h1,h2⟩=>⟨h2,h1⟩⟩
 ·exact ⟨125,#[],rfl,inferInstance,LCalls.mono (qtk ha hb) fun r H' ⟨h1,h2⟩=>⟨h2,h1⟩⟩
 ·exact ⟨126,#[],rfl,inferInstance,LCalls.mono (qt9 ha hb) fun r H' ⟨h1,h2⟩=>⟨h2,h1⟩⟩
 ·exact ⟨127,#[],rfl,inferInstance,LCalls.mono (qtG ha hb) fun r H' ⟨h1,h2⟩=>⟨h2,h1⟩⟩
 ·refine ⟨128,#[.pointer (some ⟨db,0,none⟩)],rfl,inferInstance,LCalls.mono (qt8 ha) fun r H' ⟨h1,h2⟩=>⟨h1,h2.trans ?_⟩⟩
  by_cases h0:b=0
  ·rw[if_pos h0,h0];rfl
  ·rw[if_neg h0];show _=resB (if b=0 then none else _);rw[if_neg h0];rfl
 ·refine ⟨129,#[.pointer (some ⟨db,0,none⟩)],rfl,inferInstance,LCalls.mono (qt3 ha) fun r H' ⟨h1,h2⟩=>⟨h1,h2.trans ?_⟩⟩
  by_cases h0:b=0
  ·rw[if_pos h0,h0];rfl
  ·rw[if_neg h0];show _=resB (if b=0 then none else _);rw[if_neg h0];rfl
end
end Go.Proofs.YtdakelgkjdaijaaGreatDoor.Inp
namespace Go.Proofs.YtdakelgkjdaijaaGreatDoor.Inp
open Go.GL Go.RowKit Go.Stele
theorem CfgOk.keys {c:Cfg} (hC:CfgOk c):(c.sb.map (·.1)).Nodup:=by rw[hC.sbk];exact hC.valid.keys
theorem CfgOk.block {c:Cfg} (hC:CfgOk c) {k:List UInt8} (hk:k∈qan c.p.vars c.p.funcs):∃ b,(k,b)∈c.sb/\GL.kvGet (scKV c.sb) k=some (ptr b 0):=by
 rw[<-hC.sbk] at hk;obtain ⟨⟨k',b⟩,h1,rfl⟩:=List.mem_map.1 hk;exact ⟨b,h1,qo0 (A:=List UInt8×Nat) (·.1) (fun q=>ptr q.2 0) hC.keys h1⟩
theorem CfgOk.miss {c:Cfg} (hC:CfgOk c) {k:List UInt8} (hk:k ∉ qan c.p.vars c.p.funcs):GL.kvGet (scKV c.sb) k=none:=by
 rw[<-hC.sbk] at hk;exact qqt (A:=List UInt8×Nat) (·.1) (fun q=>ptr q.2 0) hk
theorem CfgOk.akeys {c:Cfg} (hC:CfgOk c):(c.ab.map (·.1)).Nodup:=by
 rw[hC.abk];exact (List.nodup_append.1 (List.nodup_append.1 (qa6 _ _ hC.valid.names).1).1).2.1
theorem CfgOk.arr {c:Cfg} (hC:CfgOk c) {k:List UInt8} (hk:k∈c.p.arrays.map (·.name)):∃ b n,(k,b,n)∈c.ab/\GL.kvGet (arKV c.ab) k=some (rowV b n):=by
 rw[<-hC.abk] at hk;obtain ⟨⟨k',b,n⟩,h1,rfl⟩:=List.mem_map.1 hk;exact ⟨b,n,h1,qo0 (A:=List UInt8×Nat×Nat) (·.1) (fun q=>rowV q.2.1 q.2.2) hC.akeys h1⟩
attribute [local irreducible] LOps qae qad LCalls Go.GL.Pure qax qaj qac LQ LAny qaE qal
section
variable {B0:Nat} {w0:World} {H:Heap}
theorem qbK {c:Cfg} (hC:CfgOk c) {s:IS} (hs:St c s H) {f:FnD} (hf:f∈c.p.funcs) {name:List UInt8} (hk:keyI f name∈qan c.p.vars c.p.funcs) {b:Nat} (hb:GL.kvGet (scKV c.sb) (keyI f name)=some (ptr b 0)) :
  LCalls (KC B0 w0) 213 [ptr c.rb 0,qaQ f,str name] H (Same (ptr b 0) H):=by
 have hke:=qwT hC.valid.names hf name;have hfl:=hC.fshort f hf;have hnl:=qru hC.short hk;obtain ⟨hl,hle,v,Ha,hacc,rfl⟩:=hs;refine cI Tryz.func213 rfl (n:=30) rfl rfl rfl ?_;refine gah ?_;refine oS (sB rfl fun b4=>?_) rfl;refine gab ?_;refine zQ32 ?_
 by_cases hin:f.name++[46]++name∈qan c.p.vars c.p.funcs
 ·rw[if_pos hin] at hke;rw[<-hke] at hb;refine qP (Pure.kvHit2 rfl rfl zm2 hb) rfl ?_;refine gac ?_;refine oC rfl (fun hc=>?_) (fun hc=>?_)
  ·refine gaa ?_;exact retS rfl (zra rfl) rfl (zhD zhr)
  ·cases hc
 ·rw[if_neg hin] at hke;rw[<-hke] at hb;refine qP (Pure.kvMiss2 rfl rfl zm2 (hC.miss hin)) rfl ?_;refine gac ?_;refine oC rfl (fun hc=>?_) (fun hc=>?_)
  ·cases hc
  ·refine gac ?_;refine oP (Pure.kvHit rfl rfl zm2 hb) rfl ?_;refine gaf ?_;exact retS rfl (zra rfl) rfl (zhD zhr)
theorem qkD {n:Nat} (h:n<18446744073709551616):IntKind.u64.wrap (n:Int)=n:=by
 have:IntKind.u64.wrap (n:Int)=(n:Int) % 18446744073709551616:=by
  simp only[IntKind.wrap,IntKind.bits,IntKind.signed,Bool.false_and];rfl
 rw[this];omega
theorem qfq {c:Cfg} (hC:CfgOk c) {s:IS} (hs:St c s H) {name:List UInt8} {b n i:Nat} (hb:(name,b,n)∈c.ab) (hg:GL.kvGet (arKV c.ab) name=some (rowV b n)) (hi:i<4294967296) :
  LCalls (KC B0 w0) 214 [ptr c.rb 0,str name,u32 i] H (fun r H'=>H'=H/\r=if i<n then .ret (ptr b i) else .panic (panI 2)):=by
 have hn:=hC.asz _ hb;simp only at hn;obtain ⟨hl,hle,v,Ha,hacc,rfl⟩:=hs;refine cI Tryz.func214 rfl (n:=25) rfl rfl rfl ?_;refine gaa ?_;refine oP (Pure.kvHit rfl rfl zm2 hg) rfl ?_;refine gac ?_;refine oP (Pure.rowLen rfl) rfl ?_;refine gad ?_;have e1:=qkD (n:=i) zo;have e2:=qkD (n:=n) zo;refine oC rfl (fun hc=>?_) (fun hc=>?_)
 ·have h0:¬ i<n:=by
   have:=zt hc;rw[e1,e2] at this;omega
  refine gac ?_;refine oS (qad.panic rfl fun e' he'=>?_) rfl;refine gak ?_;exact qac.panic (he'.trans rfl) zhr ⟨rfl,by rw[if_neg h0];rfl⟩
 ·have h0:i<n:=by
   have:=zf hc;rw[e1,e2] at this;omega
  refine gaa ?_;refine oP (Pure.indexRow rfl rfl zo zo) rfl ?_;refine zQ50 ?_;rw[if_pos h0];show LRes.ret (ptr b (0+(i:Int).toNat * 1))=_;rw[Int.toNat_natCast,Nat.mul_one,Nat.zero_add]
end
end Go.Proofs.YtdakelgkjdaijaaGreatDoor.Inp
namespace Go.Proofs.YtdakelgkjdaijaaGreatDoor.Inp
open Go.GL Go.RowKit Go.Stele
theorem qvV {sb:List (List UInt8×Nat)} {k:List UInt8} {b:Nat} (s:IS):(sb.map (·.1)).Nodup->(k,b)∈sb->∃ F,(scH sb s).Perm ((b,.cells 56 [u32 (s.sc k)])::F)/\∀ x,(scH sb (qlG s k x)).Perm ((b,.cells 56 [u32 x])::F):=by
 induction sb with
 |nil=>intro _ h;cases h
 |cons q l ih=>
  intro hn h;rw[zMc,List.nodup_cons] at hn
  have same:∀ (l:List (List UInt8×Nat)) x,k ∉ l.map (·.1)->scH l (qlG s k x)=scH l s:=fun l x hk=>by
   unfold scH;refine List.map_congr_left fun p hp=>?_;show (p.2,LObj.cells 56 [u32 (if p.1=k then x else s.sc p.1)])=_;rw[if_neg (fun he=>hk (by rw[<-he];exact List.mem_map_of_mem hp))]
  rcases zMi.1 h with rfl|h
  ·refine ⟨scH l s,List.Perm.refl _,fun x=>?_⟩;show List.Perm ((b,LObj.cells 56 [u32 (if k=k then x else s.sc k)])::scH l (qlG s k x)) _;rw[if_pos rfl,same l x hn.1]
  ·obtain ⟨F,h1,h2⟩:=ih hn.2 h;have hne:¬ q.1=k:=fun he=>hn.1 (by rw[he];exact List.mem_map_of_mem h);refine ⟨(q.2,.cells 56 [u32 (s.sc q.1)])::F,(List.Perm.cons _ h1).trans (List.Perm.swap _ _ _),fun x=>?_⟩;show List.Perm ((q.2,LObj.cells 56 [u32 (if q.1=k then x else s.sc q.1)])::scH l (qlG s k x)) _;rw[if_neg hne];exact (List.Perm.cons _ (h2 x)).trans (List.Perm.swap _ _ _)
def hdH (c:Cfg) (s:IS) (v:LV):Heap:=[(c.rb,.cells 150 (runC c s v)),(c.sm,.map (kvs (scKV c.sb)) c.sc),(c.am,.map (kvs (arKV c.ab)) c.ac),(c.fm,.map (kvs (fnKV c.p.funcs)) c.fc),(c.om,.map (kvs (qj4 c.db)) c.oc),divH c.db]
theorem qr9 (c:Cfg) (s:IS) (v:LV) (Ha:Heap):stH c s v Ha=hdH c s v++(scH c.sb s++(arH c.ab s++Ha)):=rfl
theorem qqv {A B:Type}:∀ (L:List (A×B)),(L.map (·.1)).Nodup->∀ {x y:A×B},x∈L->y∈L->x.1=y.1->x=y
 |[],_,x,y,hx,_,_=>by cases hx
 |z::L,hn,x,y,hx,hy,he=>by
  rw[zMc,List.nodup_cons] at hn;rcases zMi.1 hx with hx1|hx1
  ·rcases zMi.1 hy with hy1|hy1
   ·rw[hx1,hy1]
   ·exact absurd (by rw[<-hx1,he];exact List.mem_map_of_mem (f:=Prod.fst) hy1) hn.1
  ·rcases zMi.1 hy with hy1|hy1
   ·exact absurd (by rw[<-hy1,<-he];exact List.mem_map_of_mem (f:=Prod.fst) hx1) hn.1
   ·exact qqv L hn.2 hx1 hy1 he
def qpN (s:IS) (name:List UInt8) (l:List Nat):IS:={ s with ar:=fun x=>if x=name then l else s.ar x }
theorem quN {ab:List (List UInt8×Nat×Nat)} {k:List UInt8} {b n:Nat} (s:IS):(ab.map (·.1)).Nodup->(k,b,n)∈ab->∃ F,(arH ab s).Perm ((b,.cells 56 ((s.ar k).map u32))::F)/\∀ l,(arH ab (qpN s k l)).Perm ((b,.cells 56 (l.map u32))::F):=by
 induction ab with
 |nil=>intro _ h;cases h
 |cons q r ih=>
  intro hn h;rw[zMc,List.nodup_cons] at hn
  have same:∀ (r:List (List UInt8×Nat×Nat)) l,k ∉ r.map (·.1)->arH r (qpN s k l)=arH r s:=fun r l hk=>by
   unfold arH;refine List.map_congr_left fun p hp=>?_;show (p.2.1,LObj.cells 56 ((if p.1=k then l else s.ar p.1).map u32))=_;rw[if_neg (fun he=>hk (by rw[<-he];exact List.mem_map_of_mem hp))]
  rcases zMi.1 h with rfl|h
  ·refine ⟨arH r s,List.Perm.refl _,fun l=>?_⟩;show List.Perm ((b,LObj.cells 56 ((if k=k then l else s.ar k).map u32))::arH r (qpN s k l)) _;rw[if_pos rfl,same r l hn.1]
  ·obtain ⟨F,h1,h2⟩:=ih hn.2 h;have hne:¬ q.1=k:=fun he=>hn.1 (by rw[he];exact List.mem_map_of_mem (f:=Prod.fst) h);refine ⟨(q.2.1,.cells 56 ((s.ar q.1).map u32))::F,(List.Perm.cons _ h1).trans (List.Perm.swap _ _ _),fun l=>?_⟩;show List.Perm ((q.2.1,LObj.cells 56 ((if q.1=k then l else s.ar q.1).map u32))::arH r (qpN s k l)) _;rw[if_neg hne];exact (List.Perm.cons _ (h2 l)).trans (List.Perm.swap _ _ _)
theorem quY {c:Cfg} (hC:CfgOk c) {s:IS} {H:Heap} {k:List UInt8} {b:Nat} (hb:(k,b)∈c.sb) (hs:St c s H) :
  ∃ G,H.Perm ((b,.cells 56 [u32 (s.sc k)])::G)/\∀ x,∃ H',St c (qlG s k x) H'/\List.Perm ((b,.cells 56 [u32 x])::G) H':=by
 obtain ⟨hl,hle,v,Ha,hacc,rfl⟩:=hs;obtain ⟨F,h1,h2⟩:=qvV s hC.keys hb;have key:∀ (X S R:Heap) (p:Nat×LObj),S.Perm (p::F)->List.Perm (X++(S++R)) (p::(X++(F++R))):=fun X S R p h=>((h.append_right R).append_left X).trans List.perm_middle;refine ⟨_,key (hdH c s v) _ _ _ h1,fun x=>⟨stH c (qlG s k x) v Ha,⟨hl,hle,v,Ha,hacc,rfl⟩,(key (hdH c s v) _ _ _ (h2 x)).symm⟩⟩
theorem qwc {c:Cfg} (hC:CfgOk c) {s:IS} {H:Heap} {k:List UInt8} {b n:Nat} (hb:(k,b,n)∈c.ab) (hs:St c s H) :
  (s.ar k).length=n/\∃ G,H.Perm ((b,.cells 56 ((s.ar k).map u32))::G)/\∀ l,l.length=n->∃ H',St c (qpN s k l) H'/\List.Perm ((b,.cells 56 (l.map u32))::G) H':=by
 obtain ⟨hl,hle,v,Ha,hacc,rfl⟩:=hs;have hn:=hl _ hb;simp only at hn;refine ⟨hn,?_⟩;obtain ⟨F,h1,h2⟩:=quN s hC.akeys hb;have key:∀ (X S R:Heap) (p:Nat×LObj),S.Perm (p::F)->List.Perm (X++(S++R)) (p::(X++(F++R))):=fun X S R p h=>((h.append_right R).append_left X).trans List.perm_middle;have asc:∀ (X S A R:Heap),X++(S++(A++R))=(X++S)++(A++R):=fun X S A R=>(zAs X S _).symm;refine ⟨(hdH c s v++scH c.sb s)++(F++Ha),?_,fun l hln=>⟨stH c (qpN s k l) v Ha,⟨fun q hq=>?_,hle,v,Ha,hacc,rfl⟩,?_⟩⟩
 ·have:=key (hdH c s v++scH c.sb s) _ Ha _ h1;rw[<-asc] at this;exact this
 ·show ((if q.1=k then l else s.ar q.1)).length=q.2.2;split
  ·rename_i he
   have:q=(k,b,n):=by
    have h3:=hC.akeys;exact qqv c.ab h3 hq hb he
   rw[this];exact hln
  ·exact hl q hq
 ·have:=key (hdH c s v++scH c.sb s) _ Ha _ (h2 l);rw[<-asc] at this;exact this.symm
theorem qvP {p:Nat×LObj} {X H G:Heap} (h:H.Perm (p::G)):Pick p (X++H) (X++G):=(h.append_left X).trans List.perm_middle
theorem qvJ {p:Nat×LObj} {X H G:Heap} (h:List.Perm (p::G) H):List.Perm (p::(X++G)) (X++H):=List.perm_middle.symm.trans (h.append_left X)
theorem qgW:∀ (cs:List LV) (i:Nat) (v:LV),i<cs.length->setL cs i [v]=cs.set i v:=fun cs i v h=>by
 rw[qjo cs i [v] (by simp;omega),List.set_eq_take_append_cons_drop];rw[if_pos h]
 simp
def Good (c:Cfg) (n:Nat) (s:IS):Prop:=Bnd s/\s.left<=n/\s.out.length+s.left<=c.lim
theorem qkY {c:Cfg} (hC:CfgOk c) {n m:Nat} {f:FnD} {x:Ex} {s s':IS} {v:Nat} (hx:numE x) (hg:Good c m s) (h:evI c.p n f x s=.ok v s'):Good c m s'/\v<4294967296/\s'.left<s.left:=by
 have h1:=(qoD hC.nums n).1 f x s hx hg.1;have h2:=(qjE c.p n).1 f x s;have h3:=quX c.p n f x s s' v h;rw[h] at h1 h2;unfold Few at h2;simp only[IR.st] at h2;exact ⟨⟨h1.2,zNt (Nat.le_of_lt h3) hg.2.1,by have:=hg.2.2;omega⟩,h1.1,h3⟩
theorem qeU {c:Cfg} (hC:CfgOk c) {n m:Nat} {f:FnD} {x:Sm} {s s':IS} {r:Option Nat} (hx:numS x) (hg:Good c m s) (h:stI c.p n f x s=.ok r s'):Good c m s'/\qct r:=by
 have h1:=(qoD hC.nums n).2 f x s hx hg.1;have h2:=(qjE c.p n).2 f x s;have h3:=((qfW c.p n).2 f x s).2;rw[h] at h1 h2 h3;unfold Few at h2;simp only[IR.st] at h2 h3;exact ⟨⟨h1.2,zNt h3 hg.2.1,by have:=hg.2.2;omega⟩,h1.1⟩
theorem qs6 {c:Cfg} (hC:CfgOk c) {n m:Nat} {f:FnD} {l:List Sm} {s s':IS} {r:Option Nat} (hx:qb7 l) (hg:Good c m s) (h:blkR (stI c.p n f) l s=.ok r s'):Good c m s'/\qct r:=by
 have h1:=qhh l s (fun a ha s hs=>(qoD hC.nums n).2 f a s (qep hx ha) hs) hg.1;have h2:=qf0 ((qjE c.p n).2 f) l s;have h3:=(qdV ((qfW c.p n).2 f) l s).2;rw[h] at h1 h2 h3;unfold Few at h2;simp only[IR.st] at h2 h3;exact ⟨⟨h1.2,zNt h3 hg.2.1,by have:=hg.2.2;omega⟩,h1.1⟩
theorem qqx {A B:Type} (g:A->IS->IR Nat) (a:A) (l:List A) (s:IS) (F:List Nat->IS->IR B):(mapR g (a::l) s).bind F=(g a s).bind fun v s=>(mapR g l s).bind fun vs s=>F (v::vs) s:=by
 rw[mapR]
 cases g a s with
 |stop e s=>rfl
 |ok v s=>
  show ((mapR g l s).bind _).bind F=_
  cases hm:mapR g l s with
  |stop e s=>show _=(mapR g l _).bind _;rw[hm];rfl
  |ok vs s=>show _=(mapR g l _).bind _;rw[hm];rfl
end Go.Proofs.YtdakelgkjdaijaaGreatDoor.Inp
namespace Go.Proofs.YtdakelgkjdaijaaGreatDoor.Inp
open Go.GL Go.RowKit Go.Stele
abbrev cenv (c:Cfg) (kn:List FSum) (f:FnD):CEnv:=envF c.p.vars (c.p.arrays.map (·.name)) (c.p.funcs.map (·.name)) kn f
def qqb (B0:Nat) (w0:World) (c:Cfg) (n:Nat):Prop:=∀ (f:FnD) (kn:List FSum) (x:Ex) (s:IS) (H:Heap),f∈c.p.funcs->qh8 c.p.funcs kn->errE (cenv c kn f) x=0->numE x->smE x->Good c n s->St c s H ->
 LCalls (KC B0 w0) 212 [ptr c.rb 0,qaQ f,encE x] H (qj1 c u32 (evI c.p n f x s))
def qsS (B0:Nat) (w0:World) (c:Cfg) (n:Nat):Prop:=∀ (f:FnD) (kn:List FSum) (x:Sm) (s:IS) (H:Heap),f∈c.p.funcs->qh8 c.p.funcs kn->errS (cenv c kn f) x=0->numS x->smS x->Good c n s->St c s H ->
 LCalls (KC B0 w0) 179 [ptr c.rb 0,qaQ f,encS x] H (qj1 c retV (stI c.p n f x s))
def BlkH (B0:Nat) (w0:World) (c:Cfg) (n:Nat):Prop:=∀ (f:FnD) (kn:List FSum) (l:List Sm) (s:IS) (H:Heap),f∈c.p.funcs->qh8 c.p.funcs kn->qcr (cenv c kn f) l=0->qb7 l->Few6 l.length->smSs l->Good c n s->St c s H ->
 LCalls (KC B0 w0) 141 [ptr c.rb 0,qaQ f,.list (l.map encS)] H (qj1 c retV (blkR (stI c.p n f) l s))
attribute [local irreducible] LOps qae qad LCalls Go.GL.Pure qax qaj qac LQ LAny qaE qal
section
variable {B0:Nat} {w0:World}
theorem qc5 {c:Cfg} (hC:CfgOk c) {n:Nat} (hX:qsS B0 w0 c n):BlkH B0 w0 c n:=by
 intro f kn l s H hf hk hv hnum hlen6 hsm hg hs;refine cI Tryz.func141 rfl (n:=28) rfl rfl rfl ?_;refine gah ?_;refine oS (sB rfl fun b4=>?_) rfl;refine gaa ?_
 refine oL (fun k ls H'=>∃ (pre l1:List Sm) (s1:IS) (Hs:Heap),l=pre++l1/\k=l1.length/\ls=[(0,ptr c.rb 0),(4,ptr b4 0),(12,.list (l.map encS)),(13,int .i64 ((l.map encS).length:Int)),(14,int .i64 (pre.length:Int))]/\H'=(b4,.cells 79 [str f.name,.list (f.params.map str),.list (f.locals.map str),.list (f.body.map encS)])::Hs/\St c s1 Hs/\Good c n s1/\qcr (cenv c kn f) l1=0/\qb7 l1/\smSs l1/\blkR (stI c.p n f) l s=blkR (stI c.p n f) l1 s1)
  ⟨l.length,_,_,⟨[],l,s,H,rfl,rfl,rfl,rfl,hs,hg,hv,hnum,hsm,rfl⟩,⟨rfl,rfl,rfl,rfl,rfl,trivial⟩,zhR _⟩ ?_
 rintro k ls H' ⟨pre,l1,s1,Hs,hl,rfl,rfl,rfl,hs1,hg1,hv1,hn1,hm1,hI⟩ j hj
 have hl6:pre.length<=2000000:=by
  have h6:l.length<=2000000:=hlen6;rw[hl,zLa] at h6;omega
 refine gaj ?_;refine oC rfl (fun hc=>?_) (fun hc=>?_)
 ·have hlen:=zt hc;rw[zLm,hl,zLa] at hlen
  obtain ⟨a,l2,rfl⟩:∃ a l2,l1=a::l2:=by
   cases l1 with
   |nil=>simp at hlen
   |cons a l2=>exact ⟨a,l2,rfl⟩
  rw[qcr] at hv1;obtain ⟨hva,hvl⟩:=qap.1 hv1;rw[blkR] at hI;refine gam ?_;refine oP (xR (el':=encS a) (cs:=[_,_,_,_,_,_]) rfl rfl zo (by rw[hl];exact get_mid encS pre a l2) rfl rfl) rfl ?_;refine gad ?_;refine oS (sA fun b9=>?_) rfl;refine gac ?_;refine oS (S.callI [_,_,_] rfl qd0 (hX f kn a s1 Hs hf hk hva hn1.1 hm1.1 hg1 hs1) (fun r s2 H2 hr hs2=>?_) (fun er s2 H2 hr hs2 e' he'=>?_)) rfl
  ·obtain ⟨hg2,_⟩:=qeU hC hn1.1 hg1 hr;rw[hr] at hI
   cases r with
   |none=>
    refine gau ?_;refine oC rfl (fun hd=>?_) (fun hd=>?_)
    ·cases hd
    ·refine gaa ?_
     exact ⟨l2.length,_,_,Nat.lt_succ_self _,⟨pre++[a],l2,s2,H2,by rw[hl];simp,rfl,rfl,rfl,hs2,hg2,hvl,hn1.2,hm1.2,hI⟩,⟨rfl,rfl,rfl,rfl,qak (by simp),trivial⟩,qrD,hj⟩
   |some v=>
    refine gau ?_;refine oC rfl (fun hd=>?_) (fun hd=>?_)
    ·refine gaa ?_;exact retI (v:=some v) hj (rC (zrt rfl) (zra rfl)) hI rfl qaF hs2
    ·cases hd
  ·refine gae ?_;rw[hr] at hI;exact qeK (he'.trans hj) hI qaF hs2
 ·have hlen:=zf hc;rw[zLm,hl,zLa] at hlen
  obtain rfl:l1=[]:=by
   cases l1 with
   |nil=>rfl
   |cons a l2=>simp at hlen;omega
  refine gaa ?_;exact retI (v:=none) hj (rC (zrt rfl) (zra rfl)) (hI.trans rfl) rfl (zhD zhr) hs1
end
end Go.Proofs.YtdakelgkjdaijaaGreatDoor.Inp
namespace Go.Proofs.YtdakelgkjdaijaaGreatDoor.Inp
open Go.GL Go.RowKit Go.Stele
theorem qeo {A B:Type} {v:A} {s:IS} {f:A->IS->IR B}:(IR.ok v s).bind f=f v s:=rfl
theorem qbQ {A B:Type} {e:Int} {s:IS} {f:A->IS->IR B}:(IR.stop e s).bind f=.stop e s:=rfl
theorem qtz {P:Pr} {n m v:Nat} {f:FnD} {x:Ex} {thn:List Sm} {s:IS} (hm:s.left<=m) (hv:¬ v=0):whlR (evI P n f x) (blkR (stI P n f) thn) m v s=(blkR (stI P n f) thn s).bind fun r s=>match r with
  |some y=>.ok (some y) s
  |none=>(evI P n f x s).bind fun v s=>whlR (evI P n f x) (blkR (stI P n f) thn) (m-1) v s:=by
 cases m with
 |succ m=>rw[whlR,if_neg hv];rfl
 |zero=>
  have h0:s.left=0:=by omega
  have ht:tick s=.stop 13 s:=by rw[tick,if_pos h0]
  have he:evI P n f x s=.stop 13 s:=by
   cases n with
   |zero=>rw[evI]
   |succ n=>
    obtain ⟨op,num,name,args⟩:=x;rw[evI,ht,qbQ]
  rw[whlR,if_neg hv]
  cases thn with
  |nil=>
   rw[blkR,qeo];show _=(evI P n f x s).bind _
   rw[he,qbQ]
  |cons a l=>
   have hs:stI P n f a s=.stop 13 s:=by
    cases n with
    |zero=>rw[stI]
    |succ n=>
     obtain ⟨k,nm,i,va,t,e⟩:=a;rw[stI,ht,qbQ]
   rw[blkR,hs,qbQ,qbQ]
section steps
variable {C:Ctx} {n:Nat} {e:Env} {H:Heap} {dst:Option Nat} {ty:TypeId} {pos:String} {aft:Array Edge} {g:Option (Nat×Bool)} {K:LV->Heap->Prop} {X:List PanicEntry->Heap->Prop}
theorem qad.callI {A:Type} {c:Cfg} {enc:A->LV} {r:IR A} {f:FuncId} [TEnter C.P f] (args:List Operand) {ats:Array TypeId} {av:List LV} (has:args.map e.ev=av)
  (hc:LCalls C f av H (qj1 c enc r)) (hk:∀ v s H',r=.ok v s->St c s H'->K (enc v) H') (hx:∀ er s H',r=.stop er s->St c s H'->X (panI er) H') :
  qad C ⟨dst,.call { callee:=.value (.func f),args:=args.toArray,argTypes:=ats },ty,pos,aft,g⟩ e H K X:=by
 refine qad.conseq (S.callI (F:=[]) (K:=fun lv H'=>K lv H') (X:=X) args has (by rw[zLz]) hc (fun v s H' h1 h2=>by rw[zLz];exact hk v s H' h1 h2) (fun er s H' h1 h2=>by rw[zLz];exact hx er s H' h1 h2)) (fun lv H' h=>⟨lv,H',vR _,zhR _,h⟩)
end steps
attribute [local irreducible] LOps qae qad LCalls Go.GL.Pure qax qaj qac LQ LAny qaE qal LS
section
variable {B0:Nat} {w0:World}
theorem qmQ {c:Cfg} (hC:CfgOk c) {n:Nat} (hE:qqb B0 w0 c n) (hB:BlkH B0 w0 c n):qsS B0 w0 c (n+1):=by
 intro f kn x s H hf hk hv hnum hsm hg hs;obtain ⟨kind,name,index,value,thn,els⟩:=x;obtain ⟨hform,hval,hidx,hname,hthn,hels⟩:=qpk hv;obtain ⟨hn1,hn2,hn3,hn4⟩:=hnum;obtain ⟨hm1,hm2,hm3,hm4,hm5,hm6,hm7,hm8⟩:=hsm;generalize hI:stI c.p (n+1) f (Sm.mk kind name index value thn els) s=R;rw[stI] at hI;rw[qcb];refine cI Tryz.func179 rfl (n:=93) rfl rfl rfl ?_;refine gah ?_;refine oS (sB rfl fun b4=>?_) rfl;refine oS (sB rfl fun b5=>?_) rfl;refine gao ?_;refine oS (S.callI [_] rfl qd0 (qgu hC hs) (fun u s1 H1 hr hs1=>?_) (fun er s1 H1 hr hs1 e' he'=>?_)) rfl;rotate_left
 ·refine gak ?_;rw[hr,qbQ] at hI;exact qeK (he'.trans rfl) hI.symm qaF hs1
 have hg1:Good c n s1:=by
  have h1:=qiC hr;have h2:=qkP hg.1;rw[hr] at h2
  have h3:s1.out=s.out:=by
   unfold tick at hr;split at hr
   ·cases hr
   ·cases hr;rfl
  exact ⟨h2.2,by have:=hg.2.1;omega,by rw[h3];have:=hg.2.2;omega⟩
 rw[hr,qeo] at hI;refine LOps.perm (qd0 (H:=H1)).symm ?_;refine gaa ?_;refine oC rfl (fun hc=>?_) (fun hc=>?_)
 ·have h7:kind=7:=zt hc;rw[if_pos h7] at hI;refine gac ?_;refine oS (qad.panic rfl fun e' he'=>?_) rfl;refine gak ?_;exact qeK (he'.trans rfl) hI.symm (zhD (zhD zhr)) hs1
 have h7:¬ kind=7:=zf hc;rw[if_neg h7] at hI;obtain ⟨x0,rfl⟩:=form_value hform h7;rw[qb6] at hval;obtain ⟨hv0,_⟩:=qap.1 hval;refine gab ?_;refine qae.tail 6 zk ?_;refine gad ?_;refine lP (xR (el':=encE x0) (cs:=[_,_,_,_]) rfl rfl zo rfl rfl rfl) rfl ?_;refine gad ?_;refine oS (S.callI [_,_,_] rfl qd0 (hE f kn x0 s1 H1 hf hk hv0 hn2.1 hm6.1 hg1 hs1) (fun v s2 H2 hr2 hs2=>?_) (fun er s2 H2 hr2 hs2 e' he'=>?_)) rfl;rotate_left
 ·refine gak ?_;rw[show ([x0]:List Ex).headD default=x0 from rfl,hr2,qbQ] at hI;exact qeK (he'.trans rfl) hI.symm qaF hs2
 obtain ⟨hg2,hv2,hlt2⟩:=qkY hC hn2.1 hg1 hr2;rw[show ([x0]:List Ex).headD default=x0 from rfl,hr2,qeo] at hI;refine LOps.perm (qd0 (H:=H2)).symm ?_;refine gaa ?_
 by_cases hk1:kind=1
 ·subst hk1;rw[if_pos rfl] at hI;rw[if_pos rfl] at hname;have hpl:=qkz hf hname;obtain ⟨b,hb1,hb2⟩:=hC.block hpl;obtain ⟨G,hG1,hG2⟩:=quY hC hb1 hs2;obtain ⟨H3,hs3,hp3⟩:=hG2 v;refine oC rfl (fun hc=>?_) (fun hc=>by cases hc);refine gac ?_;refine oS (S.callS [_,_,_] rfl qd0 (qbK hC hs2 hf hpl hb2) ?_) rfl;refine LOps.perm (qd0 (H:=H2)).symm ?_;refine gab ?_;refine oS (sS (cs':=[u32 v]) rfl (qvP (X:=[_,_]) hG1) rfl rfl rfl rfl rfl ?_) rfl;refine LOps.perm (qvJ (X:=[_,_]) hp3) ?_;refine gaa ?_;exact retI (v:=none) rfl (rC (zrt rfl) (zra rfl)) hI.symm rfl (zhD (zhD zhr)) hs3
 refine oC rfl (fun hc=>absurd (zt hc) hk1) (fun _=>?_);rw[if_neg hk1] at hI hname;refine gai ?_
 by_cases hk2:kind=2
 ·subst hk2;rw[if_pos rfl] at hI hname;obtain ⟨i0,rfl⟩:=form_index hform;rw[qb6] at hidx;obtain ⟨hi0,_⟩:=qap.1 hidx
  have hpl:name∈c.p.arrays.map (·.name):=by
   unfold qfF at hname;split at hname
   ·rename_i h
    exact h
   ·split at hname <;> cases hname
  obtain ⟨b,m,hb1,hb2⟩:=hC.arr hpl;refine oC rfl (fun hc=>?_) (fun hc=>by cases hc);refine cD (m:=14) rfl [(b5,.cells 134 [int .i64 2,str name,.list ([i0].map encE),.list ([x0].map encE),.list (thn.map encS),.list (els.map encS)]),(b4,.cells 79 [str f.name,.list (f.params.map str),.list (f.locals.map str),.list (f.body.map encS)])] ?_;refine aT 0 rfl rfl (pM (lv:=.atom _) rfl) ?_;refine aT 1 rfl rfl (pF rfl) ?_;refine aT 2 rfl rfl (pL (c:=.atom _) rfl zm0 rfl) ?_;refine aT 3 rfl rfl (pM (lv:=.atom _) rfl) ?_;refine aT 4 rfl rfl (pG (cs':=[_,_,_,_]) rfl zm1 rfl rfl) ?_;refine aT 5 rfl rfl (pF rfl) ?_;refine aT 6 rfl rfl (pL (c:=.list _) rfl zm0 rfl) ?_;refine LAny.take (i:=7) (zhP pH zhp) rfl zk zk zk rfl (xR (el':=encE i0) (cs:=[_,_,_,_]) rfl rfl zo rfl rfl rfl) ?_;refine aT 8 rfl rfl (pR (cs':=[_,_,_,_]) rfl rfl rfl) ?_;refine aT 11 rfl rfl (pM (lv:=.atom _) rfl) ?_;refine aL ?_ (zhP pH zhp);refine lO 9 (lS (H1:=H2) rfl (.inl rfl) rfl qd0 zhr (qad.callI [_,_,_] rfl (hE f kn i0 s2 H2 hf hk hi0 hn1.1 hm5.1 hg2 hs2) (fun i s3 H3 hr3 hs3=>?_) (fun er s3 H3 hr3 hs3 e' he'=>?_)));rotate_left
  ·refine gae ?_;rw[show ([i0]:List Ex).headD default=i0 from rfl,hr3,qbQ] at hI;exact qeK (he'.trans rfl) hI.symm qaF hs3
  obtain ⟨hg3,hv3,_⟩:=qkY hC hn1.1 hg2 hr3;rw[show ([i0]:List Ex).headD default=i0 from rfl,hr3,qeo] at hI;obtain ⟨hlen,G,hG1,hG2⟩:=qwc hC hb1 hs3
  by_cases hin:i<m
  ·have hget:(s3.ar name)[i]? = some (s3.ar name)[i]:=List.getElem?_eq_getElem zo;rw[hget] at hI;refine lO 10 (lS (H1:=H3) rfl (.inl rfl) rfl zpr zhr (qad.call (args:=[_,_,_]) (qfq hC hs3 hb1 hb2 hv3) ?_ ?_))
   ·rintro lv H' ⟨rfl,h⟩;rw[if_pos hin] at h;cases h;refine lO 12 (lH rfl rfl (pN rfl) ?_);obtain ⟨H4,hs4,hp4⟩:=hG2 ((s3.ar name).set i v) (by rw[List.length_set];exact hlen);refine lO 13 (lS (H1:=H') rfl (.inl rfl) rfl zpr zhr (sS (cs':=((s3.ar name).set i v).map u32) rfl hG1 rfl rfl ?_ rfl ?_ ?_))
    ·rw[zLm,hlen]
     simp
     omega
    ·rw[qgW _ _ _ (by rw[zLm];omega),List.map_set]
    ·refine qaE.weakH (H':=H4++_) ⟨[],by rw[zLz];exact hp4.append_right _⟩ ?_;refine lD zk ?_;refine gaa ?_;exact retI (v:=none) rfl (rC (zrt rfl) (zra rfl)) hI.symm rfl qaF hs4
   ·rintro ch H' ⟨rfl,h⟩;rw[if_pos hin] at h;cases h
  ·have hget:(s3.ar name)[i]? = none:=List.getElem?_eq_none zo;rw[hget] at hI;refine lO 10 (lS (H1:=H3) rfl (.inl rfl) rfl zpr zhr (qad.call (args:=[_,_,_]) (qfq hC hs3 hb1 hb2 hv3) ?_ ?_))
   ·rintro lv H' ⟨rfl,h⟩;rw[if_neg hin] at h;cases h
   ·rintro ch H' ⟨rfl,h⟩ e' he';rw[if_neg hin] at h;cases h;refine gae ?_;exact qeK (he'.trans rfl) hI.symm qaF hs3
 refine oC rfl (fun hc=>absurd (zt hc) hk2) (fun _=>?_);rw[if_neg hk2] at hI;refine gai ?_
 by_cases hk5:kind=5
 ·subst hk5;rw[if_pos rfl] at hI;refine oC rfl (fun hc=>?_) (fun hc=>by cases hc);refine gaa ?_;exact retI (v:=some v) rfl (rC (zrt rfl) (zra rfl)) hI.symm rfl (zhD (zhD zhr)) hs2
 refine oC rfl (fun hc=>absurd (zt hc) hk5) (fun _=>?_);rw[if_neg hk5] at hI;refine gai ?_
 by_cases hk3:kind=3
 ·subst hk3;rw[if_pos rfl] at hI;refine oC rfl (fun hc=>?_) (fun hc=>by cases hc);refine gaa ?_;refine oC rfl (fun hd=>?_) (fun hd=>?_)
  ·have hv0':v≠0:=by
    intro h;subst h;cases hd
   rw[if_pos hv0'] at hI;refine gac ?_;refine oS (S.callI [_,_,_] rfl qd0 (hB f kn thn s2 H2 hf hk hthn hn3 hm3 hm7 hg2 hs2) (fun r s3 H3 hr3 hs3=>?_) (fun er s3 H3 hr3 hs3 e' he'=>?_)) rfl
   ·rw[hr3] at hI;refine gab ?_;exact retI (v:=r) rfl (rC (zrt rfl) (zra rfl)) hI.symm rfl qaF hs3
   ·refine gae ?_;rw[hr3] at hI;exact qeK (he'.trans rfl) hI.symm qaF hs3
  ·have hv0':¬ v≠0:=by
    intro h;have h2:(!decide ((v:Int)=0))=false:=hd;simp at h2;omega
   rw[if_neg hv0'] at hI;refine gac ?_;refine oS (S.callI [_,_,_] rfl qd0 (hB f kn els s2 H2 hf hk hels hn4 hm4 hm8 hg2 hs2) (fun r s3 H3 hr3 hs3=>?_) (fun er s3 H3 hr3 hs3 e' he'=>?_)) rfl
   ·rw[hr3] at hI;refine gab ?_;exact retI (v:=r) rfl (rC (zrt rfl) (zra rfl)) hI.symm rfl qaF hs3
   ·refine gae ?_;rw[hr3] at hI;exact qeK (he'.trans rfl) hI.symm qaF hs3
 refine oC rfl (fun hc=>absurd (zt hc) hk3) (fun _=>?_);rw[if_neg hk3] at hI;refine gai ?_
 by_cases hk4:kind=4
 ·subst hk4;rw[if_pos rfl] at hI;refine oC rfl (fun hc=>?_) (fun hc=>by cases hc);refine gab ?_
  refine oL (fun k ls H'=>∃ (m:Nat) (v1:Nat) (s3:IS) (Hs:Heap),k=s3.left/\s3.left<=m/\v1<4294967296/\ls=[(0,ptr c.rb 0),(4,ptr b4 0),(5,ptr b5 0),(8,u32 v1)]/\H'=(b5,.cells 134 [int .i64 4,str name,.list (index.map encE),.list ([x0].map encE),.list (thn.map encS),.list (els.map encS)])::(b4,.cells 79 [str f.name,.list (f.params.map str),.list (f.locals.map str),.list (f.body.map encS)])::Hs/\St c s3 Hs/\Good c n s3/\whlR (evI c.p n f x0) (blkR (stI c.p n f) thn) m v1 s3=R)
   ⟨_,_,_,⟨n,v,s2,H2,rfl,hg2.2.1,hv2,rfl,rfl,hs2,hg2,hI⟩,⟨rfl,rfl,rfl,rfl,trivial⟩,zhR _⟩ ?_
  rintro k ls H' ⟨m,v1,s3,Hs,rfl,hm,hv1,rfl,rfl,hs3,hg3,hI3⟩ j hj;refine gaa ?_
  by_cases hv0':v1=0
  ·subst hv0';rw[qsf] at hI3;refine oC rfl (fun hc=>by cases hc) (fun _=>?_);refine gaa ?_;exact retI (v:=none) hj (rC (zrt rfl) (zra rfl)) hI3.symm rfl (zhD (zhD zhr)) hs3
  ·rw[qtz hm hv0'] at hI3;refine oC rfl (fun _=>?_) (fun hd=>?_);rotate_left
   ·have h2:(!decide ((v1:Int)=0))=false:=hd;simp at h2;omega
   refine gac ?_;refine oS (S.callI [_,_,_] rfl qd0 (hB f kn thn s3 Hs hf hk hthn hn3 hm3 hm7 hg3 hs3) (fun r s4 H4 hr4 hs4=>?_) (fun er s4 H4 hr4 hs4 e' he'=>?_)) rfl;rotate_left
   ·refine gae ?_;rw[hr4,qbQ] at hI3;exact qeK (he'.trans hj) hI3.symm qaF hs4
   rw[hr4,qeo] at hI3;obtain ⟨hg4,_⟩:=qs6 hC hn3 hg3 hr4;have hlt4:=(qdV ((qfW c.p n).2 f) thn s3).2;rw[hr4] at hlt4;refine LOps.perm (qd0 (H:=H4)).symm ?_
   cases r with
   |some y=>
    refine gau ?_;refine oC rfl (fun _=>?_) (fun hd=>by cases hd);refine gaa ?_
    exact retI (v:=some y) hj (rC (zrt rfl) (zra rfl)) hI3.symm rfl (zhD (zhD zhr)) hs4
   |none=>
    refine gau ?_;refine oC rfl (fun hd=>by cases hd) (fun _=>?_);refine gab ?_;refine qae.tail 6 zk ?_;refine gad ?_;refine lP (xR (el':=encE x0) (cs:=[_,_,_,_]) rfl rfl zo rfl rfl rfl) rfl ?_;refine gad ?_;refine oS (S.callI [_,_,_] rfl qd0 (hE f kn x0 s4 H4 hf hk hv0 hn2.1 hm6.1 hg4 hs4) (fun v5 s5 H5 hr5 hs5=>?_) (fun er s5 H5 hr5 hs5 e' he'=>?_)) rfl
    ·obtain ⟨hg5,hv5,hlt5⟩:=qkY hC hn2.1 hg4 hr5;rw[hr5,qeo] at hI3;refine gaf ?_;have hlt4':s4.left<=s3.left:=hlt4;exact ⟨s5.left,_,_,by omega,⟨m-1,v5,s5,H5,rfl,by omega,hv5,rfl,rfl,hs5,hg5,hI3⟩,⟨rfl,rfl,rfl,rfl,trivial⟩,⟨[],by rw[zLz];exact qd0.symm⟩,hj⟩
    ·refine gae ?_;rw[hr5,qbQ] at hI3;exact qeK (he'.trans hj) hI3.symm qaF hs5
 refine oC rfl (fun hc=>absurd (zt hc) hk4) (fun _=>?_);rw[if_neg hk4] at hI;refine gaa ?_;exact retI (v:=none) rfl (rC (zrt rfl) (zra rfl)) hI.symm rfl (zhD (zhD zhr)) hs2
end
end Go.Proofs.YtdakelgkjdaijaaGreatDoor.Inp
namespace Go.Proofs.YtdakelgkjdaijaaGreatDoor.Inp
open Go.GL Go.RowKit Go.Stele
section
variable {C:Ctx} {e:Env} {H:Heap} {dst:Option Nat} {ty:TypeId} {pos:String} {aft:Array Edge} {g:Option (Nat×Bool)} {x:Operand}
theorem Pure.ltail {t el s:Nat} [ht:TSlice C.P t el s] {lo:Operand} {k:IntKind} {a:LV} {es:List LV} (hx:elems (e.ev x)=some (a::es)) (hlo:e.ev lo=int k 1) (hs:∀ v∈a::es,v.cells.length=s):Pure C ⟨dst,.slice t x (some lo) none none,ty,pos,aft,g⟩ e H (.list es):=by
 have:=Pure.lslice (t:=t) (C:=C) (H:=H) (dst:=dst) (ty:=ty) (pos:=pos) (aft:=aft) (g:=g) (lo:=some lo) (hi:=none) (i:=1) (j:=(((a::es).length:Nat):Int)) hx ⟨k,hlo⟩ rfl zDd (by simp only[zLc];omega) (Int.le_refl _) hs
 have h2:((a::es).take (((a::es).length:Nat):Int).toNat).drop (1:Int).toNat=es:=by
  rw[Int.toNat_natCast,List.take_length];rfl
 rwa [h2] at this
end
theorem qkK (n:Nat):IntKind.u8.wrap (n:Int)=((UInt8.ofNat n).toNat:Int):=by
 have h:IntKind.u8.wrap (n:Int)=(n:Int) % 256:=by
  simp only[IntKind.wrap,IntKind.bits,IntKind.signed,Bool.false_and];rfl
 rw[h];have h2:(UInt8.ofNat n).toNat=n % 256:=by simp
 rw[h2];omega
theorem qjG {s:Nat} {v:LV} {es:List LV} {H F:Heap} (h:GL.Acc s v es H F):v.cells? = some [v]/\([v].all qc0)=true:=by
 cases h <;> exact ⟨rfl,rfl⟩
theorem qr0 (l:List Nat):∀ v∈l.map u32,v.cells.length=1:=fun v hv=>by
 obtain ⟨a,_,rfl⟩:=List.mem_map.1 hv;rfl
theorem qtE (c:Cfg) (s:IS) (v:LV) (Ha:Heap):(stH c s v Ha).Perm (Ha++(hdH c s v++(scH c.sb s++arH c.ab s))):=by
 rw[qr9];have:hdH c s v++(scH c.sb s++(arH c.ab s++Ha))=(hdH c s v++(scH c.sb s++arH c.ab s))++Ha:=by simp only[zAs]
 rw[this];exact zPc
theorem qwi (c:Cfg) (s:IS) (v:LV) (Ha:Heap):(hdH c s v++(scH c.sb s++arH c.ab s))++Ha=stH c s v Ha:=by
 rw[qr9];simp only[zAs]
theorem qpL {c:Cfg} (hC:CfgOk c) {f:FnD} (hf:f∈c.p.funcs) {p:List UInt8} (hp:p∈f.params):keyI f p∈qan c.p.vars c.p.funcs:=by
 unfold keyI;rw[if_pos (.inl hp)];exact (qqm hC.valid.names hf p).2 (List.mem_append.2 (.inl hp))
theorem CfgOk.fn {c:Cfg} (hC:CfgOk c) {f:FnD} (hf:f∈c.p.funcs):GL.kvGet (fnKV c.p.funcs) f.name=some (qaQ f):=
 qo0 (A:=FnD) (·.name) qaQ (List.nodup_append.1 (qa6 _ _ hC.valid.names).1).2.1 hf
attribute [local irreducible] LOps qae qad LCalls Go.GL.Pure qax qaj qac LQ LAny qaE qal LS
section
variable {B0:Nat} {w0:World}
theorem qi6 {c:Cfg} (hC:CfgOk c) {n:Nat} (hB:BlkH B0 w0 c n) {f0:FnD} {kn:List FSum} (hk0:qh8 c.p.funcs kn) {name:List UInt8} {vs:List Nat} {s:IS} {H:Heap} (hv:callE (cenv c kn f0) name vs.length=0) (hvs:∀ v∈vs,Lt v)
  (hbd:Bnd s) (hleft:s.left<=n) (hroom:s.out.length+s.left+1<=c.lim) (hs:St c s H):LCalls (KC B0 w0) 241 [ptr c.rb 0,str name,.list (vs.map u32)] H (qj1 c u32 (callI c.p (stI c.p n) name vs s)):=by
 have hs0:=hs;have hlim:=hC.lim;generalize hI:callI c.p (stI c.p n) name vs s=R;unfold callI at hI;refine cI Tryz.func241 rfl (n:=85) rfl rfl rfl ?_;refine gaa ?_
 by_cases hin:name=[105,110]
 ·subst hin;rw[if_pos rfl] at hI;obtain ⟨hl,hle,v,Ha,hacc,rfl⟩:=hs;refine oC rfl (fun hc=>?_) (fun hc=>by cases hc);refine gaa ?_
  cases hinp:s.inp with
  |nil=>
   rw[hinp] at hI;refine oC rfl (fun hc=>?_) (fun hc=>?_)
   ·refine gaa ?_;exact retI (v:=4294967295) rfl (zra rfl) hI.symm rfl zhr hs0
   ·cases hc
  |cons a r=>
   rw[hinp] at hI;refine oC rfl (fun hc=>?_) (fun hc=>?_)
   ·have:=zt hc;simp at this;omega
   ·refine gaa ?_;refine oP (xR (el':=u32 a) (cs:=[u32 a]) rfl rfl zo (by rw[hinp];rfl) rfl rfl) rfl ?_;refine gac ?_;refine oP (Pure.ltail (a:=u32 a) (es:=r.map u32) (by rw[show elems _=some (s.inp.map u32) from rfl,hinp];rfl) rfl (qr0 (a::r))) rfl ?_;refine gac ?_;exact retI (v:=a) rfl (zra rfl) hI.symm rfl zhr ⟨hl,hle,v,Ha,hacc,rfl⟩
 refine oC rfl (fun hc=>absurd (zt hc) hin) (fun _=>?_);rw[if_neg hin] at hI;unfold callE at hv;rw[if_neg hin] at hv;refine gas ?_
 by_cases hout:name=[111,117,116]
 ·subst hout;rw[if_pos rfl] at hI hv
  obtain ⟨a,rfl⟩:∃ a,vs=[a]:=by
   match vs,hv with
   |[],hv=>cases hv
   |[a],_=>exact ⟨a,rfl⟩
   |_::_::_,hv=>
    split at hv
    ·rename_i h
     simp at h
    ·cases hv
  obtain ⟨hl,hle,v,Ha,hacc,rfl⟩:=hs;refine oC rfl (fun hc=>?_) (fun hc=>by cases hc);refine gab ?_;refine cD (m:=14) rfl [] ?_;refine zQ9 ?_;refine aT 5 rfl rfl (pM (lv:=.list _) rfl) ?_;refine LAny.take (i:=6) zhn rfl zk zk zk rfl (xR (el':=u32 a) (cs:=[u32 a]) rfl rfl zo rfl rfl rfl) ?_;refine aT 7 rfl rfl (pO (c:=.atom _) rfl rfl) ?_;refine aT 8 rfl rfl (Pure.cvt rfl) ?_;refine aL ?_ zhn
  have e1:byts s.out++[int .u8 (IntKind.u8.wrap (a:Int))]=byts (s.out++[UInt8.ofNat a]):=by
   rw[qlH,qkK];rfl
  have hroom2:((byts s.out).length+[int .u8 (IntKind.u8.wrap (a:Int))].length) * 1<=140737488355328:=by
   simp only[qgx,zLc,zLn];omega
  refine zl2 (i:=4) (j:=9) zk ?_ ?_
  ·refine lH rfl rfl (pL (c:=v) rfl zm0 rfl) ?_;refine zl1 (i:=9) zk ?_;refine lW rfl (.inl rfl) rfl (sL (es:=[int .u8 (IntKind.u8.wrap (a:Int))]) [_] rfl (eC rfl rfl eN) rfl rfl rfl ?_);exact zT25
  ·refine lW rfl (.inl rfl) rfl (sL (es:=[int .u8 (IntKind.u8.wrap (a:Int))]) [_] rfl (eC rfl rfl eN) rfl rfl rfl ?_);refine zl1 (i:=4) zk ?_;refine lH rfl rfl (pL (c:=v) rfl zm0 rfl) ?_;exact zT25
 refine oC rfl (fun hc=>absurd (zt hc) hout) (fun _=>?_);rw[if_neg hout] at hI;have hcv:=qpM (p:=c.p) (f:=f0) (kn:=kn) hC.valid hk0 (name:=name) (n:=vs.length) (by unfold callE;rw[if_neg hin];exact hv) hin hout;generalize fnI c.p name=gf at hI hcv;obtain ⟨hgm,hgn,hgl⟩:=hcv;subst hgn;obtain ⟨kn2,hvb,hk2⟩:=hC.valid.bodies gf hgm;have hsm:=hC.small.each gf hgm;have hpl:gf.params.length<=2000000:=hsm.params;refine gaa ?_;have hs1:=hs;obtain ⟨hl,hle,v,Ha,hacc,rfl⟩:=hs;refine gab ?_;refine oP (Pure.kvHit rfl rfl zm3 (hC.fn hgm)) rfl ?_;refine oS (sA fun b8=>?_) rfl;refine gac ?_;generalize stH c s v Ha=Hs0 at hs0 hs1 ⊢
 refine oL (fun k ls H'=>∃ (pre ps:List (List UInt8)) (vpre vs1:List Nat) (s1:IS) (Hs:Heap),gf.params=pre++ps/\vs=vpre++vs1/\vpre.length=pre.length/\k=ps.length/\ls=[(0,ptr c.rb 0),(2,.list (vs.map u32)),(8,ptr b8 0),(59,.list (gf.params.map str)),(60,int .i64 ((gf.params.map str).length:Int)),(61,int .i64 (pre.length:Int))]/\H'=(b8,.cells 79 [str gf.name,.list (gf.params.map str),.list (gf.locals.map str),.list (gf.body.map encS)])::Hs/\St c s1 Hs/\qe3 gf gf.params vs s=qe3 gf ps vs1 s1)
  ⟨_,_,_,⟨[],gf.params,[],vs,s,Hs0,rfl,rfl,rfl,rfl,rfl,rfl,hs1,rfl⟩,⟨rfl,rfl,rfl,rfl,rfl,rfl,trivial⟩,zhR _⟩ ?_
 rintro k ls H' ⟨pre,ps,vpre,vs1,s1,Hs,hps,hvs1,hvl,rfl,rfl,rfl,hst1,hset⟩ j hj
 have hl6:pre.length<=2000000:=by
  rw[hps,zLa] at hpl;omega
 have hpl2:ps.length=vs1.length:=by
  rw[hps,hvs1,zLa,zLa] at hgl;omega
 refine gaj ?_;refine oC rfl (fun hc=>?_) (fun hc=>?_)
 ·have hlen:=zt hc;rw[zLm,hps,zLa] at hlen
  obtain ⟨p,ps,rfl⟩:∃ a l,ps=a::l:=by
   cases ps with
   |nil=>simp at hlen
   |cons a l2=>exact ⟨a,l2,rfl⟩
  obtain ⟨x,vs1,rfl⟩:∃ a l,vs1=a::l:=by
   cases vs1 with
   |nil=>simp at hpl2
   |cons a l2=>exact ⟨a,l2,rfl⟩
  rw[qe3] at hset;have hkp:=qpL hC hgm (p:=p) (by rw[hps];exact List.mem_append_right _ zMs);obtain ⟨b,hb1,hb2⟩:=hC.block hkp;obtain ⟨G,hG1,hG2⟩:=quY hC hb1 hst1;obtain ⟨H3,hs3,hp3⟩:=hG2 x;refine gaa ?_;refine oP (xR (el':=str p) (cs:=[str p]) rfl rfl zo (by rw[hps];exact get_mid str pre p ps) rfl rfl) rfl ?_;refine gad ?_;refine cD (m:=10) rfl [(b8,.cells 79 [str gf.name,.list (gf.params.map str),.list (gf.locals.map str),.list (gf.body.map encS)])] ?_;refine aT 0 rfl rfl (pM (lv:=.atom _) rfl) ?_;refine aT 1 rfl rfl (pG (cs':=[_,_,_,_]) rfl zm0 rfl rfl) ?_;refine zQ39 ?_;refine aT 4 rfl rfl (pM (lv:=.list _) rfl) ?_;refine aT 5 rfl rfl (pM (lv:=.atom _) rfl) ?_;refine LAny.take (i:=6) zhp rfl zk zk zk rfl (xR (el':=u32 x) (cs:=[u32 x]) rfl rfl zo (by rw[hvs1,<-hvl];exact get_mid u32 vpre x vs1) rfl rfl) ?_;refine aT 7 rfl rfl (pO (c:=.atom _) rfl rfl) ?_;refine aL ?_ zhp;refine lO 3 (lS (H1:=Hs) rfl (.inl rfl) rfl swap1 zhr (qad.call (args:=[_,_,_]) (qbK hC hst1 hgm hkp hb2) ?_ ?_))
  ·rintro lv H' ⟨h,rfl⟩;cases h;refine lO 8 (lH rfl rfl (pN rfl) ?_);refine lO 9 (lS (H1:=H') rfl (.inl rfl) rfl zpr zhr (sS (cs':=[u32 x]) rfl hG1 rfl rfl rfl rfl rfl ?_));refine qaE.weakH (H':=H3++_) ⟨[],by rw[zLz];exact hp3.append_right _⟩ ?_;refine lD zk ?_;refine gan ?_;exact ⟨ps.length,_,_,Nat.lt_succ_self _,⟨pre++[p],ps,vpre++[x],vs1,_,H3,by rw[hps];simp,by rw[hvs1];simp,by simp[hvl],rfl,rfl,rfl,hs3,hset⟩,⟨rfl,rfl,rfl,rfl,rfl,qak (by simp),trivial⟩,⟨[],by rw[zLz];exact swap1.symm⟩,hj⟩
  ·rintro ch H' ⟨h,rfl⟩;cases h
 ·have hlen:=zf hc;rw[zLm,hps,zLa] at hlen
  obtain rfl:ps=[]:=by
   cases ps with
   |nil=>rfl
   |cons a l2=>simp at hlen;omega
  obtain rfl:vs1=[]:=List.length_eq_zero_iff.1 hpl2.symm
  replace hset:qe3 gf gf.params vs s=s1:=hset.trans rfl
  have hb1:=qk2 gf gf.params vs s hvs hbd;obtain ⟨ho,hlf,_⟩:=qdQ gf gf.params vs s;rw[hset] at hI hb1 ho hlf;have hg1:Good c n s1:=⟨hb1,by rw[hlf];exact hleft,by rw[ho,hlf];omega⟩;refine gac ?_;refine oS (S.callI [_,_,_] rfl swap1 (hB gf kn2 gf.body s1 Hs hgm hk2 hvb (hC.nums gf hgm) hsm.body hsm.stmts hg1 hst1) (fun r s3 H3 hr3 hs3=>?_) (fun er s3 H3 hr3 hs3 e' he'=>?_)) rfl
  ·rw[hr3,qeo] at hI;refine gaa ?_;exact retI (v:=r.getD 0) hj (zra rfl) hI.symm rfl qaF hs3
  ·refine gak ?_;rw[hr3,qbQ] at hI;exact qeK (he'.trans hj) hI.symm qaF hs3
end
end Go.Proofs.YtdakelgkjdaijaaGreatDoor.Inp
