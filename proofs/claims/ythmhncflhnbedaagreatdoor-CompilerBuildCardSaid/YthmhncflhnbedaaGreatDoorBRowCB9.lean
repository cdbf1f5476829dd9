/- Texts joined: PeepM, AsmB, AsmC, GlFour, CmpSpec, CmpLab, AsmD, CmpKn, CmpTrn, CmpCln, CmpCln2, CmpSize, CmpA, CmpB, CmpC. -/
import Derived.Test.YthmhncflhnbedaaGreatDoorBRowCB2
import Derived.Test.YthmhncflhnbedaaGreatDoorBRowCB3
import Derived.Test.YthmhncflhnbedaaGreatDoorBRowCB4
import Derived.Test.YthmhncflhnbedaaGreatDoorBRowCB5
import Derived.Test.YthmhncflhnbedaaGreatDoorBRowCB8
set_option linter.unusedVariables false
set_option linter.unusedSimpArgs false
set_option maxRecDepth 100000
set_option maxHeartbeats 4000000
namespace Go.GL
variable {C:Ctx} {dst:Option Nat} {ty:TypeId} {pos:String} {aft:Array Edge} {g:Option (Nat×Bool)} {e:Env} {H:Heap} {K:LV->Heap->Prop} {X:List PanicEntry->Heap->Prop}
theorem S.setPut {t kt el:TypeId} (ht:C.P.underlying t=some (.map kt el)) (hkt:C.P.underlying kt=some .string) {b clock:Nat} {es:Array MapEntry} {p:List UInt8->Bool} {F:Heap} {m z:Operand} {x:Operand} {k:List UInt8} (hm:e.ev m=.atom (.map (some b))) (hx:e.ev x=str k) (hz:e.ev z=bool true)
  (hp:Pick (b,.obj (.map es clock)) H F) (hs:SetMap es p) (hk:∀ es' clock',SetMap es' (fun s=>p s || decide (s=k))->K (.atom undef) ((b,.obj (.map es' clock'))::F)):qag C ⟨dst,.mapUpdate t m x z,ty,pos,aft,g⟩ e H K X:=
 fun ρ w L h hH=>(S.setAdd (dst:=dst) (ty:=ty) (pos:=pos) (aft:=aft) (g:=g) (X:=X) ht hkt hm hx hz hp hs hk) ρ w L h hH
end Go.GL
namespace Go.Proofs.YthmhncflhnbedaaGreatDoor.Asm
open Go.GL Go.RowKit Go.Stele
abbrev txt (l:List (Wd×Nat)):List Wd:=l.map (·.1)
theorem qm7 {l:List (Wd×Nat)} {i:Nat} (h:i<l.length):txt (l.take (i+1))=txt (l.take i)++[l[i].1]:=by
 unfold txt;rw[List.take_succ_eq_append_getElem h,zMa];rfl
theorem qji {a:List Wd} {w d:Wd} (h:defW w=some d):defs (a++[w])=defs a++[d]:=by
 rw[qkb,qi2,h];rfl
theorem qi1 {a:List Wd} {w:Wd} (h:defW w=none):defs (a++[w])=defs a:=by
 rw[qkb,qpY h];simp[defs]
theorem set_nil:SetMap #[] (fun s=>decide (s∈([]:List Wd))):=⟨fun e he=>by simp at he,fun s h=>by simp at h⟩
theorem qnm {es:Array MapEntry} {ds:List Wd} {d:Wd} (h:SetMap es (fun s=>decide (s∈ds) || decide (s=d))):SetMap es (fun s=>decide (s∈ds++[d])):=
 cast (congrArg (SetMap es) (funext fun s=>by simp)) h
attribute [local irreducible] LOps qae qag LCalls Go.GL.Pure qaA qaq qah LQ LAny qaF qap
section
variable {B0:Nat} {w0:World}
theorem ql3 (hG:GW B0 w0) (hM:GM w0) (s:List UInt8) (hs:s.length<=400000000):LCalls (KC B0 w0) 23 [str s] [] (Ret (.list ((qje s).map qa1))):=by
 have hP:qje s=qjs 0 (qaV 10 s):=rfl;have hpl:=qhe 10 s;have hpa:((qaV 10 s).map str).length=(qaV 10 s).length:=zLm _
 have htl:(qje s).length<=s.length+1:=by
  have h1:=qg8 s;rw[<-qfk,zLm] at h1;exact h1
 have hsp:=qjW hG hM s 10 zo;refine cI Tryz.func23 rfl (n:=41) rfl rfl rfl ?_;refine gaw ?_;refine oS (sF [_,_] rfl hsp ?_) rfl;refine gad ?_
 refine oL (fun k ls H=>∃ (i:Nat) (out:List (Wd×Nat)) (v:LV),i<=(qaV 10 s).length/\k=(qaV 10 s).length-i/\ls=[(3,v),(9,.list ((qaV 10 s).map str)),(10,int .i64 (qaV 10 s).length),(11,int .i64 (i:Nat))]/\Acc 2 v (out.map qa1) H []/\out++qjs i ((qaV 10 s).drop i)=qje s)
  ⟨_,_,_,⟨0,[],qaa,Nat.zero_le _,rfl,rfl,Acc.nil,rfl⟩,⟨rfl,rfl,qaf zo,rfl,trivial⟩,zhR _⟩ ?_
 rintro k ls H ⟨i,out,v,hi,rfl,rfl,hacc,hE⟩ j hj;refine gai ?_;refine oC rfl (fun hc=>?_) (fun hc=>?_)
 ·have hlt:i<(qaV 10 s).length:=by have:=zt hc;omega
  have hlo:out.length<=(qje s).length:=by rw[<-hE,zLa];omega
  rw[qod hlt] at hE;have hll:=qdp (List.getElem_mem hlt);have hc1:=qrd hG hM (qaV 10 s)[i] 35 zo;have hW:qfN (qaV 10 s)[i]=full (qaV 32 ((qaV 10 s)[i].takeWhile fun d=>decide (d≠35))):=rfl;have htw:((qaV 10 s)[i].takeWhile fun d=>decide (d≠35)).length<=(qaV 10 s)[i].length:=(List.takeWhile_prefix _).length_le;have hs2:=qjW hG hM ((qaV 10 s)[i].takeWhile fun d=>decide (d≠35)) 32 zo;have hql:=qhe 32 ((qaV 10 s)[i].takeWhile fun d=>decide (d≠35));generalize (qaV 10 s)[i].takeWhile (fun d=>decide (d≠35))=line at hc1 hW htw hs2 hql;generalize hq:qaV 32 line=q at hW hs2 hql;have hqa:(q.map str).length=q.length:=zLm _
  repeat (first|refine LOps.nil ?_|refine qN ?_|refine qae.skip ?_)
  refine qae.seq ?_;refine cM (A:=List (Wd×Nat)×LV×Heap) (fun a=>[(3,a.2.1),(9,.list ((qaV 10 s).map str)),(10,int .i64 (qaV 10 s).length),(11,int .i64 (i:Nat))]) (fun a=>a.2.2) (fun a=>a.1=out++(full q).map (fun w=>(w,i+1))/\Acc 2 a.2.1 (a.1.map qa1) a.2.2 []) ?_ ?_
  ·refine gaa ?_;refine oP (xR (el':=str (qaV 10 s)[i]) (cs:=[str (qaV 10 s)[i]]) rfl rfl zo (qa0 _ _ _ hlt) rfl rfl) rfl ?_;refine gab ?_;refine oS (S.fnIf [_,_] rfl hc1 ?_) rfl;rintro lv ⟨a,b,rfl⟩;refine gaa ?_;refine oS (sF [_,_] rfl hs2 ?_) rfl;refine gad ?_
   refine oL (fun k ls H=>∃ (x:Nat) (out2:List (Wd×Nat)) (v:LV),x<=q.length/\k=q.length-x/\ls=[(3,v),(4,int .i64 (i:Nat)),(9,.list ((qaV 10 s).map str)),(10,int .i64 (qaV 10 s).length),(11,int .i64 (i:Nat)),(23,.list (q.map str)),(24,int .i64 q.length),(25,int .i64 (x:Nat))]/\Acc 2 v (out2.map qa1) H []/\out2.length<=out.length+x/\out2++(full (q.drop x)).map (fun w=>(w,i+1))=out++(full q).map (fun w=>(w,i+1)))
    ⟨_,_,_,⟨0,out,v,Nat.zero_le _,rfl,rfl,hacc,by omega,rfl⟩,⟨rfl,rfl,rfl,rfl,rfl,rfl,qaf zo,rfl,trivial⟩,zhR _⟩ ?_
   rintro k ls H ⟨x,out2,v2,hx,rfl,rfl,hacc2,hlen2,hE2⟩ j2 hj2;have hol2:(out2.map qa1).length=out2.length:=zLm _;refine gai ?_;refine oC rfl (fun hc=>?_) (fun hc=>?_)
   ·have hlt2:x<q.length:=by have:=zt hc;omega
    rw[qpQ hlt2] at hE2;refine gak ?_;refine oP (xR (el':=str q[x]) (cs:=[str q[x]]) rfl rfl zo (qa0 _ _ _ hlt2) rfl rfl) rfl ?_;refine gab ?_;refine oC rfl (fun hn=>?_) (fun hn=>?_)
    ·have hne:¬ q[x]=[]:=by simpa using hn
     rw[if_neg hne] at hE2;refine gag ?_;refine oP (pM (lv:=v2) rfl) rfl ?_;refine qiR ?_;refine oS (S.acc rfl hacc2 rfl (by simp;rfl) rfl (by simp;omega) fun v3 H3 hacc3=>?_) rfl;refine oP (pA (lv:=v3) rfl) rfl ?_;refine gat ?_;exact ⟨_,_,_,by omega,⟨x+1,out2++[(q[x],i+1)],v3,by omega,rfl,rfl,by rw[zMa];exact hacc3,by simp;omega,by rw[zAs];exact hE2⟩,⟨rfl,rfl,rfl,rfl,rfl,rfl,rfl,qaf zo,trivial⟩,zhR _,hj2⟩
    ·have hne:q[x]=[]:=by simpa using hn
     rw[if_pos hne] at hE2;refine gaa ?_;exact ⟨_,_,_,by omega,⟨x+1,out2,v2,by omega,rfl,rfl,hacc2,by omega,hE2⟩,⟨rfl,rfl,rfl,rfl,rfl,rfl,rfl,qaf zo,trivial⟩,zhR _,hj2⟩
   ·have hx':x=q.length:=by have:=zf hc;omega
    subst hx';rw[List.drop_length] at hE2;refine gad ?_;exact ⟨(out2,v2,H),⟨by simpa [full] using hE2,hacc2⟩,⟨rfl,rfl,rfl,rfl,trivial⟩,zhR _,hj2⟩
  ·rintro ⟨out2,v2,H2⟩ ⟨ho,hacc2⟩ j3 hj3;simp only at ho hacc2;rw[hW,<-zAs,<-ho] at hE;refine gat ?_;exact ⟨_,_,_,by omega,⟨i+1,out2,v2,by omega,rfl,rfl,hacc2,by rw[<-hE]⟩,⟨rfl,rfl,rfl,qaf zo,trivial⟩,zhR _,hj3.trans hj⟩
 ·have hi':i=(qaV 10 s).length:=by have:=zf hc;omega
  subst hi';rw[List.drop_length,qjs,zLz] at hE;subst hE;refine qae.sub (d:=3) (v:=v) rfl hacc.sub ?_;refine cW zhn ?_;refine gab ?_;exact qac hj (rC (rT (v:=.list _) rfl zsr) rN) rfl
end
theorem qnv {all met:List Wd} {p:Wd×Nat} {x:Wd} {r:List (Wd×Nat)} (h:defW p.1=some x):errT all met (p::r)=if x∈met then (p.2,8) else errT all (met++[x]) r:=by
 obtain ⟨w,ln⟩:=p;simp only at h;rw[errT,h]
theorem qmZ {all met:List Wd} {p:Wd×Nat} {x:Wd} {r:List (Wd×Nat)} (h:defW p.1=none) (h2:refW p.1=some x):errT all met (p::r)=if x∈all then errT all met r else (p.2,7):=by
 obtain ⟨w,ln⟩:=p;simp only at h h2;rw[errT,h,h2]
theorem qlO {all met:List Wd} {p:Wd×Nat} {r:List (Wd×Nat)} (h:defW p.1=none) (h2:refW p.1=none):errT all met (p::r)=if qeI p.1=true then errT all met r else (p.2,3):=by
 obtain ⟨w,ln⟩:=p;simp only at h h2;rw[errT,h,h2]
section
variable {B0:Nat} {w0:World}
theorem check_spec (l:List (Wd×Nat)) (hl:l.length<=1000000000) (hs:∀ p∈l,p.1.length<=1000000000):LCalls (KC B0 w0) 24 [.list (l.map qa1)] [] (Ret (.tuple [int .i64 ((errT (defs (txt l)) [] l).1:Nat),int .i64 ((errT (defs (txt l)) [] l).2:Nat)])):=by
 have hla:(l.map qa1).length=l.length:=zLm _;have zb:∀ w,(zeroValue 4).run (KC B0 w0).P w=.ok (.bool false) w:=fun w=>(Go.zero_of_info (P:=Tryz.prog) (n:=1) zk).1 w;generalize hR:errT (defs (txt l)) [] l=R;refine cI Tryz.func24 rfl (n:=70) rfl rfl rfl ?_;refine ga0 ?_;refine oS (S.makeMap fun m=>?_) rfl;refine gaa ?_
 refine oL (fun k ls H=>∃ (i:Nat) (es:Array MapEntry) (clock:Nat),i<=l.length/\k=l.length-i/\ls=[(0,.list (l.map qa1)),(4,.atom (.map (some m))),(17,.list (l.map qa1)),(18,int .i64 l.length),(19,int .i64 (i:Nat))]/\H=[(m,.obj (.map es clock))]/\SetMap es (fun s=>decide (s∈defs (txt (l.take i)))))
  ⟨_,_,_,⟨0,#[],0,Nat.zero_le _,rfl,rfl,rfl,set_nil⟩,⟨rfl,rfl,rfl,qaf zo,rfl,trivial⟩,zhR _⟩ ?_
 rintro k ls H ⟨i,es,clock,hi,rfl,rfl,rfl,hM⟩ j1 hj1;refine gai ?_;refine oC rfl (fun hc=>?_) (fun hc=>?_)
 ·have hlt:i<l.length:=by have:=zt hc;omega
  have kd:=qfX (B0:=B0) (w0:=w0) l[i] (by have:=hs _ (List.getElem_mem hlt);omega);have htt:=qm7 hlt;refine zQ98 ?_;refine oS (sA fun b6=>?_) rfl;refine gab ?_;refine oS (S.fnIf [_] rfl kd ?_) rfl;rintro lv ⟨s,rfl,hs2⟩;refine gaa ?_;refine oC rfl (fun h=>?_) (fun h=>?_)
  ·obtain ⟨d,hd⟩:=Option.isSome_iff_exists.1 h;obtain rfl:=hs2 d hd;refine gaf ?_;refine oS (S.setPut (t:=106) (kt:=9) (el:=4) zk zk rfl rfl rfl zp1 hM fun es' clock' hM'=>?_) rfl;refine gat ?_;exact ⟨_,_,_,by omega,⟨i+1,es',clock',by omega,rfl,rfl,rfl,by rw[htt,qji hd];exact qnm hM'⟩,⟨rfl,rfl,rfl,rfl,qaf zo,trivial⟩,⟨[_],List.Perm.refl _⟩,hj1⟩
  ·have hn:defW l[i].1=none:=by
    cases ho:defW l[i].1 with
    |none=>rfl
    |some d=>rw[ho] at h;cases h
   refine gaa ?_;exact ⟨_,_,_,by omega,⟨i+1,es,clock,by omega,rfl,rfl,rfl,by rw[htt,qi1 hn];exact hM⟩,⟨rfl,rfl,rfl,rfl,qaf zo,trivial⟩,zhD zhr,hj1⟩
 ·have hi':i=l.length:=by have:=zf hc;omega
  subst hi';rw[List.take_length] at hM;refine gaa ?_;refine oS (S.makeMap fun m2=>?_) rfl;refine gaa ?_
  refine oL (fun k ls H=>∃ (i:Nat) (es2:Array MapEntry) (clock2:Nat),i<=l.length/\k=l.length-i/\ls=[(4,.atom (.map (some m))),(9,.atom (.map (some m2))),(33,.list (l.map qa1)),(34,int .i64 l.length),(35,int .i64 (i:Nat))]/\H=[(m2,.obj (.map es2 clock2)),(m,.obj (.map es clock))]/\SetMap es2 (fun s=>decide (s∈defs (txt (l.take i))))/\errT (defs (txt l)) (defs (txt (l.take i))) (l.drop i)=R)
   ⟨_,_,_,⟨0,#[],0,Nat.zero_le _,rfl,rfl,rfl,set_nil,hR⟩,⟨rfl,rfl,rfl,qaf zo,rfl,trivial⟩,zhR _⟩ ?_
  rintro k ls H ⟨i,es2,clock2,hi,rfl,rfl,rfl,hM2,hE⟩ j2 hj2;refine gai ?_;refine oC rfl (fun hc=>?_) (fun hc=>?_)
  ·have hlt:i<l.length:=by have:=zt hc;omega
   have hsl:=hs _ (List.getElem_mem hlt);have kd:=qfX (B0:=B0) (w0:=w0) l[i] zo;have kr:=qij (B0:=B0) (w0:=w0) l[i] zo;have kc:=qls (B0:=B0) (w0:=w0) l[i] zo;have htt:=qm7 hlt;rw[List.drop_eq_getElem_cons hlt] at hE;refine zQ98 ?_;refine oS (sA fun b11=>?_) rfl;refine gab ?_;refine oS (S.fnIf [_] rfl kd ?_) rfl;rintro lv ⟨s,rfl,hs2⟩;refine gaa ?_;refine oC rfl (fun h=>?_) (fun h=>?_)
   ·obtain ⟨d,hd⟩:=Option.isSome_iff_exists.1 h;obtain rfl:=hs2 d hd;refine gaf ?_;refine oP (Pure.setGet (t:=106) (kt:=9) (el:=4) zk zk zb rfl rfl zm1 hM2) rfl ?_;refine gam ?_;refine oC rfl (fun h3=>?_) (fun h3=>?_)
    ·have hin:=zt h3;refine gaa ?_;rw[qnv hd,if_pos hin] at hE;exact qac (hj2.trans hj1) (rC (zrt rfl) (zra rfl)) (by rw[<-hE];rfl)
    ·have hin:=zf h3;refine gau ?_;refine oS (S.setPut (t:=106) (kt:=9) (el:=4) zk zk rfl rfl rfl zp1 hM2 fun es' clock' hM'=>?_) rfl;refine gat ?_;exact ⟨_,_,_,by omega,⟨i+1,es',clock',by omega,rfl,rfl,rfl,by rw[htt,qji hd];exact qnm hM',by rw[htt,qji hd,<-hE,qnv hd,if_neg hin]⟩,⟨rfl,rfl,rfl,rfl,qaf zo,trivial⟩,⟨[_],List.Perm.cons _ (List.Perm.swap ..)⟩,hj2⟩
   ·have hn:defW l[i].1=none:=by
     cases ho:defW l[i].1 with
     |none=>rfl
     |some d=>rw[ho] at h;cases h
    refine gab ?_;refine oS (S.fnIf [_] rfl kr ?_) rfl;rintro lv ⟨s,rfl,hs3⟩;refine gaa ?_;refine oC rfl (fun h3=>?_) (fun h3=>?_)
    ·obtain ⟨d,hd⟩:=Option.isSome_iff_exists.1 h3;obtain rfl:=hs3 d hd;refine gaf ?_;refine oP (Pure.setGet (t:=106) (kt:=9) (el:=4) zk zk zb rfl rfl zm2 hM) rfl ?_;refine gad ?_;refine oC rfl (fun h4=>?_) (fun h4=>?_)
     ·have hin:¬ s∈defs (txt l):=by simpa using h4
      refine gaa ?_;rw[qmZ hn hd,if_neg hin] at hE;exact qac (hj2.trans hj1) (rC (zrt rfl) (zra rfl)) (by rw[<-hE];rfl)
     ·have hin:s∈defs (txt l):=by simpa using h4
      refine gaa ?_;exact ⟨_,_,_,by omega,⟨i+1,es2,clock2,by omega,rfl,rfl,rfl,by rw[htt,qi1 hn];exact hM2,by rw[htt,qi1 hn,<-hE,qmZ hn hd,if_pos hin]⟩,⟨rfl,rfl,rfl,rfl,qaf zo,trivial⟩,zhD zhr,hj2⟩
    ·have hrn:refW l[i].1=none:=by
      cases ho:refW l[i].1 with
      |none=>rfl
      |some d=>rw[ho] at h3;cases h3
     refine gab ?_;refine oS (sF [_] rfl kc ?_) rfl;refine gad ?_;refine oC rfl (fun h4=>?_) (fun h4=>?_)
     ·have hin:¬ qeI l[i].1=true:=by simpa using h4
      refine gaa ?_;rw[qlO hn hrn,if_neg hin] at hE;exact qac (hj2.trans hj1) (rC (zrt rfl) (zra rfl)) (by rw[<-hE];rfl)
     ·have hin:qeI l[i].1=true:=by simpa using h4
      refine gaa ?_;exact ⟨_,_,_,by omega,⟨i+1,es2,clock2,by omega,rfl,rfl,rfl,by rw[htt,qi1 hn];exact hM2,by rw[htt,qi1 hn,<-hE,qlO hn hrn,if_pos hin]⟩,⟨rfl,rfl,rfl,rfl,qaf zo,trivial⟩,zhD zhr,hj2⟩
  ·have hi':i=l.length:=by have:=zf hc;omega
   subst hi';rw[List.drop_length,errT] at hE;refine gaa ?_;exact qac (hj2.trans hj1) (rC (zrt rfl) (zra rfl)) (by rw[<-hE];rfl)
end
end Go.Proofs.YthmhncflhnbedaaGreatDoor.Asm
namespace Go.Proofs.YthmhncflhnbedaaGreatDoor.Asm
open Go.GL Go.RowKit Go.Stele
def qkk (km:Option Nat) (Hk:Heap) (kn:Wd->Nat):Prop:=(km=none/\Hk=[]/\∀ x,kn x=0)∨∃ b m clock,km=some b/\Hk=[(b,.map (kvs m) clock)]/\∀ x,(GL.kvGet m x).getD (int .i64 0)=int .i64 (kn x:Nat)
section
variable {C:Ctx} {e:Env} {H:Heap} {dst:Option Nat} {ty:TypeId} {pos:String} {aft:Array Edge} {g:Option (Nat×Bool)} {K:LV->Heap->Prop} {X:List PanicEntry->Heap->Prop} {x y:Operand}
theorem S.known {t kt el:TypeId} (ht:C.P.underlying t=some (.map kt el)) (hkt:C.P.underlying kt=some .string) (hz:∀ w,(zeroValue el).run C.P w=.ok (.int .i64 0) w) {km:Option Nat} {Hk:Heap} {kn:Wd->Nat} {k:List UInt8} (hK:qkk km Hk kn) (hm:e.ev x=.atom (.map km)) (hx:e.ev y=str k)
  (hb:∀ q∈Hk,q∈H) (hk:K (int .i64 (kn k:Nat)) H):qag C ⟨dst,.lookup t x y false,ty,pos,aft,g⟩ e H K X:=by
 rcases hK with ⟨rfl,rfl,h0⟩|⟨b,m,clock,rfl,rfl,hI⟩
 ·refine Pure.step (Pure.nilGet ht hkt hz hm hx) ?_;rw[h0 k] at hk;exact hk
 ·refine Pure.step (Pure.kvGet ht hkt hz (zl:=int .i64 0) (fun _ _=>qar) hm hx (hb _ (List.mem_singleton.2 rfl))) ?_;rw[hI k];exact hk
end
theorem qmP {a b:Heap} {q:Nat×LObj}:HSub (a++b) (a++q::b):=⟨[q],List.perm_middle.trans (List.perm_append_singleton _ _).symm⟩
theorem qq1 {a b:Heap} {q:Nat×LObj}:HSub (a++b) ((a++[q])++b):=by
 rw[zAs];exact qmP
theorem qsv (a b:Nat):int .i64 ((a+b:Nat):Int)=int .i64 ((a:Int)+(b:Nat)):=qaf zo
theorem qqS {a b:Heap} {q:Nat×LObj}:(a++q::b).Perm (b++(a++[q])):=by
 have h:=zPc (l₁:=a++[q]) (l₂:=b);rw[zAs] at h;exact h
theorem qsm {s:Nat} {v:LV} {es:List LV} {a H F:Heap} (h:Acc s v es H F):HSub (a++F) (a++H):=by
 cases h with
 |nil=>exact zhR _
 |row=>exact qmP
theorem qmq (kn:Wd->Nat) (og:Nat) (l:List Wd) (t:Wd) (labs:List (Wd×Nat)) (h:∀ w∈l,w≠[]):t.length<=(l.foldl (qbp kn og) (t,labs)).1.length:=by
 rw[qdZ,qiV kn l t h];omega
theorem qjg (kn:Wd->Nat) (og:Nat):∀ (l:List Wd) (s:Wd×List (Wd×Nat)),s.2.length<=((l.foldl (qbp kn og) s).2).length/\((l.foldl (qbp kn og) s).2).length<=s.2.length+l.length
 |[],s=>by simp
 |w::r,s=>by
  rw[List.foldl_cons];have:=qjg kn og r (qbp kn og s w)
  have h2:s.2.length<=(qbp kn og s w).2.length/\(qbp kn og s w).2.length<=s.2.length+1:=by
   unfold qbp
   cases defW w with
   |some x=>simp
   |none=>simp
  simp only[zLc];omega
theorem qq4:qcY []=qao 32:=by decide
attribute [local irreducible] LOps qae qag LCalls Go.GL.Pure qaA qaq qah LQ LAny qaF qap
section
variable {B0:Nat} {w0:World}
theorem qqb (hG:GW B0 w0) (l:List (Wd×Nat)) (og:Nat) (hog:og<=1000000) (hl:l.length<=1000000000) (hs:∀ p∈l,p.1≠[]/\p.1.length<=1000000000) (kn:Wd->Nat) (hkn:∀ x,kn x<=1000000000000) (hL:((txt l).foldl (qbp kn og) ([],[])).1.length<=2000000000) (km:Option Nat) (Hk:Heap) (hK:qkk km Hk kn) :
  LCalls (KC B0 w0) 25 [.list (l.map qa1),int .i64 (og:Nat),.atom (.map km)] Hk (fun r H'=>r=.ret (.tuple [str ((txt l).foldl (qbp kn og) ([],[])).1,.list (((txt l).foldl (qbp kn og) ([],[])).2.map qa1)])/\H'=Hk):=by
 have hla:(l.map qa1).length=l.length:=zLm _;have zi:∀ w,(zeroValue 3).run (KC B0 w0).P w=.ok (.int .i64 0) w:=fun w=>(Go.zero_of_info (P:=Tryz.prog) (n:=1) zk).1 w
 have hne0:∀ i,∀ w∈txt (l.drop i),w≠[]:=fun i w hw=>by
  obtain ⟨p,hp,rfl⟩:=List.mem_map.1 hw;exact (hs p (List.mem_of_mem_drop hp)).1
 generalize hR:(txt l).foldl (qbp kn og) ([],[])=R at hL ⊢;refine cI Tryz.func25 rfl (n:=68) rfl rfl rfl ?_;refine ga0 ?_;refine oS (sA fun bb=>?_) rfl;refine gaa ?_
 refine oL (fun k ls H=>∃ (i:Nat) (t:List UInt8) (labs:List (Wd×Nat)) (v:LV) (last:UInt8) (HB HL:Heap),i<=l.length/\k=l.length-i/\ls=[(1,int .i64 (og:Nat)),(2,.atom (.map km)),(8,ptr bb 0),(9,v),(10,int .u8 last.toNat),(18,.list (l.map qa1)),(19,int .i64 l.length),(20,int .i64 (i:Nat))]/\H=HB++HL/\BH bb t HB/\Acc 2 v (labs.map qa1) HL Hk/\qcY t=qao last/\labs.length<=i/\(txt (l.drop i)).foldl (qbp kn og) (t,labs)=R)
  ⟨_,_,_,⟨0,[],[],qaa,32,[(bb,.cells 123 [.atom (.pointer none),.atom (.slice none 0 0)])],Hk,Nat.zero_le _,rfl,rfl,rfl,⟨_,_,[],.inl rfl,BRow.nil,rfl⟩,Acc.nil,qq4,Nat.zero_le _,hR⟩,⟨rfl,rfl,rfl,rfl,rfl,rfl,qaf zo,rfl,trivial⟩,zhR _⟩ ?_
 rintro k ls H ⟨i,t,labs,v,last,HB,HL,hi,rfl,rfl,rfl,hB,hacc,hla2,hll,hE⟩ j hj;have hol:(labs.map qa1).length=labs.length:=zLm _;have htR:=qmq kn og (txt (l.drop i)) t labs (hne0 i);rw[hE] at htR;refine gai ?_;refine oC rfl (fun hc=>?_) (fun hc=>?_)
 ·have hlt:i<l.length:=by have:=zt hc;omega
  obtain ⟨hne,hsl⟩:=hs _ (List.getElem_mem hlt);have kd:=qfX (B0:=B0) (w0:=w0) l[i] zo;have kr:=qij (B0:=B0) (w0:=w0) l[i] zo
  have hdr:txt (l.drop i)=l[i].1::txt (l.drop (i+1)):=by
   unfold txt;rw[List.drop_eq_getElem_cons hlt,zMc]
  rw[hdr,List.foldl_cons] at hE;refine zQ98 ?_;refine oS (sA fun b12=>?_) rfl;refine gab ?_;refine oS (S.fnIf [_] rfl kd ?_) rfl;rintro lv ⟨s,rfl,hs2⟩;refine gaa ?_;refine oC rfl (fun h=>?_) (fun h=>?_)
  ·obtain ⟨d,hd⟩:=Option.isSome_iff_exists.1 h;obtain rfl:=hs2 d hd;have hst:qbp kn og (t,labs) l[i].1=(t,labs++[(s,og+t.length)]):=by unfold qbp;rw[hd]
   rw[hst] at hE;refine gag ?_;refine qih ?_;refine oS (S.callH (H1:=HB) (F:=(b12,.cells 133 [str l[i].1,int .i64 l[i].2])::HL) [_] rfl List.perm_middle.symm (qid bb t HB hB) (fun v' H' h=>?_) (fun ch H' h=>by obtain ⟨h,_⟩:=h;cases h)) rfl;obtain ⟨hv,rfl⟩:=h;cases hv;refine qiR ?_;refine oS (sG (H1:=HL) (A:=H'++[(b12,.cells 133 [str l[i].1,int .i64 l[i].2])]) qqS rfl hacc rfl (by simp;rfl) rfl (by simp;omega) fun v' H2 hacc'=>?_) rfl;refine zQ62 ?_;refine gaa ?_
   exact ⟨_,_,_,by omega,⟨i+1,t,labs++[(s,og+t.length)],v',last,H',H2,by omega,rfl,rfl,rfl,hB,by
    rw[zMa]
    have e1:[qa1 (s,og+t.length)]=[LV.agg [str s,int .i64 ((og:Int)+(t.length:Nat))]]:=by
     unfold qa1;rw[qsv]
    rw[List.map_singleton,e1]
    exact hacc',hla2,by simp;omega,hE⟩,⟨rfl,rfl,rfl,rfl,rfl,rfl,rfl,qaf zo,trivial⟩,qq1,hj⟩
  ·have hn:defW l[i].1=none:=by
    cases ho:defW l[i].1 with
    |none=>rfl
    |some d=>rw[ho] at h;cases h
   have hst:qbp kn og (t,labs) l[i].1=(addT kn t l[i].1,labs):=by unfold qbp;rw[hn]
   obtain ⟨hp0,hp1,hp2⟩:=qhX kn t l[i].1 hn hne;have hadd:addT kn t l[i].1=t++(if qcY t && qcz (qbN kn l[i].1) then [32] else [])++qbN kn l[i].1:=by unfold addT;rw[hn]
   have htR2:=qmq kn og (txt (l.drop (i+1))) (addT kn t l[i].1) labs (hne0 (i+1));rw[hst] at hE;rw[hE] at htR2;refine cM (A:=Wd) (fun s=>[(1,int .i64 (og:Nat)),(2,.atom (.map km)),(8,ptr bb 0),(9,v),(10,int .u8 last.toNat),(13,str s),(18,.list (l.map qa1)),(19,int .i64 l.length),(20,int .i64 (i:Nat))]) (fun _=>(b12,.cells 133 [str l[i].1,int .i64 l[i].2])::(HB++HL)) (fun s=>s=qbN kn l[i].1) ?_ ?_
   ·refine gab ?_;refine oS (S.fnIf [_] rfl kr ?_) rfl;rintro lv ⟨s,rfl,hs3⟩;refine gaa ?_;refine oC rfl (fun h3=>?_) (fun h3=>?_)
    ·obtain ⟨d,hd⟩:=Option.isSome_iff_exists.1 h3;obtain rfl:=hs3 d hd;refine gaf ?_;refine oS (S.known (t:=55) (kt:=9) (el:=3) zk zk zi hK rfl rfl (fun q hq=>zMo _ (List.mem_append_right _ (hacc.hsub.mem q hq))) ?_) rfl;refine oS (sF [_] rfl (qlh hG (kn s) (hkn s)) ?_) rfl;refine ga2 ?_;exact ⟨qev (kn s),(by unfold qbN;rw[hd]),⟨rfl,rfl,rfl,rfl,rfl,rfl,rfl,rfl,rfl,trivial⟩,zhR _,rfl⟩
    ·have hrn:refW l[i].1=none:=by
      cases ho:refW l[i].1 with
      |none=>rfl
      |some d=>rw[ho] at h3;cases h3
     refine gar ?_;exact ⟨l[i].1,(by unfold qbN;rw[hrn]),⟨rfl,rfl,rfl,rfl,rfl,rfl,rfl,rfl,rfl,trivial⟩,zhR _,rfl⟩
   rintro s hpc j2 hj2;rw[<-hpc] at hp0 hp1 hp2 hadd;have hs0:=hp0;have hone:=qpA (qao last && qcz s);obtain ⟨c,r,hcr⟩:=List.exists_cons_of_ne_nil hs0;have hfc:qcz s=qao c:=by rw[hcr];rfl
   rw[hla2] at hadd hp2;refine qae.seq ?_;refine cM (A:=Heap) (fun _=>[(1,int .i64 (og:Nat)),(2,.atom (.map km)),(8,ptr bb 0),(9,v),(10,int .u8 last.toNat),(13,str s),(18,.list (l.map qa1)),(19,int .i64 l.length),(20,int .i64 (i:Nat))]) (fun HB'=>HB'++(b12,.cells 133 [str l[i].1,int .i64 l[i].2])::HL) (fun HB'=>BH bb (t++if (qao last && qcz s)=true then [32] else []) HB') ?_ ?_
   ·refine gaf ?_;refine oS (sF [_] rfl (qgq last) ?_) rfl;refine gax ?_;refine oB 52 rfl (fun h4=>?_) (fun h4=>?_)
    ·have h4':qao last=true:=h4;rw[h4',Bool.true_and,hfc];refine gal ?_;refine oP (pI (c:=c) rfl rfl zo (by rw[hcr];rfl)) rfl ?_;refine gal ?_;refine oS (sF [_] rfl (qgq c) ?_) rfl;refine gad ?_;refine oC rfl (fun h5=>?_) (fun h5=>?_)
     ·refine gag ?_;refine oS (S.callH (H1:=HB) (F:=(b12,.cells 133 [str l[i].1,int .i64 l[i].2])::HL) [_,_] rfl List.perm_middle.symm (qjo bb t 32 HB hB zo) (fun v' H' h=>?_) (fun ch H' h=>by obtain ⟨⟨x,h⟩,_⟩:=h;cases h)) rfl;refine gam ?_;exact ⟨H',by rw[if_pos h5];exact h.2,⟨rfl,rfl,rfl,rfl,rfl,rfl,rfl,rfl,rfl,trivial⟩,zhR _,rfl⟩
     ·refine gar ?_;exact ⟨HB,by rw[if_neg (by rw[h5];decide),zLz];exact hB,⟨rfl,rfl,rfl,rfl,rfl,rfl,rfl,rfl,rfl,trivial⟩,⟨[],by simpa using List.perm_middle.symm⟩,rfl⟩
    ·have h4':qao last=false:=h4;rw[h4',Bool.false_and];refine gae ?_;refine oC rfl (fun h5=>by cases h5) (fun h5=>?_);refine gar ?_;exact ⟨HB,by rw[if_neg zDd,zLz];exact hB,⟨rfl,rfl,rfl,rfl,rfl,rfl,rfl,rfl,rfl,trivial⟩,⟨[],by simpa using List.perm_middle.symm⟩,rfl⟩
   rintro HB' hB' j3 hj3;have hsl3:=List.length_pos_iff.2 hs0
   have hget:s[((s.length:Int)-1).toNat]? = some (s.getLast hs0):=by
    rw[show ((s.length:Int)-1).toNat=s.length-1 by omega,List.getLast_eq_getElem,List.getElem?_eq_getElem zo]
   have hlast:qcY s=qao (s.getLast hs0):=by
    unfold qcY;rw[List.getLast?_eq_some_getLast hs0]
   have htl:(t++if (qao last && qcz s)=true then [32] else []).length+s.length<=2000000000:=by
    have:(t++if (qao last && qcz s)=true then [32] else []).length=t.length+one (qao last && qcz s):=by
     rw[zLa];unfold one;split <;> rfl
    omega
   rw[hadd] at hE hp1;generalize (t++if (qao last && qcz s)=true then [32] else [])=t2 at hB' htl hE hp1;refine gaf ?_;refine oS (S.callH (H1:=HB') (F:=(b12,.cells 133 [str l[i].1,int .i64 l[i].2])::HL) [_,_] rfl zpr (qhF bb t2 s HB' hB' zo) (fun v' H' h=>?_) (fun ch H' h=>by obtain ⟨⟨x,h⟩,_⟩:=h;cases h)) rfl;obtain ⟨⟨x,hx⟩,hB2⟩:=h;refine gab ?_;refine oP (pI (c:=s.getLast hs0) rfl rfl zo hget) rfl ?_;refine gaa ?_;exact ⟨_,_,_,by omega,⟨i+1,t2++s,labs,v,s.getLast hs0,H',HL,by omega,rfl,rfl,rfl,hB2,hacc,by rw[hp1,hlast],by omega,hE⟩,⟨rfl,rfl,rfl,rfl,rfl,rfl,rfl,qaf zo,trivial⟩,qmP,hj3.trans (hj2.trans hj)⟩
 ·have hi':i=l.length:=by have:=zf hc;omega
  subst hi';rw[List.drop_length] at hE;have hE':(t,labs)=R:=hE;subst hE';refine qae.sub (d:=9) (v:=v) rfl hacc.sub ?_;refine cW (qsm hacc) ?_;refine gaa ?_;refine oS (S.callH (H1:=HB) (F:=Hk) [_] rfl zpr (qmn bb t HB hB zo) (fun v' H' h=>?_) (fun ch H' h=>by obtain ⟨h,_⟩:=h;cases h)) rfl;obtain ⟨hv,rfl⟩:=h;cases hv;refine gac ?_;exact rR hj (rC (zrt rfl) (rC (rT (v:=.list _) rfl zsr) rN)) zhr ⟨rfl,by simp⟩
end
end Go.Proofs.YthmhncflhnbedaaGreatDoor.Asm
namespace Go.GL
open Go.RowKit
theorem qqX {P:Program} {fn:Func} {r s t q:ResultVar} (h:fn.results=#[r,s,t,q]) {tmps:Array Value} {w:World} {v u x y:Value} (h1:(qbn tmps r).run P w=.ok v w) (h2:(qbn tmps s).run P w=.ok u w) (h3:(qbn tmps t).run P w=.ok x w) (h4:(qbn tmps q).run P w=.ok y w) :
  (results fn tmps).run P w=.ok (.tuple #[v,u,x,y]) w:=by
 have:results fn tmps=(do let v <-qbn tmps r;let u <-qbn tmps s;let x <-qbn tmps t;let y <-qbn tmps q;Pure.pure (.tuple #[v,u,x,y])):=by
  cases r <;> cases s <;> cases t <;> cases q <;> simp[results,h,qbn]
 rw[this,qdB h1,qdB h2,qdB h3,qdB h4]
 try rfl
theorem ql0 {C:Ctx} {n:Nat} {fn:Func} {e:Env} {H:Heap} {a:Act} {w:World} {L:Live} (hE:RelE n a e w L) (hH:RelH C w L H) {vs:List LV}
  (h:qbF C n e H fn.results.toList vs) (h3:fn.results.size=4):∃ v,(results fn a.tmps).run C.P w=.ok v w/\Rep w L (qbv vs) v:=by
 obtain ⟨rs,hrs⟩:∃ rs,fn.results=List.toArray rs:=⟨fn.results.toList,by simp⟩;rw[hrs] at h h3;simp only[List.size_toArray] at h h3
 match rs,vs,h,h3,hrs with
 |[r,s,t,q],[x,y,z,o],h,_,hrs=>
  obtain ⟨v1,g1,r1⟩:=h.1 a w L hE hH;obtain ⟨v2,g2,r2⟩:=h.2.1 a w L hE hH;obtain ⟨v3,g3,r3⟩:=h.2.2.1 a w L hE hH;obtain ⟨v4,g4,r4⟩:=h.2.2.2.1 a w L hE hH
  exact ⟨_,qqX hrs g1 g2 g3 g4,by simp only[qbv,Rep];exact ⟨[v1,v2,v3,v4],rfl,by simp only[RepL];exact ⟨v1,_,rfl,r1,v2,_,rfl,r2,v3,_,rfl,r3,v4,_,rfl,r4,rfl⟩⟩⟩
 |[_,_,_,_],[],h,_,_=>exact h.elim
 |[_,_,_,_],[_],h,_,_=>exact h.2.elim
 |[_,_,_,_],[_,_],h,_,_=>exact h.2.2.elim
 |[_,_,_,_],[_,_,_],h,_,_=>exact h.2.2.2.elim
 |[_,_,_,_],_::_::_::_::_::_,h,_,_=>exact h.2.2.2.2.elim
theorem LCalls.intro4 {C:Ctx} {f:FuncId} {fn:Func} {c:Code} {n:Nat} {args:List LV} {H:Heap} {R:LRes->Heap->Prop} (hf:C.P.funcs[f]? = some fn) (hb:fn.body=some c) (hn:fn.ntmps=n) (h3:Nat.beq fn.results.size 4=true)
  (hl:Nat.ble args.length n=true) (h:qae C n c (qah C n fn.results.toList R) (qfl args) H):LCalls C f args H R:=fun vs w L hv hH=>by
 subst hn;have hl':args.length<=fn.ntmps:=by simpa using hl
 have h3':fn.results.size=4:=Nat.eq_of_beq_eq_true h3;have hlen:=hv.length;refine calls_of_wp hf hb (Go.wp_mono (h _ w L ⟨?_,rfl,fun i=>?_⟩ hH) fun ex a' w' hq=>?_)
 ·simp;omega
 ·exact zT0
 ·obtain ⟨e',H',L',g1,g2,g3,g4⟩:=hq
  have ret:RelE fn.ntmps a' e' w' L'->(e'.ds=[]/\∃ vs H'',qbF C fn.ntmps e' H' fn.results.toList vs/\HSub H'' H'/\R (.ret (qbv vs)) H'') ->
    a'.defers=[]/\∃ v,(results fn a'.tmps).run C.P w'=.ok v w'/\qcH C w L H (fun v=>R (.ret v)) (fun ch=>R (.panic ch)) (.returned v) w':=fun hE hr=>by
   obtain ⟨h1,vs',H'',h2,h4,h5⟩:=hr;obtain ⟨v,r1,r2⟩:=ql0 hE g2 h2 h3';exact ⟨hE.ds.trans h1,v,r1,qbv vs',H'',L',g1.weak h4,g2.weak h4,r2,h5⟩
  cases ex with
  |normal=>exact ret g3 g4
  |ret=>exact ret g3 g4
  |panic ch=>
   obtain ⟨h1,H'',h4,h5⟩:=g4
   exact ⟨g3.trans h1,H'',L',g1.weak h4,g2.weak h4,h5⟩
  |exit id=>exact g4.elim
  |goto id=>exact g4.elim
  |outgrown=>exact g4.elim
end Go.GL
namespace Go.Stele
open Go.Lib
structure CC where
 sc:Nm->Wd
 ar:Nm->Wd
 t0:Wd
 t1:Wd
 t2:Wd
def qcr (c:CC):List Wd:=[c.t2,[33],c.t1,[33],c.t2,[64],c.t1,[64],[60]]
def opW (c:CC) (op:Nm) (num:Nat) (name:Nm) (l:List (List Wd)):List Wd:=
 if op=nNum then [decDigits num]
 else if op=nVar then [c.sc name,[64]]
 else if op=qdH then c.ar name::(l.headD []++[[43],[64]])
 else if op=qa8 then l.flatten++(if name=[105,110] then [[44]] else if name=[111,117,116] then [[46],[48]] else [[38,102,95]++name,[58]])
 else if op=nNeg then [48]::(l.headD []++[[45]])
 else if op=nNot then l.headD []++[[49],[60]]
 else if op=[33,61] then [48]::(l.headD []++(l.drop 1).headD []++[[94],[60]])
 else if op=[38,38] then [48]::(l.headD []++[[60],[48]]++(l.drop 1).headD []++[[60],[42]])
 else if op=[124,124] then [48]::[48]::(l.headD []++[[60],[48]]++(l.drop 1).headD []++[[60],[43],[60]])
 else l.headD []++(l.drop 1).headD []++(if op=[62] then qcr c else if op=[60,61] then qcr c++[[49],[94]] else if op=[62,61] then [[60],[49],[94]] else if op=[61,61] then [[94],[49],[60]] else [op])
mutual
def exW (c:CC):Ex->List Wd
 |.mk op num name args=>opW c op num name (exWl c args)
def exWl (c:CC):List Ex->List (List Wd)
 |[]=>[]
 |x::l=>exW c x::exWl c l
end
def labW (n:Nat):Wd:=106::decDigits n
mutual
def stW (c:CC):Nat->Sm->List Wd×Nat
 |n,.mk kind name index value thn els=>
  if kind=1 then (exW c (value.headD default)++[c.sc name,[33]],n)
  else if kind=2 then (exW c (value.headD default)++c.ar name::(exW c (index.headD default)++[[43],[33]]),n)
  else if kind=3 then
   (match els with
   |[]=>(exW c (value.headD default)++[38::labW n,[63]]++(stWs c (n+1) thn).1++[labW n++[58]],(stWs c (n+1) thn).2)
   |_::_=>(exW c (value.headD default)++[38::labW n,[63]]++(stWs c (n+2) thn).1++[[48],38::labW (n+1),[63],labW n++[58]]++(stWs c (stWs c (n+2) thn).2 els).1++[labW (n+1)++[58]],(stWs c (stWs c (n+2) thn).2 els).2))
  else if kind=4 then ([labW n++[58]]++exW c (value.headD default)++[38::labW (n+1),[63]]++(stWs c (n+2) thn).1++[[48],38::labW n,[63],labW (n+1)++[58]],(stWs c (n+2) thn).2)
  else if kind=5 then (exW c (value.headD default)++[[59]],n)
  else if kind=6 then (exW c (value.headD default)++[c.t0,[33]],n)
  else if kind=7 then ([[36]],n)
  else ([],n)
def stWs (c:CC):Nat->List Sm->List Wd×Nat
 |n,[]=>([],n)
 |n,s::l=>((stW c n s).1++(stWs c (stW c n s).2 l).1,(stWs c (stW c n s).2 l).2)
end
def qec (l:List Nm) (S:Int) (k:Nm):Int:=if k∈l then S+3+(l.idxOf k:Nat) else 0
def keyC (l:List Nm) (own name:Nm):Nm:=if own++[46]++name∈l then own++[46]++name else name
def arrA:Int->List (Nm×Int)->Nm->Int
 |_,[],_=>0
 |at',(x,n)::r,name=>if x=name then at' else arrA (at'+n) r name
structure Org where
 code:Int
 scalars:Int
 arrays:Int
def ccF (vars:List Nm) (arrays:List (Nm×Int)) (fs:List FnD) (o:Org) (own:Nm):CC:=
 ⟨fun s=>itoa (qec (qat vars fs) o.scalars (keyC (qat vars fs) own s)),fun s=>itoa (arrA o.arrays arrays s),itoa o.scalars,itoa (o.scalars+1),itoa (o.scalars+2)⟩
def fnW (c:CC) (n:Nat) (f:FnD):List Wd×Nat:=
 ([[102,95]++f.name++[58]]++f.params.reverse.flatMap (fun p=>[c.sc p,[33]])++(stWs c n f.body).1++[[48],[59]],(stWs c n f.body).2)
def fnWs (cc:Nm->CC):Nat->List FnD->List Wd×Nat
 |n,[]=>([],n)
 |n,f::l=>((fnW (cc f.name) n f).1++(fnWs cc (fnW (cc f.name) n f).2 l).1,(fnWs cc (fnW (cc f.name) n f).2 l).2)
def prW (vars:List Nm) (arrays:List (Nm×Int)) (fs:List FnD) (o:Org):List Wd:=
 [[38,102,95,109,97,105,110],[58],itoa o.scalars,[33],[36]]++(fnWs (ccF vars arrays fs o) 0 fs).1
def qeM (a n:Int):Bool:=decide (0<=a/\a<=262144-n)
def qhu (a n b m:Int):Bool:=decide (0<n/\0<m/\a<b+m/\b<a+n)
def qdI (vars:List Nm) (arrays:List (Nm×Int)) (fs:List FnD) (o:Org):Bool:=
 let total:=(arrays.map (·.2)).sum
 let n:Int:=3+(qat vars fs).length
 qeM o.scalars n && qeM o.code 40000 && qeM o.arrays total && !qhu o.code 40000 o.scalars n && !qhu o.arrays total o.scalars n && !qhu o.arrays total o.code 40000
def cmpP (vars:List Nm) (arrays:List (Nm×Int)) (fs:List FnD) (o:Org):Except Int Wd:=
 if qb1 vars arrays fs≠0 then .error (qb1 vars arrays fs)
 else if qdI vars arrays fs o=false then .error 2
 else match asmP (join (prW vars arrays fs o) [32]) o.code with
  |.error e=>.error e.2
  |.ok _=>.ok (join (prW vars arrays fs o) [32])
end Go.Stele
namespace Go.Stele
open Go.Lib
theorem qiq (all:List Wd):∀ (l:List (Wd×Nat)) (met:List Wd),(errT all met l).2=0->met.Nodup->(met++defs (l.map (·.1))).Nodup/\∀ w∈l.map (·.1),OkW all w
 |[],met,_,hm=>by
  simp only[List.map_nil,defs,List.filterMap_nil,zLz]
  exact ⟨hm,fun w hw=>(List.not_mem_nil hw).elim⟩
 |(w,ln)::r,met,h,hm=>by
  rw[errT] at h;rw[zMc,qi2]
  cases hd:defW w with
  |some x=>
   rw[hd] at h;simp only at h ⊢;split at h
   ·simp at h
   ·rename_i hx
    have hn:(met++[x]).Nodup:=List.nodup_append.2 ⟨hm,by simp,fun a ha b hb=>by
     rw[List.mem_singleton.1 hb]
     exact fun e=>hx (e▸ha)⟩
    obtain ⟨h1,h2⟩:=qiq all r (met++[x]) h hn;refine ⟨by rw[zAs] at h1;exact h1,fun y hy=>?_⟩;rcases zMi.1 hy with rfl|hy
    ·unfold OkW;rw[hd];trivial
    ·exact h2 y hy
  |none=>
   rw[hd] at h;simp only at h ⊢
   have key:OkW all w/\(errT all met r).2=0:=by
    unfold OkW;rw[hd]
    cases hr:refW w with
    |some x=>
     rw[hr] at h;simp only at h ⊢;split at h
     ·rename_i hx;exact ⟨hx,h⟩
     ·simp at h
    |none=>
     rw[hr] at h;simp only at h ⊢;split at h
     ·rename_i hx;exact ⟨hx,h⟩
     ·simp at h
   obtain ⟨h1,h2⟩:=qiq all r met key.2 hm;refine ⟨by simpa using h1,fun y hy=>?_⟩;rcases zMi.1 hy with rfl|hy
   ·exact key.1
   ·exact h2 y hy
theorem qs6 {src:Wd} (h:(errT (defs (qbo src)) [] (qje src)).2=0):AsmOk (qbo src):=by
 have:=qiq _ _ _ h List.nodup_nil;rw[qfk,List.nil_append] at this;exact this
/-! ### Labels that the assembler took -/
end Go.Stele
namespace Go.Proofs.YthmhncflhnbedaaGreatDoor.Asm
open Go.GL Go.RowKit Go.Stele
theorem qgJ:∀ (l:List Wd) (d:Bool),lenW d l<=3 * tot l
 |[],d=>Nat.zero_le _
 |w::r,d=>by
  have h1:=qpA d;have h2:=qpA (d && qcz w);rw[lenW,qaY]
  cases defW w with
  |some l=>have:=qgJ r d;simp only;omega
  |none=>
   cases hr:refW w with
   |some l=>
    have:=qgJ r true
    have hlen:2<=w.length:=by
     unfold refW at hr;split at hr
     ·cases hr
     ·rename_i c q
      split at hr
      ·rename_i hc
       have:=List.length_pos_iff.2 (qre hc.2);simp only[zLc];omega
      ·cases hr
    simp only
    omega
   |none=>have:=qgJ r (qcY w);simp only;omega
theorem qmN (kn:Wd->Nat) (og M:Nat):∀ (l:List Wd) (s:Wd×List (Wd×Nat)),(∀ w∈l,w≠[])->((l.foldl (qbp kn og) s).1).length<=M->(∀ p∈s.2,p.2<=og+M)->∀ p∈(l.foldl (qbp kn og) s).2,p.2<=og+M
 |[],s,_,_,h=>h
 |w::r,s,hw,hM,h=>by
  rw[List.foldl_cons] at hM ⊢;refine qmN kn og M r _ (fun x hx=>hw x (zMo w hx)) hM ?_;have h1:=qmq kn og r (qbp kn og s w).1 (qbp kn og s w).2 (fun x hx=>hw x (zMo w hx));intro p hp;unfold qbp at hp h1 hM
  cases hd:defW w with
  |none=>
   rw[hd] at hp
   exact h p hp
  |some x=>
   rw[hd] at hp h1 hM;simp only at hp h1 hM;rcases List.mem_append.1 hp with hp|hp
   ·exact h p hp
   ·rw[List.mem_singleton.1 hp];simp only;omega
def qkL (labs:List (Wd×Nat)):KV:=labs.map fun p=>(p.1,int .i64 (p.2:Nat))
theorem qld:∀ (labs:List (Wd×Nat)) (x:Wd),(GL.kvGet (qkL labs) x).getD (int .i64 0)=int .i64 (qb8 labs x:Nat)
 |[],x=>rfl
 |p::r,x=>by
  unfold qkL qb8;rw[zMc,GL.kvGet,List.find?_cons]
  by_cases h:p.1=x
  ·rw[if_pos h,decide_eq_true h];rfl
  ·rw[if_neg h,decide_eq_false h];exact qld r x
theorem qoe {labs:List (Wd×Nat)} {i:Nat} (h:i<labs.length) (hn:(labs.map (·.1)).Nodup):GL.kvPut (qkL (labs.take i)) labs[i].1 (int .i64 (labs[i].2:Nat))=qkL (labs.take (i+1)):=by
 unfold qkL;rw[List.take_succ_eq_append_getElem h,zMa];refine qny ?_;rw[List.map_map];intro hm
 have e1:labs.map (·.1)=(labs.take i).map (·.1)++labs[i].1::(labs.drop (i+1)).map (·.1):=by
  conv=>lhs;rw[<-List.take_append_drop i labs,List.drop_eq_getElem_cons h]
  rw[zMa,zMc]
 rw[e1,List.nodup_append] at hn;exact hn.2.2 _ hm _ zMs rfl
theorem qm1 {labs:List (Wd×Nat)} {M:Nat} (h:∀ p∈labs,p.2<=M) (x:Wd):qb8 labs x<=M:=by
 unfold qb8
 cases hf:labs.find? fun p=>decide (p.1=x) with
 |none=>exact Nat.zero_le _
 |some p=>exact h p (List.mem_of_find?_eq_some hf)
def asmLV:Except (Nat×Nat) (Wd×List (Wd×Nat))->LV
 |.error e=>.tuple [str [],.list [],int .i64 (e.1:Nat),int .i64 (e.2:Nat)]
 |.ok x=>.tuple [str x.1,.list (x.2.map qa1),int .i64 0,int .i64 0]
attribute [local irreducible] LOps qae qag LCalls Go.GL.Pure qaA qaq qah LQ LAny qaF qap
section
variable {B0:Nat} {w0:World}
theorem assemble_spec (hG:GW B0 w0) (hM:GM w0) (src:List UInt8) (og:Int) (hs:src.length<=300000000):LCalls (KC B0 w0) 10 [str src,int .i64 og] [] (Ret (asmLV (asmP src og))):=by
 have hA:asmP src og=asmP src og:=rfl
 conv at hA=>rhs;unfold asmP
 generalize hR:asmP src og=R at hA ⊢;refine LCalls.intro4 Tryz.func10 rfl (n:=65) rfl rfl rfl ?_;refine gaa ?_;refine oB 19 rfl (fun h1=>?_) (fun h1=>?_)
 ·have h1':og<0:=zt h1;rw[if_pos (.inl h1')] at hA;subst hA;refine gad ?_;refine oC rfl (fun h=>?_) (fun h=>by cases h);refine gap ?_;exact qac rfl (rC (zrt rfl) (rC (rT (v:=qaa) rfl vN) (rC (zrt rfl) (zra rfl)))) rfl
 have h1':¬ og<0:=zf h1;refine gac ?_;refine oC rfl (fun h2=>?_) (fun h2=>?_)
 ·have h2':og ≥ 262144:=zt h2;rw[if_pos (.inr h2')] at hA;subst hA;refine gap ?_;exact qac rfl (rC (zrt rfl) (rC (rT (v:=qaa) rfl vN) (rC (zrt rfl) (zra rfl)))) rfl
 have h2':¬ og ≥ 262144:=zf h2;rw[if_neg zo] at hA;obtain ⟨o,rfl⟩:∃ o:Nat,og=(o:Int):=⟨og.toNat,by omega⟩;rw[Int.toNat_natCast] at hA;have hao:=@qs6 src;have hft:=qfk src;have hwt:=qip src;have hwl:=qg8 src;have hcl:=qhg src;have hlw:=qgJ (qbo src) false;have htk:=ql3 hG hM src zo;rw[<-hft] at hwt hwl hcl hlw hA hao;rw[zLm] at hwl;generalize qje src=l at hwt hwl hcl hlw htk hA hao;have hne:∀ w∈txt l,w≠[]:=fun w hw=>(hcl w hw).1
 have hsz:∀ p∈l,p.1≠[]/\p.1.length<=1000000000:=fun p hp=>by
  have hm:p.1∈l.map (·.1):=List.mem_map_of_mem hp;have:=qml hm;exact ⟨(hcl _ hm).1,by omega⟩
 have hck:=check_spec (B0:=B0) (w0:=w0) l zo (fun p hp=>(hsz p hp).2)
 have hlen:∀ kn,((txt l).foldl (qbp kn o) ([],[])).1.length=lenW false (txt l):=fun kn=>by
  rw[qdZ];exact qiI kn _ hne
 have hjo:=fun kn hkn km Hk hK=>qqb hG l o zo zo hsz kn hkn (by rw[hlen kn];show lenW false (l.map (·.1))<=_;omega) km Hk hK;generalize hE:errT (defs (txt l)) [] l=E at hck hA hao;have hE2:E=(E.1,E.2):=rfl;refine gau ?_;refine oS (sF [_] rfl htk ?_) rfl;refine gab ?_;refine oS (sF [_] rfl hck ?_) rfl;refine gab ?_;refine oC rfl (fun h1=>?_) (fun h1=>?_)
 ·have h3:¬ E.2=0:=by simpa using h1
  rw[if_pos h3] at hA;subst hA;refine gaa ?_;exact qac rfl (rC (zrt rfl) (rC (rT (v:=qaa) rfl vN) (rC (zrt rfl) (zra rfl)))) rfl
 have h3:E.2=0:=by simpa using h1
 rw[if_neg zo] at hA;have hnd:=(hao h3).1;refine gaa ?_;refine oS (S.callH (H1:=[]) (F:=[]) [_,_,.const (.map none)] rfl zpr (hjo (fun _=>0) (fun _=>Nat.zero_le _) none [] (.inl ⟨rfl,rfl,fun _=>rfl⟩)) (fun v' H' hh=>?_) (fun ch H' hh=>by obtain ⟨h,_⟩:=hh;cases h)) rfl;obtain ⟨hv,rfl⟩:=hh;cases hv;have hlabs:((txt l).foldl (qbp (fun _=>0) o) ([],[])).2=qhD (fun _=>0) o (l.map (·.1)):=rfl
 have hle:∀ p∈((txt l).foldl (qbp (fun _=>0) o) ([],[])).2,p.2<=1000000000000:=fun p hp=>by
  have:=qmN (fun _=>0) o (lenW false (txt l)) (txt l) ([],[]) hne (by rw[hlen];exact zNr _) (fun p hp=>by cases hp) p hp;have h5:lenW false (txt l)<=3 * tot (l.map (·.1)):=hlw;omega
 have hnl:(((txt l).foldl (qbp (fun _=>0) o) ([],[])).2.map (·.1)).Nodup:=by
  rw[qiB];exact hnd
 have hll:=(qjg (fun _=>0) o (txt l) ([],[])).2;rw[hlabs] at hle hnl hll;generalize hLB:qhD (fun _=>0) o (l.map (·.1))=labs at hle hnl hll hA hlabs;rw[hlabs]
 have hll2:labs.length<=l.length:=by
  have:(txt l).length=l.length:=zLm _;simp only[zLn] at hll;omega
 have hlab:(labs.map qa1).length=labs.length:=zLm _;refine gab ?_;refine oS (S.kvNew fun m=>?_) rfl;refine gaa ?_
 refine oL (fun k ls H=>∃ (i:Nat) (clock:Nat),i<=labs.length/\k=labs.length-i/\ls=[(1,int .i64 (o:Nat)),(8,.list (l.map qa1)),(13,.atom (.map (some m))),(41,.list (labs.map qa1)),(42,int .i64 labs.length),(43,int .i64 (i:Nat))]/\H=[(m,.map (kvs (qkL (labs.take i))) clock)])
  ⟨_,_,_,⟨0,0,Nat.zero_le _,rfl,rfl,rfl⟩,⟨rfl,rfl,rfl,rfl,qaf zo,rfl,trivial⟩,zhR _⟩ ?_
 rintro k ls H ⟨i,clock,hi,rfl,rfl,rfl⟩ j hj;refine gai ?_;refine oC rfl (fun hc=>?_) (fun hc=>?_)
 ·have hlt:i<labs.length:=by have:=zt hc;omega
  refine gak ?_;refine oP (xR (el':=qa1 labs[i]) (cs:=[_,_]) rfl rfl zo (qa0 _ _ _ hlt) rfl rfl) rfl ?_;refine gac ?_;refine oS (sA fun b15=>?_) rfl;refine gaa ?_;refine oS (S.kvPut (t:=55) (kt:=9) (el:=3) (m:=qkL (labs.take i)) (k:=labs[i].1) (lv:=int .i64 (labs[i].2:Nat)) zk zk rfl rfl rfl zp1 fun clock'=>?_) rfl;rw[qoe hlt hnl];refine gat ?_;exact ⟨_,_,_,by omega,⟨i+1,clock',by omega,rfl,rfl,rfl⟩,⟨rfl,rfl,rfl,rfl,rfl,qaf zo,trivial⟩,⟨[_],List.Perm.refl _⟩,hj⟩
 ·have hi':i=labs.length:=by have:=zf hc;omega
  subst hi';rw[List.take_length];have hkn:=qm1 hle;refine gaa ?_;refine oS (S.callH (H1:=[(m,.map (kvs (qkL labs)) clock)]) (F:=[]) [_,_,_] rfl zpr (hjo (qb8 labs) hkn (some m) _ (.inr ⟨m,qkL labs,clock,rfl,rfl,qld labs⟩)) (fun v' H' hh=>?_) (fun ch H' hh=>by obtain ⟨h,_⟩:=hh;cases h)) rfl;obtain ⟨hv,rfl⟩:=hh;cases hv;have e1:((txt l).foldl (qbp (qb8 labs) o) ([],[])).1=qiL (qb8 labs) (l.map (·.1)):=qdZ _ _ _ _
  have e2:((txt l).foldl (qbp (qb8 labs) o) ([],[])).2=labs:=by
   show qhD (qb8 labs) o (l.map (·.1))=labs;rw[qpC (qb8 labs) (fun _=>0) o (l.map (·.1)) hne];exact hLB
  rw[e1,e2];generalize qiL (qb8 labs) (l.map (·.1))=tx at hA;refine gab ?_;refine oC rfl (fun h2=>?_) (fun h2=>?_)
  ·have h5:40000<tx.length:=by have:=zt h2;omega
   rw[if_pos h5] at hA;subst hA;refine gap ?_;exact qac hj (rC (zrt rfl) (rC (rT (v:=qaa) rfl vN) (rC (zrt rfl) (zra rfl)))) rfl
  ·have h5:¬ 40000<tx.length:=by have:=zf h2;omega
   rw[if_neg h5] at hA;subst hA;refine gab ?_;exact qac hj (rC (zrt rfl) (rC (rT (v:=.list _) rfl zsr) (rC (zrt rfl) (zra rfl)))) rfl
end
end Go.Proofs.YthmhncflhnbedaaGreatDoor.Asm
namespace Go.Stele
open Go.Lib
section
variable (vars arrays later:List Nm)
end
section
variable {vars arrays later:List Nm}
end
/-! ### Where a function's words begin -/
/-! ### Where the arrays lie -/
def totA (l:List Ar):Nat:=(l.map (·.size)).sum
theorem qfs (l:List Ar):((l.map fun a=>(a.name,(a.size:Int))).map (·.2)).sum=((totA l:Nat):Int):=by
 unfold totA
 induction l with
 |nil=>rfl
 |cons a l ih=>
  simp only[zMc,List.sum_cons] at ih ⊢;rw[ih];omega
end Go.Stele
namespace Go.Stele
open Go.Lib
def qbK (P:Pr):List (Nm×Int):=P.arrays.map fun a=>(a.name,(a.size:Int))
def qel (P:Pr) (o:Org):List Wd:=prW P.vars (qbK P) P.funcs o
theorem qcc {z:Int} (h:0<=z):itoa z=decDigits z.toNat:=by
 unfold itoa;rw[if_neg (by omega)]
structure FitN (P:Pr) (o:Org):Prop where
 s0:0<=o.scalars
 c0:0<=o.code
 a0:0<=o.arrays
 s1:o.scalars.toNat+3+(qat P.vars P.funcs).length<=262144
 c1:o.code.toNat+40000<=262144
 a1:o.arrays.toNat+totA P.arrays<=262144
 cs:o.scalars.toNat+3+(qat P.vars P.funcs).length<=o.code.toNat∨o.code.toNat+40000<=o.scalars.toNat
 asA:0<totA P.arrays->o.scalars.toNat+3+(qat P.vars P.funcs).length<=o.arrays.toNat∨o.arrays.toNat+totA P.arrays<=o.scalars.toNat
 ac:0<totA P.arrays->o.code.toNat+40000<=o.arrays.toNat∨o.arrays.toNat+totA P.arrays<=o.code.toNat
theorem qjS {P:Pr} {o:Org} (h:qdI P.vars (qbK P) P.funcs o=true):FitN P o:=by
 unfold qdI qeM qhu at h;simp only[zBa,Bool.not_eq_true',zDe,decide_eq_false_iff_not] at h;have ht:((qbK P).map (·.2)).sum=((totA P.arrays:Nat):Int):=qfs P.arrays;rw[ht] at h;obtain ⟨⟨⟨⟨⟨h1,h2⟩,h3⟩,h4⟩,h5⟩,h6⟩:=h;constructor <;> omega
section
variable {P:Pr} {o:Org}
end
end Go.Stele
namespace Go.Stele
open Go.Lib
def AllC (l:List Wd):Prop:=∀ w∈l,qcR w
theorem qbg:AllC []:=fun w hw=>(List.not_mem_nil hw).elim
theorem qaJ {w:Wd} {l:List Wd}:AllC (w::l) ↔ qcR w/\AllC l:=List.forall_mem_cons
theorem qaO {a b:List Wd}:AllC (a++b) ↔ AllC a/\AllC b:=List.forall_mem_append
def qpc (w:Wd):Bool:=decide (w≠[]) && w.all fun c=>decide (c≠10/\c≠32/\c≠35)
theorem qmA {w:Wd} (h:qpc w=true):qcR w:=by
 unfold qpc at h;rw[zBa,zDe,List.all_eq_true] at h;refine ⟨h.1,fun c hc=>?_⟩;have:=of_decide_eq_true (h.2 c hc);exact this
theorem qdz {l:List Wd} (h:l.all qpc=true):AllC l:=fun w hw=>qmA (List.all_eq_true.1 h w hw)
theorem qdQ {z:Int} (h:0<=z):qcR (itoa z):=by rw[qcc h];exact qir _
theorem qjb {a b:Wd} (h:qd3 a) (h2:qd3 b) (hne:a≠[]):qcR (a++b):=⟨fun h=>hne (List.append_eq_nil_iff.1 h).1,fun c hc=>(List.mem_append.1 hc).elim (h c) (h2 c)⟩
theorem qf2 {p:Prop} [Decidable p] {a b:List Wd} (h1:p->AllC a) (h2:¬ p->AllC b):AllC (if p then a else b):=by
 by_cases h:p
 ·rw[if_pos h];exact h1 h
 ·rw[if_neg h];exact h2 h
structure ClC (c:CC):Prop where
 sc:∀ n,qcR (c.sc n)
 ar:∀ n,qcR (c.ar n)
 t0:qcR c.t0
 t1:qcR c.t1
 t2:qcR c.t2
theorem qnH {s:Nm} (h:isNm s=true):qd3 s:=by
 unfold isNm at h;rw[zBa] at h;have h2:=h.2
 have hi:∀ c:UInt8,qaz c=true∨qaH c=true->c≠10/\c≠32/\c≠35:=fun c hc=>by
  refine ⟨?_,?_,?_⟩ <;> (rintro rfl;exact absurd hc zDd)
 cases s with
 |nil=>exact fun c hc=>(List.not_mem_nil hc).elim
 |cons c r=>
  simp only[zBa] at h2;intro d hd;rcases zMi.1 hd with rfl|hd
  ·exact hi _ (.inl h2.1)
  ·exact hi _ (.inr (List.all_eq_true.1 h2.2 d hd))
theorem qku {c:CC} (hc:ClC c):AllC (qcr c):=by
 have hs:∀ {k:UInt8},(k≠10/\k≠32/\k≠35)->qcR [k]:=fun h=>⟨by simp,fun x hx=>by rw[List.mem_singleton.1 hx];exact h⟩;unfold qcr
 repeat' first|exact hc.t1|exact hc.t2|exact hs zDd|exact qbg|refine qaJ.2 ⟨?_,?_⟩
theorem qoT {c:CC} (hc:ClC c) {op name:Nm} {num:Nat} {l:List (List Wd)} (hl:∀ ws∈l,AllC ws) (hop:qba op ≠ -2) (hcall:op=qa8->qd3 name):AllC (opW c op num name l):=by
 have hh:AllC (l.headD []):=by
  cases l with
  |nil=>exact qbg
  |cons a r=>exact hl a zMs
 have h2:AllC ((l.drop 1).headD []):=by
  cases l with
  |nil=>exact qbg
  |cons a r=>
   cases r with
   |nil=>exact qbg
   |cons b r=>exact hl b (zMo _ zMs)
 have hf:AllC l.flatten:=fun w hw=>by
  obtain ⟨ws,h1,h3⟩:=List.mem_flatten.1 hw;exact hl ws h1 w h3
 have hg:=qku hc;have hs:∀ {k:UInt8},(k≠10/\k≠32/\k≠35)->qcR [k]:=fun h=>⟨by simp,fun x hx=>by rw[List.mem_singleton.1 hx];exact h⟩
 have hbin:¬ (op=nNum)->¬ (op=nVar)->¬ (op=qdH)->¬ (op=qa8)->¬ (op=nNeg)->¬ (op=nNot)->qcR op:=by
  intro a1 a2 a3 a4 a5 a6;unfold qba at hop;rw[if_neg (by simp[a1,a2]),if_neg (by simp[a3,a5,a6]),if_neg a4] at hop;split at hop
  ·rename_i h
   exact qdz (l:=qeW) zDd op h
  ·exact absurd rfl hop
 unfold opW;refine qf2 (fun n1=>?_) fun n1=>qf2 (fun n2=>?_) fun n2=>qf2 (fun n3=>?_) fun n3=>qf2 (fun n4=>?_) fun n4=>qf2 (fun n5=>?_) fun n5=>qf2 (fun n6=>?_) fun n6=>qf2 (fun n7=>?_) fun n7=>qf2 (fun n8=>?_) fun n8=>qf2 (fun n9=>?_) fun n9=>?_
 ·exact qaJ.2 ⟨qir _,qbg⟩
 ·repeat' first|exact hh|exact h2|exact qbg|exact hc.sc _|exact hc.ar _|exact hs zDd|refine qaJ.2 ⟨?_,?_⟩|refine qaO.2 ⟨?_,?_⟩
 ·repeat' first|exact hh|exact h2|exact qbg|exact hc.sc _|exact hc.ar _|exact hs zDd|refine qaJ.2 ⟨?_,?_⟩|refine qaO.2 ⟨?_,?_⟩
 ·refine qaO.2 ⟨hf,qf2 (fun _=>qdz zDd) fun _=>qf2 (fun _=>qdz zDd) fun _=>?_⟩;refine qaJ.2 ⟨qjb (fun x hx=>?_) (hcall n4) (by simp),qdz zDd⟩;have:=List.all_eq_true.1 (show ([38,102,95]:Wd).all (fun c=>decide (c≠10/\c≠32/\c≠35))=true by decide) x hx;exact of_decide_eq_true this
 ·repeat' first|exact hh|exact h2|exact qbg|exact hc.sc _|exact hc.ar _|exact hs zDd|refine qaJ.2 ⟨?_,?_⟩|refine qaO.2 ⟨?_,?_⟩
 ·repeat' first|exact hh|exact h2|exact qbg|exact hc.sc _|exact hc.ar _|exact hs zDd|refine qaJ.2 ⟨?_,?_⟩|refine qaO.2 ⟨?_,?_⟩
 ·repeat' first|exact hh|exact h2|exact qbg|exact hc.sc _|exact hc.ar _|exact hs zDd|refine qaJ.2 ⟨?_,?_⟩|refine qaO.2 ⟨?_,?_⟩
 ·repeat' first|exact hh|exact h2|exact qbg|exact hc.sc _|exact hc.ar _|exact hs zDd|refine qaJ.2 ⟨?_,?_⟩|refine qaO.2 ⟨?_,?_⟩
 ·repeat' first|exact hh|exact h2|exact qbg|exact hc.sc _|exact hc.ar _|exact hs zDd|refine qaJ.2 ⟨?_,?_⟩|refine qaO.2 ⟨?_,?_⟩
 refine qaO.2 ⟨qaO.2 ⟨hh,h2⟩,?_⟩;refine qf2 (fun _=>hg) fun _=>qf2 (fun _=>qaO.2 ⟨hg,qdz zDd⟩) fun _=>qf2 (fun _=>qdz zDd) fun _=>qf2 (fun _=>qdz zDd) fun _=>?_;exact qaJ.2 ⟨hbin n1 n2 n3 n4 n5 n6,qbg⟩
mutual
theorem qiA {c:CC} (hc:ClC c) {env:CEnv} (hfn:∀ k∈env.funcs,qd3 k.name):∀ e,errE env e=0->AllC (exW c e)
 |.mk op num name args,h=>by
  rw[errE] at h;split at h
  ·rename_i ho
   obtain ⟨h1,h3⟩:=qad.1 h;rw[exW];refine qoT hc (qjZ hc hfn args h1) (by omega) (fun hcl=>?_);subst hcl;unfold useE at h3;rw[if_neg zDd,if_neg zDd,if_pos rfl] at h3;unfold callE at h3;split at h3
   ·rename_i e;rw[e]
    exact fun x hx=>of_decide_eq_true (List.all_eq_true.1 (show ([105,110]:Wd).all (fun c=>decide (c≠10/\c≠32/\c≠35))=true by decide) x hx)
   split at h3
   ·rename_i e;rw[e]
    exact fun x hx=>of_decide_eq_true (List.all_eq_true.1 (show ([111,117,116]:Wd).all (fun c=>decide (c≠10/\c≠32/\c≠35))=true by decide) x hx)
   unfold CEnv.fn at h3
   cases hf:env.funcs.find? fun f=>decide (f.name=name) with
   |none=>
    rw[hf] at h3;simp only at h3
    split at h3 <;> cases h3
   |some k=>
    have e:k.name=name:=of_decide_eq_true (List.find?_some (p:=fun g:FSum=>decide (g.name=name)) hf);rw[<-e];exact hfn k (List.mem_of_find?_eq_some hf)
  ·cases h
theorem qjZ {c:CC} (hc:ClC c) {env:CEnv} (hfn:∀ k∈env.funcs,qd3 k.name):∀ l,qaZ env l=0->∀ ws∈exWl c l,AllC ws
 |[],h,ws,hw=>by rw[exWl] at hw;exact (List.not_mem_nil hw).elim
 |x::l,h,ws,hw=>by
  rw[qaZ] at h;obtain ⟨h1,h2⟩:=qad.1 h;rw[exWl] at hw;rcases zMi.1 hw with rfl|hw
  ·exact qiA hc hfn x h1
  ·exact qjZ hc hfn l h2 ws hw
end
end Go.Stele
namespace Go.Stele
open Go.Lib
theorem qcC (n:Nat):qcR (labW n)/\qcR (38::labW n)/\qcR (labW n++[58]):=by
 have h:=(qir n).2
 have h1:∀ {c:UInt8} {w:Wd},(c≠10/\c≠32/\c≠35)->qd3 w->qd3 (c::w):=fun hc hw x hx=>by
  rcases zMi.1 hx with rfl|hx
  ·exact hc
  ·exact hw x hx
 have h2:qd3 (labW n):=h1 zDd h;exact ⟨⟨by simp[labW],h2⟩,⟨by simp,h1 zDd h2⟩,qjb h2 (h1 zDd fun x hx=>(List.not_mem_nil hx).elim) (by simp[labW])⟩
section
variable {c:CC} {env:CEnv}
theorem qeB {k:UInt8} (h:k≠10/\k≠32/\k≠35):qcR [k]:=⟨by simp,fun x hx=>by rw[List.mem_singleton.1 hx];exact h⟩
theorem qjE (hc:ClC c) (hfn:∀ k∈env.funcs,qd3 k.name) {l:List Ex} (h1:l.length=1) (h:qaZ env l=0):AllC (exW c (l.headD default)):=by
 obtain ⟨x,rfl⟩:=List.length_eq_one_iff.1 h1;rw[qaZ] at h;exact qiA hc hfn x (qad.1 h).1
mutual
theorem qk7 (hc:ClC c) (hfn:∀ k∈env.funcs,qd3 k.name):∀ (s:Sm) (n:Nat),errS env s=0->AllC (stW c n s).1
 |.mk kind name index value thn els,n,h=>by
  rw[errS] at h
  by_cases hf:qbz (.mk kind name index value thn els)=false
  ·rw[if_pos hf] at h;cases h
  rw[if_neg hf] at h;obtain ⟨h1,h⟩:=qad.1 h;obtain ⟨h2,h⟩:=qad.1 h;obtain ⟨h3,h⟩:=qad.1 h;obtain ⟨h4,h5⟩:=qad.1 h;rw[Bool.not_eq_false] at hf;unfold qbz at hf
  have hv:kind=1∨kind=2∨kind=3∨kind=4∨kind=5∨kind=6->AllC (exW c (value.headD default)):=fun hk=>qjE hc hfn (by
   rcases hk with rfl|rfl|rfl|rfl|rfl|rfl <;> simp at hf <;> simp[hf]) h1
  have ht:=fun n=>qfC hc hfn thn n h4;have he:=fun n=>qfC hc hfn els n h5;unfold stW
  by_cases k1:kind=1
  ·rw[if_pos k1];exact qaO.2 ⟨hv (by simp[k1]),qaJ.2 ⟨hc.sc _,qdz zDd⟩⟩
  rw[if_neg k1]
  by_cases k2:kind=2
  ·rw[if_pos k2];refine qaO.2 ⟨hv (by simp[k2]),qaJ.2 ⟨hc.ar _,qaO.2 ⟨qjE hc hfn ?_ h2,qdz zDd⟩⟩⟩;subst k2;simp at hf;simp[hf]
  rw[if_neg k2]
  by_cases k3:kind=3
  ·rw[if_pos k3];have h8:=hv (by simp[k3])
   cases els with
   |nil=>
    simp only
    exact qaO.2 ⟨qaO.2 ⟨qaO.2 ⟨h8,qaJ.2 ⟨(qcC n).2.1,qdz zDd⟩⟩,ht _⟩,qaJ.2 ⟨(qcC n).2.2,qbg⟩⟩
   |cons a r=>
    simp only;exact qaO.2 ⟨qaO.2 ⟨qaO.2 ⟨qaO.2 ⟨qaO.2 ⟨h8,qaJ.2 ⟨(qcC n).2.1,qdz zDd⟩⟩,ht _⟩,qaJ.2 ⟨qeB zDd,qaJ.2 ⟨(qcC (n+1)).2.1,qaJ.2 ⟨qeB zDd,qaJ.2 ⟨(qcC n).2.2,qbg⟩⟩⟩⟩⟩,he _⟩,qaJ.2 ⟨(qcC (n+1)).2.2,qbg⟩⟩
  rw[if_neg k3]
  by_cases k4:kind=4
  ·rw[if_pos k4];have h8:=hv (by simp[k4]);exact qaO.2 ⟨qaO.2 ⟨qaO.2 ⟨qaO.2 ⟨qaJ.2 ⟨(qcC n).2.2,qbg⟩,h8⟩,qaJ.2 ⟨(qcC (n+1)).2.1,qdz zDd⟩⟩,ht _⟩,qaJ.2 ⟨qeB zDd,qaJ.2 ⟨(qcC n).2.1,qaJ.2 ⟨qeB zDd,qaJ.2 ⟨(qcC (n+1)).2.2,qbg⟩⟩⟩⟩⟩
  rw[if_neg k4]
  by_cases k5:kind=5
  ·rw[if_pos k5];exact qaO.2 ⟨hv (by simp[k5]),qdz zDd⟩
  rw[if_neg k5]
  by_cases k6:kind=6
  ·rw[if_pos k6];exact qaO.2 ⟨hv (by simp[k6]),qaJ.2 ⟨hc.t0,qdz zDd⟩⟩
  rw[if_neg k6]
  by_cases k7:kind=7
  ·rw[if_pos k7];exact qaJ.2 ⟨qeB zDd,qbg⟩
  ·rw[if_neg k7];exact qbg
theorem qfC (hc:ClC c) (hfn:∀ k∈env.funcs,qd3 k.name):∀ (l:List Sm) (n:Nat),qa7 env l=0->AllC (stWs c n l).1
 |[],n,h=>by rw[stWs];exact qbg
 |s::l,n,h=>by
  rw[qa7] at h;obtain ⟨h1,h2⟩:=qad.1 h;rw[stWs];exact qaO.2 ⟨qk7 hc hfn s n h1,qfC hc hfn l _ h2⟩
end
theorem qpV (hc:ClC c) (hfn:∀ k∈env.funcs,qd3 k.name) (f:FnD) (n:Nat) (hname:qd3 f.name) (h:qa7 env f.body=0):AllC (fnW c n f).1:=by
 unfold fnW;simp only;refine qaO.2 ⟨qaO.2 ⟨qaO.2 ⟨qaJ.2 ⟨?_,qbg⟩,fun w hw=>?_⟩,qfC hc hfn _ _ h⟩,qdz zDd⟩
 ·rw[zAs];refine qjb (fun x hx=>?_) (fun x hx=>?_) (by simp)
  ·exact of_decide_eq_true (List.all_eq_true.1 (show ([102,95]:Wd).all (fun c=>decide (c≠10/\c≠32/\c≠35))=true by decide) x hx)
  ·rcases List.mem_append.1 hx with h|h
   ·exact hname x h
   ·exact (qeB (k:=58) zDd).2 x h
 ·obtain ⟨p,h1,h2⟩:=List.mem_flatMap.1 hw;rcases zMi.1 h2 with rfl|h2
  ·exact hc.sc _
  ·rw[List.mem_singleton.1 h2];exact qeB zDd
end
theorem qjY {cc:Nm->CC} (hc:∀ n,ClC (cc n)):∀ (fs:List FnD) (n:Nat),(∀ f∈fs,∀ m,AllC (fnW (cc f.name) m f).1)->AllC (fnWs cc n fs).1
 |[],n,_=>by rw[fnWs];exact qbg
 |f::l,n,h=>by
  rw[fnWs];exact qaO.2 ⟨h f zMs n,qjY hc l _ fun g hg=>h g (zMo _ hg)⟩
section
variable {P:Pr} {o:Org}
theorem qgE:∀ (l:List (Nm×Int)) (a:Int),0<=a->(∀ p∈l,0<=p.2)->∀ n,0<=arrA a l n
 |[],a,_,_,n=>by simp[arrA]
 |(x,k)::l,a,h,hl,n=>by
  rw[arrA];split
  ·exact h
  ·have:0<=k:=hl (x,k) zMs;exact qgE l _ (by omega) (fun p hp=>hl p (zMo _ hp)) n
theorem qj1 (hF:FitN P o) (own:Nm):ClC (ccF P.vars (qbK P) P.funcs o own):=by
 have s0:=hF.s0;refine ⟨fun n=>?_,fun n=>?_,?_,?_,?_⟩
 ·refine qdQ ?_;unfold qec;split <;> omega
 ·refine qdQ (qgE _ _ hF.a0 (fun p hp=>?_) n);obtain ⟨a,_,rfl⟩:=List.mem_map.1 hp;exact Int.natCast_nonneg _
 ·exact qdQ s0
 ·exact qdQ (z:=o.scalars+1) (by omega)
 ·exact qdQ (z:=o.scalars+2) (by omega)
theorem qpM (hc:qf6 P=0) (hfit:qdI P.vars (qbK P) P.funcs o=true):AllC (qel P o):=by
 have hv:=qj9 hc;have hF:=qjS hfit;have hfr:=qbB _ _ hv.names;have hpl:∀ f∈P.funcs,qd3 f.name:=fun f hf=>qnH (hfr.2 _ (List.mem_append.2 (.inr (List.mem_map.2 ⟨f,hf,rfl⟩)))).2;have h1:AllC ([[38,102,95,109,97,105,110],[58],itoa o.scalars,[33],[36]]:List Wd):=qaJ.2 ⟨qmA zDd,qaJ.2 ⟨qmA zDd,qaJ.2 ⟨qdQ hF.s0,qdz zDd⟩⟩⟩;refine qaO.2 ⟨h1,qjY (fun n=>qj1 hF n) P.funcs 0 fun f hf m=>?_⟩;obtain ⟨kn,k1,k2⟩:=hv.bodies f hf;refine qpV (qj1 hF f.name) (fun k hk=>?_) f m (hpl f hf) k1;obtain ⟨g,g1,g2,_⟩:=k2 k hk;rw[<-g2];exact hpl g g1
end
end Go.Stele
namespace Go.Stele
open Go.Lib
structure ShC (c:CC):Prop where
 sc:∀ n,(c.sc n).length<=10
 ar:∀ n,(c.ar n).length<=10
 t0:c.t0.length<=10
 t1:c.t1.length<=10
 t2:c.t2.length<=10
def sumW (l:List (List Wd)):Nat:=(l.map tot).sum
theorem qgm (a:List Wd) (l:List (List Wd)):sumW (a::l)=tot a+sumW l:=by simp[sumW]
theorem qq9 (l:List (List Wd)):tot (l.headD [])+tot ((l.drop 1).headD [])<=sumW l:=by
 cases l with
 |nil=>simp[tot,sumW]
 |cons a r=>
  rw[qgm]
  cases r with
  |nil=>simp[tot,sumW]
  |cons b r=>rw[qgm];simp only[List.headD_cons,List.drop_one,List.tail_cons];omega
theorem qnh:∀ l:List (List Wd),tot l.flatten=sumW l
 |[]=>rfl
 |a::l=>by rw[List.flatten_cons,qaj,qnh l,qgm]
theorem qd1 {p:Prop} [Decidable p] {a b:List Wd} {n:Nat} (h1:p->tot a<=n) (h2:¬ p->tot b<=n):tot (if p then a else b)<=n:=by
 by_cases h:p
 ·rw[if_pos h];exact h1 h
 ·rw[if_neg h];exact h2 h
theorem qs0 {op:Nm} (h:op∈qeW):op.length<=2:=by
 have:∀ o∈qeW,o.length<=2:=by decide
 exact this op h
theorem qss {c:CC} (hc:ShC c) {op name:Nm} {num:Nat} {l:List (List Wd)} (hn:num<4294967296) (hop:qba op ≠ -2) (hcall:op=qa8->name.length<=24):tot (opW c op num name l)<=60+sumW l:=by
 have hh:=qq9 l;have hf:=qnh l;have hd:=qgI hn;have h0:=hc.t0;have h1:=hc.t1;have h2:=hc.t2;have hs:=hc.sc name;have ha:=hc.ar name
 have hbin:¬ (op=nNum)->¬ (op=nVar)->¬ (op=qdH)->¬ (op=qa8)->¬ (op=nNeg)->¬ (op=nNot)->op.length<=2:=by
  intro a1 a2 a3 a4 a5 a6;unfold qba at hop;rw[if_neg (by simp[a1,a2]),if_neg (by simp[a3,a5,a6]),if_neg a4] at hop;split at hop
  ·rename_i h
   exact qs0 h
  ·exact absurd rfl hop
 have hg:tot (qcr c)<=54:=by
  unfold qcr;simp only[qaY,qbr,zLc,zLn];omega
 unfold opW;refine qd1 (fun n1=>?_) fun n1=>qd1 (fun n2=>?_) fun n2=>qd1 (fun n3=>?_) fun n3=>qd1 (fun n4=>?_) fun n4=>qd1 (fun n5=>?_) fun n5=>qd1 (fun n6=>?_) fun n6=>qd1 (fun n7=>?_) fun n7=>qd1 (fun n8=>?_) fun n8=>qd1 (fun n9=>?_) fun n9=>?_
 ·simp only[qaY,qbr];omega
 ·simp only[qaY,qbr,zLc,zLn];omega
 ·simp only[qaY,qaj,qbr,zLc,zLn];omega
 ·have hnl:=hcall n4;rw[qaj,hf]
  have:tot (if name=[105,110] then ([[44]]:List Wd) else if name=[111,117,116] then [[46],[48]] else [[38,102,95]++name,[58]])<=60:=qd1 (fun _=>by decide) fun _=>qd1 (fun _=>by decide) fun _=>by
   simp only[qaY,qbr,zLa,zLc,zLn];omega
  omega
 ·simp only[qaY,qaj,qbr,zLc,zLn];omega
 ·simp only[qaY,qaj,qbr,zLc,zLn];omega
 ·simp only[qaY,qaj,qbr,zLc,zLn];omega
 ·simp only[qaY,qaj,qbr,zLc,zLn];omega
 ·simp only[qaY,qaj,qbr,zLc,zLn];omega
 ·have hb:=hbin n1 n2 n3 n4 n5 n6;rw[qaj,qaj]
  have:tot (if op=[62] then qcr c else if op=[60,61] then qcr c++[[49],[94]] else if op=[62,61] then ([[60],[49],[94]]:List Wd) else if op=[61,61] then [[94],[49],[60]] else [op])<=60:=qd1 (fun _=>by omega) fun _=>qd1 (fun _=>by
   simp only[qaY,qaj,qbr,zLc,zLn];omega) fun _=>qd1 (fun _=>by decide) fun _=>qd1 (fun _=>by decide) fun _=>by
   simp only[qaY,qbr];omega
  omega
mutual
theorem qo1 {c:CC} (hc:ShC c) {env:CEnv} (hfn:∀ k∈env.funcs,k.name.length<=24):∀ e,numE e->errE env e=0->tot (exW c e)<=60 * ndE e
 |.mk op num name args,hn,h=>by
  rw[errE] at h;rw[numE] at hn;rw[ndE];split at h
  ·rename_i ho
   obtain ⟨h1,h3⟩:=qad.1 h;rw[exW];have:=qm8 hc hfn args hn.2 h1;have h5:=qss hc (op:=op) (name:=name) (num:=num) (l:=exWl c args) hn.1 (by omega) (fun hcl=>?_)
   ·omega
   subst hcl;unfold useE at h3;rw[if_neg zDd,if_neg zDd,if_pos rfl] at h3;unfold callE at h3;split at h3
   ·rename_i e;rw[e];decide
   split at h3
   ·rename_i e;rw[e];decide
   unfold CEnv.fn at h3
   cases hf:env.funcs.find? fun f=>decide (f.name=name) with
   |none=>
    rw[hf] at h3;simp only at h3
    split at h3 <;> cases h3
   |some k=>
    have e:k.name=name:=of_decide_eq_true (List.find?_some (p:=fun g:FSum=>decide (g.name=name)) hf);rw[<-e];exact hfn k (List.mem_of_find?_eq_some hf)
  ·cases h
theorem qm8 {c:CC} (hc:ShC c) {env:CEnv} (hfn:∀ k∈env.funcs,k.name.length<=24):∀ l,qbd l->qaZ env l=0->sumW (exWl c l)<=60 * ndEs l
 |[],_,h=>by rw[exWl];exact Nat.zero_le _
 |x::l,hn,h=>by
  rw[qaZ] at h;rw[qbd] at hn;obtain ⟨h1,h2⟩:=qad.1 h;have a1:=qo1 hc hfn x hn.1 h1;have a2:=qm8 hc hfn l hn.2 h2;rw[exWl,qgm,ndEs];omega
end
theorem qnK {c:CC} (hc:ShC c) {env:CEnv} (hfn:∀ k∈env.funcs,k.name.length<=24) {l:List Ex} (h1:l.length=1) (hn:qbd l) (h:qaZ env l=0):tot (exW c (l.headD default))<=60 * ndEs l:=by
 obtain ⟨x,rfl⟩:=List.length_eq_one_iff.1 h1;rw[qaZ] at h;rw[qbd] at hn;have:=qo1 hc hfn x hn.1 (qad.1 h).1;rw[ndEs];simp only[List.headD_cons];omega
theorem qjf {n:Nat} (h:n<=4000000000):(labW n).length<=11:=by
 have:=qgI (u:=n) (by omega);simp only[labW,zLc];omega
mutual
theorem qr9 {c:CC} (hc:ShC c) {env:CEnv} (hfn:∀ k∈env.funcs,k.name.length<=24):∀ (s:Sm) (n:Nat),numS s->errS env s=0->n+2 * ndS s<=4000000000->tot (stW c n s).1<=60 * ndS s/\(stW c n s).2<=n+2 * ndS s
 |.mk kind name index value thn els,n,hnm,h,hN=>by
  rw[errS] at h;rw[numS] at hnm;rw[ndS] at hN ⊢;obtain ⟨m1,m2,m3,m4⟩:=hnm
  by_cases hf:qbz (.mk kind name index value thn els)=false
  ·rw[if_pos hf] at h;cases h
  rw[if_neg hf] at h;obtain ⟨h1,h⟩:=qad.1 h;obtain ⟨h2,h⟩:=qad.1 h;obtain ⟨h3,h⟩:=qad.1 h;obtain ⟨h4,h5⟩:=qad.1 h;rw[Bool.not_eq_false] at hf;unfold qbz at hf
  have hv:kind=1∨kind=2∨kind=3∨kind=4∨kind=5∨kind=6->tot (exW c (value.headD default))<=60 * ndEs value:=fun hk=>qnK hc hfn (by
   rcases hk with rfl|rfl|rfl|rfl|rfl|rfl <;> simp at hf <;> simp[hf]) m2 h1
  have ht:=fun n hn=>qhQ hc hfn thn n m3 h4 hn;have he:=fun n hn=>qhQ hc hfn els n m4 h5 hn;have l0:=qjf (n:=n) (by omega);have l1:=qjf (n:=n+1) (by omega);have t0:=hc.t0;have ts:=hc.sc name;have ta:=hc.ar name;unfold stW
  by_cases k1:kind=1
  ·have:=hv (by simp[k1]);rw[if_pos k1];simp only[qaY,qaj,qbr,zLc,zLn];omega
  rw[if_neg k1]
  by_cases k2:kind=2
  ·have:=hv (by simp[k2])
   have hi:tot (exW c (index.headD default))<=60 * ndEs index:=by
    refine qnK hc hfn ?_ m1 h2;subst k2;simp at hf;simp[hf]
   rw[if_pos k2];simp only[qaY,qaj,qbr,zLc,zLn];omega
  rw[if_neg k2]
  by_cases k3:kind=3
  ·rw[if_pos k3];have h8:=hv (by simp[k3])
   cases els with
   |nil=>
    have h9:=ht (n+1) (by omega);simp only[qaY,qaj,qbr,zLc,zLn,zLa]
    omega
   |cons a r=>
    have h9:=ht (n+2) (by omega);have h10:=he (stWs c (n+2) thn).2 (by omega);simp only[qaY,qaj,qbr,zLc,zLn,zLa];omega
  rw[if_neg k3]
  by_cases k4:kind=4
  ·rw[if_pos k4];have h8:=hv (by simp[k4]);have h9:=ht (n+2) (by omega);simp only[qaY,qaj,qbr,zLc,zLn,zLa];omega
  rw[if_neg k4]
  by_cases k5:kind=5
  ·have:=hv (by simp[k5]);rw[if_pos k5];simp only[qaY,qaj,qbr,zLc,zLn];omega
  rw[if_neg k5]
  by_cases k6:kind=6
  ·have:=hv (by simp[k6]);rw[if_pos k6];simp only[qaY,qaj,qbr,zLc,zLn];omega
  rw[if_neg k6]
  by_cases k7:kind=7
  ·rw[if_pos k7];simp only[qaY,qbr,zLc,zLn];omega
  ·rw[if_neg k7];simp only[qbr];omega
theorem qhQ {c:CC} (hc:ShC c) {env:CEnv} (hfn:∀ k∈env.funcs,k.name.length<=24):∀ (l:List Sm) (n:Nat),qcA l->qa7 env l=0->n+2 * ndSs l<=4000000000->tot (stWs c n l).1<=60 * ndSs l/\(stWs c n l).2<=n+2 * ndSs l
 |[],n,_,h,_=>by rw[stWs];simp[qbr]
 |s::l,n,hnm,h,hN=>by
  rw[qa7] at h;rw[qcA] at hnm;rw[ndSs] at hN ⊢;obtain ⟨h1,h2⟩:=qad.1 h;have a1:=qr9 hc hfn s n hnm.1 h1 (by omega);have a2:=qhQ hc hfn l (stW c n s).2 hnm.2 h2 (by omega);rw[stWs];simp only[qaj];omega
end
theorem qk4 {c:CC} (hc:ShC c):∀ l:List Nm,tot (l.flatMap fun p=>[c.sc p,[33]])<=20 * l.length
 |[]=>zNr _
 |p::l=>by
  have:=qk4 hc l;have:=hc.sc p;rw[List.flatMap_cons,qaj];simp only[qaY,qbr,zLc,zLn];omega
theorem qr3 {c:CC} (hc:ShC c) {env:CEnv} (hfn:∀ k∈env.funcs,k.name.length<=24) (f:FnD) (n:Nat) (hname:f.name.length<=24) (hnm:qcA f.body) (h:qa7 env f.body=0) (hN:n+2 * ndF f<=4000000000):tot (fnW c n f).1<=60 * ndF f/\(fnW c n f).2<=n+2 * ndF f:=by
 unfold ndF at hN ⊢;have h1:=qhQ hc hfn f.body n hnm h (by omega);have h2:=qk4 hc f.params.reverse;rw[List.length_reverse] at h2;unfold fnW;simp only[qaY,qaj,qbr,zLc,zLn,zLa];omega
theorem qno {cc:Nm->CC}:∀ (fs:List FnD) (n:Nat),(∀ f∈fs,∀ m,m+2 * ndF f<=4000000000->tot (fnW (cc f.name) m f).1<=60 * ndF f/\(fnW (cc f.name) m f).2<=m+2 * ndF f)->n+2 * ndFs fs<=4000000000->tot (fnWs cc n fs).1<=60 * ndFs fs/\(fnWs cc n fs).2<=n+2 * ndFs fs
 |[],n,_,_=>by rw[fnWs];simp[qbr]
 |f::l,n,h,hN=>by
  rw[ndFs] at hN ⊢;have a1:=h f zMs n (by omega);have a2:=qno l (fnW (cc f.name) n f).2 (fun g hg=>h g (zMo _ hg)) (by omega);rw[fnWs];simp only[qaj];omega
section
variable {P:Pr} {o:Org}
theorem qfB {z:Int} (h:0<=z) (h2:z<4294967296):(itoa z).length<=10:=by
 rw[qcc h];exact qgI (by omega)
theorem qmW:∀ (l:List (Nm×Int)) (a:Int),0<=a->(∀ p∈l,0<=p.2)->∀ n,arrA a l n<=a+(l.map (·.2)).sum
 |[],a,h,_,n=>by simp[arrA];exact h
 |(x,k)::l,a,h,hl,n=>by
  have hk:0<=k:=hl (x,k) zMs;have hl':=fun p hp=>hl p (zMo (x,k) hp)
  have hs:∀ m:List (Nm×Int),(∀ p∈m,0<=p.2)->0<=(m.map (·.2)).sum:=by
   intro m
   induction m with
   |nil=>intro _;simp
   |cons q m ih=>
    intro hm;have h1:=hm q zMs;have h2:=ih fun p hp=>hm p (zMo _ hp);rw[zMc,List.sum_cons];omega
  have hsl:=hs l hl';rw[arrA,zMc,List.sum_cons];split
  ·show a<=a+(k+_);omega
  ·have:=qmW l (a+k) (by omega) hl' n;show _<=a+(k+_);omega
theorem qrb (hF:FitN P o) (own:Nm):ShC (ccF P.vars (qbK P) P.funcs o own):=by
 have s0:=hF.s0;have s1:=hF.s1;have a0:=hF.a0;have a1:=hF.a1
 have hp:∀ p∈qbK P,0<=p.2:=fun p hp=>by
  obtain ⟨a,_,rfl⟩:=List.mem_map.1 hp;exact Int.natCast_nonneg _
 refine ⟨fun n=>?_,fun n=>?_,?_,?_,?_⟩
 ·refine qfB ?_ ?_
  ·unfold qec;split <;> omega
  ·unfold qec;split
   ·rename_i h
    have:=List.idxOf_lt_length_of_mem h;omega
   ·omega
 ·refine qfB (qgE _ _ a0 hp n) ?_;have h1:=qmW (qbK P) o.arrays a0 hp n;have h2:((qbK P).map (·.2)).sum=((totA P.arrays:Nat):Int):=qfs P.arrays;rw[h2] at h1;omega
 ·exact qfB s0 (by omega)
 ·exact qfB (z:=o.scalars+1) (by omega) (by omega)
 ·exact qfB (z:=o.scalars+2) (by omega) (by omega)
theorem qh3 (hc:qf6 P=0) (hnum:∀ f∈P.funcs,qcA f.body) (hfit:qdI P.vars (qbK P) P.funcs o=true) (hnd:ndFs P.funcs<=2000000):tot (qel P o)<=60+60 * ndFs P.funcs/\(fnWs (ccF P.vars (qbK P) P.funcs o) 0 P.funcs).2<=2 * ndFs P.funcs:=by
 have hv:=qj9 hc;have hF:=qjS hfit;have hfr:=qbB _ _ hv.names
 have hpl:∀ f∈P.funcs,f.name.length<=24:=fun f hf=>by
  have h:=(hfr.2 _ (List.mem_append.2 (.inr (List.mem_map.2 ⟨f,hf,rfl⟩)))).2;unfold isNm at h;rw[zBa,zBa,zDe] at h;exact h.1.1
 have hb:=qno (cc:=ccF P.vars (qbK P) P.funcs o) P.funcs 0 (fun f hf m hm=>by
  obtain ⟨kn,k1,k2⟩:=hv.bodies f hf;refine qr3 (qrb hF f.name) (fun k hk=>?_) f m (hpl f hf) (hnum f hf) k1 hm;obtain ⟨g,g1,g2,_⟩:=k2 k hk;rw[<-g2]
  exact hpl g g1) (by omega)
 have ht:=qfB (z:=o.scalars) hF.s0 (by have:=hF.s1;omega);refine ⟨?_,by omega⟩;unfold qel prW;rw[qaj];simp only[qaY,qbr,zLc,zLn];omega
end
end Go.Stele
namespace Go.Proofs.YthmhncflhnbedaaGreatDoor.Cmp
open Go.GL Go.RowKit Go.Stele
open Go.Lib (decDigits itoa join)
structure TB where
 tb:Nat
 sm:Nat
 am:Nat
 S:KV
 A:KV
 g1:Nat
 g2:Nat
 sc:Nat
def TrH (k:TB) (own:Nm) (ws:List Wd) (n:Nat) (H:Heap):Prop:=∃ v Hv,GL.Acc 1 v (ws.map str) Hv []/\H=(k.tb,.cells 57 [v,int .i64 (n:Nat),int .i64 (k.sc:Nat),.atom (.map (some k.sm)),.atom (.map (some k.am)),str own])::(k.sm,.map (kvs k.S) k.g1)::(k.am,.map (kvs k.A) k.g2)::Hv
def qg9 (P:Heap->Prop):LRes->Heap->Prop:=fun r H=>r=.ret (.tuple [])/\P H
def qlz (s:List UInt8) (P:Heap->Prop):LRes->Heap->Prop:=fun r H=>r=.ret (str s)/\P H
structure TBok (k:TB) (c:CC) (own:Nm):Prop where
 sc:∀ name,∃ a:Nat,a<=1000000000/\c.sc name=decDigits a/\((∃ v,GL.kvGet k.S (own++[46]++name)=some v/\v=int .i64 (a:Nat))∨(GL.kvGet k.S (own++[46]++name)=none/\(GL.kvGet k.S name).getD (int .i64 0)=int .i64 (a:Nat)))
 ar:∀ name,∃ a:Nat,a<=1000000000/\c.ar name=decDigits a/\(GL.kvGet k.A name).getD (int .i64 0)=int .i64 (a:Nat)
 t0:c.t0=decDigits k.sc
 t1:c.t1=decDigits (k.sc+1)
 t2:c.t2=decDigits (k.sc+2)
 small:k.sc<=1000000000
 own:own.length<=1000000
theorem perm3 {x y z:Nat×LObj} {A:Heap}:(x::y::z::A).Perm (A++[x,y,z]):=zPc (l₁:=[x,y,z])
theorem qbe {x:Nat×LObj} {A:Heap}:(x::A).Perm (A++[x]):=(List.perm_append_singleton _ _).symm
theorem qeg {x y:Nat×LObj} {A:Heap}:(x::y::A).Perm (A++[x,y]):=zPc (l₁:=[x,y])
theorem ql4 {A:Heap}:A.Perm (A++[]):=by rw[zLz]
theorem qct {x:Nat×LObj} {A:Heap}:HSub A (x::A):=zhD zhr
theorem qht {x y:Nat×LObj} {A:Heap}:HSub A (x::y::A):=zhD (zhD zhr)
theorem qp9 {x:Nat×LObj} {A:Heap}:HSub [x] (x::A):=zhP pH zhn
theorem qhz {x y:Nat×LObj} {A:Heap}:HSub [x,y] (x::y::A):=zhP pH zhp
theorem qnE {x:Nat×LObj} {A:Heap}:HSub (x::A) (A++[x]):=⟨[],by rw[zLz];exact qbe.symm⟩
theorem qna {x y:Nat×LObj} {A:Heap}:HSub (x::y::A) (A++[x,y]):=⟨[],by rw[zLz];exact qeg.symm⟩
theorem qpE {m:Nat} (h:m<4294967296):IntKind.u64.wrap (m:Int)=m:=by
 simp only[IntKind.wrap,IntKind.bits,IntKind.signed,Bool.false_and]
 simp
 omega
section
variable {C:Ctx} {e:Env} {H:Heap} {dst:Option Nat} {ty:TypeId} {pos:String} {aft:Array Edge} {g:Option (Nat×Bool)} {K:LV->Heap->Prop} {X:List PanicEntry->Heap->Prop}
theorem zsT {f:FuncId} [TEnter C.P f] (args:List Operand) {ats:Array TypeId} {avs:List LV} {P:Heap->Prop} {H1 F:Heap} (has:args.map e.ev=avs) (hp:H.Perm (H1++F)) (hc:LCalls C f avs H1 (qg9 P)) (hk:∀ H',P H'->K (.tuple []) (F++H')) :
  qag C ⟨dst,.call { callee:=.value (.func f),args:=args.toArray,argTypes:=ats },ty,pos,aft,g⟩ e H K X:=
 qag.conseq (K:=fun lv H''=>∃ H',H''=H'++F/\P H'/\lv=.tuple []) (S.callH args has hp hc (by rintro v H' ⟨h,h2⟩;cases h;exact ⟨H',rfl,h2,rfl⟩) (by rintro ch H' ⟨h,_⟩;cases h))
  (by rintro lv H'' ⟨H',rfl,hP,rfl⟩;exact ⟨_,F++H',vR _,⟨[],by rw[zLz];exact zPc⟩,hk H' hP⟩)
theorem Pure.kvOr {t el:TypeId} {zv:Value} {zl lv:LV} [h:TMap C.P t el zv zl] {x y:Operand} {b clock:Nat} {m:KV} {s:List UInt8} (hm:e.ev x=.atom (.map (some b))) (hx:e.ev y=str s) (hb:(b,.map (kvs m) clock)∈H) (hg:(GL.kvGet m s).getD zl=lv) :
  GL.Pure C ⟨dst,.lookup t x y false,ty,pos,aft,g⟩ e H lv:=by
 obtain ⟨kt,h1,h2⟩:=h.und;exact hg▸GL.Pure.kvGet h1 h2 h.zero h.rep hm hx hb
theorem S.callS {f:FuncId} [TEnter C.P f] (args:List Operand) {ats:Array TypeId} {avs:List LV} {P:Heap->Prop} {s:List UInt8} {H1 F:Heap} (has:args.map e.ev=avs) (hp:H.Perm (H1++F)) (hc:LCalls C f avs H1 (qlz s P)) (hk:∀ H',P H'->K (str s) (F++H')) :
  qag C ⟨dst,.call { callee:=.value (.func f),args:=args.toArray,argTypes:=ats },ty,pos,aft,g⟩ e H K X:=
 qag.conseq (K:=fun lv H''=>∃ H',H''=H'++F/\P H'/\lv=str s) (S.callH args has hp hc (by rintro v H' ⟨h,h2⟩;cases h;exact ⟨H',rfl,h2,rfl⟩) (by rintro ch H' ⟨h,_⟩;cases h))
  (by rintro lv H'' ⟨H',rfl,hP,rfl⟩;exact ⟨_,F++H',vR _,⟨[],by rw[zLz];exact zPc⟩,hk H' hP⟩)
theorem S.callTV {fo:Operand} {f:FuncId} [TEnter C.P f] {first caps:Array Value} (args:List Operand) {ats:Array TypeId} {avs:List LV} {P:Heap->Prop} {H1 F:Heap} (hf:e.ev fo=.atom (.func (.func f) first caps))
  (has:first.toList.map .atom++args.map e.ev++caps.toList.map .atom=avs) (hp:H.Perm (H1++F)) (hc:LCalls C f avs H1 (qg9 P)) (hk:∀ H',P H'->K (.tuple []) (F++H')) :
  qag C ⟨dst,.call { callee:=.value fo,args:=args.toArray,argTypes:=ats },ty,pos,aft,g⟩ e H K X:=
 qag.conseq (K:=fun lv H''=>∃ H',H''=H'++F/\P H'/\lv=.tuple []) (S.callV args hf has hp hc (by rintro v H' ⟨h,h2⟩;cases h;exact ⟨H',rfl,h2,rfl⟩) (by rintro ch H' ⟨h,_⟩;cases h))
  (by rintro lv H'' ⟨H',rfl,hP,rfl⟩;exact ⟨_,F++H',vR _,⟨[],by rw[zLz];exact zPc⟩,hk H' hP⟩)
end
attribute [local irreducible] LOps qae qag LCalls Go.GL.Pure qaA qaq qah LQ LAny qaF qap LS
section
variable {B0:Nat} {w0:World} {k:TB} {own:Nm} {c:CC} {ws:List Wd} {n:Nat} {H:Heap}
theorem qak (h:TrH k own ws n H) (W:List Wd) {a:LV} (ha:GL.elems a=some (W.map str)) (hr:ws.length+W.length<=1000000000):LCalls (KC B0 w0) 57 [ptr k.tb 0,a] H (qg9 (TrH k own (ws++W) n)):=by
 obtain ⟨v,Hv,hacc,rfl⟩:=h;have h1:(ws.map str).length=ws.length:=zLm _;have h2:(W.map str).length=W.length:=zLm _;refine cI Tryz.func57 rfl (n:=13) rfl rfl rfl ?_;refine gaa ?_;refine oP (pL (c:=v) rfl zm0 rfl) rfl ?_;refine oP (pM (lv:=a) rfl) rfl ?_;refine oS (sG perm3 rfl hacc ha (qa6 W) (qbt W) zo fun v' H' hacc'=>?_) rfl;refine gad ?_;refine oS (sS (cs':=[v',int .i64 (n:Nat),int .i64 (k.sc:Nat),.atom (.map (some k.sm)),.atom (.map (some k.am)),str own]) rfl pH (Acc.cell hacc').1 rfl rfl (Acc.cell hacc').2 rfl ?_) rfl;refine gam ?_;exact rO rfl rN zhr ⟨rfl,v',H',by rw[zMa];exact hacc',rfl⟩
theorem qfr (hG:GW B0 w0) (h:TrH k own ws n H) (hn:n<=1000000000000):LCalls (KC B0 w0) 161 [ptr k.tb 0] H (qlz (labW n) (TrH k own ws (n+1))):=by
 obtain ⟨v,Hv,hacc,rfl⟩:=h
 have hd:(Go.Lib.decDigits n).length<=20:=by
  rw[Go.Lib.decDigits_length];exact zNt (qfK 12 n zo) zDd
 refine cI Tryz.func161 rfl (n:=18) rfl rfl rfl ?_;refine gaa ?_;refine oS (sF [_] rfl (qdu hG n zo) ?_) rfl;refine gab ?_
 first|(refine oS (sS (cs':=[_,_,_,_,_,_]) rfl pH rfl rfl rfl rfl rfl ?_) rfl)|skip
 refine gaa ?_;exact rR rfl (zra rfl) zhr ⟨rfl,v,Hv,hacc,rfl⟩
theorem qb7 (hG:GW B0 w0) (hk:TBok k c own) (h:TrH k own ws n H) (name:List UInt8) (hn:name.length<=1000000):LCalls (KC B0 w0) 59 [ptr k.tb 0,str name] H (qlz (c.sc name) (TrH k own ws n)):=by
 obtain ⟨a,ha1,ha2,ha3⟩:=hk.sc name;have ho:=hk.own;have h0:=h;obtain ⟨v,Hv,hacc,rfl⟩:=h;rw[ha2];refine cI Tryz.func59 rfl (n:=32) rfl rfl rfl ?_;refine ga0 ?_;refine zQ85 ?_;refine gac ?_;rcases ha3 with ⟨v3,hv3,rfl⟩|⟨hv3,hv4⟩
 ·refine qP (Pure.kvHit2 rfl rfl zm1 hv3) rfl ?_;refine gab ?_;refine oC rfl (fun hc=>?_) (fun hc=>?_)
  ·refine gaf ?_;refine oS (sF [_] rfl (qdu hG a zo) ?_) rfl;refine gae ?_;exact rR rfl (zra rfl) zhr ⟨rfl,h0⟩
  ·cases hc
 ·refine qP (Pure.kvMiss2 rfl rfl zm1 hv3) rfl ?_;refine gab ?_;refine oC rfl (fun hc=>?_) (fun hc=>?_)
  ·cases hc
  ·refine gaa ?_;refine oP (Pure.kvOr rfl rfl zm1 hv4) rfl ?_;refine oS (sF [_] rfl (qdu hG a zo) ?_) rfl;refine gae ?_;exact rR rfl (zra rfl) zhr ⟨rfl,h0⟩
theorem qdm (hG:GW B0 w0) (hk:TBok k c own) (h:TrH k own ws n H) (i:Nat) (hi:i<=2):LCalls (KC B0 w0) 58 [ptr k.tb 0,int .i64 (i:Nat)] H (qlz (decDigits (k.sc+i)) (TrH k own ws n)):=by
 have h0:=h;obtain ⟨v,Hv,hacc,rfl⟩:=h;have hs:=hk.small;have e1:int .i64 ((k.sc:Int)+(i:Int))=int .i64 ((k.sc+i:Nat):Int):=qaf zo;refine cI Tryz.func58 rfl (n:=12) rfl rfl rfl ?_;refine gaa ?_;refine oS (sF [_] (by show [_]=_;exact congrArg (fun x=>[x]) e1) (qdu hG (k.sc+i) zo) ?_) rfl;refine gae ?_;exact rR rfl (zra rfl) zhr ⟨rfl,h0⟩
theorem qhw (hG:GW B0 w0) (hk:TBok k c own) (h:TrH k own ws n H) (hr:ws.length+(qcr c).length<=1000000000):LCalls (KC B0 w0) 199 [ptr k.tb 0] H (qg9 (TrH k own (ws++qcr c) n)):=by
 have e:qcr c=[c.t2,[33],c.t1,[33],c.t2,[64],c.t1,[64],[60]]:=rfl;rw[e] at hr ⊢;rw[hk.t1,hk.t2];rw[hk.t1,hk.t2] at hr;refine cI Tryz.func199 rfl (n:=15) rfl rfl rfl ?_;refine gaf ?_;refine oS (S.callS (F:=[]) [_,_] rfl ql4 (qdm hG hk h 1 zDd) fun H1 h1=>?_) rfl;refine gax ?_;refine oS (S.callS (H1:=H1) (F:=[]) [_,_] rfl ql4 (qdm hG hk h1 2 zDd) fun H2 h2=>?_) rfl;refine gaw ?_;refine oS (sL [_,_,_,_,_,_,_,_,_] rfl (qaC [_,_,_,_,_,_,_,_,_]) rfl rfl rfl ?_) rfl;refine oS (zsT (H1:=H2) (F:=[]) [_,_] rfl ql4 (qak h2 [_,_,_,_,_,_,_,_,_] rfl hr) fun H3 h3=>?_) rfl;refine gam ?_;exact rO rfl rN zhr ⟨rfl,h3⟩
end
end Go.Proofs.YthmhncflhnbedaaGreatDoor.Cmp
namespace Go.Proofs.YthmhncflhnbedaaGreatDoor.Cmp
open Go.GL Go.RowKit Go.Stele
open Go.Lib (decDigits itoa join)
structure EnvOk (env:CEnv):Prop where
 sc:∀ s,qbj env s=0->s.length<=24
 fn:∀ k∈env.funcs,k.name.length<=24
theorem EnvOk.call {env:CEnv} (h:EnvOk env) {name:Nm} {m:Nat} (hc:callE env name m=0):name.length<=24:=by
 unfold callE at hc;split at hc
 ·rename_i e;rw[e];decide
 split at hc
 ·rename_i e;rw[e];decide
 unfold CEnv.fn at hc
 cases hf:env.funcs.find? fun f=>decide (f.name=name) with
 |none=>
  rw[hf] at hc;simp only at hc
  split at hc <;> cases hc
 |some k=>
  have e:k.name=name:=zt (List.find?_some (p:=fun g:FSum=>decide (g.name=name)) hf);rw[<-e];exact h.fn k (List.mem_of_find?_eq_some hf)
section
variable {C:Ctx} {e:Env} {H:Heap} {dst:Option Nat} {ty:TypeId} {pos:String} {aft:Array Edge} {g:Option (Nat×Bool)} {K:LV->Heap->Prop} {X:List PanicEntry->Heap->Prop}
theorem qag.callT {f:FuncId} [TEnter C.P f] (args:List Operand) {ats:Array TypeId} {avs:List LV} {P:Heap->Prop} (has:args.map e.ev=avs) (hc:LCalls C f avs H (qg9 P)) (hk:∀ H',P H'->K (.tuple []) H') :
  qag C ⟨dst,.call { callee:=.value (.func f),args:=args.toArray,argTypes:=ats },ty,pos,aft,g⟩ e H K X:=
 qag.conseq (zsT (F:=[]) (K:=fun lv H'=>K lv H') (X:=X) args has (by rw[zLz]) hc (fun H' h=>hk H' h)) (fun lv H' h=>⟨lv,H',vR _,zhR _,h⟩)
end
attribute [local irreducible] LOps qae qag LCalls Go.GL.Pure qaA qaq qah LQ LAny qaF qap LS
section
variable {B0:Nat} {w0:World}
abbrev exB (b:Nat) (op:Nm) (num:Nat) (name:Nm) (args:List Ex):Nat×LObj:=(b,.cells 182 [str op,int .u32 (num:Int),str name,.list (args.map encE)])
def qmd (B0:Nat) (w0:World) (k:TB) (own:Nm) (c:CC) (env:CEnv) (m:Nat):Prop:=∀ (x:Ex) (ws:List Wd) (n:Nat) (H:Heap),ndE x<=m->numE x->errE env x=0->TrH k own ws n H->ws.length+(exW c x).length<=1000000000->LCalls (KC B0 w0) 117 [ptr k.tb 0,encE x] H (qg9 (TrH k own (ws++exW c x) n))
theorem qj5 {k:TB} {own:Nm} {c:CC} {env:CEnv} {m:Nat} (ih:qmd B0 w0 k own c env m) (l:List Ex) (ws:List Wd) (n:Nat) (H:Heap) (hm:ndEs l<=m) (hl:l.length<=2000000) (hnum:qbd l) (he:qaZ env l=0) (h:TrH k own ws n H) (hr:ws.length+(exWl c l).flatten.length<=1000000000) :
  LCalls (KC B0 w0) 159 [ptr k.tb 0,.list (l.map encE)] H (qg9 (TrH k own (ws++(exWl c l).flatten) n)):=by
 have hall:(l.map encE).length=l.length:=zLm _;refine cI Tryz.func159 rfl (n:=16) rfl rfl rfl ?_;refine gaa ?_
 refine oL (fun kk ls H'=>∃ (pre l1:List Ex) (ws':List Wd),l=pre++l1/\kk=l1.length/\ls=[(0,ptr k.tb 0),(6,.list (l.map encE)),(7,int .i64 ((l.map encE).length:Int)),(8,int .i64 (pre.length:Int))]/\TrH k own ws' n H'/\ws'++(exWl c l1).flatten=ws++(exWl c l).flatten/\qaZ env l1=0/\qbd l1)
  ⟨l.length,_,_,⟨[],l,ws,rfl,rfl,rfl,h,rfl,he,hnum⟩,⟨rfl,rfl,rfl,rfl,trivial⟩,zhR _⟩ ?_
 rintro kk ls H' ⟨pre,l1,ws',hLe,rfl,rfl,hT,hW,he1,hn1⟩ j hj
 have hb2:pre.length<=2000000:=by
  have:=congrArg List.length hLe;rw[zLa] at this;omega
 refine gai ?_;refine oC rfl (fun hc=>?_) (fun hc=>?_)
 ·have hlen:=zt hc;rw[zLm,hLe,zLa] at hlen
  obtain ⟨a,l2,rfl⟩:∃ a l2,l1=a::l2:=by
   cases l1 with
   |nil=>simp at hlen
   |cons a l2=>exact ⟨a,l2,rfl⟩
  have ham:ndE a<=ndEs l:=qdo (by rw[hLe];exact List.mem_append_right _ zMs);rw[qaZ] at he1;rw[qbd] at hn1;rw[exWl,List.flatten_cons,<-zAs] at hW;obtain ⟨h1,h2⟩:=qad.1 he1;have hlw:=congrArg List.length hW;rw[zLa,zLa,zLa] at hlw;refine gak ?_;refine oP (xR (el':=encE a) (cs:=[_,_,_,_]) rfl rfl zo (by rw[hLe];exact Chk.get_mid encE pre a l2) rfl rfl) rfl ?_;refine gav ?_;refine oS (sA fun b8=>?_) rfl;refine gab ?_;refine oS (zsT (H1:=H') (F:=[_]) [_,_] rfl qbe (ih a ws' n H' zo hn1.1 h1 hT zo) fun H2 hT2=>?_) rfl;refine gat ?_;exact ⟨l2.length,_,_,Nat.lt_succ_self _,⟨pre++[a],l2,ws'++exW c a,by rw[hLe];simp,rfl,rfl,hT2,hW,h2,hn1.2⟩,⟨rfl,rfl,rfl,qaf (by simp),trivial⟩,qct,hj⟩
 ·have hlen:=zf hc;rw[zLm,hLe,zLa] at hlen
  obtain rfl:l1=[]:=by
   cases l1 with
   |nil=>rfl
   |cons a l2=>simp at hlen;omega
  rw[exWl,List.flatten_nil,zLz] at hW;refine gad ?_;exact rO hj rN zhr ⟨rfl,by rw[<-hW];exact hT⟩
theorem qkY {k:TB} {own:Nm} {c:CC} {env:CEnv} {m:Nat} (ih:qmd B0 w0 k own c env m) (b2 b3:Nat) (op:Nm) (num:Nat) (name:Nm) (x y:Ex) (ws:List Wd) (n:Nat) (H:Heap) (hx:ndE x<=m) (hy:ndE y<=m) (nx:numE x) (ny:numE y) (ex:errE env x=0) (ey:errE env y=0) (h:TrH k own ws n H)
  (A B:List Wd) {a b:LV} (ha:GL.elems a=some (A.map str)) (hb:GL.elems b=some (B.map str)) (hr:ws.length+(A++exW c x++B++exW c y).length<=1000000000) :
  LCalls (KC B0 w0) 198 [a,b,ptr b2 0,ptr b3 0] ((b2,.cells 54 [ptr k.tb 0])::exB b3 op num name [x,y]::H)
   (qg9 (fun H'=>∃ H2,H'=(b2,.cells 54 [ptr k.tb 0])::exB b3 op num name [x,y]::H2/\TrH k own (ws++(A++exW c x++B++exW c y)) n H2)):=by
 simp only[zLa] at hr;refine cI Tryz.func198 rfl (n:=24) rfl rfl rfl ?_;refine gaa ?_;refine oP (pM (lv:=a) rfl) rfl ?_;refine oS (zsT (H1:=H) (F:=[_,_]) [_,_] rfl qeg (qak h A ha zo) fun H2 h2=>?_) rfl;refine gad ?_;refine qsG ?_;refine LAny.take (i:=3) qhz rfl zk zk zk rfl (xR (el':=encE x) (cs:=[_,_,_,_]) rfl rfl zDd rfl rfl rfl) ?_;refine aT 4 rfl rfl (pR (cs':=[_,_,_,_]) rfl rfl rfl) ?_;refine aL ?_ qhz;refine lO 5 (lS (H1:=H2) (F:=[_,_]) rfl (.inl rfl) rfl qeg zhr (qag.callT [_,_] rfl (ih x _ n H2 hx nx ex h2 (by rw[zLa];omega)) fun H3 h3=>?_));refine qhE ?_;refine cW qna ?_;refine gaa ?_;refine oP (pM (lv:=b) rfl) rfl ?_;refine oS (zsT (H1:=H3) (F:=[_,_]) [_,_] rfl qeg (qak h3 B hb (by simp only[zLa];omega)) fun H4 h4=>?_) rfl;refine gam ?_;refine qsG ?_;refine LAny.take (i:=3) qhz rfl zk zk zk rfl (xR (el':=encE y) (cs:=[_,_,_,_]) rfl rfl zDd rfl rfl rfl) ?_;refine aT 4 rfl rfl (pR (cs':=[_,_,_,_]) rfl rfl rfl) ?_;refine aL ?_ qhz;refine lO 5 (lS (H1:=H4) (F:=[_,_]) rfl (.inl rfl) rfl qeg zhr (qag.callT [_,_] rfl (ih y _ n H4 hy ny ey h4 (by simp only[zLa];omega)) fun H5 h5=>?_));refine lD zk ?_
 exact rO rfl rN qna ⟨rfl,H5,rfl,by
  simp only[zAs] at h5 ⊢
  exact h5⟩
end
end Go.Proofs.YthmhncflhnbedaaGreatDoor.Cmp
namespace Go.Proofs.YthmhncflhnbedaaGreatDoor.Cmp
open Go.GL Go.RowKit Go.Stele
open Go.Lib (decDigits itoa join)
theorem qcb (c:CC):exWl c []=[]:=by rw[exWl]
theorem qbP (c:CC) (x:Ex) (l:List Ex):exWl c (x::l)=exW c x::exWl c l:=by rw[exWl]
theorem qmS {env:CEnv} {op name:Nm} {args:List Ex} (h:qba op = -1∨qba op=args.length) (ho:qba op=1):∃ x,args=[x]:=by
 have:args.length=1:=by omega
 exact List.length_eq_one_iff.1 this
theorem qq3 {op:Nm} {args:List Ex} (h:qba op = -1∨qba op=args.length) (ho:qba op=2):∃ x y,args=[x,y]:=by
 have h2:args.length=2:=by omega
 match args,h2 with
 |[x,y],_=>exact ⟨x,y,rfl⟩
def binW (c:CC) (op:Nm):List Wd:=if op=[62] then qcr c else if op=[60,61] then qcr c++[[49],[94]] else if op=[62,61] then [[60],[49],[94]] else if op=[61,61] then [[94],[49],[60]] else [op]
def twoW (c:CC) (op:Nm) (X Y:List Wd):List Wd:=
 if op=[33,61] then [[48]]++X++[]++Y++[[94],[60]]
 else if op=[38,38] then [[48]]++X++[[60],[48]]++Y++[[60],[42]]
 else if op=[124,124] then [[48],[48]]++X++[[60],[48]]++Y++[[60],[43],[60]]
 else []++X++[]++Y++binW c op
theorem qmv (c:CC) {op:Nm} (num:Nat) (name:Nm) (x y:Ex) (h1:op≠nNum) (h2:op≠nVar) (h3:op≠qdH) (h4:op≠qa8) (h5:op≠nNeg) (h6:op≠nNot):exW c (.mk op num name [x,y])=twoW c op (exW c x) (exW c y):=by
 rw[exW,qbP,qbP,qcb];unfold opW twoW binW;rw[if_neg h1,if_neg h2,if_neg h3,if_neg h4,if_neg h5,if_neg h6];simp only[List.headD_cons,List.drop_one,List.tail_cons,List.nil_append,zLz,zAs,List.cons_append,List.singleton_append]
attribute [local irreducible] LOps qae qag LCalls Go.GL.Pure qaA qaq qah LQ LAny qaF qap LS
section
variable {B0:Nat} {w0:World}
theorem qfW (hG:GW B0 w0) {k:TB} {own:Nm} {c:CC} (hk:TBok k c own) {env:CEnv} {m:Nat} (ih:qmd B0 w0 k own c env m) (op:Nm) (num:Nat) (name:Nm) (x y:Ex) (ws:List Wd) (n:Nat) (H:Heap) (hx:ndE x<=m) (hy:ndE y<=m) (nx:numE x) (ny:numE y) (ex:errE env x=0) (ey:errE env y=0) (h:TrH k own ws n H)
  (hr:ws.length+(twoW c op (exW c x) (exW c y)).length<=1000000000) :
  LCalls (KC B0 w0) 160 [ptr k.tb 0,encE (.mk op num name [x,y])] H (qg9 (TrH k own (ws++twoW c op (exW c x) (exW c y)) n)):=by
 rw[qbW];generalize hW:twoW c op (exW c x) (exW c y)=W at hr ⊢;unfold twoW at hW;refine cI Tryz.func160 rfl (n:=64) rfl rfl rfl ?_;refine gag ?_;refine oS (sB rfl fun b2=>?_) rfl;refine oS (sB rfl fun b3=>?_) rfl;refine LOps.weak (H':=(b2,.cells 54 [ptr k.tb 0])::exB b3 op num name [x,y]::H) ⟨[],by rw[zLz];exact List.Perm.swap _ _ _⟩ ?_;refine gab ?_;have hBT:=fun (A B:List Wd) {a b:LV} (ha:GL.elems a=some (A.map str)) (hb:GL.elems b=some (B.map str)) hr=>qkY (B0:=B0) (w0:=w0) ih b2 b3 op num name x y ws n H hx hy nx ny ex ey h A B ha hb hr
 by_cases h1:op=[33,61]
 ·rw[if_pos h1] at hW;refine oC rfl (fun _=>?_) (fun hc=>absurd h1 (zf hc));refine gaf ?_;refine zQ33 ?_;refine oS (S.callTV (f:=198) (F:=[]) [_,_] rfl rfl ql4 (hBT [[48]] [] rfl rfl (by rw[<-hW] at hr;simp only[zLa] at hr ⊢;omega)) ?_) rfl;rintro H1 ⟨H2,rfl,h2⟩;refine gaa ?_;refine zQ22 ?_;refine oS (zsT (H1:=H2) (F:=[_,_]) [_,_] rfl qeg (qak h2 [[94],[60]] rfl (by rw[<-hW] at hr;simp only[zLa] at hr ⊢;omega)) fun H3 h3=>?_) rfl;refine gae ?_;exact rR rfl rN qht ⟨rfl,by rw[<-hW];simp only[zAs] at h3 ⊢;exact h3⟩
 rw[if_neg h1] at hW;refine oC rfl (fun hc=>absurd (zt hc) h1) (fun _=>?_);refine gaj ?_
 by_cases h2:op=[38,38]
 ·rw[if_pos h2] at hW;refine oC rfl (fun _=>?_) (fun hc=>absurd h2 (zf hc));refine gaf ?_;refine zQ33 ?_;refine zQ22 ?_;refine oS (S.callTV (f:=198) (F:=[]) [_,_] rfl rfl ql4 (hBT [[48]] [[60],[48]] rfl rfl (by rw[<-hW] at hr;simp only[zLa] at hr ⊢;omega)) ?_) rfl;rintro H1 ⟨H2,rfl,h2⟩;refine gaa ?_;refine zQ22 ?_;refine oS (zsT (H1:=H2) (F:=[_,_]) [_,_] rfl qeg (qak h2 [[60],[42]] rfl (by rw[<-hW] at hr;simp only[zLa] at hr ⊢;omega)) fun H3 h3=>?_) rfl;refine gae ?_;exact rR rfl rN qht ⟨rfl,by rw[<-hW];simp only[zAs] at h3 ⊢;exact h3⟩
 rw[if_neg h2] at hW;refine oC rfl (fun hc=>absurd (zt hc) h2) (fun _=>?_);refine gaj ?_
 by_cases h3:op=[124,124]
 ·rw[if_pos h3] at hW;refine oC rfl (fun _=>?_) (fun hc=>absurd h3 (zf hc));refine gaf ?_;refine zQ22 ?_;refine zQ22 ?_;refine oS (S.callTV (f:=198) (F:=[]) [_,_] rfl rfl ql4 (hBT [[48],[48]] [[60],[48]] rfl rfl (by rw[<-hW] at hr;simp only[zLa] at hr ⊢;omega)) ?_) rfl;rintro H1 ⟨H2,rfl,h2⟩;refine gaa ?_;refine zQ99 ?_;refine oS (zsT (H1:=H2) (F:=[_,_]) [_,_] rfl qeg (qak h2 [[60],[43],[60]] rfl (by rw[<-hW] at hr;simp only[zLa] at hr ⊢;omega)) fun H3 h3=>?_) rfl;refine gae ?_;exact rR rfl rN qht ⟨rfl,by rw[<-hW];simp only[zAs] at h3 ⊢;exact h3⟩
 rw[if_neg h3] at hW;refine oC rfl (fun hc=>absurd (zt hc) h3) (fun _=>?_);refine gaa ?_;refine oS (S.callTV (f:=198) (F:=[]) [_,_] rfl rfl ql4 (hBT [] [] rfl rfl (by rw[<-hW] at hr;simp only[zLa] at hr ⊢;omega)) ?_) rfl;rintro H1 ⟨H2,rfl,h2⟩;generalize hX:ws++([]++exW c x++[]++exW c y)=wx at h2;have hW2:wx++binW c op=ws++W:=by rw[<-hW,<-hX];simp only[zAs]
 have hlw:=congrArg List.length hW2;rw[zLa,zLa] at hlw;unfold binW at hW2 hlw;refine gab ?_
 by_cases g1:op=[62]
 ·rw[if_pos g1] at hW2 hlw;refine oC rfl (fun _=>?_) (fun hc=>absurd g1 (zf hc));refine gaa ?_;refine oS (zsT (H1:=H2) (F:=[_,_]) [_] rfl qeg (qhw hG hk h2 zo) fun H3 h3=>?_) rfl;refine gad ?_;exact rO rfl rN qht ⟨rfl,by rw[<-hW2];exact h3⟩
 rw[if_neg g1] at hW2 hlw;refine oC rfl (fun hc=>absurd (zt hc) g1) (fun _=>?_);refine gaj ?_
 by_cases g2:op=[60,61]
 ·rw[if_pos g2] at hW2 hlw;rw[zLa] at hlw;refine oC rfl (fun _=>?_) (fun hc=>absurd g2 (zf hc));refine gaa ?_;refine oS (zsT (H1:=H2) (F:=[_,_]) [_] rfl qeg (qhw hG hk h2 zo) fun H3 h3=>?_) rfl;refine gaa ?_;refine zQ22 ?_;refine oS (zsT (H1:=H3) (F:=[_,_]) [_,_] rfl qeg (qak h3 [[49],[94]] rfl (by rw[zLa];omega)) fun H4 h4=>?_) rfl;refine gad ?_;exact rO rfl rN qht ⟨rfl,by rw[<-hW2,<-zAs];exact h4⟩
 rw[if_neg g2] at hW2 hlw;refine oC rfl (fun hc=>absurd (zt hc) g2) (fun _=>?_);refine gaj ?_
 by_cases g3:op=[62,61]
 ·rw[if_pos g3] at hW2 hlw;refine oC rfl (fun _=>?_) (fun hc=>absurd g3 (zf hc));refine gaa ?_;refine zQ99 ?_;refine oS (zsT (H1:=H2) (F:=[_,_]) [_,_] rfl qeg (qak h2 [[60],[49],[94]] rfl zo) fun H3 h3=>?_) rfl;refine gad ?_;exact rO rfl rN qht ⟨rfl,by rw[<-hW2];exact h3⟩
 rw[if_neg g3] at hW2 hlw;refine oC rfl (fun hc=>absurd (zt hc) g3) (fun _=>?_);refine gaj ?_
 by_cases g4:op=[61,61]
 ·rw[if_pos g4] at hW2 hlw;refine oC rfl (fun _=>?_) (fun hc=>absurd g4 (zf hc));refine gaa ?_;refine zQ99 ?_;refine oS (zsT (H1:=H2) (F:=[_,_]) [_,_] rfl qeg (qak h2 [[94],[49],[60]] rfl zo) fun H3 h3=>?_) rfl;refine gad ?_;exact rO rfl rN qht ⟨rfl,by rw[<-hW2];exact h3⟩
 rw[if_neg g4] at hW2 hlw;refine oC rfl (fun hc=>absurd (zt hc) g4) (fun _=>?_);refine gab ?_;refine zQ33 ?_;refine oS (zsT (H1:=H2) (F:=[_,_]) [_,_] rfl qeg (qak h2 [op] rfl zo) fun H3 h3=>?_) rfl;refine gad ?_;exact rO rfl rN qht ⟨rfl,by rw[<-hW2];exact h3⟩
theorem qcF (hG:GW B0 w0) {k:TB} {own:Nm} {c:CC} (hk:TBok k c own) {env:CEnv} (hE:EnvOk env):∀ m:Nat,m<=2000000->qmd B0 w0 k own c env m
 |0,_=>fun x ws n H h=>by have:=qgN x;omega
 |m+1,hm6=>by
  have ih:=qcF hG hk hE m zo;intro x ws n H hnd hnum herr h hr;obtain ⟨op,num,name,args⟩:=x;rw[ndE] at hnd;rw[numE] at hnum;obtain ⟨hnum,hna⟩:=hnum;have hal:=qbT args;have hall:(args.map encE).length=args.length:=zLm _;rw[errE] at herr
  by_cases hop:qba op = -1∨qba op=args.length
  rotate_left
  ·rw[if_neg hop] at herr;cases herr
  rw[if_pos hop] at herr;obtain ⟨he1,he2⟩:=qad.1 herr;have hW:exW c (Ex.mk op num name args)=opW c op num name (exWl c args):=by rw[exW]
  have hone:qba op=1->∃ x,args=[x]:=fun h1=>qmS (env:=env) (name:=name) hop h1;rw[qbW];refine cI Tryz.func117 rfl (n:=98) rfl rfl rfl ?_;refine gag ?_;refine oS (sB rfl fun b3=>?_) rfl;refine gaa ?_
  by_cases h1:op=[110,117,109]
  ·have hW1:exW c (Ex.mk op num name args)=[decDigits num]:=by rw[hW];subst h1;rfl
   rw[hW1] at hr ⊢;refine oC rfl (fun _=>?_) (fun hc=>absurd h1 (zf hc));refine gab ?_;refine oS (sF [_,_] (by show [int .u64 (IntKind.u64.wrap (num:Int)),_]=[int .u64 (num:Nat),int .i64 10];rw[qpE hnum];rfl) (qhq hG num (by have:num<4294967296:=hnum;omega)) ?_) rfl;refine zQ33 ?_;refine oS (zsT (H1:=H) (F:=[_]) [_,_] rfl qbe (qak h [decDigits num] rfl hr) fun H2 h2=>?_) rfl;refine gad ?_;exact rO rfl rN qct ⟨rfl,h2⟩
  refine oC rfl (fun hc=>absurd (zt hc) h1) (fun _=>?_);refine gaj ?_
  by_cases h2:op=[118,97,114]
  ·have hW1:exW c (Ex.mk op num name args)=[c.sc name,[64]]:=by rw[hW];subst h2;rfl
   have hsc:qbj env name=0:=by rw[<-he2];subst h2;rfl
   have hnl:=hE.sc name hsc;rw[hW1] at hr ⊢;refine oC rfl (fun _=>?_) (fun hc=>absurd h2 (zf hc));refine gaa ?_;refine oS (S.callS (H1:=H) (F:=[_]) [_,_] rfl qbe (qb7 hG hk h name zo) fun H2 h2=>?_) rfl;refine zQ22 ?_;refine oS (zsT (H1:=H2) (F:=[_]) [_,_] rfl qbe (qak h2 [c.sc name,[64]] rfl hr) fun H3 h3=>?_) rfl;refine gad ?_;exact rO rfl rN qct ⟨rfl,h3⟩
  refine oC rfl (fun hc=>absurd (zt hc) h2) (fun _=>?_);refine gaj ?_
  by_cases h3:op=[101,108,101,109]
  ·obtain ⟨x,rfl⟩:=hone (by subst h3;rfl);have hW1:exW c (Ex.mk op num name [x])=[c.ar name]++(exW c x++[[43],[64]]):=by rw[hW,qbP,qcb];subst h3;rfl
   rw[hW1] at hr ⊢;simp only[zLa,zLc,zLn] at hr;rw[qaZ] at he1;rw[qbd] at hna;rw[ndEs] at hnd;have hex:=(qad.1 he1).1;obtain ⟨a,ha1,ha2,ha3⟩:=hk.ar name;refine oC rfl (fun _=>?_) (fun hc=>absurd h3 (zf hc));refine ga1 ?_;have h0:=h;obtain ⟨v,Hv,hacc,rfl⟩:=h;refine cD (m:=11) rfl [exB b3 op num name [x]] ?_;refine zQ53 ?_;refine aL ?_ zhp;refine lO 4 (lH rfl rfl (pL (c:=.atom _) rfl zm1 rfl) ?_);refine lO 7 (lH rfl rfl (Pure.kvOr rfl rfl zm3 ha3) ?_);refine lO 8 (lS (H1:=[]) rfl (.inl rfl) rfl zpr zhp (sF [_] rfl (qdu hG a zo) ?_));rw[<-ha2];refine lO 9 (lS (H1:=[]) rfl (.inl rfl) rfl zpr zhp (sL [_] rfl (qaC [_]) rfl rfl rfl ?_));refine lO 10 (lS (F:=[exB b3 op num name [x]]) rfl (.inl rfl) rfl qbe zhr (qag.callT [_,_] rfl (qak h0 [c.ar name] rfl (by simp only[zLc,zLn];omega)) fun H2 h2=>?_));refine qhE ?_;refine cW qnE ?_;refine zQ44 ?_;refine oS (zsT (H1:=H2) (F:=[_]) [_,_] rfl qbe (ih x _ n H2 zo hna.1 hex h2 (by simp only[zLa,zLc,zLn];omega)) fun H3 h3=>?_) rfl;refine gan ?_;refine zQ22 ?_;refine oS (zsT (H1:=H3) (F:=[_]) [_,_] rfl qbe (qak h3 [[43],[64]] rfl (by simp only[zLa,zLc,zLn];omega)) fun H4 h4=>?_) rfl;refine gad ?_;exact rO rfl rN qct ⟨rfl,by rw[zAs,zAs] at h4;exact h4⟩
  refine oC rfl (fun hc=>absurd (zt hc) h3) (fun _=>?_);refine gaj ?_
  by_cases h4:op=[99,97,108,108]
  ·have hcl:callE env name args.length=0:=by rw[<-he2];subst h4;rfl
   have hnl:=hE.call hcl;have hW1:exW c (Ex.mk op num name args)=(exWl c args).flatten++(if name=[105,110] then [[44]] else if name=[111,117,116] then [[46],[48]] else [[38,102,95]++name,[58]]):=by rw[hW];subst h4;rfl
   rw[hW1] at hr ⊢;rw[zLa] at hr;refine oC rfl (fun _=>?_) (fun hc=>absurd h4 (zf hc));refine gaa ?_;refine oS (zsT (H1:=H) (F:=[_]) [_,_] rfl qbe (qj5 ih args ws n H zo zo hna he1 h zo) fun H2 h2=>?_) rfl;rw[<-zAs];generalize hX:ws++(exWl c args).flatten=wx at h2 ⊢;have hlx:=congrArg List.length hX;rw[zLa] at hlx;refine gaa ?_
   by_cases g1:name=[105,110]
   ·rw[if_pos g1] at hr ⊢;refine oC rfl (fun _=>?_) (fun hc=>absurd g1 (zf hc));refine gaf ?_;refine zQ33 ?_;refine oS (zsT (H1:=H2) (F:=[_]) [_,_] rfl qbe (qak h2 [[44]] rfl zo) fun H3 h3=>?_) rfl;refine gad ?_;exact rO rfl rN qct ⟨rfl,h3⟩
   rw[if_neg g1] at hr ⊢;refine oC rfl (fun hc=>absurd (zt hc) g1) (fun _=>?_);refine gaj ?_
   by_cases g2:name=[111,117,116]
   ·rw[if_pos g2] at hr ⊢;refine oC rfl (fun _=>?_) (fun hc=>absurd g2 (zf hc));refine gaf ?_;refine zQ22 ?_;refine oS (zsT (H1:=H2) (F:=[_]) [_,_] rfl qbe (qak h2 [[46],[48]] rfl zo) fun H3 h3=>?_) rfl;refine gad ?_;exact rO rfl rN qct ⟨rfl,h3⟩
   rw[if_neg g2] at hr ⊢;refine oC rfl (fun hc=>absurd (zt hc) g2) (fun _=>?_);refine gab ?_;refine zQ22 ?_;refine oS (zsT (H1:=H2) (F:=[_]) [_,_] rfl qbe (qak h2 [[38,102,95]++name,[58]] rfl zo) fun H3 h3=>?_) rfl;refine gad ?_;exact rO rfl rN qct ⟨rfl,h3⟩
  refine oC rfl (fun hc=>absurd (zt hc) h4) (fun _=>?_);refine gaj ?_
  by_cases h5:op=[110,101,103]
  ·obtain ⟨x,rfl⟩:=hone (by subst h5;rfl);have hW1:exW c (Ex.mk op num name [x])=[[48]]++(exW c x++[[45]]):=by rw[hW,qbP,qcb];subst h5;rfl
   rw[hW1] at hr ⊢;simp only[zLa,zLc,zLn] at hr;rw[qaZ] at he1;rw[qbd] at hna;rw[ndEs] at hnd;have hex:=(qad.1 he1).1;refine oC rfl (fun _=>?_) (fun hc=>absurd h5 (zf hc));refine gaf ?_;refine zQ33 ?_;refine oS (zsT (H1:=H) (F:=[_]) [_,_] rfl qbe (qak h [[48]] rfl (by simp only[zLc,zLn];omega)) fun H2 h2=>?_) rfl;refine zQ44 ?_;refine oS (zsT (H1:=H2) (F:=[_]) [_,_] rfl qbe (ih x _ n H2 zo hna.1 hex h2 (by simp only[zLa,zLc,zLn];omega)) fun H3 h3=>?_) rfl;refine gan ?_;refine zQ33 ?_;refine oS (zsT (H1:=H3) (F:=[_]) [_,_] rfl qbe (qak h3 [[45]] rfl (by simp only[zLa,zLc,zLn];omega)) fun H4 h4=>?_) rfl;refine gad ?_;exact rO rfl rN qct ⟨rfl,by rw[zAs,zAs] at h4;exact h4⟩
  refine oC rfl (fun hc=>absurd (zt hc) h5) (fun _=>?_);refine gaj ?_
  by_cases h6:op=[110,111,116]
  ·obtain ⟨x,rfl⟩:=hone (by subst h6;rfl);have hW1:exW c (Ex.mk op num name [x])=exW c x++[[49],[60]]:=by rw[hW,qbP,qcb];subst h6;rfl
   rw[hW1] at hr ⊢;simp only[zLa,zLc,zLn] at hr;rw[qaZ] at he1;rw[qbd] at hna;rw[ndEs] at hnd;have hex:=(qad.1 he1).1;refine oC rfl (fun _=>?_) (fun hc=>absurd h6 (zf hc));refine zQ44 ?_;refine oS (zsT (H1:=H) (F:=[_]) [_,_] rfl qbe (ih x _ n H zo hna.1 hex h zo) fun H3 h3=>?_) rfl;refine gan ?_;refine zQ22 ?_;refine oS (zsT (H1:=H3) (F:=[_]) [_,_] rfl qbe (qak h3 [[49],[60]] rfl (by simp only[zLa,zLc,zLn];omega)) fun H4 h4=>?_) rfl;refine gad ?_;exact rO rfl rN qct ⟨rfl,by rw[zAs] at h4;exact h4⟩
  refine oC rfl (fun hc=>absurd (zt hc) h6) (fun _=>?_)
  have htwo:qba op=2:=by
   unfold qba at hop ⊢;rw[if_neg (fun h=>h.elim h1 h2),if_neg (fun h=>h.elim h3 (fun h=>h.elim h5 h6)),if_neg (show ¬ op=qa8 from h4)] at hop ⊢;split
   ·rfl
   ·rename_i hb
    rw[if_neg hb] at hop;omega
  obtain ⟨x,y,rfl⟩:=qq3 hop htwo;have hW2:=qmv c num name x y h1 h2 h3 h4 h5 h6;rw[hW2] at hr ⊢;simp only[qaZ] at he1;simp only[qbd] at hna;simp only[ndEs] at hnd;have hex:=qad.1 he1;refine gab ?_;refine oS (zsT (H1:=H) (F:=[_]) [_,_] rfl qbe (qfW hG hk ih op num name x y ws n H zo zo hna.1 hna.2.1 hex.1 (qad.1 hex.2).1 h hr) fun H3 h3=>?_) rfl;refine gad ?_;exact rO rfl rN qct ⟨rfl,h3⟩
end
end Go.Proofs.YthmhncflhnbedaaGreatDoor.Cmp
