import Derived.Test.YtkihibnffkpnkaaGreatDoorBRowL33
set_option linter.unusedVariables false
set_option linter.unusedSimpArgs false
set_option maxRecDepth 100000
set_option maxHeartbeats 4000000
open List (take_succ_eq_append_getElem getElem_mem drop_length take_length drop_eq_getElem_cons foldl_cons mem_append_right map_map mem_map_of_mem length_drop length_take mem_append_left not_mem_nil nil_append cons_append sum_cons length_reverse)
open Nat (zero_le lt_succ_self)
open Option (getD_some none_or)
namespace Go.Proofs.YtkihibnffkpnkaaGreatDoor.Asm
open Go.GL Go.RowKit Go.Stele
abbrev txt(l:List (Wd×Nat)):List Wd:=l.map (·.1)
theorem qpX{l:List (Wd×Nat)}{i:Nat}(h:i<l.length):txt (l.take (i+1))=txt (l.take i)++[l[i].1]:=by
 unfold txt;rw[take_succ_eq_append_getElem h,zMa];rfl
theorem qkw{a:List Wd}{w d:Wd}(h:defW w=some d):defs (a++[w])=defs a++[d]:=by
 rw[qgc,qcT,h];rfl
theorem qkd{a:List Wd}{w:Wd}(h:defW w=none):defs (a++[w])=defs a:=by
 rw[qgc,qaC h];simp[defs]
theorem set_nil:SetMap #[] (λs=>decide (s∈([]:List Wd))):=⟨λe he=>by simp at he,λs h=>by simp at h⟩
theorem qpC{es:Array MapEntry}{ds:List Wd}{d:Wd}(h:SetMap es (λs=>decide (s∈ds) || decide (s=d))):SetMap es (λs=>decide (s∈ds++[d])):=
 cast (congrArg (SetMap es) (funext λs=>by simp)) h
attribute [local irreducible] LOps qag qae LCalls Go.GL.Pure qax qam qad LQ LAny qaJ qan
section
variable{B0:Nat}{w0:World}
theorem tokens_spec(hG:GW B0 w0)(hM:GM w0)(s:List UInt8)(hs:s.length<=400000000):LCalls (KC B0 w0) 86 [str s] [] (Ret (.list ((qgr s).map qcl))):=by
 have hP:qgr s=qkK 0 (qaT 10 s):=rfl;have hpl:=qid 10 s;have hpa:((qaT 10 s).map str).length=(qaT 10 s).length:=zLm _
 have htl:(qgr s).length<=s.length+1:=by
  have h1:=qin s;rw[<-qd0,zLm] at h1;exact h1
 have hsp:=qlg hG hM s 10 zo;refine zcI Tryz.func86 rfl (n:=41) rfl rfl rfl ?_;refine gap ?_;refine oS (sF [_,_] rfl hsp ?_) rfl;refine gaa ?_
 refine oL (λk ls H=>∃ (i:Nat) (out:List (Wd×Nat)) (v:LV),i<=(qaT 10 s).length/\k=(qaT 10 s).length-i/\ls=[(3,v),(9,.list ((qaT 10 s).map str)),(10,int .i64 (qaT 10 s).length),(11,int .i64 (i:Nat))]/\Acc 2 v (out.map qcl) H []/\out++qkK i ((qaT 10 s).drop i)=qgr s)
  ⟨_,_,_,⟨0,[],qab,zero_le _,rfl,rfl,Acc.nil,rfl⟩,⟨rfl,rfl,qao zo,rfl,trivial⟩,zhR _⟩ ?_
 rintro k ls H ⟨i,out,v,hi,rfl,rfl,hacc,hE⟩ j hj;refine gai ?_;refine oC rfl (λhc=>?_) (λhc=>?_)
 ·have hlt:i<(qaT 10 s).length:=by have:=zt hc;omega
  have hlo:out.length<=(qgr s).length:=by rw[<-hE,zLa];omega
  rw[qqv hlt] at hE;have hll:=qdg (getElem_mem hlt);have hc1:=qu5 hG hM (qaT 10 s)[i] 35 zo;have hW:qfH (qaT 10 s)[i]=full (qaT 32 ((qaT 10 s)[i].takeWhile λd=>decide (d≠35))):=rfl;have htw:((qaT 10 s)[i].takeWhile λd=>decide (d≠35)).length<=(qaT 10 s)[i].length:=(List.takeWhile_prefix _).length_le;have hs2:=qlg hG hM ((qaT 10 s)[i].takeWhile λd=>decide (d≠35)) 32 zo;have hql:=qid 32 ((qaT 10 s)[i].takeWhile λd=>decide (d≠35));generalize (qaT 10 s)[i].takeWhile (λd=>decide (d≠35))=line at hc1 hW htw hs2 hql;generalize hq:qaT 32 line=q at hW hs2 hql;have hqa:(q.map str).length=q.length:=zLm _
  repeat (first|refine LOps.nil ?_|refine qN ?_|refine qag.skip ?_)
  refine qag.seq ?_;refine cM (A:=List (Wd×Nat)×LV×Heap) (λa=>[(3,a.2.1),(9,.list ((qaT 10 s).map str)),(10,int .i64 (qaT 10 s).length),(11,int .i64 (i:Nat))]) (λa=>a.2.2) (λa=>a.1=out++(full q).map (λw=>(w,i+1))/\Acc 2 a.2.1 (a.1.map qcl) a.2.2 []) ?_ ?_;refine gac ?_;refine oP (xR (el':=str (qaT 10 s)[i]) (cs:=[str (qaT 10 s)[i]]) rfl rfl zo (qa5 _ _ _ hlt) rfl rfl) rfl ?_;refine gab ?_;refine oS (S.fnIf [_,_] rfl hc1 ?_) rfl;rintro lv ⟨a,b,rfl⟩;refine gac ?_;refine oS (sF [_,_] rfl hs2 ?_) rfl;refine gaa ?_
  refine oL (λk ls H=>∃ (x:Nat) (out2:List (Wd×Nat)) (v:LV),x<=q.length/\k=q.length-x/\ls=[(3,v),(4,int .i64 (i:Nat)),(9,.list ((qaT 10 s).map str)),(10,int .i64 (qaT 10 s).length),(11,int .i64 (i:Nat)),(23,.list (q.map str)),(24,int .i64 q.length),(25,int .i64 (x:Nat))]/\Acc 2 v (out2.map qcl) H []/\out2.length<=out.length+x/\out2++(full (q.drop x)).map (λw=>(w,i+1))=out++(full q).map (λw=>(w,i+1)))
   ⟨_,_,_,⟨0,out,v,zero_le _,rfl,rfl,hacc,by omega,rfl⟩,⟨rfl,rfl,rfl,rfl,rfl,rfl,qao zo,rfl,trivial⟩,zhR _⟩ ?_
  rintro k ls H ⟨x,out2,v2,hx,rfl,rfl,hacc2,hlen2,hE2⟩ j2 hj2;have hol2:(out2.map qcl).length=out2.length:=zLm _;refine gai ?_;refine oC rfl (λhc=>?_) (λhc=>?_);have hlt2:x<q.length:=by have:=zt hc;omega
  rw[qrQ hlt2] at hE2;refine gaj ?_;refine oP (xR (el':=str q[x]) (cs:=[str q[x]]) rfl rfl zo (qa5 _ _ _ hlt2) rfl rfl) rfl ?_;refine gab ?_;refine oC rfl (λhn=>?_) (λhn=>?_);have hne:¬ q[x]=[]:=by simpa using hn
  rw[if_neg hne] at hE2;refine gah ?_;refine oP (pM (lv:=v2) rfl) rfl ?_;refine gad ?_;refine zQ0 ?_;refine oS (S.acc rfl hacc2 rfl (by simp;rfl) rfl (by simp;omega) λv3 H3 hacc3=>?_) rfl;refine oP (pA (lv:=v3) rfl) rfl ?_;refine gar ?_;exact⟨_,_,_,by omega,⟨x+1,out2++[(q[x],i+1)],v3,by omega,rfl,rfl,by rw[zMa];exact hacc3,by simp;omega,by rw[zAs];exact hE2⟩,⟨rfl,rfl,rfl,rfl,rfl,rfl,rfl,qao zo,trivial⟩,zhR _,hj2⟩;have hne:q[x]=[]:=by simpa using hn
  rw[if_pos hne] at hE2;refine gac ?_;exact⟨_,_,_,by omega,⟨x+1,out2,v2,by omega,rfl,rfl,hacc2,by omega,hE2⟩,⟨rfl,rfl,rfl,rfl,rfl,rfl,rfl,qao zo,trivial⟩,zhR _,hj2⟩;have hx':x=q.length:=by have:=zf hc;omega
  subst hx';rw[drop_length] at hE2;refine gaa ?_;exact⟨(out2,v2,H),⟨by simpa [full] using hE2,hacc2⟩,⟨rfl,rfl,rfl,rfl,trivial⟩,zhR _,hj2⟩;rintro⟨out2,v2,H2⟩ ⟨ho,hacc2⟩ j3 hj3;simp only at ho hacc2;rw[hW,<-zAs,<-ho] at hE;refine gar ?_;exact⟨_,_,_,by omega,⟨i+1,out2,v2,by omega,rfl,rfl,hacc2,by rw[<-hE]⟩,⟨rfl,rfl,rfl,qao zo,trivial⟩,zhR _,hj3.trans hj⟩
 have hi':i=(qaT 10 s).length:=by have:=zf hc;omega
 subst hi';rw[drop_length,qkK,zLz] at hE;subst hE;refine qag.sub (d:=3) (v:=v) rfl hacc.sub ?_;refine cW zhn ?_;refine gab ?_;exact qac hj (rC (rT (v:=.list _) rfl zsr) rN) rfl
end
theorem qpk{all met:List Wd}{p:Wd×Nat}{x:Wd}{r:List (Wd×Nat)}(h:defW p.1=some x):errT all met (p::r)=if x∈met then (p.2,8) else errT all (met++[x]) r:=by
 obtain⟨w,ln⟩:=p;simp only at h;rw[errT,h]
theorem qqh{all met:List Wd}{p:Wd×Nat}{x:Wd}{r:List (Wd×Nat)}(h:defW p.1=none)(h2:refW p.1=some x):errT all met (p::r)=if x∈all then errT all met r else (p.2,7):=by
 obtain⟨w,ln⟩:=p;simp only at h h2;rw[errT,h,h2]
theorem qnF{all met:List Wd}{p:Wd×Nat}{r:List (Wd×Nat)}(h:defW p.1=none)(h2:refW p.1=none):errT all met (p::r)=if qka p.1=true then errT all met r else (p.2,3):=by
 obtain⟨w,ln⟩:=p;simp only at h h2;rw[errT,h,h2]
section
variable{B0:Nat}{w0:World}
theorem check_spec(l:List (Wd×Nat))(hl:l.length<=1000000000)(hs:∀ p∈l,p.1.length<=1000000000):LCalls (KC B0 w0) 87 [.list (l.map qcl)] [] (Ret (.tuple [int .i64 ((errT (defs (txt l)) [] l).1:Nat),int .i64 ((errT (defs (txt l)) [] l).2:Nat)])):=by
 have hla:(l.map qcl).length=l.length:=zLm _;have zb:∀ w,(zeroValue 4).run (KC B0 w0).P w=.ok (.bool false) w:=λw=>(Go.zero_of_info (P:=Tryz.prog) (n:=1) zk).1 w;generalize hR:errT (defs (txt l)) [] l=R;refine zcI Tryz.func87 rfl (n:=70) rfl rfl rfl ?_;refine gaq ?_;refine oS (S.makeMap λm=>?_) rfl;refine gac ?_
 refine oL (λk ls H=>∃ (i:Nat) (es:Array MapEntry) (clock:Nat),i<=l.length/\k=l.length-i/\ls=[(0,.list (l.map qcl)),(4,.atom (.map (some m))),(17,.list (l.map qcl)),(18,int .i64 l.length),(19,int .i64 (i:Nat))]/\H=[(m,.obj (.map es clock))]/\SetMap es (λs=>decide (s∈defs (txt (l.take i)))))
  ⟨_,_,_,⟨0,#[],0,zero_le _,rfl,rfl,rfl,set_nil⟩,⟨rfl,rfl,rfl,qao zo,rfl,trivial⟩,zhR _⟩ ?_
 rintro k ls H ⟨i,es,clock,hi,rfl,rfl,rfl,hM⟩ j1 hj1;refine gai ?_;refine oC rfl (λhc=>?_) (λhc=>?_);have hlt:i<l.length:=by have:=zt hc;omega
 have kd:=qgP (B0:=B0) (w0:=w0) l[i] (by have:=hs _ (getElem_mem hlt);omega);have htt:=qpX hlt;refine zQ18 ?_;refine oS (sA λb6=>?_) rfl;refine gab ?_;refine oS (S.fnIf [_] rfl kd ?_) rfl;rintro lv ⟨s,rfl,hs2⟩;refine gac ?_;refine oC rfl (λh=>?_) (λh=>?_);obtain⟨d,hd⟩:=Option.isSome_iff_exists.1 h;obtain rfl:=hs2 d hd;refine gag ?_;refine oS (S.setPut (t:=123) (kt:=9) (el:=4) zk zk rfl rfl rfl zp1 hM λes' clock' hM'=>?_) rfl;refine gar ?_;exact⟨_,_,_,by omega,⟨i+1,es',clock',by omega,rfl,rfl,rfl,by rw[htt,qkw hd];exact qpC hM'⟩,⟨rfl,rfl,rfl,rfl,qao zo,trivial⟩,⟨[_],List.Perm.refl _⟩,hj1⟩
 have hn:defW l[i].1=none:=by
  cases ho:defW l[i].1 with
  |none=>rfl
  |some d=>rw[ho] at h;cases h
 refine gac ?_;exact⟨_,_,_,by omega,⟨i+1,es,clock,by omega,rfl,rfl,rfl,by rw[htt,qkd hn];exact hM⟩,⟨rfl,rfl,rfl,rfl,qao zo,trivial⟩,zhD zhr,hj1⟩;have hi':i=l.length:=by have:=zf hc;omega
 subst hi';rw[take_length] at hM;refine gac ?_;refine oS (S.makeMap λm2=>?_) rfl;refine gac ?_
 refine oL (λk ls H=>∃ (i:Nat) (es2:Array MapEntry) (clock2:Nat),i<=l.length/\k=l.length-i/\ls=[(4,.atom (.map (some m))),(9,.atom (.map (some m2))),(33,.list (l.map qcl)),(34,int .i64 l.length),(35,int .i64 (i:Nat))]/\H=[(m2,.obj (.map es2 clock2)),(m,.obj (.map es clock))]/\SetMap es2 (λs=>decide (s∈defs (txt (l.take i))))/\errT (defs (txt l)) (defs (txt (l.take i))) (l.drop i)=R)
  ⟨_,_,_,⟨0,#[],0,zero_le _,rfl,rfl,rfl,set_nil,hR⟩,⟨rfl,rfl,rfl,qao zo,rfl,trivial⟩,zhR _⟩ ?_
 rintro k ls H ⟨i,es2,clock2,hi,rfl,rfl,rfl,hM2,hE⟩ j2 hj2;refine gai ?_;refine oC rfl (λhc=>?_) (λhc=>?_)
 ·have hlt:i<l.length:=by have:=zt hc;omega
  have hsl:=hs _ (getElem_mem hlt);have kd:=qgP (B0:=B0) (w0:=w0) l[i] zo;have kr:=qj7 (B0:=B0) (w0:=w0) l[i] zo;have kc:=qnv (B0:=B0) (w0:=w0) l[i] zo;have htt:=qpX hlt;rw[drop_eq_getElem_cons hlt] at hE;refine zQ18 ?_;refine oS (sA λb11=>?_) rfl;refine gab ?_;refine oS (S.fnIf [_] rfl kd ?_) rfl;rintro lv ⟨s,rfl,hs2⟩;refine gac ?_;refine oC rfl (λh=>?_) (λh=>?_)
  ·obtain⟨d,hd⟩:=Option.isSome_iff_exists.1 h;obtain rfl:=hs2 d hd;refine gag ?_;refine oP (Pure.setGet (t:=123) (kt:=9) (el:=4) zk zk zb rfl rfl zm1 hM2) rfl ?_;refine gaf ?_;refine oC rfl (λh3=>?_) (λh3=>?_);have hin:=zt h3;refine gac ?_;rw[qpk hd,if_pos hin] at hE;exact qac (hj2.trans hj1) (rC (zrt rfl) (zra rfl)) (by rw[<-hE];rfl);have hin:=zf h3;refine gac ?_;refine oS (S.setPut (t:=123) (kt:=9) (el:=4) zk zk rfl rfl rfl zp1 hM2 λes' clock' hM'=>?_) rfl;refine gar ?_;exact⟨_,_,_,by omega,⟨i+1,es',clock',by omega,rfl,rfl,rfl,by rw[htt,qkw hd];exact qpC hM',by rw[htt,qkw hd,<-hE,qpk hd,if_neg hin]⟩,⟨rfl,rfl,rfl,rfl,qao zo,trivial⟩,⟨[_],List.Perm.cons _ (List.Perm.swap ..)⟩,hj2⟩
  have hn:defW l[i].1=none:=by
   cases ho:defW l[i].1 with
   |none=>rfl
   |some d=>rw[ho] at h;cases h
  refine gab ?_;refine oS (S.fnIf [_] rfl kr ?_) rfl;rintro lv ⟨s,rfl,hs3⟩;refine gac ?_;refine oC rfl (λh3=>?_) (λh3=>?_);obtain⟨d,hd⟩:=Option.isSome_iff_exists.1 h3;obtain rfl:=hs3 d hd;refine gag ?_;refine oP (Pure.setGet (t:=123) (kt:=9) (el:=4) zk zk zb rfl rfl zm2 hM) rfl ?_;refine gad ?_;refine oC rfl (λh4=>?_) (λh4=>?_);have hin:¬ s∈defs (txt l):=by simpa using h4
  refine gac ?_;rw[qqh hn hd,if_neg hin] at hE;exact qac (hj2.trans hj1) (rC (zrt rfl) (zra rfl)) (by rw[<-hE];rfl);have hin:s∈defs (txt l):=by simpa using h4
  refine gac ?_;exact⟨_,_,_,by omega,⟨i+1,es2,clock2,by omega,rfl,rfl,rfl,by rw[htt,qkd hn];exact hM2,by rw[htt,qkd hn,<-hE,qqh hn hd,if_pos hin]⟩,⟨rfl,rfl,rfl,rfl,qao zo,trivial⟩,zhD zhr,hj2⟩
  have hrn:refW l[i].1=none:=by
   cases ho:refW l[i].1 with
   |none=>rfl
   |some d=>rw[ho] at h3;cases h3
  refine gab ?_;refine oS (sF [_] rfl kc ?_) rfl;refine gad ?_;refine oC rfl (λh4=>?_) (λh4=>?_);have hin:¬ qka l[i].1=true:=by simpa using h4
  refine gac ?_;rw[qnF hn hrn,if_neg hin] at hE;exact qac (hj2.trans hj1) (rC (zrt rfl) (zra rfl)) (by rw[<-hE];rfl);have hin:qka l[i].1=true:=by simpa using h4
  refine gac ?_;exact⟨_,_,_,by omega,⟨i+1,es2,clock2,by omega,rfl,rfl,rfl,by rw[htt,qkd hn];exact hM2,by rw[htt,qkd hn,<-hE,qnF hn hrn,if_pos hin]⟩,⟨rfl,rfl,rfl,rfl,qao zo,trivial⟩,zhD zhr,hj2⟩
 have hi':i=l.length:=by have:=zf hc;omega
 subst hi';rw[drop_length,errT] at hE;refine gac ?_;exact qac (hj2.trans hj1) (rC (zrt rfl) (zra rfl)) (by rw[<-hE];rfl)
end
def qoC(km:Option Nat)(Hk:Heap)(kn:Wd->Nat):Prop:=(km=none/\Hk=[]/\∀ x,kn x=0)∨∃ b m clock,km=some b/\Hk=[(b,.map (kvs m) clock)]/\∀ x,(GL.kvGet m x).getD (int .i64 0)=int .i64 (kn x:Nat)
section
variable{C:Ctx}{e:Env}{H:Heap}{dst:Option Nat}{ty:TypeId}{pos:String}{aft:Array Edge}{g:Option (Nat×Bool)}{K:LV->Heap->Prop}{X:List PanicEntry->Heap->Prop}{x y:Operand}
theorem S.known{t kt el:TypeId}(ht:C.P.underlying t=some (.map kt el))(hkt:C.P.underlying kt=some .string)(hz:∀ w,(zeroValue el).run C.P w=.ok (.int .i64 0) w){km:Option Nat}{Hk:Heap}{kn:Wd->Nat}{k:List UInt8}(hK:qoC km Hk kn)(hm:e.ev x=.atom (.map km))(hx:e.ev y=str k)
  (hb:∀ q∈Hk,q∈H) (hk:K (int .i64 (kn k:Nat)) H):qae C ⟨dst,.lookup t x y false,ty,pos,aft,g⟩ e H K X:=by
 rcases hK with⟨rfl,rfl,h0⟩|⟨b,m,clock,rfl,rfl,hI⟩;refine Pure.step (Pure.nilGet ht hkt hz hm hx) ?_;rw[h0 k] at hk;exact hk;refine Pure.step (Pure.kvGet ht hkt hz (zl:=int .i64 0) (λ_ _=>qai) hm hx (hb _ (List.mem_singleton.2 rfl))) ?_;rw[hI k];exact hk
end
theorem qoc{a b:Heap}{q:Nat×LObj}:HSub (a++b) (a++q::b):=⟨[q],List.perm_middle.trans (List.perm_append_singleton _ _).symm⟩
theorem quO{a b:Heap}{q:Nat×LObj}:HSub (a++b) ((a++[q])++b):=by
 rw[zAs];exact qoc
theorem qxb(a b:Nat):int .i64 ((a+b:Nat):Int)=int .i64 ((a:Int)+(b:Nat)):=qao zo
theorem qvy{a b:Heap}{q:Nat×LObj}:(a++q::b).Perm (b++(a++[q])):=by
 have h:=zPc (l₁:=a++[q]) (l₂:=b);rw[zAs] at h;exact h
theorem qxn{s:Nat}{v:LV}{es:List LV}{a H F:Heap}(h:Acc s v es H F):HSub (a++F) (a++H):=by
 cases h with
 |nil=>exact zhR _
 |row=>exact qoc
theorem qoy(kn:Wd->Nat)(og:Nat)(l:List Wd)(t:Wd)(labs:List (Wd×Nat))(h:∀ w∈l,w≠[]):t.length<=(l.foldl (qbu kn og) (t,labs)).1.length:=by
 rw[qhv,qj9 kn l t h];omega
theorem qmZ(kn:Wd->Nat)(og:Nat):∀ (l:List Wd) (s:Wd×List (Wd×Nat)),s.2.length<=((l.foldl (qbu kn og) s).2).length/\((l.foldl (qbu kn og) s).2).length<=s.2.length+l.length
 |[],s=>by simp
 |w::r,s=>by
  rw[foldl_cons];have:=qmZ kn og r (qbu kn og s w)
  have h2:s.2.length<=(qbu kn og s w).2.length/\(qbu kn og s w).2.length<=s.2.length+1:=by
   unfold qbu
   cases defW w with
   |some x=>simp
   |none=>simp
  simp only[zLc];omega
theorem quC:qbc []=qap 32:=by decide
section
variable{B0:Nat}{w0:World}
theorem qsv(hG:GW B0 w0)(l:List (Wd×Nat))(og:Nat)(hog:og<=1000000)(hl:l.length<=1000000000)(hs:∀ p∈l,p.1≠[]/\p.1.length<=1000000000)(kn:Wd->Nat)(hkn:∀ x,kn x<=1000000000000)(hL:((txt l).foldl (qbu kn og) ([],[])).1.length<=2000000000)(km:Option Nat)(Hk:Heap)(hK:qoC km Hk kn) :
  LCalls (KC B0 w0) 88 [.list (l.map qcl),int .i64 (og:Nat),.atom (.map km)] Hk (λr H'=>r=.ret (.tuple [str ((txt l).foldl (qbu kn og) ([],[])).1,.list (((txt l).foldl (qbu kn og) ([],[])).2.map qcl)])/\H'=Hk):=by
 have hla:(l.map qcl).length=l.length:=zLm _;have zi:∀ w,(zeroValue 3).run (KC B0 w0).P w=.ok (.int .i64 0) w:=λw=>(Go.zero_of_info (P:=Tryz.prog) (n:=1) zk).1 w
 have hne0:∀ i,∀ w∈txt (l.drop i),w≠[]:=λi w hw=>by
  obtain⟨p,hp,rfl⟩:=List.mem_map.1 hw;exact(hs p (List.mem_of_mem_drop hp)).1
 generalize hR:(txt l).foldl (qbu kn og) ([],[])=R at hL ⊢;refine zcI Tryz.func88 rfl (n:=68) rfl rfl rfl ?_;refine gaq ?_;refine oS (sA λbb=>?_) rfl;refine gac ?_
 refine oL (λk ls H=>∃ (i:Nat) (t:List UInt8) (labs:List (Wd×Nat)) (v:LV) (last:UInt8) (HB HL:Heap),i<=l.length/\k=l.length-i/\ls=[(1,int .i64 (og:Nat)),(2,.atom (.map km)),(8,ptr bb 0),(9,v),(10,int .u8 last.toNat),(18,.list (l.map qcl)),(19,int .i64 l.length),(20,int .i64 (i:Nat))]/\H=HB++HL/\BH bb t HB/\Acc 2 v (labs.map qcl) HL Hk/\qbc t=qap last/\labs.length<=i/\(txt (l.drop i)).foldl (qbu kn og) (t,labs)=R)
  ⟨_,_,_,⟨0,[],[],qab,32,[(bb,.cells 69 [.atom (.pointer none),.atom (.slice none 0 0)])],Hk,zero_le _,rfl,rfl,rfl,⟨_,_,[],.inl rfl,BRow.nil,rfl⟩,Acc.nil,quC,zero_le _,hR⟩,⟨rfl,rfl,rfl,rfl,rfl,rfl,qao zo,rfl,trivial⟩,zhR _⟩ ?_
 rintro k ls H ⟨i,t,labs,v,last,HB,HL,hi,rfl,rfl,rfl,hB,hacc,hla2,hll,hE⟩ j hj;have hol:(labs.map qcl).length=labs.length:=zLm _;have htR:=qoy kn og (txt (l.drop i)) t labs (hne0 i);rw[hE] at htR;refine gai ?_;refine oC rfl (λhc=>?_) (λhc=>?_);have hlt:i<l.length:=by have:=zt hc;omega
 obtain⟨hne,hsl⟩:=hs _ (getElem_mem hlt);have kd:=qgP (B0:=B0) (w0:=w0) l[i] zo;have kr:=qj7 (B0:=B0) (w0:=w0) l[i] zo
 have hdr:txt (l.drop i)=l[i].1::txt (l.drop (i+1)):=by
  unfold txt;rw[drop_eq_getElem_cons hlt,zMc]
 rw[hdr,foldl_cons] at hE;refine zQ18 ?_;refine oS (sA λb12=>?_) rfl;refine gab ?_;refine oS (S.fnIf [_] rfl kd ?_) rfl;rintro lv ⟨s,rfl,hs2⟩;refine gac ?_;refine oC rfl (λh=>?_) (λh=>?_);obtain⟨d,hd⟩:=Option.isSome_iff_exists.1 h;obtain rfl:=hs2 d hd;have hst:qbu kn og (t,labs) l[i].1=(t,labs++[(s,og+t.length)]):=by unfold qbu;rw[hd]
 rw[hst] at hE;refine gah ?_;refine zQ46 ?_;refine oS (S.callH (H1:=HB) (F:=(b12,.cells 171 [str l[i].1,int .i64 l[i].2])::HL) [_] rfl List.perm_middle.symm (qkj bb t HB hB) (λv' H' h=>?_) (λch H' h=>by obtain⟨h,_⟩:=h;cases h)) rfl;obtain⟨hv,rfl⟩:=h;cases hv;refine gad ?_;refine zQ0 ?_;refine oS (sG (H1:=HL) (A:=H'++[(b12,.cells 171 [str l[i].1,int .i64 l[i].2])]) qvy rfl hacc rfl (by simp;rfl) rfl (by simp;omega) λv' H2 hacc'=>?_) rfl;refine zQ19 ?_;refine gac ?_
 exact⟨_,_,_,by omega,⟨i+1,t,labs++[(s,og+t.length)],v',last,H',H2,by omega,rfl,rfl,rfl,hB,by
  rw[zMa]
  have e1:[qcl (s,og+t.length)]=[LV.agg [str s,int .i64 ((og:Int)+(t.length:Nat))]]:=by
   unfold qcl;rw[qxb]
  rw[List.map_singleton,e1]
  exact hacc',hla2,by simp;omega,hE⟩,⟨rfl,rfl,rfl,rfl,rfl,rfl,rfl,qao zo,trivial⟩,quO,hj⟩
 have hn:defW l[i].1=none:=by
  cases ho:defW l[i].1 with
  |none=>rfl
  |some d=>rw[ho] at h;cases h
 have hst:qbu kn og (t,labs) l[i].1=(addT kn t l[i].1,labs):=by unfold qbu;rw[hn]
 obtain⟨hp0,hp1,hp2⟩:=qhF kn t l[i].1 hn hne;have hadd:addT kn t l[i].1=t++(if qbc t && qbP (qaI kn l[i].1) then [32] else [])++qaI kn l[i].1:=by unfold addT;rw[hn]
 have htR2:=qoy kn og (txt (l.drop (i+1))) (addT kn t l[i].1) labs (hne0 (i+1));rw[hst] at hE;rw[hE] at htR2;refine cM (A:=Wd) (λs=>[(1,int .i64 (og:Nat)),(2,.atom (.map km)),(8,ptr bb 0),(9,v),(10,int .u8 last.toNat),(13,str s),(18,.list (l.map qcl)),(19,int .i64 l.length),(20,int .i64 (i:Nat))]) (λ_=>(b12,.cells 171 [str l[i].1,int .i64 l[i].2])::(HB++HL)) (λs=>s=qaI kn l[i].1) ?_ ?_;refine gab ?_;refine oS (S.fnIf [_] rfl kr ?_) rfl;rintro lv ⟨s,rfl,hs3⟩;refine gac ?_;refine oC rfl (λh3=>?_) (λh3=>?_);obtain⟨d,hd⟩:=Option.isSome_iff_exists.1 h3;obtain rfl:=hs3 d hd;refine gag ?_;refine oS (S.known (t:=130) (kt:=9) (el:=3) zk zk zi hK rfl rfl (λq hq=>zMo _ (mem_append_right _ (hacc.hsub.mem q hq))) ?_) rfl;refine oS (sF [_] rfl (qfG hG (kn s) (hkn s)) ?_) rfl;refine gaf ?_;exact⟨qeb (kn s),(by unfold qaI;rw[hd]),⟨rfl,rfl,rfl,rfl,rfl,rfl,rfl,rfl,rfl,trivial⟩,zhR _,rfl⟩
 have hrn:refW l[i].1=none:=by
  cases ho:refW l[i].1 with
  |none=>rfl
  |some d=>rw[ho] at h3;cases h3
 refine gaa ?_;exact⟨l[i].1,(by unfold qaI;rw[hrn]),⟨rfl,rfl,rfl,rfl,rfl,rfl,rfl,rfl,rfl,trivial⟩,zhR _,rfl⟩;rintro s hpc j2 hj2;rw[<-hpc] at hp0 hp1 hp2 hadd;have hs0:=hp0;have hone:=one_le (qap last && qbP s);obtain⟨c,r,hcr⟩:=List.exists_cons_of_ne_nil hs0;have hfc:qbP s=qap c:=by rw[hcr];rfl
 rw[hla2] at hadd hp2;refine qag.seq ?_;refine cM (A:=Heap) (λ_=>[(1,int .i64 (og:Nat)),(2,.atom (.map km)),(8,ptr bb 0),(9,v),(10,int .u8 last.toNat),(13,str s),(18,.list (l.map qcl)),(19,int .i64 l.length),(20,int .i64 (i:Nat))]) (λHB'=>HB'++(b12,.cells 171 [str l[i].1,int .i64 l[i].2])::HL) (λHB'=>BH bb (t++if (qap last && qbP s)=true then [32] else []) HB') ?_ ?_;refine gag ?_;refine oS (sF [_] rfl (qg8 last) ?_) rfl;refine gaa ?_;refine oB 52 rfl (λh4=>?_) (λh4=>?_);have h4':qap last=true:=h4;rw[h4',Bool.true_and,hfc];refine gaa ?_;refine oP (pI (c:=c) rfl rfl zo (by rw[hcr];rfl)) rfl ?_;refine gaa ?_;refine oS (sF [_] rfl (qg8 c) ?_) rfl;refine gaa ?_;refine oC rfl (λh5=>?_) (λh5=>?_);refine gah ?_;refine oS (S.callH (H1:=HB) (F:=(b12,.cells 171 [str l[i].1,int .i64 l[i].2])::HL) [_,_] rfl List.perm_middle.symm (qkB bb t 32 HB hB zo) (λv' H' h=>?_) (λch H' h=>by obtain⟨⟨x,h⟩,_⟩:=h;cases h)) rfl;refine gaf ?_;exact⟨H',by rw[if_pos h5];exact h.2,⟨rfl,rfl,rfl,rfl,rfl,rfl,rfl,rfl,rfl,trivial⟩,zhR _,rfl⟩;refine gaa ?_;exact⟨HB,by rw[if_neg (by rw[h5];decide),zLz];exact hB,⟨rfl,rfl,rfl,rfl,rfl,rfl,rfl,rfl,rfl,trivial⟩,⟨[],by simpa using List.perm_middle.symm⟩,rfl⟩;have h4':qap last=false:=h4;rw[h4',Bool.false_and];refine gaa ?_;refine oC rfl (λh5=>by cases h5) (λh5=>?_);refine gaa ?_;exact⟨HB,by rw[if_neg zDd,zLz];exact hB,⟨rfl,rfl,rfl,rfl,rfl,rfl,rfl,rfl,rfl,trivial⟩,⟨[],by simpa using List.perm_middle.symm⟩,rfl⟩;rintro HB' hB' j3 hj3;have hsl3:=List.length_pos_iff.2 hs0
 have hget:s[((s.length:Int)-1).toNat]? = some (s.getLast hs0):=by
  rw[show((s.length:Int)-1).toNat=s.length-1 by omega,List.getLast_eq_getElem,List.getElem?_eq_getElem zo]
 have hlast:qbc s=qap (s.getLast hs0):=by
  unfold qbc;rw[List.getLast?_eq_some_getLast hs0]
 have htl:(t++if (qap last && qbP s)=true then [32] else []).length+s.length<=2000000000:=by
  have:(t++if (qap last && qbP s)=true then [32] else []).length=t.length+one (qap last && qbP s):=by
   rw[zLa];unfold one;split <;> rfl
  omega
 rw[hadd] at hE hp1;generalize (t++if (qap last && qbP s)=true then [32] else [])=t2 at hB' htl hE hp1;refine gag ?_;refine oS (S.callH (H1:=HB') (F:=(b12,.cells 171 [str l[i].1,int .i64 l[i].2])::HL) [_,_] rfl zpr (qfo bb t2 s HB' hB' zo) (λv' H' h=>?_) (λch H' h=>by obtain⟨⟨x,h⟩,_⟩:=h;cases h)) rfl;obtain⟨⟨x,hx⟩,hB2⟩:=h;refine gab ?_;refine oP (pI (c:=s.getLast hs0) rfl rfl zo hget) rfl ?_;refine gac ?_;exact⟨_,_,_,by omega,⟨i+1,t2++s,labs,v,s.getLast hs0,H',HL,by omega,rfl,rfl,rfl,hB2,hacc,by rw[hp1,hlast],by omega,hE⟩,⟨rfl,rfl,rfl,rfl,rfl,rfl,rfl,qao zo,trivial⟩,qoc,hj3.trans (hj2.trans hj)⟩;have hi':i=l.length:=by have:=zf hc;omega
 subst hi';rw[drop_length] at hE;have hE':(t,labs)=R:=hE;subst hE';refine qag.sub (d:=9) (v:=v) rfl hacc.sub ?_;refine cW (qxn hacc) ?_;refine gac ?_;refine oS (S.callH (H1:=HB) (F:=Hk) [_] rfl zpr (qgL bb t HB hB zo) (λv' H' h=>?_) (λch H' h=>by obtain⟨h,_⟩:=h;cases h)) rfl;obtain⟨hv,rfl⟩:=h;cases hv;refine gad ?_;exact rR hj (rC (zrt rfl) (rC (rT (v:=.list _) rfl zsr) rN)) zhr ⟨rfl,by simp⟩
end
theorem qlL:∀ (l:List Wd) (d:Bool),lenW d l<=3 * tot l
 |[],d=>zero_le _
 |w::r,d=>by
  have h1:=one_le d;have h2:=one_le (d && qbP w);rw[lenW,qaN]
  cases defW w with
  |some l=>have:=qlL r d;simp only;omega
  |none=>
   cases hr:refW w with
   |some l=>
    have:=qlL r true
    have hlen:2<=w.length:=by
     unfold refW at hr;split at hr;cases hr
     rename_i c q
     split at hr
     rename_i hc
     have:=List.length_pos_iff.2 (qvv hc.2);simp only[zLc];omega;cases hr
    simp only
    omega
   |none=>have:=qlL r (qbc w);simp only;omega
theorem qtl(kn:Wd->Nat)(og M:Nat):∀ (l:List Wd) (s:Wd×List (Wd×Nat)),(∀ w∈l,w≠[])->((l.foldl (qbu kn og) s).1).length<=M->(∀ p∈s.2,p.2<=og+M)->∀ p∈(l.foldl (qbu kn og) s).2,p.2<=og+M
 |[],s,_,_,h=>h
 |w::r,s,hw,hM,h=>by
  rw[foldl_cons] at hM ⊢;refine qtl kn og M r _ (λx hx=>hw x (zMo w hx)) hM ?_;have h1:=qoy kn og r (qbu kn og s w).1 (qbu kn og s w).2 (λx hx=>hw x (zMo w hx));intro p hp;unfold qbu at hp h1 hM
  cases hd:defW w with
  |none=>
   rw[hd] at hp
   exact h p hp
  |some x=>
   rw[hd] at hp h1 hM;simp only at hp h1 hM;rcases List.mem_append.1 hp with hp|hp;exact h p hp;rw[List.mem_singleton.1 hp];simp only;omega
def qmg(labs:List (Wd×Nat)):KV:=labs.map λp=>(p.1,int .i64 (p.2:Nat))
theorem qmJ:∀ (labs:List (Wd×Nat)) (x:Wd),(GL.kvGet (qmg labs) x).getD (int .i64 0)=int .i64 (qdJ labs x:Nat)
 |[],x=>rfl
 |p::r,x=>by
  unfold qmg qdJ;rw[zMc,GL.kvGet,List.find?_cons]
  by_cases h:p.1=x
  rw[if_pos h,decide_eq_true h];rfl;rw[if_neg h,decide_eq_false h];exact qmJ r x
theorem qqH{labs:List (Wd×Nat)}{i:Nat}(h:i<labs.length)(hn:(labs.map (·.1)).Nodup):GL.kvPut (qmg (labs.take i)) labs[i].1 (int .i64 (labs[i].2:Nat))=qmg (labs.take (i+1)):=by
 unfold qmg;rw[take_succ_eq_append_getElem h,zMa];refine qpU ?_;rw[map_map];intro hm
 have e1:labs.map (·.1)=(labs.take i).map (·.1)++labs[i].1::(labs.drop (i+1)).map (·.1):=by
  conv=>lhs;rw[<-List.take_append_drop i labs,drop_eq_getElem_cons h]
  rw[zMa,zMc]
 rw[e1,List.nodup_append] at hn;exact hn.2.2 _ hm _ zMs rfl
theorem qvr{labs:List (Wd×Nat)}{M:Nat}(h:∀ p∈labs,p.2<=M)(x:Wd):qdJ labs x<=M:=by
 unfold qdJ
 cases hf:labs.find? λp=>decide (p.1=x) with
 |none=>exact zero_le _
 |some p=>exact h p (List.mem_of_find?_eq_some hf)
def asmLV:Except (Nat×Nat) (Wd×List (Wd×Nat))->LV
 |.error e=>.tuple [str [],.list [],int .i64 (e.1:Nat),int .i64 (e.2:Nat)]
 |.ok x=>.tuple [str x.1,.list (x.2.map qcl),int .i64 0,int .i64 0]
section
variable{B0:Nat}{w0:World}
theorem assemble_spec(hG:GW B0 w0)(hM:GM w0)(src:List UInt8)(og:Int)(hs:src.length<=300000000):LCalls (KC B0 w0) 39 [str src,int .i64 og] [] (Ret (asmLV (asmP src og))):=by
 have hA:asmP src og=asmP src og:=rfl
 conv at hA=>rhs;unfold asmP
 generalize hR:asmP src og=R at hA ⊢;refine LCalls.intro4 Tryz.func39 rfl (n:=65) rfl rfl rfl ?_;refine gac ?_;refine oB 19 rfl (λh1=>?_) (λh1=>?_);have h1':og<0:=zt h1;rw[if_pos (.inl h1')] at hA;subst hA;refine gaa ?_;refine oC rfl (λh=>?_) (λh=>by cases h);refine gao ?_;exact qac rfl (rC (zrt rfl) (rC (rT (v:=qab) rfl vN) (rC (zrt rfl) (zra rfl)))) rfl;have h1':¬ og<0:=zf h1;refine gad ?_;refine oC rfl (λh2=>?_) (λh2=>?_);have h2':og ≥ 262144:=zt h2;rw[if_pos (.inr h2')] at hA;subst hA;refine gao ?_;exact qac rfl (rC (zrt rfl) (rC (rT (v:=qab) rfl vN) (rC (zrt rfl) (zra rfl)))) rfl;have h2':¬ og ≥ 262144:=zf h2;rw[if_neg zo] at hA;obtain⟨o,rfl⟩:∃ o:Nat,og=(o:Int):=⟨og.toNat,by omega⟩;rw[Int.toNat_natCast] at hA;have hao:=@qpK src;have hft:=qd0 src;have hwt:=qhm src;have hwl:=qin src;have hcl:=qis src;have hlw:=qlL (qbl src) false;have htk:=tokens_spec hG hM src zo;rw[<-hft] at hwt hwl hcl hlw hA hao;rw[zLm] at hwl;generalize qgr src=l at hwt hwl hcl hlw htk hA hao;have hne:∀ w∈txt l,w≠[]:=λw hw=>(hcl w hw).1
 have hsz:∀ p∈l,p.1≠[]/\p.1.length<=1000000000:=λp hp=>by
  have hm:p.1∈l.map (·.1):=mem_map_of_mem hp;have:=qrI hm;exact⟨(hcl _ hm).1,by omega⟩
 have hck:=check_spec (B0:=B0) (w0:=w0) l zo (λp hp=>(hsz p hp).2)
 have hlen:∀ kn,((txt l).foldl (qbu kn o) ([],[])).1.length=lenW false (txt l):=λkn=>by
  rw[qhv];exact qjZ kn _ hne
 have hjo:=λkn hkn km Hk hK=>qsv hG l o zo zo hsz kn hkn (by rw[hlen kn];show lenW false (l.map (·.1))<=_;omega) km Hk hK;generalize hE:errT (defs (txt l)) [] l=E at hck hA hao;have hE2:E=(E.1,E.2):=rfl;refine gac ?_;refine oS (sF [_] rfl htk ?_) rfl;refine gab ?_;refine oS (sF [_] rfl hck ?_) rfl;refine gab ?_;refine oC rfl (λh1=>?_) (λh1=>?_);have h3:¬ E.2=0:=by simpa using h1
 rw[if_pos h3] at hA;subst hA;refine gac ?_;exact qac rfl (rC (zrt rfl) (rC (rT (v:=qab) rfl vN) (rC (zrt rfl) (zra rfl)))) rfl;have h3:E.2=0:=by simpa using h1
 rw[if_neg zo] at hA;have hnd:=(hao h3).1;refine gac ?_;refine oS (S.callH (H1:=[]) (F:=[]) [_,_,.const (.map none)] rfl zpr (hjo (λ_=>0) (λ_=>zero_le _) none [] (.inl ⟨rfl,rfl,λ_=>rfl⟩)) (λv' H' hh=>?_) (λch H' hh=>by obtain⟨h,_⟩:=hh;cases h)) rfl;obtain⟨hv,rfl⟩:=hh;cases hv;have hlabs:((txt l).foldl (qbu (λ_=>0) o) ([],[])).2=qef (λ_=>0) o (l.map (·.1)):=rfl
 have hle:∀ p∈((txt l).foldl (qbu (λ_=>0) o) ([],[])).2,p.2<=1000000000000:=λp hp=>by
  have:=qtl (λ_=>0) o (lenW false (txt l)) (txt l) ([],[]) hne (by rw[hlen];exact zNr _) (λp hp=>by cases hp) p hp;have h5:lenW false (txt l)<=3 * tot (l.map (·.1)):=hlw;omega
 have hnl:(((txt l).foldl (qbu (λ_=>0) o) ([],[])).2.map (·.1)).Nodup:=by
  rw[qgB];exact hnd
 have hll:=(qmZ (λ_=>0) o (txt l) ([],[])).2;rw[hlabs] at hle hnl hll;generalize hLB:qef (λ_=>0) o (l.map (·.1))=labs at hle hnl hll hA hlabs;rw[hlabs]
 have hll2:labs.length<=l.length:=by
  have:(txt l).length=l.length:=zLm _;simp only[zLn] at hll;omega
 have hlab:(labs.map qcl).length=labs.length:=zLm _;refine gab ?_;refine oS (S.kvNew λm=>?_) rfl;refine gac ?_
 refine oL (λk ls H=>∃ (i:Nat) (clock:Nat),i<=labs.length/\k=labs.length-i/\ls=[(1,int .i64 (o:Nat)),(8,.list (l.map qcl)),(13,.atom (.map (some m))),(41,.list (labs.map qcl)),(42,int .i64 labs.length),(43,int .i64 (i:Nat))]/\H=[(m,.map (kvs (qmg (labs.take i))) clock)])
  ⟨_,_,_,⟨0,0,zero_le _,rfl,rfl,rfl⟩,⟨rfl,rfl,rfl,rfl,qao zo,rfl,trivial⟩,zhR _⟩ ?_
 rintro k ls H ⟨i,clock,hi,rfl,rfl,rfl⟩ j hj;refine gai ?_;refine oC rfl (λhc=>?_) (λhc=>?_);have hlt:i<labs.length:=by have:=zt hc;omega
 refine gaj ?_;refine oP (xR (el':=qcl labs[i]) (cs:=[_,_]) rfl rfl zo (qa5 _ _ _ hlt) rfl rfl) rfl ?_;refine gad ?_;refine oS (sA λb15=>?_) rfl;refine gab ?_;refine oS (S.kvPut (t:=130) (kt:=9) (el:=3) (m:=qmg (labs.take i)) (k:=labs[i].1) (lv:=int .i64 (labs[i].2:Nat)) zk zk rfl rfl rfl zp1 λclock'=>?_) rfl;rw[qqH hlt hnl];refine gar ?_;exact⟨_,_,_,by omega,⟨i+1,clock',by omega,rfl,rfl,rfl⟩,⟨rfl,rfl,rfl,rfl,rfl,qao zo,trivial⟩,⟨[_],List.Perm.refl _⟩,hj⟩;have hi':i=labs.length:=by have:=zf hc;omega
 subst hi';rw[take_length];have hkn:=qvr hle;refine gac ?_;refine oS (S.callH (H1:=[(m,.map (kvs (qmg labs)) clock)]) (F:=[]) [_,_,_] rfl zpr (hjo (qdJ labs) hkn (some m) _ (.inr ⟨m,qmg labs,clock,rfl,rfl,qmJ labs⟩)) (λv' H' hh=>?_) (λch H' hh=>by obtain⟨h,_⟩:=hh;cases h)) rfl;obtain⟨hv,rfl⟩:=hh;cases hv;have e1:((txt l).foldl (qbu (qdJ labs) o) ([],[])).1=qcX (qdJ labs) (l.map (·.1)):=qhv _ _ _ _
 have e2:((txt l).foldl (qbu (qdJ labs) o) ([],[])).2=labs:=by
  show qef (qdJ labs) o (l.map (·.1))=labs;rw[qnB (qdJ labs) (λ_=>0) o (l.map (·.1)) hne];exact hLB
 rw[e1,e2];generalize qcX (qdJ labs) (l.map (·.1))=tx at hA;refine gab ?_;refine oC rfl (λh2=>?_) (λh2=>?_);have h5:40000<tx.length:=by have:=zt h2;omega
 rw[if_pos h5] at hA;subst hA;refine gao ?_;exact qac hj (rC (zrt rfl) (rC (rT (v:=qab) rfl vN) (rC (zrt rfl) (zra rfl)))) rfl;have h5:¬ 40000<tx.length:=by have:=zf h2;omega
 rw[if_neg h5] at hA;subst hA;refine gab ?_;exact qac hj (rC (zrt rfl) (rC (rT (v:=.list _) rfl zsr) (rC (zrt rfl) (zra rfl)))) rfl
end
end Go.Proofs.YtkihibnffkpnkaaGreatDoor.Asm
namespace Go.Proofs.YtkihibnffkpnkaaGreatDoor.Pp
open Go.GL Go.RowKit Go.Stele
open Asm (qbs qbs.mk qbG)
attribute [local irreducible] LOps qag qae LCalls Go.GL.Pure qax qam qad LQ LAny qaJ qan
structure GW(B0:Nat)(w0:World):Prop where
 base:Go.Proofs.YtkihibnffkpnkaaGreatDoor.GW B0 w0
 mx:Asm.GM w0
 errSyntax : ∃ tp p, w0.var? Tryz.prog "strconv.ErrSyntax" = some #[.iface tp p]
section
variable{B0:Nat}{w0:World}
theorem GW.syn (h : GW B0 w0) {w : World} (hb : Below B0 w0 w) : ∃ tp p, w.var? Tryz.prog "strconv.ErrSyntax" = some #[.iface tp p] := by
 have hg : Tryz.prog.globalNamed "strconv.ErrSyntax" = some 1 := by kernel_rfl
 obtain⟨tp,p,hv⟩:=h.errSyntax;exact⟨tp,p,var?_below hb hg (Nat.lt_of_lt_of_le zDd h.base.big) hv⟩
theorem GW.range (h : GW B0 w0) {w : World} (hb : Below B0 w0 w) : ∃ tp p, w.var? Tryz.prog "strconv.ErrRange" = some #[.iface tp p] := h.base.err hb
theorem fmtUint_spec(hG:GW B0 w0)(u:Nat)(hu:u<18446744073709551616):LCalls (KC B0 w0) 165 [int .u64 u,int .i64 10] [] (Ret (str (Go.Lib.decDigits u))):=Go.Proofs.YtkihibnffkpnkaaGreatDoor.fmtUint_spec hG.base u hu
theorem cutPrefix_spec(s p:List UInt8):LCalls (KC B0 w0) 182 [str s,str p] [] (Ret (.tuple [str (Go.Lib.trimPrefix s p),bool (Go.Lib.hasPrefix s p)])):=Asm.cutPrefix_spec s p
theorem cutSuffix_spec(s p:List UInt8)(hs:s.length<=1000000000):LCalls (KC B0 w0) 192 [str s,str p] [] (Ret (.tuple [str (Go.Lib.trimSuffix s p),bool (Go.Lib.hasSuffix s p)])):=Asm.cutSuffix_spec s p hs
theorem qlO(hG:GW B0 w0)(s:List UInt8)(hs:s.length<=1000000000):LCalls (KC B0 w0) 164 [str s,int .i64 10,int .i64 32] []
  (qg3 λlv=>(∃ u,Go.Lib.parseUintB 32 s=.ok u/\lv=.tuple [int .u64 u,.atom .nilIface])∨((∀ u,Go.Lib.parseUintB 32 s≠.ok u)/\∃ v t p,lv=.tuple [int .u64 v,.atom (.iface t p)])):=by
 have hsz:∀ k,1000000000<=k->s.toArray.size<=k:=λk hk=>by simp;omega
 refine LCalls.mono (LCalls.of_belowT (vs:=[.string ⟨s.toArray⟩,.int .i64 10,.int .i64 32]) (p:=λus=>(∃ u,Go.Lib.parseUintB 32 s=.ok u/\us=[.int .u64 u,.nilIface])∨((∀ u,Go.Lib.parseUintB 32 s≠.ok u)/\∃ v t p,us=[.int .u64 v,.iface t p])) λw hw=>?_) ?_
 cases h:Go.Lib.parseUintB 32 s with
 |ok u=>
  refine(Tryz.strconv_ParseUint_10_at32_ok ⟨s.toArray⟩ (hsz _ zDd) u (by simpa using h) w).mono λe w' he=>⟨_,he.1,.inl ⟨u,rfl,rfl⟩,?_⟩;rcases he.2 with h2|h2;rw[h2];exact Below.refl _ _;rw[h2]
  exact⟨rfl,rfl,rfl,by rw[Go.Lib.bytesWorld_size];omega,λk hk=>Go.Lib.bytesWorld_at_old w 5 _ k hk⟩
 |range=>
  obtain⟨tp,p,hv⟩:=hG.range hw;refine(Tryz.strconv_ParseUint_10_at32_range_var ⟨s.toArray⟩ (hsz _ zDd) (by simpa using h) tp p w hv).mono λe w' he=>?_;obtain⟨N,h1,_,_,h4⟩:=he
  exact⟨_,h1,.inr ⟨(λu hu=>by cases hu),_,_,_,rfl⟩,h4⟩
 |_=>
  obtain⟨tp,p,hv⟩:=hG.syn hw;refine(Tryz.strconv_ParseUint_10_at32_syntax_var ⟨s.toArray⟩ (hsz _ zDd) ⟨λu hu=>(by rw[h] at hu;cases hu),λhu=>(by rw[h] at hu;cases hu)⟩ tp p w hv).mono λe w' he=>?_;obtain⟨N,h1,_,_,h4⟩:=he;exact⟨_,h1,.inr ⟨(λu hu=>by cases hu),_,_,_,rfl⟩,h4⟩
 rintro r H ⟨v,rfl,⟨us,hus,rfl⟩,rfl⟩;refine⟨_,rfl,?_,rfl⟩;rcases hus with⟨u,h1,rfl⟩|⟨h1,v,t,p,rfl⟩;exact .inl ⟨u,h1,rfl⟩;exact .inr ⟨h1,v,t,p,rfl⟩
theorem qtX(s:List UInt8)(hs:s.length<=1000000000):LCalls (KC B0 w0) 194 [str s,str qfJ] [] (Ret (str (Go.Lib.trimS s qfJ))):=
 LCalls.ret_of (vs:=[.string ⟨s.toArray⟩,.string ⟨qfJ.toArray⟩]) λw hw=>(Go.Proofs.Any.strings_Trim_laid Tryz.lays160 zk ⟨s.toArray⟩ ⟨qfJ.toArray⟩ w (by show s.toArray.size<=_;simp;omega) zDd (Go.Proofs.ascii_of_all zDd))
end
theorem qor{n:Int}(h:0<=n/\n<=4294967295):IntKind.u32.wrap n=n:=by
 simp only[IntKind.wrap,IntKind.bits,IntKind.signed,Bool.false_and]
 simp
 omega
theorem qwn{n:Int}(h:0<=n/\n<=4294967295):IntKind.u64.wrap n=n:=by
 simp only[IntKind.wrap,IntKind.bits,IntKind.signed,Bool.false_and]
 simp
 omega
theorem qlz(n:Int):IntKind.u32.wrap n=n % 4294967296:=by
 simp only[IntKind.wrap,IntKind.bits,IntKind.signed,Bool.false_and]
 simp
instance:TIface zTp 71:=.of zk
section
variable{B0:Nat}{w0:World}
theorem qe6(s:List UInt8)(hs:s.length<=1000000000):LCalls (KC B0 w0) 183 [str s] [] (Ret (bool (qkr s))):=by
 have hT:=qtX (B0:=B0) (w0:=w0) s hs;have hnil:=quX s
 cases s with
 |nil=>
  refine zcI Tryz.func183 rfl (n:=25) rfl rfl rfl ?_;refine gab ?_
  exact qac rfl (zra rfl) rfl
 |cons c r=>
  have hN:qkr (c::r)=(decide ((c::r).length<=40) && qaV c && (c::r).all qaW):=rfl;rw[qaV] at hN;refine zcI Tryz.func183 rfl (n:=25) rfl rfl rfl ?_;refine gab ?_;refine oB 5 rfl (λh1=>?_) (λh1=>absurd h1 (by simp));refine oB 10 rfl (λh2=>?_) (λh2=>?_);have h2':(c::r).length<=40:=by have:=zt h2;omega
  rw[decide_eq_true h2',Bool.true_and] at hN;refine gaa ?_;refine oP (pI (c:=c) rfl rfl zo rfl) rfl ?_;refine gad ?_;refine oB 15 rfl (λh3=>?_) (λh3=>?_);have h3':decide (97<=cv c)=true:=h3;rw[h3',Bool.true_and] at hN;refine gaa ?_;refine oP (pI (c:=c) rfl rfl zo rfl) rfl ?_;refine gad ?_;refine oB 20 rfl (λh4=>?_) (λh4=>?_);have h4':decide (cv c<=122)=true:=h4;rw[h4',Bool.true_and] at hN;refine gaa ?_;refine oS (sF [_,_] rfl hT ?_) rfl;refine gaa ?_
  exact qac rfl (zra rfl) (qau (by
   rw[hN,Bool.eq_iff_iff,decide_eq_true_iff]
   exact hnil))
  have h4':decide (cv c<=122)=false:=h4;rw[h4',Bool.false_and] at hN;refine gaa ?_;exact qac rfl (zra rfl) (qau hN.symm);have h3':decide (97<=cv c)=false:=h3;rw[h3',Bool.false_and,Bool.false_and] at hN;refine gaa ?_;exact qac rfl (zra rfl) (qau hN.symm);have h2':¬ (c::r).length<=40:=by have:=zf h2;omega
  rw[decide_eq_false h2',Bool.false_and,Bool.false_and] at hN;refine gaa ?_;exact qac rfl (zra rfl) (qau hN.symm)
theorem qdd(hG:GW B0 w0)(w:Wd)(hs:w.length<=1000000000):LCalls (KC B0 w0) 186 [str w] [] (Ret (.tuple [int .u32 ((numW w).getD 0:Nat),bool (numW w).isSome])):=by
 have hP:=qlO hG w hs;refine zcI Tryz.func186 rfl (n:=21) rfl rfl rfl ?_;refine gap ?_;refine oS (S.fnIf [_,_,_] rfl hP ?_) rfl;rintro lv (⟨u,hu,rfl⟩|⟨hno,v,t,p,rfl⟩);have hlt:=qn0 hu;refine gab ?_;refine oS (sF [_,_] rfl (fmtUint_spec hG u zo) ?_) rfl;refine gad ?_;refine oC rfl (λh=>?_) (λh=>?_);have hne:¬ Go.Lib.decDigits u=w:=by simpa using h
 have hn:numW w=none:=by unfold numW;rw[hu];exact if_neg hne
 refine gao ?_;exact qac rfl (rC (zrt rfl) (zra rfl)) (by rw[hn];rfl);have he:Go.Lib.decDigits u=w:=by simpa using h
 have hn:numW w=some u:=by unfold numW;rw[hu];exact if_pos he
 refine gab ?_
 exact qac rfl (rC (zrt rfl) (zra rfl)) (by
  rw[hn,qor zo]
  rfl)
 have hn:numW w=none:=by
  unfold numW;split
  rename_i u hu
  exact absurd hu (hno u);rfl
 refine gab ?_;refine oC rfl (λh=>?_) (λh=>?_);refine gao ?_;exact qac rfl (rC (zrt rfl) (zra rfl)) (by rw[hn];rfl);cases h
theorem qgw(w:Wd)(hs:w.length<=1000000000):LCalls (KC B0 w0) 144 [str w] [] (qg3 (qbs (refW w))):=by
 obtain⟨r1,r2⟩:=qbG (qv7 w)
 have hlen:(Go.Lib.trimPrefix w [38]).length<=1000000000:=by
  unfold Go.Lib.trimPrefix;split;rw[length_drop];omega;exact hs
 refine zcI Tryz.func144 rfl (n:=17) rfl rfl rfl ?_;refine gap ?_;refine oS (sF [_,_] rfl (cutPrefix_spec w [38]) ?_) rfl;refine gac ?_;refine oB 13 rfl (λh=>?_) (λh=>?_);exact zT33;rw[h,Bool.false_and] at r1;refine gaa ?_;exact qcj rfl (rC (zrt rfl) (zra rfl)) (qbs.mk r1 r2)
theorem qd7(w:Wd)(hs:w.length<=1000000000):LCalls (KC B0 w0) 189 [str w] [] (qg3 (qbs (defW w))):=by
 obtain⟨r1,r2⟩:=qbG (qvQ w)
 have hlen:(Go.Lib.trimSuffix w [58]).length<=1000000000:=by
  unfold Go.Lib.trimSuffix;split;rw[length_take];omega;exact hs
 refine zcI Tryz.func189 rfl (n:=17) rfl rfl rfl ?_;refine gap ?_;refine oS (sF [_,_] rfl (cutSuffix_spec w [58] hs) ?_) rfl;refine gac ?_;refine oB 13 rfl (λh=>?_) (λh=>?_);exact zT33;rw[h,Bool.false_and] at r1;refine gaa ?_;exact qcj rfl (rC (zrt rfl) (zra rfl)) (qbs.mk r1 r2)
def qb2(v:List Wd)(m:Nat):LV:=.agg [.list (v.map str),.atom (.map (some m))]
theorem qaQ(v:List Wd)(m i:Nat)(hv:v.length<=1000000000):LCalls (KC B0 w0) 185 [qb2 v m,int .i64 i] [] (Ret (str (wdAt v i))):=by
 have hla:(v.map str).length=v.length:=zLm _;unfold qb2;refine zcI Tryz.func185 rfl (n:=15) rfl rfl rfl ?_;refine gah ?_;refine oS (sB (cs:=[.list (v.map str),.atom (.map (some m))]) rfl λb2=>?_) rfl;refine gab ?_;refine oC rfl (λh=>?_) (λh=>?_);have hlt:i<v.length:=by have:=zt h;omega
 have hw:wdAt v i=v[i]:=by unfold wdAt;rw[List.getElem?_eq_getElem hlt];rfl
 refine gab ?_;refine oP (xR (el':=str v[i]) (cs:=[str v[i]]) rfl rfl zo (qa5 _ _ _ hlt) rfl rfl) rfl ?_;refine gad ?_;exact qac rfl (zra rfl) (qng hw.symm);have hge:v.length<=i:=by have:=zf h;omega
 have hw:wdAt v i=[]:=by unfold wdAt;rw[List.getElem?_eq_none hge];rfl
 refine gac ?_;exact qac rfl (zra rfl) (qng hw.symm)
def Small(v:List Wd):Prop:=v.length<=1000000/\∀ w∈v,w.length<=1000000
theorem Small.at{v:List Wd}(h:Small v)(i:Nat):(wdAt v i).length<=1000000:=by
 unfold wdAt
 cases hi:v[i]? with
 |none=>exact zero_le _
 |some w=>exact h.2 w (List.mem_of_getElem? hi)
theorem qhu(v:List Wd)(m i:Nat)(hv:Small v)(hi:i<=1000):LCalls (KC B0 w0) 188 [qb2 v m,int .i64 i] [] (qg3 (qbs (qdb v i))):=by
 have h1:=qaQ (B0:=B0) (w0:=w0) v m i (by have:=hv.1;omega);have h2:=qaQ (B0:=B0) (w0:=w0) v m (i+1) (by have:=hv.1;omega);have e2:int .i64 ((i:Int)+1)=int .i64 ((i+1:Nat):Int):=qao zo;rw[<-e2] at h2;have hl:=hv.at i
 have hJ:qdb v i=match refW (wdAt v i) with
  |some l=>if wdAt v (i+1)=[63] then some l else none
  |none=>none:=rfl
 unfold qb2 at h1 h2 ⊢;refine zcI Tryz.func188 rfl (n:=24) rfl rfl rfl ?_;refine gah ?_;refine oS (sB (cs:=[.list (v.map str),.atom (.map (some m))]) rfl λb2=>?_) rfl;refine gab ?_;refine oS (sF [_,_] rfl h1 ?_) rfl;refine oS (S.fnIf [_] rfl (qgw _ zo) ?_) rfl;rintro lv ⟨s,rfl,hs⟩;refine gac ?_;refine oB 17 rfl (λh=>?_) (λh=>?_);obtain⟨l,hl2⟩:=Option.isSome_iff_exists.1 h;have hsl:=hs l hl2;rw[hl2] at hJ;refine gad ?_;refine oS (sF [_,_] rfl h2 ?_) rfl;refine gaa ?_
 exact qcj rfl (rC (zrt rfl) (zra rfl)) (qbs.mk (by rw[hJ];simp only;split <;> simp_all) (by
  intro l' h';rw[hJ] at h';simp only at h';split at h';injection h' with h';rw[hsl,h']
  cases h'))
 have hn:refW (wdAt v i)=none:=by
  cases h3:refW (wdAt v i) with
  |none=>rfl
  |some l=>rw[h3] at h;cases h
 rw[hn] at hJ;refine gaa ?_
 exact qcj rfl (rC (zrt rfl) (zra rfl)) (qbs.mk (by rw[hJ];rfl) (by
  intro l' h';rw[hJ] at h'
  cases h'))
end
theorem xor32{a b:Nat}(ha:a<4294967296)(hb:b<4294967296):IntKind.u32.wrap (((BitVec.ofInt IntKind.u32.bits (a:Int) ^^^ BitVec.ofInt IntKind.u32.bits (b:Int)).toNat:Nat):Int)=((a ^^^ b:Nat):Int):=by
 have h1:(BitVec.ofInt 32 (a:Int) ^^^ BitVec.ofInt 32 (b:Int)).toNat=a ^^^ b:=by
  rw[BitVec.ofInt_natCast,BitVec.ofInt_natCast,BitVec.toNat_xor,BitVec.toNat_ofNat,BitVec.toNat_ofNat,Nat.mod_eq_of_lt ha,Nat.mod_eq_of_lt hb]
 have h2:a ^^^ b<4294967296:=Nat.xor_lt_two_pow (n:=32) ha hb;show IntKind.u32.wrap (((BitVec.ofInt 32 (a:Int) ^^^ BitVec.ofInt 32 (b:Int)).toNat:Nat):Int)=_;rw[h1,qor zo]
theorem wadd(a b:Nat):IntKind.u32.wrap ((a:Int)+b)=(((a+b) % 4294967296:Nat):Int):=by
 rw[qlz];omega
theorem wsub{a b:Nat}(hb:b<4294967296):IntKind.u32.wrap ((a:Int)-b)=(((a+4294967296-b) % 4294967296:Nat):Int):=by
 rw[qlz];omega
theorem wmul(a b:Nat):IntKind.u32.wrap ((a:Int) * b)=((a * b % 4294967296:Nat):Int):=by
 rw[qlz,Int.natCast_emod,Int.natCast_mul];rfl
theorem resT{n:Int}{m:Nat}{o:Option Nat}(ho:o=some m)(h:n=(m:Int)):qbI [int .u32 n,bool true]=LV.tuple [int .u32 ((o.getD 0:Nat):Int),bool o.isSome]:=by
 subst h;subst ho;rfl
section
variable{B0:Nat}{w0:World}
theorem qmK(a b:Nat)(op:Wd)(ha:a<4294967296)(hb:b<4294967296):LCalls (KC B0 w0) 210 [int .u32 a,str op,int .u32 b] [] (Ret (.tuple [int .u32 ((qd1 a op b).getD 0:Nat),bool (qd1 a op b).isSome])):=by
 have hC:qd1 a op b=qd1 a op b:=rfl
 conv at hC=>rhs;unfold qd1
 refine zcI Tryz.func210 rfl (n:=47) rfl rfl rfl ?_;refine gac ?_;refine oC rfl (λh1=>?_) (λh1=>?_);rw[if_pos (zt h1)] at hC;refine gag ?_;refine oP (Pure.addW rfl rfl) rfl ?_;refine gaa ?_;exact qac rfl (rC (zrt rfl) (zra rfl)) (resT hC (wadd a b));rw[if_neg (zf h1)] at hC;refine gal ?_;refine oC rfl (λh2=>?_) (λh2=>?_);rw[if_pos (zt h2)] at hC;refine gag ?_;refine oP (Pure.subW rfl rfl) rfl ?_;refine gaa ?_;exact qac rfl (rC (zrt rfl) (zra rfl)) (resT hC (wsub hb));rw[if_neg (zf h2)] at hC;refine gal ?_;refine oC rfl (λh3=>?_) (λh3=>?_);rw[if_pos (zt h3)] at hC;refine gag ?_;refine oP (Pure.mulW rfl rfl) rfl ?_;refine gaa ?_;exact qac rfl (rC (zrt rfl) (zra rfl)) (resT hC (wmul a b));rw[if_neg (zf h3)] at hC;refine gal ?_;refine oC rfl (λh4=>?_) (λh4=>?_);rw[if_pos (zt h4)] at hC;refine gag ?_;refine oP (Pure.xorW rfl rfl) rfl ?_;refine gaa ?_;exact qac rfl (rC (zrt rfl) (zra rfl)) (resT hC (xor32 ha hb));rw[if_neg (zf h4)] at hC;refine gal ?_;refine oC rfl (λh5=>?_) (λh5=>?_);rw[if_pos (zt h5)] at hC;refine gac ?_;refine oC rfl (λh6=>?_) (λh6=>?_);have hlt:a<b:=by have:=zt h6;omega
 refine gas ?_;exact qac rfl (rC (zrt rfl) (zra rfl)) (by rw[hC,if_pos hlt];rfl);have hlt:¬ a<b:=by have:=zf h6;omega
 refine gac ?_;exact qac rfl (rC (zrt rfl) (zra rfl)) (by rw[hC,if_neg hlt];rfl);rw[if_neg (zf h5)] at hC;refine gal ?_;refine zcC [(0,int .u32 a),(1,str op),(2,int .u32 b),(34,bool (decide (op=[47]∨op=[37])))] ?_ (λj hj=>?_);refine oC rfl (λh6=>?_) (λh6=>?_);refine gaa ?_;exact⟨⟨rfl,rfl,rfl,qau (by simp[zt h6]),trivial⟩,rfl,rfl⟩;refine gal ?_;exact⟨⟨rfl,rfl,rfl,qau (by simp[zf h6]),trivial⟩,rfl,rfl⟩;refine oC rfl (λh6=>?_) (λh6=>?_);have h6':op=[47]∨op=[37]:=zt h6;refine gac ?_;refine oC rfl (λh7=>?_) (λh7=>?_);have hb0:b=0:=by have:=zt h7;omega
 have hCn:qd1 a op b=none:=by
  rw[hC];rcases h6' with h|h;rw[if_pos h,if_pos hb0];rw[if_neg (by rw[h];decide),if_pos h,if_pos hb0]
 refine gas ?_;exact qac hj (rC (zrt rfl) (zra rfl)) (by rw[hCn];rfl);have hb0:¬ b=0:=by have:=zf h7;omega
 refine gac ?_;refine oC rfl (λh8=>?_) (λh8=>?_);rw[if_pos (zt h8),if_neg hb0] at hC;have hle:a / b<=a:=Nat.div_le_self _ _
 have e1:IntKind.u32.wrap ((a:Int).tdiv (b:Int))=((a / b:Nat):Int):=by
  rw[Int.tdiv_eq_ediv_of_nonneg zo,<-Int.natCast_ediv];exact qor ⟨Int.natCast_nonneg _,Int.ofNat_le.2 (show a / b<=4294967295 by omega)⟩
 refine gag ?_;refine oP (Pure.quoW rfl rfl zo) rfl ?_;refine gaa ?_;exact qac hj (rC (zrt rfl) (zra rfl)) (resT hC e1)
 have h9:op=[37]:=by
  rcases h6' with h|h;exact absurd h (zf h8);exact h
 rw[if_neg (zf h8),if_pos h9,if_neg hb0] at hC
 have e1:(a:Int).tmod (b:Int)=((a % b:Nat):Int):=by
  rw[Int.tmod_eq_emod_of_nonneg zo,<-Int.natCast_emod]
 refine gac ?_;refine oP (Pure.remW rfl rfl zo) rfl ?_;refine gaa ?_;exact qac hj (rC (zrt rfl) (zra rfl)) (resT hC e1);have h6':¬ (op=[47]∨op=[37]):=zf h6
 have hCn:qd1 a op b=none:=by
  rw[hC,if_neg (λh=>h6' (.inl h)),if_neg (λh=>h6' (.inr h))]
 refine gac ?_;exact qac hj (rC (zrt rfl) (zra rfl)) (by rw[hCn];rfl)
theorem qjm(hG:GW B0 w0)(x op y:Wd)(hx:x.length<=1000000)(hy:y.length<=1000000):LCalls (KC B0 w0) 184 [str x,str op,str y] [] (qg3 (qbs (qa1 x op y))):=by
 have n1:=qdd hG x zo;have n2:=qdd hG y zo
 have hJ:qa1 x op y=match numW x,numW y with
  |some a,some b=>match qd1 a op b with
   |some c=>if (Go.Lib.decDigits c).length<=x.length+y.length+1 then some (Go.Lib.decDigits c) else none
   |none=>none
  |_,_=>none:=rfl
 have ha:(numW x).getD 0<4294967296:=by
  cases h:numW x with
  |none=>decide
  |some u=>exact qjr h
 have hb:(numW y).getD 0<4294967296:=by
  cases h:numW y with
  |none=>decide
  |some u=>exact qjr h
 have n3:=qmK (B0:=B0) (w0:=w0) _ _ op ha hb
 have hc:(qd1 ((numW x).getD 0) op ((numW y).getD 0)).getD 0<4294967296:=by
  cases h:qd1 ((numW x).getD 0) op ((numW y).getD 0) with
  |none=>decide
  |some u=>exact qku ha hb h
 have hdl:=qh6 hc;refine zcI Tryz.func184 rfl (n:=54) rfl rfl rfl ?_;refine gap ?_;refine oS (sF [_] rfl n1 ?_) rfl;refine gac ?_;refine oS (sF [_] rfl n2 ?_) rfl;refine gac ?_;refine oS (sF [_,_,_] rfl n3 ?_) rfl;refine gab ?_;refine oS (sF [_,_] (show _=[int .u64 (IntKind.u64.wrap (((qd1 ((numW x).getD 0) op ((numW y).getD 0)).getD 0:Nat):Int)),int .i64 10] from rfl) (by rw[qwn zo];exact fmtUint_spec hG _ zo) ?_) rfl;refine gap ?_;refine oB 37 rfl (λh1=>?_) (λh1=>?_);obtain⟨a,ha2⟩:=Option.isSome_iff_exists.1 h1;refine gaa ?_;refine oB 40 rfl (λh2=>?_) (λh2=>?_);obtain⟨b,hb2⟩:=Option.isSome_iff_exists.1 h2;rw[ha2,hb2] at hJ;rw[ha2,hb2];simp only at hJ;simp only[getD_some];refine gaa ?_;refine oB 43 rfl (λh3=>?_) (λh3=>?_);obtain⟨c,hc2⟩:=Option.isSome_iff_exists.1 h3;rw[ha2,hb2] at hdl;simp only[getD_some] at hdl;rw[hc2] at hJ hdl;rw[hc2];simp only[getD_some] at hJ hdl ⊢;refine gad ?_
 exact qcj rfl (rC (zrt rfl) (zra rfl)) (qbs.mk (by
  rw[hJ]
  by_cases hle:(Go.Lib.decDigits c).length<=x.length+y.length+1
  rw[if_pos hle,decide_eq_true zo];rfl;rw[if_neg hle,decide_eq_false zo];rfl) (by
  intro l' h';rw[hJ] at h';split at h';injection h'
  cases h'))
 have hn:qd1 a op b=none:=by
  cases h4:qd1 a op b with
  |none=>rfl
  |some l=>rw[h4] at h3;cases h3
 rw[hn] at hJ;refine gaa ?_
 exact qcj rfl (rC (zrt rfl) (zra rfl)) (qbs.mk (by rw[hJ];rfl) (by
  intro l' h';rw[hJ] at h'
  cases h'))
 have hn:numW y=none:=by
  cases h3:numW y with
  |none=>rfl
  |some l=>rw[h3] at h2;cases h2
 rw[ha2,hn] at hJ;refine gaa ?_
 exact qcj rfl (rC (zrt rfl) (zra rfl)) (qbs.mk (by rw[hJ];rfl) (by
  intro l' h';rw[hJ] at h'
  cases h'))
 have hn:numW x=none:=by
  cases h3:numW x with
  |none=>rfl
  |some l=>rw[h3] at h1;cases h1
 rw[hn] at hJ;refine gaa ?_
 exact qcj rfl (rC (zrt rfl) (zra rfl)) (qbs.mk (by rw[hJ];rfl) (by
  intro l' h';rw[hJ] at h'
  cases h'))
end
def qhA(r:qeZ):LV:=.tuple [int .i64 r.1,.list (r.2.map str)]
section
variable{B0:Nat}{w0:World}
theorem qsk(hG:GW B0 w0)(v:List Wd)(m:Nat)(hv:Small v):LCalls (KC B0 w0) 145 [qb2 v m] [] (Ret (qhA (qhK v))):=by
 have k0:=qaQ (B0:=B0) (w0:=w0) v m 0 (by have:=hv.1;omega);have k1:=qaQ (B0:=B0) (w0:=w0) v m 1 (by have:=hv.1;omega);have k2:=qaQ (B0:=B0) (w0:=w0) v m 2 (by have:=hv.1;omega);have kj:=qjm hG (wdAt v 0) (wdAt v 2) (wdAt v 1) (hv.at 0) (hv.at 1)
 have hF:qhK v=match qa1 (wdAt v 0) (wdAt v 2) (wdAt v 1) with
  |some s=>(3,[s])
  |none=>(0,[]):=rfl
 unfold qb2 at k0 k1 k2 ⊢;generalize qa1 (wdAt v 0) (wdAt v 2) (wdAt v 1)=o at kj hF;refine zcI Tryz.func145 rfl (n:=19) rfl rfl rfl ?_;refine gah ?_;refine oS (sB (cs:=[.list (v.map str),.atom (.map (some m))]) rfl λb1=>?_) rfl;refine gaa ?_;refine cD (m:=12) rfl [(b1,.cells 179 [.list (v.map str),.atom (.map (some m))])] ?_;refine aT 0 rfl rfl (pG (cs':=[_,_]) rfl zm0 rfl rfl) ?_;refine aT 2 rfl rfl (pG (cs':=[_,_]) rfl zm0 rfl rfl) ?_;refine aT 4 rfl rfl (pG (cs':=[_,_]) rfl zm0 rfl rfl) ?_;refine zQ47 ?_;refine lO 3 (lS (H1:=[]) rfl (.inl rfl) rfl zpr zhr (sF [_,_] rfl k2 ?_));refine lO 5 (lS (H1:=[]) rfl (.inl rfl) rfl zpr zhr (sF [_,_] rfl k1 ?_));refine lO 6 (lS (H1:=[]) rfl (.inl rfl) rfl zpr zhr (S.fnIf [_,_,_] rfl kj ?_));rintro lv ⟨s,rfl,hs⟩;refine qaJ.any [(b1,.cells 179 [.list (v.map str),.atom (.map (some m))])] (λ_ h=>h) ?_;refine aT 7 rfl rfl (pM (lv:=.tuple _) rfl) ?_;refine aT 8 rfl rfl (Pure.extract (c:=.atom _) rfl rfl) ?_;refine aT 9 rfl rfl (Pure.extract (c:=.atom _) rfl rfl) ?_;refine aT 10 rfl rfl (pA (lv:=.atom _) rfl) ?_;refine aT 11 rfl rfl (pA (lv:=.atom _) rfl) ?_;refine zQ48 ?_;refine gam ?_;refine oC rfl (λh=>?_) (λh=>?_);obtain⟨l,rfl⟩:=Option.isSome_iff_exists.1 h;obtain rfl:=hs l rfl;refine gag ?_;refine zQ0 ?_;refine gad ?_;exact qac rfl (rC (zrt rfl) (rC (rT (v:=.list _) rfl zsr) rN)) (by rw[hF];rfl)
 obtain rfl:o=none:=by
  cases o with
  |none=>rfl
  |some l=>cases h
 refine gac ?_;exact qac rfl (rC (zrt rfl) (rC (rT (v:=qab) rfl vN) rN)) (by rw[hF];rfl)
theorem qrr(hG:GW B0 w0)(v:List Wd)(m:Nat)(hv:Small v):LCalls (KC B0 w0) 150 [qb2 v m] [] (Ret (qhA (qeT v))):=by
 have k0:=qaQ (B0:=B0) (w0:=w0) v m 0 (by have:=hv.1;omega);have kn:=qdd hG (wdAt v 0) (by have:=hv.at 0;omega);have kj:=qhu (B0:=B0) (w0:=w0) v m 1 hv zo
 have hF:qeT v=match numW (wdAt v 0) with
  |some n=>if n≠0/\(qdb v 1).isSome=true then (3,[]) else (0,[])
  |none=>(0,[]):=rfl
 unfold qb2 at k0 kj ⊢;generalize numW (wdAt v 0)=on at kn hF;generalize qdb v 1=oj at kj hF;refine zcI Tryz.func150 rfl (n:=27) rfl rfl rfl ?_;refine gah ?_;refine oS (sB (cs:=[.list (v.map str),.atom (.map (some m))]) rfl λb1=>?_) rfl;refine gab ?_;refine oS (sF [_,_] rfl k0 ?_) rfl;refine oS (sF [_] rfl kn ?_) rfl;refine gab ?_;refine oS (S.fnIf [_,_] rfl kj ?_) rfl;rintro lv ⟨s,rfl,hs⟩;refine gac ?_;refine oB 20 rfl (λh1=>?_) (λh1=>?_);rw[h1] at hF
 cases on with
 |none=>
  refine gaa ?_;refine oC rfl (λh=>?_) (λh=>?_);cases h
  exact zT30
 |some n=>
  refine gad ?_;refine oC rfl (λh=>?_) (λh=>?_)
  have hn:n≠0:=by
   intro h0;subst h0;exact absurd h zDd
  simp only[hn,ne_eq,not_false_eq_true,and_self,if_true] at hF;refine gao ?_;exact qac rfl (rC (zrt rfl) (rC (rT (v:=qab) rfl vN) rN)) (by rw[hF];rfl)
  have hn:n=0:=by
   have h0:¬ ¬ ((n:Int)=0):=by simpa using h
   omega
  subst hn;refine gac ?_;exact qac rfl (rC (zrt rfl) (rC (rT (v:=qab) rfl vN) rN)) (by rw[hF];rfl)
 rw[h1] at hF;refine gaa ?_;refine oC rfl (λh=>?_) (λh=>?_);cases h;refine gac ?_
 exact qac rfl (rC (zrt rfl) (rC (rT (v:=qab) rfl vN) rN)) (by
  rw[hF]
  cases on <;> simp <;> rfl)
theorem qoM(v:List Wd)(m:Nat)(hv:Small v){es:Array MapEntry}{clock:Nat}{p:List UInt8->Bool}(hs:SetMap es p):LCalls (KC B0 w0) 153 [qb2 v m] [(m,.obj (.map es clock))] (λr H=>r=.ret (qhA (qcA p v))/\H=[(m,.obj (.map es clock))]):=by
 have k0:=qaQ (B0:=B0) (w0:=w0) v m 0 (by have:=hv.1;omega);have kd:=qd7 (B0:=B0) (w0:=w0) (wdAt v 0) (by have:=hv.at 0;omega)
 have hF:qcA p v=match defW (wdAt v 0) with
  |some l=>if p l=true then (0,[]) else (1,[])
  |none=>(0,[]):=rfl
 unfold qb2 at k0 ⊢;generalize defW (wdAt v 0)=o at kd hF;refine zcI Tryz.func153 rfl (n:=20) rfl rfl rfl ?_;refine gah ?_;refine oS (sB (cs:=[.list (v.map str),.atom (.map (some m))]) rfl λb1=>?_) rfl;refine gab ?_;refine oS (sF [_,_] rfl k0 ?_) rfl;refine oS (S.fnIf [_] rfl kd ?_) rfl;rintro lv ⟨s,rfl,hs2⟩;refine gac ?_;refine oB 13 rfl (λh1=>?_) (λh1=>?_);obtain⟨l,rfl⟩:=Option.isSome_iff_exists.1 h1;obtain rfl:=hs2 l rfl;simp only at hF;refine gaa ?_;refine oP (Pure.setGet (t:=123) (kt:=9) (el:=4) zk zk (λw=>(Go.zero_of_info (P:=Tryz.prog) (n:=1) zk).1 w) rfl rfl zm1 hs) rfl ?_;refine gad ?_;refine oC rfl (λh=>?_) (λh=>?_);have hp:p s=false:=by simpa using h
 refine gao ?_;exact rR rfl (rC (zrt rfl) (rC (rT (v:=qab) rfl vN) rN)) (zhD zhr) ⟨by rw[hF,hp];rfl,rfl⟩;have hp:p s=true:=by simpa using h
 refine gac ?_;exact rR rfl (rC (zrt rfl) (rC (rT (v:=qab) rfl vN) rN)) (zhD zhr) ⟨by rw[hF,hp];rfl,rfl⟩
 obtain rfl:o=none:=by
  cases o with
  |none=>rfl
  |some l=>cases h1
 refine gaa ?_;refine oC rfl (λh=>?_) (λh=>?_);cases h;refine gac ?_;exact rR rfl (rC (zrt rfl) (rC (rT (v:=qab) rfl vN) rN)) (zhD zhr) ⟨by rw[hF];rfl,rfl⟩
end
def isW(v:List Wd):Nat->List Wd->Bool
 |_,[]=>true
 |i,w::r=>decide (wdAt v i=w) && isW v (i+1) r
section
variable{B0:Nat}{w0:World}
theorem qcp(v:List Wd)(m i:Nat)(ws:List Wd)(hv:Small v)(hi:i<=1000)(hw:ws.length<=1000):LCalls (KC B0 w0) 187 [qb2 v m,int .i64 i,.list (ws.map str)] [] (Ret (bool (isW v i ws))):=by
 have hla:(ws.map str).length=ws.length:=zLm _;have kw:∀ k,LCalls (KC B0 w0) 185 [qb2 v m,int .i64 (k:Nat)] [] (Ret (str (wdAt v k))):=λk=>qaQ v m k (by have:=hv.1;omega);unfold qb2 at kw ⊢;refine zcI Tryz.func187 rfl (n:=24) rfl rfl rfl ?_;refine gah ?_;refine oS (sB (cs:=[.list (v.map str),.atom (.map (some m))]) rfl λb3=>?_) rfl;refine gac ?_
 refine oL (λk ls H=>∃ j,j<=ws.length/\k=ws.length-j/\ls=[(1,int .i64 i),(3,ptr b3 0),(9,.list (ws.map str)),(10,int .i64 ws.length),(11,int .i64 j)]/\H=[(b3,.cells 179 [.list (v.map str),.atom (.map (some m))])]/\isW v i ws=isW v (i+j) (ws.drop j))
  ⟨_,_,_,⟨0,zero_le _,rfl,rfl,rfl,rfl⟩,⟨rfl,rfl,rfl,qao zo,rfl,trivial⟩,zhR _⟩ ?_
 rintro k ls H ⟨j,hj,rfl,rfl,rfl,hE⟩ j1 hj1;refine gai ?_;refine oC rfl (λhc=>?_) (λhc=>?_);have hlt:j<ws.length:=by have:=zt hc;omega
 rw[drop_eq_getElem_cons hlt,isW] at hE;have k1:=kw (i+j);have e1:int .i64 ((i+j:Nat):Int)=int .i64 ((i:Int)+j):=qao zo;rw[e1] at k1;refine gac ?_;refine oP (xR (el':=str ws[j]) (cs:=[str ws[j]]) rfl rfl zo (qa5 _ _ _ hlt) rfl rfl) rfl ?_;refine gab ?_;refine oS (sF [_,_] rfl k1 ?_) rfl;refine gad ?_;refine oC rfl (λh=>?_) (λh=>?_);have hne:¬ wdAt v (i+j)=ws[j]:=by simpa using h
 rw[decide_eq_false hne,Bool.false_and] at hE;refine gas ?_;exact qac hj1 (zra rfl) (qau hE.symm);have he:wdAt v (i+j)=ws[j]:=by simpa using h
 rw[decide_eq_true he,Bool.true_and] at hE;refine gac ?_;exact⟨_,_,_,by omega,⟨j+1,by omega,rfl,rfl,rfl,by rw[hE,Nat.add_assoc]⟩,⟨rfl,rfl,rfl,rfl,qao zo,trivial⟩,zhR _,hj1⟩;have hj':j=ws.length:=by have:=zf hc;omega
 subst hj';rw[drop_length,isW] at hE;refine gac ?_;exact qac hj1 (zra rfl) (qau hE.symm)
theorem qnb(v:List Wd)(m:Nat)(hv:Small v):LCalls (KC B0 w0) 146 [qb2 v m] [] (Ret (qhA (qcV v))):=by
 have k0:=qaQ (B0:=B0) (w0:=w0) v m 0 (by have:=hv.1;omega);have k1:=qaQ (B0:=B0) (w0:=w0) v m 1 (by have:=hv.1;omega);have hF:qcV v=if wdAt v 0=[48]/\(wdAt v 1=[43]∨wdAt v 1=[45]∨wdAt v 1=[94])∨wdAt v 0=[49]/\(wdAt v 1=[42]∨wdAt v 1=[47]) then (2,[]) else (0,[]):=rfl
 unfold qb2 at k0 k1 ⊢;generalize wdAt v 0=a at k0 hF;generalize wdAt v 1=b at k1 hF;refine zcI Tryz.func146 rfl (n:=36) rfl rfl rfl ?_;refine gah ?_;refine oS (sB (cs:=[.list (v.map str),.atom (.map (some m))]) rfl λb1=>?_) rfl;refine gaa ?_;refine cD (m:=6) rfl [(b1,.cells 179 [.list (v.map str),.atom (.map (some m))])] ?_;refine aT 0 rfl rfl (pG (cs':=[_,_]) rfl zm0 rfl rfl) ?_;refine aT 2 rfl rfl (pG (cs':=[_,_]) rfl zm0 rfl rfl) ?_;refine zQ47 ?_;refine lO 3 (lS (H1:=[]) rfl (.inl rfl) rfl zpr zhr (sF [_,_] rfl k1 ?_));refine qaJ.any [(b1,.cells 179 [.list (v.map str),.atom (.map (some m))])] (λ_ h=>h) ?_;refine aT 4 rfl rfl (pA (lv:=.atom _) rfl) ?_;refine aT 5 rfl rfl (pA (lv:=.atom _) rfl) ?_;refine zQ48 ?_;refine gac ?_;refine LOps.cut [(1,ptr b1 0),(35,bool (decide (a=[48]/\(b=[43]∨b=[45]∨b=[94])∨a=[49]/\(b=[42]∨b=[47]))))] ?_ (λj hj=>?_);refine oB 12 rfl (λh1=>?_) (λh1=>?_);have e1:a=[48]:=zt h1;have n1:¬ a=[49]:=by rw[e1];decide
 refine gaa ?_;refine oB 15 rfl (λh2=>?_) (λh2=>?_);have e2:b=[43]:=zt h2;refine gad ?_;exact⟨⟨rfl,qau (by simp[e1,e2]),trivial⟩,rfl,rfl⟩;have e2:¬ b=[43]:=zf h2;refine gaa ?_;refine oB 19 rfl (λh3=>?_) (λh3=>?_);have e3:b=[45]:=zt h3;refine gad ?_;exact⟨⟨rfl,qau (by simp[e1,e3]),trivial⟩,rfl,rfl⟩;have e3:¬ b=[45]:=zf h3;refine gaa ?_;refine oB 24 rfl (λh4=>?_) (λh4=>?_);have e4:b=[94]:=zt h4;refine gad ?_;exact⟨⟨rfl,qau (by simp[e1,e4]),trivial⟩,rfl,rfl⟩;have e4:¬ b=[94]:=zf h4;refine gaa ?_;refine oB 27 rfl (λh5=>absurd (zt h5) n1) (λh5=>?_);refine gad ?_;exact⟨⟨rfl,qau (by simp[e2,e3,e4,n1]),trivial⟩,rfl,rfl⟩;have e1:¬ a=[48]:=zf h1;refine gad ?_;refine oB 27 rfl (λh2=>?_) (λh2=>?_);have e2:a=[49]:=zt h2;refine gaa ?_;refine oB 30 rfl (λh3=>?_) (λh3=>?_);have e3:b=[42]:=zt h3;refine gaa ?_;exact⟨⟨rfl,qau (by simp[e2,e3]),trivial⟩,rfl,rfl⟩;have e3:¬ b=[42]:=zf h3;refine gaa ?_;exact⟨⟨rfl,qau (by simp[e2,e3]),trivial⟩,rfl,rfl⟩;have e2:¬ a=[49]:=zf h2;refine gad ?_;exact⟨⟨rfl,qau (by simp[e1,e2]),trivial⟩,rfl,rfl⟩;refine oC rfl (λh=>?_) (λh=>?_);rw[if_pos (zt h)] at hF;refine gao ?_;exact qac hj (rC (zrt rfl) (rC (rT (v:=qab) rfl vN) rN)) (by rw[hF];rfl);rw[if_neg (zf h)] at hF;refine gac ?_;exact qac hj (rC (zrt rfl) (rC (rT (v:=qab) rfl vN) rN)) (by rw[hF];rfl)
end
theorem qq8(l:Wd)(v:List Wd)(i:Nat):qf0 l (v.drop i)=match defW (wdAt v i) with
  |some d=>decide (d=l) || qf0 l (v.drop (i+1))
  |none=>false:=by
 by_cases h:i<v.length
 ·have e:wdAt v i=v[i]:=by unfold wdAt;rw[List.getElem?_eq_getElem h];rfl
  rw[drop_eq_getElem_cons h,qf0,e]
  first|done|(cases defW v[i] <;> rfl)
 have e:wdAt v i=[]:=by unfold wdAt;rw[List.getElem?_eq_none zo];rfl
 rw[List.drop_eq_nil_of_le zo,e];rfl
theorem qxm{v:List Wd}{i:Nat}{d:Wd}(h:defW (wdAt v i)=some d):i<v.length:=by
 by_cases hl:i<v.length
 exact hl;have e:wdAt v i=[]:=by unfold wdAt;rw[List.getElem?_eq_none zo];rfl
 rw[e] at h;cases h
section
variable{B0:Nat}{w0:World}
theorem qty(v:List Wd)(m:Nat)(hv:Small v):LCalls (KC B0 w0) 151 [qb2 v m] [] (Ret (qhA (qhU v))):=by
 have k0:=qaQ (B0:=B0) (w0:=w0) v m 0 (by have:=hv.1;omega);have kj:=qhu (B0:=B0) (w0:=w0) v m 1 hv zo;have kw:∀ k,LCalls (KC B0 w0) 185 [qb2 v m,int .i64 (k:Nat)] [] (Ret (str (wdAt v k))):=λk=>qaQ v m k (by have:=hv.1;omega);have kd:∀ k,LCalls (KC B0 w0) 189 [str (wdAt v k)] [] (qg3 (qbs (defW (wdAt v k)))):=λk=>qd7 (wdAt v k) (by have:=hv.at k;omega)
 have hF:qhU v=match qdb v 1 with
  |some l=>if wdAt v 0=[48]/\qf0 l (v.drop 3)=true then (3,[]) else (0,[])
  |none=>(0,[]):=rfl
 unfold qb2 at k0 kj kw ⊢;generalize qdb v 1=oj at kj hF;generalize wdAt v 0=a at k0 hF;refine zcI Tryz.func151 rfl (n:=35) rfl rfl rfl ?_;refine gah ?_;refine oS (sB (cs:=[.list (v.map str),.atom (.map (some m))]) rfl λb1=>?_) rfl;refine gab ?_;refine oS (S.fnIf [_,_] rfl kj ?_) rfl;rintro lv ⟨s,rfl,hs⟩;refine gab ?_;refine oB 16 rfl (λh1=>?_) (λh1=>?_)
 obtain rfl:oj=none:=by
  cases oj with
  |none=>rfl
  |some l=>cases h1
 refine gaa ?_;refine oC rfl (λh=>?_) (λh=>?_);refine gao ?_;exact qac rfl (rC (zrt rfl) (rC (rT (v:=qab) rfl vN) rN)) (by rw[hF];rfl);cases h
 obtain⟨l,rfl⟩:∃ l,oj=some l:=by
  cases oj with
  |none=>cases h1
  |some l=>exact⟨l,rfl⟩
 obtain rfl:=hs l rfl;simp only at hF;refine gad ?_;refine oS (sF [_,_] rfl k0 ?_) rfl;refine gad ?_;refine oC rfl (λh=>?_) (λh=>?_);have hne:¬ a=[48]:=by simpa using h
 rw[if_neg (λhc=>hne hc.1)] at hF;refine gao ?_;exact qac rfl (rC (zrt rfl) (rC (rT (v:=qab) rfl vN) rN)) (by rw[hF];rfl);have he:a=[48]:=by simpa using h
 subst he;simp only[true_and] at hF;refine gac ?_
 refine oL (λk ls H=>∃ i,(i<=v.length∨i=3)/\k=v.length+4-i/\ls=[(1,ptr b1 0),(4,str s),(6,int .i64 (i:Nat))]/\H=[(b1,.cells 179 [.list (v.map str),.atom (.map (some m))])]/\qf0 s (v.drop 3)=qf0 s (v.drop i))
  ⟨_,_,_,⟨3,Or.inr rfl,rfl,rfl,rfl,rfl⟩,⟨rfl,rfl,rfl,trivial⟩,zhR _⟩ ?_
 rintro k ls H ⟨i,hi,rfl,rfl,rfl,hE⟩ j1 hj1;have hl:=hv.1;rw[qq8 s v i] at hE;refine gab ?_;refine oS (sF [_,_] rfl (kw i) ?_) rfl;refine oS (S.fnIf [_] rfl (kd i) ?_) rfl;rintro lv ⟨d,rfl,hd⟩;refine gab ?_;refine oC rfl (λh=>?_) (λh=>?_)
 have hn:defW (wdAt v i)=none:=by
  cases ho:defW (wdAt v i) with
  |none=>rfl
  |some l=>rw[ho] at h;cases h
 rw[hn] at hE;rw[hE] at hF;refine gas ?_;exact qac hj1 (rC (zrt rfl) (rC (rT (v:=qab) rfl vN) rN)) (by rw[hF];rfl)
 obtain⟨e,ho⟩:∃ e,defW (wdAt v i)=some e:=by
  cases ho:defW (wdAt v i) with
  |none=>rw[ho] at h;cases h
  |some l=>exact⟨l,rfl⟩
 have hlt:=qxm ho;obtain rfl:=hd e ho;rw[ho] at hE;simp only at hE;refine gac ?_;refine oC rfl (λh2=>?_) (λh2=>?_);have he:d=s:=zt h2;rw[decide_eq_true he,Bool.true_or] at hE;rw[hE] at hF;refine gas ?_;exact qac hj1 (rC (zrt rfl) (rC (rT (v:=qab) rfl vN) rN)) (by rw[hF];rfl);have he:¬ d=s:=zf h2;rw[decide_eq_false he,Bool.false_or] at hE;refine gac ?_;exact⟨_,_,_,by omega,⟨i+1,Or.inl zo,rfl,rfl,rfl,hE⟩,⟨rfl,rfl,qao zo,trivial⟩,zhR _,hj1⟩
end
section
variable{B0:Nat}{w0:World}
theorem qtI(hG:GW B0 w0)(v:List Wd)(m:Nat)(hv:Small v):LCalls (KC B0 w0) 148 [qb2 v m] [] (Ret (qhA (qiT v))):=by
 have k0:=qaQ (B0:=B0) (w0:=w0) v m 0 (by have:=hv.1;omega);have kn:=qdd hG (wdAt v 0) (by have:=hv.at 0;omega);have ki:=qcp (B0:=B0) (w0:=w0) v m 1 [[64],wdAt v 0,[33]] hv zo (by simp only[zLc,zLn];omega)
 have hF:qiT v=if (numW (wdAt v 0)).isSome=true/\isW v 1 [[64],wdAt v 0,[33]]=true then (4,[]) else (0,[]):=by
  simp only[qiT,isW,zBa,zDe,and_true]
 unfold qb2 at k0 ki ⊢;generalize numW (wdAt v 0)=on at kn hF;generalize isW v 1 [[64],wdAt v 0,[33]]=q at ki hF;generalize wdAt v 0=a at k0 kn ki;refine zcI Tryz.func148 rfl (n:=20) rfl rfl rfl ?_;refine gah ?_;refine oS (sB (cs:=[.list (v.map str),.atom (.map (some m))]) rfl λb1=>?_) rfl;refine gab ?_;refine oS (sF [_,_] rfl k0 ?_) rfl;refine oS (sF [_] rfl kn ?_) rfl;refine gaa ?_
 cases on with
 |none=>
  refine zQ43 ?_;refine LAny.takeSkip (i:=2) rfl rfl rfl rfl zk zk zk rfl ?_;refine zQ29 ?_;refine aT 7 rfl rfl (Pure.pickF (lv:=.atom _) rfl rfl) ?_;refine zQ48 ?_;refine gaf ?_;refine oC rfl (λh=>?_) (λh=>?_);cases h
  exact zT30
 |some n=>
  refine zQ43 ?_;refine LAny.tkW 2 rfl rfl rfl rfl (pG (cs':=[_,_]) rfl zm0 rfl rfl) ?_;refine LAny.tkW 3 rfl rfl rfl rfl (pG (cs':=[_,_]) rfl zm0 rfl rfl) ?_;refine aL ?_ zhr;refine lO 4 (lS (H1:=[]) rfl (.inr ⟨1,true,13,rfl,rfl,rfl⟩) rfl zpr zhr (sF [_,_] rfl k0 ?_));refine lO 5 (lS (H1:=[]) rfl (.inr ⟨1,true,13,rfl,rfl,rfl⟩) rfl zpr zhr ?_);refine sL [.const (.string { data:=#[64] }),.tmp 16,.const (.string { data:=#[33] })] rfl (eC rfl rfl (eC rfl rfl (eC rfl rfl eN))) rfl rfl rfl ?_;refine lO 6 (lS (H1:=[]) rfl (.inr ⟨1,true,13,rfl,rfl,rfl⟩) rfl zpr zhr (sF [_,_,_] rfl ki ?_));refine qaJ.any [(b1,.cells 179 [.list (v.map str),.atom (.map (some m))])] (λ_ h=>h) ?_;refine aT 7 rfl rfl (Pure.pickT (lv:=.atom _) rfl rfl) ?_;refine zQ48 ?_;refine gaf ?_;refine oC rfl (λh=>?_) (λh=>?_);have hq:q=true:=h;subst hq;refine gao ?_;exact qac rfl (rC (zrt rfl) (rC (rT (v:=qab) rfl vN) rN)) (by rw[hF];rfl);have hq:q=false:=h;subst hq;refine gac ?_;exact qac rfl (rC (zrt rfl) (rC (rT (v:=qab) rfl vN) rN)) (by rw[hF];rfl)
end
theorem qod{v:List Wd}(h:5<v.length):((v.map str).take 6).drop 4=[str (wdAt v 4),str (wdAt v 5)]:=by
 have e4:wdAt v 4=v[4]:=by unfold wdAt;rw[List.getElem?_eq_getElem zo];rfl
 have e5:wdAt v 5=v[5]:=by unfold wdAt;rw[List.getElem?_eq_getElem h];rfl
 rw[e4,e5,<-List.map_take,<-List.map_drop]
 have:(v.take 6).drop 4=[v[4],v[5]]:=by
  rw[List.drop_take,drop_eq_getElem_cons (by omega:4<v.length),drop_eq_getElem_cons h];rfl
 rw[this];rfl
section
variable{B0:Nat}{w0:World}
theorem qoA(v:List Wd)(m:Nat)(hv:Small v):LCalls (KC B0 w0) 149 [qb2 v m] [] (Ret (qhA (qdw v))):=by
 have kj:=qhu (B0:=B0) (w0:=w0) v m 4 hv zo;have ki:=qcp (B0:=B0) (w0:=w0) v m 0 [[49],[60],[49],[60]] hv zo zDd
 have hF:qdw v=if (qdb v 4).isSome=true/\isW v 0 [[49],[60],[49],[60]]=true then (6,[wdAt v 4,wdAt v 5]) else (0,[]):=by
  simp only[qdw,isW,zBa,zDe,and_true]
 have hlen:∀ l,qdb v 4=some l->5<v.length:=λl h=>qcF h;unfold qb2 at kj ki ⊢;generalize qdb v 4=oj at kj hF hlen;generalize isW v 0 [[49],[60],[49],[60]]=q at ki hF;refine zcI Tryz.func149 rfl (n:=20) rfl rfl rfl ?_;refine gah ?_;refine oS (sB (cs:=[.list (v.map str),.atom (.map (some m))]) rfl λb1=>?_) rfl;refine gab ?_;refine oS (S.fnIf [_,_] rfl kj ?_) rfl;rintro lv ⟨s,rfl,hs⟩;refine gac ?_
 cases oj with
 |none=>
  refine gaa ?_;refine oC rfl (λh=>?_) (λh=>?_);cases h
  exact zT30
 |some l=>
  have h5:=hlen l rfl;refine gad ?_;refine oS (sL [.const (.string { data:=#[49] }),.const (.string { data:=#[60] }),.const (.string { data:=#[49] }),.const (.string { data:=#[60] })] rfl (eC rfl rfl (eC rfl rfl (eC rfl rfl (eC rfl rfl eN)))) rfl rfl rfl ?_) rfl;refine gaa ?_;refine oS (sF [_,_,_] rfl ki ?_) rfl;refine gaa ?_;refine oC rfl (λh=>?_) (λh=>?_);have hq:q=true:=h;subst hq;refine gaa ?_;refine cD (m:=5) rfl [(b1,.cells 179 [.list (v.map str),.atom (.map (some m))])] ?_;refine aT 0 rfl rfl (pF rfl) ?_;refine aT 1 rfl rfl (pL (c:=.list _) rfl zm0 rfl) ?_;refine LAny.take (i:=2) zhr rfl zk zk zk rfl (Pure.lslice (es:=v.map str) (i:=4) (j:=6) rfl ⟨_,rfl⟩ ⟨_,rfl⟩ zo zo (by rw[zLm];omega) (qeu v)) ?_;refine aT 3 rfl rfl (pA (lv:=.atom _) rfl) ?_;refine aT 4 rfl rfl (pA (lv:=.list _) rfl) ?_;refine zQ48 ?_;refine gaa ?_;exact qac rfl (rC (zrt rfl) (rC (rT (v:=.list _) rfl zsr) rN)) (by rw[hF];exact congrArg (λx=>LV.tuple [int .i64 6,.list x]) (qod h5));have hq:q=false:=h;subst hq;refine gac ?_;exact qac rfl (rC (zrt rfl) (rC (rT (v:=qab) rfl vN) rN)) (by rw[hF];rfl)
end
section
variable{B0:Nat}{w0:World}
theorem qmX(hG:GW B0 w0)(v:List Wd)(m:Nat)(hv:Small v):LCalls (KC B0 w0) 147 [qb2 v m] [] (Ret (qhA (qcx v))):=by
 have k0:=qaQ (B0:=B0) (w0:=w0) v m 0 (by have:=hv.1;omega);have k1:=qaQ (B0:=B0) (w0:=w0) v m 1 (by have:=hv.1;omega);have k2:=qaQ (B0:=B0) (w0:=w0) v m 2 (by have:=hv.1;omega);have k3:=qaQ (B0:=B0) (w0:=w0) v m 3 (by have:=hv.1;omega);have kj:=qjm hG (wdAt v 0) (wdAt v 1) (wdAt v 2) (hv.at 0) (hv.at 2)
 have hF:qcx v=if (wdAt v 1=[43]∨wdAt v 1=[42]∨wdAt v 1=[94])/\wdAt v 3=wdAt v 1 then
  (match qa1 (wdAt v 0) (wdAt v 1) (wdAt v 2) with
  |some s=>(4,[s,wdAt v 1])
  |none=>(0,[]))
 else (0,[]):=rfl
 unfold qb2 at k0 k1 k2 k3 ⊢;generalize qa1 (wdAt v 0) (wdAt v 1) (wdAt v 2)=o at kj hF;generalize wdAt v 1=b at k1 kj hF;generalize wdAt v 3=d at k3 hF;refine zcI Tryz.func147 rfl (n:=38) rfl rfl rfl ?_;refine gah ?_;refine oS (sB (cs:=[.list (v.map str),.atom (.map (some m))]) rfl λb1=>?_) rfl;refine gab ?_;refine oS (sF [_,_] rfl k1 ?_) rfl;refine gab ?_;refine LOps.cut [(1,ptr b1 0),(4,str b),(24,bool (!decide ((b=[43]∨b=[42]∨b=[94])/\d=b)))] ?_ (λj hj=>?_);refine oB 11 rfl (λh1=>?_) (λh1=>?_);have e1:¬ b=[43]:=by simpa using h1
 refine gad ?_;refine oB 15 rfl (λh2=>?_) (λh2=>?_);have e2:¬ b=[42]:=by simpa using h2
 refine gad ?_;refine oB 19 rfl (λh3=>?_) (λh3=>?_);have e3:¬ b=[94]:=by simpa using h3
 refine gaa ?_;exact⟨⟨rfl,rfl,qau (by simp[e1,e2,e3]),trivial⟩,rfl,rfl⟩;have e3:b=[94]:=by simpa using h3
 refine gad ?_;refine oS (sF [_,_] rfl k3 ?_) rfl;refine gad ?_;exact⟨⟨rfl,rfl,qau (by simp[e3]),trivial⟩,rfl,rfl⟩;have e2:b=[42]:=by simpa using h2
 refine gad ?_;refine oS (sF [_,_] rfl k3 ?_) rfl;refine gad ?_;exact⟨⟨rfl,rfl,qau (by simp[e2]),trivial⟩,rfl,rfl⟩;have e1:b=[43]:=by simpa using h1
 refine gad ?_;refine oS (sF [_,_] rfl k3 ?_) rfl;refine gad ?_;exact⟨⟨rfl,rfl,qau (by simp[e1]),trivial⟩,rfl,rfl⟩;refine oC rfl (λh=>?_) (λh=>?_);have hn:¬ ((b=[43]∨b=[42]∨b=[94])/\d=b):=zf (Bool.not_eq_true' _▸h);rw[if_neg hn] at hF;refine gao ?_;exact qac hj (rC (zrt rfl) (rC (rT (v:=qab) rfl vN) rN)) (by rw[hF];rfl)
 have hn:(b=[43]∨b=[42]∨b=[94])/\d=b:=by
  by_cases hc:(b=[43]∨b=[42]∨b=[94])/\d=b
  exact hc;rw[decide_eq_false hc] at h;cases h
 rw[if_pos hn] at hF;refine gaa ?_;refine cD (m:=11) rfl [(b1,.cells 179 [.list (v.map str),.atom (.map (some m))])] ?_;refine aT 0 rfl rfl (pG (cs':=[_,_]) rfl zm0 rfl rfl) ?_;refine zQ35 ?_;refine aT 3 rfl rfl (pG (cs':=[_,_]) rfl zm0 rfl rfl) ?_;refine zQ47 ?_;refine lO 4 (lS (H1:=[]) rfl (.inl rfl) rfl zpr zhr (sF [_,_] rfl k2 ?_));refine lO 5 (lS (H1:=[]) rfl (.inl rfl) rfl zpr zhr (S.fnIf [_,_,_] rfl kj ?_));rintro lv ⟨s,rfl,hs⟩;refine qaJ.any [(b1,.cells 179 [.list (v.map str),.atom (.map (some m))])] (λ_ h=>h) ?_;refine aT 6 rfl rfl (pM (lv:=.tuple _) rfl) ?_;refine aT 7 rfl rfl (Pure.extract (c:=.atom _) rfl rfl) ?_;refine aT 8 rfl rfl (Pure.extract (c:=.atom _) rfl rfl) ?_;refine aT 9 rfl rfl (pA (lv:=.atom _) rfl) ?_;refine aT 10 rfl rfl (pA (lv:=.atom _) rfl) ?_;refine zQ48 ?_;refine gam ?_;refine oC rfl (λh=>?_) (λh=>?_);obtain⟨l,rfl⟩:=Option.isSome_iff_exists.1 h;obtain rfl:=hs l rfl;refine gag ?_;refine oS (sL [.tmp 35,.tmp 36] rfl (eC rfl rfl (eC rfl rfl eN)) rfl rfl rfl ?_) rfl;refine gad ?_;exact qac hj (rC (zrt rfl) (rC (rT (v:=.list _) rfl zsr) rN)) (by rw[hF];rfl)
 obtain rfl:o=none:=by
  cases o with
  |none=>rfl
  |some l=>cases h
 refine gac ?_;exact qac hj (rC (zrt rfl) (rC (rT (v:=qab) rfl vN) rN)) (by rw[hF];rfl)
end
theorem qmD{v:List Wd}{i:Nat}(h:v.length<=i):qbU (v.drop i)=0:=by
 rw[List.drop_eq_nil_of_le h];rfl
theorem qoO{v:List Wd}{i:Nat}(h:i<v.length)(hd:(defW v[i]).isSome=true):qbU (v.drop i)=0:=by
 unfold qbU
 rw[drop_eq_getElem_cons h,List.takeWhile_cons_of_neg (λhc=>absurd (show(defW v[i]).isNone=true from hc) (by
  cases hx:defW v[i] with
  |none=>rw[hx] at hd;cases hd
  |some d=>simp))]
 rfl
theorem qnM{v:List Wd}{i:Nat}(h:i<v.length)(hd:(defW v[i]).isSome=false):qbU (v.drop i)=qbU (v.drop (i+1))+1:=by
 unfold qbU;rw[drop_eq_getElem_cons h,List.takeWhile_cons_of_pos (by simpa using hd)];rfl
theorem qxa{v:List Wd}{n i:Nat}(hn:n=qcu v)(h0:n=0->i=0)(hi:n<=i)(hE:0<n->qbU (v.drop n)=i-n):qiQ v=if n<i then (i,v.take n) else (0,[]):=by
 unfold qiQ;rw[<-hn]
 by_cases h:0<n
 rw[hE h]
 by_cases hj:n<i
 rw[if_pos ⟨h,by omega⟩,if_pos hj,show n+(i-n)=i by omega];rw[if_neg (λhc=>hj zo),if_neg hj];rw[if_neg (λhc=>h hc.1),if_neg (by have:=h0 zo;omega)]
section
variable{B0:Nat}{w0:World}
theorem qsn(v:List Wd)(m:Nat)(hv:Small v):LCalls (KC B0 w0) 152 [qb2 v m] [] (Ret (qhA (qiQ v))):=by
 have hla:(v.map str).length=v.length:=zLm _;have hl:=hv.1;have k0:=qaQ (B0:=B0) (w0:=w0) v m 0 (by have:=hv.1;omega);have kj:=qhu (B0:=B0) (w0:=w0) v m 1 hv zo;have hS:qcu v=if (qdb v 1).isSome=true/\wdAt v 0=[48] then 3 else if wdAt v 0=[59]∨wdAt v 0=[36] then 1 else 0:=rfl
 have hD:=@qxa v;unfold qb2 at k0 kj ⊢;generalize qcu v=n at hS hD;generalize qdb v 1=oj at kj hS;generalize wdAt v 0=a at k0 hS
 have hn3:n<=3:=by
  rw[hS];split;omega;split <;> omega
 refine zcI Tryz.func152 rfl (n:=59) rfl rfl rfl ?_;refine gah ?_;refine oS (sB (cs:=[.list (v.map str),.atom (.map (some m))]) rfl λb1=>?_) rfl
 repeat (first|refine LOps.nil ?_|refine qN ?_|refine oP (pA (lv:=.atom _) rfl) rfl ?_)
 refine gah ?_
 repeat (first|refine LOps.nil ?_|refine qN ?_|refine oP (pA (lv:=.atom _) rfl) rfl ?_)
 refine qag.seq ?_;refine zcC [(1,ptr b1 0),(4,int .i64 (n:Nat))] ?_ (λj hj=>?_);refine gab ?_;refine oS (S.fnIf [_,_] rfl kj ?_) rfl;rintro lv ⟨s,rfl,hs⟩;refine gac ?_;refine LOps.cut [(1,ptr b1 0),(4,int .i64 0),(20,bool (decide (oj.isSome=true/\a=[48])))] ?_ (λj2 hj2=>?_)
 cases oj with
 |none=>
  refine gaa ?_
  exact⟨⟨rfl,rfl,qau (by simp),trivial⟩,rfl,rfl⟩
 |some l=>
  refine gad ?_;refine oS (sF [_,_] rfl k0 ?_) rfl;refine gaa ?_;exact⟨⟨rfl,rfl,qau (by simp),trivial⟩,rfl,rfl⟩
 refine oC rfl (λh=>?_) (λh=>?_);rw[if_pos (zt h)] at hS;subst hS;refine gaq ?_;exact⟨⟨rfl,rfl,trivial⟩,rfl,hj2⟩;rw[if_neg (zf h)] at hS;refine gab ?_;refine oS (sF [_,_] rfl k0 ?_) rfl;refine gaa ?_;refine LOps.cut [(1,ptr b1 0),(4,int .i64 0),(28,bool (decide (a=[59]∨a=[36])))] ?_ (λj3 hj3=>?_);refine oB 24 rfl (λh1=>?_) (λh1=>?_);have e1:a=[59]:=zt h1;refine gaa ?_;exact⟨⟨rfl,rfl,qau (by simp[e1]),trivial⟩,rfl,rfl⟩;have e1:¬ a=[59]:=zf h1;refine gad ?_;refine oS (sF [_,_] rfl k0 ?_) rfl;refine gaa ?_;exact⟨⟨rfl,rfl,qau (by simp[e1]),trivial⟩,rfl,rfl⟩;refine oC rfl (λh=>?_) (λh=>?_);rw[if_pos (zt h)] at hS;subst hS;refine gaq ?_;exact⟨⟨rfl,rfl,trivial⟩,rfl,hj3.trans hj2⟩;rw[if_neg (zf h)] at hS;subst hS;refine gaa ?_;exact⟨⟨rfl,rfl,trivial⟩,rfl,hj3.trans hj2⟩;refine gac ?_
 refine oL (λk ls H=>∃ i:Nat,n<=i/\(i<=v.length∨i=n)/\(n=0->i=0)/\k=v.length+4-i/\ls=[(1,ptr b1 0),(4,int .i64 (n:Nat)),(7,int .i64 (i:Nat))]/\H=[(b1,.cells 179 [.list (v.map str),.atom (.map (some m))])]/\qbU (v.drop n)=(i-n)+qbU (v.drop i))
  ⟨_,_,_,⟨n,zNr _,Or.inr rfl,id,rfl,rfl,rfl,by omega⟩,⟨rfl,rfl,rfl,trivial⟩,zhR _⟩ ?_
 rintro k ls H ⟨i,hni,hi,h0,rfl,rfl,rfl,hE⟩ j1 hj1;refine gab ?_;refine LOps.cut [(1,ptr b1 0),(4,int .i64 (n:Nat)),(7,int .i64 (i:Nat)),(38,bool (decide (0<n/\i<v.length)))] ?_ (λj2 hj2=>?_);refine oB 32 rfl (λh1=>?_) (λh1=>?_);have e1:0<n:=by have:=zt h1;omega
 refine gad ?_;exact⟨⟨rfl,rfl,rfl,qau (by rw[decide_eq_decide];omega),trivial⟩,rfl,rfl⟩;have e1:¬ 0<n:=by have:=zf h1;omega
 refine gaa ?_;exact⟨⟨rfl,rfl,rfl,qau (by simp[e1]),trivial⟩,rfl,rfl⟩;refine oC rfl (λh=>?_) (λh=>?_);obtain⟨hn0,hlt⟩:=zt h;have kd:=qd7 (B0:=B0) (w0:=w0) v[i] (by have:=hv.2 _ (getElem_mem hlt);omega);refine gab ?_;refine oP (xR (el':=str v[i]) (cs:=[str v[i]]) rfl rfl zo (qa5 _ _ _ hlt) rfl rfl) rfl ?_;refine gad ?_;refine oS (S.fnIf [_] rfl kd ?_) rfl;rintro lv ⟨s,rfl,hs⟩;refine gac ?_;refine oC rfl (λh2=>?_) (λh2=>?_);rw[qoO hlt h2] at hE
 replace hD:=hD rfl h0 hni (λ_=>by omega)
 refine gab ?_;refine oC rfl (λh3=>?_) (λh3=>?_);exact zT31;exact zT16;rw[qnM hlt (by simpa using h2)] at hE;refine gac ?_;exact⟨_,_,_,by omega,⟨i+1,by omega,Or.inl zo,by omega,rfl,rfl,rfl,by omega⟩,⟨rfl,rfl,qao zo,trivial⟩,zhR _,hj2.trans hj1⟩;have hc:=zf h
 replace hD:=hD rfl h0 hni (λh=>by rw[qmD (v:=v) (i:=i) zo] at hE;omega)
 refine gac ?_;refine oC rfl (λh3=>?_) (λh3=>?_);exact zT31;exact zT16
end
end Go.Proofs.YtkihibnffkpnkaaGreatDoor.Pp
namespace Go.Proofs.YtkihibnffkpnkaaGreatDoor.Pp
open Go.GL Go.RowKit Go.Stele
open Asm (qbs qbs.mk qbG)
def qqB(used:Wd->Bool)(v:List Wd):List qeZ:=[qhK v,qcV v,qcx v,qiT v,qdw v,qeT v,qhU v,qiQ v,qcA used v]
def qiv:List qeZ->qeZ
 |[]=>(0,[])
 |r::l=>if r.1≠0 then r else qiv l
theorem qoY{used:Wd->Bool}{v:List Wd}(h:(qcA used v).1=0):qcA used v=(0,[]):=by
 unfold qcA at h ⊢;revert h
 cases defW (wdAt v 0) with
 |none=>exact λ_=>rfl
 |some l=>
  intro h;simp only at h ⊢
  by_cases hu:used l=true
  rw[if_pos hu];rw[if_neg hu] at h;cases h
theorem qoz(used:Wd->Bool)(v:List Wd):qa2 used v=qiv (qqB used v):=by
 have hz:=@qoY used v;unfold qa2 qqB;generalize qhK v=a1;generalize qcV v=a2;generalize qcx v=a3;generalize qiT v=a4;generalize qdw v=a5;generalize qeT v=a6;generalize qhU v=a7;generalize qiQ v=a8;generalize qcA used v=a9 at hz;simp only[qiv]
 by_cases h9:a9.1≠0
 rw[if_pos h9];rw[if_neg h9,hz (Decidable.not_not.1 h9)]
theorem qoW{l:List qeZ}{i:Nat}(h:i<l.length):qiv (l.drop i)=if l[i].1≠0 then l[i] else qiv (l.drop (i+1)):=by
 rw[drop_eq_getElem_cons h,qiv]
theorem qqS{l:List qeZ}{i:Nat}(h:l.length<=i):qiv (l.drop i)=(0,[]):=by
 rw[List.drop_eq_nil_of_le h]
 try rfl
theorem qsQ(used:Wd->Bool)(v:List Wd):(qqB used v).length=9:=rfl
theorem qtq(used:Wd->Bool)(f:Nat):qcB used f []=[]:=by
 cases f <;> rfl
theorem qrh(used:Wd->Bool)(f:Nat)(w:Wd)(r:List Wd):qcB used (f+1) (w::r)=if (qa2 used (w::r)).1=0 then w::qcB used f r else (qa2 used (w::r)).2++qcB used f ((w::r).drop (qa2 used (w::r)).1):=rfl
theorem qrb(l:List Wd)(k:Nat)(h:k<l.length)(s:Wd):qaO (l.take (k+1)) s=(qaO (l.take k) s || decide (refW l[k]=some s)):=by
 unfold qaO;rw[take_succ_eq_append_getElem h,List.any_append]
 simp
attribute [local irreducible] LOps qag qae LCalls Go.GL.Pure qax qam qad LQ LAny qaJ qan
theorem qgF(l:List Wd):((l.map str).flatMap LV.cells).all qc0=true:=by
 induction l with
 |nil=>rfl
 |cons a l ih=>
  rw[zMc,List.flatMap_cons,List.all_append,ih];rfl
theorem qsI(l:List Wd)(i:Nat):((l.map str).take (((l.map str).length:Nat):Int).toNat).drop ((i:Nat):Int).toNat=(l.drop i).map str:=by
 rw[Int.toNat_natCast,Int.toNat_natCast,take_length,List.map_drop]
theorem qt4{s:Nat}{v:LV}{es:List LV}{H:Heap}{q:Nat×LObj}(h:Acc s v es H [q]):∃ F,H.Perm ([q]++F):=by
 cases h with
 |nil=>exact⟨[],List.Perm.refl _⟩
 |row=>exact⟨[_],List.Perm.swap ..⟩
theorem Small.drop{l:List Wd}(h:Small l)(i:Nat):Small (l.drop i):=
 ⟨by have:=h.1;rw[length_drop];omega,λw hw=>h.2 w (List.mem_of_mem_drop hw)⟩
def fnLV(k:Nat):LV:=.atom (.func (.func (145+k)) #[] #[])
section
variable{B0:Nat}{w0:World}
theorem qrG(hG:GW B0 w0)(l:List Wd)(hv:Small l):LCalls (KC B0 w0) 85 [.list (l.map str)] [] (Ret (.list ((qed l).map str))):=by
 have hla:(l.map str).length=l.length:=zLm _;have hl:=hv.1;refine zcI Tryz.func85 rfl (n:=73) rfl rfl rfl ?_;refine gaq ?_;refine oS (S.makeMap λm=>?_) rfl;refine gac ?_
 refine oL (λk ls H=>∃ (i:Nat) (es:Array MapEntry) (clock:Nat),i<=l.length/\k=l.length-i/\ls=[(0,.list (l.map str)),(3,.atom (.map (some m))),(17,.list (l.map str)),(18,int .i64 l.length),(19,int .i64 (i:Nat))]/\H=[(m,.obj (.map es clock))]/\SetMap es (qaO (l.take i)))
  ⟨_,_,_,⟨0,#[],0,zero_le _,rfl,rfl,rfl,SetMap.nil⟩,⟨rfl,rfl,rfl,qao zo,rfl,trivial⟩,zhR _⟩ ?_
 rintro k ls H ⟨i,es,clock,hi,rfl,rfl,rfl,hM⟩ j1 hj1;refine gai ?_;refine oC rfl (λhc=>?_) (λhc=>?_);have hlt:i<l.length:=by have:=zt hc;omega
 have kr:=qgw (B0:=B0) (w0:=w0) l[i] (by have:=hv.2 _ (getElem_mem hlt);omega);have hU:qaO (l.take (i+1))=λs=>qaO (l.take i) s || decide (refW l[i]=some s):=funext λs=>qrb l i hlt s;refine gaj ?_;refine oP (xR (el':=str l[i]) (cs:=[str l[i]]) rfl rfl zo (qa5 _ _ _ hlt) rfl rfl) rfl ?_;refine gab ?_;refine oS (S.fnIf [_] rfl kr ?_) rfl;rintro lv ⟨s,rfl,hs⟩;refine gac ?_;refine oC rfl (λh=>?_) (λh=>?_);obtain⟨d,hd⟩:=Option.isSome_iff_exists.1 h;obtain rfl:=hs d hd;refine gag ?_;refine oS (S.setPut (t:=123) (kt:=9) (el:=4) zk zk rfl rfl rfl pH hM λes' clock' hM'=>?_) rfl;refine gar ?_
 exact⟨_,_,_,by omega,⟨i+1,es',clock',by omega,rfl,rfl,rfl,by
  rw[hU,hd]
  exact cast (by congr;funext x;simp[eq_comm]) hM'⟩,⟨rfl,rfl,rfl,rfl,qao zo,trivial⟩,zhR _,hj1⟩
 have hn:refW l[i]=none:=by
  cases ho:refW l[i] with
  |none=>rfl
  |some d=>rw[ho] at h;cases h
 refine gac ?_
 exact⟨_,_,_,by omega,⟨i+1,es,clock,by omega,rfl,rfl,rfl,by
  rw[hU,hn]
  exact cast (by congr;funext x;simp) hM⟩,⟨rfl,rfl,rfl,rfl,qao zo,trivial⟩,zhR _,hj1⟩
 have hi':i=l.length:=by have:=zf hc;omega
 subst hi';rw[take_length] at hM;refine gac ?_;refine oS (sL [.func 145,.func 146,.func 147,.func 148,.func 149,.func 150,.func 151,.func 152,.func 153] rfl (eC rfl rfl (eC rfl rfl (eC rfl rfl (eC rfl rfl (eC rfl rfl (eC rfl rfl (eC rfl rfl (eC rfl rfl (eC rfl rfl eN))))))))) rfl rfl rfl ?_) rfl;refine gab ?_
 refine oL (λk ls H=>∃ (i f:Nat) (out:List Wd) (v:LV),i<=l.length/\k=l.length-i/\ls=[(0,.list (l.map str)),(3,.atom (.map (some m))),(8,.list ((List.range 9).map fnLV)),(9,v),(10,int .i64 (i:Nat))]/\Acc 1 v (out.map str) H [(m,.obj (.map es clock))]/\l.length-i<=f/\out.length<=i/\out++qcB (qaO l) f (l.drop i)=qed l)
  ⟨_,_,_,⟨0,l.length,[],qab,zero_le _,rfl,rfl,Acc.nil,by omega,zero_le _,rfl⟩,⟨rfl,rfl,rfl,rfl,rfl,trivial⟩,zhR _⟩ ?_
 rintro k ls H ⟨i,f,out,v,hi,rfl,rfl,hacc,hf,hlen,hE⟩ j2 hj2;have hol:(out.map str).length=out.length:=zLm _;refine gac ?_;refine oC rfl (λhc=>?_) (λhc=>?_)
 ·have hlt:i<l.length:=by have:=zt hc;omega
  obtain⟨f,rfl⟩:∃ g,f=g+1:=⟨f-1,by omega⟩;have hR:(qa2 (qaO l) (l.drop i)).1≠0->(qa2 (qaO l) (l.drop i)).1<=(l.drop i).length/\(qa2 (qaO l) (l.drop i)).2.length<(qa2 (qaO l) (l.drop i)).1:=qfr (qaO l) (l.drop i);have hF:=qoz (qaO l) (l.drop i);have hl9:=qsQ (qaO l) (l.drop i);rw[drop_eq_getElem_cons hlt,qrh,<-drop_eq_getElem_cons hlt,List.drop_drop] at hE;have hdl:(l.drop i).length=l.length-i:=length_drop
  repeat (first|refine LOps.nil ?_|refine qN ?_|refine qag.skip ?_|refine qag.block ?_)
  refine qag.seq ?_
  repeat (first|refine LOps.nil ?_|refine qN ?_|refine qag.region ?_|refine oP (pA (lv:=.atom _) rfl) rfl ?_)
  refine qag.seq ?_
  refine cM (A:=Nat×List Wd×LV×Heap) (λa=>[(0,.list (l.map str)),(3,.atom (.map (some m))),(8,.list ((List.range 9).map fnLV)),(9,a.2.2.1),(10,int .i64 (i:Nat)),(11,int .i64 a.1)]) (λa=>a.2.2.2)
   (λa=>a.1=(qa2 (qaO l) (l.drop i)).1/\a.2.1=(if (qa2 (qaO l) (l.drop i)).1=0 then out else out++(qa2 (qaO l) (l.drop i)).2)/\Acc 1 a.2.2.1 (a.2.1.map str) a.2.2.2 [(m,.obj (.map es clock))]) ?_ ?_
  refine gac ?_;refine oL (λk ls H1=>∃ x:Nat,x<=9/\k=9-x/\ls=[(0,.list (l.map str)),(3,.atom (.map (some m))),(8,.list ((List.range 9).map fnLV)),(9,v),(10,int .i64 (i:Nat)),(11,int .i64 0),(37,.list ((List.range 9).map fnLV)),(38,int .i64 9),(39,int .i64 (x:Nat))]/\H1=H/\qa2 (qaO l) (l.drop i)=qiv ((qqB (qaO l) (l.drop i)).drop x)) ?_ ?_;exact⟨_,_,_,⟨0,zero_le _,rfl,rfl,rfl,hF⟩,⟨rfl,rfl,rfl,rfl,rfl,rfl,rfl,rfl,rfl,trivial⟩,zhR _⟩;rintro k ls H1 ⟨x,hx,rfl,rfl,rfl,hX⟩ j3 hj3;refine gai ?_;refine oC rfl (λhc=>?_) (λhc=>?_);have hx9:x<9:=by have:=zt hc;omega
  rw[qoW zo] at hX;refine gaj ?_
  refine oP (xR (el':=fnLV x) (cs:=[fnLV x]) rfl rfl zo (by
   have:=qa5 fnLV (List.range 9) x (by simpa using hx9);rw[List.getElem_range] at this
   exact this) rfl rfl) rfl ?_
  refine gab ?_;refine oP (show Go.GL.Pure _ _ _ _ (.list ((l.drop i).map str)) from qsI l i▸Pure.lslice (es:=l.map str) (i:=((i:Nat):Int)) (j:=(((l.map str).length:Nat):Int)) rfl ⟨_,rfl⟩ rfl zo zo zo (qeu l)) rfl ?_;refine gad ?_;have hv':=hv.drop i;have hxl:x<(qqB (qaO l) (l.drop i)).length:=by omega
  generalize hr:(qqB (qaO l) (l.drop i))[x]=r at hX;refine LOps.cut [(0,.list (l.map str)),(3,.atom (.map (some m))),(8,.list ((List.range 9).map fnLV)),(9,v),(10,int .i64 (i:Nat)),(11,int .i64 0),(14,int .i64 (r.1:Nat)),(15,.list (r.2.map str)),(37,.list ((List.range 9).map fnLV)),(38,int .i64 9),(39,int .i64 (x:Nat))] ?_ (λj4 hj4=>?_);clear hX;have h9:x=0∨x=1∨x=2∨x=3∨x=4∨x=5∨x=6∨x=7∨x=8:=by omega
  rcases h9 with rfl|rfl|rfl|rfl|rfl|rfl|rfl|rfl|rfl;obtain rfl:qhK (l.drop i)=r:=hr;refine oS (S.fnV (f:=145) [_] rfl rfl (qsk hG (l.drop i) m hv') ?_) rfl;refine gad ?_;exact⟨⟨rfl,rfl,rfl,rfl,rfl,rfl,rfl,rfl,rfl,rfl,rfl,trivial⟩,rfl,rfl⟩;obtain rfl:qcV (l.drop i)=r:=hr;refine oS (S.fnV (f:=146) [_] rfl rfl (qnb (B0:=B0) (w0:=w0) (l.drop i) m hv') ?_) rfl;refine gad ?_;exact⟨⟨rfl,rfl,rfl,rfl,rfl,rfl,rfl,rfl,rfl,rfl,rfl,trivial⟩,rfl,rfl⟩;obtain rfl:qcx (l.drop i)=r:=hr;refine oS (S.fnV (f:=147) [_] rfl rfl (qmX hG (l.drop i) m hv') ?_) rfl;refine gad ?_;exact⟨⟨rfl,rfl,rfl,rfl,rfl,rfl,rfl,rfl,rfl,rfl,rfl,trivial⟩,rfl,rfl⟩;obtain rfl:qiT (l.drop i)=r:=hr;refine oS (S.fnV (f:=148) [_] rfl rfl (qtI hG (l.drop i) m hv') ?_) rfl;refine gad ?_;exact⟨⟨rfl,rfl,rfl,rfl,rfl,rfl,rfl,rfl,rfl,rfl,rfl,trivial⟩,rfl,rfl⟩;obtain rfl:qdw (l.drop i)=r:=hr;refine oS (S.fnV (f:=149) [_] rfl rfl (qoA (B0:=B0) (w0:=w0) (l.drop i) m hv') ?_) rfl;refine gad ?_;exact⟨⟨rfl,rfl,rfl,rfl,rfl,rfl,rfl,rfl,rfl,rfl,rfl,trivial⟩,rfl,rfl⟩;obtain rfl:qeT (l.drop i)=r:=hr;refine oS (S.fnV (f:=150) [_] rfl rfl (qrr hG (l.drop i) m hv') ?_) rfl;refine gad ?_;exact⟨⟨rfl,rfl,rfl,rfl,rfl,rfl,rfl,rfl,rfl,rfl,rfl,trivial⟩,rfl,rfl⟩;obtain rfl:qhU (l.drop i)=r:=hr;refine oS (S.fnV (f:=151) [_] rfl rfl (qty (B0:=B0) (w0:=w0) (l.drop i) m hv') ?_) rfl;refine gad ?_;exact⟨⟨rfl,rfl,rfl,rfl,rfl,rfl,rfl,rfl,rfl,rfl,rfl,trivial⟩,rfl,rfl⟩;obtain rfl:qiQ (l.drop i)=r:=hr;refine oS (S.fnV (f:=152) [_] rfl rfl (qsn (B0:=B0) (w0:=w0) (l.drop i) m hv') ?_) rfl;refine gad ?_;exact⟨⟨rfl,rfl,rfl,rfl,rfl,rfl,rfl,rfl,rfl,rfl,rfl,trivial⟩,rfl,rfl⟩;obtain rfl:qcA (qaO l) (l.drop i)=r:=hr;obtain⟨F,hp⟩:=qt4 hacc;refine oS (S.callV (f:=153) (H1:=[(m,.obj (.map es clock))]) (F:=F) [_] rfl rfl hp (qoM (B0:=B0) (w0:=w0) (l.drop i) m hv' hM) (λv' H' hh=>?_) (by rintro ch H' ⟨h,_⟩;cases h)) rfl;obtain⟨hv1,rfl⟩:=hh;cases hv1;refine LOps.weak ⟨[],by simpa using hp.symm⟩ ?_;refine gad ?_;exact⟨⟨rfl,rfl,rfl,rfl,rfl,rfl,rfl,rfl,rfl,rfl,rfl,trivial⟩,rfl,rfl⟩;refine gab ?_;refine oC rfl (λhn=>?_) (λhn=>?_);have hn0:r.1≠0:=by have:=zt hn;omega
  rw[if_pos hn0] at hX;rw[hX] at hR;obtain⟨hR1,hR2⟩:=hR hn0;have hrl:(r.2.map str).length=r.2.length:=zLm _;refine gap ?_;refine zQ46 ?_;refine oS (S.acc rfl hacc rfl (qeu _) (qgF _) zo λv' H' hacc'=>?_) rfl;refine zQ19 ?_;refine gad ?_;exact⟨(r.1,out++r.2,v',H'),⟨by rw[hX],by rw[hX,if_neg hn0],by rw[zMa];exact hacc'⟩,⟨rfl,rfl,rfl,rfl,rfl,rfl,trivial⟩,zhR _,hj4.trans hj3⟩;have hn0:r.1=0:=by have:=zf hn;omega
  rw[if_neg zo] at hX;refine gac ?_;exact⟨_,_,_,by omega,⟨x+1,by omega,rfl,rfl,rfl,hX⟩,⟨rfl,rfl,rfl,rfl,rfl,rfl,rfl,rfl,qao zo,trivial⟩,zhR _,hj4.trans hj3⟩;have hx9:x=9:=by have:=zf hc;omega
  subst hx9;rw[qqS zo] at hX;refine gaa ?_;exact⟨(0,out,v,H1),⟨by rw[hX],by rw[hX];rfl,hacc⟩,⟨rfl,rfl,rfl,rfl,rfl,rfl,trivial⟩,zhR _,hj3⟩;rintro⟨n,out',v',H'⟩ ⟨hn1,ho1,hacc'⟩ j5 hj5;simp only at hn1 ho1 hacc';have hol':(out'.map str).length=out'.length:=zLm _;rw[<-hn1] at hR ho1 hE;refine gac ?_;refine oC rfl (λhn=>?_) (λhn=>?_);have hn0:n=0:=by have:=zt hn;omega
  rw[if_pos hn0] at ho1 hE;subst ho1;refine gaq ?_;refine oP (pM (lv:=v') rfl) rfl ?_;refine gaa ?_;refine oP (xR (el':=str l[i]) (cs:=[str l[i]]) rfl rfl zo (qa5 _ _ _ hlt) rfl rfl) rfl ?_;refine gad ?_;refine zQ0 ?_;refine oS (S.acc rfl hacc' rfl (by simp;rfl) rfl (by simp;omega) λv2 H2 hacc2=>?_) rfl;refine oP (pA (lv:=v2) rfl) rfl ?_;refine gac ?_;exact⟨_,_,_,by omega,⟨i+1,f,out'++[l[i]],v2,by omega,rfl,rfl,by rw[zMa];exact hacc2,by omega,by simp;omega,by rw[zAs];exact hE⟩,⟨rfl,rfl,rfl,rfl,qao zo,trivial⟩,zhR _,hj5.trans hj2⟩;have hn0:n≠0:=by have:=zf hn;omega
  rw[if_neg hn0] at ho1 hE;obtain⟨hR1,hR2⟩:=hR hn0;have hlo:out'.length=out.length+(qa2 (qaO l) (l.drop i)).2.length:=by rw[ho1,zLa]
  refine gac ?_;exact⟨_,_,_,by omega,⟨i+n,f,out',v',by omega,rfl,rfl,hacc',by omega,by omega,by rw[ho1,zAs];exact hE⟩,⟨rfl,rfl,rfl,rfl,qao zo,trivial⟩,zhR _,hj5.trans hj2⟩
 have hi':i=l.length:=by have:=zf hc;omega
 subst hi';rw[drop_length,qtq,zLz] at hE;subst hE;refine qag.sub (d:=9) (v:=v) rfl hacc.sub ?_;refine cW zhn ?_;refine gab ?_;exact qac (hj2.trans hj1) (rC (rT (v:=.list _) rfl zsr) rN) rfl
end
open Asm (qbs qbs.mk qbG qcl)
section
variable{B0:Nat}{w0:World}
theorem joinS_spec(sep:List UInt8)(ws:List (List UInt8))(hn:ws.length<=1000000000)(hl:(Go.Lib.join ws sep).length<=1000000000):LCalls (KC B0 w0) 83 [.list (ws.map str),str sep] [] (Ret (str (Go.Lib.join ws sep))):=Asm.joinS_spec sep ws hn hl
theorem qrp(hG:GW B0 w0)(s:List UInt8)(hs:s.length<=1000000):LCalls (KC B0 w0) 84 [str s] [] (Ret (.list ((qbl s).map str))):=by
 have ht:=Asm.tokens_spec hG.base hG.mx s zo;have hla:((qgr s).map qcl).length=(qgr s).length:=zLm _
 have htl:(qgr s).length<=s.length+1:=by
  have h1:=qin s;rw[<-qd0,zLm] at h1;exact h1
 rw[<-qd0];generalize qgr s=l at ht hla htl;refine zcI Tryz.func84 rfl (n:=20) rfl rfl rfl ?_;refine gap ?_;refine oS (sF [_] rfl ht ?_) rfl;refine gaa ?_
 refine oL (λk ls H=>∃ (v:LV) (i:Nat),i<=l.length/\k=l.length-i/\ls=[(3,v),(7,.list (l.map qcl)),(8,int .i64 l.length),(9,int .i64 (i:Nat))]/\Acc 1 v (((l.take i).map (·.1)).map str) H [])
  ⟨_,_,_,⟨qab,0,zero_le _,rfl,rfl,by simpa using Acc.nil⟩,⟨rfl,rfl,qao zo,rfl,trivial⟩,zhR _⟩ ?_
 rintro k ls H ⟨v,i,hi,rfl,rfl,hacc⟩ j hj;refine gai ?_;refine oC rfl (λhc=>?_) (λhc=>?_);have hlt:i<l.length:=by have:=zt hc;omega
 refine zQ18 ?_;refine oS (sA λb5=>?_) rfl;refine gab ?_;refine zQ46 ?_;refine zQ0 ?_;refine oS (S.acc1 rfl hacc rfl (by simp;rfl) rfl (by simp;omega) λv' H' hacc'=>?_) rfl;refine zQ19 ?_;refine gar ?_
 exact⟨_,_,_,by omega,⟨v',i+1,by omega,rfl,rfl,by
  rw[take_succ_eq_append_getElem hlt,zMa,zMa]
  exact hacc'⟩,⟨rfl,rfl,rfl,qao zo,trivial⟩,zhD zhr,hj⟩
 have hi':i=l.length:=by have:=zf hc;omega
 subst hi';rw[take_length] at hacc;refine qag.sub (d:=3) (v:=v) rfl hacc.sub ?_;refine cW zhn ?_;refine gab ?_;exact qac hj (rC (rT (v:=.list _) rfl zsr) rN) rfl
end
theorem qtO{l:List Wd}(h:tot l<=1000000):Small l:=⟨by have:=ql2 l;omega,λw hw=>by have:=qrI hw;omega⟩
section
variable{B0:Nat}{w0:World}
theorem optimize_spec(hG:GW B0 w0)(s:List UInt8)(hs:s.length<=1000000):LCalls (KC B0 w0) 38 [str s] [] (Ret (.tuple [str (qcD s).1,int .i64 (qcD s).2])):=by
 refine zcI Tryz.func38 rfl (n:=21) rfl rfl rfl ?_;refine gab ?_;refine oC rfl (λh1=>?_) (λh1=>?_);have hlt:400000<s.length:=by have:=zt h1;omega
 have hO:qcD s=([],6):=by unfold qcD;rw[if_pos hlt]
 refine gao ?_;exact qac rfl (rC (zrt rfl) (zra rfl)) (by rw[hO];rfl);have hlt:¬ 400000<s.length:=by have:=zf h1;omega
 have hO:qcD s=(Go.Lib.join (optP (qbl s)) [32],0):=by unfold qcD;rw[if_neg hlt]
 have ht:=qhm s;have hc:=qis s;refine gac ?_;refine oS (sF [_] rfl (qrp hG s hs) ?_) rfl;refine gad ?_
 refine oL (λk ls H=>∃ l:List Wd,k=l.length/\ls=[(4,.list (l.map str))]/\H=[]/\tot l<=400001/\(∀ w∈l,qbx w)/\optP (qbl s)=optP l)
  ⟨_,_,_,⟨_,rfl,rfl,rfl,by omega,hc,rfl⟩,⟨rfl,trivial⟩,zhR _⟩ ?_
 rintro k ls H ⟨l,rfl,rfl,rfl,htl,hcl,hE⟩ j hj;have h1:=qrG hG l (qtO zo);have h2:=qtK l;have hcl2:=qq0 hcl;have hjt:=qgi l;have hjt2:=qgi (qed l);have hln:=ql2 l;have hln2:=ql2 (qed l);have hor:=qlN l;have j1:=joinS_spec (B0:=B0) (w0:=w0) [32] l zo zo;have j2:=joinS_spec (B0:=B0) (w0:=w0) [32] (qed l) zo zo;refine gac ?_;refine oS (sF [_] rfl h1 ?_) rfl;refine gab ?_;refine oS (sF [_,_] rfl j2 ?_) rfl;refine gaa ?_;refine oS (sF [_,_] rfl j1 ?_) rfl;refine gaa ?_;refine oC rfl (λh3=>?_) (λh3=>?_);have he:=quq hcl2 hcl (zt h3);rw[qwh he] at hE;rw[hE] at hO;refine gac ?_;refine oS (sF [_,_] rfl j1 ?_) rfl;refine gaa ?_;exact qac hj (rC (zrt rfl) (zra rfl)) (by rw[hO];rfl);have hne:¬ qed l=l:=λh=>zf h3 (by rw[h]);rw[qtt hne] at hE;refine gab ?_;exact⟨_,_,_,by rcases hor with h|h;exact absurd h hne;exact h,⟨qed l,rfl,rfl,rfl,by omega,hcl2,hE⟩,⟨rfl,trivial⟩,zhR _,hj⟩
end
end Go.Proofs.YtkihibnffkpnkaaGreatDoor.Pp
namespace Go.Proofs.YtkihibnffkpnkaaGreatDoor.Inp
open Go.GL Go.RowKit Go.Stele
@[reducible] def u32(n:Nat):LV:=int .u32 (n:Int)
theorem swap1{x:Nat×LObj}{H:Heap}:(x::H).Perm (H++[x]):=zPc (l₁:=[x])
theorem form_value{kind:Int}{name:List UInt8}{index value:List Ex}{thn els:List Sm}(h:qbR (.mk kind name index value thn els)=true)(h7:¬ kind=7):∃ x,value=[x]:=by
 have h1:value.length=1:=by
  simp only[qbR] at h
  repeat' (split at h)
  all_goals first
   |(simp only[zDe] at h;omega)
   |cases h
   |contradiction
 cases value with
 |nil=>cases h1
 |cons x l=>
  cases l with
  |nil=>exact⟨x,rfl⟩
  |cons y l=>simp at h1
theorem form_index{name:List UInt8}{index value:List Ex}{thn els:List Sm}(h:qbR (.mk 2 name index value thn els)=true):∃ x,index=[x]:=by
 have h1:index.length=1:=by
  simp only[qbR] at h;simp only[show ¬ ((2:Int)=1) by decide,if_false,if_true,zDe] at h;exact h.2.1
 cases index with
 |nil=>cases h1
 |cons x l=>
  cases l with
  |nil=>exact⟨x,rfl⟩
  |cons y l=>simp at h1
end Go.Proofs.YtkihibnffkpnkaaGreatDoor.Inp
namespace Go.Proofs.YtkihibnffkpnkaaGreatDoor.Chk
open Go.GL Go.RowKit Go.Stele
theorem qky{kind:Int}{name:List UInt8}{index value:List Ex}{thn els:List Sm}(h:qbR (.mk kind name index value thn els)=true)(h2:¬ kind=2):index=[]:=by
 have h1:index.length=0:=by
  simp only[qbR] at h
  repeat' (split at h)
  all_goals first
   |(simp only[zDe] at h;omega)
   |cases h
   |contradiction
 exact List.length_eq_zero_iff.1 h1
theorem qfL{kind:Int}{name:List UInt8}{index value:List Ex}{thn els:List Sm}(h:qbR (.mk kind name index value thn els)=true)(h3:¬ kind=3)(h4:¬ kind=4):thn=[]/\els=[]:=by
 have h1:thn.length=0/\els.length=0:=by
  simp only[qbR] at h
  repeat' (split at h)
  all_goals first
   |(simp only[zDe] at h;constructor <;> omega)
   |cases h
   |contradiction
 exact⟨List.length_eq_zero_iff.1 h1.1,List.length_eq_zero_iff.1 h1.2⟩
theorem qqq{name:List UInt8}{index value:List Ex}{thn els:List Sm}(h:qbR (.mk 7 name index value thn els)=true):value=[]:=by
 have h1:value.length=0:=by
  simp only[qbR] at h
  repeat' (split at h)
  all_goals first
   |(simp only[zDe] at h;omega)
   |cases h
   |contradiction
 exact List.length_eq_zero_iff.1 h1
attribute [local irreducible] LOps qag qae LCalls Go.GL.Pure qax qam qad LQ LAny qaJ qan LS
section
variable{B0:Nat}{w0:World}
def qyA(B0:Nat)(w0:World)(k:KB)(c:CEnv)(n:Nat):Prop:=∀ (x:Sm) (d:Nat),ndS x<=n->d<=200000000->LCalls (KC B0 w0) 204 [ptr k.cb 0,encS x] (ckH k d) (qh7 (errS c x) (iv (qkH c x)) (ckH k (max d (depS c x))))
def qxD(B0:Nat)(w0:World)(k:KB)(c:CEnv)(n:Nat):Prop:=∀ (l:List Sm) (d:Nat),ndSs l<=n->d<=200000000->LCalls (KC B0 w0) 176 [ptr k.cb 0,.list (l.map encS)] (ckH k d) (qh7 (qb0 c l) (iv (qbM c l)) (ckH k (max d (qck c l))))
theorem qeC{k:KB}{c:CEnv}{B D:Nat}(hB:KnB B D c.funcs)(hD8:D<=100000000){n:Nat}(hn6:n<=2000000)(ih:qyA B0 w0 k c n):qxD B0 w0 k c n:=by
 intro l d hnd hd;have hal:=qfb l;generalize hN:qbM c l=N;generalize hDD:max d (qck c l)=DD;refine zcI Tryz.func176 rfl (n:=21) rfl rfl rfl ?_;refine gac ?_
 refine oL (λkk ls H'=>∃ (pre l1:List Sm) (m d1:Nat),l=pre++l1/\kk=l1.length/\ls=[(0,ptr k.cb 0),(5,iv m),(8,.list (l.map encS)),(9,int .i64 ((l.map encS).length:Int)),(10,iv pre.length)]/\H'=ckH k d1/\d1<=200000000/\qb0 c l1=qb0 c l/\max m (qbM c l1)=N/\max d1 (qck c l1)=DD)
  ⟨l.length,_,_,⟨[],l,0,d,rfl,rfl,rfl,rfl,hd,rfl,by omega,hDD⟩,⟨rfl,rfl,rfl,rfl,rfl,trivial⟩,zhR _⟩ ?_
 rintro kk ls H' ⟨pre,l1,m,d1,hLe,rfl,rfl,rfl,hd1,hE,hM,hD1⟩ j hj
 have hb2:pre.length<=2000000:=by
  have:=congrArg List.length hLe;rw[zLa] at this;omega
 refine gai ?_;refine oC rfl (λhc=>?_) (λhc=>?_);have hlen:=zt hc;rw[zLm,hLe,zLa] at hlen
 obtain⟨a,l2,rfl⟩:∃ a l2,l1=a::l2:=by
  cases l1 with
  |nil=>simp at hlen
  |cons a l2=>exact⟨a,l2,rfl⟩
 have ham:ndS a<=n:=by
  have h1:∀ (p:List Sm) (x:Sm) (r:List Sm),ndS x<=ndSs (p++x::r):=λp=>by
   induction p with
   |nil=>intro x r;show ndS x<=ndSs (x::r);rw[ndSs];omega
   |cons y p ih2=>intro x r;show ndS x<=ndSs (y::(p++x::r));rw[ndSs];have:=ih2 x r;omega
  have:=h1 pre a l2;rw[<-hLe] at this;omega
 rw[qb0] at hE;rw[qbM] at hM;rw[qck] at hD1;have hda:=qrM B D c hB a;refine gaj ?_;refine oP (xR (el':=encS a) (cs:=[_,_,_,_,_,_]) rfl rfl zo (by rw[hLe];exact get_mid encS pre a l2) rfl rfl) rfl ?_;refine gad ?_;refine oS (sA λb7=>?_) rfl;refine gab ?_;refine oS (sK [_,_] rfl (Inp.swap1) (ih a d1 ham hd1) (λh0=>?_) (λnm h0 e' he'=>?_)) rfl;rw[h0] at hE;refine oP (Pure.max2e m (qkH c a) rfl rfl rfl rfl) rfl ?_;refine gac ?_;exact⟨l2.length,_,_,lt_succ_self _,⟨pre++[a],l2,max m (qkH c a),max d1 (depS c a),by rw[hLe];simp,rfl,rfl,rfl,by omega,hE,by omega,by omega⟩,⟨rfl,rfl,rfl,rfl,qao (by simp),trivial⟩,qcY,hj⟩;refine gae ?_;exact panK (he'.trans hj) (by rw[<-hE];unfold orE;rw[if_pos h0]) h0;have hlen:=zf hc;rw[zLm,hLe,zLa] at hlen
 obtain rfl:l1=[]:=by
  cases l1 with
  |nil=>rfl
  |cons a l2=>simp at hlen;omega
 rw[qbM] at hM;rw[qck] at hD1;have e1:m=N:=by omega
 have e2:d1=DD:=by omega
 subst e1 e2;refine gac ?_;exact retK hj (zra rfl) (hE.symm.trans rfl) rfl zhr
theorem qhD{k:KB}{c:CEnv}(hk:KBok k c){B D:Nat}(hB:KnB B D c.funcs)(hB8:B<=50000000)(hD8:D<=100000000):∀ n:Nat,n<=2000000->qyA B0 w0 k c n
 |0,_=>λx d h _=>by have:=qon x;omega
 |n+1,hn6=>by
  have ihs:=qeC (B0:=B0) (w0:=w0) hB hD8 (n:=n) zo (qhD hk hB hB8 hD8 n zo);have hX:qx2 B0 w0 k c n:=qd6 hk hB zo hD8 n zo;intro x d hnd hd;obtain⟨kind,name,index,value,thn,els⟩:=x;rw[ndS] at hnd;generalize hI:errS c (Sm.mk kind name index value thn els)=E;rw[errS] at hI;generalize hN:qkH c (Sm.mk kind name index value thn els)=N;rw[qkH] at hN;generalize hDD:max d (depS c (Sm.mk kind name index value thn els))=DD;rw[depS] at hDD;have hfs:=qoe (B0:=B0) (w0:=w0) (Sm.mk kind name index value thn els);rw[qcJ] at hfs ⊢;refine zcI Tryz.func204 rfl (n:=65) rfl rfl rfl ?_;refine gah ?_;refine oS (sB rfl λb3=>?_) rfl;refine gaa ?_;refine cM (A:=Unit) (λ_=>[(0,ptr k.cb 0),(3,ptr b3 0)]) (λ_=>(b3,.cells 193 [int .i64 kind,str name,.list (index.map encE),.list (value.map encE),.list (thn.map encS),.list (els.map encS)])::ckH k d) (λ_=>qbR (Sm.mk kind name index value thn els)=true) ?_ (λ_ hform j hj=>?_);refine cD (m:=7) rfl [(b3,.cells 193 [int .i64 kind,str name,.list (index.map encE),.list (value.map encE),.list (thn.map encS),.list (els.map encS)]),(k.cb,.cells 126 [.atom (.map (some k.gm)),.atom (.map (some k.vm)),.atom (.map (some k.am)),.atom (.map (some k.fm)),str k.name,.atom (.map (some k.om)),int .i64 (d:Int)])] ?_;refine aT 0 rfl rfl (pG (cs':=[_,_,_,_,_,_]) rfl zm0 rfl rfl) ?_;refine zQ35 ?_;refine aT 3 rfl rfl (pN rfl) ?_;refine aT 4 rfl rfl (pF rfl) ?_;refine aT 5 rfl rfl (pL (c:=.atom _) rfl zm1 rfl) ?_;refine aL ?_ (zhP pH zhp);refine lO 1 (lS (H1:=[]) rfl (.inl rfl) rfl zpr (zhP pH zhp) (sF [_] rfl hfs ?_))
  cases hf:qbR (Sm.mk kind name index value thn els) with
  |true=>
   refine lO 6 (lS (H1:=[]) rfl (.inl rfl) rfl zpr (zhP pH zhp) (qae.callK [_,_,_] rfl (qav true k.name 3 zDd) (λ_=>?_) (λnm h=>absurd rfl h)));refine lD zk ?_;refine qN ?_
   exact⟨(),rfl,⟨rfl,rfl,trivial⟩,zhR _,rfl⟩
  |false=>
   rw[hf,if_pos rfl] at hI;refine lO 6 (lS (H1:=[]) rfl (.inl rfl) rfl zpr (zhP pH zhp) (qae.callK [_,_,_] rfl (qav false k.name 3 zDd) (λh=>absurd h zDd) (λnm _ e' he'=>?_)));refine gak ?_;exact panK (he'.trans rfl) (by rw[<-hI];rfl) zDd
  rw[hform,if_neg zDd] at hI;refine gac ?_
  by_cases h7:kind=7
  subst h7;obtain rfl:=qqq hform;obtain rfl:=qky hform zDd;obtain⟨rfl,rfl⟩:=qfL hform zDd zDd;refine oC rfl (λ_=>?_) (λhc=>by cases hc);refine gao ?_
  have e2:d=DD:=by
   rw[<-hDD];simp only[qbZ,qck];omega
  subst e2;exact retK hj (zra rfl) (by rw[<-hI];rfl) (by rw[<-hN];rfl) (zhD zhr);refine oC rfl (λhc=>absurd (zt hc) h7) (λ_=>?_);obtain⟨x0,rfl⟩:=Inp.form_value hform h7;rw[if_neg h7] at hN
  have hnx:ndE x0<=n:=by
   rw[ndEs,ndEs] at hnd;omega
  have hdx:=qov B D c hB x0;have hnx0:=qf8 B D c hB x0
  have hEv:∀ E2,orE (qbr c [x0]) E2=orE (errE c x0) E2:=λE2=>by
   rw[qbr,qbr];unfold orE
   by_cases h:errE c x0≠0
   rw[if_pos h,if_pos h];rw[if_neg h,if_neg zDd,if_neg h]
  rw[hEv] at hI;rw[show([x0]:List Ex).headD default=x0 from rfl] at hN
  have hDx:qbZ c [x0]=depE c x0:=by
   rw[qbZ,qbZ];omega
  rw[hDx] at hDD;refine gab ?_;refine oP (xR (el':=encE x0) (cs:=[_,_,_,_]) rfl rfl zo rfl rfl rfl) rfl ?_;refine gad ?_;refine oS (sK [_,_] rfl (Inp.swap1) (hX x0 d hnx hd) (λh0=>?_) (λnm h0 e' he'=>?_)) rfl;rotate_left;refine gak ?_;exact panK (he'.trans hj) (by rw[<-hI];unfold orE;rw[if_pos h0]) h0;rw[h0,show ∀ E2,orE 0 E2=E2 from λE2=>rfl] at hI;generalize hd1:max d (depE c x0)=d1;refine LOps.perm (Inp.swap1 (H:=ckH k d1)).symm ?_;refine gac ?_
  by_cases hk1:kind=1
  subst hk1;obtain rfl:=qky hform zDd;obtain⟨rfl,rfl⟩:=qfL hform zDd zDd
  have hI4:qcd c name=E:=by
   rw[<-hI];simp only[qbr,qb0];unfold orE
   by_cases ha:qcd c name=0 <;> simp[ha]
  refine oC rfl (λ_=>?_) (λhc=>by cases hc);refine gac ?_;refine oS (sK [_,_] rfl (Inp.swap1) (qdc hk d1 name) (λh1=>?_) (λnm h1 e' he'=>?_)) rfl;rw[hI4] at h1;refine gac ?_;refine oP (Pure.max2e 2 (qbb c x0) rfl rfl rfl rfl) rfl ?_;refine gaf ?_
  have e2:d1=DD:=by
   rw[<-hDD,<-hd1];simp only[qbZ,qck];omega
  subst e2;refine retK hj (zra rfl) h1 ?_ qcY;rw[<-hN];simp only[qbM];exact qao (by simp);refine gae ?_;exact panK (he'.trans hj) hI4.symm h1;refine oC rfl (λhc=>absurd (zt hc) hk1) (λ_=>?_);rw[if_neg hk1] at hI;refine gan ?_
  by_cases hk2:kind=2
  ·subst hk2;obtain⟨i0,rfl⟩:=Inp.form_index hform;obtain⟨rfl,rfl⟩:=qfL hform zDd zDd
   have hni:ndE i0<=n:=by
    rw[ndEs,ndEs,ndEs,ndEs] at hnd;omega
   have hdi:=qov B D c hB i0;have hni0:=qf8 B D c hB i0
   have hI4:orE (errE c i0) (qeS c name)=E:=by
    rw[<-hI];simp only[qbr,qb0];unfold orE
    by_cases ha:errE c i0=0 <;> by_cases hb:qeS c name=0 <;> simp[ha,hb]
   refine oC rfl (λ_=>?_) (λhc=>by cases hc);refine gab ?_;refine oP (xR (el':=encE i0) (cs:=[_,_,_,_]) rfl rfl zo rfl rfl rfl) rfl ?_;refine gad ?_;refine oS (sK [_,_] rfl (Inp.swap1) (hX i0 d1 hni zo) (λh1=>?_) (λnm h1 e' he'=>?_)) rfl;rotate_left;refine gae ?_;exact panK (he'.trans hj) (by rw[<-hI4];unfold orE;rw[if_pos h1]) h1;rw[h1] at hI4;refine LOps.perm (Inp.swap1 (H:=ckH k (max d1 (depE c i0)))).symm ?_;refine gac ?_;refine oS (sK [_,_] rfl (Inp.swap1) (qeN hk (max d1 (depE c i0)) name) (λh2=>?_) (λnm h2 e' he'=>?_)) rfl;refine gac ?_;refine oP (Pure.max2e (qbb c x0) (2+qbb c i0) rfl rfl rfl zo) rfl ?_;refine gaa ?_
   have e2:max d1 (depE c i0)=DD:=by
    rw[<-hDD,<-hd1];simp only[qbZ,qck];omega
   rw[<-e2];exact retK hj (zra rfl) (hI4.symm.trans h2) (by rw[<-hN];rfl) qcY;refine gae ?_;exact panK (he'.trans hj) hI4.symm h2
  refine oC rfl (λhc=>absurd (zt hc) hk2) (λ_=>?_);obtain rfl:=qky hform hk2;rw[if_neg hk2] at hI hN;refine gan ?_
  by_cases hk5:kind=5
  subst hk5;obtain⟨rfl,rfl⟩:=qfL hform zDd zDd;refine oC rfl (λ_=>?_) (λhc=>by cases hc);refine gac ?_
  have e2:d1=DD:=by
   rw[<-hDD,<-hd1];simp only[qbZ,qck];omega
  subst e2;exact retK hj (zra rfl) (by rw[<-hI];rfl) (by rw[<-hN];rfl) (zhD zhr);refine oC rfl (λhc=>absurd (zt hc) hk5) (λ_=>?_);rw[if_neg hk5] at hN
  have hI5:orE (qb0 c thn) (qb0 c els)=E:=by
   rw[<-hI];simp only[qbr];rfl
  refine gan ?_
  by_cases hk3:kind=3
  ·refine oC rfl (λ_=>?_) (λhc=>absurd hk3 (zf hc));refine gaa ?_;refine oC rfl (λ_=>?_) (λhc=>absurd hk3 (zf hc));refine zQ13 ?_;refine aL ?_ zhp;refine lO 4 (lS (H1:=ckH k d1) rfl (.inl rfl) rfl Inp.swap1 zhr (qae.callK [_,_] rfl (ihs thn d1 (by rw[ndEs,ndEs,ndEs] at hnd;omega) zo) (λh1=>?_) (λnm h1 e' he'=>?_)));rotate_left;refine gae ?_;exact panK (he'.trans hj) (by rw[<-hI5];unfold orE;rw[if_pos h1]) h1;rw[h1] at hI5;have hdt:=qfc B D c hB thn;refine lO 8 (lS (H1:=ckH k (max d1 (qck c thn))) rfl (.inl rfl) rfl zpr zhr (qae.callK [_,_] rfl (ihs els (max d1 (qck c thn)) (by rw[ndEs,ndEs,ndEs] at hnd;omega) zo) (λh2=>?_) (λnm h2 e' he'=>?_)));rotate_left;refine gae ?_;exact panK (he'.trans hj) hI5.symm h2;refine zQ21 ?_
   have e2:max (max d1 (qck c thn)) (qck c els)=DD:=by
    rw[<-hDD,<-hd1];simp only[qbZ];omega
   rw[<-e2];exact retK hj (zra rfl) (hI5.symm.trans h2) (by rw[<-hN];rfl) qcY
  refine oC rfl (λhc=>absurd (zt hc) hk3) (λ_=>?_);refine gan ?_
  by_cases hk4:kind=4
  ·refine oC rfl (λ_=>?_) (λhc=>absurd hk4 (zf hc));refine zQ13 ?_;refine aL ?_ zhp;refine lO 4 (lS (H1:=ckH k d1) rfl (.inl rfl) rfl Inp.swap1 zhr (qae.callK [_,_] rfl (ihs thn d1 (by rw[ndEs,ndEs,ndEs] at hnd;omega) zo) (λh1=>?_) (λnm h1 e' he'=>?_)));rotate_left;refine gae ?_;exact panK (he'.trans hj) (by rw[<-hI5];unfold orE;rw[if_pos h1]) h1;rw[h1] at hI5;have hdt:=qfc B D c hB thn;refine lO 8 (lS (H1:=ckH k (max d1 (qck c thn))) rfl (.inl rfl) rfl zpr zhr (qae.callK [_,_] rfl (ihs els (max d1 (qck c thn)) (by rw[ndEs,ndEs,ndEs] at hnd;omega) zo) (λh2=>?_) (λnm h2 e' he'=>?_)));rotate_left;refine gae ?_;exact panK (he'.trans hj) hI5.symm h2;refine zQ21 ?_
   have e2:max (max d1 (qck c thn)) (qck c els)=DD:=by
    rw[<-hDD,<-hd1];simp only[qbZ];omega
   rw[<-e2];exact retK hj (zra rfl) (hI5.symm.trans h2) (by rw[<-hN];rfl) qcY
  refine oC rfl (λhc=>absurd (zt hc) hk4) (λ_=>?_);obtain⟨rfl,rfl⟩:=qfL hform hk3 hk4;refine gac ?_;refine oP (Pure.max2e 2 (qbb c x0) rfl rfl rfl rfl) rfl ?_;refine gaf ?_
  have e2:d1=DD:=by
   rw[<-hDD,<-hd1];simp only[qbZ,qck];omega
  subst e2;refine retK hj (zra rfl) (by rw[<-hI5];rfl) ?_ (zhD zhr);rw[<-hN];simp only[qbM];exact qao (by simp)
end
theorem qqN{X A L:Heap}(h:HSub X L):HSub X (A++L):=
 let ⟨G,hG⟩:=h
 ⟨A++G,(List.Perm.append_left A hG).trans (by
  rw[<-zAs,<-zAs]
  exact zPc.append_right G)⟩
def pgH(k:KB)(o:Value)(d:Nat):Heap:=[(k.cb,.cells 126 [.atom (.map (some k.gm)),.atom (.map (some k.vm)),.atom (.map (some k.am)),.atom (.map (some k.fm)),str k.name,.atom o,int .i64 (d:Int)]),(k.gm,.map (kvs k.G) k.g1),(k.vm,.map (kvs k.V) k.g2),(k.am,.map (kvs k.A) k.g3),(k.fm,.map (kvs k.F) k.g4)]
def qkG(err:Int)(P:Heap->Prop)(r:LRes)(H:Heap):Prop:=(err=0/\r=.ret (.tuple [])/\P H)∨(err≠0/\(∃ nm,r=.panic (vio nm err))/\H=[])
section
variable{C:Ctx}{n:Nat}{e:Env}{H:Heap}{dst:Option Nat}{ty:TypeId}{pos:String}{aft:Array Edge}{g:Option (Nat×Bool)}{K:LV->Heap->Prop}{X:List PanicEntry->Heap->Prop}
theorem S.callE{err:Int}{P:Heap->Prop}{H1 F:Heap}{f:FuncId} [TEnter C.P f](args:List Operand){ats:Array TypeId}{av:List LV}(has:args.map e.ev=av)(hp:H.Perm (H1++F))
  (hc:LCalls C f av H1 (qkG err P)) (hk:∀ H',err=0->P H'->K (.tuple []) (H'++F)) (hx:∀ nm,err≠0->X (vio nm err) F):qae C ⟨dst,.call { callee:=.value (.func f),args:=args.toArray,argTypes:=ats },ty,pos,aft,g⟩ e H K X:=by
 refine S.callH args has hp hc ?_ ?_;rintro v H2 (⟨h1,h2,h3⟩|⟨_,⟨nm,h2⟩,_⟩);cases h2;exact hk _ h1 h3;cases h2;rintro ch H2 (⟨_,h2,_⟩|⟨h1,⟨nm,h2⟩,rfl⟩);cases h2;cases h2;exact hx nm h1
theorem qxu{err:Int}{P:Heap->Prop}{H':Heap}{rs:List ResultVar}{vs:List LV}(hd:e.ds=[])(h:qbW C n e H rs vs)(he:err=0)(hv:qbI vs=.tuple [])(hH:HSub H' H)(hP:P H'):qad C n rs (qkG err P) .normal e H:=
 rO hd h hH (.inl ⟨he,by rw[hv],hP⟩)
theorem panE{err er:Int}{P:Heap->Prop}{rs:List ResultVar}{nm:List UInt8}(hd:e.ds=[])(he:err=er)(h0:er≠0):qad C n rs (qkG err P) (.panic (vio nm er)) e H:=
 qad.panic hd zhn (.inr ⟨by rw[he];exact h0,⟨nm,by rw[he]⟩,rfl⟩)
end
def newE(known:List Nm)(s:Nm):Int:=if isNm s=false then 7 else if s∈known then 8 else 0
theorem qd5(known:List Nm)(s:Nm)(l:List Nm):qch known (s::l)=orE (newE known s) (qch (s::known) l):=by
 rw[qch];unfold newE;split;rfl;split;rfl;rfl
theorem qhR:∀ (l k k':List Nm),(∀ s,s∈k ↔ s∈k')->qch k l=qch k' l
 |[],_,_,_=>rfl
 |s::l,k,k',h=>by
  have h2:newE k s=newE k' s:=by
   unfold newE;simp only[h s]
  rw[qd5,qd5,h2,qhR l (s::k) (s::k') (λx=>by simp[h x])]
section
variable{B0:Nat}{w0:World}
theorem qgA{k:KB}{o:Value}{d:Nat}{known:List Nm}(hG:qdO k.G known)(s:Nm):LCalls (KC B0 w0) 132 [ptr k.cb 0,str s] (pgH k o d)
  (qkG (newE known s) (λH=>∃ g1,H=pgH { k with G:=GL.kvPut k.G s (bool true),g1:=g1 } o d)):=by
 generalize hI:newE known s=E;unfold newE at hI;refine zcI Tryz.func132 rfl (n:=22) rfl rfl rfl ?_;refine gag ?_;refine oS (sF [_] rfl (qe6 s) ?_) rfl;refine gaa ?_
 cases hn:isNm s with
 |false=>
  rw[if_pos hn] at hI;refine oS (sK (H1:=[]) (F:=pgH k o d) [_,_,_] rfl zpr (qav false s 7 zDd) (λh=>absurd h zDd) (λnm _ e' he'=>?_)) rfl;refine gak ?_
  exact panE (he'.trans rfl) hI.symm zDd
 |true=>
  rw[if_neg (by rw[hn];decide)] at hI;refine oS (sK (H1:=[]) (F:=pgH k o d) [_,_,_] rfl zpr (qav true s 7 zDd) (λ_=>?_) (λnm h=>absurd rfl h)) rfl;refine gac ?_;refine oP (Pure.setHas rfl rfl zm1 hG) rfl ?_;refine oB 13 rfl (λh1=>?_) (λh1=>?_);rw[if_pos (zt h1)] at hI;refine gad ?_;refine oS (sK (H1:=[]) (F:=pgH k o d) [_,_,_] rfl zpr (qav false s 8 zDd) (λh=>absurd h zDd) (λnm _ e' he'=>?_)) rfl;refine gak ?_;exact panE (he'.trans rfl) hI.symm zDd;rw[if_neg (zf h1)] at hI;refine gad ?_;refine oS (sK (H1:=[]) (F:=pgH k o d) [_,_,_] rfl zpr (qav true s 8 zDd) (λ_=>?_) (λnm h=>absurd rfl h)) rfl;refine gac ?_;refine oS (S.kvSet (k:=s) (lv:=bool true) rfl rfl rfl zp1 λg1=>?_) rfl;refine gaf ?_;exact qxu rfl rN hI.symm rfl ⟨[],by rw[zLz];exact List.Perm.swap _ _ _⟩ ⟨g1,rfl⟩
theorem qmb{vars arrays later:List Nm}{known:List FSum}{k:KB}{o:Value}{d:Nat}(f:FnD)(hG:qdO k.G (vars++arrays++later))(hV:qdO k.V vars)(hA:qdO k.A arrays)(hF:∀ n,GL.kvGet k.F n=(known.find? λg=>decide (g.name=n)).map qjD)(hnew:f.name ∉ known.map (·.name))
  {B D:Nat} (hB:KnB B D known) (hB8:B<=50000000) (hD8:D<=100000000) (hnd:ndF f<=2000000) :
  LCalls (KC B0 w0) 134 [ptr k.cb 0,qa7 f] (pgH k o d)
  (qkG (errF vars arrays later known f) (λH=>∃ nm o' d' F' g4,(∀ n,GL.kvGet F' n=((known++[sumF vars arrays later known f]).find? λg=>decide (g.name=n)).map qjD)/\H=pgH { k with name:=nm,F:=F',g4:=g4 } o' d')):=by
 have hsm:=qs0 hnd;have hp6:f.params.length<=2000000:=hsm.params;have hl6:f.locals.length<=2000000:=hsm.locals
 have hbn:ndSs f.body<=2000000:=by
  unfold ndF at hnd;omega
 generalize hI:errF vars arrays later known f=E;unfold errF at hI;refine zcI Tryz.func134 rfl (n:=82) rfl rfl rfl ?_;refine gah ?_;refine oS (sB rfl λb3=>?_) rfl;refine gac ?_;refine oS (S.kvNew λom=>?_) rfl;refine gab ?_;refine oS (sL (es:=[qea f.params,qea f.locals]) [_,_] rfl (eC rfl rfl (eC rfl rfl eN)) rfl rfl rfl ?_) rfl
 refine oS (S.callH (H1:=[]) (F:=_) [_] rfl zpr (qjP [f.params,f.locals] (by simp) (by
  intro l hl;rcases zMi.1 hl with rfl|hl;exact hp6;rw[List.mem_singleton.1 hl]
  exact hl6)) ?_ (by rintro ch H' ⟨v,h,_⟩;cases h)) rfl
 rintro v2 Ha2 ⟨_,h,hacc2⟩;cases h;have hfl:[f.params,f.locals].flatten=f.params++f.locals:=by simp
 rw[hfl] at hacc2;refine LOps.sub 24 rfl hacc2.sub ?_;refine LOps.weak (H':=(b3,.cells 110 [str f.name,.list (f.params.map str),.list (f.locals.map str),.list (f.body.map encS)])::ckH { k with name:=f.name,om:=om,O:=[],g5:=0 } 1) ?_ ?_
 ·refine qqN ?_
  repeat first
   |exact HSub.nil _
   |refine zhP zb1 ?_
 refine gaa ?_
 refine oL (λkk ls H'=>∃ (pre l1:List Nm) (OO:KV) (gg:Nat),f.params++f.locals=pre++l1/\kk=l1.length/\ls=[(0,ptr k.cb 0),(3,ptr b3 0),(24,.list ((f.params++f.locals).map str)),(25,int .i64 (((f.params++f.locals).map str).length:Int)),(26,iv pre.length)] /\
   H'=(b3,.cells 110 [str f.name,.list (f.params.map str),.list (f.locals.map str),.list (f.body.map encS)])::ckH { k with name:=f.name,om:=om,O:=OO,g5:=gg } 1/\qdO OO pre/\orE (qch (pre.reverse++(vars++arrays++later)) l1) (qb0 (envF vars arrays later known f) f.body)=E)
  ⟨_,_,_,⟨[],f.params++f.locals,[],0,rfl,rfl,rfl,rfl,qdO.nil,hI⟩,⟨rfl,rfl,rfl,rfl,rfl,trivial⟩,zhR _⟩ ?_
 rintro kk ls H' ⟨pre,l1,OO,gg,hLe,rfl,rfl,rfl,hO,hE⟩ j hj
 have hb2:pre.length<=4000000:=by
  have:=congrArg List.length hLe;rw[zLa,zLa] at this;omega
 refine gai ?_;refine oC rfl (λhc=>?_) (λhc=>?_)
 ·have hlen:=zt hc;rw[zLm,hLe,zLa] at hlen
  obtain⟨s,l2,rfl⟩:∃ a l2,l1=a::l2:=by
   cases l1 with
   |nil=>simp at hlen
   |cons a l2=>exact⟨a,l2,rfl⟩
  rw[qd5] at hE;generalize hEn:newE (pre.reverse++(vars++arrays++later)) s=En at hE;unfold newE at hEn;refine gaj ?_;refine oP (xR (el':=str s) (cs:=[str s]) rfl rfl zo (by rw[hLe];exact get_mid str pre s l2) rfl rfl) rfl ?_;refine gab ?_;refine oS (sF [_] rfl (qe6 s) ?_) rfl;refine gaa ?_
  cases hn:isNm s with
  |false=>
   rw[if_pos hn] at hEn;refine oS (sK (H1:=[]) (F:=_) [_,_,_] rfl zpr (qav false s 7 zDd) (λh=>absurd h zDd) (λnm _ e' he'=>?_)) rfl;refine gae ?_
   exact panE (he'.trans hj) (by rw[<-hE,<-hEn];rfl) zDd
  |true=>
   rw[if_neg (by rw[hn];decide)] at hEn;refine oS (sK (H1:=[]) (F:=_) [_,_,_] rfl zpr (qav true s 7 zDd) (λ_=>?_) (λnm h=>absurd rfl h)) rfl;refine gab ?_;refine oP (Pure.setHas rfl rfl zm2 hG) rfl ?_;refine oB 39 rfl (λh1=>?_) (λh1=>?_);have hin:s∈pre.reverse++(vars++arrays++later):=mem_append_right _ (zt h1);rw[if_pos hin] at hEn;refine gad ?_;refine oS (sK (H1:=[]) (F:=_) [_,_,_] rfl zpr (qav false s 8 zDd) (λh=>absurd h zDd) (λnm _ e' he'=>?_)) rfl;refine gae ?_;exact panE (he'.trans hj) (by rw[<-hE,<-hEn];rfl) zDd;refine gad ?_;refine oP (Pure.setHas rfl rfl zm6 hO) rfl ?_;refine oB 47 rfl (λh2=>?_) (λh2=>?_);have hin:s∈pre.reverse++(vars++arrays++later):=mem_append_left _ (List.mem_reverse.2 (zt h2));rw[if_pos hin] at hEn;refine gad ?_;refine oS (sK (H1:=[]) (F:=_) [_,_,_] rfl zpr (qav false s 8 zDd) (λh=>absurd h zDd) (λnm _ e' he'=>?_)) rfl;refine gae ?_;exact panE (he'.trans hj) (by rw[<-hE,<-hEn];rfl) zDd;rw[if_neg (λh=>(List.mem_append.1 h).elim (λh=>zf h2 (List.mem_reverse.1 h)) (zf h1))] at hEn;subst hEn;refine gad ?_;refine oS (sK (H1:=[]) (F:=_) [_,_,_] rfl zpr (qav true s 8 zDd) (λ_=>?_) (λnm h=>absurd rfl h)) rfl;refine gab ?_;refine oS (S.kvSet (k:=s) (lv:=bool true) rfl rfl rfl zp6 λgg2=>?_) rfl;refine gar ?_
   exact⟨l2.length,_,_,lt_succ_self _,⟨pre++[s],l2,GL.kvPut OO s (bool true),gg2,by rw[hLe];simp,rfl,rfl,rfl,hO.add s,by
    rw[<-hE];rw[qhR l2 ((pre++[s]).reverse++(vars++arrays++later)) (s::(pre.reverse++(vars++arrays++later))) (λx=>by simp)]
    rfl⟩,⟨rfl,rfl,rfl,rfl,qao (by simp),trivial⟩,by
    repeat first
     |exact HSub.nil _
     |refine zhP zb1 ?_,hj⟩
 have hlen:=zf hc;rw[zLm,hLe,zLa] at hlen
 obtain rfl:l1=[]:=by
  cases l1 with
  |nil=>rfl
  |cons a l2=>simp at hlen;omega
 rw[zLz] at hLe;rw[<-hLe] at hO;have hE2:qb0 (envF vars arrays later known f) f.body=E:=by rw[<-hE];rfl
 have hkb:KBok { k with name:=f.name,om:=om,O:=OO,g5:=gg } (envF vars arrays later known f):=⟨hG,hV,hA,hO,hF⟩;have hss:=qeC (B0:=B0) (w0:=w0) (k:={ k with name:=f.name,om:=om,O:=OO,g5:=gg }) (c:=envF vars arrays later known f) hB hD8 (n:=2000000) (zNr _) (qhD hkb hB hB8 hD8 2000000 (zNr _)) f.body 1 hbn zDd;have hnb:=qfw B D (envF vars arrays later known f) hB f.body;have hdb:=qfc B D (envF vars arrays later known f) hB f.body;refine gab ?_;refine oS (sK [_,_] rfl (Inp.swap1) hss (λh0=>?_) (λnm h0 e' he'=>?_)) rfl;rotate_left;refine gak ?_;exact panE (he'.trans hj) hE2.symm h0;refine LOps.perm (Inp.swap1 (H:=ckH _ _)).symm ?_;refine gaf ?_;have hpl:(f.params.map str).length<=2000000:=by rw[zLm];exact hp6
 refine qag.tail 20 zk ?_;refine gau ?_;refine lP (Pure.max3e 2 (f.params.length+1) (qbM (envF vars arrays later known f) f.body) rfl rfl rfl rfl (by rw[zLm];omega) rfl) rfl ?_;refine gad ?_;refine oS (S.kvSet (k:=f.name) (lv:=.agg [int .i64 ((f.params.map str).length:Int),int .i64 (max (max 2 (f.params.length+1)) (qbM (envF vars arrays later known f) f.body):Nat),int .i64 (max 1 (qck (envF vars arrays later known f) f.body):Nat)]) rfl rfl rfl zp5 λg4=>?_) rfl;refine gaf ?_;refine qxu hj rN (hE2.symm.trans h0) rfl (H':=pgH { k with name:=f.name,F:=GL.kvPut k.F f.name (.agg [int .i64 ((f.params.map str).length:Int),int .i64 (max (max 2 (f.params.length+1)) (qbM (envF vars arrays later known f) f.body):Nat),int .i64 (max 1 (qck (envF vars arrays later known f) f.body):Nat)]),g4:=g4 } (.map (some om)) (max 1 (qck (envF vars arrays later known f) f.body))) ?hs ⟨f.name,_,_,_,g4,λn=>?kv,rfl⟩
 case hs=>
  repeat first
   |exact HSub.nil _
   |refine zhP zb1 ?_
 case kv=>
  rw[GL.kvGet_put,hF n,List.find?_append]
  by_cases h1:f.name=n
  rw[if_pos h1]
  have h2:(known.find? λg=>decide (g.name=n))=none:=by
   rw[List.find?_eq_none];intro g hg;simp only[zDe];intro h3;exact hnew (by rw[h1,<-h3];exact mem_map_of_mem hg)
  rw[h2,none_or]
  have h4:([sumF vars arrays later known f].find? λg=>decide (g.name=n))=some (sumF vars arrays later known f):=by
   rw[List.find?_cons_of_pos];exact decide_eq_true h1
  rw[h4];show some _=some (qjD _);unfold qjD sumF;rw[<-zLm (f:=str)];rw[if_neg h1]
  have h4:([sumF vars arrays later known f].find? λg=>decide (g.name=n))=none:=by
   rw[List.find?_eq_none];intro g hg;rw[List.mem_singleton.1 hg];simp only[zDe];exact h1
  rw[h4,Option.or_none]
end
def encArG(a:Nm×Int):LV:=.agg [str a.1,int .i64 a.2]
def encPrG(vars:List Nm)(arrays:List (Nm×Int))(fs:List FnD):LV:=.agg [.list (vars.map str),.list (arrays.map encArG),.list (fs.map qa7)]
theorem qe0:∀ (l known:List Nm),qch known l=0->l.Nodup/\(∀ s∈l,s ∉ known)/\∀ s∈l,isNm s=true
 |[],known,_=>⟨List.nodup_nil,λs h=>(not_mem_nil h).elim,λs h=>(not_mem_nil h).elim⟩
 |s::l,known,h=>by
  rw[qch] at h;split at h;cases h
  rename_i h1
  split at h;cases h
  rename_i h2
  obtain⟨h3,h4,h5⟩:=qe0 l _ h;refine⟨List.nodup_cons.2 ⟨λhm=>h4 s hm zMs,h3⟩,?_,?_⟩;intro x hx;rcases zMi.1 hx with rfl|hx;exact h2;exact λhk=>h4 x hx (zMo _ hk);intro x hx;rcases zMi.1 hx with rfl|hx;simpa using h1;exact h5 x hx
theorem qlm{s:Nm}(h:isNm s=true):s.length<=1000:=by
 unfold isNm at h;simp only[zBa,zDe] at h;omega
theorem qkV{a b:Int}(h:a≠0):orE a b=a:=by
 unfold orE;exact if_pos h
theorem qgS:∀ a b:List FnD,ndFs (a++b)=ndFs a+ndFs b
 |[],b=>by rw[nil_append,ndFs,Nat.zero_add]
 |x::a,b=>by rw[cons_append,ndFs,ndFs,qgS a b];omega
theorem qk1{vars arrays later:List Nm}:∀ (l:List FnD) (known:List FSum),qfM vars arrays later known l=0->∀ f∈l,∃ k,errF vars arrays later k f=0
 |[],_,_,f,h=>(not_mem_nil h).elim
 |g::l,known,h,f,hf=>by
  rw[qfM,qah] at h;rcases zMi.1 hf with rfl|hf;exact⟨known,h.1⟩;exact qk1 l _ h.2 f hf
theorem qro{vars arrays later:List Nm}{k:List FSum}{f:FnD}(h:errF vars arrays later k f=0):∀ x∈f.params++f.locals,x.length<=1000:=by
 unfold errF at h;rw[qah] at h;intro x hx;exact qlm ((qe0 _ _ h.1).2.2 x hx)
theorem qsD{l:List FSum}{m:FSum}(hn:(l.map (·.name)).Nodup)(hm:l.getLast? = some m):(l.find? λg=>decide (g.name=m.name))=some m:=by
 obtain⟨ys,rfl⟩:=List.getLast?_eq_some_iff.1 hm;rw[List.find?_append]
 have h1:(ys.find? λg=>decide (g.name=m.name))=none:=by
  rw[List.find?_eq_none];intro g hg;simp only[zDe];intro h2;rw[zMa] at hn;exact(List.nodup_append.1 hn).2.2 _ (mem_map_of_mem hg) _ (mem_map_of_mem (List.mem_singleton_self m)) h2
 rw[h1,none_or,List.find?_cons_of_pos];exact decide_eq_true rfl
theorem qjF{vars arrays later:List Nm}:∀ (l:List FnD) (known:List FSum),(qjY vars arrays later known l).map (·.name)=known.map (·.name)++l.map (·.name)
 |[],known=>by rw[qjY];simp
 |f::l,known=>by
  rw[qjY,qjF l];simp[sumF]
theorem qh3{pre l:List Nm}{s:Nm}{FR:Int}(h:qch pre (s::l)=FR)(h0:newE pre s=0):qch (pre++[s]) l=FR:=by
 rw[<-h,qd5,h0,qhR l (pre++[s]) (s::pre) (λx=>by simp[or_comm])];rfl
theorem qjA{pre l:List Nm}{s:Nm}{FR RA E:Int}(hI:orE FR RA=E)(h:qch pre (s::l)=FR)(h0:newE pre s≠0):E=newE pre s:=by
 rw[<-hI,<-h,qd5,qkV (a:=orE _ _) (by rw[qkV h0];exact h0),qkV h0]
section
variable{B0:Nat}{w0:World}
theorem qcn{k:KB}{o:Value}{d:Nat}(vars:List Nm)(arrays:List (Nm×Int))(fs:List FnD)(hk1:k.G=[])(hk2:k.V=[])(hk3:k.A=[])(hk4:k.F=[])(hv6:vars.length<=2000000)(ha6:arrays.length<=2000000)(har:∀ a∈arrays,-9223372036854775808<=a.2/\a.2<9223372036854775808)(hnd:ndFs fs<=2000000) :
  LCalls (KC B0 w0) 78 [ptr k.cb 0,encPrG vars arrays fs] (pgH k o d) (qkG (qdn vars arrays fs) (λH=>H=[])):=by
 have hf6:fs.length<=2000000:=zNt (qjb fs) hnd;generalize hI:qdn vars arrays fs=E;unfold qdn at hI;generalize hFR:qch [] (vars++arrays.map (·.1)++fs.map (·.name))=FR at hI;generalize hSZ:qha 0 (arrays.map (·.2))=SZ at hI;generalize hFS:qfM vars (arrays.map (·.1)) (fs.map (·.name)) [] fs=FS at hI;generalize hSS:qjY vars (arrays.map (·.1)) (fs.map (·.name)) [] fs=SS at hI;generalize hMN:qt2 vars fs SS=MN at hI;generalize hRA:orE SZ (orE FS MN)=RA at hI;refine zcI Tryz.func78 rfl (n:=147) rfl rfl rfl ?_;refine gah ?_;refine oS (sB rfl λb3=>?_) rfl;refine gab ?_
 refine oL (λkk ls H'=>∃ (pre l1:List Nm) (G1 V1:KV) (g1 g2:Nat),vars=pre++l1/\kk=l1.length/\ls=[(0,ptr k.cb 0),(3,ptr b3 0),(18,.list (vars.map str)),(19,int .i64 ((vars.map str).length:Int)),(20,iv pre.length)] /\
   H'=(b3,.cells 43 [.list (vars.map str),.list (arrays.map encArG),.list (fs.map qa7)])::pgH { k with G:=G1,g1:=g1,V:=V1,g2:=g2 } o d/\qdO G1 pre/\qdO V1 pre/\qch pre (l1++arrays.map (·.1)++fs.map (·.name))=FR)
  ⟨_,_,_,⟨[],vars,k.G,k.V,k.g1,k.g2,rfl,rfl,rfl,rfl,by rw[hk1];exact qdO.nil,by rw[hk2];exact qdO.nil,hFR⟩,⟨rfl,rfl,rfl,rfl,rfl,trivial⟩,zhR _⟩ ?_
 rintro kk ls H' ⟨pre,l1,G1,V1,g1,g2,hLe,rfl,rfl,rfl,hG1,hV1,hE⟩ j hj
 have hb2:pre.length<=2000000:=by
  have:=congrArg List.length hLe;rw[zLa] at this;omega
 refine gai ?_;refine oC rfl (λhc=>?_) (λhc=>?_)
 ·have hlen:=zt hc;rw[zLm,hLe,zLa] at hlen
  obtain⟨s,l2,rfl⟩:∃ a l2,l1=a::l2:=by
   cases l1 with
   |nil=>simp at hlen
   |cons a l2=>exact⟨a,l2,rfl⟩
  rw[cons_append,cons_append] at hE;refine gaj ?_;refine oP (xR (el':=str s) (cs:=[str s]) rfl rfl zo (by rw[hLe];exact get_mid str pre s l2) rfl rfl) rfl ?_;refine gab ?_;refine oS (S.callE (F:=[_]) [_,_] rfl (Inp.swap1) (qgA (k:={ k with G:=G1,g1:=g1,V:=V1,g2:=g2 }) (o:=o) (d:=d) hG1 s) (λH2 h0 hP=>?_) (λnm h0 e' he'=>?_)) rfl;rotate_left;refine gae ?_;exact panE (he'.trans hj) (qjA hI hE h0) h0;obtain⟨g1',rfl⟩:=hP;refine LOps.perm (Inp.swap1 (H:=pgH _ _ _)).symm ?_;refine gab ?_;refine oS (S.kvSet (k:=s) (lv:=bool true) rfl rfl rfl zp3 λg2'=>?_) rfl;refine gar ?_;refine⟨l2.length,_,_,lt_succ_self _,⟨pre++[s],l2,GL.kvPut G1 s (bool true),GL.kvPut V1 s (bool true),g1',g2',by rw[hLe];simp,rfl,rfl,rfl,hG1.add s,hV1.add s,qh3 hE h0⟩,⟨rfl,rfl,rfl,rfl,qao (by simp),trivial⟩,?_,hj⟩
  repeat first
   |exact HSub.nil _
   |refine zhP zb1 ?_
 have hlen:=zf hc;rw[zLm,hLe,zLa] at hlen
 obtain rfl:l1=[]:=by
  cases l1 with
  |nil=>rfl
  |cons a l2=>simp at hlen;omega
 rw[zLz] at hLe;subst hLe;rw[nil_append] at hE;clear hlen hc hb2;refine gab ?_
 refine oL (λkk ls H'=>∃ (pre l1:List (Nm×Int)) (G1 A1:KV) (g1 g3:Nat),arrays=pre++l1/\kk=l1.length/\ls=[(0,ptr k.cb 0),(3,ptr b3 0),(34,.list (arrays.map encArG)),(35,int .i64 ((arrays.map encArG).length:Int)),(36,iv pre.length)] /\
   H'=(b3,.cells 43 [.list (vars.map str),.list (arrays.map encArG),.list (fs.map qa7)])::pgH { k with G:=G1,g1:=g1,V:=V1,g2:=g2,A:=A1,g3:=g3 } o d/\qdO G1 (vars++pre.map (·.1))/\qdO A1 (pre.map (·.1))/\qch (vars++pre.map (·.1)) (l1.map (·.1)++fs.map (·.name))=FR)
  ⟨_,_,_,⟨[],arrays,G1,k.A,g1,k.g3,rfl,rfl,rfl,rfl,by simpa using hG1,by rw[hk3];exact qdO.nil,by simpa using hE⟩,⟨rfl,rfl,rfl,rfl,rfl,trivial⟩,zhR _⟩ ?_
 clear hG1 hE G1 g1;rintro kk ls H' ⟨pre,l1,G1,A1,g1,g3,hLe,rfl,rfl,rfl,hG1,hA1,hE⟩ j hj2
 have hb2:pre.length<=2000000:=by
  have:=congrArg List.length hLe;rw[zLa] at this;omega
 refine gai ?_;refine oC rfl (λhc=>?_) (λhc=>?_)
 ·have hlen:=zt hc;rw[zLm,hLe,zLa] at hlen
  obtain⟨s,l2,rfl⟩:∃ a l2,l1=a::l2:=by
   cases l1 with
   |nil=>simp at hlen
   |cons a l2=>exact⟨a,l2,rfl⟩
  rw[zMc,cons_append] at hE;refine zQ49 ?_;refine oS (sA λb7=>?_) rfl;refine gab ?_;refine oS (S.callE (F:=[_,_]) [_,_] rfl (zPc (l₁:=[_,_])) (qgA (k:={ k with G:=G1,g1:=g1,V:=V1,g2:=g2,A:=A1,g3:=g3 }) (o:=o) (d:=d) hG1 s.1) (λH2 h0 hP=>?_) (λnm h0 e' he'=>?_)) rfl;rotate_left;refine gae ?_;exact panE (he'.trans (hj2.trans hj)) (qjA hI hE h0) h0;obtain⟨g1',rfl⟩:=hP
  refine LOps.weak (H':=[(b7,.cells 106 [str s.1,int .i64 s.2]),(k.cb,.cells 126 [.atom (.map (some k.gm)),.atom (.map (some k.vm)),.atom (.map (some k.am)),.atom (.map (some k.fm)),str k.name,.atom o,int .i64 (d:Int)]),(b3,.cells 43 [.list (vars.map str),.list (arrays.map encArG),.list (fs.map qa7)]),
   (k.gm,.map (kvs (GL.kvPut G1 s.1 (bool true))) g1'),(k.vm,.map (kvs V1) g2),(k.am,.map (kvs A1) g3),(k.fm,.map (kvs k.F) k.g4)]) ?_ ?_
  ·repeat first
    |exact HSub.nil _
    |refine zhP zb1 ?_
  refine gaf ?_;refine cD (m:=7) rfl [(b7,.cells 106 [str s.1,int .i64 s.2]),(k.cb,.cells 126 [.atom (.map (some k.gm)),.atom (.map (some k.vm)),.atom (.map (some k.am)),.atom (.map (some k.fm)),str k.name,.atom o,int .i64 (d:Int)])] ?_;refine zQ53 ?_;refine aL ?_ (zhP pH zhp);refine lO 6 (lS (H1:=[(k.am,.map (kvs A1) g3)]) rfl (.inl rfl) rfl (show Pick _ _ _ from pT zp4) (zhP pH zhp) (S.kvSet (k:=s.1) (lv:=bool true) rfl rfl rfl pH λg3'=>?_));refine lD zk ?_;refine gar ?_;refine⟨l2.length,_,_,lt_succ_self _,⟨pre++[s],l2,GL.kvPut G1 s.1 (bool true),GL.kvPut A1 s.1 (bool true),g1',g3',by rw[hLe];simp,rfl,rfl,rfl,by simpa using hG1.add s.1,by simpa using hA1.add s.1,by simpa using qh3 hE h0⟩,⟨rfl,rfl,rfl,rfl,qao (by simp),trivial⟩,?_,hj2⟩
  repeat first
   |exact HSub.nil _
   |refine zhP zb1 ?_
 have hlen:=zf hc;rw[zLm,hLe,zLa] at hlen
 obtain rfl:l1=[]:=by
  cases l1 with
  |nil=>rfl
  |cons a l2=>simp at hlen;omega
 rw[zLz] at hLe;subst hLe;rw[List.map_nil,nil_append] at hE;clear hlen hc hb2;refine gab ?_
 refine oL (λkk ls H'=>∃ (pre l1:List FnD) (G1:KV) (g1:Nat),fs=pre++l1/\kk=l1.length/\ls=[(0,ptr k.cb 0),(3,ptr b3 0),(52,.list (fs.map qa7)),(53,int .i64 ((fs.map qa7).length:Int)),(54,iv pre.length)] /\
   H'=(b3,.cells 43 [.list (vars.map str),.list (arrays.map encArG),.list (fs.map qa7)])::pgH { k with G:=G1,g1:=g1,V:=V1,g2:=g2,A:=A1,g3:=g3 } o d/\qdO G1 (vars++arrays.map (·.1)++pre.map (·.name))/\qch (vars++arrays.map (·.1)++pre.map (·.name)) (l1.map (·.name))=FR)
  ⟨_,_,_,⟨[],fs,G1,g1,rfl,rfl,rfl,rfl,by simpa using hG1,by simpa using hE⟩,⟨rfl,rfl,rfl,rfl,rfl,trivial⟩,zhR _⟩ ?_
 clear hG1 hE G1 g1;rintro kk ls H' ⟨pre,l1,G1,g1,hLe,rfl,rfl,rfl,hG1,hE⟩ j hj3
 have hb2:pre.length<=2000000:=by
  have:=congrArg List.length hLe;rw[zLa] at this;omega
 refine gai ?_;refine oC rfl (λhc=>?_) (λhc=>?_)
 ·have hlen:=zt hc;rw[zLm,hLe,zLa] at hlen
  obtain⟨s,l2,rfl⟩:∃ a l2,l1=a::l2:=by
   cases l1 with
   |nil=>simp at hlen
   |cons a l2=>exact⟨a,l2,rfl⟩
  rw[zMc] at hE;refine gaj ?_;refine oP (xR (el':=qa7 s) (cs:=[_,_,_,_]) rfl rfl zo (by rw[hLe];exact get_mid qa7 pre s l2) rfl rfl) rfl ?_;refine gad ?_;refine oS (sA λb7=>?_) rfl;refine gab ?_;refine oS (S.callE (F:=[_,_]) [_,_] rfl (zPc (l₁:=[_,_])) (qgA (k:={ k with G:=G1,g1:=g1,V:=V1,g2:=g2,A:=A1,g3:=g3 }) (o:=o) (d:=d) hG1 s.name) (λH2 h0 hP=>?_) (λnm h0 e' he'=>?_)) rfl;rotate_left;refine gae ?_;exact panE (he'.trans (hj3.trans (hj2.trans hj))) (qjA hI hE h0) h0;obtain⟨g1',rfl⟩:=hP;refine LOps.perm (zPc (l₂:=[_,_])) ?_;refine gar ?_;refine⟨l2.length,_,_,lt_succ_self _,⟨pre++[s],l2,GL.kvPut G1 s.name (bool true),g1',by rw[hLe];simp,rfl,rfl,rfl,by simpa using hG1.add s.name,by simpa using qh3 hE h0⟩,⟨rfl,rfl,rfl,rfl,qao (by simp),trivial⟩,zhD zhr,hj3⟩
 have hlen:=zf hc;rw[zLm,hLe,zLa] at hlen
 obtain rfl:l1=[]:=by
  cases l1 with
  |nil=>rfl
  |cons a l2=>simp at hlen;omega
 rw[zLz] at hLe;subst hLe;have hFR0:FR=0:=hE.symm;clear hlen hc hb2 hE;rw[hFR0] at hI;have hnod:=(qe0 _ _ (hFR.trans hFR0)).1;have hnmok:=(qe0 _ _ (hFR.trans hFR0)).2.2;have hI1:RA=E:=by rw[<-hI];rfl
 rw[<-hRA] at hI1;clear hI hRA hFR;have hPr:0<=(0:Int)/\(0:Int)<=150000:=⟨by decide,by decide⟩;refine gab ?_
 refine oL (λkk ls H'=>∃ (pre l1:List (Nm×Int)) (T:Int),arrays=pre++l1/\kk=l1.length/\ls=[(0,ptr k.cb 0),(3,ptr b3 0),(10,int .i64 T),(64,.list (arrays.map encArG)),(65,int .i64 ((arrays.map encArG).length:Int)),(66,iv pre.length)] /\
   H'=(b3,.cells 43 [.list (vars.map str),.list (arrays.map encArG),.list (fs.map qa7)])::pgH { k with G:=G1,g1:=g1,V:=V1,g2:=g2,A:=A1,g3:=g3 } o d/\(0<=T/\T<=150000)/\qha T (l1.map (·.2))=SZ)
  ⟨_,_,_,⟨[],arrays,0,rfl,rfl,rfl,rfl,hPr,hSZ⟩,⟨rfl,rfl,rfl,rfl,rfl,rfl,trivial⟩,zhR _⟩ ?_
 clear hSZ;rintro kk ls H' ⟨pre,l1,T,hLe,rfl,rfl,rfl,⟨hT1,hT2⟩,hE⟩ j hj4
 have hb2:pre.length<=2000000:=by
  have:=congrArg List.length hLe;rw[zLa] at this;omega
 refine gai ?_;refine oC rfl (λhc=>?_) (λhc=>?_)
 ·have hlen:=zt hc;rw[zLm,hLe,zLa] at hlen
  obtain⟨s,l2,rfl⟩:∃ a l2,l1=a::l2:=by
   cases l1 with
   |nil=>simp at hlen
   |cons a l2=>exact⟨a,l2,rfl⟩
  obtain⟨hs1,hs2⟩:=har s (by rw[hLe];exact mem_append_right _ zMs);rw[zMc,qha] at hE;refine zQ49 ?_;refine oS (sA λb7=>?_) rfl;refine gab ?_;refine oB 72 rfl (λh1=>?_) (λh1=>?_);rotate_left;have h2:s.2<=0:=by have:=zf h1;omega
  rw[if_pos h2] at hE;refine oS (sK (H1:=[]) (F:=_) [_,_,_] rfl zpr (qav false s.1 2 zDd) (λh=>absurd h zDd) (λnm _ e' he'=>?_)) rfl;refine gae ?_;exact panE (he'.trans (hj4.trans (hj3.trans (hj2.trans hj)))) (by rw[<-hI1,<-hE];rfl) zDd;have h2:¬ s.2<=0:=by have:=zt h1;omega
  rw[if_neg h2] at hE;refine oS (sK (H1:=[]) (F:=_) [_,_,_] rfl zpr (qav true s.1 2 zDd) (λ_=>?_) (λnm h=>absurd rfl h)) rfl;refine gab ?_;refine oB 80 rfl (λh3=>?_) (λh3=>?_);rotate_left;have h4:150000-T<s.2:=by have:=zf h3;omega
  rw[if_pos h4] at hE;refine oS (sK (H1:=[]) (F:=_) [_,_,_] rfl zpr (qav false s.1 6 zDd) (λh=>absurd h zDd) (λnm _ e' he'=>?_)) rfl;refine gae ?_;exact panE (he'.trans (hj4.trans (hj3.trans (hj2.trans hj)))) (by rw[<-hI1,<-hE];rfl) zDd;have h4:¬ 150000-T<s.2:=by have:=zt h3;omega
  rw[if_neg h4] at hE;refine oS (sK (H1:=[]) (F:=_) [_,_,_] rfl zpr (qav true s.1 6 zDd) (λ_=>?_) (λnm h=>absurd rfl h)) rfl;refine gac ?_;exact⟨l2.length,_,_,lt_succ_self _,⟨pre++[s],l2,T+s.2,by rw[hLe];simp,rfl,rfl,rfl,⟨by omega,by omega⟩,hE⟩,⟨rfl,rfl,rfl,rfl,rfl,qao (by simp),trivial⟩,zhD zhr,hj4⟩
 have hlen:=zf hc;rw[zLm,hLe,zLa] at hlen
 obtain rfl:l1=[]:=by
  cases l1 with
  |nil=>rfl
  |cons a l2=>simp at hlen;omega
 have hSZ0:SZ=0:=by rw[<-hE];rfl
 rw[hSZ0] at hI1;have hI2:orE FS MN=E:=by rw[<-hI1];rfl
 clear hI1 hlen hc hb2 hLe hE;have hnf:(fs.map (·.name)).Nodup:=(List.nodup_append.1 hnod).2.1;have hds:j.ds=[]:=hj4.trans (hj3.trans (hj2.trans hj));clear hj hj2 hj3 hj4;refine gab ?_
 refine oL (λkk ls H'=>∃ (pre l1:List FnD) (known:List FSum) (F1:KV) (g4:Nat) (nm:Nm) (o1:Value) (d1:Nat),fs=pre++l1/\kk=l1.length/\ls=[(0,ptr k.cb 0),(3,ptr b3 0),(90,.list (fs.map qa7)),(91,int .i64 ((fs.map qa7).length:Int)),(92,iv pre.length)] /\
   H'=(b3,.cells 43 [.list (vars.map str),.list (arrays.map encArG),.list (fs.map qa7)])::pgH { k with name:=nm,G:=G1,g1:=g1,V:=V1,g2:=g2,A:=A1,g3:=g3,F:=F1,g4:=g4 } o1 d1/\(∀ n,GL.kvGet F1 n=(known.find? λg=>decide (g.name=n)).map qjD)/\known.map (·.name)=pre.map (·.name) /\
   qfM vars (arrays.map (·.1)) (fs.map (·.name)) known l1=FS/\qjY vars (arrays.map (·.1)) (fs.map (·.name)) known l1=SS/\KnB (8 * ndFs pre) pre.length known)
  ⟨_,_,_,⟨[],fs,[],k.F,k.g4,k.name,o,d,rfl,rfl,rfl,rfl,λn=>by rw[hk4];rfl,rfl,hFS,hSS,λx hx=>(not_mem_nil hx).elim⟩,⟨rfl,rfl,rfl,rfl,rfl,trivial⟩,zhR _⟩ ?_
 rintro kk ls H' ⟨pre,l1,known,F1,g4,nm,o1,d1,hLe,rfl,rfl,rfl,hF,hkn,hE,hS,hB⟩ j2 hj2
 have hb2:pre.length<=2000000:=by
  have:=congrArg List.length hLe;rw[zLa] at this;omega
 refine gai ?_;refine oC rfl (λhc=>?_) (λhc=>?_)
 ·have hlen:=zt hc;rw[zLm,hLe,zLa] at hlen
  obtain⟨s,l2,rfl⟩:∃ a l2,l1=a::l2:=by
   cases l1 with
   |nil=>simp at hlen
   |cons a l2=>exact⟨a,l2,rfl⟩
  have hsz:ndFs pre+ndF s<=2000000:=by
   have:=hnd;rw[hLe,qgS,ndFs] at this;omega
  have hnew:s.name ∉ known.map (·.name):=by
   rw[hkn];have:=hnf;rw[hLe,zMa,zMc] at this;intro hm;exact(List.nodup_append.1 this).2.2 _ hm _ zMs rfl
  rw[qfM] at hE;rw[qjY] at hS;refine gaj ?_;refine oP (xR (el':=qa7 s) (cs:=[_,_,_,_]) rfl rfl zo (by rw[hLe];exact get_mid qa7 pre s l2) rfl rfl) rfl ?_;refine gad ?_;refine oS (sA λb7=>?_) rfl;refine gab ?_;refine oS (S.callE (F:=[_,_]) [_,_] rfl (zPc (l₁:=[_,_])) (qmb (vars:=vars) (arrays:=arrays.map (·.1)) (later:=fs.map (·.name)) (known:=known) (k:={ k with name:=nm,G:=G1,g1:=g1,V:=V1,g2:=g2,A:=A1,g3:=g3,F:=F1,g4:=g4 }) (o:=o1) (d:=d1) s hG1 hV1 hA1 hF hnew hB zo zo zo) (λH2 h0 hP=>?_) (λnm h0 e' he'=>?_)) rfl;rotate_left;refine gae ?_;exact panE (he'.trans (hj2.trans hds)) (by rw[<-hI2,<-hE,qkV (a:=orE _ _) (by rw[qkV h0];exact h0),qkV h0]) h0;obtain⟨nm',o',d',F',g4',hF',rfl⟩:=hP;refine LOps.perm (zPc (l₂:=[_,_])) ?_;refine gar ?_;refine⟨l2.length,_,_,lt_succ_self _,⟨pre++[s],l2,known++[sumF vars (arrays.map (·.1)) (fs.map (·.name)) known s],F',g4',nm',o',d',by rw[hLe];simp,rfl,rfl,rfl,hF',?_,by rw[<-hE,h0];rfl,hS,?_⟩,⟨rfl,rfl,rfl,rfl,qao (by simp),trivial⟩,zhD zhr,hj2⟩;rw[zMa,zMa,hkn];rfl;have h1:=qwq (vars:=vars) (arrays:=arrays.map (·.1)) (later:=fs.map (·.name)) (f:=s) hB;have h2:ndFs (pre++[s])=ndFs pre+ndF s:=by rw[qgS,ndFs,ndFs];rfl
  intro g hg;rw[h2,zLa,List.length_singleton];rcases List.mem_append.1 hg with hg|hg;obtain⟨a1,a2,a3⟩:=hB g hg;exact⟨by omega,by omega,by omega⟩;obtain rfl:=List.mem_singleton.1 hg;obtain⟨a1,a2,a3⟩:=h1;exact⟨by omega,by omega,by omega⟩
 have hlen:=zf hc;rw[zLm,hLe,zLa] at hlen
 obtain rfl:l1=[]:=by
  cases l1 with
  |nil=>rfl
  |cons a l2=>simp at hlen;omega
 have hFS0:FS=0:=by rw[<-hE];rfl
 have hknS:known=SS:=by rw[<-hS];rfl
 rw[hFS0] at hI2;have hI3:MN=E:=by rw[<-hI2];rfl
 clear hlen hc hb2 hLe hE;subst hknS;have hall:=qk1 fs [] (hFS.trans hFS0)
 have hnn:∀ f∈fs,f.name.length<=1000/\∀ x∈f.params++f.locals,x.length<=1000:=λf hf=>by
  obtain⟨kk,hk⟩:=hall f hf;exact⟨qlm (hnmok f.name (mem_append_right _ (mem_map_of_mem hf))),qro hk⟩
 have hsm:∀ f∈fs,SmF f:=λf hf=>qs0 (zNt (qiX hf) hnd);have hds2:=hj2.trans hds;unfold qt2 at hMN;refine gab ?_
 cases hfl:fs.getLast? with
 |none=>
  have hf0:fs=[]:=List.getLast?_eq_none_iff.1 hfl;rw[hfl] at hMN;refine oB 105 rfl (λh=>absurd (zt h) (by rw[hf0];decide)) (λ_=>?_);refine gaa ?_;refine oS (sK (H1:=[]) (F:=_) [_,_,_] rfl zpr (qav false [109,97,105,110] 9 zDd) (λh=>absurd h zDd) (λnm _ e' he'=>?_)) rfl;refine gak ?_
  exact panE (he'.trans hds2) (hI3.symm.trans hMN.symm) zDd
 |some f=>
  obtain⟨ys,hys⟩:=List.getLast?_eq_some_iff.1 hfl;have hln:(fs.map qa7).length=ys.length+1:=by rw[zLm,hys,zLa];rfl
  have hl6:(fs.map qa7).length<=2000000:=by rw[zLm];exact hf6
  have hn0:(0:Int)<=((fs.map qa7).length:Int)-1:=by omega
  have hget:(fs.map qa7)[(((fs.map qa7).length:Int)-1).toNat]? = some (qa7 f):=by
   rw[show(((fs.map qa7).length:Int)-1).toNat=ys.length by omega,hys,zMa];rw[List.getElem?_append_right (by rw[zLm];exact zNr _),zLm,Nat.sub_self];rfl
  have hnms:known.map (·.name)=fs.map (·.name):=by
   rw[<-hSS,qjF];rfl
  obtain⟨m,hm⟩:∃ m,known.getLast? = some m:=by
   cases hx:known.getLast? with
   |some m=>exact⟨m,rfl⟩
   |none=>
    rw[List.getLast?_eq_none_iff.1 hx,hys] at hnms;simp at hnms
  have hmf:m.name=f.name:=by
   have h1:=congrArg List.getLast? hnms;rw[List.getLast?_map,List.getLast?_map,hm,hfl] at h1;exact Option.some.inj h1
  have hfind:=qsD (by rw[hnms];exact hnf) hm;rw[hfl,hm] at hMN
  replace hMN:(if f.name=[109,97,105,110]/\f.params=[] then (if (qaj vars fs).length<=8000/\m.need<=200/\m.depth<=60 then 0 else 6) else 9)=MN:=hMN
  rw[hI3] at hMN;refine oB 105 rfl (λ_=>?_) (λh=>absurd (show((fs.map qa7).length:Int) > 0 by omega) (zf h));refine gad ?_
  first|refine LOps.want rfl rfl ?_|skip
  refine zQ34 ?_;refine oB 115 rfl (λh1=>?_) (λh1=>?_);rotate_left;rw[if_neg (λh=>zf h1 h.1)] at hMN;refine gaa ?_;refine oS (sK (H1:=[]) (F:=_) [_,_,_] rfl zpr (qav false [109,97,105,110] 9 zDd) (λh=>absurd h zDd) (λnm _ e' he'=>?_)) rfl;refine gak ?_;exact panE (he'.trans hds2) hMN.symm zDd;have hmain:f.name=[109,97,105,110]:=zt h1;refine gad ?_
  first|refine LOps.want rfl rfl ?_|skip
  refine zQ34 ?_;refine oB 125 rfl (λh2=>?_) (λh2=>?_);rotate_left;rw[if_neg (λh=>zf h2 (by rw[h.2];rfl))] at hMN;refine oS (sK (H1:=[]) (F:=_) [_,_,_] rfl zpr (qav false [109,97,105,110] 9 zDd) (λh=>absurd h zDd) (λnm _ e' he'=>?_)) rfl;refine gak ?_;exact panE (he'.trans hds2) hMN.symm zDd
  have hpar:f.params=[]:=by
   have h3:=zt h2;rw[zLm] at h3;exact List.length_eq_zero_iff.1 zo
  rw[if_pos ⟨hmain,hpar⟩] at hMN;refine oS (sK (H1:=[]) (F:=_) [_,_,_] rfl zpr (qav true [109,97,105,110] 9 zDd) (λ_=>?_) (λnm h=>absurd rfl h)) rfl
  have hgF:GL.kvGet F1 [109,97,105,110]=some (qjD m):=by
   rw[hF,<-hmain,<-hmf,hfind];rfl
  refine gab ?_;refine oP (Pure.kvHit rfl rfl zm5 hgF) rfl ?_;refine oS (sA λb16=>?_) rfl;refine gab ?_;refine oS (sF [_] rfl (scalars_specG (.list (arrays.map encArG)) hv6 hf6 hsm hnn) ?_) rfl;refine gad ?_;refine oB 136 rfl (λh3=>?_) (λh3=>?_);rotate_left;have hbad:¬ ((qaj vars fs).length<=8000/\m.need<=200/\m.depth<=60):=λh=>zf h3 (by rw[zLm];have:=h.1;omega);rw[if_neg hbad] at hMN;refine gaa ?_;refine oS (sK (H1:=[]) (F:=_) [_,_,_] rfl zpr (qav false [109,97,105,110] 6 zDd) (λh=>absurd h zDd) (λnm _ e' he'=>?_)) rfl;exact panE (he'.trans hds2) hMN.symm zDd
  have h3':(qaj vars fs).length<=8000:=by
   have:=zt h3;rw[zLm] at this;omega
  refine gad ?_;refine oB 141 rfl (λh4=>?_) (λh4=>?_);rotate_left;have hbad:¬ ((qaj vars fs).length<=8000/\m.need<=200/\m.depth<=60):=λh=>zf h4 (by have:=h.2.1;omega);rw[if_neg hbad] at hMN;refine gaa ?_;refine oS (sK (H1:=[]) (F:=_) [_,_,_] rfl zpr (qav false [109,97,105,110] 6 zDd) (λh=>absurd h zDd) (λnm _ e' he'=>?_)) rfl;exact panE (he'.trans hds2) hMN.symm zDd
  have h4':m.need<=200:=by
   have:=zt h4;omega
  refine gad ?_;refine oB 145 rfl (λh5=>?_) (λh5=>?_);rotate_left;have hbad:¬ ((qaj vars fs).length<=8000/\m.need<=200/\m.depth<=60):=λh=>zf h5 (by have:=h.2.2;omega);rw[if_neg hbad] at hMN;refine oS (sK (H1:=[]) (F:=_) [_,_,_] rfl zpr (qav false [109,97,105,110] 6 zDd) (λh=>absurd h zDd) (λnm _ e' he'=>?_)) rfl;exact panE (he'.trans hds2) hMN.symm zDd
  have h5':m.depth<=60:=by
   have:=zt h5;omega
  rw[if_pos ⟨h3',h4',h5'⟩] at hMN;refine oS (sK (H1:=[]) (F:=_) [_,_,_] rfl zpr (qav true [109,97,105,110] 6 zDd) (λ_=>?_) (λnm h=>absurd rfl h)) rfl;refine gaf ?_;exact qxu hds2 rN hMN.symm rfl zhn rfl
end
section
variable{C:Ctx}{e:Env}{H:Heap}{dst:Option Nat}{ty:TypeId}{pos:String}{aft:Array Edge}{g:Option (Nat×Bool)}{x:Operand}
theorem Pure.assertNil{t xT:TypeId} [ht:TConcrete C.P t]{zs:List Value}(hz:∀ w,(zeroValue t).run C.P w=.ok (.agg zs.toArray) w)(hx:e.ev x=.atom .nilIface):Go.GL.Pure C ⟨dst,.typeAssert x xT t true,ty,pos,aft,g⟩ e H (.tuple [.agg (zs.map .atom),bool false]):=
 .of_any λρ w L h=>⟨.tuple #[.agg zs.toArray,.bool false],by
  simp only[Rep];exact⟨[.agg zs.toArray,.bool false],rfl,by simp only[RepL,Rep];exact⟨_,_,rfl,⟨zs,rfl,qa3 zs⟩,_,_,rfl,rfl,rfl⟩⟩,λw'=>by
  obtain⟨d,hd,hm⟩:=ht.out;have h3:execOp ρ ⟨dst,.typeAssert x xT t true,ty,pos,aft,g⟩=(do Pure.pure (.value (<-Instr.typeAssert (ρ x) xT t true))):=rfl;rw[h3,qaf h hx];simp only[Instr.typeAssert,Sem.run_bind,qaa hd,Result.andThen_ok]
  cases d <;> simp_all [Sem.run_bind]⟩
end
theorem qu4(w:World):(zeroValue 120).run Tryz.prog w=.ok (.agg [.string ⟨#[]⟩,.int .i64 0].toArray) w:=
 (Go.zero_of_info (P:=Tryz.prog) (n:=2) zk).1 w
attribute [local irreducible] qcc qaU qd4 qbq
section
variable{B0:Nat}{w0:World}
theorem qu1(b2 b3:Nat)(c d:LV):qbq (KC B0 w0) 77 [ptr b2 0,ptr b3 0] .returning [(b2,.cells 9 [c]),(b3,.cells 23 [d])]
  (λu H=>u=.returning/\H=[(b2,.cells 9 [c]),(b3,.cells 23 [d])]):=by
 refine qbq.intro Tryz.func77 rfl (n:=19) rfl rfl rfl ?_;refine zQ24 ?_;refine gag ?_;refine oP (Pure.assertNil qu4 rfl) rfl ?_;refine gad ?_;refine oS (sA λb5=>?_) rfl;refine gab ?_;refine oC rfl (λhc=>?_) (λhc=>?_);cases hc;refine gab ?_;refine oC rfl (λhc=>?_) (λhc=>?_);cases hc;refine gaa ?_;exact⟨rfl,_,zhD zhr,rfl,rfl⟩
theorem qut(b2 b3:Nat)(c d:LV)(nm:List UInt8)(er:Int):qbq (KC B0 w0) 77 [ptr b2 0,ptr b3 0] (.panicking (vio nm er)) [(b2,.cells 9 [c]),(b3,.cells 23 [d])]
  (λu H=>settle u=.returning/\H=[(b2,.cells 9 [str nm]),(b3,.cells 23 [int .i64 er])]):=by
 refine qbq.intro Tryz.func77 rfl (n:=19) rfl rfl rfl ?_;refine zQ24 ?_;refine gag ?_;refine oP (Pure.assertOk (vs:=[.string ⟨nm.toArray⟩,.int .i64 er]) rfl) rfl ?_;refine gad ?_;refine oS (sA λb5=>?_) rfl;refine gab ?_;refine oC rfl (λhc=>?_) (λhc=>?_)
 ·skip
  refine cD (m:=6) rfl [(b5,.cells 120 [str nm,int .i64 er])] ?_;refine zQ51 ?_;refine aT 2 rfl rfl (pF rfl) ?_;refine aT 3 rfl rfl (pL (c:=.atom _) rfl zm0 rfl) ?_;refine aL ?_ zhp;refine lO 4 (lS (H1:=[(b2,.cells 9 [c])]) (F:=[(b5,.cells 120 [str nm,int .i64 er]),(b3,.cells 23 [d])]) rfl (.inl rfl) rfl zp1 zhp (sS (cs':=[_]) rfl pH rfl rfl rfl rfl rfl ?_));refine lO 5 (lS (H1:=[(b3,.cells 23 [d])]) (F:=[(b2,.cells 9 [str nm]),(b5,.cells 120 [str nm,int .i64 er])]) rfl (.inl rfl) rfl zp2 (zhP zp1 zhn) (sS (cs':=[_]) rfl pH rfl rfl rfl rfl rfl ?_));refine lD zk ?_;exact⟨rfl,_,zhP zp1 zhp,rfl,rfl⟩
 cases hc
theorem check_spec(vars:List Nm)(arrays:List (Nm×Int))(fs:List FnD)(hv6:vars.length<=2000000)(ha6:arrays.length<=2000000)(har:∀ a∈arrays,-9223372036854775808<=a.2/\a.2<9223372036854775808)(hnd:ndFs fs<=2000000) :
  LCalls (KC B0 w0) 36 [encPrG vars arrays fs] [] (λr H=>H=[]/\∃ nm,r=.ret (.tuple [str nm,int .i64 (qdn vars arrays fs)])):=by
 generalize hE:qdn vars arrays fs=E;refine LCalls.introD Tryz.func36 rfl (n:=15) rfl rfl rfl ?_;refine zQ32 ?_;refine gah ?_;refine oS (sB rfl λb1=>?_) rfl;refine oS (sA λb2=>?_) rfl;refine oS (sA λb3=>?_) rfl;refine gaf ?_;refine zQ26 ?_;refine qcc.defer rfl rfl ?_;refine zQ41 ?_;refine zQ32 ?_;refine gah ?_;refine oS (S.kvNew λgm=>?_) rfl;refine oS (S.kvNew λvm=>?_) rfl;refine oS (S.kvNew λam=>?_) rfl;refine oS (S.kvNew λfm=>?_) rfl;refine gad ?_;refine oS (sB rfl λcb=>?_) rfl;refine LOps.weak (H':=pgH ⟨cb,gm,vm,am,fm,0,[],[],[],[],[],0,0,0,0,0,[]⟩ (.map none) 0++[(b3,.cells 23 [int .i64 0]),(b2,.cells 9 [str []]),(b1,.cells 43 [.list (vars.map str),.list (arrays.map encArG),.list (fs.map qa7)])]) ?_ ?_
 ·repeat first
   |exact HSub.nil _
   |refine zhP zb1 ?_
 refine gaf ?_;refine zQ26 ?_;refine qcc.step (S.callE (F:=[_,_,_]) [_,_] rfl zpr (qcn (k:=⟨cb,gm,vm,am,fm,0,[],[],[],[],[],0,0,0,0,0,[]⟩) (o:=.map none) (d:=0) vars arrays fs rfl rfl rfl rfl hv6 ha6 har hnd) (λH2 h0 hP=>?_) (λnm h0=>?_)) rfl
 ·subst hP;rw[hE] at h0;subst h0;refine zQ41 ?_;refine qaU.seq (qaU.region ?_);refine qcc.step (sS (cs':=[_]) rfl zp1 rfl rfl rfl rfl rfl ?_) rfl;refine qcc.step (sS (cs':=[_]) rfl zp1 rfl rfl rfl rfl rfl ?_) rfl;refine zQ41 ?_;refine qaU.ret ?_
  exact qb6.ret1 (vs:=[str [],int .i64 0]) (H1:=[(b2,.cells 9 [str []]),(b3,.cells 23 [int .i64 0])]) (F:=[_]) (H2:=[(b2,.cells 9 [str []]),(b3,.cells 23 [int .i64 0])]) rfl (List.Perm.swap _ _ _) (qu1 b2 b3 _ _)
   (rC (qc9.cellOne rfl zm0 rfl zsr) (rC (qc9.cellOne rfl zm1 rfl zsr) rN)) zhn ⟨rfl,[],rfl⟩
 rw[hE] at h0 ⊢;refine qax.panic ?_
 exact qb6.panic1 (vs:=[str nm,int .i64 E]) (H1:=[(b2,.cells 9 [str []]),(b3,.cells 23 [int .i64 0])]) (F:=[_]) (H2:=[(b2,.cells 9 [str nm]),(b3,.cells 23 [int .i64 E])]) rfl (List.Perm.swap _ _ _) (qut b2 b3 _ _ nm E)
  (rC (qc9.cellOne rfl zm0 rfl zsr) (rC (qc9.cellOne rfl zm1 rfl zsr) rN)) zhn ⟨rfl,nm,rfl⟩
end
end Go.Proofs.YtkihibnffkpnkaaGreatDoor.Chk
namespace Go.Proofs.YtkihibnffkpnkaaGreatDoor.Cmp
open Go.GL Go.RowKit Go.Stele
open Go.Lib (decDigits itoa join)
structure TB where
 tb:Nat
 sm:Nat
 am:Nat
 S:KV
 A:KV
 g1:Nat
 g2:Nat
 sc:Nat
def TrH(k:TB)(own:Nm)(ws:List Wd)(n:Nat)(H:Heap):Prop:=∃ v Hv,GL.Acc 1 v (ws.map str) Hv []/\H=(k.tb,.cells 132 [v,int .i64 (n:Nat),int .i64 (k.sc:Nat),.atom (.map (some k.sm)),.atom (.map (some k.am)),str own])::(k.sm,.map (kvs k.S) k.g1)::(k.am,.map (kvs k.A) k.g2)::Hv
def qh4(P:Heap->Prop):LRes->Heap->Prop:=λr H=>r=.ret (.tuple [])/\P H
def qm8(s:List UInt8)(P:Heap->Prop):LRes->Heap->Prop:=λr H=>r=.ret (str s)/\P H
structure TBok(k:TB)(c:CC)(own:Nm):Prop where
 sc:∀ name,∃ a:Nat,a<=1000000000/\c.sc name=decDigits a/\((∃ v,GL.kvGet k.S (own++[46]++name)=some v/\v=int .i64 (a:Nat))∨(GL.kvGet k.S (own++[46]++name)=none/\(GL.kvGet k.S name).getD (int .i64 0)=int .i64 (a:Nat)))
 ar:∀ name,∃ a:Nat,a<=1000000000/\c.ar name=decDigits a/\(GL.kvGet k.A name).getD (int .i64 0)=int .i64 (a:Nat)
 t0:c.t0=decDigits k.sc
 t1:c.t1=decDigits (k.sc+1)
 t2:c.t2=decDigits (k.sc+2)
 small:k.sc<=1000000000
 own:own.length<=1000000
theorem perm3{x y z:Nat×LObj}{A:Heap}:(x::y::z::A).Perm (A++[x,y,z]):=zPc (l₁:=[x,y,z])
theorem qa8{x:Nat×LObj}{A:Heap}:(x::A).Perm (A++[x]):=(List.perm_append_singleton _ _).symm
theorem qes{x y:Nat×LObj}{A:Heap}:(x::y::A).Perm (A++[x,y]):=zPc (l₁:=[x,y])
theorem qn7{A:Heap}:A.Perm (A++[]):=by rw[zLz]
theorem qcy{x:Nat×LObj}{A:Heap}:HSub A (x::A):=zhD zhr
theorem qiJ{x y:Nat×LObj}{A:Heap}:HSub A (x::y::A):=zhD (zhD zhr)
theorem qtp{x:Nat×LObj}{A:Heap}:HSub [x] (x::A):=zhP pH zhn
theorem qiL{x y:Nat×LObj}{A:Heap}:HSub [x,y] (x::y::A):=zhP pH zhp
theorem qo8{x:Nat×LObj}{A:Heap}:HSub (x::A) (A++[x]):=⟨[],by rw[zLz];exact qa8.symm⟩
theorem qqn{x y:Nat×LObj}{A:Heap}:HSub (x::y::A) (A++[x,y]):=⟨[],by rw[zLz];exact qes.symm⟩
theorem qtc{m:Nat}(h:m<4294967296):IntKind.u64.wrap (m:Int)=m:=by
 simp only[IntKind.wrap,IntKind.bits,IntKind.signed,Bool.false_and]
 simp
 omega
section
variable{C:Ctx}{e:Env}{H:Heap}{dst:Option Nat}{ty:TypeId}{pos:String}{aft:Array Edge}{g:Option (Nat×Bool)}{K:LV->Heap->Prop}{X:List PanicEntry->Heap->Prop}
theorem zsT{f:FuncId} [TEnter C.P f](args:List Operand){ats:Array TypeId}{avs:List LV}{P:Heap->Prop}{H1 F:Heap}(has:args.map e.ev=avs)(hp:H.Perm (H1++F))(hc:LCalls C f avs H1 (qh4 P))(hk:∀ H',P H'->K (.tuple []) (F++H')) :
  qae C ⟨dst,.call { callee:=.value (.func f),args:=args.toArray,argTypes:=ats },ty,pos,aft,g⟩ e H K X:=
 qae.conseq (K:=λlv H''=>∃ H',H''=H'++F/\P H'/\lv=.tuple []) (S.callH args has hp hc (by rintro v H' ⟨h,h2⟩;cases h;exact⟨H',rfl,h2,rfl⟩) (by rintro ch H' ⟨h,_⟩;cases h))
  (by rintro lv H'' ⟨H',rfl,hP,rfl⟩;exact⟨_,F++H',vR _,⟨[],by rw[zLz];exact zPc⟩,hk H' hP⟩)
theorem Pure.kvOr{t el:TypeId}{zv:Value}{zl lv:LV} [h:TMap C.P t el zv zl]{x y:Operand}{b clock:Nat}{m:KV}{s:List UInt8}(hm:e.ev x=.atom (.map (some b)))(hx:e.ev y=str s)(hb:(b,.map (kvs m) clock)∈H)(hg:(GL.kvGet m s).getD zl=lv) :
  GL.Pure C ⟨dst,.lookup t x y false,ty,pos,aft,g⟩ e H lv:=by
 obtain⟨kt,h1,h2⟩:=h.und;exact hg▸GL.Pure.kvGet h1 h2 h.zero h.rep hm hx hb
theorem S.callS{f:FuncId} [TEnter C.P f](args:List Operand){ats:Array TypeId}{avs:List LV}{P:Heap->Prop}{s:List UInt8}{H1 F:Heap}(has:args.map e.ev=avs)(hp:H.Perm (H1++F))(hc:LCalls C f avs H1 (qm8 s P))(hk:∀ H',P H'->K (str s) (F++H')) :
  qae C ⟨dst,.call { callee:=.value (.func f),args:=args.toArray,argTypes:=ats },ty,pos,aft,g⟩ e H K X:=
 qae.conseq (K:=λlv H''=>∃ H',H''=H'++F/\P H'/\lv=str s) (S.callH args has hp hc (by rintro v H' ⟨h,h2⟩;cases h;exact⟨H',rfl,h2,rfl⟩) (by rintro ch H' ⟨h,_⟩;cases h))
  (by rintro lv H'' ⟨H',rfl,hP,rfl⟩;exact⟨_,F++H',vR _,⟨[],by rw[zLz];exact zPc⟩,hk H' hP⟩)
theorem S.callTV{fo:Operand}{f:FuncId} [TEnter C.P f]{first caps:Array Value}(args:List Operand){ats:Array TypeId}{avs:List LV}{P:Heap->Prop}{H1 F:Heap}(hf:e.ev fo=.atom (.func (.func f) first caps))
  (has:first.toList.map .atom++args.map e.ev++caps.toList.map .atom=avs) (hp:H.Perm (H1++F)) (hc:LCalls C f avs H1 (qh4 P)) (hk:∀ H',P H'->K (.tuple []) (F++H')) :
  qae C ⟨dst,.call { callee:=.value fo,args:=args.toArray,argTypes:=ats },ty,pos,aft,g⟩ e H K X:=
 qae.conseq (K:=λlv H''=>∃ H',H''=H'++F/\P H'/\lv=.tuple []) (S.callV args hf has hp hc (by rintro v H' ⟨h,h2⟩;cases h;exact⟨H',rfl,h2,rfl⟩) (by rintro ch H' ⟨h,_⟩;cases h))
  (by rintro lv H'' ⟨H',rfl,hP,rfl⟩;exact⟨_,F++H',vR _,⟨[],by rw[zLz];exact zPc⟩,hk H' hP⟩)
end
attribute [local irreducible] LOps qag qae LCalls Go.GL.Pure qax qam qad LQ LAny qaJ qan LS
section
variable{B0:Nat}{w0:World}{k:TB}{own:Nm}{c:CC}{ws:List Wd}{n:Nat}{H:Heap}
theorem qaD(h:TrH k own ws n H)(W:List Wd){a:LV}(ha:GL.elems a=some (W.map str))(hr:ws.length+W.length<=1000000000):LCalls (KC B0 w0) 139 [ptr k.tb 0,a] H (qh4 (TrH k own (ws++W) n)):=by
 obtain⟨v,Hv,hacc,rfl⟩:=h;have h1:(ws.map str).length=ws.length:=zLm _;have h2:(W.map str).length=W.length:=zLm _;refine zcI Tryz.func139 rfl (n:=13) rfl rfl rfl ?_;refine gac ?_;refine oP (pL (c:=v) rfl zm0 rfl) rfl ?_;refine oP (pM (lv:=a) rfl) rfl ?_;refine oS (sG perm3 rfl hacc ha (qeu W) (qgF W) zo λv' H' hacc'=>?_) rfl;refine gaa ?_;refine oS (sS (cs':=[v',int .i64 (n:Nat),int .i64 (k.sc:Nat),.atom (.map (some k.sm)),.atom (.map (some k.am)),str own]) rfl pH (Acc.cell hacc').1 rfl rfl (Acc.cell hacc').2 rfl ?_) rfl;refine gaf ?_;exact rO rfl rN zhr ⟨rfl,v',H',by rw[zMa];exact hacc',rfl⟩
theorem qf6(hG:GW B0 w0)(h:TrH k own ws n H)(hn:n<=1000000000000):LCalls (KC B0 w0) 207 [ptr k.tb 0] H (qm8 (labW n) (TrH k own ws (n+1))):=by
 obtain⟨v,Hv,hacc,rfl⟩:=h
 have hd:(Go.Lib.decDigits n).length<=20:=by
  rw[Go.Lib.decDigits_length];exact zNt (qf1 12 n zo) zDd
 refine zcI Tryz.func207 rfl (n:=18) rfl rfl rfl ?_;refine gac ?_;refine oS (sF [_] rfl (qdp hG n zo) ?_) rfl;refine gab ?_
 first|(refine oS (sS (cs':=[_,_,_,_,_,_]) rfl pH rfl rfl rfl rfl rfl ?_) rfl)|skip
 refine gac ?_;exact rR rfl (zra rfl) zhr ⟨rfl,v,Hv,hacc,rfl⟩
theorem qdc(hG:GW B0 w0)(hk:TBok k c own)(h:TrH k own ws n H)(name:List UInt8)(hn:name.length<=1000000):LCalls (KC B0 w0) 141 [ptr k.tb 0,str name] H (qm8 (c.sc name) (TrH k own ws n)):=by
 obtain⟨a,ha1,ha2,ha3⟩:=hk.sc name;have ho:=hk.own;have h0:=h;obtain⟨v,Hv,hacc,rfl⟩:=h;rw[ha2];refine zcI Tryz.func141 rfl (n:=32) rfl rfl rfl ?_;refine gaq ?_;refine zQ23 ?_;rcases ha3 with⟨v3,hv3,rfl⟩|⟨hv3,hv4⟩;refine qP (Pure.kvHit2 rfl rfl zm1 hv3) rfl ?_;refine gab ?_;refine oC rfl (λhc=>?_) (λhc=>?_);refine gag ?_;refine oS (sF [_] rfl (qdp hG a zo) ?_) rfl;refine gaa ?_;exact rR rfl (zra rfl) zhr ⟨rfl,h0⟩;cases hc;refine qP (Pure.kvMiss2 rfl rfl zm1 hv3) rfl ?_;refine gab ?_;refine oC rfl (λhc=>?_) (λhc=>?_);cases hc;refine gac ?_;refine oP (Pure.kvOr rfl rfl zm1 hv4) rfl ?_;refine oS (sF [_] rfl (qdp hG a zo) ?_) rfl;refine gaf ?_;exact rR rfl (zra rfl) zhr ⟨rfl,h0⟩
theorem qdj(hG:GW B0 w0)(hk:TBok k c own)(h:TrH k own ws n H)(i:Nat)(hi:i<=2):LCalls (KC B0 w0) 140 [ptr k.tb 0,int .i64 (i:Nat)] H (qm8 (decDigits (k.sc+i)) (TrH k own ws n)):=by
 have h0:=h;obtain⟨v,Hv,hacc,rfl⟩:=h;have hs:=hk.small;have e1:int .i64 ((k.sc:Int)+(i:Int))=int .i64 ((k.sc+i:Nat):Int):=qao zo;refine zcI Tryz.func140 rfl (n:=12) rfl rfl rfl ?_;refine gac ?_;refine oS (sF [_] (by show [_]=_;exact congrArg (λx=>[x]) e1) (qdp hG (k.sc+i) zo) ?_) rfl;refine gaf ?_;exact rR rfl (zra rfl) zhr ⟨rfl,h0⟩
theorem qip(hG:GW B0 w0)(hk:TBok k c own)(h:TrH k own ws n H)(hr:ws.length+(qaZ c).length<=1000000000):LCalls (KC B0 w0) 242 [ptr k.tb 0] H (qh4 (TrH k own (ws++qaZ c) n)):=by
 have e:qaZ c=[c.t2,[33],c.t1,[33],c.t2,[64],c.t1,[64],[60]]:=rfl;rw[e] at hr ⊢;rw[hk.t1,hk.t2];rw[hk.t1,hk.t2] at hr;refine zcI Tryz.func242 rfl (n:=15) rfl rfl rfl ?_;refine gag ?_;refine oS (S.callS (F:=[]) [_,_] rfl qn7 (qdj hG hk h 1 zDd) λH1 h1=>?_) rfl;refine gaa ?_;refine oS (S.callS (H1:=H1) (F:=[]) [_,_] rfl qn7 (qdj hG hk h1 2 zDd) λH2 h2=>?_) rfl;refine gap ?_;refine oS (sL [_,_,_,_,_,_,_,_,_] rfl (qaF [_,_,_,_,_,_,_,_,_]) rfl rfl rfl ?_) rfl;refine oS (zsT (H1:=H2) (F:=[]) [_,_] rfl qn7 (qaD h2 [_,_,_,_,_,_,_,_,_] rfl hr) λH3 h3=>?_) rfl;refine gaf ?_;exact rO rfl rN zhr ⟨rfl,h3⟩
end
structure EnvOk(env:CEnv):Prop where
 sc:∀ s,qcd env s=0->s.length<=24
 fn:∀ k∈env.funcs,k.name.length<=24
theorem EnvOk.call{env:CEnv}(h:EnvOk env){name:Nm}{m:Nat}(hc:callE env name m=0):name.length<=24:=by
 unfold callE at hc;split at hc
 rename_i e;rw[e];decide
 split at hc
 rename_i e;rw[e];decide
 unfold CEnv.fn at hc
 cases hf:env.funcs.find? λf=>decide (f.name=name) with
 |none=>
  rw[hf] at hc;simp only at hc
  split at hc <;> cases hc
 |some k=>
  have e:k.name=name:=zt (List.find?_some (p:=λg:FSum=>decide (g.name=name)) hf);rw[<-e];exact h.fn k (List.mem_of_find?_eq_some hf)
section
variable{C:Ctx}{e:Env}{H:Heap}{dst:Option Nat}{ty:TypeId}{pos:String}{aft:Array Edge}{g:Option (Nat×Bool)}{K:LV->Heap->Prop}{X:List PanicEntry->Heap->Prop}
theorem qae.callT{f:FuncId} [TEnter C.P f](args:List Operand){ats:Array TypeId}{avs:List LV}{P:Heap->Prop}(has:args.map e.ev=avs)(hc:LCalls C f avs H (qh4 P))(hk:∀ H',P H'->K (.tuple []) H') :
  qae C ⟨dst,.call { callee:=.value (.func f),args:=args.toArray,argTypes:=ats },ty,pos,aft,g⟩ e H K X:=
 qae.conseq (zsT (F:=[]) (K:=λlv H'=>K lv H') (X:=X) args has (by rw[zLz]) hc (λH' h=>hk H' h)) (λlv H' h=>⟨lv,H',vR _,zhR _,h⟩)
end
section
variable{B0:Nat}{w0:World}
abbrev exB(b:Nat)(op:Nm)(num:Nat)(name:Nm)(args:List Ex):Nat×LObj:=(b,.cells 202 [str op,int .u32 (num:Int),str name,.list (args.map encE)])
def qn1(B0:Nat)(w0:World)(k:TB)(own:Nm)(c:CC)(env:CEnv)(m:Nat):Prop:=∀ (x:Ex) (ws:List Wd) (n:Nat) (H:Heap),ndE x<=m->numE x->errE env x=0->TrH k own ws n H->ws.length+(exW c x).length<=1000000000->LCalls (KC B0 w0) 178 [ptr k.tb 0,encE x] H (qh4 (TrH k own (ws++exW c x) n))
theorem qlH{k:TB}{own:Nm}{c:CC}{env:CEnv}{m:Nat}(ih:qn1 B0 w0 k own c env m)(l:List Ex)(ws:List Wd)(n:Nat)(H:Heap)(hm:ndEs l<=m)(hl:l.length<=2000000)(hnum:qdt l)(he:qbr env l=0)(h:TrH k own ws n H)(hr:ws.length+(exWl c l).flatten.length<=1000000000) :
  LCalls (KC B0 w0) 205 [ptr k.tb 0,.list (l.map encE)] H (qh4 (TrH k own (ws++(exWl c l).flatten) n)):=by
 have hall:(l.map encE).length=l.length:=zLm _;refine zcI Tryz.func205 rfl (n:=16) rfl rfl rfl ?_;refine gac ?_
 refine oL (λkk ls H'=>∃ (pre l1:List Ex) (ws':List Wd),l=pre++l1/\kk=l1.length/\ls=[(0,ptr k.tb 0),(6,.list (l.map encE)),(7,int .i64 ((l.map encE).length:Int)),(8,int .i64 (pre.length:Int))]/\TrH k own ws' n H'/\ws'++(exWl c l1).flatten=ws++(exWl c l).flatten/\qbr env l1=0/\qdt l1)
  ⟨l.length,_,_,⟨[],l,ws,rfl,rfl,rfl,h,rfl,he,hnum⟩,⟨rfl,rfl,rfl,rfl,trivial⟩,zhR _⟩ ?_
 rintro kk ls H' ⟨pre,l1,ws',hLe,rfl,rfl,hT,hW,he1,hn1⟩ j hj
 have hb2:pre.length<=2000000:=by
  have:=congrArg List.length hLe;rw[zLa] at this;omega
 refine gai ?_;refine oC rfl (λhc=>?_) (λhc=>?_);have hlen:=zt hc;rw[zLm,hLe,zLa] at hlen
 obtain⟨a,l2,rfl⟩:∃ a l2,l1=a::l2:=by
  cases l1 with
  |nil=>simp at hlen
  |cons a l2=>exact⟨a,l2,rfl⟩
 have ham:ndE a<=ndEs l:=qlG (by rw[hLe];exact mem_append_right _ zMs);rw[qbr] at he1;rw[qdt] at hn1;rw[exWl,List.flatten_cons,<-zAs] at hW;obtain⟨h1,h2⟩:=qah.1 he1;have hlw:=congrArg List.length hW;rw[zLa,zLa,zLa] at hlw;refine gaj ?_;refine oP (xR (el':=encE a) (cs:=[_,_,_,_]) rfl rfl zo (by rw[hLe];exact Chk.get_mid encE pre a l2) rfl rfl) rfl ?_;refine gad ?_;refine oS (sA λb8=>?_) rfl;refine gab ?_;refine oS (zsT (H1:=H') (F:=[_]) [_,_] rfl qa8 (ih a ws' n H' zo hn1.1 h1 hT zo) λH2 hT2=>?_) rfl;refine gar ?_;exact⟨l2.length,_,_,lt_succ_self _,⟨pre++[a],l2,ws'++exW c a,by rw[hLe];simp,rfl,rfl,hT2,hW,h2,hn1.2⟩,⟨rfl,rfl,rfl,qao (by simp),trivial⟩,qcy,hj⟩;have hlen:=zf hc;rw[zLm,hLe,zLa] at hlen
 obtain rfl:l1=[]:=by
  cases l1 with
  |nil=>rfl
  |cons a l2=>simp at hlen;omega
 rw[exWl,List.flatten_nil,zLz] at hW;refine gaa ?_;exact rO hj rN zhr ⟨rfl,by rw[<-hW];exact hT⟩
theorem qnu{k:TB}{own:Nm}{c:CC}{env:CEnv}{m:Nat}(ih:qn1 B0 w0 k own c env m)(b2 b3:Nat)(op:Nm)(num:Nat)(name:Nm)(x y:Ex)(ws:List Wd)(n:Nat)(H:Heap)(hx:ndE x<=m)(hy:ndE y<=m)(nx:numE x)(ny:numE y)(ex:errE env x=0)(ey:errE env y=0)(h:TrH k own ws n H)
  (A B:List Wd) {a b:LV} (ha:GL.elems a=some (A.map str)) (hb:GL.elems b=some (B.map str)) (hr:ws.length+(A++exW c x++B++exW c y).length<=1000000000) :
  LCalls (KC B0 w0) 241 [a,b,ptr b2 0,ptr b3 0] ((b2,.cells 129 [ptr k.tb 0])::exB b3 op num name [x,y]::H)
   (qh4 (λH'=>∃ H2,H'=(b2,.cells 129 [ptr k.tb 0])::exB b3 op num name [x,y]::H2/\TrH k own (ws++(A++exW c x++B++exW c y)) n H2)):=by
 simp only[zLa] at hr;refine zcI Tryz.func241 rfl (n:=24) rfl rfl rfl ?_;refine gac ?_;refine oP (pM (lv:=a) rfl) rfl ?_;refine oS (zsT (H1:=H) (F:=[_,_]) [_,_] rfl qes (qaD h A ha zo) λH2 h2=>?_) rfl;refine gaa ?_;refine zQ31 ?_;refine LAny.take (i:=3) qiL rfl zk zk zk rfl (xR (el':=encE x) (cs:=[_,_,_,_]) rfl rfl zDd rfl rfl rfl) ?_;refine aT 4 rfl rfl (pR (cs':=[_,_,_,_]) rfl rfl rfl) ?_;refine aL ?_ qiL;refine lO 5 (lS (H1:=H2) (F:=[_,_]) rfl (.inl rfl) rfl qes zhr (qae.callT [_,_] rfl (ih x _ n H2 hx nx ex h2 (by rw[zLa];omega)) λH3 h3=>?_));refine lD zk ?_;refine qN ?_;refine cW qqn ?_;refine gac ?_;refine oP (pM (lv:=b) rfl) rfl ?_;refine oS (zsT (H1:=H3) (F:=[_,_]) [_,_] rfl qes (qaD h3 B hb (by simp only[zLa];omega)) λH4 h4=>?_) rfl;refine gaf ?_;refine zQ31 ?_;refine LAny.take (i:=3) qiL rfl zk zk zk rfl (xR (el':=encE y) (cs:=[_,_,_,_]) rfl rfl zDd rfl rfl rfl) ?_;refine aT 4 rfl rfl (pR (cs':=[_,_,_,_]) rfl rfl rfl) ?_;refine aL ?_ qiL;refine lO 5 (lS (H1:=H4) (F:=[_,_]) rfl (.inl rfl) rfl qes zhr (qae.callT [_,_] rfl (ih y _ n H4 hy ny ey h4 (by simp only[zLa];omega)) λH5 h5=>?_));refine lD zk ?_
 exact rO rfl rN qqn ⟨rfl,H5,rfl,by
  simp only[zAs] at h5 ⊢
  exact h5⟩
end
theorem qi5(c:CC):exWl c []=[]:=by rw[exWl]
theorem qfx(c:CC)(x:Ex)(l:List Ex):exWl c (x::l)=exW c x::exWl c l:=by rw[exWl]
theorem qw0{env:CEnv}{op name:Nm}{args:List Ex}(h:qbv op = -1∨qbv op=args.length)(ho:qbv op=1):∃ x,args=[x]:=by
 have:args.length=1:=by omega
 exact List.length_eq_one_iff.1 this
theorem qvn{op:Nm}{args:List Ex}(h:qbv op = -1∨qbv op=args.length)(ho:qbv op=2):∃ x y,args=[x,y]:=by
 have h2:args.length=2:=by omega
 match args,h2 with
 |[x,y],_=>exact⟨x,y,rfl⟩
def binW(c:CC)(op:Nm):List Wd:=if op=[62] then qaZ c else if op=[60,61] then qaZ c++[[49],[94]] else if op=[62,61] then [[60],[49],[94]] else if op=[61,61] then [[94],[49],[60]] else [op]
def twoW(c:CC)(op:Nm)(X Y:List Wd):List Wd:=
 if op=[33,61] then [[48]]++X++[]++Y++[[94],[60]]
 else if op=[38,38] then [[48]]++X++[[60],[48]]++Y++[[60],[42]]
 else if op=[124,124] then [[48],[48]]++X++[[60],[48]]++Y++[[60],[43],[60]]
 else []++X++[]++Y++binW c op
theorem qwB(c:CC){op:Nm}(num:Nat)(name:Nm)(x y:Ex)(h1:op≠nNum)(h2:op≠nVar)(h3:op≠qec)(h4:op≠qbN)(h5:op≠nNeg)(h6:op≠nNot):exW c (.mk op num name [x,y])=twoW c op (exW c x) (exW c y):=by
 rw[exW,qfx,qfx,qi5];unfold opW twoW binW;rw[if_neg h1,if_neg h2,if_neg h3,if_neg h4,if_neg h5,if_neg h6];simp only[List.headD_cons,List.drop_one,List.tail_cons,nil_append,zLz,zAs,cons_append,List.singleton_append]
section
variable{B0:Nat}{w0:World}
theorem qgH(hG:GW B0 w0){k:TB}{own:Nm}{c:CC}(hk:TBok k c own){env:CEnv}{m:Nat}(ih:qn1 B0 w0 k own c env m)(op:Nm)(num:Nat)(name:Nm)(x y:Ex)(ws:List Wd)(n:Nat)(H:Heap)(hx:ndE x<=m)(hy:ndE y<=m)(nx:numE x)(ny:numE y)(ex:errE env x=0)(ey:errE env y=0)(h:TrH k own ws n H)
  (hr:ws.length+(twoW c op (exW c x) (exW c y)).length<=1000000000) :
  LCalls (KC B0 w0) 206 [ptr k.tb 0,encE (.mk op num name [x,y])] H (qh4 (TrH k own (ws++twoW c op (exW c x) (exW c y)) n)):=by
 rw[qdZ];generalize hW:twoW c op (exW c x) (exW c y)=W at hr ⊢;unfold twoW at hW;refine zcI Tryz.func206 rfl (n:=64) rfl rfl rfl ?_;refine gah ?_;refine oS (sB rfl λb2=>?_) rfl;refine oS (sB rfl λb3=>?_) rfl;refine LOps.weak (H':=(b2,.cells 129 [ptr k.tb 0])::exB b3 op num name [x,y]::H) ⟨[],by rw[zLz];exact List.Perm.swap _ _ _⟩ ?_;refine gab ?_;have hBT:=λ(A B:List Wd) {a b:LV} (ha:GL.elems a=some (A.map str)) (hb:GL.elems b=some (B.map str)) hr=>qnu (B0:=B0) (w0:=w0) ih b2 b3 op num name x y ws n H hx hy nx ny ex ey h A B ha hb hr
 by_cases h1:op=[33,61]
 rw[if_pos h1] at hW;refine oC rfl (λ_=>?_) (λhc=>absurd h1 (zf hc));refine gag ?_;refine zQ11 ?_;refine oS (S.callTV (f:=241) (F:=[]) [_,_] rfl rfl qn7 (hBT [[48]] [] rfl rfl (by rw[<-hW] at hr;simp only[zLa] at hr ⊢;omega)) ?_) rfl;rintro H1 ⟨H2,rfl,h2⟩;refine gac ?_;refine zQ5 ?_;refine oS (zsT (H1:=H2) (F:=[_,_]) [_,_] rfl qes (qaD h2 [[94],[60]] rfl (by rw[<-hW] at hr;simp only[zLa] at hr ⊢;omega)) λH3 h3=>?_) rfl;refine gaa ?_;exact rR rfl rN qiJ ⟨rfl,by rw[<-hW];simp only[zAs] at h3 ⊢;exact h3⟩;rw[if_neg h1] at hW;refine oC rfl (λhc=>absurd (zt hc) h1) (λ_=>?_);refine gal ?_
 by_cases h2:op=[38,38]
 rw[if_pos h2] at hW;refine oC rfl (λ_=>?_) (λhc=>absurd h2 (zf hc));refine gag ?_;refine zQ11 ?_;refine zQ5 ?_;refine oS (S.callTV (f:=241) (F:=[]) [_,_] rfl rfl qn7 (hBT [[48]] [[60],[48]] rfl rfl (by rw[<-hW] at hr;simp only[zLa] at hr ⊢;omega)) ?_) rfl;rintro H1 ⟨H2,rfl,h2⟩;refine gac ?_;refine zQ5 ?_;refine oS (zsT (H1:=H2) (F:=[_,_]) [_,_] rfl qes (qaD h2 [[60],[42]] rfl (by rw[<-hW] at hr;simp only[zLa] at hr ⊢;omega)) λH3 h3=>?_) rfl;refine gaa ?_;exact rR rfl rN qiJ ⟨rfl,by rw[<-hW];simp only[zAs] at h3 ⊢;exact h3⟩;rw[if_neg h2] at hW;refine oC rfl (λhc=>absurd (zt hc) h2) (λ_=>?_);refine gal ?_
 by_cases h3:op=[124,124]
 rw[if_pos h3] at hW;refine oC rfl (λ_=>?_) (λhc=>absurd h3 (zf hc));refine gag ?_;refine zQ5 ?_;refine zQ5 ?_;refine oS (S.callTV (f:=241) (F:=[]) [_,_] rfl rfl qn7 (hBT [[48],[48]] [[60],[48]] rfl rfl (by rw[<-hW] at hr;simp only[zLa] at hr ⊢;omega)) ?_) rfl;rintro H1 ⟨H2,rfl,h2⟩;refine zQ55 ?_;refine oS (zsT (H1:=H2) (F:=[_,_]) [_,_] rfl qes (qaD h2 [[60],[43],[60]] rfl (by rw[<-hW] at hr;simp only[zLa] at hr ⊢;omega)) λH3 h3=>?_) rfl;refine gaa ?_;exact rR rfl rN qiJ ⟨rfl,by rw[<-hW];simp only[zAs] at h3 ⊢;exact h3⟩;rw[if_neg h3] at hW;refine oC rfl (λhc=>absurd (zt hc) h3) (λ_=>?_);refine gac ?_;refine oS (S.callTV (f:=241) (F:=[]) [_,_] rfl rfl qn7 (hBT [] [] rfl rfl (by rw[<-hW] at hr;simp only[zLa] at hr ⊢;omega)) ?_) rfl;rintro H1 ⟨H2,rfl,h2⟩;generalize hX:ws++([]++exW c x++[]++exW c y)=wx at h2;have hW2:wx++binW c op=ws++W:=by rw[<-hW,<-hX];simp only[zAs]
 have hlw:=congrArg List.length hW2;rw[zLa,zLa] at hlw;unfold binW at hW2 hlw;refine gab ?_
 by_cases g1:op=[62]
 rw[if_pos g1] at hW2 hlw;refine oC rfl (λ_=>?_) (λhc=>absurd g1 (zf hc));refine gac ?_;refine oS (zsT (H1:=H2) (F:=[_,_]) [_] rfl qes (qip hG hk h2 zo) λH3 h3=>?_) rfl;refine gaa ?_;exact rO rfl rN qiJ ⟨rfl,by rw[<-hW2];exact h3⟩;rw[if_neg g1] at hW2 hlw;refine oC rfl (λhc=>absurd (zt hc) g1) (λ_=>?_);refine gal ?_
 by_cases g2:op=[60,61]
 rw[if_pos g2] at hW2 hlw;rw[zLa] at hlw;refine oC rfl (λ_=>?_) (λhc=>absurd g2 (zf hc));refine gac ?_;refine oS (zsT (H1:=H2) (F:=[_,_]) [_] rfl qes (qip hG hk h2 zo) λH3 h3=>?_) rfl;refine gac ?_;refine zQ5 ?_;refine oS (zsT (H1:=H3) (F:=[_,_]) [_,_] rfl qes (qaD h3 [[49],[94]] rfl (by rw[zLa];omega)) λH4 h4=>?_) rfl;refine gaa ?_;exact rO rfl rN qiJ ⟨rfl,by rw[<-hW2,<-zAs];exact h4⟩;rw[if_neg g2] at hW2 hlw;refine oC rfl (λhc=>absurd (zt hc) g2) (λ_=>?_);refine gal ?_
 by_cases g3:op=[62,61]
 rw[if_pos g3] at hW2 hlw;refine oC rfl (λ_=>?_) (λhc=>absurd g3 (zf hc));refine zQ55 ?_;refine oS (zsT (H1:=H2) (F:=[_,_]) [_,_] rfl qes (qaD h2 [[60],[49],[94]] rfl zo) λH3 h3=>?_) rfl;refine gaa ?_;exact rO rfl rN qiJ ⟨rfl,by rw[<-hW2];exact h3⟩;rw[if_neg g3] at hW2 hlw;refine oC rfl (λhc=>absurd (zt hc) g3) (λ_=>?_);refine gal ?_
 by_cases g4:op=[61,61]
 rw[if_pos g4] at hW2 hlw;refine oC rfl (λ_=>?_) (λhc=>absurd g4 (zf hc));refine zQ55 ?_;refine oS (zsT (H1:=H2) (F:=[_,_]) [_,_] rfl qes (qaD h2 [[94],[49],[60]] rfl zo) λH3 h3=>?_) rfl;refine gaa ?_;exact rO rfl rN qiJ ⟨rfl,by rw[<-hW2];exact h3⟩;rw[if_neg g4] at hW2 hlw;refine oC rfl (λhc=>absurd (zt hc) g4) (λ_=>?_);refine gab ?_;refine zQ11 ?_;refine oS (zsT (H1:=H2) (F:=[_,_]) [_,_] rfl qes (qaD h2 [op] rfl zo) λH3 h3=>?_) rfl;refine gaa ?_;exact rO rfl rN qiJ ⟨rfl,by rw[<-hW2];exact h3⟩
theorem qd6(hG:GW B0 w0){k:TB}{own:Nm}{c:CC}(hk:TBok k c own){env:CEnv}(hE:EnvOk env):∀ m:Nat,m<=2000000->qn1 B0 w0 k own c env m
 |0,_=>λx ws n H h=>by have:=qlP x;omega
 |m+1,hm6=>by
  have ih:=qd6 hG hk hE m zo;intro x ws n H hnd hnum herr h hr;obtain⟨op,num,name,args⟩:=x;rw[ndE] at hnd;rw[numE] at hnum;obtain⟨hnum,hna⟩:=hnum;have hal:=qf9 args;have hall:(args.map encE).length=args.length:=zLm _;rw[errE] at herr
  by_cases hop:qbv op = -1∨qbv op=args.length
  rotate_left;rw[if_neg hop] at herr;cases herr;rw[if_pos hop] at herr;obtain⟨he1,he2⟩:=qah.1 herr;have hW:exW c (Ex.mk op num name args)=opW c op num name (exWl c args):=by rw[exW]
  have hone:qbv op=1->∃ x,args=[x]:=λh1=>qw0 (env:=env) (name:=name) hop h1;rw[qdZ];refine zcI Tryz.func178 rfl (n:=98) rfl rfl rfl ?_;refine gah ?_;refine oS (sB rfl λb3=>?_) rfl;refine gac ?_
  by_cases h1:op=[110,117,109]
  have hW1:exW c (Ex.mk op num name args)=[decDigits num]:=by rw[hW];subst h1;rfl
  rw[hW1] at hr ⊢;refine oC rfl (λ_=>?_) (λhc=>absurd h1 (zf hc));refine gab ?_;refine oS (sF [_,_] (by show [int .u64 (IntKind.u64.wrap (num:Int)),_]=[int .u64 (num:Nat),int .i64 10];rw[qtc hnum];rfl) (fmtUint_spec hG num (by have:num<4294967296:=hnum;omega)) ?_) rfl;refine zQ11 ?_;refine oS (zsT (H1:=H) (F:=[_]) [_,_] rfl qa8 (qaD h [decDigits num] rfl hr) λH2 h2=>?_) rfl;refine gaa ?_;exact rO rfl rN qcy ⟨rfl,h2⟩;refine oC rfl (λhc=>absurd (zt hc) h1) (λ_=>?_);refine gal ?_
  by_cases h2:op=[118,97,114]
  have hW1:exW c (Ex.mk op num name args)=[c.sc name,[64]]:=by rw[hW];subst h2;rfl
  have hsc:qcd env name=0:=by rw[<-he2];subst h2;rfl
  have hnl:=hE.sc name hsc;rw[hW1] at hr ⊢;refine oC rfl (λ_=>?_) (λhc=>absurd h2 (zf hc));refine gac ?_;refine oS (S.callS (H1:=H) (F:=[_]) [_,_] rfl qa8 (qdc hG hk h name zo) λH2 h2=>?_) rfl;refine zQ5 ?_;refine oS (zsT (H1:=H2) (F:=[_]) [_,_] rfl qa8 (qaD h2 [c.sc name,[64]] rfl hr) λH3 h3=>?_) rfl;refine gaa ?_;exact rO rfl rN qcy ⟨rfl,h3⟩;refine oC rfl (λhc=>absurd (zt hc) h2) (λ_=>?_);refine gal ?_
  by_cases h3:op=[101,108,101,109]
  obtain⟨x,rfl⟩:=hone (by subst h3;rfl);have hW1:exW c (Ex.mk op num name [x])=[c.ar name]++(exW c x++[[43],[64]]):=by rw[hW,qfx,qi5];subst h3;rfl
  rw[hW1] at hr ⊢;simp only[zLa,zLc,zLn] at hr;rw[qbr] at he1;rw[qdt] at hna;rw[ndEs] at hnd;have hex:=(qah.1 he1).1;obtain⟨a,ha1,ha2,ha3⟩:=hk.ar name;refine oC rfl (λ_=>?_) (λhc=>absurd h3 (zf hc));refine gaa ?_;have h0:=h;obtain⟨v,Hv,hacc,rfl⟩:=h;refine cD (m:=11) rfl [exB b3 op num name [x]] ?_;refine zQ38 ?_;refine aL ?_ zhp;refine lO 4 (lH rfl rfl (pL (c:=.atom _) rfl zm1 rfl) ?_);refine lO 7 (lH rfl rfl (Pure.kvOr rfl rfl zm3 ha3) ?_);refine lO 8 (lS (H1:=[]) rfl (.inl rfl) rfl zpr zhp (sF [_] rfl (qdp hG a zo) ?_));rw[<-ha2];refine lO 9 (lS (H1:=[]) rfl (.inl rfl) rfl zpr zhp (sL [_] rfl (qaF [_]) rfl rfl rfl ?_));refine lO 10 (lS (F:=[exB b3 op num name [x]]) rfl (.inl rfl) rfl qa8 zhr (qae.callT [_,_] rfl (qaD h0 [c.ar name] rfl (by simp only[zLc,zLn];omega)) λH2 h2=>?_));refine lD zk ?_;refine qN ?_;refine cW qo8 ?_;refine zQ10 ?_;refine oS (zsT (H1:=H2) (F:=[_]) [_,_] rfl qa8 (ih x _ n H2 zo hna.1 hex h2 (by simp only[zLa,zLc,zLn];omega)) λH3 h3=>?_) rfl;refine gam ?_;refine zQ5 ?_;refine oS (zsT (H1:=H3) (F:=[_]) [_,_] rfl qa8 (qaD h3 [[43],[64]] rfl (by simp only[zLa,zLc,zLn];omega)) λH4 h4=>?_) rfl;refine gaa ?_;exact rO rfl rN qcy ⟨rfl,by rw[zAs,zAs] at h4;exact h4⟩;refine oC rfl (λhc=>absurd (zt hc) h3) (λ_=>?_);refine gal ?_
  by_cases h4:op=[99,97,108,108]
  have hcl:callE env name args.length=0:=by rw[<-he2];subst h4;rfl
  have hnl:=hE.call hcl;have hW1:exW c (Ex.mk op num name args)=(exWl c args).flatten++(if name=[105,110] then [[44]] else if name=[111,117,116] then [[46],[48]] else [[38,102,95]++name,[58]]):=by rw[hW];subst h4;rfl
  rw[hW1] at hr ⊢;rw[zLa] at hr;refine oC rfl (λ_=>?_) (λhc=>absurd h4 (zf hc));refine gab ?_;refine oS (zsT (H1:=H) (F:=[_]) [_,_] rfl qa8 (qlH ih args ws n H zo zo hna he1 h zo) λH2 h2=>?_) rfl;rw[<-zAs];generalize hX:ws++(exWl c args).flatten=wx at h2 ⊢;have hlx:=congrArg List.length hX;rw[zLa] at hlx;refine gac ?_
  by_cases g1:name=[105,110]
  rw[if_pos g1] at hr ⊢;refine oC rfl (λ_=>?_) (λhc=>absurd g1 (zf hc));refine gag ?_;refine zQ11 ?_;refine oS (zsT (H1:=H2) (F:=[_]) [_,_] rfl qa8 (qaD h2 [[44]] rfl zo) λH3 h3=>?_) rfl;refine gaa ?_;exact rO rfl rN qcy ⟨rfl,h3⟩;rw[if_neg g1] at hr ⊢;refine oC rfl (λhc=>absurd (zt hc) g1) (λ_=>?_);refine gal ?_
  by_cases g2:name=[111,117,116]
  rw[if_pos g2] at hr ⊢;refine oC rfl (λ_=>?_) (λhc=>absurd g2 (zf hc));refine gag ?_;refine zQ5 ?_;refine oS (zsT (H1:=H2) (F:=[_]) [_,_] rfl qa8 (qaD h2 [[46],[48]] rfl zo) λH3 h3=>?_) rfl;refine gaa ?_;exact rO rfl rN qcy ⟨rfl,h3⟩;rw[if_neg g2] at hr ⊢;refine oC rfl (λhc=>absurd (zt hc) g2) (λ_=>?_);refine gab ?_;refine zQ5 ?_;refine oS (zsT (H1:=H2) (F:=[_]) [_,_] rfl qa8 (qaD h2 [[38,102,95]++name,[58]] rfl zo) λH3 h3=>?_) rfl;refine gaa ?_;exact rO rfl rN qcy ⟨rfl,h3⟩;refine oC rfl (λhc=>absurd (zt hc) h4) (λ_=>?_);refine gal ?_
  by_cases h5:op=[110,101,103]
  obtain⟨x,rfl⟩:=hone (by subst h5;rfl);have hW1:exW c (Ex.mk op num name [x])=[[48]]++(exW c x++[[45]]):=by rw[hW,qfx,qi5];subst h5;rfl
  rw[hW1] at hr ⊢;simp only[zLa,zLc,zLn] at hr;rw[qbr] at he1;rw[qdt] at hna;rw[ndEs] at hnd;have hex:=(qah.1 he1).1;refine oC rfl (λ_=>?_) (λhc=>absurd h5 (zf hc));refine gag ?_;refine zQ11 ?_;refine oS (zsT (H1:=H) (F:=[_]) [_,_] rfl qa8 (qaD h [[48]] rfl (by simp only[zLc,zLn];omega)) λH2 h2=>?_) rfl;refine zQ10 ?_;refine oS (zsT (H1:=H2) (F:=[_]) [_,_] rfl qa8 (ih x _ n H2 zo hna.1 hex h2 (by simp only[zLa,zLc,zLn];omega)) λH3 h3=>?_) rfl;refine gam ?_;refine zQ11 ?_;refine oS (zsT (H1:=H3) (F:=[_]) [_,_] rfl qa8 (qaD h3 [[45]] rfl (by simp only[zLa,zLc,zLn];omega)) λH4 h4=>?_) rfl;refine gaa ?_;exact rO rfl rN qcy ⟨rfl,by rw[zAs,zAs] at h4;exact h4⟩;refine oC rfl (λhc=>absurd (zt hc) h5) (λ_=>?_);refine gal ?_
  by_cases h6:op=[110,111,116]
  obtain⟨x,rfl⟩:=hone (by subst h6;rfl);have hW1:exW c (Ex.mk op num name [x])=exW c x++[[49],[60]]:=by rw[hW,qfx,qi5];subst h6;rfl
  rw[hW1] at hr ⊢;simp only[zLa,zLc,zLn] at hr;rw[qbr] at he1;rw[qdt] at hna;rw[ndEs] at hnd;have hex:=(qah.1 he1).1;refine oC rfl (λ_=>?_) (λhc=>absurd h6 (zf hc));refine zQ10 ?_;refine oS (zsT (H1:=H) (F:=[_]) [_,_] rfl qa8 (ih x _ n H zo hna.1 hex h zo) λH3 h3=>?_) rfl;refine gam ?_;refine zQ5 ?_;refine oS (zsT (H1:=H3) (F:=[_]) [_,_] rfl qa8 (qaD h3 [[49],[60]] rfl (by simp only[zLa,zLc,zLn];omega)) λH4 h4=>?_) rfl;refine gaa ?_;exact rO rfl rN qcy ⟨rfl,by rw[zAs] at h4;exact h4⟩;refine oC rfl (λhc=>absurd (zt hc) h6) (λ_=>?_)
  have htwo:qbv op=2:=by
   unfold qbv at hop ⊢;rw[if_neg (λh=>h.elim h1 h2),if_neg (λh=>h.elim h3 (λh=>h.elim h5 h6)),if_neg (show ¬ op=qbN from h4)] at hop ⊢;split;rfl
   rename_i hb
   rw[if_neg hb] at hop;omega
  obtain⟨x,y,rfl⟩:=qvn hop htwo;have hW2:=qwB c num name x y h1 h2 h3 h4 h5 h6;rw[hW2] at hr ⊢;simp only[qbr] at he1;simp only[qdt] at hna;simp only[ndEs] at hnd;have hex:=qah.1 he1;refine gab ?_;refine oS (zsT (H1:=H) (F:=[_]) [_,_] rfl qa8 (qgH hG hk ih op num name x y ws n H zo zo hna.1 hna.2.1 hex.1 (qah.1 hex.2).1 h hr) λH3 h3=>?_) rfl;refine gaa ?_;exact rO rfl rN qcy ⟨rfl,h3⟩
end
mutual
theorem qt3(c:CC):∀ (s:Sm) (n:Nat),(stW c n s).2<=n+2 * ndS s
 |.mk kind name index value thn els,n=>by
  have ht:=λn=>qgY c thn n;have he:=λn=>qgY c els n;rw[ndS];unfold stW
  by_cases k1:kind=1
  rw[if_pos k1];simp only;omega;rw[if_neg k1]
  by_cases k2:kind=2
  rw[if_pos k2];simp only;omega;rw[if_neg k2]
  by_cases k3:kind=3
  rw[if_pos k3]
  cases els with
  |nil=>have:=ht (n+1);simp only;omega
  |cons a r=>have h1:=ht (n+2);have h2:=he (stWs c (n+2) thn).2;simp only;omega
  rw[if_neg k3]
  by_cases k4:kind=4
  have h1:=ht (n+2);rw[if_pos k4];simp only;omega;rw[if_neg k4]
  by_cases k5:kind=5
  rw[if_pos k5];simp only;omega;rw[if_neg k5]
  by_cases k6:kind=6
  rw[if_pos k6];simp only;omega;rw[if_neg k6]
  by_cases k7:kind=7
  rw[if_pos k7];simp only;omega;rw[if_neg k7];simp only;omega
theorem qgY(c:CC):∀ (l:List Sm) (n:Nat),(stWs c n l).2<=n+2 * ndSs l
 |[],n=>by rw[stWs,ndSs];simp
 |s::l,n=>by
  have h1:=qt3 c s n;have h2:=qgY c l (stW c n s).2;rw[stWs,ndSs];simp only;omega
end
theorem qtN(c:CC)(n:Nat)(s:Sm)(l:List Sm):stWs c n (s::l)=((stW c n s).1++(stWs c (stW c n s).2 l).1,(stWs c (stW c n s).2 l).2):=by rw[stWs]
theorem qmh(c:CC)(n:Nat):stWs c n []=([],n):=by rw[stWs]
theorem qje(x:Ex):([x]:List Ex).headD default=x:=rfl
theorem qqj:∀ {l:List Sm} {x:Sm},x∈l->ndS x<=ndSs l
 |g::l,f,h=>by
  rw[ndSs];rcases zMi.1 h with rfl|h;omega;have:=qqj h;omega
abbrev stB(b:Nat)(kind:Int)(name:Nm)(index value:List Ex)(thn els:List Sm):Nat×LObj:=(b,.cells 193 [int .i64 kind,str name,.list (index.map encE),.list (value.map encE),.list (thn.map encS),.list (els.map encS)])
section
variable{B0:Nat}{w0:World}
def qtj(B0:Nat)(w0:World)(k:TB)(own:Nm)(c:CC)(env:CEnv)(m:Nat):Prop:=∀ (l:List Sm) (ws:List Wd) (n:Nat) (H:Heap),ndSs l<=m->qcI l->qb0 env l=0->TrH k own ws n H->ws.length+(stWs c n l).1.length<=1000000000->n+2 * ndSs l<=1000000000->LCalls (KC B0 w0) 142 [ptr k.tb 0,.list (l.map encS)] H (qh4 (TrH k own (ws++(stWs c n l).1) (stWs c n l).2))
theorem qoP(hG:GW B0 w0){k:TB}{own:Nm}{c:CC}{env:CEnv}(hX:qn1 B0 w0 k own c env 2000000){m:Nat}(ih:qtj B0 w0 k own c env m)(name:Nm)(index:List Ex)(v:Ex)(thn els:List Sm)(ws:List Wd)(n:Nat)(H:Heap)(hv:ndE v<=2000000)(hm:ndSs thn+ndSs els<=m)(h2m:els.length<=2000000)
  (nv:numE v) (nt:qcI thn) (ne:qcI els) (ev:errE env v=0) (et:qb0 env thn=0) (ee:qb0 env els=0) (h:TrH k own ws n H) (hr:ws.length+(stW c n (.mk 3 name index [v] thn els)).1.length<=1000000000) (hN:n+2+2 * (ndSs thn+ndSs els)<=1000000000) :
  LCalls (KC B0 w0) 179 [ptr k.tb 0,encS (.mk 3 name index [v] thn els)] H (qh4 (TrH k own (ws++(stW c n (.mk 3 name index [v] thn els)).1) (stW c n (.mk 3 name index [v] thn els)).2)):=by
 have hlt:=qgY c thn (n+2);have hlab:∀ i:Nat,i<=1000000001->(labW i).length<=11:=λi hi=>qju zo;have hle:(els.map encS).length=els.length:=zLm _;rw[qcJ];refine zcI Tryz.func179 rfl (n:=65) rfl rfl rfl ?_;refine gah ?_;refine oS (sB rfl λb3=>?_) rfl;refine gam ?_;refine oS (S.callS (H1:=H) (F:=[_]) [_] rfl qa8 (qf6 hG h zo) λH1 h1=>?_) rfl;have hl0:=hlab n zo;refine gab ?_
 cases els with
 |nil=>
  have hS:stW c n (.mk 3 name index [v] thn [])=(exW c v++([38::labW n,[63]]++((stWs c (n+1) thn).1++[labW n++[58]])),(stWs c (n+1) thn).2):=by
   unfold stW;rw[if_neg zDd,if_neg zDd,if_pos rfl];simp only[qje,zAs]
  rw[hS] at hr ⊢;simp only[zLa,zLc,zLn] at hr;refine oC rfl (λ_=>?_) (λhc=>by cases hc);refine zQ36 ?_;refine oS (zsT (H1:=H1) (F:=[_]) [_,_] rfl qa8 (hX v ws (n+1) H1 hv nv ev h1 zo) λH2 h2=>?_) rfl;refine gab ?_;refine zQ5 ?_;refine oS (zsT (H1:=H2) (F:=[_]) [_,_] rfl qa8 (qaD h2 [38::labW n,[63]] rfl (by simp only[zLa,zLc,zLn];omega)) λH3 h3=>?_) rfl;refine gab ?_;refine oS (zsT (H1:=H3) (F:=[_]) [_,_] rfl qa8 (ih thn _ (n+1) H3 zo nt et h3 (by simp only[zLa,zLc,zLn];omega) zo) λH4 h4=>?_) rfl;refine gab ?_;refine zQ11 ?_;refine oS (zsT (H1:=H4) (F:=[_]) [_,_] rfl qa8 (qaD h4 [labW n++[58]] rfl (by simp only[zLa,zLc,zLn];omega)) λH5 h5=>?_) rfl;refine gaa ?_
  exact rR rfl rN qcy ⟨rfl,by simp only[zAs] at h5 ⊢;exact h5⟩
 |cons s0 r0=>
  have hS:stW c n (.mk 3 name index [v] thn (s0::r0))=(exW c v++([38::labW n,[63]]++((stWs c (n+2) thn).1++([[48],38::labW (n+1),[63],labW n++[58]]++((stWs c (stWs c (n+2) thn).2 (s0::r0)).1++[labW (n+1)++[58]])))),(stWs c (stWs c (n+2) thn).2 (s0::r0)).2):=by
   unfold stW;rw[if_neg zDd,if_neg zDd,if_pos rfl];simp only[qje,zAs]
  rw[hS] at hr ⊢;simp only[zLa,zLc,zLn] at hr;have hl1:=hlab (n+1) zo;generalize hels:s0::r0=els at *
  have hne:¬ ((els.map encS).length:Int)=0:=by
   rw[<-hels];simp only[zLm,zLc];omega
  refine oC rfl (λhc=>absurd (zt hc) hne) (λ_=>?_);refine gac ?_;refine oS (S.callS (H1:=H1) (F:=[_]) [_] rfl qa8 (qf6 hG h1 zo) λH1 h1=>?_) rfl;refine zQ36 ?_;refine oS (zsT (H1:=H1) (F:=[_]) [_,_] rfl qa8 (hX v ws (n+1+1) H1 hv nv ev h1 zo) λH2 h2=>?_) rfl;refine gab ?_;refine zQ5 ?_;refine oS (zsT (H1:=H2) (F:=[_]) [_,_] rfl qa8 (qaD h2 [38::labW n,[63]] rfl (by simp only[zLa,zLc,zLn];omega)) λH3 h3=>?_) rfl;refine gab ?_;refine oS (zsT (H1:=H3) (F:=[_]) [_,_] rfl qa8 (ih thn _ (n+2) H3 zo nt et h3 (by simp only[zLa,zLc,zLn];omega) zo) λH4 h4=>?_) rfl;refine gab ?_;refine oS (sL [_,_,_,_] rfl (qaF [_,_,_,_]) rfl rfl rfl ?_) rfl;refine oS (zsT (H1:=H4) (F:=[_]) [_,_] rfl qa8 (qaD h4 [[48],38::labW (n+1),[63],labW n++[58]] rfl (by simp only[zLa,zLc,zLn];omega)) λH5 h5=>?_) rfl;refine gab ?_;refine oS (zsT (H1:=H5) (F:=[_]) [_,_] rfl qa8 (ih els _ _ H5 zo ne ee h5 (by simp only[zLa,zLc,zLn];omega) zo) λH6 h6=>?_) rfl;refine gab ?_;refine zQ11 ?_;refine oS (zsT (H1:=H6) (F:=[_]) [_,_] rfl qa8 (qaD h6 [labW (n+1)++[58]] rfl (by simp only[zLa,zLc,zLn];omega)) λH7 h7=>?_) rfl;refine gaf ?_;exact rO rfl rN qcy ⟨rfl,by simp only[zAs] at h7 ⊢;exact h7⟩
theorem qtM(hG:GW B0 w0){k:TB}{own:Nm}{c:CC}{env:CEnv}(hX:qn1 B0 w0 k own c env 2000000){m:Nat}(ih:qtj B0 w0 k own c env m)(name:Nm)(index:List Ex)(v:Ex)(thn els:List Sm)(ws:List Wd)(n:Nat)(H:Heap)(hv:ndE v<=2000000)(hm:ndSs thn<=m)
  (nv:numE v) (nt:qcI thn) (ev:errE env v=0) (et:qb0 env thn=0) (h:TrH k own ws n H) (hr:ws.length+(stW c n (.mk 4 name index [v] thn els)).1.length<=1000000000) (hN:n+2+2 * ndSs thn<=1000000000) :
  LCalls (KC B0 w0) 180 [ptr k.tb 0,encS (.mk 4 name index [v] thn els)] H (qh4 (TrH k own (ws++(stW c n (.mk 4 name index [v] thn els)).1) (stW c n (.mk 4 name index [v] thn els)).2)):=by
 have hl0:(labW n).length<=11:=qju zo;have hl1:(labW (n+1)).length<=11:=qju zo
 have hS:stW c n (.mk 4 name index [v] thn els)=([labW n++[58]]++(exW c v++([38::labW (n+1),[63]]++((stWs c (n+2) thn).1++[[48],38::labW n,[63],labW (n+1)++[58]]))),(stWs c (n+2) thn).2):=by
  unfold stW;rw[if_neg zDd,if_neg zDd,if_neg zDd,if_pos rfl];simp only[qje,zAs]
 rw[hS] at hr ⊢;simp only[zLa,zLc,zLn] at hr;rw[qcJ];refine zcI Tryz.func180 rfl (n:=37) rfl rfl rfl ?_;refine gah ?_;refine oS (sB rfl λb3=>?_) rfl;refine gam ?_;refine oS (S.callS (H1:=H) (F:=[_]) [_] rfl qa8 (qf6 hG h zo) λH1 h1=>?_) rfl;refine gaa ?_;refine oS (S.callS (H1:=H1) (F:=[_]) [_] rfl qa8 (qf6 hG h1 zo) λH1 h1=>?_) rfl;refine gab ?_;refine zQ11 ?_;refine oS (zsT (H1:=H1) (F:=[_]) [_,_] rfl qa8 (qaD h1 [labW n++[58]] rfl (by simp only[zLa,zLc,zLn];omega)) λH2 h2=>?_) rfl;refine zQ36 ?_;refine oS (zsT (H1:=H2) (F:=[_]) [_,_] rfl qa8 (hX v _ (n+1+1) H2 hv nv ev h2 (by simp only[zLa,zLc,zLn];omega)) λH3 h3=>?_) rfl;refine gab ?_;refine zQ5 ?_;refine oS (zsT (H1:=H3) (F:=[_]) [_,_] rfl qa8 (qaD h3 [38::labW (n+1),[63]] rfl (by simp only[zLa,zLc,zLn];omega)) λH4 h4=>?_) rfl;refine gab ?_;refine oS (zsT (H1:=H4) (F:=[_]) [_,_] rfl qa8 (ih thn _ (n+2) H4 zo nt et h4 (by simp only[zLa,zLc,zLn];omega) zo) λH5 h5=>?_) rfl;refine gab ?_;refine oS (sL [_,_,_,_] rfl (qaF [_,_,_,_]) rfl rfl rfl ?_) rfl;refine oS (zsT (H1:=H5) (F:=[_]) [_,_] rfl qa8 (qaD h5 [[48],38::labW n,[63],labW (n+1)++[58]] rfl (by simp only[zLa,zLc,zLn];omega)) λH6 h6=>?_) rfl;refine gaf ?_;exact rO rfl rN qcy ⟨rfl,by simp only[zAs] at h6 ⊢;exact h6⟩
end
theorem qsf{name:List UInt8}{index value:List Ex}{thn els:List Sm}(h:qbR (.mk 2 name index value thn els)=true):∃ x,index=[x]:=by
 have h1:index.length=1:=by
  simp only[qbR] at h
  repeat' (split at h)
  all_goals first
   |(simp only[zDe] at h;omega)
   |cases h
   |contradiction
 exact List.length_eq_one_iff.1 h1
theorem qtS{kind:Int}{name:List UInt8}{index value:List Ex}{thn els:List Sm}(h:qbR (.mk kind name index value thn els)=true):kind=1∨kind=2∨kind=3∨kind=4∨kind=5∨kind=6∨kind=7:=by
 simp only[qbR] at h
 repeat' (split at h)
 all_goals first
  |omega
  |cases h
section
variable{B0:Nat}{w0:World}
theorem qf4(hG:GW B0 w0){k:TB}{own:Nm}{c:CC}(hk:TBok k c own){env:CEnv}(hE:EnvOk env):∀ m:Nat,m<=2000000->qtj B0 w0 k own c env m
 |0,_=>λl ws n H hm hnum herr h hr hN=>by
  have:l=[]:=by
   cases l with
   |nil=>rfl
   |cons s r=>have:=qon s;rw[ndSs] at hm;omega
  subst this;rw[qmh];refine zcI Tryz.func142 rfl (n:=97) rfl rfl rfl ?_;refine gac ?_;refine oL (λkk ls H'=>kk=0/\ls=[(0,ptr k.tb 0),(6,.list []),(7,int .i64 0),(8,int .i64 0)]/\H'=H) ⟨0,_,_,⟨rfl,rfl,rfl⟩,⟨rfl,rfl,rfl,rfl,trivial⟩,zhR _⟩ ?_;rintro kk ls H' ⟨rfl,rfl,rfl⟩ j hj;refine gai ?_;refine oC rfl (λhc=>by cases hc) (λhc=>?_);refine gaa ?_
  exact rO hj rN zhr ⟨rfl,by rw[zLz];exact h⟩
 |m+1,hm6=>by
  have ih:=qf4 hG hk hE m zo;have hX:qn1 B0 w0 k own c env 2000000:=qd6 hG hk hE 2000000 (zNr _);intro l ws n H hm hnum herr h hr hN;have hal:=qfb l;generalize hT:stWs c n l=T at hr ⊢;refine zcI Tryz.func142 rfl (n:=97) rfl rfl rfl ?_;refine gac ?_
  refine oL (λkk ls H'=>∃ (pre l1:List Sm) (ws':List Wd) (n':Nat),l=pre++l1/\kk=l1.length/\ls=[(0,ptr k.tb 0),(6,.list (l.map encS)),(7,int .i64 ((l.map encS).length:Int)),(8,int .i64 (pre.length:Int))]/\TrH k own ws' n' H'/\ws'++(stWs c n' l1).1=ws++T.1/\(stWs c n' l1).2=T.2/\n'+2 * ndSs l1<=1000000000/\qb0 env l1=0/\qcI l1)
   ⟨l.length,_,_,⟨[],l,ws,n,rfl,rfl,rfl,h,by rw[hT],by rw[hT],hN,herr,hnum⟩,⟨rfl,rfl,rfl,rfl,trivial⟩,zhR _⟩ ?_
  rintro kk ls H' ⟨pre,l1,ws',n',hLe,rfl,rfl,hTr,hW,hL,hN1,he1,hn1⟩ j hj
  have hb2:pre.length<=2000000:=by
   have:=congrArg List.length hLe;rw[zLa] at this;omega
  refine gai ?_;refine oC rfl (λhc=>?_) (λhc=>?_);rotate_left;have hlen:=zf hc;rw[zLm,hLe,zLa] at hlen
  obtain rfl:l1=[]:=by
   cases l1 with
   |nil=>rfl
   |cons a l2=>simp at hlen;omega
  rw[qmh,zLz] at hW;rw[qmh] at hL;simp only at hL;refine gaa ?_;exact rO hj rN zhr ⟨rfl,by rw[<-hW,<-hL];exact hTr⟩;have hlen:=zt hc;rw[zLm,hLe,zLa] at hlen
  obtain⟨s,l2,rfl⟩:∃ a l2,l1=a::l2:=by
   cases l1 with
   |nil=>simp at hlen
   |cons a l2=>exact⟨a,l2,rfl⟩
  have ham:ndS s<=ndSs l:=qqj (by rw[hLe];exact mem_append_right _ zMs);have hsl:=qt3 c s n';rw[qb0] at he1;rw[qcI] at hn1;rw[ndSs] at hN1;obtain⟨hns,hn2⟩:=hn1;obtain⟨hes,he2⟩:=qah.1 he1;rw[qtN] at hW hL;simp only at hW hL;rw[<-zAs] at hW;have hlw:=congrArg List.length hW;rw[zLa,zLa,zLa] at hlw;obtain⟨kind,name,index,value,thn,els⟩:=s;rw[errS] at hes
  by_cases hf:qbR (.mk kind name index value thn els)=false
  rw[if_pos hf] at hes;cases hes;rw[if_neg hf] at hes;rw[Bool.not_eq_false] at hf;obtain⟨e1,hes⟩:=qah.1 hes;obtain⟨e2,hes⟩:=qah.1 hes;obtain⟨e3,hes⟩:=qah.1 hes;obtain⟨e4,e5⟩:=qah.1 hes;rw[numS] at hns;obtain⟨n1,n2,n3,n4⟩:=hns;rw[ndS] at ham hN1 hsl;have hel:=qfb els;refine gaj ?_
  refine oP (xR (el':=.agg [int .i64 kind,str name,.list (index.map encE),.list (value.map encE),.list (thn.map encS),.list (els.map encS)]) (cs:=[_,_,_,_,_,_]) rfl rfl zo (by
   have h9:=Chk.get_mid encS pre (Sm.mk kind name index value thn els) l2;rw[qcJ] at h9;rw[hLe]
   exact h9) rfl rfl) rfl ?_
  refine gad ?_;refine oS (sA λb5=>?_) rfl;refine gab ?_
  have fin:∀ {e:Env} {Hx:Heap} (W:List Wd) (nx:Nat) (H2:Heap),stW c n' (.mk kind name index value thn els)=(W,nx)->TrH k own (ws'++W) nx H2->HSub H2 Hx->e.ds=j.ds ->
    (e.s 0=ptr k.tb 0/\e.s 6=.list (l.map encS)/\e.s 7=int .i64 ((l.map encS).length:Int)/\e.s 8=int .i64 ((pre.length:Int)+1)) ->
    ∃ k' ls' H3,k'<(Sm.mk kind name index value thn els::l2).length/\(∃ (pre l1:List Sm) (ws':List Wd) (n':Nat),l=pre++l1/\k'=l1.length/\ls'=[(0,ptr k.tb 0),(6,.list (l.map encS)),(7,int .i64 ((l.map encS).length:Int)),(8,int .i64 (pre.length:Int))]/\TrH k own ws' n' H3/\ws'++(stWs c n' l1).1=ws++T.1/\(stWs c n' l1).2=T.2/\n'+2 * ndSs l1<=1000000000/\qb0 env l1=0/\qcI l1)/\qcH e ls'/\HSub H3 Hx/\e.ds=[]:=by
   intro e Hx W nx H2 hS hT2 hsub hd hv;rw[hS] at hW hL hsl;simp only at hW hL hsl;exact⟨l2.length,_,H2,lt_succ_self _,⟨pre++[Sm.mk kind name index value thn els],l2,ws'++W,nx,by rw[hLe];simp,rfl,rfl,hT2,hW,hL,by omega,he2,hn2⟩,⟨hv.1,hv.2.1,hv.2.2.1,by rw[hv.2.2.2];exact qao (by simp),trivial⟩,hsub,hd.trans hj⟩
  by_cases k1:kind=1
  subst k1;obtain⟨x,rfl⟩:=Inp.form_value hf zDd;rw[qbr] at e1;rw[qdt] at n2;rw[ndEs,ndEs] at ham hN1 hsl;have hex:=(qah.1 e1).1;have hsc:qcd env name=0:=by rw[if_pos rfl] at e3;exact e3
  have hnl:=hE.sc name hsc;have hS:stW c n' (.mk 1 name index [x] thn els)=(exW c x++[c.sc name,[33]],n'):=by unfold stW;rw[if_pos rfl];rfl
  have hlS:=hlw;rw[hS] at hlS;simp only[zLa,zLc,zLn] at hlS;refine oC rfl (λ_=>?_) (λhc=>by cases hc);refine zQ10 ?_;refine oS (zsT (H1:=H') (F:=[_]) [_,_] rfl qa8 (hX x ws' n' H' zo n2.1 hex hTr zo) λH2 h2=>?_) rfl;refine gac ?_;refine oS (S.callS (H1:=H2) (F:=[_]) [_,_] rfl qa8 (qdc hG hk h2 name zo) λH3 h3=>?_) rfl;refine zQ5 ?_;refine oS (zsT (H1:=H3) (F:=[_]) [_,_] rfl qa8 (qaD h3 [c.sc name,[33]] rfl (by simp only[zLa,zLc,zLn];omega)) λH4 h4=>?_) rfl;refine gar ?_;exact fin _ _ H4 hS (by rw[<-zAs];exact h4) qcy rfl ⟨rfl,rfl,rfl,rfl⟩;refine oC rfl (λhc=>absurd (zt hc) k1) (λ_=>?_);refine gan ?_
  by_cases k2:kind=2
  subst k2;obtain⟨x,rfl⟩:=Inp.form_value hf zDd;obtain⟨y,rfl⟩:=qsf hf;rw[qbr] at e1 e2;rw[qdt] at n1 n2;rw[ndEs,ndEs,ndEs,ndEs] at ham hN1 hsl;have hex:=(qah.1 e1).1;have hey:=(qah.1 e2).1;obtain⟨a,ha1,ha2,ha3⟩:=hk.ar name;have hS:stW c n' (.mk 2 name [y] [x] thn els)=(exW c x++([c.ar name]++(exW c y++[[43],[33]])),n'):=by unfold stW;rw[if_neg zDd,if_pos rfl];rfl
  have hlS:=hlw;rw[hS] at hlS;simp only[zLa,zLc,zLn] at hlS;refine oC rfl (λ_=>?_) (λhc=>by cases hc);refine zQ10 ?_;refine oS (zsT (H1:=H') (F:=[_]) [_,_] rfl qa8 (hX x ws' n' H' zo n2.1 hex hTr zo) λH2 h2=>?_) rfl;refine gaa ?_;have h0:=h2;obtain⟨v,Hv,hacc,rfl⟩:=h2;refine cD (m:=11) rfl [stB b5 2 name [y] [x] thn els] ?_;refine zQ38 ?_;refine aL ?_ qtp;refine lO 4 (lH rfl rfl (pL (c:=.atom _) rfl zm1 rfl) ?_);refine lO 7 (lH rfl rfl (Pure.kvOr rfl rfl zm3 ha3) ?_);refine lO 8 (lS (H1:=[]) rfl (.inl rfl) rfl zpr qtp (sF [_] rfl (qdp hG a zo) ?_));rw[<-ha2];refine lO 9 (lS (H1:=[]) rfl (.inl rfl) rfl zpr qtp (sL [_] rfl (qaF [_]) rfl rfl rfl ?_));refine lO 10 (lS (F:=[stB b5 2 name [y] [x] thn els]) rfl (.inl rfl) rfl qa8 zhr (qae.callT [_,_] rfl (qaD h0 [c.ar name] rfl (by simp only[zLa,zLc,zLn];omega)) λH2 h2=>?_));refine lD zk ?_;refine qN ?_;refine cW qo8 ?_;refine gab ?_;refine oP (xR (el':=encE y) (cs:=[_,_,_,_]) rfl rfl zDd rfl rfl rfl) rfl ?_;refine gad ?_;refine oS (zsT (H1:=H2) (F:=[_]) [_,_] rfl qa8 (hX y _ n' H2 zo n1.1 hey h2 (by simp only[zLa,zLc,zLn];omega)) λH3 h3=>?_) rfl;refine gam ?_;refine zQ5 ?_;refine oS (zsT (H1:=H3) (F:=[_]) [_,_] rfl qa8 (qaD h3 [[43],[33]] rfl (by simp only[zLa,zLc,zLn];omega)) λH4 h4=>?_) rfl;refine gar ?_;exact fin _ _ H4 hS (by simp only[zAs] at h4 ⊢;exact h4) qcy rfl ⟨rfl,rfl,rfl,rfl⟩;refine oC rfl (λhc=>absurd (zt hc) k2) (λ_=>?_);refine gan ?_
  by_cases k3:kind=3
  subst k3;obtain⟨x,rfl⟩:=Inp.form_value hf zDd;rw[qbr] at e1;rw[qdt] at n2;rw[ndEs,ndEs] at ham hN1 hsl;have hex:=(qah.1 e1).1;refine oC rfl (λ_=>?_) (λhc=>by cases hc);refine gab ?_;refine oS (zsT (H1:=H') (F:=[_]) [_,_] (by show [ptr k.tb 0,_]=_;rw[qcJ];rfl) qa8 (qoP hG hX ih name index x thn els ws' n' H' zo zo zo n2.1 n3 n4 hex e4 e5 hTr zo zo) λH2 h2=>?_) rfl;refine gar ?_;exact fin _ _ H2 rfl h2 qcy rfl ⟨rfl,rfl,rfl,rfl⟩;refine oC rfl (λhc=>absurd (zt hc) k3) (λ_=>?_);refine gan ?_
  by_cases k4:kind=4
  subst k4;obtain⟨x,rfl⟩:=Inp.form_value hf zDd;rw[qbr] at e1;rw[qdt] at n2;rw[ndEs,ndEs] at ham hN1 hsl;have hex:=(qah.1 e1).1;refine oC rfl (λ_=>?_) (λhc=>by cases hc);refine gab ?_;refine oS (zsT (H1:=H') (F:=[_]) [_,_] (by show [ptr k.tb 0,_]=_;rw[qcJ];rfl) qa8 (qtM hG hX ih name index x thn els ws' n' H' zo zo n2.1 n3 hex e4 hTr zo zo) λH2 h2=>?_) rfl;refine gar ?_;exact fin _ _ H2 rfl h2 qcy rfl ⟨rfl,rfl,rfl,rfl⟩;refine oC rfl (λhc=>absurd (zt hc) k4) (λ_=>?_);refine gan ?_
  by_cases k5:kind=5
  subst k5;obtain⟨x,rfl⟩:=Inp.form_value hf zDd;rw[qbr] at e1;rw[qdt] at n2;rw[ndEs,ndEs] at ham hN1 hsl;have hex:=(qah.1 e1).1;have hS:stW c n' (.mk 5 name index [x] thn els)=(exW c x++[[59]],n'):=by unfold stW;rw[if_neg zDd,if_neg zDd,if_neg zDd,if_neg zDd,if_pos rfl];rfl
  have hlS:=hlw;rw[hS] at hlS;simp only[zLa,zLc,zLn] at hlS;refine oC rfl (λ_=>?_) (λhc=>by cases hc);refine zQ10 ?_;refine oS (zsT (H1:=H') (F:=[_]) [_,_] rfl qa8 (hX x ws' n' H' zo n2.1 hex hTr zo) λH2 h2=>?_) rfl;refine gam ?_;refine zQ11 ?_;refine oS (zsT (H1:=H2) (F:=[_]) [_,_] rfl qa8 (qaD h2 [[59]] rfl (by simp only[zLa,zLc,zLn];omega)) λH4 h4=>?_) rfl;refine gar ?_;exact fin _ _ H4 hS (by rw[<-zAs];exact h4) qcy rfl ⟨rfl,rfl,rfl,rfl⟩;refine oC rfl (λhc=>absurd (zt hc) k5) (λ_=>?_);refine gan ?_
  by_cases k6:kind=6
  subst k6;obtain⟨x,rfl⟩:=Inp.form_value hf zDd;rw[qbr] at e1;rw[qdt] at n2;rw[ndEs,ndEs] at ham hN1 hsl;have hex:=(qah.1 e1).1;have hS:stW c n' (.mk 6 name index [x] thn els)=(exW c x++[c.t0,[33]],n'):=by unfold stW;rw[if_neg zDd,if_neg zDd,if_neg zDd,if_neg zDd,if_neg zDd,if_pos rfl];rfl
  have hlS:=hlw;rw[hS] at hlS;simp only[zLa,zLc,zLn] at hlS;refine oC rfl (λ_=>?_) (λhc=>by cases hc);refine zQ10 ?_;refine oS (zsT (H1:=H') (F:=[_]) [_,_] rfl qa8 (hX x ws' n' H' zo n2.1 hex hTr zo) λH2 h2=>?_) rfl;refine gam ?_
  refine oS (S.callS (H1:=H2) (F:=[_]) [_,_] rfl qa8 (by
   have h9:=qdj (B0:=B0) (w0:=w0) hG hk h2 0 zDd;rw[Nat.add_zero,<-hk.t0] at h9
   exact h9) λH3 h3=>?_) rfl
  refine zQ5 ?_;refine oS (zsT (H1:=H3) (F:=[_]) [_,_] rfl qa8 (qaD h3 [c.t0,[33]] rfl (by simp only[zLa,zLc,zLn];omega)) λH4 h4=>?_) rfl;refine gar ?_;exact fin _ _ H4 hS (by rw[<-zAs];exact h4) qcy rfl ⟨rfl,rfl,rfl,rfl⟩;refine oC rfl (λhc=>absurd (zt hc) k6) (λ_=>?_);refine gan ?_;have k7:kind=7:=by have:=qtS hf;omega
  subst k7;have hS:stW c n' (.mk 7 name index value thn els)=([[36]],n'):=by unfold stW;rw[if_neg zDd,if_neg zDd,if_neg zDd,if_neg zDd,if_neg zDd,if_neg zDd,if_pos rfl]
  have hlS:=hlw;rw[hS] at hlS;simp only[zLa,zLc,zLn] at hlS;refine oC rfl (λ_=>?_) (λhc=>by cases hc);refine gag ?_;refine zQ11 ?_;refine oS (zsT (H1:=H') (F:=[_]) [_,_] rfl qa8 (qaD hTr [[36]] rfl (by simp only[zLa,zLc,zLn];omega)) λH4 h4=>?_) rfl;refine gar ?_;exact fin _ _ H4 hS h4 qcy rfl ⟨rfl,rfl,rfl,rfl⟩
end
abbrev parW(c:CC)(l:List Nm):List Wd:=l.flatMap λp=>[c.sc p,[33]]
theorem qr6(c:CC)(p:Nm)(l:List Nm):parW c (p::l)=[c.sc p,[33]]++parW c l:=by
 unfold parW;rw[List.flatMap_cons]
theorem quY(cc:Nm->CC)(n:Nat):fnWs cc n []=([],n):=by rw[fnWs]
theorem qtC(cc:Nm->CC)(n:Nat)(f:FnD)(l:List FnD):fnWs cc n (f::l)=((fnW (cc f.name) n f).1++(fnWs cc (fnW (cc f.name) n f).2 l).1,(fnWs cc (fnW (cc f.name) n f).2 l).2):=by rw[fnWs]
theorem qxX(c:CC)(n:Nat)(f:FnD):fnW c n f=([[102,95]++f.name++[58]]++(parW c f.params.reverse++((stWs c n f.body).1++[[48],[59]])),(stWs c n f.body).2):=by
 unfold fnW parW;simp only[zAs]
theorem qvD{l:List Nm}{i:Nat}(h:i<l.length):(l.take (i+1)).reverse=l[i]::(l.take i).reverse:=by
 rw[take_succ_eq_append_getElem h,List.reverse_append];rfl
structure FnT(k:TB)(cc:Nm->CC)(f:FnD):Prop where
 tb:TBok k (cc f.name) f.name
 name:f.name.length<=24
 params:∀ p∈f.params,p.length<=1000000
 num:qcI f.body
 env:∃ env,EnvOk env/\qb0 env f.body=0
section
variable{B0:Nat}{w0:World}
theorem qcn(hG:GW B0 w0){k:TB}{cc:Nm->CC}(hsm:k.sc<=1000000000)(vars:List Nm)(arrays:List (Nm×Int))(fs:List FnD)(hnd:ndFs fs<=2000000)(hf:∀ f∈fs,FnT k cc f){own0:Nm}{c0:CC}(hk0:TBok k c0 own0)(H:Heap)(h:TrH k own0 [] 0 H)
  (hr:5+(fnWs cc 0 fs).1.length<=1000000000) :
  LCalls (KC B0 w0) 82 [ptr k.tb 0,Chk.encPrG vars arrays fs] H (qh4 (λH'=>∃ own n,TrH k own ([[38,102,95,109,97,105,110],[58],decDigits k.sc,[33],[36]]++(fnWs cc 0 fs).1) n H')):=by
 have hal:=qjb fs;have hall:(fs.map qa7).length=fs.length:=zLm _;refine zcI Tryz.func82 rfl (n:=57) rfl rfl rfl ?_;refine gah ?_;refine oS (sB rfl λb3=>?_) rfl;refine gam ?_
 refine oS (S.callS (H1:=H) (F:=[_]) [_,_] rfl qa8 (by
  have h9:=qdj (B0:=B0) (w0:=w0) hG hk0 h 0 zDd;rw[Nat.add_zero] at h9
  exact h9) λH1 h1=>?_) rfl
 refine oS (sL [_,_,_,_,_] rfl (qaF [_,_,_,_,_]) rfl rfl rfl ?_) rfl;refine oS (zsT (H1:=H1) (F:=[_]) [_,_] rfl qa8 (qaD h1 [[38,102,95,109,97,105,110],[58],decDigits k.sc,[33],[36]] rfl (by simp only[zLc,zLn];omega)) λH2 h2=>?_) rfl;rw[nil_append] at h2;refine gab ?_;generalize hP:([[38,102,95,109,97,105,110],[58],decDigits k.sc,[33],[36]]:List Wd)=P5 at h2 ⊢;have hP5:P5.length=5:=by rw[<-hP];rfl
 clear hP;generalize hT:fnWs cc 0 fs=T at hr ⊢
 refine oL (λkk ls H'=>∃ (pre l1:List FnD) (ws':List Wd) (n':Nat) (own:Nm),fs=pre++l1/\kk=l1.length/\ls=[(0,ptr k.tb 0),(13,.list (fs.map qa7)),(14,int .i64 ((fs.map qa7).length:Int)),(15,int .i64 (pre.length:Int))]/\TrH k own ws' n' H'/\ws'++(fnWs cc n' l1).1=P5++T.1/\n'+2 * ndFs l1<=1000000000)
  ⟨fs.length,_,_,⟨[],fs,P5,0,own0,rfl,rfl,rfl,h2,by rw[hT],by omega⟩,⟨rfl,rfl,rfl,rfl,trivial⟩,qcy⟩ ?_
 rintro kk ls H' ⟨pre,l1,ws',n',own,hLe,rfl,rfl,hTr,hW,hN1⟩ j hj
 have hb2:pre.length<=2000000:=by
  have:=congrArg List.length hLe;rw[zLa] at this;omega
 refine gai ?_;refine oC rfl (λhc=>?_) (λhc=>?_);rotate_left;have hlen:=zf hc;rw[zLm,hLe,zLa] at hlen
 obtain rfl:l1=[]:=by
  cases l1 with
  |nil=>rfl
  |cons a l2=>simp at hlen;omega
 rw[quY,zLz] at hW;refine gaa ?_;exact rO hj rN zhr ⟨rfl,own,n',by rw[<-hW];exact hTr⟩;have hlen:=zt hc;rw[zLm,hLe,zLa] at hlen
 obtain⟨f,l2,rfl⟩:∃ a l2,l1=a::l2:=by
  cases l1 with
  |nil=>simp at hlen
  |cons a l2=>exact⟨a,l2,rfl⟩
 have hfm:f∈fs:=by rw[hLe];exact mem_append_right _ zMs
 have hnf:=qiX hfm;obtain⟨hk,hnm,hpm,hnum,env,hE,herr⟩:=hf f hfm;rw[ndFs] at hN1;have hbl:=qgY (cc f.name) f.body n';have hpl:(f.params.map str).length=f.params.length:=zLm _;unfold ndF at hnf hN1;rw[qtC] at hW;rw[qxX] at hW;simp only at hW;have hlw:=congrArg List.length hW;simp only[zLa,zLc,zLn] at hlw;obtain⟨v,Hv,hacc,rfl⟩:=hTr;refine gaj ?_;refine oP (xR (el':=qa7 f) (cs:=[_,_,_,_]) rfl rfl zo (by rw[hLe];exact Chk.get_mid qa7 pre f l2) rfl rfl) rfl ?_;refine gad ?_;refine oS (sA λb5=>?_) rfl;refine gab ?_
 first|(refine oS (sS (cs':=[_,_,_,_,_,_]) rfl zp1 rfl rfl rfl rfl rfl ?_) rfl)|skip
 refine gab ?_;have h1:TrH k f.name ws' n' ((k.tb,.cells 132 [v,int .i64 (n':Nat),int .i64 (k.sc:Nat),.atom (.map (some k.sm)),.atom (.map (some k.am)),str f.name])::(k.sm,.map (kvs k.S) k.g1)::(k.am,.map (kvs k.A) k.g2)::Hv):=⟨v,Hv,hacc,rfl⟩;refine LOps.weak (H':=(b5,.cells 110 [str f.name,.list (f.params.map str),.list (f.locals.map str),.list (f.body.map encS)])::(k.tb,.cells 132 [v,int .i64 (n':Nat),int .i64 (k.sc:Nat),.atom (.map (some k.sm)),.atom (.map (some k.am)),str f.name])::(k.sm,.map (kvs k.S) k.g1)::(k.am,.map (kvs k.A) k.g2)::Hv) ⟨[],by rw[zLz];exact List.Perm.swap _ _ _⟩ ?_;generalize ((k.tb,.cells 132 [v,int .i64 (n':Nat),int .i64 (k.sc:Nat),.atom (.map (some k.sm)),.atom (.map (some k.am)),str f.name])::(k.sm,.map (kvs k.S) k.g1)::(k.am,.map (kvs k.A) k.g2)::Hv:Heap)=H1 at h1 ⊢;refine zQ11 ?_;refine oS (zsT (H1:=H1) (F:=[_]) [_,_] rfl qa8 (qaD h1 [[102,95]++f.name++[58]] rfl (by simp only[zLc,zLn];omega)) λH2 h2=>?_) rfl;refine gab ?_
 refine oL (λkk ls H'=>∃ (i:Nat) (ws2:List Wd) (H3:Heap),i<=f.params.length/\kk=i/\ls=[(0,ptr k.tb 0),(5,ptr b5 0),(6,int .i64 ((i:Int)-1)),(13,.list (fs.map qa7)),(14,int .i64 ((fs.map qa7).length:Int)),(15,int .i64 (pre.length:Int))]/\H'=(b5,.cells 110 [str f.name,.list (f.params.map str),.list (f.locals.map str),.list (f.body.map encS)])::H3/\TrH k f.name ws2 n' H3/\ws2++parW (cc f.name) (f.params.take i).reverse=ws'++[[102,95]++f.name++[58]]++parW (cc f.name) f.params.reverse)
  ⟨f.params.length,_,_,⟨f.params.length,_,H2,zNr _,rfl,rfl,rfl,h2,by rw[take_length]⟩,⟨rfl,rfl,by rw[<-hpl];rfl,rfl,rfl,rfl,trivial⟩,zhR _⟩ ?_
 rintro kk ls H' ⟨i,ws2,H3,hi,rfl,rfl,rfl,h3,hW3⟩ j2 hj2;refine gab ?_;refine oC rfl (λhc=>?_) (λhc=>?_);have hge:=zt hc;obtain⟨i,rfl⟩:∃ i',kk=i'+1:=⟨kk-1,by omega⟩;have hlt:i<f.params.length:=by omega
 rw[qvD hlt,qr6] at hW3;have hlw3:=congrArg List.length hW3;simp only[zLa,zLc,zLn] at hlw3;have hpi:=hpm _ (getElem_mem hlt);refine gab ?_;refine oP (xR (el':=str f.params[i]) (cs:=[str f.params[i]]) rfl rfl zo (by rw[show(((i+1:Nat):Int)-1).toNat=i by omega,List.getElem?_map,List.getElem?_eq_getElem hlt];rfl) rfl rfl) rfl ?_;refine gad ?_;refine oS (S.callS (H1:=H3) (F:=[_]) [_,_] rfl qa8 (qdc hG hk h3 f.params[i] zo) λH4 h4=>?_) rfl;refine zQ5 ?_;refine oS (zsT (H1:=H4) (F:=[_]) [_,_] rfl qa8 (qaD h4 [(cc f.name).sc f.params[i],[33]] rfl (by simp only[zLc,zLn];omega)) λH5 h5=>?_) rfl;refine gab ?_;exact⟨i,_,_,lt_succ_self _,⟨i,_,H5,by omega,rfl,rfl,rfl,h5,by rw[zAs];exact hW3⟩,⟨rfl,rfl,qao zo,rfl,rfl,rfl,trivial⟩,zhR _,hj2⟩;have hlt:=zf hc;obtain rfl:kk=0:=by omega
 rw[List.take_zero,List.reverse_nil,show parW (cc f.name) []=[] from rfl,zLz] at hW3;have hlw3:=congrArg List.length hW3;simp only[zLa,zLc,zLn] at hlw3;refine gab ?_;refine oS (zsT (H1:=H3) (F:=[_]) [_,_] rfl qa8 (qf4 hG hk hE (ndSs f.body) zo f.body ws2 n' H3 (zNr _) hnum herr h3 zo zo) λH4 h4=>?_) rfl;refine gam ?_;refine zQ5 ?_;refine oS (zsT (H1:=H4) (F:=[_]) [_,_] rfl qa8 (qaD h4 [[48],[59]] rfl (by simp only[zLa,zLc,zLn];omega)) λH5 h5=>?_) rfl;refine gar ?_
 exact⟨l2.length,_,_,lt_succ_self _,⟨pre++[f],l2,_,_,f.name,by rw[hLe];simp,rfl,rfl,h5,by
  rw[hW3];simp only[zAs] at hW ⊢
  exact hW,by omega⟩,⟨rfl,rfl,rfl,qao (by simp),trivial⟩,qcy,hj2.trans hj⟩
end
def qfd(r:Int×Int):LV:=.agg [int .i64 r.1,int .i64 r.2]
def qkv(o:Org):LV:=.agg [int .i64 o.code,int .i64 o.scalars,int .i64 o.arrays]
def qqx(p:Nm×Int):LV:=.agg [str p.1,int .i64 p.2]
def I64(n:Int):Prop := -9223372036854775808<=n/\n<9223372036854775808
def SmI(n:Int):Prop := -1000000000000<=n/\n<=1000000000000
theorem qpg{l:List Int}{i:Nat}(h:i<l.length):(l.take (i+1)).sum=(l.take i).sum+l[i]:=by
 rw[take_succ_eq_append_getElem h,List.sum_append]
 simp
theorem qc4:∀ (l:List Int) (i:Nat),(∀ n∈l,0<n)->0<=(l.take i).sum/\(l.take i).sum<=l.sum
 |[],i,_=>by simp
 |a::l,0,h=>by
  have:=qc4 l l.length λn hn=>h n (zMo _ hn);have h1:=h a zMs;rw[take_length] at this;rw[List.take_zero,List.sum_nil,sum_cons]
  omega
 |a::l,i+1,h=>by
  have:=qc4 l i λn hn=>h n (zMo _ hn);have h1:=h a zMs;rw[List.take_succ_cons,sum_cons,sum_cons];omega
theorem qt1{l:List (Nm×Int)}{i:Nat}(h:i<l.length)(a:Int):symA a (l.take (i+1))=symA a (l.take i)++[(l[i].1,a+((l.map (·.2)).take i).sum)]:=by
 rw[take_succ_eq_append_getElem h,qpO,<-List.map_take];rfl
section
variable{B0:Nat}{w0:World}
theorem qo4(r:Int×Int)(h2:SmI r.2):LCalls (KC B0 w0) 135 [qfd r] [] (Ret (bool (qfv r))):=by
 obtain⟨a,n⟩:=r;unfold SmI at h2;simp only at h2;have hI:qfv (a,n)=decide (0<=a/\a<=262144-n):=rfl;unfold qfd;refine zcI Tryz.func135 rfl (n:=14) rfl rfl rfl ?_;refine gah ?_;refine oS (sB rfl λb1=>?_) rfl;refine gab ?_;refine oB 6 rfl (λh=>?_) (λh=>?_);have h1:a ≥ 0:=zt h;refine gad ?_
 exact qac rfl (zra rfl) (qau (by
  rw[hI,Bool.eq_iff_iff,decide_eq_true_iff,decide_eq_true_iff]
  omega))
 have h1:¬ a ≥ 0:=zf h;refine gaa ?_
 exact qac rfl (zra rfl) (qau (by
  rw[hI]
  symm
  exact decide_eq_false zo))
theorem qqF(r s:Int×Int)(h1:SmI r.1)(h2:SmI r.2)(h3:SmI s.1)(h4:SmI s.2):LCalls (KC B0 w0) 136 [qfd r,qfd s] [] (Ret (bool (qjq r s))):=by
 obtain⟨a,n⟩:=r;obtain⟨b,m⟩:=s;unfold SmI at h1 h2 h3 h4;simp only at h1 h2 h3 h4;have hI:qjq (a,n) (b,m)=decide (0<n/\0<m/\a<b+m/\b<a+n):=rfl;unfold qfd;refine zcI Tryz.func136 rfl (n:=33) rfl rfl rfl ?_;refine gah ?_;refine oS (sB rfl λb1=>?_) rfl;refine oS (sB rfl λb2=>?_) rfl;refine gab ?_;refine oB 8 rfl (λg1=>?_) (λg1=>?_);rotate_left;have g1':¬ n > 0:=zf g1;refine gaa ?_;exact qac rfl (zra rfl) (qau (by rw[hI];symm;exact decide_eq_false zo));have g1':n > 0:=zt g1;refine gad ?_;refine oB 13 rfl (λg2=>?_) (λg2=>?_);rotate_left;have g2':¬ m > 0:=zf g2;refine gaa ?_;exact qac rfl (zra rfl) (qau (by rw[hI];symm;exact decide_eq_false zo));have g2':m > 0:=zt g2;refine gad ?_;refine oB 23 rfl (λg3=>?_) (λg3=>?_);rotate_left;have g3':¬ a<b+m:=zf g3;refine gaa ?_;exact qac rfl (zra rfl) (qau (by rw[hI];symm;exact decide_eq_false zo));have g3':a<b+m:=zt g3;refine gad ?_
 exact qac rfl (zra rfl) (qau (by
  rw[hI,Bool.eq_iff_iff,decide_eq_true_iff,decide_eq_true_iff]
  omega))
theorem qob(vars:List Nm)(arrays:List (Nm×Int))(fs:List FnD)(o:Org)(hl:arrays.length<=2000000)(hp:∀ a∈arrays,0<a.2)(h0:0<=o.arrays)(h1:o.arrays+(arrays.map (·.2)).sum<=262144):LCalls (KC B0 w0) 81 [Chk.encPrG vars arrays fs,qkv o] [] (Ret (.tuple [.list ((symA o.arrays arrays).map qqx),int .i64 0])):=by
 have hal:(arrays.map Chk.encArG).length=arrays.length:=zLm _;have hml:(arrays.map (·.2)).length=arrays.length:=zLm _
 have hps:∀ n∈arrays.map (·.2),0<n:=λn hn=>by
  obtain⟨a,ha,rfl⟩:=List.mem_map.1 hn;exact hp a ha
 unfold Chk.encPrG qkv;refine zcI Tryz.func81 rfl (n:=50) rfl rfl rfl ?_;refine gah ?_;refine oS (sB rfl λb2=>?_) rfl;refine oS (sB rfl λb3=>?_) rfl;refine gab ?_
 refine oL (λkk ls H'=>∃ (i:Nat) (v:LV),i<=arrays.length/\kk=arrays.length-i/\ls=[(6,v),(7,int .i64 (o.arrays+((arrays.map (·.2)).take i).sum)),(13,.list (arrays.map Chk.encArG)),(14,int .i64 arrays.length),(15,int .i64 (i:Nat))]/\GL.Acc 2 v ((symA o.arrays (arrays.take i)).map qqx) H' [])
  ⟨_,_,_,⟨0,qab,zero_le _,rfl,rfl,Acc.nil⟩,⟨rfl,qao (by simp),rfl,qao zo,rfl,trivial⟩,HSub.nil _⟩ ?_
 rintro kk ls H' ⟨i,v,hi,rfl,rfl,hacc⟩ j hj;have hsum:=qc4 (arrays.map (·.2)) i hps;refine gai ?_;refine oC rfl (λhc=>?_) (λhc=>?_);have hlt:i<arrays.length:=by have:=zt hc;omega
 have hpi:=hp _ (getElem_mem hlt);have hst:=qpg (l:=arrays.map (·.2)) (i:=i) zo;rw[List.getElem_map] at hst;have hsum2:=qc4 (arrays.map (·.2)) (i+1) hps
 have hlen:((symA o.arrays (arrays.take i)).map qqx).length=i:=by
  rw[zLm,qlS,length_take];omega
 generalize hsi:((arrays.map (·.2)).take i).sum=si at hsum hst;have hsy:=qt1 hlt o.arrays;rw[hsi] at hsy;refine gaj ?_;refine oP (xR (el':=Chk.encArG arrays[i]) (cs:=[_,_]) rfl rfl zo (qa5 _ _ _ hlt) rfl rfl) rfl ?_;refine gad ?_;refine oS (sA λb9=>?_) rfl;refine gab ?_;refine oB 21 rfl (λh=>?_) (λ_=>?_);have:=zt h;omega;refine gad ?_;refine oB 25 rfl (λh=>?_) (λ_=>?_);have:=zt h;omega;refine gad ?_;refine oB 30 rfl (λh=>?_) (λ_=>?_);have:=zt h;omega;refine gad ?_;refine oC rfl (λh=>?_) (λ_=>?_);have:=zt h;omega;refine gaj ?_;refine zQ14 ?_;refine gad ?_;refine zQ0 ?_;refine oS (S.acc1 rfl hacc rfl (by simp;rfl) rfl (by rw[hlen];simp;omega) λv' H2 hacc'=>?_) rfl;refine zQ19 ?_;refine gac ?_;exact⟨_,_,_,by omega,⟨i+1,v',by omega,rfl,rfl,by rw[hsy,zMa];exact hacc'⟩,⟨rfl,qao (by rw[hst];omega),rfl,rfl,qao zo,trivial⟩,zhD zhr,hj⟩;have hi':i=arrays.length:=by have:=zf hc;omega
 subst hi';rw[take_length] at hacc;refine qag.sub (d:=6) (v:=v) rfl hacc.sub ?_;refine cW zhn ?_;refine gab ?_;exact qac hj (rC (rT (v:=.list _) rfl zsr) (zra rfl)) rfl
theorem qrD(vars:List Nm)(arrays:List (Nm×Int))(fs:List FnD)(o:Org)(hv6:vars.length<=2000000)(hf6:fs.length<=2000000)(hl:arrays.length<=2000000)(hsm:∀ f∈fs,SmF f)(hn:∀ f∈fs,f.name.length<=1000/\∀ x∈f.params++f.locals,x.length<=1000)
  (hp:∀ a∈arrays,0<a.2) (ht:(arrays.map (·.2)).sum<=150000) (hsc:(qaj vars fs).length<=8000) (o1:I64 o.code) (o2:I64 o.scalars) (o3:I64 o.arrays) :
  LCalls (KC B0 w0) 79 [Chk.encPrG vars arrays fs,qkv o] [] (Ret (bool (qfZ vars arrays fs o))):=by
 have hal:(arrays.map Chk.encArG).length=arrays.length:=zLm _;have hml:(arrays.map (·.2)).length=arrays.length:=zLm _
 have hps:∀ n∈arrays.map (·.2),0<n:=λn hn=>by
  obtain⟨a,ha,rfl⟩:=List.mem_map.1 hn;exact hp a ha
 have hscl:((qaj vars fs).map str).length=(qaj vars fs).length:=zLm _;have hS:=Chk.scalars_specG (B0:=B0) (w0:=w0) (vars:=vars) (fs:=fs) (.list (arrays.map Chk.encArG)) hv6 hf6 hsm hn;rw[qwT];unfold Chk.encPrG qkv;refine zcI Tryz.func79 rfl (n:=63) rfl rfl rfl ?_;refine gah ?_;refine oS (sB rfl λb2=>?_) rfl;refine oS (sB rfl λb3=>?_) rfl;refine gab ?_
 refine oL (λkk ls H'=>∃ (i:Nat),i<=arrays.length/\kk=arrays.length-i/\ls=[(2,ptr b2 0),(3,ptr b3 0),(5,int .i64 (((arrays.map (·.2)).take i).sum)),(14,.list (arrays.map Chk.encArG)),(15,int .i64 arrays.length),(16,int .i64 (i:Nat))]/\H'=[(b3,.cells 56 [int .i64 o.code,int .i64 o.scalars,int .i64 o.arrays]),(b2,.cells 43 [.list (vars.map str),.list (arrays.map Chk.encArG),.list (fs.map qa7)])])
  ⟨_,_,_,⟨0,zero_le _,rfl,rfl,rfl⟩,⟨rfl,rfl,rfl,rfl,qao zo,rfl,trivial⟩,zhR _⟩ ?_
 rintro kk ls H' ⟨i,hi,rfl,rfl,rfl⟩ j hj;have hsum:=qc4 (arrays.map (·.2)) i hps;refine gai ?_;refine oC rfl (λhc=>?_) (λhc=>?_);have hlt:i<arrays.length:=by have:=zt hc;omega
 have hpi:=hp _ (getElem_mem hlt);have hst:=qpg (l:=arrays.map (·.2)) (i:=i) zo;rw[List.getElem_map] at hst;have hsum2:=qc4 (arrays.map (·.2)) (i+1) hps;generalize hsi:((arrays.map (·.2)).take i).sum=si at hsum hst;refine gaj ?_;refine oP (xR (el':=Chk.encArG arrays[i]) (cs:=[_,_]) rfl rfl zo (qa5 _ _ _ hlt) rfl rfl) rfl ?_;refine gad ?_;refine oS (sA λb7=>?_) rfl;refine gab ?_;exact⟨_,_,_,by omega,⟨i+1,by omega,rfl,rfl,rfl⟩,⟨rfl,rfl,qao (by rw[hst]),rfl,rfl,qao zo,trivial⟩,zhD zhr,hj⟩;have hi':i=arrays.length:=by have:=zf hc;omega
 subst hi';rw[<-hml,take_length] at hsum ⊢;generalize (arrays.map (·.2)).sum=total at hsum ht ⊢;generalize (qaj vars fs).length=ns at hsc hscl ⊢;refine gaa ?_;refine cD (m:=16) rfl [(b3,.cells 56 [int .i64 o.code,int .i64 o.scalars,int .i64 o.arrays]),(b2,.cells 43 [.list (vars.map str),.list (arrays.map Chk.encArG),.list (fs.map qa7)])] ?_;refine zQ51 ?_;refine aT 2 rfl rfl (pG (cs':=[_,_,_]) rfl zm1 rfl rfl) ?_;refine aT 7 rfl rfl (pF rfl) ?_;refine aT 8 rfl rfl (pL (c:=.atom _) rfl zm0 rfl) ?_;refine aT 9 rfl rfl (pB _ (cs:=[_,_]) rfl) ?_;refine aT 10 rfl rfl (pF rfl) ?_;refine aT 11 rfl rfl (pL (c:=.atom _) rfl zm0 rfl) ?_;refine aT 12 rfl rfl (pM (lv:=.atom _) rfl) ?_;refine aT 13 rfl rfl (pB _ (cs:=[_,_]) rfl) ?_;refine aL ?_ zhr;refine lO 3 (lS (H1:=[]) rfl (.inl rfl) rfl zpr zhr (sF [_] rfl hS ?_));refine lO 4 (lH rfl rfl (Pure.llen rfl) ?_);refine lO 5 (lH rfl rfl (Pure.add rfl rfl zo) ?_);refine lO 6 (lH rfl rfl (pB _ (cs:=[_,_]) rfl) ?_);refine lO 14 (lS (H1:=[]) rfl (.inl rfl) rfl zpr zhr (sL (es:=[LV.agg [int .i64 o.scalars,int .i64 (3+(((qaj vars fs).map str).length:Int))],.agg [int .i64 o.code,int .i64 40000],.agg [int .i64 o.arrays,int .i64 total]]) [_,_,_] rfl (eC rfl rfl (eC rfl rfl (eC rfl rfl eN))) rfl rfl rfl ?_));refine lO 15 (lH rfl rfl (pA (lv:=.list _) rfl) ?_);refine lD zk ?_;have e3:(3:Int)+(((qaj vars fs).map str).length:Int)=3+(ns:Nat):=by rw[hscl]
 rw[e3];generalize hrs:[(o.scalars,(3:Int)+(ns:Nat)),(o.code,(40000:Int)),(o.arrays,total)]=rs;have hrl:([LV.agg [int .i64 o.scalars,int .i64 (3+(ns:Int))],.agg [int .i64 o.code,int .i64 40000],.agg [int .i64 o.arrays,int .i64 total]]:List LV)=rs.map qfd:=by rw[<-hrs];rfl
 rw[hrl];have hlr:rs.length=3:=by rw[<-hrs];rfl
 have hsz:∀ r∈rs,SmI r.2/\0<=r.2:=by
  rw[<-hrs];intro r hr;simp only[zMi,not_mem_nil,or_false] at hr;unfold SmI;rcases hr with rfl|rfl|rfl <;> simp only <;> omega
 have hrm:(rs.map qfd).length=rs.length:=zLm _;clear hrl hrs;generalize hR:goR [] rs=R;refine qN ?_;refine cW zhn ?_;refine gac ?_
 refine oL (λkk ls H'=>∃ (i:Nat),i<=rs.length/\kk=rs.length-i/\ls=[(8,.list (rs.map qfd)),(40,.list (rs.map qfd)),(41,int .i64 rs.length),(42,int .i64 (i:Nat))]/\H'=[]/\goR (rs.take i) (rs.drop i)=R/\∀ r∈rs.take i,qfv r=true)
  ⟨_,_,_,⟨0,zero_le _,rfl,rfl,rfl,hR,λr hr=>by cases hr⟩,⟨rfl,rfl,qao zo,rfl,trivial⟩,zhR _⟩ ?_
 rintro kk ls H' ⟨i,hi,rfl,rfl,rfl,hgo,hins⟩ j1 hj1;refine gai ?_;refine oC rfl (λhc=>?_) (λhc=>?_);rotate_left;have hi':i=rs.length:=by have:=zf hc;omega
 subst hi';rw[drop_length,goR] at hgo;refine gac ?_;exact qac (hj1.trans hj) (zra rfl) (qau hgo);have hlt:i<rs.length:=by have:=zt hc;omega
 have hsi:=hsz _ (getElem_mem hlt);rw[drop_eq_getElem_cons hlt,goR,<-take_succ_eq_append_getElem hlt] at hgo;generalize hgr:rs[i]=r at hgo hsi;refine gac ?_;refine oP (xR (el':=qfd r) (cs:=[_,_]) rfl rfl zo (by rw[<-hgr];exact qa5 _ _ _ hlt) rfl rfl) rfl ?_;refine gad ?_;refine oS (sA λb10=>?_) rfl;refine gab ?_;refine oS (sF [_] rfl (qo4 r hsi.1) ?_) rfl;refine gad ?_;refine oC rfl (λh=>?_) (λh=>?_);have h':qfv r=false:=by simpa using h
 rw[h',Bool.false_and,Bool.false_and] at hgo;refine gas ?_;exact qac (hj1.trans hj) (zra rfl) (qau hgo);have h':qfv r=true:=by simpa using h
 rw[h',Bool.true_and] at hgo
 have inb:∀ r:Int×Int,SmI r.2/\0<=r.2->qfv r=true->SmI r.1:=λr h1 h2=>by
  have:0<=r.1/\r.1<=262144-r.2:=zt h2;unfold SmI at h1 ⊢;omega
 have hri:=inb r hsi h';have htl:(rs.take i).length=i:=by rw[length_take];omega
 have htm:((rs.take i).map qfd).length=i:=by rw[zLm,htl]
 have hts:((rs.map qfd).take i)=(rs.take i).map qfd:=List.map_take.symm;refine gac ?_;refine oP (Pure.lsliceE (i:=0) (j:=(i:Nat)) (es:=rs.map qfd) (ms:=(rs.take i).map qfd) rfl rfl ⟨_,rfl⟩ zo zo zo (λv hv=>by obtain⟨r,_,rfl⟩:=List.mem_map.1 hv;rfl) (by rw[Int.toNat_natCast,<-hts];rfl)) rfl ?_;refine gaa ?_
 refine oL (λkk ls H'=>∃ (x:Nat),x<=i/\kk=i-x/\ls=[(8,.list (rs.map qfd)),(10,ptr b10 0),(40,.list (rs.map qfd)),(41,int .i64 rs.length),(42,int .i64 (i:Nat)),(52,.list ((rs.take i).map qfd)),(53,int .i64 i),(54,int .i64 (x:Nat))]/\H'=[(b10,.cells 162 [int .i64 r.1,int .i64 r.2])]/\((((rs.take i).drop x).all λs=>!qjq r s) && goR (rs.take (i+1)) (rs.drop (i+1)))=R)
  ⟨_,_,_,⟨0,zero_le _,rfl,rfl,rfl,by rw[List.drop_zero];exact hgo⟩,⟨rfl,rfl,rfl,rfl,rfl,rfl,qao zo,rfl,trivial⟩,zhR _⟩ ?_
 rintro kk ls H' ⟨x,hx,rfl,rfl,rfl,hall⟩ j2 hj2;refine gai ?_;refine oC rfl (λhc=>?_) (λhc=>?_);have hlx:x<(rs.take i).length:=by have:=zt hc;omega
 have hm1:=getElem_mem hlx;have hss:=hsz _ (List.mem_of_mem_take hm1);have hsn:=inb _ hss (hins _ hm1);rw[drop_eq_getElem_cons hlx,List.all_cons] at hall;generalize hgs:(rs.take i)[x]=s at hall hss hsn;refine gaj ?_;refine oP (xR (el':=qfd s) (cs:=[_,_]) rfl rfl zo (by rw[<-hgs];exact qa5 _ _ _ hlx) rfl rfl) rfl ?_;refine gad ?_;refine oS (sA λb12=>?_) rfl;refine gab ?_;refine oS (sF [_,_] rfl (qqF r s hri hsi.1 hsn hss.1) ?_) rfl;refine gaf ?_;refine oC rfl (λh=>?_) (λh=>?_);have h2:qjq r s=true:=h;rw[h2] at hall;refine gas ?_;exact qac (hj2.trans (hj1.trans hj)) (zra rfl) (qau (by rw[<-hall];rfl));have h2:qjq r s=false:=h;rw[h2] at hall;refine gac ?_;exact⟨_,_,_,by omega,⟨x+1,by omega,rfl,rfl,rfl,hall⟩,⟨rfl,rfl,rfl,rfl,rfl,rfl,rfl,qao zo,trivial⟩,zhD zhr,hj2⟩;have hx':x=i:=by have:=zf hc;omega
 subst hx';rw[List.drop_eq_nil_of_le (by rw[htl];exact zNr _)] at hall;refine gac ?_
 exact⟨_,_,_,by omega,⟨x+1,by omega,rfl,rfl,rfl,hall,λq hq=>by
  rw[take_succ_eq_append_getElem hlt,hgr] at hq;rcases List.mem_append.1 hq with hq|hq;exact hins q hq
  rw[List.mem_singleton.1 hq];exact h'⟩,⟨rfl,rfl,rfl,qao zo,trivial⟩,HSub.nil _,hj2.trans hj1⟩
end
def scKV(S:Int):Nat->List Nm->KV
 |_,[]=>[]
 |i,x::r=>(x,int .i64 (S+3+(i:Nat)))::scKV S (i+1) r
theorem qpl(S:Int):∀ (l m:List Nm) (i:Nat),scKV S i (l++m)=scKV S i l++scKV S (i+l.length) m
 |[],m,i=>by simp[scKV]
 |x::r,m,i=>by
  rw[cons_append,scKV,qpl S r m,scKV,cons_append,zLc,Nat.add_right_comm,Nat.add_assoc]
theorem qnE(S:Int):∀ (l:List Nm) (i:Nat),(scKV S i l).map (·.1)=l
 |[],i=>rfl
 |x::r,i=>by rw[scKV,zMc,qnE S r]
theorem qr0{S:Int}{l:List Nm}{i:Nat}(h:i<l.length)(hn:l.Nodup):GL.kvPut (scKV S 0 (l.take i)) l[i] (int .i64 (S+3+(i:Nat)))=scKV S 0 (l.take (i+1)):=by
 rw[take_succ_eq_append_getElem h,qpl,length_take,Nat.zero_add,Nat.min_eq_left zo];refine qpU ?_;rw[qnE];intro hm;rw[<-List.take_append_drop i l,drop_eq_getElem_cons h,List.nodup_append] at hn;exact hn.2.2 _ hm _ zMs rfl
theorem qmd(S:Int)(k:Nm):∀ (l:List Nm) (i:Nat),GL.kvGet (scKV S i l) k=if k∈l then some (int .i64 (S+3+((i+l.idxOf k:Nat):Int))) else none
 |[],i=>rfl
 |x::r,i=>by
  rw[scKV,GL.kvGet]
  by_cases h:x=k
  rw[if_pos h,if_pos (by rw[h];exact List.mem_cons_self ..),List.idxOf_cons,h]
  simp
  rw[if_neg h,qmd S k r (i+1)]
  by_cases hm:k∈r
  rw[if_pos hm,if_pos (zMo _ hm),List.idxOf_cons,cond_eq_ite,if_neg (by simpa using h)];congr 4;omega;rw[if_neg hm,if_neg (by rw[zMi];exact λg=>g.elim (λe=>h e.symm) hm)]
def arKV(l:List (Nm×Int)):KV:=l.map λp=>(p.1,int .i64 p.2)
theorem qrL{l:List (Nm×Int)}{i:Nat}(h:i<l.length)(hn:(l.map (·.1)).Nodup):GL.kvPut (arKV (l.take i)) l[i].1 (int .i64 l[i].2)=arKV (l.take (i+1)):=by
 unfold arKV;rw[take_succ_eq_append_getElem h,zMa];refine qpU ?_;rw[map_map];intro hm
 have e1:l.map (·.1)=(l.take i).map (·.1)++l[i].1::(l.drop (i+1)).map (·.1):=by
  conv=>lhs;rw[<-List.take_append_drop i l,drop_eq_getElem_cons h]
  rw[zMa,zMc]
 rw[e1,List.nodup_append] at hn;exact hn.2.2 _ hm _ zMs rfl
theorem qpu(name:Nm):∀ (l:List (Nm×Int)) (a:Int),(GL.kvGet (arKV (symA a l)) name).getD (int .i64 0)=int .i64 (arrA a l name)
 |[],a=>rfl
 |(x,n)::r,a=>by
  rw[symA,arrA];show(GL.kvGet ((x,int .i64 a)::arKV (symA (a+n) r)) name).getD (int .i64 0)=_;rw[GL.kvGet];simp only
  by_cases h:x=name
  rw[if_pos h,if_pos h];rfl;rw[if_neg h,if_neg h];exact qpu name r (a+n)
def qrn:Except Int Wd->LV
 |.error e=>.tuple [str [],int .i64 e]
 |.ok t=>.tuple [str t,int .i64 0]
theorem tb_ok{P:Pr}{o:Org}(hF:FitN P o)(own:Nm)(ho:own.length<=1000000)(b1 b2 b3 g1 g2:Nat):TBok ⟨b1,b2,b3,scKV o.scalars 0 (qaj P.vars P.funcs),arKV (symA o.arrays (qbo P)),g1,g2,o.scalars.toNat⟩ (ccF P.vars (qbo P) P.funcs o own) own:=by
 have s0:=hF.s0;have s1:=hF.s1;have a0:=hF.a0;have a1:=hF.a1
 have hp:∀ p∈qbo P,0<=p.2:=λp hp=>by
  obtain⟨a,_,rfl⟩:=List.mem_map.1 hp;exact Int.natCast_nonneg _
 have hpl:∀ k,0<=qeo (qaj P.vars P.funcs) o.scalars k/\qeo (qaj P.vars P.funcs) o.scalars k<=262144/\(k∈qaj P.vars P.funcs->int .i64 (o.scalars+3+((0+(qaj P.vars P.funcs).idxOf k:Nat):Int))=int .i64 (((qeo (qaj P.vars P.funcs) o.scalars k).toNat:Nat):Int)):=λk=>by
  unfold qeo
  by_cases h:k∈qaj P.vars P.funcs
  have:=List.idxOf_lt_length_of_mem h;rw[if_pos h];exact⟨by omega,by omega,λ_=>qao zo⟩;rw[if_neg h];exact⟨by omega,by omega,λh2=>absurd h2 h⟩
 refine⟨λname=>?_,λname=>?_,?_,?_,?_,?_,ho⟩;refine⟨(qeo (qaj P.vars P.funcs) o.scalars (keyC (qaj P.vars P.funcs) own name)).toNat,?_,?_,?_⟩;have:=hpl (keyC (qaj P.vars P.funcs) own name);omega;exact qb8 (hpl _).1;show(∃ v,GL.kvGet (scKV o.scalars 0 (qaj P.vars P.funcs)) (own++[46]++name)=some v/\_)∨(GL.kvGet (scKV o.scalars 0 (qaj P.vars P.funcs)) (own++[46]++name)=none/\(GL.kvGet (scKV o.scalars 0 (qaj P.vars P.funcs)) name).getD _=_);rw[qmd,qmd];unfold keyC
 by_cases h:own++[46]++name∈qaj P.vars P.funcs
 left;rw[if_pos h,if_pos h];exact⟨_,rfl,(hpl _).2.2 h⟩;right;rw[if_neg h,if_neg h];refine⟨rfl,?_⟩
 by_cases h2:name∈qaj P.vars P.funcs
 rw[if_pos h2];exact(hpl _).2.2 h2;rw[if_neg h2];unfold qeo;rw[if_neg h2];rfl;have h1:=qgX (qbo P) o.arrays a0 hp name;have h2:=qh1 (qbo P) o.arrays a0 hp name;have h3:((qbo P).map (·.2)).sum=((totA P.arrays:Nat):Int):=qhf P.arrays;rw[h3] at h2;refine⟨(arrA o.arrays (qbo P) name).toNat,by omega,qb8 h1,?_⟩;show(GL.kvGet (arKV (symA o.arrays (qbo P))) name).getD _=_;rw[qpu];exact qao zo;exact qb8 s0;show itoa (o.scalars+1)=_;rw[qb8 zo];congr 1;show _=o.scalars.toNat+1;omega;show itoa (o.scalars+2)=_;rw[qb8 zo];congr 1;show _=o.scalars.toNat+2;omega;show o.scalars.toNat<=_;omega
theorem qpn{s:Nm}(h:isNm s=true):s.length<=24:=by
 unfold isNm at h;rw[zBa,zBa,zDe] at h;exact h.1.1
theorem qx1{P:Pr}(hv:Valid P){f:FnD}(hf:f∈P.funcs)(hown:∀ x∈f.params++f.locals,x.length<=24){kn:List FSum}(hk:qoC P.funcs kn):EnvOk (envF P.vars (P.arrays.map (·.name)) (P.funcs.map (·.name)) kn f):=by
 have hfr:=qbA _ _ hv.names;refine⟨λs hs=>?_,λk hk'=>?_⟩;unfold qcd at hs;split at hs
 rename_i h
 rcases h with h|h;exact qpn (hfr.2 s (mem_append_left _ (mem_append_left _ h))).2;exact hown s h;split at hs <;> cases hs;obtain⟨g,g1,g2,_⟩:=hk k hk';rw[<-g2];exact qpn (hfr.2 _ (mem_append_right _ (mem_map_of_mem g1))).2
theorem qns:∀ (vars arrays later:List Nm) (known:List FSum) (fs:List FnD),qfM vars arrays later known fs=0->∀ f∈fs,∀ x∈f.params++f.locals,x.length<=24
 |_,_,_,_,[],_,f,hf=>(not_mem_nil hf).elim
 |vars,arrays,later,known,g::l,h,f,hf=>by
  rw[qfM] at h;obtain⟨h1,h2⟩:=qah.1 h;rcases zMi.1 hf with rfl|hf;unfold errF at h1;intro x hx;exact qpn ((qbA _ _ (qah.1 h1).1).2 x hx).2;exact qns vars arrays later _ l h2 f hf
theorem qyG{t s a b3 b2:Nat×LObj}:[t,b3,s,a,b2].Perm ([t,s,a]++[b3,b2]):=List.Perm.cons _ ((List.Perm.swap _ _ _).trans (List.Perm.cons _ (List.Perm.swap _ _ _)))
section
variable{B0:Nat}{w0:World}
theorem qm9(hG:GW B0 w0)(hM:Asm.GM w0)(vars:List Nm)(arrays:List (Nm×Int))(fs:List FnD)(o:Org)(hv6:vars.length<=2000000)(ha6:arrays.length<=2000000)(har:∀ a∈arrays,I64 a.2)(hnd:ndFs fs<=2000000)(hnum:∀ f∈fs,qcI f.body)(o1:I64 o.code)(o2:I64 o.scalars)(o3:I64 o.arrays) :
  LCalls (KC B0 w0) 37 [Chk.encPrG vars arrays fs,qkv o] [] (Ret (qrn (cmpP vars arrays fs o))):=by
 have hck:=Chk.check_spec (B0:=B0) (w0:=w0) vars arrays fs hv6 ha6 har hnd;have hf6:=qjb fs;have hsm:∀ f∈fs,SmF f:=λf hf=>qs0 (by have:=qiX hf;omega);generalize hC:cmpP vars arrays fs o=R;unfold cmpP at hC;have ePr:Chk.encPrG vars arrays fs=.agg [.list (vars.map str),.list (arrays.map Chk.encArG),.list (fs.map qa7)]:=rfl;have eOr:qkv o=.agg [int .i64 o.code,int .i64 o.scalars,int .i64 o.arrays]:=rfl;rw[ePr,eOr];refine zcI Tryz.func37 rfl (n:=102) rfl rfl rfl ?_;refine gah ?_;refine oS (sB rfl λb2=>?_) rfl;refine oS (sB rfl λb3=>?_) rfl;refine gab ?_;refine oS (S.callH (H1:=[]) (F:=[_,_]) [_] rfl zpr hck ?_ (by rintro ch H' ⟨_,nm,h⟩;cases h)) rfl;rintro lv H' ⟨rfl,nm,h⟩;cases h;refine gab ?_
 by_cases hc0:qdn vars arrays fs=0
 rotate_left;rw[if_pos hc0] at hC;subst hC;refine oC rfl (λ_=>?_) (λhc=>?_);refine gac ?_;exact qac rfl (rC (zrt rfl) (zra rfl)) rfl;have h2:(!decide (qdn vars arrays fs=0))=false:=hc;simp at h2;exact absurd h2 hc0;refine oC rfl (λhc=>?_) (λ_=>?_);have h2:(!decide (qdn vars arrays fs=0))=true:=hc;simp[hc0] at h2;rw[if_neg (by simpa using hc0)] at hC;obtain⟨ht,hp,hPa,hPc,hV⟩:=qoj hc0
 have hown:∀ f∈fs,∀ x∈f.params++f.locals,x.length<=24:=by
  have h:=hc0;unfold qdn at h;exact qns _ _ _ _ _ (qah.1 (qah.1 (qah.1 h).2).2).1
 have hfr:=qbA _ _ hV.names;have hfn:∀ f∈fs,f.name.length<=24:=λf hf=>qpn (hfr.2 _ (mem_append_right _ (mem_map_of_mem hf))).2;have hn:∀ f∈fs,f.name.length<=1000/\∀ x∈f.params++f.locals,x.length<=1000:=λf hf=>⟨by have:=hfn f hf;omega,λx hx=>by have:=hown f hf x hx;omega⟩;have hsc8:(qaj vars fs).length<=8000:=hV.few;have hft:=qrD (B0:=B0) (w0:=w0) vars arrays fs o hv6 zo ha6 hsm hn hp ht hsc8 o1 o2 o3;rw[ePr,eOr] at hft;refine gab ?_;refine oS (sF [_,_] rfl hft ?_) rfl;refine gad ?_
 by_cases hfit:qfZ vars arrays fs o=true
 rotate_left;rw[if_pos (by simpa using hfit)] at hC;subst hC;refine oC rfl (λ_=>?_) (λhc=>?_);refine gao ?_;exact qac rfl (rC (zrt rfl) (zra rfl)) rfl;have h2:(!qfZ vars arrays fs o)=false:=hc;simp at h2;exact absurd h2 hfit;refine oC rfl (λhc=>?_) (λ_=>?_);have h2:(!qfZ vars arrays fs o)=true:=hc;rw[hfit] at h2;cases h2;rw[if_neg (by rw[hfit];decide)] at hC;have hfitP:qfZ (prOf vars arrays fs).vars (qbo (prOf vars arrays fs)) (prOf vars arrays fs).funcs o=true:=by rw[hPa];exact hfit
 have hF:=qhk hfitP;have hS:=Chk.scalars_specG (B0:=B0) (w0:=w0) (vars:=vars) (fs:=fs) (.list (arrays.map Chk.encArG)) hv6 zo hsm hn;have hT:=hF.s1;have hS0:=hF.s0;have hA1:=hF.a1;have hA0:=hF.a0;have hkeys:(qaj vars fs).Nodup:=hV.keys
 have htot:(arrays.map (·.2)).sum=((totA (prOf vars arrays fs).arrays:Nat):Int):=by
  have:=qhf (prOf vars arrays fs).arrays;rw[<-this];congr 2;exact hPa.symm
 have hAs:=qob (B0:=B0) (w0:=w0) vars arrays fs o ha6 hp hA0 (by rw[htot];omega);rw[ePr,eOr] at hAs;have hT2:o.scalars.toNat+3+(qaj vars fs).length<=262144:=hT;refine gac ?_;refine oS (S.kvNew λsm=>?_) rfl;refine oS (S.kvNew λam=>?_) rfl;refine gad ?_;refine oS (sB rfl λtb=>?_) rfl;refine gab ?_;refine oS (sF [_] rfl hS ?_) rfl;have hsl:((qaj vars fs).map str).length=(qaj vars fs).length:=zLm _;refine gaa ?_;generalize hsl2:qaj vars fs=sl at *
 refine oL (λkk ls H'=>∃ (i g1:Nat),i<=sl.length/\kk=sl.length-i/\ls=[(2,ptr b2 0),(3,ptr b3 0),(8,ptr tb 0),(39,.list (sl.map str)),(40,int .i64 sl.length),(41,int .i64 (i:Nat))]/\H'=[(tb,.cells 132 [qab,int .i64 0,int .i64 o.scalars,.atom (.map (some sm)),.atom (.map (some am)),str []]),(b3,.cells 56 [int .i64 o.code,int .i64 o.scalars,int .i64 o.arrays]),(sm,.map (kvs (scKV o.scalars 0 (sl.take i))) g1),(am,.map (kvs []) 0),(b2,.cells 43 [.list (vars.map str),.list (arrays.map Chk.encArG),.list (fs.map qa7)])])
  ⟨_,_,_,⟨0,0,zero_le _,rfl,rfl,rfl⟩,⟨rfl,rfl,rfl,rfl,qao zo,rfl,trivial⟩,zhP pH (zhP zp2 (zhP zp1 zhr))⟩ ?_
 rintro kk ls H' ⟨i,g1,hi,rfl,rfl,rfl⟩ j hj;refine gai ?_;refine oC rfl (λhc=>?_) (λhc=>?_);have hlt:i<sl.length:=by have:=zt hc;omega
 have htk:=qr0 (S:=o.scalars) hlt hkeys;refine gac ?_;refine oP (xR (el':=str sl[i]) (cs:=[str sl[i]]) rfl rfl zo (qa5 _ _ _ hlt) rfl rfl) rfl ?_;refine gad ?_;refine cD (m:=11) rfl [(tb,.cells 132 [qab,int .i64 0,int .i64 o.scalars,.atom (.map (some sm)),.atom (.map (some am)),str []]),(b3,.cells 56 [int .i64 o.code,int .i64 o.scalars,int .i64 o.arrays])] ?_;refine zQ9 ?_;refine aT 3 rfl rfl (pL (c:=.atom _) rfl zm0 rfl) ?_;refine aT 4 rfl rfl (pM (lv:=.atom _) rfl) ?_;refine aT 5 rfl rfl (pF rfl) ?_;refine aT 6 rfl rfl (pL (c:=.atom _) rfl zm1 rfl) ?_;refine aT 7 rfl rfl (Pure.add rfl rfl zo) ?_;refine aT 8 rfl rfl (pM (lv:=.atom _) rfl) ?_;refine aT 9 rfl rfl (Pure.add rfl rfl zo) ?_;refine aL ?_ qiL;refine lO 10 (lS (H1:=[(sm,.map (kvs (scKV o.scalars 0 (sl.take i))) g1)]) rfl (.inl rfl) rfl (show Pick _ _ _ from pT zp1) qiL (S.kvSet (k:=sl[i]) (lv:=int .i64 (o.scalars+3+(i:Nat))) rfl rfl rfl pH λg1'=>?_));rw[htk];refine lD zk ?_;refine gar ?_;exact⟨_,_,_,by omega,⟨i+1,g1',by omega,rfl,rfl,rfl⟩,⟨rfl,rfl,rfl,rfl,rfl,qao zo,trivial⟩,zhP zp1 (zhP zp1 zhr),hj⟩;have hi':i=sl.length:=by have:=zf hc;omega
 subst hi';rw[take_length];have hyl:=qlS arrays o.arrays
 have hyn:((symA o.arrays arrays).map (·.1)).Nodup:=by
  rw[qlo];have h1:=(List.nodup_append.1 (List.nodup_append.1 hfr.1).1).2.1
  have e1:(prOf vars arrays fs).arrays.map (·.name)=arrays.map (·.1):=by
   unfold prOf;rw[map_map];rfl
  rw[e1] at h1;exact h1
 have hym:((symA o.arrays arrays).map qqx).length=(symA o.arrays arrays).length:=zLm _;refine gab ?_;refine oS (sF [_,_] rfl hAs ?_) rfl;refine gab ?_;generalize hyy:symA o.arrays arrays=ys at *;refine oC rfl (λh=>by cases h) (λ_=>?_);refine gac ?_
 refine oL (λkk ls H'=>∃ (i g2:Nat),i<=ys.length/\kk=ys.length-i/\ls=[(2,ptr b2 0),(3,ptr b3 0),(8,ptr tb 0),(66,.list (ys.map qqx)),(67,int .i64 ys.length),(68,int .i64 (i:Nat))]/\H'=[(tb,.cells 132 [qab,int .i64 0,int .i64 o.scalars,.atom (.map (some sm)),.atom (.map (some am)),str []]),(b3,.cells 56 [int .i64 o.code,int .i64 o.scalars,int .i64 o.arrays]),(sm,.map (kvs (scKV o.scalars 0 sl)) g1),(am,.map (kvs (arKV (ys.take i))) g2),(b2,.cells 43 [.list (vars.map str),.list (arrays.map Chk.encArG),.list (fs.map qa7)])])
  ⟨_,_,_,⟨0,0,zero_le _,rfl,rfl,rfl⟩,⟨rfl,rfl,rfl,rfl,qao zo,rfl,trivial⟩,zhR _⟩ ?_
 rintro kk ls H' ⟨i,g2,hi,rfl,rfl,rfl⟩ j2 hj2;refine gai ?_;refine oC rfl (λhc=>?_) (λhc=>?_);have hlt:i<ys.length:=by have:=zt hc;omega
 have htk:=qrL hlt hyn;refine gaj ?_;refine oP (xR (el':=qqx ys[i]) (cs:=[_,_]) rfl rfl zo (qa5 _ _ _ hlt) rfl rfl) rfl ?_;refine gad ?_;refine oS (sA λb14=>?_) rfl;refine gad ?_;refine cD (m:=9) rfl [(b14,.cells 137 [str ys[i].1,int .i64 ys[i].2]),(tb,.cells 132 [qab,int .i64 0,int .i64 o.scalars,.atom (.map (some sm)),.atom (.map (some am)),str []])] ?_;refine zQ53 ?_;refine aT 6 rfl rfl (pF rfl) ?_;refine aT 7 rfl rfl (pL (c:=.atom _) rfl zm0 rfl) ?_;refine aL ?_ qiL;refine lO 8 (lS (H1:=[(am,.map (kvs (arKV (ys.take i))) g2)]) rfl (.inl rfl) rfl (show Pick _ _ _ from pT zp3) qiL (S.kvSet (k:=ys[i].1) (lv:=int .i64 ys[i].2) rfl rfl rfl pH λg2'=>?_));rw[htk];refine lD zk ?_;refine gar ?_;exact⟨_,_,_,by omega,⟨i+1,g2',by omega,rfl,rfl,rfl⟩,⟨rfl,rfl,rfl,rfl,rfl,qao zo,trivial⟩,zhP zp2 (zhP zp2 (zhP zp2 (zhP pH (zhD zhr)))),hj2⟩;have hi':i=ys.length:=by have:=zf hc;omega
 subst hi';rw[take_length];have htb:=λown ho=>tb_ok (P:=prOf vars arrays fs) hF own ho tb sm am g1 g2;rw[hPa] at htb;have hW:=qsg hPc hnum hfitP hnd;have hjt:=qgi (qa6 (prOf vars arrays fs) o)
 have hwc:qa6 (prOf vars arrays fs) o=prW vars arrays fs o:=by
  unfold qa6;rw[hPa];rfl
 rw[hwc] at hW hjt;have hcc:ccF (prOf vars arrays fs).vars arrays (prOf vars arrays fs).funcs o=ccF vars arrays fs o:=rfl;rw[hPa,hcc] at hW;have hwl:=ql2 (prW vars arrays fs o);have hnf:ndFs (prOf vars arrays fs).funcs=ndFs fs:=rfl;rw[hnf] at hW
 have hpw:prW vars arrays fs o=[[38,102,95,109,97,105,110],[58],decDigits o.scalars.toNat,[33],[36]]++(fnWs (ccF vars arrays fs o) 0 fs).1:=by
  unfold prW;rw[qb8 hS0]
 have hpl:(prW vars arrays fs o).length=5+(fnWs (ccF vars arrays fs o) 0 fs).1.length:=by
  rw[hpw,zLa];rfl
 have hTr:TrH ⟨tb,sm,am,scKV o.scalars 0 sl,arKV ys,g1,g2,o.scalars.toNat⟩ [] [] 0 [(tb,.cells 132 [qab,int .i64 0,int .i64 o.scalars,.atom (.map (some sm)),.atom (.map (some am)),str []]),(sm,.map (kvs (scKV o.scalars 0 sl)) g1),(am,.map (kvs (arKV ys)) g2)]:=⟨qab,[],Acc.nil,by
  simp only;rw[Int.toNat_of_nonneg hS0]
  rfl⟩
 have hpg:=qcn (B0:=B0) (w0:=w0) hG (k:=⟨tb,sm,am,scKV o.scalars 0 sl,arKV ys,g1,g2,o.scalars.toNat⟩) (cc:=ccF vars arrays fs o) (by show o.scalars.toNat<=_;omega) vars arrays fs hnd (λf hf=>by
  obtain⟨kn,k1,k2⟩:=hV.bodies f hf;refine⟨?_,hfn f hf,λp hp=>by have:=hown f hf p (mem_append_left _ hp);omega,hnum f hf,_,qx1 hV hf (hown f hf) k2,k1⟩;have:=htb f.name (by have:=hfn f hf;omega);rw[<-hsl2,<-hyy];exact this) (own0:=[]) (c0:=ccF vars arrays fs o []) (by
  have:=htb [] zDd;rw[<-hsl2,<-hyy]
  exact this) _ hTr zo
 rw[ePr] at hpg;refine gab ?_;refine oS (zsT (F:=[_,_]) [_,_] rfl qyG hpg λH2 h2=>?_) rfl;obtain⟨own,n,h2⟩:=h2;rw[<-hpw] at h2;generalize prW vars arrays fs o=W at *;obtain⟨v,Hv,hacc,rfl⟩:=h2;have j0:=Asm.joinS_spec (B0:=B0) (w0:=w0) [32] W zo zo;have hasm:=Asm.assemble_spec (B0:=B0) (w0:=w0) hG hM (join W [32]) o.code zo;refine gac ?_;refine oP (pL (c:=v) rfl zm2 rfl) rfl ?_;refine LOps.sub 87 rfl hacc.sub ?_;refine oS (sF [_,_] rfl j0 ?_) rfl;refine gac ?_
 cases hx:asmP (join W [32]) o.code with
 |error e=>
  rw[hx] at hasm hC;simp only at hC;subst hC;refine oS (sF [_,_] rfl hasm ?_) rfl;unfold Asm.asmLV;refine gab ?_
  have he:¬ (e.2:Int)=0:=by
   have h3:=hF.c1;have h4:=hF.c0;have:=quB zo hx;omega
  refine oC rfl (λ_=>?_) (λhc=>?_);refine gac ?_;exact qac (hj2.trans hj) (rC (zrt rfl) (zra rfl)) rfl;have h2:(!decide ((e.2:Int)=0))=false:=hc;simp at h2
  omega
 |ok x=>
  rw[hx] at hasm hC;simp only at hC;subst hC;refine oS (sF [_,_] rfl hasm ?_) rfl;unfold Asm.asmLV;refine gab ?_;refine oC rfl (λhc=>by cases hc) (λ_=>?_);refine gac ?_;exact qac (hj2.trans hj) (rC (zrt rfl) (zra rfl)) rfl
end
end Go.Proofs.YtkihibnffkpnkaaGreatDoor.Cmp
namespace Go.Proofs.YtkihibnffkpnkaaGreatDoor.Inp
open Go.GL Go.RowKit Go.Stele
theorem encPr_eq(p:Pr):qgo p=Chk.encPrG p.vars (p.arrays.map λa=>(a.name,(a.size:Int))) p.funcs:=by
 unfold qgo Chk.encPrG;rw[map_map];rfl
attribute [local irreducible] LOps qag qae LCalls Go.GL.Pure qax qam qad LQ LAny qaJ qan LS
section
variable{B0:Nat}{w0:World}
theorem checkPr_spec{p:Pr}{n:Nat}(h:SzP p n)(hn:n<=2000000):LCalls (KC B0 w0) 36 [qgo p] [] (λr H=>H=[]/\∃ nm,r=.ret (.tuple [str nm,int .i64 (qcf p)])):=by
 rw[encPr_eq]
 exact Chk.check_spec _ _ _ (zNt h.vars hn) (by rw[zLm];exact zNt h.arrays hn) (λa ha=>by
  obtain⟨x,hx,rfl⟩:=List.mem_map.1 ha;have:=h.size x hx;constructor;show(-9223372036854775808:Int)<=(x.size:Int);omega;show(x.size:Int)<9223372036854775808
  omega) (zNt h.funcs hn)
end
end Go.Proofs.YtkihibnffkpnkaaGreatDoor.Inp
namespace Go.Proofs.YtkihibnffkpnkaaGreatDoor.Inp
open Go.GL Go.RowKit Go.Stele
@[reducible] def Same(v:LV)(H:Heap):LRes->Heap->Prop:=λr H'=>r=.ret v/\H'=H
section steps
variable{C:Ctx}{n:Nat}{e:Env}{H:Heap}{dst:Option Nat}{ty:TypeId}{pos:String}{aft:Array Edge}{g:Option (Nat×Bool)}{K:LV->Heap->Prop}{X:List PanicEntry->Heap->Prop}
theorem retS{rs:List ResultVar}{vs:List LV}{lv:LV}{H0:Heap}(hd:e.ds=[])(h:qbW C n e H rs vs)(hv:qbI vs=lv)(hH:HSub H0 H):qad C n rs (Same lv H0) .ret e H:=
 rR hd h hH ⟨by rw[hv],rfl⟩
end steps
theorem qeG(n:Int):IntKind.u32.wrap n=n % 4294967296:=by
 simp only[IntKind.wrap,IntKind.bits,IntKind.signed,Bool.false_and];rfl
theorem qd8{a:Int}{b:Nat}(h:a=b):int .u32 a=u32 b:=by rw[h]
section
variable{a b:Nat}
theorem qjR(ha:a<4294967296)(hb:b<4294967296):IntKind.u32.wrap ((BitVec.ofInt IntKind.u32.bits a ^^^ BitVec.ofInt IntKind.u32.bits b).toNat:Nat)=((a ^^^ b:Nat):Int):=by
 rw[qeG,BitVec.toNat_xor]
 have h1:∀ n:Nat,n<4294967296->(BitVec.ofInt IntKind.u32.bits (n:Int)).toNat=n:=λn hn=>by
  rw[BitVec.ofInt_natCast,BitVec.toNat_ofNat];exact Nat.mod_eq_of_lt hn
 rw[h1 a ha,h1 b hb];have:a ^^^ b<4294967296:=Nat.xor_lt_two_pow (n:=32) ha hb;omega
end
section
variable{C:Ctx}{e:Env}{H:Heap}{dst:Option Nat}{ty:TypeId}{pos:String}{aft:Array Edge}{g:Option (Nat×Bool)}{x:Operand}
end
theorem qmi(n:Nat):IntKind.u8.wrap (n:Int)=((UInt8.ofNat n).toNat:Int):=by
 have h:IntKind.u8.wrap (n:Int)=(n:Int) % 256:=by
  simp only[IntKind.wrap,IntKind.bits,IntKind.signed,Bool.false_and];rfl
 rw[h];have h2:(UInt8.ofNat n).toNat=n % 256:=by simp
 rw[h2];omega
theorem qoh{s:Nat}{v:LV}{es:List LV}{H F:Heap}(h:GL.Acc s v es H F):v.cells? = some [v]/\([v].all qc0)=true:=by
 cases h <;> exact⟨rfl,rfl⟩
end Go.Proofs.YtkihibnffkpnkaaGreatDoor.Inp
namespace Go.Proofs.YtkihibnffkpnkaaGreatDoor.Mch
open Go.GL Go.RowKit Go.Stele
open Inp (u32)
def us(l:List Nat):List LV:=l.map u32
theorem qft(l:List Nat):(us l).length=l.length:=zLm _
theorem qsm(l:List Nat):∀ v∈us l,v.cells.length=1:=λv hv=>by
 obtain⟨a,_,rfl⟩:=List.mem_map.1 hv;rfl
theorem qjC:∀ l:List Nat,(us l).flatMap LV.cells=us l
 |[]=>rfl
 |a::l=>by
  show(u32 a::us l).flatMap LV.cells=u32 a::us l;rw[List.flatMap_cons,qjC l];rfl
theorem qhe(l m:List Nat):us (l++m)=us l++us m:=zMa
theorem qoI{el b m cap:Nat}{l:List Nat}{spare:List LV}(hm:l.length=m)(hc:m<=cap)(hl:m+spare.length=cap):MRow el 1 (.slice (some ⟨b,0,none⟩) m cap) (us l) [(b,.cells el (us l++spare))]:=
 MRow.of_cells (qsm l) (qjC l) (by rw[qft];exact hm) hc hl
theorem qlB{el s:Nat}{v:Value}{es:List LV}{H:Heap}(h:MRow el s v es H):(LV.atom v).cells? = some [LV.atom v]/\([LV.atom v].all qc0)=true:=by
 cases h <;> exact⟨rfl,rfl⟩
theorem qto{el:Nat}{v:Value}{l:List Nat}{H:Heap}(h:MRow el 1 v (us l) H)(hne:l≠[]):∃ b cap spare,v=.slice (some ⟨b,0,none⟩) l.length cap/\H=[(b,.cells el (us l++spare))]/\l.length<=cap/\l.length+spare.length=cap:=by
 obtain⟨b,cap,spare,h1,h2,h3,h4⟩:=h.addr (by intro e;exact hne (List.map_eq_nil_iff.1 e));rw[qft] at h1 h3 h4;rw[qjC] at h2;exact⟨b,cap,spare,h1,h2,h3,by omega⟩
structure MF where
 mb:Nat
 vm:Value
 pc:Nat
 vc:Value
 inp:List Nat
 vo:LV
 digit:Bool
 st:Nat
 stop:Bool
 bm:Nat
def MF.cells(f:MF)(vd:Value):List LV:=[.atom f.vm,u32 f.pc,.atom vd,.atom f.vc,.list (us f.inp),f.vo,bool f.digit,int .i64 (f.st:Nat),bool f.stop,.atom (.map (some f.bm))]
def DH(f:MF)(data:List Nat)(H:Heap):Prop:=∃ vd HD,MRow 30 1 vd (us data.reverse) HD/\H=(f.mb,.cells 89 (f.cells vd))::HD
def qhc:List PanicEntry:=[{ v:=.iface 116 (.agg #[]),recovered:=false }]
def qoF(f:MF)(data:List Nat):LRes->Heap->Prop:=λr H=>match data with
 |[]=>r=.panic qhc/\DH f [] H
 |v::d=>r=.ret (u32 v)/\DH f d H
def qiZ(f:MF)(data:List Nat)(v:Nat):LRes->Heap->Prop:=λr H=>if data.length<256 then r=.ret (.tuple [])/\DH f (v::data) H else r=.panic qhc/\DH f data H
def qi3(f:MF)(data:List Nat):LRes->Heap->Prop:=λr H=>match data with
 |[]=>r=.panic qhc/\DH f [] H
 |v::d=>if v<262144 then r=.ret (u32 v)/\DH f d H else r=.panic qhc/\DH f d H
attribute [local irreducible] LOps qag qae LCalls Go.GL.Pure qax qam qad LQ LAny qaJ qan LS
section
variable{B0:Nat}{w0:World}
theorem check_spec(b:Bool):LCalls (KC B0 w0) 71 [bool b] [] (λr H'=>H'=[]/\r=if b=true then .ret (.tuple []) else .panic qhc):=by
 refine zcI Tryz.func71 rfl (n:=6) rfl rfl rfl ?_;refine gab ?_;refine oC rfl (λhc=>?_) (λhc=>?_);have hb:b=false:=by simpa using hc
 subst hb;refine gab ?_;refine oS (qae.panic rfl λe' he'=>?_) rfl;exact qad.panic (he'.trans rfl) zhr ⟨rfl,rfl⟩;have hb:b=true:=by simpa using hc
 subst hb;refine gaa ?_;exact rO rfl rN zhr ⟨rfl,rfl⟩
end
section
variable{B0:Nat}{w0:World}{e:Env}{H:Heap}{dst:Option Nat}{ty:TypeId}{pos:String}{aft:Array Edge}{g:Option (Nat×Bool)}{K:LV->Heap->Prop}{X:List PanicEntry->Heap->Prop}
theorem S.check{b:Bool}{o:Operand}{ats:Array TypeId}(hx:e.ev o=bool b)(hk:b=true->K (.tuple []) H)(hn:b=false->X qhc H):qae (KC B0 w0) ⟨dst,.call { callee:=.value (.func 71),args:=#[o],argTypes:=ats },ty,pos,aft,g⟩ e H K X:=by
 refine S.callH (H1:=[]) (F:=H) [o] (by simp only[zMc,List.map_nil,hx]) zpr (check_spec b) ?_ ?_;rintro v H' ⟨rfl,h⟩
 cases b with
 |true=>cases h;exact hk rfl
 |false=>cases h
 rintro ch H' ⟨rfl,h⟩
 cases b with
 |true=>cases h
 |false=>cases h;exact hn rfl
end
section
variable{B0:Nat}{w0:World}{f:MF}{data:List Nat}{H:Heap}
theorem qsN(h:DH f data H)(hf:data.length<=256)(v:Nat):LCalls (KC B0 w0) 129 [ptr f.mb 0,u32 v] H (qiZ f data v):=by
 obtain⟨vd,HD,hm,rfl⟩:=h;have hl:(us data.reverse).length=data.length:=by rw[qft,length_reverse]
 unfold qiZ;refine zcI Tryz.func129 rfl (n:=21) rfl rfl rfl ?_;refine gac ?_;refine oP (Pure.mlen rfl hm) rfl ?_;refine gaa ?_;refine oS (S.check rfl (λhb=>?_) (λhb e' he'=>?_)) rfl;have hlt:data.length<256:=by have:=zt hb;omega
 simp only[if_pos hlt];refine gac ?_;refine zQ0 ?_;refine oS (S.appM (HM:=HD) (F:=[_]) rfl (List.perm_append_singleton _ _).symm hm rfl (by simp;rfl) rfl (by simp;omega) λv' H' hm'=>?_) rfl;refine gaa ?_;refine oS (sS (n:=1) (vs:=[LV.atom v']) (cs':=[_,_,_,_,_,_,_,_,_,_]) rfl pH (qlB hm').1 rfl rfl (qlB hm').2 rfl ?_) rfl;refine gaf ?_
 exact rO rfl rN zhr ⟨rfl,v',H',by
  rw[List.reverse_cons,qhe]
  exact hm',rfl⟩
 have hlt:¬ data.length<256:=by have:=zf hb;omega
 simp only[if_neg hlt];refine gak ?_;exact qad.panic (he'.trans rfl) zhr ⟨rfl,vd,HD,hm,rfl⟩
theorem qpq(h:DH f data H)(hf:data.length<=256):LCalls (KC B0 w0) 131 [ptr f.mb 0] H (qoF f data):=by
 obtain⟨vd,HD,hm,rfl⟩:=h;have hl:(us data.reverse).length=data.length:=by rw[qft,length_reverse]
 unfold qoF;refine zcI Tryz.func131 rfl (n:=32) rfl rfl rfl ?_;refine gac ?_;refine oP (Pure.mlen rfl hm) rfl ?_;refine gab ?_
 cases data with
 |nil=>
  refine oS (S.check rfl (λhb=>?_) (λhb e' he'=>?_)) rfl;cases hb;refine gak ?_
  exact qad.panic (he'.trans rfl) zhr ⟨rfl,vd,HD,hm,rfl⟩
 |cons a r=>
  refine oS (S.check rfl (λhb=>?_) (λhb=>?_)) rfl;rotate_left;have:=zf hb;rw[hl,zLc] at this;omega;obtain⟨b,cap,spare,rfl,rfl,hc,hcap⟩:=qto hm (by rw[List.reverse_cons];simp);rw[List.reverse_cons,qhe,zAs] at *;rw[zLa,length_reverse,List.length_singleton] at hc hcap;have hsz:(us r.reverse).length=r.length:=by rw[qft,length_reverse]
  have hel:(r.reverse++[a]).length=r.length+1:=by simp
  rw[zLc] at hl hf;refine gab ?_;refine oP (Pure.indexRowE (o:=r.length) rfl rfl zo zo zo) rfl ?_;refine oP (pL (c:=u32 a) rfl zm1 (by rw[List.getElem?_append_right zo,hsz,Nat.sub_self];rfl)) rfl ?_;refine gab ?_;refine oP (Pure.rowSlice (n:=r.length) rfl (by exact qao zo) zo) rfl ?_;refine gab ?_;exact rR rfl (zra rfl) zhr ⟨rfl,_,_,qoI (l:=r.reverse) (spare:=us [a]++spare) (by rw[length_reverse]) zo (by rw[zLa,qft];simp only[List.length_singleton];omega),rfl⟩
theorem qfG(h:DH f data H)(hf:data.length<=256):LCalls (KC B0 w0) 130 [ptr f.mb 0] H (qi3 f data):=by
 have hp:=qpq (B0:=B0) (w0:=w0) h hf;unfold qoF at hp;unfold qi3;refine zcI Tryz.func130 rfl (n:=10) rfl rfl rfl ?_;refine gap ?_
 cases data with
 |nil=>
  refine oS (S.callH (H1:=H) (F:=[]) [_] rfl (by rw[zLz]) hp ?_ ?_) rfl;rintro v H' ⟨h1,_⟩;cases h1;rintro ch H' ⟨h1,h2⟩ e' he';cases h1;refine gak ?_
  exact qad.panic (he'.trans rfl) zhr ⟨rfl,by rw[zLz];exact h2⟩
 |cons a r=>
  refine oS (S.callH (H1:=H) (F:=[]) [_] rfl (by rw[zLz]) hp ?_ ?_) rfl;rotate_left;rintro ch H' ⟨h1,_⟩;cases h1;rintro v H' ⟨h1,h2⟩;cases h1;rw[zLz];refine gac ?_;refine oS (S.check rfl (λhb=>?_) (λhb e' he'=>?_)) rfl;have hlt:a<262144:=by have:(a:Int)<262144:=zt hb;omega
  simp only[if_pos hlt];refine gac ?_;exact rR rfl (zra rfl) zhr ⟨rfl,h2⟩;have hlt:¬ a<262144:=by have:¬ (a:Int)<262144:=zf hb;omega
  simp only[if_neg hlt];refine gak ?_;exact qad.panic (he'.trans rfl) zhr ⟨rfl,h2⟩
end
open Inp (u32 Same retS qeG qd8 qjR)
def memL(f:Nat->Nat):List LV:=(List.range 262144).map λi=>u32 (f i)
theorem qhs(f:Nat->Nat):(memL f).length=262144:=by
 unfold memL;rw[zLm,List.length_range]
theorem qhl(f:Nat->Nat){a:Nat}(h:a<262144):(memL f)[a]? = some (u32 (f a)):=by
 unfold memL;rw[List.getElem?_map,List.getElem?_range h];rfl
theorem qno(l:List LV):setL l 0 []=l:=by cases l <;> rfl
theorem qpF:∀ (l:List LV) (a:Nat) (v:LV),setL l a [v]=l.set a v
 |[],a,v=>by cases a <;> rfl
 |x::xs,0,v=>by
  show v::setL xs 0 []=_;rw[qno]
  rfl
 |x::xs,a+1,v=>by
  show x::setL xs a [v]=_;rw[qpF xs a v];rfl
theorem qlR(f:Nat->Nat)(a v:Nat):setL (memL f) a [u32 v]=memL (λi=>if i=a then v else f i):=by
 rw[qpF];refine List.ext_getElem? λi=>?_;rw[List.getElem?_set,qhs]
 by_cases h2:i<262144
 rw[qhl (λi=>if i=a then v else f i) h2,qhl f h2]
 by_cases h:a=i
 subst h;simp[h2];have h3:¬ i=a:=λe=>h e.symm;simp[h,h3];have n1:∀ f,(memL f)[i]? = none:=λf=>List.getElem?_eq_none (by rw[qhs];omega);rw[n1 f,n1 (λi=>if i=a then v else f i)]
 by_cases h:a=i
 subst h;simp[h2];simp[h]
theorem qmN:List.replicate 262144 (LV.atom (.int .u32 0))=memL (λ_=>0):=by
 unfold memL;rw[List.map_const',List.length_range];rfl
attribute [irreducible] memL
theorem qw6{c:Nat}{s s':MS}(h:exeM c s=.run s')(hc:qca c=true):s'.data≠[]:=by
 unfold exeM at h;rw[if_pos hc] at h;unfold ql6 at h;split at h;split at h;exact zT32;cases h;unfold qdG at h;split at h;exact zT32;cases h
def fnE(k:Int)(f:FuncId)(n:Nat):MapEntry:={ key:=.int .u32 k,val:=.func (.func f) #[] #[],born:=n }
def qsw:Array MapEntry:=#[fnE 43 67 0,fnE 45 68 1,fnE 42 69 2,fnE 47 70 3,fnE 37 72 4,fnE 94 73 5,fnE 60 74 6]
theorem qtG{c:Nat}(h:¬ (c=43∨c=45∨c=42∨c=47∨c=37∨c=94∨c=60)):Instr.findNow (.int .u32) (.int .u32 (c:Int)) qsw.toList 0=some none:=by
 have key:∀ k:Nat,c≠k->((c:Int) == (k:Int))=false:=λk hk=>by
  rw[beq_eq_false_iff_ne];omega
 have k1:=key 43 zo;have k2:=key 45 zo;have k3:=key 42 zo;have k4:=key 47 zo;have k5:=key 37 zo;have k6:=key 94 zo;have k7:=key 60 zo;simp only[qsw,fnE,Instr.findNow,Instr.sameNow,if_true];simp only[Int.cast_ofNat_Int] at k1 k2 k3 k4 k5 k6 k7;simp only[k1,k2,k3,k4,k5,k6,k7]
def resM(o:Option Nat):LRes:=match o with
 |some v=>.ret (u32 v)
 |none=>.panic qhc
section
variable{B0:Nat}{w0:World}{H:Heap}{a b:Nat}
theorem qho:LCalls (KC B0 w0) 34 [] [] (λr H=>∃ om,r=.ret (.atom (.map (some om)))/\H=[(om,.obj (.map qsw 7))]):=by
 refine zcI Tryz.func34 rfl (n:=3) rfl rfl rfl ?_;refine gaq ?_;refine oS (S.makeMap λom=>?_) rfl;refine zQ3 ?_;refine zQ44 ?_;refine oS (S.insertK (kt:=30) (el:=113) (kd:=.u32) zk zk rfl rfl rfl pH rfl rfl ?_) rfl;refine gaa ?_;exact rR rfl (zra rfl) zhr ⟨om,rfl,rfl⟩
theorem qwf(ha:a<4294967296)(hb:b<4294967296):LCalls (KC B0 w0) 67 [u32 a,u32 b] H (Same (u32 ((a+b) % 4294967296)) H):=by
 refine zcI Tryz.func67 rfl (n:=8) rfl rfl rfl ?_;refine gap ?_;refine oP (Pure.addW rfl rfl) rfl ?_;refine gaf ?_;exact retS rfl (zra rfl) (qd8 (by rw[qeG];omega)) zhr
theorem qwr(ha:a<4294967296)(hb:b<4294967296):LCalls (KC B0 w0) 68 [u32 a,u32 b] H (Same (u32 ((a+4294967296-b) % 4294967296)) H):=by
 refine zcI Tryz.func68 rfl (n:=8) rfl rfl rfl ?_;refine gap ?_;refine oP (Pure.subW rfl rfl) rfl ?_;refine gaf ?_;exact retS rfl (zra rfl) (qd8 (by rw[qeG];omega)) zhr
theorem qw8(ha:a<4294967296)(hb:b<4294967296):LCalls (KC B0 w0) 69 [u32 a,u32 b] H (Same (u32 (a * b % 4294967296)) H):=by
 refine zcI Tryz.func69 rfl (n:=8) rfl rfl rfl ?_;refine gap ?_;refine oP (Pure.mulW rfl rfl) rfl ?_;refine gaf ?_;exact retS rfl (zra rfl) (qd8 (by rw[qeG,<-Int.natCast_mul];generalize a * b=q;omega)) zhr
theorem qw2(ha:a<4294967296)(hb:b<4294967296):LCalls (KC B0 w0) 73 [u32 a,u32 b] H (Same (u32 (a ^^^ b)) H):=by
 refine zcI Tryz.func73 rfl (n:=8) rfl rfl rfl ?_;refine gap ?_;refine oP (Pure.xorW rfl rfl) rfl ?_;refine gaf ?_;exact retS rfl (zra rfl) (qd8 (qjR ha hb)) zhr
theorem qw7:LCalls (KC B0 w0) 74 [u32 a,u32 b] H (Same (u32 (if a<b then 1 else 0)) H):=by
 refine zcI Tryz.func74 rfl (n:=8) rfl rfl rfl ?_;refine gac ?_;refine oC rfl (λhc=>?_) (λhc=>?_);have h1:a<b:=by have:=zt hc;omega
 refine gao ?_;exact retS rfl (zra rfl) (by rw[if_pos h1];rfl) zhr;have h1:¬ a<b:=by have:=zf hc;omega
 refine gac ?_;exact retS rfl (zra rfl) (by rw[if_neg h1];rfl) zhr
theorem qw9(ha:a<4294967296):LCalls (KC B0 w0) 70 [u32 a,u32 b] H (λr H'=>H'=H/\r=resM (if b=0 then none else some (a / b))):=by
 refine zcI Tryz.func70 rfl (n:=11) rfl rfl rfl ?_;refine gab ?_
 by_cases h0:b=0
 refine oS (S.check rfl (λhb=>?_) (λhb e' he'=>?_)) rfl;simp[h0] at hb;refine gak ?_;exact qad.panic (he'.trans rfl) zhr ⟨rfl,by rw[if_pos h0];rfl⟩;refine oS (S.check rfl (λhb=>?_) (λhb e' he'=>?_)) rfl;rotate_left;simp[h0] at hb;refine gam ?_;refine oP (Pure.quoW rfl rfl zo) rfl ?_;refine gaf ?_;refine rR rfl (zra rfl) zhr ⟨rfl,?_⟩;rw[if_neg h0];exact congrArg LRes.ret (qd8 (by rw[qeG,Int.tdiv_eq_ediv_of_nonneg zo,<-Int.natCast_ediv];have hq:a / b<4294967296:=Nat.lt_of_le_of_lt (Nat.div_le_self a b) ha;generalize a / b=q at hq ⊢;omega))
theorem qwX(ha:a<4294967296):LCalls (KC B0 w0) 72 [u32 a,u32 b] H (λr H'=>H'=H/\r=resM (if b=0 then none else some (a % b))):=by
 refine zcI Tryz.func72 rfl (n:=11) rfl rfl rfl ?_;refine gab ?_
 by_cases h0:b=0
 refine oS (S.check rfl (λhb=>?_) (λhb e' he'=>?_)) rfl;simp[h0] at hb;refine gak ?_;exact qad.panic (he'.trans rfl) zhr ⟨rfl,by rw[if_pos h0];rfl⟩;refine oS (S.check rfl (λhb=>?_) (λhb e' he'=>?_)) rfl;rotate_left;simp[h0] at hb;refine gam ?_;refine oP (Pure.remW rfl rfl zo) rfl ?_;refine gaf ?_;refine rR rfl (zra rfl) zhr ⟨rfl,?_⟩;rw[if_neg h0];exact congrArg LRes.ret (qd8 (by rw[Int.tmod_eq_emod_of_nonneg zo,<-Int.natCast_emod]))
theorem qmV{c:Nat}(hc:c=43∨c=45∨c=42∨c=47∨c=37∨c=94∨c=60)(ha:a<4294967296)(hb:b<4294967296):∃ (j:Nat) (f:FuncId),Instr.findNow (.int .u32) (.int .u32 (c:Int)) qsw.toList 0=some (some (j,.func (.func f) #[] #[]))/\TEnter Tryz.prog f /\
  ∀ H,LCalls (KC B0 w0) f [u32 a,u32 b] H (λr H'=>H'=H/\r=resM (binM c a b)):=by
 rcases hc with rfl|rfl|rfl|rfl|rfl|rfl|rfl;exact⟨0,67,rfl,inferInstance,λH=>LCalls.mono (qwf ha hb) λr H' ⟨h1,h2⟩=>⟨h2,h1⟩⟩;exact⟨1,68,rfl,inferInstance,λH=>LCalls.mono (qwr ha hb) λr H' ⟨h1,h2⟩=>⟨h2,h1⟩⟩;exact⟨2,69,rfl,inferInstance,λH=>LCalls.mono (qw8 ha hb) λr H' ⟨h1,h2⟩=>⟨h2,h1⟩⟩;exact⟨3,70,rfl,inferInstance,λH=>qw9 ha⟩;exact⟨4,72,rfl,inferInstance,λH=>qwX ha⟩;exact⟨5,73,rfl,inferInstance,λH=>LCalls.mono (qw2 ha hb) λr H' ⟨h1,h2⟩=>⟨h2,h1⟩⟩;exact⟨6,74,rfl,inferInstance,λH=>LCalls.mono (qw7) λr H' ⟨h1,h2⟩=>⟨h2,h1⟩⟩
end
end Go.Proofs.YtkihibnffkpnkaaGreatDoor.Mch
