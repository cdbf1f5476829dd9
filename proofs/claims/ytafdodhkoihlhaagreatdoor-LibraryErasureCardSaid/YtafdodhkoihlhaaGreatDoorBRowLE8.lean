import Derived.Test.YtafdodhkoihlhaaGreatDoorBRowLE7
set_option linter.unusedVariables false
set_option linter.unusedSimpArgs false
set_option maxRecDepth 100000
set_option maxHeartbeats 0
open List (getElem_mem drop_length take_length drop_eq_getElem_cons foldl_cons mem_append_right mem_map_of_mem length_drop not_mem_nil nil_append cons_append)
open Nat (zero_le lt_succ_self)
open Option (getD_some none_or)
namespace Go.Proofs.Y.As
open Go.GL Go.RowKit Go.ia
variable{a b:Heap}{all met:List Wd}
abbrev rc(l:List (Wd×Nat)):List Wd:=l.map (·.1)
theorem qqJ{l:List (Wd×Nat)}{i:Nat}(h:i<l.length):rc (l.take (i+1))=rc (l.take i)++[l[i].1]:=by unfold rc;rw[List.take_succ_eq_append_getElem h,Te];rfl
theorem Y1{a:List Wd}{w d:Wd}(h:ya w=some d):Jb (a++[w])=Jb a++[d]:=by rw[zB,GG,h];rfl
theorem BQ{a:List Wd}{w:Wd}(h:ya w=none):Jb (a++[w])=Jb a:=by rw[zB,Zk h];simp[Jb]
theorem set_nil:Oe #[] (λs=>decide (s∈([]:List Wd))):=⟨λe he=>by simp at he,λs h=>by simp at h⟩
theorem qqo{es:Array MapEntry}{ds:List Wd}{d:Wd}(h:Oe es λs=>decide (s∈ds) || decide (s=d)):Oe es (λs=>decide (s∈ds++[d])):=
 cast (congrArg (Oe es) (funext λs=>by simp)) h
attribute [local irreducible] Ea kb ab ca Go.GL.Pure Ie pf ke LQ Rb oi Nj
variable{B0:Nat}{w0:World}
theorem Rn(hG:GW B0 w0)(hM:GM w0)(s:List UInt8)(hs:s.length<=400000000):ca (KC B0 w0) 56 [str s] [] (Ub (.list ((Tv s).map Lj))):=by
 have hP:Tv s=JE 0 (Fg 10 s):=rfl;have Ct:=B3 10 s;have hpa:((Fg 10 s).map str).length=(Fg 10 s).length:=Mb _;have sD:(Tv s).length<=s.length+1:=by have h1:=P3 s;rw[<-SK,Mb] at h1;exact h1
 have xt:=qly hG hM s 10 zo;refine jb Tryz.func56 rfl (n:=41) rfl rfl rfl ?_;refine cl ?_;refine oS (sF [_,_] rfl xt ?_);refine Aa ?_;refine oL (λk ls H=>∃ (i:Nat) (out:List (Wd×Nat)) (v:LV),i<=(Fg 10 s).length/\k=(Fg 10 s).length-i/\ls=[(3,v),(9,.list ((Fg 10 s).map str)),(10,int .i64 (Fg 10 s).length),(11,int .i64 (i:Nat))]/\Acc 2 v (out.map Lj) H []/\out++JE i ((Fg 10 s).drop i)=Tv s)
  ⟨_,_,_,⟨0,[],fc,zero_le _,rfl,rfl,Acc.nil,rfl⟩,Kb,bc _⟩ ?_
 rintro k ls H ⟨i,out,v,hi,rfl,rfl,Eb,hE⟩ j hj;refine wh ?_;refine Oa (λhc=>?_) λhc=>?_
 ·have Ka:i<(Fg 10 s).length:=by have:=zt hc;omega
  have Dt:out.length<=(Tv s).length:=by rw[<-hE,Ga];omega
  rw[qrn Ka] at hE;have fF:=WW (getElem_mem Ka);have ko:=qw2 hG hM (Fg 10 s)[i] 35 zo;have hW:wu (Fg 10 s)[i]=full (Fg 32 ((Fg 10 s)[i].takeWhile λd=>decide (d≠35))):=rfl;have htw:((Fg 10 s)[i].takeWhile λd=>decide (d≠35)).length<=(Fg 10 s)[i].length:=(List.takeWhile_prefix _).length_le;have Ol:=qly hG hM ((Fg 10 s)[i].takeWhile λd=>decide (d≠35)) 32 zo;have hql:=B3 32 ((Fg 10 s)[i].takeWhile λd=>decide (d≠35));generalize (Fg 10 s)[i].takeWhile (λd=>decide (d≠35))=line at ko hW htw Ol hql;generalize hq:Fg 32 line=q at hW Ol hql;have hqa:(q.map str).length=q.length:=Mb _
  repeat (first|refine Ea.nil ?_|refine qN ?_|refine kb.skip ?_)
  refine kb.seq ?_;refine cM (A:=List (Wd×Nat)×LV×Heap) (λa=>[(3,a.2.1),(9,.list ((Fg 10 s).map str)),(10,int .i64 (Fg 10 s).length),(11,int .i64 (i:Nat))]) (λa=>a.2.2) (λa=>a.1=out++(full q).map (λw=>(w,i+1))/\Acc 2 a.2.1 (a.1.map Lj) a.2.2 []) ?_ ?_;refine wa ?_;refine qa (xR (Ud:=str (Fg 10 s)[i]) (cs:=[str (Fg 10 s)[i]]) rfl rfl zo (Mo _ _ _ Ka) rfl rfl)<|xa ?_;refine oS (S.Ki [_,_] rfl ko ?_);rintro lv ⟨a,b,rfl⟩;refine wa ?_;refine oS (sF [_,_] rfl Ol ?_);refine Aa ?_
  refine oL (λk ls H=>∃ (x:Nat) (Zp:List (Wd×Nat)) (v:LV),x<=q.length/\k=q.length-x/\ls=[(3,v),(4,int .i64 (i:Nat)),(9,.list ((Fg 10 s).map str)),(10,int .i64 (Fg 10 s).length),(11,int .i64 (i:Nat)),(23,.list (q.map str)),(24,int .i64 q.length),(25,int .i64 (x:Nat))]/\Acc 2 v (Zp.map Lj) H []/\Zp.length<=out.length+x/\Zp++(full (q.drop x)).map (λw=>(w,i+1))=out++(full q).map λw=>(w,i+1))
   ⟨_,_,_,⟨0,out,v,zero_le _,rfl,rfl,Eb,by omega,rfl⟩,Kb,bc _⟩ ?_
  rintro k ls H ⟨x,Zp,v2,hx,rfl,rfl,ud,rm,Mt⟩ j2 Gc;have aal:(Zp.map Lj).length=Zp.length:=Mb _;refine wh ?_;refine Oa (λhc=>?_) λhc=>?_;have Ax:x<q.length:=by have:=zt hc;omega
  rw[qsQ Ax] at Mt;refine Zi ?_;refine qa (xR (Ud:=str q[x]) (cs:=[str q[x]]) rfl rfl zo (Mo _ _ _ Ax) rfl rfl)<|xa ?_;refine Oa (λhn=>?_) λhn=>?_;have xb:¬ q[x]=[]:=by simpa using hn
  rw[zn xb] at Mt;refine Xe ?_;refine qa (Cc (lv:=v2) rfl)<|Ra ?_;refine Kj ?_;refine oS (S.acc rfl ud rfl (by simp;rfl) rfl (by simp;omega) λv3 H3 ez=>qa (pA (lv:=v3) rfl) ?_);refine zm ?_;exact⟨_,_,_,by omega,⟨x+1,Zp++[(q[x],i+1)],v3,by omega,rfl,rfl,by rw[Te];exact ez,by simp;omega,by rw[Yc];exact Mt⟩,Kb,bc _,Gc⟩;have xb:q[x]=[]:=by simpa using hn
  rw[zp xb] at Mt;refine wa ?_;exact⟨_,_,_,by omega,⟨x+1,Zp,v2,by omega,rfl,rfl,ud,by omega,Mt⟩,Kb,bc _,Gc⟩;have To:x=q.length:=by have:=zf hc;omega
  subst To;rw[drop_length] at Mt;refine Aa ?_;exact⟨(Zp,v2,H),⟨by simpa [full] using Mt,ud⟩,Kb,bc _,Gc⟩;rintro⟨Zp,v2,H2⟩ ⟨ho,ud⟩ j3 Uo;simp only at ho ud;rw[hW,<-Yc,<-ho] at hE;refine zm ?_;exact⟨_,_,_,by omega,⟨i+1,Zp,v2,by omega,rfl,rfl,ud,by rw[<-hE]⟩,Kb,bc _,Uo.trans hj⟩
 have Wg:i=(Fg 10 s).length:=by have:=zf hc;omega
 subst Wg;rw[drop_length,JE,ue] at hE;subst hE;refine kb.sub (d:=3) (v:=v) rfl Eb.sub ?_;refine cW sd ?_;refine xa ?_;exact qb hj (rC (rT (v:=.list _) rfl ie) rN) rfl
theorem qp3{p:Wd×Nat}{x:Wd}{r:List (Wd×Nat)}(h:ya p.1=some x):Ye all met (p::r)=if x∈met then (p.2,8) else Ye all (met++[x]) r:=by obtain⟨w,ln⟩:=p;simp only at h;rw[Ye,h]
theorem qq6{p:Wd×Nat}{x:Wd}{r:List (Wd×Nat)}(h:ya p.1=none)(h2:Va p.1=some x):Ye all met (p::r)=if x∈all then Ye all met r else (p.2,7):=by obtain⟨w,ln⟩:=p;simp only at h h2;rw[Ye,h,h2]
theorem qoc{p:Wd×Nat}{r:List (Wd×Nat)}(h:ya p.1=none)(h2:Va p.1=none):Ye all met (p::r)=if Ay p.1=true then Ye all met r else (p.2,3):=by obtain⟨w,ln⟩:=p;simp only at h h2;rw[Ye,h,h2]
theorem fg(l:List (Wd×Nat))(hl:l.length<=1000000000)(hs:∀ p∈l,p.1.length<=1000000000):ca (KC B0 w0) 57 [.list (l.map Lj)] [] (Ub (.tuple [int .i64 ((Ye (Jb (rc l)) [] l).1:Nat),int .i64 ((Ye (Jb (rc l)) [] l).2:Nat)])):=by
 have JB:(l.map Lj).length=l.length:=Mb _;have zb:∀ w,(zeroValue 4).run (KC B0 w0).P w=.ok (.bool false) w:=λw=>(Go.zero_of_info (P:=Tryz.prog) (n:=1) zk).1 w;generalize hR:Ye (Jb (rc l)) [] l=R;refine jb Tryz.func57 rfl (n:=70) rfl rfl rfl ?_;refine Ep ?_;refine oS (S.makeMap λm=>?_);refine wa ?_
 refine oL (λk ls H=>∃ (i:Nat) (es:Array MapEntry) (ka:Nat),i<=l.length/\k=l.length-i/\ls=[(0,.list (l.map Lj)),(4,.atom (.map (some m))),(17,.list (l.map Lj)),(18,int .i64 l.length),(19,int .i64 (i:Nat))]/\H=[(m,.obj (.map es ka))]/\Oe es λs=>decide (s∈Jb (rc (l.take i))))
  ⟨_,_,_,⟨0,#[],0,zero_le _,rfl,rfl,rfl,set_nil⟩,Kb,bc _⟩ ?_
 rintro k ls H ⟨i,es,ka,hi,rfl,rfl,rfl,hM⟩ j1 Me;refine wh ?_;refine Oa (λhc=>?_) λhc=>?_;have Ka:i<l.length:=by have:=zt hc;omega
 have kd:=J4 (B0:=B0) (w0:=w0) l[i] (by have:=hs _ (getElem_mem Ka);omega);have fH:=qqJ Ka;refine PF ?_;refine oS (Sd λb6=>?_);refine xa ?_;refine oS (S.Ki [_] rfl kd ?_);rintro lv ⟨s,rfl,Ol⟩;refine wa ?_;refine Oa (λh=>?_) λh=>?_;obtain⟨d,hd⟩:=zR h;obtain rfl:=Ol d hd;refine Yd ?_;refine oS (S.zw (t:=117) (kt:=9) (el:=4) zk zk rfl rfl rfl Vd hM λAm mc FT=>?_);refine zm ?_;exact⟨_,_,_,by omega,⟨i+1,Am,mc,by omega,rfl,rfl,rfl,by rw[fH,Y1 hd];exact qqo FT⟩,Kb,⟨[_],List.Perm.refl _⟩,Me⟩
 have hn:ya l[i].1=none:=by
  cases ho:ya l[i].1 with
  |none=>rfl
  |some d=>rw[ho] at h;cases h
 refine wa ?_;exact⟨_,_,_,by omega,⟨i+1,es,ka,by omega,rfl,rfl,rfl,by rw[fH,BQ hn];exact hM⟩,Kb,Yg ob,Me⟩;have Wg:i=l.length:=by have:=zf hc;omega
 subst Wg;rw[take_length] at hM;refine wa ?_;refine oS (S.makeMap λm2=>?_);refine wa ?_;refine oL (λk ls H=>∃ (i:Nat) (WT:Array MapEntry) (Ut:Nat),i<=l.length/\k=l.length-i/\ls=[(4,.atom (.map (some m))),(9,.atom (.map (some m2))),(33,.list (l.map Lj)),(34,int .i64 l.length),(35,int .i64 (i:Nat))]/\H=[(m2,.obj (.map WT Ut)),(m,.obj (.map es ka))]/\Oe WT (λs=>decide (s∈Jb (rc (l.take i))))/\Ye (Jb (rc l)) (Jb (rc (l.take i))) (l.drop i)=R)
  ⟨_,_,_,⟨0,#[],0,zero_le _,rfl,rfl,rfl,set_nil,hR⟩,Kb,bc _⟩ ?_
 rintro k ls H ⟨i,WT,Ut,hi,rfl,rfl,rfl,KX,hE⟩ j2 Gc;refine wh ?_;refine Oa (λhc=>?_) λhc=>?_
 ·have Ka:i<l.length:=by have:=zt hc;omega
  have gr:=hs _ (getElem_mem Ka);have kd:=J4 (B0:=B0) (w0:=w0) l[i] zo;have kr:=qkq (B0:=B0) (w0:=w0) l[i] zo;have kc:=qn0 (B0:=B0) (w0:=w0) l[i] zo;have fH:=qqJ Ka;rw[drop_eq_getElem_cons Ka] at hE;refine PF ?_;refine oS (Sd λb11=>?_);refine xa ?_;refine oS (S.Ki [_] rfl kd ?_);rintro lv ⟨s,rfl,Ol⟩;refine wa ?_;refine Oa (λh=>?_) λh=>?_
  ·obtain⟨d,hd⟩:=zR h;obtain rfl:=Ol d hd;refine Yd ?_;refine qa (Pure.Aw (t:=117) (kt:=9) (el:=4) zk zk zb rfl rfl Xh KX)<|Ad ?_;refine Oa (λh3=>?_) λh3=>?_;have Og:=zt h3;refine wa ?_;rw[qp3 hd,zp Og] at hE;exact qb (Gc.trans Me) (rC (Xc rfl) (eb rfl)) (by rw[<-hE];rfl);have Og:=zf h3;refine wa ?_;refine oS (S.zw (t:=117) (kt:=9) (el:=4) zk zk rfl rfl rfl Vd KX λAm mc FT=>?_);refine zm ?_;exact⟨_,_,_,by omega,⟨i+1,Am,mc,by omega,rfl,rfl,rfl,by rw[fH,Y1 hd];exact qqo FT,by rw[fH,Y1 hd,<-hE,qp3 hd,zn Og]⟩,Kb,⟨[_],au _ (yq ..)⟩,Gc⟩
  have hn:ya l[i].1=none:=by
   cases ho:ya l[i].1 with
   |none=>rfl
   |some d=>rw[ho] at h;cases h
  refine xa ?_;refine oS (S.Ki [_] rfl kr ?_);rintro lv ⟨s,rfl,vO⟩;refine wa ?_;refine Oa (λh3=>?_) λh3=>?_;obtain⟨d,hd⟩:=zR h3;obtain rfl:=vO d hd;refine Yd ?_;refine qa (Pure.Aw (t:=117) (kt:=9) (el:=4) zk zk zb rfl rfl YB hM)<|Ra ?_;refine Oa (λh4=>?_) λh4=>?_;have Og:¬ s∈Jb (rc l):=by simpa using h4
  refine wa ?_;rw[qq6 hn hd,zn Og] at hE;exact qb (Gc.trans Me) (rC (Xc rfl) (eb rfl)) (by rw[<-hE];rfl);have Og:s∈Jb (rc l):=by simpa using h4
  refine wa ?_;exact⟨_,_,_,by omega,⟨i+1,WT,Ut,by omega,rfl,rfl,rfl,by rw[fH,BQ hn];exact KX,by rw[fH,BQ hn,<-hE,qq6 hn hd,zp Og]⟩,Kb,Yg ob,Gc⟩;have tX:Va l[i].1=none:=by
   cases ho:Va l[i].1 with
   |none=>rfl
   |some d=>rw[ho] at h3;cases h3
  refine xa ?_;refine oS (sF [_] rfl kc ?_);refine Ra ?_;refine Oa (λh4=>?_) λh4=>?_;have Og:¬ Ay l[i].1=true:=by simpa using h4
  refine wa ?_;rw[qoc hn tX,zn Og] at hE;exact qb (Gc.trans Me) (rC (Xc rfl) (eb rfl)) (by rw[<-hE];rfl);have Og:Ay l[i].1=true:=by simpa using h4
  refine wa ?_;exact⟨_,_,_,by omega,⟨i+1,WT,Ut,by omega,rfl,rfl,rfl,by rw[fH,BQ hn];exact KX,by rw[fH,BQ hn,<-hE,qoc hn tX,zp Og]⟩,Kb,Yg ob,Gc⟩
 have Wg:i=l.length:=by have:=zf hc;omega
 subst Wg;rw[drop_length,Ye] at hE;refine wa ?_;exact qb (Gc.trans Me) (rC (Xc rfl) (eb rfl)) (by rw[<-hE];rfl)
def nK(km:Option Nat)(Hk:Heap)(kn:Wd->Nat):Prop:=(km=none/\Hk=[]/\∀ x,kn x=0)∨∃ b m ka,km=some b/\Hk=[(b,.map (Ve m) ka)]/\∀ x,(GL.wb m x).getD (int .i64 0)=int .i64 (kn x:Nat)
section
variable{C:Ctx}{e:Env}{H:Heap}{dst:Option Nat}{ty:TypeId}{ra:String}{ua:Array Edge}{g:Option (Nat×Bool)}{K:LV->Heap->Prop}{X:List PanicEntry->Heap->Prop}{x y:Operand}
theorem S.known{t kt el:TypeId}(ht:C.P.underlying t=some (.map kt el))(Vf:C.P.underlying kt=some .string)(hz:∀ w,(zeroValue el).run C.P w=.ok (.int .i64 0) w){km:Option Nat}{Hk:Heap}{kn:Wd->Nat}{k:List UInt8}(hK:nK km Hk kn)(hm:e.ev x=.atom (.map km))(hx:e.ev y=str k)
  (hb:∀ q∈Hk,q∈H) (hk:K (int .i64 (kn k:Nat)) H):ab C ⟨dst,.lookup t x y false,ty,ra,ua,g⟩ e H K X:=by
 rcases hK with⟨rfl,rfl,h0⟩|⟨b,m,ka,rfl,rfl,hI⟩;refine Pure.step (Pure.vL ht Vf hz hm hx) ?_;rw[h0 k] at hk;exact hk;refine Pure.step (Pure.wb ht Vf hz (zl:=int .i64 0) (λ_ _=>Ld) hm hx (hb _ (Sq rfl))) ?_;rw[hI k];exact hk
end
theorem CZ{q:Nat×ja}:HSub (a++b) (a++q::b):=⟨[q],List.perm_middle.trans (List.perm_append_singleton _ _).symm⟩
theorem qwH{q:Nat×ja}:HSub (a++b) ((a++[q])++b):=by rw[Yc];exact CZ
theorem qz9(a b:Nat):int .i64 ((a+b:Nat):Int)=int .i64 ((a:Int)+(b:Nat)):=qf zo
theorem qxy{q:Nat×ja}:(a++q::b).Perm (b++(a++[q])):=by have h:=Lh (l₁:=a++[q]) (l₂:=b);rw[Yc] at h;exact h
theorem qAk{s:Nat}{v:LV}{es:List LV}{H F:Heap}(h:Acc s v es H F):HSub (a++F) (a++H):=by
 cases h with
 |nil=>exact bc _
 |row=>exact CZ
theorem nZ(kn:Wd->Nat)(og:Nat)(l:List Wd)(t:Wd)(ub:List (Wd×Nat))(h:∀ w∈l,w≠[]):t.length<=(l.foldl (dh kn og) (t,ub)).1.length:=by rw[xW,I1 kn l t h];omega
theorem qnv(kn:Wd->Nat)(og:Nat):∀ (l:List Wd) (s:Wd×List (Wd×Nat)),s.2.length<=((l.foldl (dh kn og) s).2).length/\((l.foldl (dh kn og) s).2).length<=s.2.length+l.length
 |[],s=>by simp
 |w::r,s=>by
  rw[foldl_cons];have:=qnv kn og r (dh kn og s w);have h2:s.2.length<=(dh kn og s w).2.length/\(dh kn og s w).2.length<=s.2.length+1:=by
   unfold dh;cases ya w with
   |some x=>simp
   |none=>simp
  simp only[Ma];omega
theorem qwr:Qf []=qe 32:=by decide
theorem qtH(hG:GW B0 w0)(l:List (Wd×Nat))(og:Nat)(ES:og<=1000000)(hl:l.length<=1000000000)(hs:∀ p∈l,p.1≠[]/\p.1.length<=1000000000)(kn:Wd->Nat)(gF:∀ x,kn x<=1000000000000)(hL:((rc l).foldl (dh kn og) ([],[])).1.length<=2000000000)(km:Option Nat)(Hk:Heap)(hK:nK km Hk kn) :
  ca (KC B0 w0) 58 [.list (l.map Lj),int .i64 (og:Nat),.atom (.map km)] Hk (λr H'=>r=.ret (.tuple [str ((rc l).foldl (dh kn og) ([],[])).1,.list (((rc l).foldl (dh kn og) ([],[])).2.map Lj)])/\H'=Hk):=by
 have JB:(l.map Lj).length=l.length:=Mb _;have zi:∀ w,(zeroValue 3).run (KC B0 w0).P w=.ok (.int .i64 0) w:=λw=>(Go.zero_of_info (P:=Tryz.prog) (n:=1) zk).1 w
 have JS:∀ i,∀ w∈rc (l.drop i),w≠[]:=λi w hw=>by obtain⟨p,hp,rfl⟩:=Ni hw;exact(hs p (List.mem_of_mem_drop hp)).1
 generalize hR:(rc l).foldl (dh kn og) ([],[])=R at hL ⊢;refine jb Tryz.func58 rfl (n:=68) rfl rfl rfl ?_;refine Ep ?_;refine oS (Sd λbb=>?_);refine wa ?_;refine oL (λk ls H=>∃ (i:Nat) (t:List UInt8) (ub:List (Wd×Nat)) (v:LV) (last:UInt8) (HB HL:Heap),i<=l.length/\k=l.length-i/\ls=[(1,int .i64 (og:Nat)),(2,.atom (.map km)),(8,ptr bb 0),(9,v),(10,int .u8 last.toNat),(18,.list (l.map Lj)),(19,int .i64 l.length),(20,int .i64 (i:Nat))]/\H=HB++HL/\BH bb t HB/\Acc 2 v (ub.map Lj) HL Hk/\Qf t=qe last/\ub.length<=i/\(rc (l.drop i)).foldl (dh kn og) (t,ub)=R)
  ⟨_,_,_,⟨0,[],[],fc,32,[(bb,.cells 97 [.atom (.pointer none),.atom (.slice none 0 0)])],Hk,zero_le _,rfl,rfl,rfl,⟨_,_,[],.inl rfl,ph.nil,rfl⟩,Acc.nil,qwr,zero_le _,hR⟩,Kb,bc _⟩ ?_
 rintro k ls H ⟨i,t,ub,v,last,HB,HL,hi,rfl,rfl,rfl,hB,Eb,US,fF,hE⟩ j hj;have hol:(ub.map Lj).length=ub.length:=Mb _;have htR:=nZ kn og (rc (l.drop i)) t ub (JS i);rw[hE] at htR;refine wh ?_;refine Oa (λhc=>?_) λhc=>?_;have Ka:i<l.length:=by have:=zt hc;omega
 obtain⟨xb,gr⟩:=hs _ (getElem_mem Ka);have kd:=J4 (B0:=B0) (w0:=w0) l[i] zo;have kr:=qkq (B0:=B0) (w0:=w0) l[i] zo;have vi:rc (l.drop i)=l[i].1::rc (l.drop (i+1)):=by unfold rc;rw[drop_eq_getElem_cons Ka,yd]
 rw[vi,foldl_cons] at hE;refine PF ?_;refine oS (Sd λCM=>?_);refine xa ?_;refine oS (S.Ki [_] rfl kd ?_);rintro lv ⟨s,rfl,Ol⟩;refine wa ?_;refine Oa (λh=>?_) λh=>?_;obtain⟨d,hd⟩:=zR h;obtain rfl:=Ol d hd;have gk:dh kn og (t,ub) l[i].1=(t,ub++[(s,og+t.length)]):=by unfold dh;rw[hd]
 rw[gk] at hE;refine Xe ?_;refine Cs ?_;refine oS (S.Uc (H1:=HB) (F:=(CM,.cells 186 [str l[i].1,int .i64 l[i].2])::HL) [_] rfl List.perm_middle.symm (qkD bb t HB hB) (λv' H' h=>?_) (λch H' h=>by obtain⟨h,_⟩:=h;cases h));obtain⟨hv,rfl⟩:=h;cases hv;refine Ra ?_;refine Kj ?_;refine oS (sG (H1:=HL) (A:=H'++[(CM,.cells 186 [str l[i].1,int .i64 l[i].2])]) qxy rfl Eb rfl (by simp;rfl) rfl (by simp;omega) λv' H2 Ob=>?_);refine Ql ?_;refine wa ?_
 exact⟨_,_,_,by omega,⟨i+1,t,ub++[(s,og+t.length)],v',last,H',H2,by omega,rfl,rfl,rfl,hB,by
  rw[Te];have e1:[Lj (s,og+t.length)]=[LV.agg [str s,int .i64 ((og:Int)+(t.length:Nat))]]:=by unfold Lj;rw[qz9]
  rw[List.map_singleton,e1];exact Ob,US,by simp;omega,hE⟩,Kb,qwH,hj⟩
 have hn:ya l[i].1=none:=by
  cases ho:ya l[i].1 with
  |none=>rfl
  |some d=>rw[ho] at h;cases h
 have gk:dh kn og (t,ub) l[i].1=(Ee kn t l[i].1,ub):=by unfold dh;rw[hn]
 obtain⟨cF,xX,hp2⟩:=ZQ kn t l[i].1 hn xb;have nM:Ee kn t l[i].1=t++(if Qf t && Mm (jf kn l[i].1) then [32] else [])++jf kn l[i].1:=by unfold Ee;rw[hn]
 have C6:=nZ kn og (rc (l.drop (i+1))) (Ee kn t l[i].1) ub (JS (i+1));rw[gk] at hE;rw[hE] at C6;refine cM (A:=Wd) (λs=>[(1,int .i64 (og:Nat)),(2,.atom (.map km)),(8,ptr bb 0),(9,v),(10,int .u8 last.toNat),(13,str s),(18,.list (l.map Lj)),(19,int .i64 l.length),(20,int .i64 (i:Nat))]) (λ_=>(CM,.cells 186 [str l[i].1,int .i64 l[i].2])::(HB++HL)) (λs=>s=jf kn l[i].1) ?_ ?_;refine xa ?_;refine oS (S.Ki [_] rfl kr ?_);rintro lv ⟨s,rfl,vO⟩;refine wa ?_;refine Oa (λh3=>?_) λh3=>?_;obtain⟨d,hd⟩:=zR h3;obtain rfl:=vO d hd;refine Yd ?_;refine oS (S.known (t:=124) (kt:=9) (el:=3) zk zk zi hK rfl rfl (λq hq=>Oc _ (mem_append_right _ (Eb.uD.mem q hq)))<|oS (sF [_] rfl (N4 hG (kn s) (gF s)) ?_));refine Ad ?_;exact⟨Iq (kn s),(by unfold jf;rw[hd]),Kb,bc _,rfl⟩
 have tX:Va l[i].1=none:=by
  cases ho:Va l[i].1 with
  |none=>rfl
  |some d=>rw[ho] at h3;cases h3
 refine Aa ?_;exact⟨l[i].1,(by unfold jf;rw[tX]),Kb,bc _,rfl⟩;rintro s ir j2 Gc;rw[<-ir] at cF xX hp2 nM;have kH:=cF;have Yu:=one_le (qe last && Mm s);obtain⟨c,r,zJ⟩:=List.exists_cons_of_ne_nil kH;have hfc:Mm s=qe c:=by rw[zJ];rfl
 rw[US] at nM hp2;refine kb.seq ?_;refine cM (A:=Heap) (λ_=>[(1,int .i64 (og:Nat)),(2,.atom (.map km)),(8,ptr bb 0),(9,v),(10,int .u8 last.toNat),(13,str s),(18,.list (l.map Lj)),(19,int .i64 l.length),(20,int .i64 (i:Nat))]) (λRO=>RO++(CM,.cells 186 [str l[i].1,int .i64 l[i].2])::HL) (λRO=>BH bb (t++if (qe last && Mm s)=true then [32] else []) RO) ?_ ?_;refine Yd ?_;refine oS (sF [_] rfl (qhm last) ?_);refine Aa ?_;refine oB 52 rfl (λh4=>?_) λh4=>?_;have FH:qe last=true:=h4;rw[FH,Bool.true_and,hfc];refine Aa ?_;refine qa (pI (c:=c) rfl rfl zo (by rw[zJ];rfl))<|Aa ?_;refine oS (sF [_] rfl (qhm c) ?_);refine Aa ?_;refine Oa (λh5=>?_) λh5=>?_;refine Xe ?_;refine oS (S.Uc (H1:=HB) (F:=(CM,.cells 186 [str l[i].1,int .i64 l[i].2])::HL) [_,_] rfl List.perm_middle.symm (qkU bb t 32 HB hB zo) (λv' H' h=>?_) (λch H' h=>by obtain⟨⟨x,h⟩,_⟩:=h;cases h));refine Ad ?_;exact⟨H',by rw[zp h5];exact h.2,Kb,bc _,rfl⟩;refine Aa ?_;exact⟨HB,by rw[zn (by rw[h5];decide),ue];exact hB,Kb,⟨[],by simpa using List.perm_middle.symm⟩,rfl⟩;have FH:qe last=false:=h4;rw[FH,wj];refine Aa ?_;refine oC rfl (λh5=>by cases h5) λh5=>?_;refine Aa ?_;exact⟨HB,by rw[zn ea,ue];exact hB,Kb,⟨[],by simpa using List.perm_middle.symm⟩,rfl⟩;rintro RO OX j3 Uo;have aaj:=List.length_pos_iff.2 kH
 have lq:s[((s.length:Int)-1).toNat]? = some (s.getLast kH):=by rw[show((s.length:Int)-1).toNat=s.length-1 by omega,List.getLast_eq_getElem,Yh zo]
 have Yy:Qf s=qe (s.getLast kH):=by unfold Qf;rw[List.getLast?_eq_some_getLast kH]
 have sD:(t++if (qe last && Mm s)=true then [32] else []).length+s.length<=2000000000:=by
  have:(t++if (qe last && Mm s)=true then [32] else []).length=t.length+one (qe last && Mm s):=by rw[Ga];unfold one;split <;> rfl
  omega
 rw[nM] at hE xX;generalize (t++if (qe last && Mm s)=true then [32] else [])=t2 at OX sD hE xX;refine Yd ?_;refine oS (S.Uc (H1:=RO) (F:=(CM,.cells 186 [str l[i].1,int .i64 l[i].2])::HL) [_,_] rfl dc (qfD bb t2 s RO OX zo) (λv' H' h=>?_) (λch H' h=>by obtain⟨⟨x,h⟩,_⟩:=h;cases h));obtain⟨⟨x,hx⟩,hB2⟩:=h;refine xa ?_;refine qa (pI (c:=s.getLast kH) rfl rfl zo lq)<|wa ?_;exact⟨_,_,_,by omega,⟨i+1,t2++s,ub,v,s.getLast kH,H',HL,by omega,rfl,rfl,rfl,hB2,Eb,by rw[xX,Yy],by omega,hE⟩,Kb,CZ,Uo.trans (Gc.trans hj)⟩;have Wg:i=l.length:=by have:=zf hc;omega
 subst Wg;rw[drop_length] at hE;have y8:(t,ub)=R:=hE;subst y8;refine kb.sub (d:=9) (v:=v) rfl Eb.sub ?_;refine cW (qAk Eb) ?_;refine wa ?_;refine oS (S.Uc (H1:=HB) (F:=Hk) [_] rfl dc (X3 bb t HB hB zo) (λv' H' h=>?_) (λch H' h=>by obtain⟨h,_⟩:=h;cases h));obtain⟨hv,rfl⟩:=h;cases hv;refine Ra ?_;exact rR hj (rC (Xc rfl) (rC (rT (v:=.list _) rfl ie) rN)) ob ⟨rfl,by simp⟩
theorem GV:∀ (l:List Wd) (d:Bool),ic d l<=3 * Mf l
 |[],d=>zero_le _
 |w::r,d=>by
  have h1:=one_le d;have h2:=one_le (d && Mm w);rw[ic,Ik];cases ya w with
  |some l=>have:=GV r d;simp only;omega
  |none=>
   cases hr:Va w with
   |some l=>
    have:=GV r true;have ma:2<=w.length:=by unfold Va at hr;split at hr;cases hr;rename_i c q;split at hr;rename_i hc;have:=List.length_pos_iff.2 (qxw hc.2);simp only[Ma];omega;cases hr
    simp only;omega
   |none=>have:=GV r (Qf w);simp only;omega
theorem quN(kn:Wd->Nat)(og M:Nat):∀ (l:List Wd) (s:Wd×List (Wd×Nat)),(∀ w∈l,w≠[])->((l.foldl (dh kn og) s).1).length<=M->(∀ p∈s.2,p.2<=og+M)->∀ p∈(l.foldl (dh kn og) s).2,p.2<=og+M
 |[],s,_,_,h=>h
 |w::r,s,hw,hM,h=>by
  rw[foldl_cons] at hM ⊢;refine quN kn og M r _ (λx hx=>hw x (Oc w hx)) hM ?_;have h1:=nZ kn og r (dh kn og s w).1 (dh kn og s w).2 λx hx=>hw x (Oc w hx);intro p hp;unfold dh at hp h1 hM
  cases hd:ya w with
  |none=>rw[hd] at hp;exact h p hp
  |some x=>rw[hd] at hp h1 hM;simp only at hp h1 hM;rcases xj hp with hp|hp;exact h p hp;rw[aj hp];simp only;omega
def dG(ub:List (Wd×Nat)):KV:=ub.map λp=>(p.1,int .i64 (p.2:Nat))
theorem qnb:∀ (ub:List (Wd×Nat)) (x:Wd),(GL.wb (dG ub) x).getD (int .i64 0)=int .i64 (lp ub x:Nat)
 |[],x=>rfl
 |p::r,x=>by unfold dG lp;rw[yd,GL.wb,List.find?_cons];by_cases h:p.1=x;rw[zp h,Dg h];rfl;rw[zn h,decide_eq_false h];exact qnb r x
theorem qry{ub:List (Wd×Nat)}{i:Nat}(h:i<ub.length)(hn:(ub.map (·.1)).Nodup):GL.Nc (dG (ub.take i)) ub[i].1 (int .i64 (ub[i].2:Nat))=dG (ub.take (i+1)):=by
 unfold dG;rw[List.take_succ_eq_append_getElem h,Te];refine lV ?_;rw[List.map_map];intro hm;have e1:ub.map (·.1)=(ub.take i).map (·.1)++ub[i].1::(ub.drop (i+1)).map (·.1):=by
  conv=>lhs;rw[<-List.take_append_drop i ub,drop_eq_getElem_cons h]
  rw[Te,yd]
 rw[e1,List.nodup_append] at hn;exact hn.2.2 _ hm _ Qe rfl
theorem qxr{ub:List (Wd×Nat)}{M:Nat}(h:∀ p∈ub,p.2<=M)(x:Wd):lp ub x<=M:=by
 unfold lp;cases hf:ub.find? λp=>decide (p.1=x) with
 |none=>exact zero_le _
 |some p=>exact h p (List.mem_of_find?_eq_some hf)
def Iv:Except (Nat×Nat) (Wd×List (Wd×Nat))->LV
 |.error e=>.tuple [str [],.list [],int .i64 (e.1:Nat),int .i64 (e.2:Nat)]
 |.ok x=>.tuple [str x.1,.list (x.2.map Lj),int .i64 0,int .i64 0]
theorem fl(hG:GW B0 w0)(hM:GM w0)(src:List UInt8)(og:Int)(hs:src.length<=300000000):ca (KC B0 w0) 30 [str src,int .i64 og] [] (Ub (Iv (Th src og))):=by
 have hA:Th src og=Th src og:=rfl
 conv at hA=>rhs;unfold Th
 generalize hR:Th src og=R at hA ⊢;refine ca.LL Tryz.func30 rfl (n:=65) rfl rfl rfl ?_;refine wa ?_;refine oB 19 rfl (λh1=>?_) λh1=>?_;have SX:og<0:=zt h1;rw[zp (.inl SX)] at hA;subst hA;refine Aa ?_;refine oC rfl (λh=>?_) (λh=>by cases h);refine Ak ?_;exact qb rfl (rC (Xc rfl) (rC (rT (v:=fc) rfl vN) (rC (Xc rfl) (eb rfl)))) rfl;have SX:¬ og<0:=zf h1;refine Ra ?_;refine Oa (λh2=>?_) λh2=>?_;have RB:og ≥ 262144:=zt h2;rw[zp (.inr RB)] at hA;subst hA;refine Ak ?_;exact qb rfl (rC (Xc rfl) (rC (rT (v:=fc) rfl vN) (rC (Xc rfl) (eb rfl)))) rfl;have RB:¬ og ≥ 262144:=zf h2;rw[zn zo] at hA;obtain⟨o,rfl⟩:∃ o:Nat,og=(o:Int):=⟨og.toNat,by omega⟩;rw[Int.toNat_natCast] at hA;have IX:=@bV src;have FX:=SK src;have hwt:=BW src;have sO:=P3 src;have cf:=qiN src;have Um:=GV (vk src) false;have gH:=Rn hG hM src zo;rw[<-FX] at hwt sO cf Um hA IX;rw[Mb] at sO;generalize Tv src=l at hwt sO cf Um gH hA IX;have xb:∀ w∈rc l,w≠[]:=λw hw=>(cf w hw).1
 have ae:∀ p∈l,p.1≠[]/\p.1.length<=1000000000:=λp hp=>by have hm:p.1∈l.map (·.1):=mem_map_of_mem hp;have:=qsI hm;exact⟨(cf _ hm).1,by omega⟩
 have lu:=fg (B0:=B0) (w0:=w0) l zo λp hp=>(ae p hp).2
 have ma:∀ kn,((rc l).foldl (dh kn o) ([],[])).1.length=ic false (rc l):=λkn=>by rw[xW];exact P1 kn _ xb
 have hjo:=λkn gF km Hk hK=>qtH hG l o zo zo ae kn gF (by rw[ma kn];show ic false (l.map (·.1))<=_;omega) km Hk hK;generalize hE:Ye (Jb (rc l)) [] l=E at lu hA IX;have Mt:E=(E.1,E.2):=rfl;refine wa ?_;refine oS (sF [_] rfl gH ?_);refine xa ?_;refine oS (sF [_] rfl lu ?_);refine xa ?_;refine Oa (λh1=>?_) λh1=>?_;have h3:¬ E.2=0:=by simpa using h1
 rw[zp h3] at hA;subst hA;refine wa ?_;exact qb rfl (rC (Xc rfl) (rC (rT (v:=fc) rfl vN) (rC (Xc rfl) (eb rfl)))) rfl;have h3:E.2=0:=by simpa using h1
 rw[zn zo] at hA;have Bh:=(IX h3).1;refine wa ?_;refine oS (S.Uc (H1:=[]) (F:=[]) [_,_,.const (.map none)] rfl dc (hjo (λ_=>0) (λ_=>zero_le _) none [] (.inl ⟨rfl,rfl,λ_=>rfl⟩)) (λv' H' hh=>?_) (λch H' hh=>by obtain⟨h,_⟩:=hh;cases h));obtain⟨hv,rfl⟩:=hh;cases hv;have ID:((rc l).foldl (dh (λ_=>0) o) ([],[])).2=Dq (λ_=>0) o (l.map (·.1)):=rfl;have hle:∀ p∈((rc l).foldl (dh (λ_=>0) o) ([],[])).2,p.2<=1000000000000:=λp hp=>by have:=quN (λ_=>0) o (ic false (rc l)) (rc l) ([],[]) xb (by rw[ma];exact Pb _) (λp hp=>by cases hp) p hp;have h5:ic false (rc l)<=3 * Mf (l.map (·.1)):=Um;omega
 have Ir:(((rc l).foldl (dh (λ_=>0) o) ([],[])).2.map (·.1)).Nodup:=by rw[B4];exact Bh
 have fF:=(qnv (λ_=>0) o (rc l) ([],[])).2;rw[ID] at hle Ir fF;generalize hLB:Dq (λ_=>0) o (l.map (·.1))=ub at hle Ir fF hA ID;rw[ID];have aas:ub.length<=l.length:=by have:(rc l).length=l.length:=Mb _;simp only[qc] at fF;omega
 have vH:(ub.map Lj).length=ub.length:=Mb _;refine xa ?_;refine oS (S.im λm=>?_);refine wa ?_;refine oL (λk ls H=>∃ (i:Nat) (ka:Nat),i<=ub.length/\k=ub.length-i/\ls=[(1,int .i64 (o:Nat)),(8,.list (l.map Lj)),(13,.atom (.map (some m))),(41,.list (ub.map Lj)),(42,int .i64 ub.length),(43,int .i64 (i:Nat))]/\H=[(m,.map (Ve (dG (ub.take i))) ka)])
  ⟨_,_,_,⟨0,0,zero_le _,rfl,rfl,rfl⟩,Kb,bc _⟩ ?_
 rintro k ls H ⟨i,ka,hi,rfl,rfl,rfl⟩ j hj;refine wh ?_;refine Oa (λhc=>?_) λhc=>?_;have Ka:i<ub.length:=by have:=zt hc;omega
 refine Zi ?_;refine qa (xR (Ud:=Lj ub[i]) (cs:=[_,_]) rfl rfl zo (Mo _ _ _ Ka) rfl rfl)<|Ra ?_;refine oS (Sd λb15=>?_);refine xa ?_;refine oS (S.Nc (t:=124) (kt:=9) (el:=3) (m:=dG (ub.take i)) (k:=ub[i].1) (lv:=int .i64 (ub[i].2:Nat)) zk zk rfl rfl rfl Vd λmc=>?_);rw[qry Ka Ir];refine zm ?_;exact⟨_,_,_,by omega,⟨i+1,mc,by omega,rfl,rfl,rfl⟩,Kb,⟨[_],List.Perm.refl _⟩,hj⟩;have Wg:i=ub.length:=by have:=zf hc;omega
 subst Wg;rw[take_length];have gF:=qxr hle;refine wa ?_;refine oS (S.Uc (H1:=[(m,.map (Ve (dG ub)) ka)]) (F:=[]) [_,_,_] rfl dc (hjo (lp ub) gF (some m) _ (.inr ⟨m,dG ub,ka,rfl,rfl,qnb ub⟩)) (λv' H' hh=>?_) (λch H' hh=>by obtain⟨h,_⟩:=hh;cases h));obtain⟨hv,rfl⟩:=hh;cases hv;have e1:((rc l).foldl (dh (lp ub) o) ([],[])).1=Vl (lp ub) (l.map (·.1)):=xW _ _ _ _;have e2:((rc l).foldl (dh (lp ub) o) ([],[])).2=ub:=by show Dq (lp ub) o (l.map (·.1))=ub;rw[qn6 (lp ub) (λ_=>0) o (l.map (·.1)) xb];exact hLB
 rw[e1,e2];generalize Vl (lp ub) (l.map (·.1))=tx at hA;refine xa ?_;refine Oa (λh2=>?_) λh2=>?_;have h5:40000<tx.length:=by have:=zt h2;omega
 rw[zp h5] at hA;subst hA;refine Ak ?_;exact qb hj (rC (Xc rfl) (rC (rT (v:=fc) rfl vN) (rC (Xc rfl) (eb rfl)))) rfl;have h5:¬ 40000<tx.length:=by have:=zf h2;omega
 rw[zn h5] at hA;subst hA;refine xa ?_;exact qb hj (rC (Xc rfl) (rC (rT (v:=.list _) rfl ie) (rC (Xc rfl) (eb rfl)))) rfl
end Go.Proofs.Y.As
namespace Go.Proofs.Y.Pp
open Go.GL Go.RowKit Go.ia
open As (sn sn.mk Yq)
variable{i:Nat}{n:Int}{v:List Wd}
attribute [local irreducible] Ea kb ab ca Go.GL.Pure Ie pf ke LQ Rb oi Nj
structure GW(B0:Nat)(w0:World):Prop where
 base:Go.Proofs.Y.GW B0 w0
 mx:As.GM w0
 MA : ∃ tp p, w0.var? Tryz.prog "strconv.ErrSyntax" = some #[.iface tp p]
variable{B0:Nat}{w0:World}
theorem GW.FE (h : GW B0 w0) {w : World} (hb : Below B0 w0 w) : ∃ tp p, w.var? Tryz.prog "strconv.ErrSyntax" = some #[.iface tp p] := by
 have hg : Tryz.prog.globalNamed "strconv.ErrSyntax" = some 1 := by kernel_rfl
 obtain⟨tp,p,hv⟩:=h.MA;exact⟨tp,p,var?_below hb hg (Nat.lt_of_lt_of_le ea h.base.VX) hv⟩
theorem GW.range (h : GW B0 w0) {w : World} (hb : Below B0 w0 w) : ∃ tp p, w.var? Tryz.prog "strconv.ErrRange" = some #[.iface tp p] := h.base.err hb
theorem He(hG:GW B0 w0)(u:Nat)(hu:u<18446744073709551616):ca (KC B0 w0) 195 [int .u64 u,int .i64 10] [] (Ub (str (Go.Lib.decDigits u))):=Go.Proofs.Y.He hG.base u hu
theorem Jf(s p:List UInt8):ca (KC B0 w0) 162 [str s,str p] [] (Ub (.tuple [str (Go.Lib.trimPrefix s p),bool (Go.Lib.hasPrefix s p)])):=As.Jf s p
theorem Hf(s p:List UInt8)(hs:s.length<=1000000000):ca (KC B0 w0) 172 [str s,str p] [] (Ub (.tuple [str (Go.Lib.trimSuffix s p),bool (Go.Lib.hasSuffix s p)])):=As.Hf s p hs
theorem qmc(hG:GW B0 w0)(s:List UInt8)(hs:s.length<=1000000000):ca (KC B0 w0) 194 [str s,int .i64 10,int .i64 32] []
  (wy λlv=>(∃ u,Go.Lib.parseUintB 32 s=.ok u/\lv=.tuple [int .u64 u,.atom .nilIface])∨((∀ u,Go.Lib.parseUintB 32 s≠.ok u)/\∃ v t p,lv=.tuple [int .u64 v,.atom (.iface t p)])):=by
 have ae:∀ k,1000000000<=k->s.toArray.size<=k:=λk hk=>by simp;omega
 refine ca.mono (ca.uh (vs:=[.string ⟨s.toArray⟩,.int .i64 10,.int .i64 32]) (p:=λus=>(∃ u,Go.Lib.parseUintB 32 s=.ok u/\us=[.int .u64 u,.nilIface])∨((∀ u,Go.Lib.parseUintB 32 s≠.ok u)/\∃ v t p,us=[.int .u64 v,.iface t p])) λw hw=>?_) ?_
 cases h:Go.Lib.parseUintB 32 s with
 |ok u=>
  refine(Tryz.strconv_ParseUint_10_at32_ok ⟨s.toArray⟩ (ae _ ea) u (by simpa using h) w).mono λe w' he=>⟨_,he.1,.inl ⟨u,rfl,rfl⟩,?_⟩;rcases he.2 with h2|h2;rw[h2];exact Below.refl _ _;rw[h2]
  exact⟨rfl,rfl,rfl,by rw[Go.Lib.bytesWorld_size];omega,λk hk=>Go.Lib.bytesWorld_at_old w 5 _ k hk⟩
 |range=>
  obtain⟨tp,p,hv⟩:=hG.range hw;refine(Tryz.strconv_ParseUint_10_at32_range_var ⟨s.toArray⟩ (ae _ ea) (by simpa using h) tp p w hv).mono λe w' he=>?_;obtain⟨N,h1,_,_,h4⟩:=he
  exact⟨_,h1,.inr ⟨(λu hu=>by cases hu),_,_,_,rfl⟩,h4⟩
 |_=>obtain⟨tp,p,hv⟩:=hG.FE hw;refine(Tryz.strconv_ParseUint_10_at32_syntax_var ⟨s.toArray⟩ (ae _ ea) ⟨λu hu=>(by rw[h] at hu;cases hu),λhu=>(by rw[h] at hu;cases hu)⟩ tp p w hv).mono λe w' he=>?_;obtain⟨N,h1,_,_,h4⟩:=he;exact⟨_,h1,.inr ⟨(λu hu=>by cases hu),_,_,_,rfl⟩,h4⟩
 rintro r H ⟨v,rfl,⟨us,gS,rfl⟩,rfl⟩;refine⟨_,rfl,?_,rfl⟩;rcases gS with⟨u,h1,rfl⟩|⟨h1,v,t,p,rfl⟩;exact .inl ⟨u,h1,rfl⟩;exact .inr ⟨h1,v,t,p,rfl⟩
theorem qvG(s:List UInt8)(hs:s.length<=1000000000):ca (KC B0 w0) 174 [str s,str oI] [] (Ub (str (Go.Lib.trimS s oI))):=
 ca.dn (vs:=[.string ⟨s.toArray⟩,.string ⟨oI.toArray⟩]) λw hw=>(Go.Proofs.Any.strings_Trim_laid Tryz.Ry zk ⟨s.toArray⟩ ⟨oI.toArray⟩ w (by show s.toArray.size<=_;simp;omega) ea (Go.Proofs.ascii_of_all ea))
theorem LZ(h:0<=n/\n<=4294967295):IntKind.u32.wrap n=n:=by simp only[IntKind.wrap,IntKind.bits,IntKind.signed,wj];simp;omega
theorem qy2(h:0<=n/\n<=4294967295):IntKind.u64.wrap n=n:=by simp only[IntKind.wrap,IntKind.bits,IntKind.signed,wj];simp;omega
theorem S0(n:Int):IntKind.u32.wrap n=n % 4294967296:=by simp only[IntKind.wrap,IntKind.bits,IntKind.signed,wj];simp
instance:Hh Gm 99:=.of zk
theorem NW(s:List UInt8)(hs:s.length<=1000000000):ca (KC B0 w0) 163 [str s] [] (Ub (bool (Sv s))):=by
 have hT:=qvG (B0:=B0) (w0:=w0) s hs;have xx:=qwR s;cases s with
 |nil=>refine jb Tryz.func163 rfl (n:=25) rfl rfl rfl ?_;refine xa ?_;exact qb rfl (eb rfl) rfl
 |cons c r=>
  have hN:Sv (c::r)=(decide ((c::r).length<=40) && Ml c && (c::r).all Si):=rfl;rw[Ml] at hN;refine jb Tryz.func163 rfl (n:=25) rfl rfl rfl ?_;refine xa ?_;refine oB 5 rfl (λh1=>?_) (λh1=>absurd h1 (by simp));refine oB 10 rfl (λh2=>?_) λh2=>?_;have RB:(c::r).length<=40:=by have:=zt h2;omega
  rw[Dg RB,Bool.true_and] at hN;refine Aa ?_;refine qa (pI (c:=c) rfl rfl zo rfl)<|Ra ?_;refine oB 15 rfl (λh3=>?_) λh3=>?_;have Nt:decide (97<=cv c)=true:=h3;rw[Nt,Bool.true_and] at hN;refine Aa ?_;refine qa (pI (c:=c) rfl rfl zo rfl)<|Ra ?_;refine oB 20 rfl (λh4=>?_) λh4=>?_;have FH:decide (cv c<=122)=true:=h4;rw[FH,Bool.true_and] at hN;refine Aa ?_;refine oS (sF [_,_] rfl hT ?_);refine Aa ?_
  exact qb rfl (eb rfl) (Re (by
   rw[hN,Bool.eq_iff_iff,decide_eq_true_iff];exact xx))
  have FH:decide (cv c<=122)=false:=h4;rw[FH,wj] at hN;refine Aa ?_;exact qb rfl (eb rfl) (Re hN.symm);have Nt:decide (97<=cv c)=false:=h3;rw[Nt,wj,wj] at hN;refine Aa ?_;exact qb rfl (eb rfl) (Re hN.symm);have RB:¬ (c::r).length<=40:=by have:=zf h2;omega
  rw[decide_eq_false RB,wj,wj] at hN;refine Aa ?_;exact qb rfl (eb rfl) (Re hN.symm)
theorem TN(hG:GW B0 w0)(w:Wd)(hs:w.length<=1000000000):ca (KC B0 w0) 166 [str w] [] (Ub (.tuple [int .u32 ((Db w).getD 0:Nat),bool (Db w).isSome])):=by
 have hP:=qmc hG w hs;refine jb Tryz.func166 rfl (n:=21) rfl rfl rfl ?_;refine cl ?_;refine oS (S.Ki [_,_,_] rfl hP ?_);rintro lv (⟨u,hu,rfl⟩|⟨mJ,v,t,p,rfl⟩);have Ka:=HZ hu;refine xa ?_;refine oS (sF [_,_] rfl (He hG u zo) ?_);refine Ra ?_;refine Oa (λh=>?_) λh=>?_;have xb:¬ Go.Lib.decDigits u=w:=by simpa using h
 have hn:Db w=none:=by unfold Db;rw[hu];exact zn xb
 refine Ak ?_;exact qb rfl (rC (Xc rfl) (eb rfl)) (by rw[hn];rfl);have he:Go.Lib.decDigits u=w:=by simpa using h
 have hn:Db w=some u:=by unfold Db;rw[hu];exact zp he
 refine xa ?_;exact qb rfl (rC (Xc rfl) (eb rfl)) (by
  rw[hn,LZ zo];rfl)
 have hn:Db w=none:=by unfold Db;split;rename_i u hu;exact absurd hu (mJ u);rfl
 refine xa ?_;refine Oa (λh=>?_) λh=>?_;refine Ak ?_;exact qb rfl (rC (Xc rfl) (eb rfl)) (by rw[hn];rfl);cases h
theorem qgH(w:Wd)(hs:w.length<=1000000000):ca (KC B0 w0) 95 [str w] [] (wy (sn (Va w))):=by
 obtain⟨r1,r2⟩:=Yq (qyG w);have ma:(Go.Lib.trimPrefix w [38]).length<=1000000000:=by unfold Go.Lib.trimPrefix;split;rw[length_drop];omega;exact hs
 refine jb Tryz.func95 rfl (n:=17) rfl rfl rfl ?_;refine cl ?_;refine oS (sF [_,_] rfl (Jf w [38]) ?_);refine wa ?_;refine oB 13 rfl (λh=>?_) λh=>?_;exact WO;rw[h,wj] at r1;refine Aa ?_;exact Iy rfl (rC (Xc rfl) (eb rfl)) (sn.mk r1 r2)
theorem T4(w:Wd)(hs:w.length<=1000000000):ca (KC B0 w0) 169 [str w] [] (wy (sn (ya w))):=by
 obtain⟨r1,r2⟩:=Yq (qxZ w);have ma:(Go.Lib.trimSuffix w [58]).length<=1000000000:=by unfold Go.Lib.trimSuffix;split;rw[List.length_take];omega;exact hs
 refine jb Tryz.func169 rfl (n:=17) rfl rfl rfl ?_;refine cl ?_;refine oS (sF [_,_] rfl (Hf w [58] hs) ?_);refine wa ?_;refine oB 13 rfl (λh=>?_) λh=>?_;exact WO;rw[h,wj] at r1;refine Aa ?_;exact Iy rfl (rC (Xc rfl) (eb rfl)) (sn.mk r1 r2)
def Wn(v:List Wd)(m:Nat):LV:=.agg [.list (v.map str),.atom (.map (some m))]
theorem Xn(v:List Wd)(m i:Nat)(hv:v.length<=1000000000):ca (KC B0 w0) 165 [Wn v m,int .i64 i] [] (Ub (str (na v i))):=by
 have JB:(v.map str).length=v.length:=Mb _;unfold Wn;refine jb Tryz.func165 rfl (n:=15) rfl rfl rfl ?_;refine Xe ?_;refine oS (sB (cs:=[.list (v.map str),.atom (.map (some m))]) rfl λb2=>?_);refine xa ?_;refine Oa (λh=>?_) λh=>?_;have Ka:i<v.length:=by have:=zt h;omega
 have hw:na v i=v[i]:=by unfold na;rw[Yh Ka];rfl
 refine xa ?_;refine qa (xR (Ud:=str v[i]) (cs:=[str v[i]]) rfl rfl zo (Mo _ _ _ Ka) rfl rfl)<|Ra ?_;exact qb rfl (eb rfl) (vQ hw.symm);have ku:v.length<=i:=by have:=zf h;omega
 have hw:na v i=[]:=by unfold na;rw[List.getElem?_eq_none ku];rfl
 refine wa ?_;exact qb rfl (eb rfl) (vQ hw.symm)
def Small(v:List Wd):Prop:=v.length<=1000000/\∀ w∈v,w.length<=1000000
theorem Small.at(h:Small v)(i:Nat):(na v i).length<=1000000:=by
 unfold na;cases hi:v[i]? with
 |none=>exact zero_le _
 |some w=>exact h.2 w (List.mem_of_getElem? hi)
theorem yW(v:List Wd)(m i:Nat)(hv:Small v)(hi:i<=1000):ca (KC B0 w0) 168 [Wn v m,int .i64 i] [] (wy (sn (mn v i))):=by
 have h1:=Xn (B0:=B0) (w0:=w0) v m i (by have:=hv.1;omega);have h2:=Xn (B0:=B0) (w0:=w0) v m (i+1) (by have:=hv.1;omega);have e2:int .i64 ((i:Int)+1)=int .i64 ((i+1:Nat):Int):=qf zo;rw[<-e2] at h2;have hl:=hv.at i;have hJ:mn v i=match Va (na v i) with
  |some l=>if na v (i+1)=[63] then some l else none
  |none=>none:=rfl
 unfold Wn at h1 h2 ⊢;refine jb Tryz.func168 rfl (n:=24) rfl rfl rfl ?_;refine Xe ?_;refine oS (sB (cs:=[.list (v.map str),.atom (.map (some m))]) rfl λb2=>?_);refine xa ?_;refine oS (sF [_,_] rfl h1<|oS (S.Ki [_] rfl (qgH _ zo) ?_));rintro lv ⟨s,rfl,hs⟩;refine wa ?_;refine oB 17 rfl (λh=>?_) λh=>?_;obtain⟨l,Et⟩:=zR h;have gr:=hs l Et;rw[Et] at hJ;refine Ra ?_;refine oS (sF [_,_] rfl h2 ?_);refine Aa ?_
 exact Iy rfl (rC (Xc rfl) (eb rfl)) (sn.mk (by rw[hJ];simp only;split <;> simp_all) (by
  intro l' h';rw[hJ] at h';simp only at h';split at h';injection h' with h';rw[gr,h'];cases h'))
 have hn:Va (na v i)=none:=by
  cases h3:Va (na v i) with
  |none=>rfl
  |some l=>rw[h3] at h;cases h
 rw[hn] at hJ;refine Aa ?_;exact Iy rfl (rC (Xc rfl) (eb rfl)) (sn.mk (by rw[hJ];rfl) (by
  intro l' h';rw[hJ] at h';cases h'))
theorem AP{a b:Nat}(ha:a<4294967296)(hb:b<4294967296):IntKind.u32.wrap (((BitVec.ofInt IntKind.u32.bits (a:Int) ^^^ BitVec.ofInt IntKind.u32.bits (b:Int)).toNat:Nat):Int)=((a ^^^ b:Nat):Int):=by
 have h1:(BitVec.ofInt 32 (a:Int) ^^^ BitVec.ofInt 32 (b:Int)).toNat=a ^^^ b:=by rw[BitVec.ofInt_natCast,BitVec.ofInt_natCast,BitVec.toNat_xor,BitVec.toNat_ofNat,BitVec.toNat_ofNat,Nat.mod_eq_of_lt ha,Nat.mod_eq_of_lt hb]
 have h2:a ^^^ b<4294967296:=Nat.xor_lt_two_pow (n:=32) ha hb;show IntKind.u32.wrap (((BitVec.ofInt 32 (a:Int) ^^^ BitVec.ofInt 32 (b:Int)).toNat:Nat):Int)=_;rw[h1,LZ zo]
theorem td(a b:Nat):IntKind.u32.wrap ((a:Int)+b)=(((a+b) % 4294967296:Nat):Int):=by rw[S0];omega
theorem Co{a b:Nat}(hb:b<4294967296):IntKind.u32.wrap ((a:Int)-b)=(((a+4294967296-b) % 4294967296:Nat):Int):=by rw[S0];omega
theorem yi(a b:Nat):IntKind.u32.wrap ((a:Int) * b)=((a * b % 4294967296:Nat):Int):=by rw[S0,Int.natCast_emod,Int.natCast_mul];rfl
theorem Hz{m:Nat}{o:Option Nat}(ho:o=some m)(h:n=(m:Int)):Oh [int .u32 n,bool true]=LV.tuple [int .u32 ((o.getD 0:Nat):Int),bool o.isSome]:=by subst h;subst ho;rfl
theorem qnc(a b:Nat)(op:Wd)(ha:a<4294967296)(hb:b<4294967296):ca (KC B0 w0) 208 [int .u32 a,str op,int .u32 b] [] (Ub (.tuple [int .u32 ((Tp a op b).getD 0:Nat),bool (Tp a op b).isSome])):=by
 have hC:Tp a op b=Tp a op b:=rfl
 conv at hC=>rhs;unfold Tp
 refine jb Tryz.func208 rfl (n:=47) rfl rfl rfl ?_;refine wa ?_;refine Oa (λh1=>?_) λh1=>?_;rw[zp (zt h1)] at hC;refine Yd ?_;refine qa (Pure.CE rfl rfl)<|Aa ?_;exact qb rfl (rC (Xc rfl) (eb rfl)) (Hz hC (td a b));rw[zn (zf h1)] at hC;refine Mn ?_;refine Oa (λh2=>?_) λh2=>?_;rw[zp (zt h2)] at hC;refine Yd ?_;refine qa (Pure.kC rfl rfl)<|Aa ?_;exact qb rfl (rC (Xc rfl) (eb rfl)) (Hz hC (Co hb));rw[zn (zf h2)] at hC;refine Mn ?_;refine Oa (λh3=>?_) λh3=>?_;rw[zp (zt h3)] at hC;refine Yd ?_;refine qa (Pure.xL rfl rfl)<|Aa ?_;exact qb rfl (rC (Xc rfl) (eb rfl)) (Hz hC (yi a b));rw[zn (zf h3)] at hC;refine Mn ?_;refine Oa (λh4=>?_) λh4=>?_;rw[zp (zt h4)] at hC;refine Yd ?_;refine qa (Pure.vw rfl rfl)<|Aa ?_;exact qb rfl (rC (Xc rfl) (eb rfl)) (Hz hC (AP ha hb));rw[zn (zf h4)] at hC;refine Mn ?_;refine Oa (λh5=>?_) λh5=>?_;rw[zp (zt h5)] at hC;refine wa ?_;refine Oa (λh6=>?_) λh6=>?_;have Ka:a<b:=by have:=zt h6;omega
 refine wa ?_;exact qb rfl (rC (Xc rfl) (eb rfl)) (by rw[hC,zp Ka];rfl);have Ka:¬ a<b:=by have:=zf h6;omega
 refine wa ?_;exact qb rfl (rC (Xc rfl) (eb rfl)) (by rw[hC,zn Ka];rfl);rw[zn (zf h5)] at hC;refine Mn ?_;refine ZB [(0,int .u32 a),(1,str op),(2,int .u32 b),(34,bool (decide (op=[47]∨op=[37])))] ?_ λj hj=>?_;refine Oa (λh6=>?_) λh6=>?_;refine Aa ?_;exact⟨⟨rfl,rfl,rfl,Re (by simp[zt h6]),trivial⟩,rfl,rfl⟩;refine Mn ?_;exact⟨⟨rfl,rfl,rfl,Re (by simp[zf h6]),trivial⟩,rfl,rfl⟩;refine Oa (λh6=>?_) λh6=>?_;have PT:op=[47]∨op=[37]:=zt h6;refine wa ?_;refine Oa (λh7=>?_) λh7=>?_;have Wf:b=0:=by have:=zt h7;omega
 have z8:Tp a op b=none:=by rw[hC];rcases PT with h|h;rw[zp h,zp Wf];rw[zn (by rw[h];decide),zp h,zp Wf]
 refine wa ?_;exact qb hj (rC (Xc rfl) (eb rfl)) (by rw[z8];rfl);have Wf:¬ b=0:=by have:=zf h7;omega
 refine wa ?_;refine Oa (λh8=>?_) λh8=>?_;rw[zp (zt h8),zn Wf] at hC;have hle:a / b<=a:=Nat.div_le_self _ _
 have e1:IntKind.u32.wrap ((a:Int).tdiv (b:Int))=((a / b:Nat):Int):=by rw[Int.tdiv_eq_ediv_of_nonneg zo,<-Int.natCast_ediv];exact LZ ⟨Int.natCast_nonneg _,Int.ofNat_le.2 (show a / b<=4294967295 by omega)⟩
 refine Yd ?_;refine qa (Pure.eQ rfl rfl zo)<|Aa ?_;exact qb hj (rC (Xc rfl) (eb rfl)) (Hz hC e1);have h9:op=[37]:=by rcases PT with h|h;exact absurd h (zf h8);exact h
 rw[zn (zf h8),zp h9,zn Wf] at hC;have e1:(a:Int).tmod (b:Int)=((a % b:Nat):Int):=by rw[Int.tmod_eq_emod_of_nonneg zo,<-Int.natCast_emod]
 refine wa ?_;refine qa (Pure.kK rfl rfl zo)<|Aa ?_;exact qb hj (rC (Xc rfl) (eb rfl)) (Hz hC e1);have PT:¬ (op=[47]∨op=[37]):=zf h6;have z8:Tp a op b=none:=by rw[hC,zn λh=>PT (.inl h),zn (λh=>PT (.inr h))]
 refine wa ?_;exact qb hj (rC (Xc rfl) (eb rfl)) (by rw[z8];rfl)
theorem qjI(hG:GW B0 w0)(x op y:Wd)(hx:x.length<=1000000)(hy:y.length<=1000000):ca (KC B0 w0) 164 [str x,str op,str y] [] (wy (sn (Mk x op y))):=by
 have n1:=TN hG x zo;have n2:=TN hG y zo;have hJ:Mk x op y=match Db x,Db y with
  |some a,some b=>match Tp a op b with
   |some c=>if (Go.Lib.decDigits c).length<=x.length+y.length+1 then some (Go.Lib.decDigits c) else none
   |none=>none
  |_,_=>none:=rfl
 have ha:(Db x).getD 0<4294967296:=by
  cases h:Db x with
  |none=>decide
  |some u=>exact IQ h
 have hb:(Db y).getD 0<4294967296:=by
  cases h:Db y with
  |none=>decide
  |some u=>exact IQ h
 have n3:=qnc (B0:=B0) (w0:=w0) _ _ op ha hb;have hc:(Tp ((Db x).getD 0) op ((Db y).getD 0)).getD 0<4294967296:=by
  cases h:Tp ((Db x).getD 0) op ((Db y).getD 0) with
  |none=>decide
  |some u=>exact EQ ha hb h
 have OD:=sN hc;refine jb Tryz.func164 rfl (n:=54) rfl rfl rfl ?_;refine cl ?_;refine oS (sF [_] rfl n1 ?_);refine wa ?_;refine oS (sF [_] rfl n2 ?_);refine wa ?_;refine oS (sF [_,_,_] rfl n3 ?_);refine xa ?_;refine oS (sF [_,_] (show _=[int .u64 (IntKind.u64.wrap (((Tp ((Db x).getD 0) op ((Db y).getD 0)).getD 0:Nat):Int)),int .i64 10] from rfl) (by rw[qy2 zo];exact He hG _ zo) ?_);refine cl ?_;refine oB 37 rfl (λh1=>?_) λh1=>?_;obtain⟨a,Nr⟩:=zR h1;refine Aa ?_;refine oB 40 rfl (λh2=>?_) λh2=>?_;obtain⟨b,oo⟩:=zR h2;rw[Nr,oo] at hJ;rw[Nr,oo];simp only at hJ;simp only[getD_some];refine Aa ?_;refine oB 43 rfl (λh3=>?_) λh3=>?_;obtain⟨c,We⟩:=zR h3;rw[Nr,oo] at OD;simp only[getD_some] at OD;rw[We] at hJ OD;rw[We];simp only[getD_some] at hJ OD ⊢;refine Ra ?_
 exact Iy rfl (rC (Xc rfl) (eb rfl)) (sn.mk (by
  rw[hJ];by_cases hle:(Go.Lib.decDigits c).length<=x.length+y.length+1;rw[zp hle,Dg zo];rfl;rw[zn hle,decide_eq_false zo];rfl) (by
  intro l' h';rw[hJ] at h';split at h';injection h';cases h'))
 have hn:Tp a op b=none:=by
  cases h4:Tp a op b with
  |none=>rfl
  |some l=>rw[h4] at h3;cases h3
 rw[hn] at hJ;refine Aa ?_;exact Iy rfl (rC (Xc rfl) (eb rfl)) (sn.mk (by rw[hJ];rfl) (by
  intro l' h';rw[hJ] at h';cases h'))
 have hn:Db y=none:=by
  cases h3:Db y with
  |none=>rfl
  |some l=>rw[h3] at h2;cases h2
 rw[Nr,hn] at hJ;refine Aa ?_;exact Iy rfl (rC (Xc rfl) (eb rfl)) (sn.mk (by rw[hJ];rfl) (by
  intro l' h';rw[hJ] at h';cases h'))
 have hn:Db x=none:=by
  cases h3:Db x with
  |none=>rfl
  |some l=>rw[h3] at h1;cases h1
 rw[hn] at hJ;refine Aa ?_;exact Iy rfl (rC (Xc rfl) (eb rfl)) (sn.mk (by rw[hJ];rfl) (by
  intro l' h';rw[hJ] at h';cases h'))
def lG(r:Rs):LV:=.tuple [int .i64 r.1,.list (r.2.map str)]
theorem qtt(hG:GW B0 w0)(v:List Wd)(m:Nat)(hv:Small v):ca (KC B0 w0) 96 [Wn v m] [] (Ub (lG (Rz v))):=by
 have k0:=Xn (B0:=B0) (w0:=w0) v m 0 (by have:=hv.1;omega);have k1:=Xn (B0:=B0) (w0:=w0) v m 1 (by have:=hv.1;omega);have k2:=Xn (B0:=B0) (w0:=w0) v m 2 (by have:=hv.1;omega);have kj:=qjI hG (na v 0) (na v 2) (na v 1) (hv.at 0) (hv.at 1);have hF:Rz v=match Mk (na v 0) (na v 2) (na v 1) with
  |some s=>(3,[s])
  |none=>(0,[]):=rfl
 unfold Wn at k0 k1 k2 ⊢;generalize Mk (na v 0) (na v 2) (na v 1)=o at kj hF;refine jb Tryz.func96 rfl (n:=19) rfl rfl rfl ?_;refine Xe ?_;refine oS (sB (cs:=[.list (v.map str),.atom (.map (some m))]) rfl λb1=>?_);refine Aa ?_;refine cD (m:=12) rfl [(b1,.cells 193 [.list (v.map str),.atom (.map (some m))])]<|aT 0 rfl rfl (pG (Zb:=[_,_]) rfl xc rfl rfl)<|aT 2 rfl rfl (pG (Zb:=[_,_]) rfl xc rfl rfl)<|aT 4 rfl rfl (pG (Zb:=[_,_]) rfl xc rfl rfl)<|UJ ?_;refine lO 3 (lS (H1:=[]) rfl (.inl rfl) rfl dc ob (sF [_,_] rfl k2 ?_));refine lO 5 (lS (H1:=[]) rfl (.inl rfl) rfl dc ob (sF [_,_] rfl k1 ?_));refine lO 6 (lS (H1:=[]) rfl (.inl rfl) rfl dc ob (S.Ki [_,_,_] rfl kj ?_));rintro lv ⟨s,rfl,hs⟩;refine oi.any [(b1,.cells 193 [.list (v.map str),.atom (.map (some m))])] (λ_ h=>h) ?_;refine aT 7 rfl rfl (Cc (lv:=.tuple _) rfl)<|aT 8 rfl rfl (Pure.extract (c:=.atom _) rfl rfl)<|aT 9 rfl rfl (Pure.extract (c:=.atom _) rfl rfl)<|aT 10 rfl rfl (pA (lv:=.atom _) rfl)<|aT 11 rfl rfl (pA (lv:=.atom _) rfl)<|ow ?_;refine Xi ?_;refine Oa (λh=>?_) λh=>?_;obtain⟨l,rfl⟩:=zR h;obtain rfl:=hs l rfl;refine Yd ?_;refine Kj ?_;refine Ra ?_;exact qb rfl (rC (Xc rfl) (rC (rT (v:=.list _) rfl ie) rN)) (by rw[hF];rfl)
 obtain rfl:o=none:=by
  cases o with
  |none=>rfl
  |some l=>cases h
 refine wa ?_;exact qb rfl (rC (Xc rfl) (rC (rT (v:=fc) rfl vN) rN)) (by rw[hF];rfl)
theorem qsp(hG:GW B0 w0)(v:List Wd)(m:Nat)(hv:Small v):ca (KC B0 w0) 101 [Wn v m] [] (Ub (lG (Wz v))):=by
 have k0:=Xn (B0:=B0) (w0:=w0) v m 0 (by have:=hv.1;omega);have kn:=TN hG (na v 0) (by have:=hv.at 0;omega);have kj:=yW (B0:=B0) (w0:=w0) v m 1 hv zo;have hF:Wz v=match Db (na v 0) with
  |some n=>if n≠0/\(mn v 1).isSome=true then (3,[]) else (0,[])
  |none=>(0,[]):=rfl
 unfold Wn at k0 kj ⊢;generalize Db (na v 0)=on at kn hF;generalize mn v 1=oj at kj hF;refine jb Tryz.func101 rfl (n:=27) rfl rfl rfl ?_;refine Xe ?_;refine oS (sB (cs:=[.list (v.map str),.atom (.map (some m))]) rfl λb1=>?_);refine xa ?_;refine oS (sF [_,_] rfl k0<|oS (sF [_] rfl kn ?_));refine xa ?_;refine oS (S.Ki [_,_] rfl kj ?_);rintro lv ⟨s,rfl,hs⟩;refine wa ?_;refine oB 20 rfl (λh1=>?_) λh1=>?_;rw[h1] at hF
 cases on with
 |none=>
  refine Aa ?_;refine Oa (λh=>?_) λh=>?_;cases h
  exact SJ
 |some n=>
  refine Ra ?_;refine Oa (λh=>?_) λh=>?_
  have hn:n≠0:=by intro h0;subst h0;exact absurd h ea
  simp only[hn,ne_eq,not_false_eq_true,and_self,if_true] at hF;refine Ak ?_;exact qb rfl (rC (Xc rfl) (rC (rT (v:=fc) rfl vN) rN)) (by rw[hF];rfl);have hn:n=0:=by
   have h0:¬ ¬ ((n:Int)=0):=by simpa using h
   omega
  subst hn;refine wa ?_;exact qb rfl (rC (Xc rfl) (rC (rT (v:=fc) rfl vN) rN)) (by rw[hF];rfl)
 rw[h1] at hF;refine Aa ?_;refine Oa (λh=>?_) λh=>?_;cases h;refine wa ?_
 exact qb rfl (rC (Xc rfl) (rC (rT (v:=fc) rfl vN) rN)) (by
  rw[hF];cases on <;> simp <;> rfl)
theorem qpw(v:List Wd)(m:Nat)(hv:Small v){es:Array MapEntry}{ka:Nat}{p:List UInt8->Bool}(hs:Oe es p):ca (KC B0 w0) 104 [Wn v m] [(m,.obj (.map es ka))] (λr H=>r=.ret (lG (Xv p v))/\H=[(m,.obj (.map es ka))]):=by
 have k0:=Xn (B0:=B0) (w0:=w0) v m 0 (by have:=hv.1;omega);have kd:=T4 (B0:=B0) (w0:=w0) (na v 0) (by have:=hv.at 0;omega);have hF:Xv p v=match ya (na v 0) with
  |some l=>if p l=true then (0,[]) else (1,[])
  |none=>(0,[]):=rfl
 unfold Wn at k0 ⊢;generalize ya (na v 0)=o at kd hF;refine jb Tryz.func104 rfl (n:=20) rfl rfl rfl ?_;refine Xe ?_;refine oS (sB (cs:=[.list (v.map str),.atom (.map (some m))]) rfl λb1=>?_);refine xa ?_;refine oS (sF [_,_] rfl k0<|oS (S.Ki [_] rfl kd ?_));rintro lv ⟨s,rfl,Ol⟩;refine wa ?_;refine oB 13 rfl (λh1=>?_) λh1=>?_;obtain⟨l,rfl⟩:=zR h1;obtain rfl:=Ol l rfl;simp only at hF;refine Aa ?_;refine qa (Pure.Aw (t:=117) (kt:=9) (el:=4) zk zk (λw=>(Go.zero_of_info (P:=Tryz.prog) (n:=1) zk).1 w) rfl rfl Xh hs)<|Ra ?_;refine Oa (λh=>?_) λh=>?_;have hp:p s=false:=by simpa using h
 refine Ak ?_;exact rR rfl (rC (Xc rfl) (rC (rT (v:=fc) rfl vN) rN)) (Yg ob) ⟨by rw[hF,hp];rfl,rfl⟩;have hp:p s=true:=by simpa using h
 refine wa ?_;exact rR rfl (rC (Xc rfl) (rC (rT (v:=fc) rfl vN) rN)) (Yg ob) ⟨by rw[hF,hp];rfl,rfl⟩;obtain rfl:o=none:=by
  cases o with
  |none=>rfl
  |some l=>cases h1
 refine Aa ?_;refine Oa (λh=>?_) λh=>?_;cases h;refine wa ?_;exact rR rfl (rC (Xc rfl) (rC (rT (v:=fc) rfl vN) rN)) (Yg ob) ⟨by rw[hF];rfl,rfl⟩
def DB(v:List Wd):Nat->List Wd->Bool
 |_,[]=>true
 |i,w::r=>decide (na v i=w) && DB v (i+1) r
theorem Cu(v:List Wd)(m i:Nat)(ws:List Wd)(hv:Small v)(hi:i<=1000)(hw:ws.length<=1000):ca (KC B0 w0) 167 [Wn v m,int .i64 i,.list (ws.map str)] [] (Ub (bool (DB v i ws))):=by
 have JB:(ws.map str).length=ws.length:=Mb _;have kw:∀ k,ca (KC B0 w0) 165 [Wn v m,int .i64 (k:Nat)] [] (Ub (str (na v k))):=λk=>Xn v m k (by have:=hv.1;omega);unfold Wn at kw ⊢;refine jb Tryz.func167 rfl (n:=24) rfl rfl rfl ?_;refine Xe ?_;refine oS (sB (cs:=[.list (v.map str),.atom (.map (some m))]) rfl λb3=>?_);refine wa ?_
 refine oL (λk ls H=>∃ j,j<=ws.length/\k=ws.length-j/\ls=[(1,int .i64 i),(3,ptr b3 0),(9,.list (ws.map str)),(10,int .i64 ws.length),(11,int .i64 j)]/\H=[(b3,.cells 193 [.list (v.map str),.atom (.map (some m))])]/\DB v i ws=DB v (i+j) (ws.drop j))
  ⟨_,_,_,⟨0,zero_le _,rfl,rfl,rfl,rfl⟩,Kb,bc _⟩ ?_
 rintro k ls H ⟨j,hj,rfl,rfl,rfl,hE⟩ j1 Me;refine wh ?_;refine Oa (λhc=>?_) λhc=>?_;have Ka:j<ws.length:=by have:=zt hc;omega
 rw[drop_eq_getElem_cons Ka,DB] at hE;have k1:=kw (i+j);have e1:int .i64 ((i+j:Nat):Int)=int .i64 ((i:Int)+j):=qf zo;rw[e1] at k1;refine wa ?_;refine qa (xR (Ud:=str ws[j]) (cs:=[str ws[j]]) rfl rfl zo (Mo _ _ _ Ka) rfl rfl)<|xa ?_;refine oS (sF [_,_] rfl k1 ?_);refine Ra ?_;refine Oa (λh=>?_) λh=>?_;have xb:¬ na v (i+j)=ws[j]:=by simpa using h
 rw[decide_eq_false xb,wj] at hE;refine wa ?_;exact qb Me (eb rfl) (Re hE.symm);have he:na v (i+j)=ws[j]:=by simpa using h
 rw[Dg he,Bool.true_and] at hE;refine wa ?_;exact⟨_,_,_,by omega,⟨j+1,by omega,rfl,rfl,rfl,by rw[hE,Nat.add_assoc]⟩,Kb,bc _,Me⟩;have jF:j=ws.length:=by have:=zf hc;omega
 subst jF;rw[drop_length,DB] at hE;refine wa ?_;exact qb Me (eb rfl) (Re hE.symm)
theorem qnK(v:List Wd)(m:Nat)(hv:Small v):ca (KC B0 w0) 97 [Wn v m] [] (Ub (lG (JC v))):=by
 have k0:=Xn (B0:=B0) (w0:=w0) v m 0 (by have:=hv.1;omega);have k1:=Xn (B0:=B0) (w0:=w0) v m 1 (by have:=hv.1;omega);have hF:JC v=if na v 0=[48]/\(na v 1=[43]∨na v 1=[45]∨na v 1=[94])∨na v 0=[49]/\(na v 1=[42]∨na v 1=[47]) then (2,[]) else (0,[]):=rfl
 unfold Wn at k0 k1 ⊢;generalize na v 0=a at k0 hF;generalize na v 1=b at k1 hF;refine jb Tryz.func97 rfl (n:=36) rfl rfl rfl ?_;refine Xe ?_;refine oS (sB (cs:=[.list (v.map str),.atom (.map (some m))]) rfl λb1=>?_);refine Aa ?_;refine cD (m:=6) rfl [(b1,.cells 193 [.list (v.map str),.atom (.map (some m))])]<|aT 0 rfl rfl (pG (Zb:=[_,_]) rfl xc rfl rfl)<|aT 2 rfl rfl (pG (Zb:=[_,_]) rfl xc rfl rfl)<|UJ ?_;refine lO 3 (lS (H1:=[]) rfl (.inl rfl) rfl dc ob (sF [_,_] rfl k1 ?_));refine oi.any [(b1,.cells 193 [.list (v.map str),.atom (.map (some m))])] (λ_ h=>h) ?_;refine aT 4 rfl rfl (pA (lv:=.atom _) rfl)<|aT 5 rfl rfl (pA (lv:=.atom _) rfl)<|ow ?_;refine wa ?_;refine Ea.cut [(1,ptr b1 0),(35,bool (decide (a=[48]/\(b=[43]∨b=[45]∨b=[94])∨a=[49]/\(b=[42]∨b=[47]))))] ?_ λj hj=>?_;refine oB 12 rfl (λh1=>?_) λh1=>?_;have e1:a=[48]:=zt h1;have n1:¬ a=[49]:=by rw[e1];decide
 refine Aa ?_;refine oB 15 rfl (λh2=>?_) λh2=>?_;have e2:b=[43]:=zt h2;refine Ra ?_;exact⟨⟨rfl,Re (by simp[e1,e2]),trivial⟩,rfl,rfl⟩;have e2:¬ b=[43]:=zf h2;refine Aa ?_;refine oB 19 rfl (λh3=>?_) λh3=>?_;have e3:b=[45]:=zt h3;refine Ra ?_;exact⟨⟨rfl,Re (by simp[e1,e3]),trivial⟩,rfl,rfl⟩;have e3:¬ b=[45]:=zf h3;refine Aa ?_;refine oB 24 rfl (λh4=>?_) λh4=>?_;have e4:b=[94]:=zt h4;refine Ra ?_;exact⟨⟨rfl,Re (by simp[e1,e4]),trivial⟩,rfl,rfl⟩;have e4:¬ b=[94]:=zf h4;refine Aa ?_;refine oB 27 rfl (λh5=>absurd (zt h5) n1) λh5=>?_;refine Ra ?_;exact⟨⟨rfl,Re (by simp[e2,e3,e4,n1]),trivial⟩,rfl,rfl⟩;have e1:¬ a=[48]:=zf h1;refine Ra ?_;refine oB 27 rfl (λh2=>?_) λh2=>?_;have e2:a=[49]:=zt h2;refine Aa ?_;refine oB 30 rfl (λh3=>?_) λh3=>?_;have e3:b=[42]:=zt h3;refine Aa ?_;exact⟨⟨rfl,Re (by simp[e2,e3]),trivial⟩,rfl,rfl⟩;have e3:¬ b=[42]:=zf h3;refine Aa ?_;exact⟨⟨rfl,Re (by simp[e2,e3]),trivial⟩,rfl,rfl⟩;have e2:¬ a=[49]:=zf h2;refine Ra ?_;exact⟨⟨rfl,Re (by simp[e1,e2]),trivial⟩,rfl,rfl⟩;refine Oa (λh=>?_) λh=>?_;rw[zp (zt h)] at hF;refine Ak ?_;exact qb hj (rC (Xc rfl) (rC (rT (v:=fc) rfl vN) rN)) (by rw[hF];rfl);rw[zn (zf h)] at hF;refine wa ?_;exact qb hj (rC (Xc rfl) (rC (rT (v:=fc) rfl vN) rN)) (by rw[hF];rfl)
theorem qr5(l:Wd)(v:List Wd)(i:Nat):vu l (v.drop i)=match ya (na v i) with
  |some d=>decide (d=l) || vu l (v.drop (i+1))
  |none=>false:=by
 by_cases h:i<v.length
 ·have e:na v i=v[i]:=by unfold na;rw[Yh h];rfl
  rw[drop_eq_getElem_cons h,vu,e];first|done|(cases ya v[i] <;> rfl)
 have e:na v i=[]:=by unfold na;rw[List.getElem?_eq_none zo];rfl
 rw[List.drop_eq_nil_of_le zo,e];rfl
theorem qAj{d:Wd}(h:ya (na v i)=some d):i<v.length:=by
 by_cases hl:i<v.length;exact hl;have e:na v i=[]:=by unfold na;rw[List.getElem?_eq_none zo];rfl
 rw[e] at h;cases h
theorem qu8(v:List Wd)(m:Nat)(hv:Small v):ca (KC B0 w0) 102 [Wn v m] [] (Ub (lG (Lz v))):=by
 have k0:=Xn (B0:=B0) (w0:=w0) v m 0 (by have:=hv.1;omega);have kj:=yW (B0:=B0) (w0:=w0) v m 1 hv zo;have kw:∀ k,ca (KC B0 w0) 165 [Wn v m,int .i64 (k:Nat)] [] (Ub (str (na v k))):=λk=>Xn v m k (by have:=hv.1;omega);have kd:∀ k,ca (KC B0 w0) 169 [str (na v k)] [] (wy (sn (ya (na v k)))):=λk=>T4 (na v k) (by have:=hv.at k;omega)
 have hF:Lz v=match mn v 1 with
  |some l=>if na v 0=[48]/\vu l (v.drop 3)=true then (3,[]) else (0,[])
  |none=>(0,[]):=rfl
 unfold Wn at k0 kj kw ⊢;generalize mn v 1=oj at kj hF;generalize na v 0=a at k0 hF;refine jb Tryz.func102 rfl (n:=35) rfl rfl rfl ?_;refine Xe ?_;refine oS (sB (cs:=[.list (v.map str),.atom (.map (some m))]) rfl λb1=>?_);refine xa ?_;refine oS (S.Ki [_,_] rfl kj ?_);rintro lv ⟨s,rfl,hs⟩;refine xa ?_;refine oB 16 rfl (λh1=>?_) λh1=>?_
 obtain rfl:oj=none:=by
  cases oj with
  |none=>rfl
  |some l=>cases h1
 refine Aa ?_;refine Oa (λh=>?_) λh=>?_;refine Ak ?_;exact qb rfl (rC (Xc rfl) (rC (rT (v:=fc) rfl vN) rN)) (by rw[hF];rfl);cases h
 obtain⟨l,rfl⟩:∃ l,oj=some l:=by
  cases oj with
  |none=>cases h1
  |some l=>exact⟨l,rfl⟩
 obtain rfl:=hs l rfl;simp only at hF;refine Ra ?_;refine oS (sF [_,_] rfl k0 ?_);refine Ra ?_;refine Oa (λh=>?_) λh=>?_;have xb:¬ a=[48]:=by simpa using h
 rw[zn (λhc=>xb hc.1)] at hF;refine Ak ?_;exact qb rfl (rC (Xc rfl) (rC (rT (v:=fc) rfl vN) rN)) (by rw[hF];rfl);have he:a=[48]:=by simpa using h
 subst he;simp only[true_and] at hF;refine wa ?_;refine oL (λk ls H=>∃ i,(i<=v.length∨i=3)/\k=v.length+4-i/\ls=[(1,ptr b1 0),(4,str s),(6,int .i64 (i:Nat))]/\H=[(b1,.cells 193 [.list (v.map str),.atom (.map (some m))])]/\vu s (v.drop 3)=vu s (v.drop i))
  ⟨_,_,_,⟨3,Or.inr rfl,rfl,rfl,rfl,rfl⟩,Kb,bc _⟩ ?_
 rintro k ls H ⟨i,hi,rfl,rfl,rfl,hE⟩ j1 Me;have hl:=hv.1;rw[qr5 s v i] at hE;refine xa ?_;refine oS (sF [_,_] rfl (kw i)<|oS (S.Ki [_] rfl (kd i) ?_));rintro lv ⟨d,rfl,hd⟩;refine xa ?_;refine Oa (λh=>?_) λh=>?_
 have hn:ya (na v i)=none:=by
  cases ho:ya (na v i) with
  |none=>rfl
  |some l=>rw[ho] at h;cases h
 rw[hn] at hE;rw[hE] at hF;refine wa ?_;exact qb Me (rC (Xc rfl) (rC (rT (v:=fc) rfl vN) rN)) (by rw[hF];rfl);obtain⟨e,ho⟩:∃ e,ya (na v i)=some e:=by
  cases ho:ya (na v i) with
  |none=>rw[ho] at h;cases h
  |some l=>exact⟨l,rfl⟩
 have Ka:=qAj ho;obtain rfl:=hd e ho;rw[ho] at hE;simp only at hE;refine wa ?_;refine Oa (λh2=>?_) λh2=>?_;have he:d=s:=zt h2;rw[Dg he,Bool.true_or] at hE;rw[hE] at hF;refine wa ?_;exact qb Me (rC (Xc rfl) (rC (rT (v:=fc) rfl vN) rN)) (by rw[hF];rfl);have he:¬ d=s:=zf h2;rw[decide_eq_false he,Bool.false_or] at hE;refine wa ?_;exact⟨_,_,_,by omega,⟨i+1,Or.inl zo,rfl,rfl,rfl,hE⟩,Kb,bc _,Me⟩
theorem qvj(hG:GW B0 w0)(v:List Wd)(m:Nat)(hv:Small v):ca (KC B0 w0) 99 [Wn v m] [] (Ub (lG (jB v))):=by
 have k0:=Xn (B0:=B0) (w0:=w0) v m 0 (by have:=hv.1;omega);have kn:=TN hG (na v 0) (by have:=hv.at 0;omega);have ki:=Cu (B0:=B0) (w0:=w0) v m 1 [[64],na v 0,[33]] hv zo (by simp only[Ma,qc];omega);have hF:jB v=if (Db (na v 0)).isSome=true/\DB v 1 [[64],na v 0,[33]]=true then (4,[]) else (0,[]):=by simp only[jB,DB,Ed,Rg,and_true]
 unfold Wn at k0 ki ⊢;generalize Db (na v 0)=on at kn hF;generalize DB v 1 [[64],na v 0,[33]]=q at ki hF;generalize na v 0=a at k0 kn ki;refine jb Tryz.func99 rfl (n:=20) rfl rfl rfl ?_;refine Xe ?_;refine oS (sB (cs:=[.list (v.map str),.atom (.map (some m))]) rfl λb1=>?_);refine xa ?_;refine oS (sF [_,_] rfl k0<|oS (sF [_] rfl kn ?_));refine Aa ?_
 cases on with
 |none=>
  refine pP ?_;refine Rb.Ai (i:=2) rfl rfl rfl rfl zk zk zk rfl<|vP ?_;refine aT 7 rfl rfl (Pure.Yl (lv:=.atom _) rfl rfl)<|ow ?_;refine Ad ?_;refine Oa (λh=>?_) λh=>?_;cases h
  exact SJ
 |some n=>refine pP ?_;refine Rb.su 2 rfl rfl rfl rfl (pG (Zb:=[_,_]) rfl xc rfl rfl)<|Rb.su 3 rfl rfl rfl rfl (pG (Zb:=[_,_]) rfl xc rfl rfl)<|aL ?_ ob;refine lO 4 (lS (H1:=[]) rfl (.inr ⟨1,true,13,rfl,rfl,rfl⟩) rfl dc ob (sF [_,_] rfl k0 ?_));refine lO 5 (lS (H1:=[]) rfl (.inr ⟨1,true,13,rfl,rfl,rfl⟩) rfl dc ob ?_);refine sL [.const (.string { data:=#[64] }),.tmp 16,.const (.string { data:=#[33] })] rfl (Qd rfl rfl (Qd rfl rfl (Qd rfl rfl pj))) rfl rfl rfl ?_;refine lO 6 (lS (H1:=[]) rfl (.inr ⟨1,true,13,rfl,rfl,rfl⟩) rfl dc ob (sF [_,_,_] rfl ki ?_));refine oi.any [(b1,.cells 193 [.list (v.map str),.atom (.map (some m))])] (λ_ h=>h) ?_;refine aT 7 rfl rfl (Pure.Wp (lv:=.atom _) rfl rfl)<|ow ?_;refine Ad ?_;refine Oa (λh=>?_) λh=>?_;have hq:q=true:=h;subst hq;refine Ak ?_;exact qb rfl (rC (Xc rfl) (rC (rT (v:=fc) rfl vN) rN)) (by rw[hF];rfl);have hq:q=false:=h;subst hq;refine wa ?_;exact qb rfl (rC (Xc rfl) (rC (rT (v:=fc) rfl vN) rN)) (by rw[hF];rfl)
theorem qoR(h:5<v.length):((v.map str).take 6).drop 4=[str (na v 4),str (na v 5)]:=by
 have e4:na v 4=v[4]:=by unfold na;rw[Yh zo];rfl
 have e5:na v 5=v[5]:=by unfold na;rw[Yh h];rfl
 rw[e4,e5,<-List.map_take,<-List.map_drop];have:(v.take 6).drop 4=[v[4],v[5]]:=by rw[List.drop_take,drop_eq_getElem_cons (by omega:4<v.length),drop_eq_getElem_cons h];rfl
 rw[this];rfl
theorem qpf(v:List Wd)(m:Nat)(hv:Small v):ca (KC B0 w0) 100 [Wn v m] [] (Ub (lG (yB v))):=by
 have kj:=yW (B0:=B0) (w0:=w0) v m 4 hv zo;have ki:=Cu (B0:=B0) (w0:=w0) v m 0 [[49],[60],[49],[60]] hv zo ea;have hF:yB v=if (mn v 4).isSome=true/\DB v 0 [[49],[60],[49],[60]]=true then (6,[na v 4,na v 5]) else (0,[]):=by simp only[yB,DB,Ed,Rg,and_true]
 have ma:∀ l,mn v 4=some l->5<v.length:=λl h=>BB h;unfold Wn at kj ki ⊢;generalize mn v 4=oj at kj hF ma;generalize DB v 0 [[49],[60],[49],[60]]=q at ki hF;refine jb Tryz.func100 rfl (n:=20) rfl rfl rfl ?_;refine Xe ?_;refine oS (sB (cs:=[.list (v.map str),.atom (.map (some m))]) rfl λb1=>?_);refine xa ?_;refine oS (S.Ki [_,_] rfl kj ?_);rintro lv ⟨s,rfl,hs⟩;refine wa ?_
 cases oj with
 |none=>
  refine Aa ?_;refine Oa (λh=>?_) λh=>?_;cases h
  exact SJ
 |some l=>have h5:=ma l rfl;refine Ra ?_;refine oS (sL [.const (.string { data:=#[49] }),.const (.string { data:=#[60] }),.const (.string { data:=#[49] }),.const (.string { data:=#[60] })] rfl (Qd rfl rfl (Qd rfl rfl (Qd rfl rfl (Qd rfl rfl pj)))) rfl rfl rfl ?_);refine Aa ?_;refine oS (sF [_,_,_] rfl ki ?_);refine Aa ?_;refine Oa (λh=>?_) λh=>?_;have hq:q=true:=h;subst hq;refine Aa ?_;refine cD (m:=5) rfl [(b1,.cells 193 [.list (v.map str),.atom (.map (some m))])]<|aT 0 rfl rfl (pF rfl)<|aT 1 rfl rfl (pL (c:=.list _) rfl xc rfl)<|Rb.take (i:=2) ob rfl zk zk zk rfl (Pure.ft (es:=v.map str) (i:=4) (j:=6) rfl ⟨_,rfl⟩ ⟨_,rfl⟩ zo zo (by rw[Mb];omega) (CI v))<|aT 3 rfl rfl (pA (lv:=.atom _) rfl)<|aT 4 rfl rfl (pA (lv:=.list _) rfl)<|ow ?_;refine Aa ?_;exact qb rfl (rC (Xc rfl) (rC (rT (v:=.list _) rfl ie) rN)) (by rw[hF];exact congrArg (λx=>LV.tuple [int .i64 6,.list x]) (qoR h5));have hq:q=false:=h;subst hq;refine wa ?_;exact qb rfl (rC (Xc rfl) (rC (rT (v:=fc) rfl vN) rN)) (by rw[hF];rfl)
theorem qns(hG:GW B0 w0)(v:List Wd)(m:Nat)(hv:Small v):ca (KC B0 w0) 98 [Wn v m] [] (Ub (lG (bA v))):=by
 have k0:=Xn (B0:=B0) (w0:=w0) v m 0 (by have:=hv.1;omega);have k1:=Xn (B0:=B0) (w0:=w0) v m 1 (by have:=hv.1;omega);have k2:=Xn (B0:=B0) (w0:=w0) v m 2 (by have:=hv.1;omega);have k3:=Xn (B0:=B0) (w0:=w0) v m 3 (by have:=hv.1;omega);have kj:=qjI hG (na v 0) (na v 1) (na v 2) (hv.at 0) (hv.at 2);have hF:bA v=if (na v 1=[43]∨na v 1=[42]∨na v 1=[94])/\na v 3=na v 1 then
  (match Mk (na v 0) (na v 1) (na v 2) with
  |some s=>(4,[s,na v 1])
  |none=>(0,[]))
 else (0,[]):=rfl
 unfold Wn at k0 k1 k2 k3 ⊢;generalize Mk (na v 0) (na v 1) (na v 2)=o at kj hF;generalize na v 1=b at k1 kj hF;generalize na v 3=d at k3 hF;refine jb Tryz.func98 rfl (n:=38) rfl rfl rfl ?_;refine Xe ?_;refine oS (sB (cs:=[.list (v.map str),.atom (.map (some m))]) rfl λb1=>?_);refine xa ?_;refine oS (sF [_,_] rfl k1 ?_);refine xa ?_;refine Ea.cut [(1,ptr b1 0),(4,str b),(24,bool (!decide ((b=[43]∨b=[42]∨b=[94])/\d=b)))] ?_ λj hj=>?_;refine oB 11 rfl (λh1=>?_) λh1=>?_;have e1:¬ b=[43]:=by simpa using h1
 refine Ra ?_;refine oB 15 rfl (λh2=>?_) λh2=>?_;have e2:¬ b=[42]:=by simpa using h2
 refine Ra ?_;refine oB 19 rfl (λh3=>?_) λh3=>?_;have e3:¬ b=[94]:=by simpa using h3
 refine Aa ?_;exact⟨⟨rfl,rfl,Re (by simp[e1,e2,e3]),trivial⟩,rfl,rfl⟩;have e3:b=[94]:=by simpa using h3
 refine Ra ?_;refine oS (sF [_,_] rfl k3 ?_);refine Ra ?_;exact⟨⟨rfl,rfl,Re (by simp[e3]),trivial⟩,rfl,rfl⟩;have e2:b=[42]:=by simpa using h2
 refine Ra ?_;refine oS (sF [_,_] rfl k3 ?_);refine Ra ?_;exact⟨⟨rfl,rfl,Re (by simp[e2]),trivial⟩,rfl,rfl⟩;have e1:b=[43]:=by simpa using h1
 refine Ra ?_;refine oS (sF [_,_] rfl k3 ?_);refine Ra ?_;exact⟨⟨rfl,rfl,Re (by simp[e1]),trivial⟩,rfl,rfl⟩;refine Oa (λh=>?_) λh=>?_;have hn:¬ ((b=[43]∨b=[42]∨b=[94])/\d=b):=zf (Bool.not_eq_true' _▸h);rw[zn hn] at hF;refine Ak ?_;exact qb hj (rC (Xc rfl) (rC (rT (v:=fc) rfl vN) rN)) (by rw[hF];rfl)
 have hn:(b=[43]∨b=[42]∨b=[94])/\d=b:=by by_cases hc:(b=[43]∨b=[42]∨b=[94])/\d=b;exact hc;rw[decide_eq_false hc] at h;cases h
 rw[zp hn] at hF;refine Aa ?_;refine cD (m:=11) rfl [(b1,.cells 193 [.list (v.map str),.atom (.map (some m))])]<|aT 0 rfl rfl (pG (Zb:=[_,_]) rfl xc rfl rfl)<|qw ?_;refine aT 3 rfl rfl (pG (Zb:=[_,_]) rfl xc rfl rfl)<|UJ ?_;refine lO 4 (lS (H1:=[]) rfl (.inl rfl) rfl dc ob (sF [_,_] rfl k2 ?_));refine lO 5 (lS (H1:=[]) rfl (.inl rfl) rfl dc ob (S.Ki [_,_,_] rfl kj ?_));rintro lv ⟨s,rfl,hs⟩;refine oi.any [(b1,.cells 193 [.list (v.map str),.atom (.map (some m))])] (λ_ h=>h) ?_;refine aT 6 rfl rfl (Cc (lv:=.tuple _) rfl)<|aT 7 rfl rfl (Pure.extract (c:=.atom _) rfl rfl)<|aT 8 rfl rfl (Pure.extract (c:=.atom _) rfl rfl)<|aT 9 rfl rfl (pA (lv:=.atom _) rfl)<|aT 10 rfl rfl (pA (lv:=.atom _) rfl)<|ow ?_;refine Xi ?_;refine Oa (λh=>?_) λh=>?_;obtain⟨l,rfl⟩:=zR h;obtain rfl:=hs l rfl;refine Yd ?_;refine oS (sL [.tmp 35,.tmp 36] rfl (Qd rfl rfl (Qd rfl rfl pj)) rfl rfl rfl ?_);refine Ra ?_;exact qb hj (rC (Xc rfl) (rC (rT (v:=.list _) rfl ie) rN)) (by rw[hF];rfl)
 obtain rfl:o=none:=by
  cases o with
  |none=>rfl
  |some l=>cases h
 refine wa ?_;exact qb hj (rC (Xc rfl) (rC (rT (v:=fc) rfl vN) rN)) (by rw[hF];rfl)
theorem qm1(h:v.length<=i):zr (v.drop i)=0:=by rw[List.drop_eq_nil_of_le h];rfl
theorem qpx(h:i<v.length)(hd:(ya v[i]).isSome=true):zr (v.drop i)=0:=by
 unfold zr;rw[drop_eq_getElem_cons h,List.takeWhile_cons_of_neg (λhc=>absurd (show(ya v[i]).isNone=true from hc) (by
  cases hx:ya v[i] with
  |none=>rw[hx] at hd;cases hd
  |some d=>simp))]
 rfl
theorem qoi(h:i<v.length)(hd:(ya v[i]).isSome=false):zr (v.drop i)=zr (v.drop (i+1))+1:=by unfold zr;rw[drop_eq_getElem_cons h,List.takeWhile_cons_of_pos (by simpa using hd)];rfl
theorem qz7{n:Nat}(hn:n=uk v)(h0:n=0->i=0)(hi:n<=i)(hE:0<n->zr (v.drop n)=i-n):nB v=if n<i then (i,v.take n) else (0,[]):=by unfold nB;rw[<-hn];by_cases h:0<n;rw[hE h];by_cases hj:n<i;rw[zp ⟨h,by omega⟩,zp hj,show n+(i-n)=i by omega];rw[zn λhc=>hj zo,zn hj];rw[zn λhc=>h hc.1,zn (by have:=h0 zo;omega)]
theorem qtw(v:List Wd)(m:Nat)(hv:Small v):ca (KC B0 w0) 103 [Wn v m] [] (Ub (lG (nB v))):=by
 have JB:(v.map str).length=v.length:=Mb _;have hl:=hv.1;have k0:=Xn (B0:=B0) (w0:=w0) v m 0 (by have:=hv.1;omega);have kj:=yW (B0:=B0) (w0:=w0) v m 1 hv zo;have hS:uk v=if (mn v 1).isSome=true/\na v 0=[48] then 3 else if na v 0=[59]∨na v 0=[36] then 1 else 0:=rfl
 have hD:=λ{n i:Nat}=>qz7 (v:=v) (n:=n) (i:=i);unfold Wn at k0 kj ⊢;generalize uk v=n at hS hD;generalize mn v 1=oj at kj hS;generalize na v 0=a at k0 hS;have hn3:n<=3:=by rw[hS];split;omega;split <;> omega
 refine jb Tryz.func103 rfl (n:=59) rfl rfl rfl ?_;refine Xe ?_;refine oS (sB (cs:=[.list (v.map str),.atom (.map (some m))]) rfl λb1=>?_)
 repeat (first|refine Ea.nil ?_|refine qN ?_|refine qa (pA (lv:=.atom _) rfl) ?_)
 refine Xe ?_;repeat (first|refine Ea.nil ?_|refine qN ?_|refine qa (pA (lv:=.atom _) rfl) ?_)
 refine kb.seq ?_;refine ZB [(1,ptr b1 0),(4,int .i64 (n:Nat))] ?_ λj hj=>?_;refine xa ?_;refine oS (S.Ki [_,_] rfl kj ?_);rintro lv ⟨s,rfl,hs⟩;refine wa ?_;refine Ea.cut [(1,ptr b1 0),(4,int .i64 0),(20,bool (decide (oj.isSome=true/\a=[48])))] ?_ λj2 Gc=>?_
 cases oj with
 |none=>refine Aa ?_;exact⟨⟨rfl,rfl,Re (by simp),trivial⟩,rfl,rfl⟩
 |some l=>refine Ra ?_;refine oS (sF [_,_] rfl k0 ?_);refine Aa ?_;exact⟨⟨rfl,rfl,Re (by simp),trivial⟩,rfl,rfl⟩
 refine Oa (λh=>?_) λh=>?_;rw[zp (zt h)] at hS;subst hS;refine Ep ?_;exact⟨Kb,rfl,Gc⟩;rw[zn (zf h)] at hS;refine xa ?_;refine oS (sF [_,_] rfl k0 ?_);refine Aa ?_;refine Ea.cut [(1,ptr b1 0),(4,int .i64 0),(28,bool (decide (a=[59]∨a=[36])))] ?_ λj3 Uo=>?_;refine oB 24 rfl (λh1=>?_) λh1=>?_;have e1:a=[59]:=zt h1;refine Aa ?_;exact⟨⟨rfl,rfl,Re (by simp[e1]),trivial⟩,rfl,rfl⟩;have e1:¬ a=[59]:=zf h1;refine Ra ?_;refine oS (sF [_,_] rfl k0 ?_);refine Aa ?_;exact⟨⟨rfl,rfl,Re (by simp[e1]),trivial⟩,rfl,rfl⟩;refine Oa (λh=>?_) λh=>?_;rw[zp (zt h)] at hS;subst hS;refine Ep ?_;exact⟨Kb,rfl,Uo.trans Gc⟩;rw[zn (zf h)] at hS;subst hS;refine Aa ?_;exact⟨Kb,rfl,Uo.trans Gc⟩;refine wa ?_
 refine oL (λk ls H=>∃ i:Nat,n<=i/\(i<=v.length∨i=n)/\(n=0->i=0)/\k=v.length+4-i/\ls=[(1,ptr b1 0),(4,int .i64 (n:Nat)),(7,int .i64 (i:Nat))]/\H=[(b1,.cells 193 [.list (v.map str),.atom (.map (some m))])]/\zr (v.drop n)=(i-n)+zr (v.drop i))
  ⟨_,_,_,⟨n,Pb _,Or.inr rfl,id,rfl,rfl,rfl,by omega⟩,Kb,bc _⟩ ?_
 rintro k ls H ⟨i,AX,hi,h0,rfl,rfl,rfl,hE⟩ j1 Me;refine xa ?_;refine Ea.cut [(1,ptr b1 0),(4,int .i64 (n:Nat)),(7,int .i64 (i:Nat)),(38,bool (decide (0<n/\i<v.length)))] ?_ λj2 Gc=>?_;refine oB 32 rfl (λh1=>?_) λh1=>?_;have e1:0<n:=by have:=zt h1;omega
 refine Ra ?_;exact⟨⟨rfl,rfl,rfl,Re (by rw[decide_eq_decide];omega),trivial⟩,rfl,rfl⟩;have e1:¬ 0<n:=by have:=zf h1;omega
 refine Aa ?_;exact⟨⟨rfl,rfl,rfl,Re (by simp[e1]),trivial⟩,rfl,rfl⟩;refine Oa (λh=>?_) λh=>?_;obtain⟨Zu,Ka⟩:=zt h;have kd:=T4 (B0:=B0) (w0:=w0) v[i] (by have:=hv.2 _ (getElem_mem Ka);omega);refine xa ?_;refine qa (xR (Ud:=str v[i]) (cs:=[str v[i]]) rfl rfl zo (Mo _ _ _ Ka) rfl rfl)<|Ra ?_;refine oS (S.Ki [_] rfl kd ?_);rintro lv ⟨s,rfl,hs⟩;refine wa ?_;refine Oa (λh2=>?_) λh2=>?_;rw[qpx Ka h2] at hE
 replace hD:=hD rfl h0 AX (λ_=>by omega);refine xa ?_;refine Oa (λh3=>?_) λh3=>?_;exact XO;exact dP;rw[qoi Ka (by simpa using h2)] at hE;refine wa ?_;exact⟨_,_,_,by omega,⟨i+1,by omega,Or.inl zo,by omega,rfl,rfl,rfl,by omega⟩,Kb,bc _,Gc.trans Me⟩;have hc:=zf h
 replace hD:=hD rfl h0 AX (λh=>by rw[qm1 (v:=v) (i:=i) zo] at hE;omega)
 refine wa ?_;refine Oa (λh3=>?_) λh3=>?_;exact XO;exact dP
end Go.Proofs.Y.Pp
namespace Go.Proofs.Y.Pp
open Go.GL Go.RowKit Go.ia
open As (sn sn.mk Yq)
def UM(la:Wd->Bool)(v:List Wd):List Rs:=[Rz v,JC v,bA v,jB v,yB v,Wz v,Lz v,nB v,Xv la v]
def dI:List Rs->Rs
 |[]=>(0,[])
 |r::l=>if r.1≠0 then r else dI l
theorem qpI{la:Wd->Bool}{v:List Wd}(h:(Xv la v).1=0):Xv la v=(0,[]):=by
 unfold Xv at h ⊢;revert h;cases ya (na v 0) with
 |none=>exact λ_=>rfl
 |some l=>intro h;simp only at h ⊢;by_cases hu:la l=true;rw[zp hu];rw[zn hu] at h;cases h
theorem qpe(la:Wd->Bool)(v:List Wd):Se la v=dI (UM la v):=by have hz:=λh=>qpI (la:=la) (v:=v) h;unfold Se UM;generalize Rz v=a1;generalize JC v=a2;generalize bA v=a3;generalize jB v=a4;generalize yB v=a5;generalize Wz v=a6;generalize Lz v=a7;generalize nB v=a8;generalize Xv la v=a9 at hz;simp only[dI];by_cases h9:a9.1≠0;rw[zp h9];rw[zn h9,hz (Decidable.not_not.1 h9)]
theorem qpG{l:List Rs}{i:Nat}(h:i<l.length):dI (l.drop i)=if l[i].1≠0 then l[i] else dI (l.drop (i+1)):=by rw[drop_eq_getElem_cons h,dI]
theorem qrP{l:List Rs}{i:Nat}(h:l.length<=i):dI (l.drop i)=(0,[]):=by rw[List.drop_eq_nil_of_le h];try rfl
theorem qt8(la:Wd->Bool)(v:List Wd):(UM la v).length=9:=rfl
theorem quX(la:Wd->Bool)(f:Nat):Xk la f []=[]:=by cases f <;> rfl
theorem qsf(la:Wd->Bool)(f:Nat)(w:Wd)(r:List Wd):Xk la (f+1) (w::r)=if (Se la (w::r)).1=0 then w::Xk la f r else (Se la (w::r)).2++Xk la f ((w::r).drop (Se la (w::r)).1):=rfl
theorem qr8(l:List Wd)(k:Nat)(h:k<l.length)(s:Wd):Jd (l.take (k+1)) s=(Jd (l.take k) s || decide (Va l[k]=some s)):=by unfold Jd;rw[List.take_succ_eq_append_getElem h,List.any_append];simp
attribute [local irreducible] Ea kb ab ca Go.GL.Pure Ie pf ke LQ Rb oi Nj
theorem EK(l:List Wd):((l.map str).flatMap LV.cells).all Vs=true:=by
 induction l with
 |nil=>rfl
 |cons a l ih=>rw[yd,List.flatMap_cons,List.all_append,ih];rfl
theorem qtX(l:List Wd)(i:Nat):((l.map str).take (((l.map str).length:Nat):Int).toNat).drop ((i:Nat):Int).toNat=(l.drop i).map str:=by rw[Int.toNat_natCast,Int.toNat_natCast,take_length,List.map_drop]
theorem qvN{s:Nat}{v:LV}{es:List LV}{H:Heap}{q:Nat×ja}(h:Acc s v es H [q]):∃ F,H.Perm ([q]++F):=by
 cases h with
 |nil=>exact⟨[],List.Perm.refl _⟩
 |row=>exact⟨[_],yq ..⟩
theorem Small.drop{l:List Wd}(h:Small l)(i:Nat):Small (l.drop i):=
 ⟨by have:=h.1;rw[length_drop];omega,λw hw=>h.2 w (List.mem_of_mem_drop hw)⟩
def Ot(k:Nat):LV:=.atom (.func (.func (96+k)) #[] #[])
variable{B0:Nat}{w0:World}
theorem qsG(hG:GW B0 w0)(l:List Wd)(hv:Small l):ca (KC B0 w0) 55 [.list (l.map str)] [] (Ub (.list ((Gq l).map str))):=by
 have JB:(l.map str).length=l.length:=Mb _;have hl:=hv.1;refine jb Tryz.func55 rfl (n:=73) rfl rfl rfl ?_;refine Ep ?_;refine oS (S.makeMap λm=>?_);refine wa ?_;refine oL (λk ls H=>∃ (i:Nat) (es:Array MapEntry) (ka:Nat),i<=l.length/\k=l.length-i/\ls=[(0,.list (l.map str)),(3,.atom (.map (some m))),(17,.list (l.map str)),(18,int .i64 l.length),(19,int .i64 (i:Nat))]/\H=[(m,.obj (.map es ka))]/\Oe es (Jd (l.take i)))
  ⟨_,_,_,⟨0,#[],0,zero_le _,rfl,rfl,rfl,Oe.nil⟩,Kb,bc _⟩ ?_
 rintro k ls H ⟨i,es,ka,hi,rfl,rfl,rfl,hM⟩ j1 Me;refine wh ?_;refine Oa (λhc=>?_) λhc=>?_;have Ka:i<l.length:=by have:=zt hc;omega
 have kr:=qgH (B0:=B0) (w0:=w0) l[i] (by have:=hv.2 _ (getElem_mem Ka);omega);have hU:Jd (l.take (i+1))=λs=>Jd (l.take i) s || decide (Va l[i]=some s):=funext λs=>qr8 l i Ka s;refine Zi ?_;refine qa (xR (Ud:=str l[i]) (cs:=[str l[i]]) rfl rfl zo (Mo _ _ _ Ka) rfl rfl)<|xa ?_;refine oS (S.Ki [_] rfl kr ?_);rintro lv ⟨s,rfl,hs⟩;refine wa ?_;refine Oa (λh=>?_) λh=>?_;obtain⟨d,hd⟩:=zR h;obtain rfl:=hs d hd;refine Yd ?_;refine oS (S.zw (t:=117) (kt:=9) (el:=4) zk zk rfl rfl rfl pH hM λAm mc FT=>?_);refine zm ?_
 exact⟨_,_,_,by omega,⟨i+1,Am,mc,by omega,rfl,rfl,rfl,by
  rw[hU,hd];exact cast (by congr;funext x;simp[eq_comm]) FT⟩,Kb,bc _,Me⟩
 have hn:Va l[i]=none:=by
  cases ho:Va l[i] with
  |none=>rfl
  |some d=>rw[ho] at h;cases h
 refine wa ?_;exact⟨_,_,_,by omega,⟨i+1,es,ka,by omega,rfl,rfl,rfl,by
  rw[hU,hn];exact cast (by congr;funext x;simp) hM⟩,Kb,bc _,Me⟩
 have Wg:i=l.length:=by have:=zf hc;omega
 subst Wg;rw[take_length] at hM;refine wa ?_;refine oS (sL [.func 96,.func 97,.func 98,.func 99,.func 100,.func 101,.func 102,.func 103,.func 104] rfl (Qd rfl rfl (Qd rfl rfl (Qd rfl rfl (Qd rfl rfl (Qd rfl rfl (Qd rfl rfl (Qd rfl rfl (Qd rfl rfl (Qd rfl rfl pj))))))))) rfl rfl rfl ?_);refine xa ?_;refine oL (λk ls H=>∃ (i f:Nat) (out:List Wd) (v:LV),i<=l.length/\k=l.length-i/\ls=[(0,.list (l.map str)),(3,.atom (.map (some m))),(8,.list ((List.range 9).map Ot)),(9,v),(10,int .i64 (i:Nat))]/\Acc 1 v (out.map str) H [(m,.obj (.map es ka))]/\l.length-i<=f/\out.length<=i/\out++Xk (Jd l) f (l.drop i)=Gq l)
  ⟨_,_,_,⟨0,l.length,[],fc,zero_le _,rfl,rfl,Acc.nil,by omega,zero_le _,rfl⟩,Kb,bc _⟩ ?_
 rintro k ls H ⟨i,f,out,v,hi,rfl,rfl,Eb,hf,ma,hE⟩ j2 Gc;have hol:(out.map str).length=out.length:=Mb _;refine wa ?_;refine Oa (λhc=>?_) λhc=>?_
 ·have Ka:i<l.length:=by have:=zt hc;omega
  obtain⟨f,rfl⟩:∃ g,f=g+1:=⟨f-1,by omega⟩;have hR:(Se (Jd l) (l.drop i)).1≠0->(Se (Jd l) (l.drop i)).1<=(l.drop i).length/\(Se (Jd l) (l.drop i)).2.length<(Se (Jd l) (l.drop i)).1:=wI (Jd l) (l.drop i);have hF:=qpe (Jd l) (l.drop i);have hl9:=qt8 (Jd l) (l.drop i);rw[drop_eq_getElem_cons Ka,qsf,<-drop_eq_getElem_cons Ka,List.drop_drop] at hE;have OD:(l.drop i).length=l.length-i:=length_drop;repeat (first|refine Ea.nil ?_|refine qN ?_|refine kb.skip ?_|refine kb.block ?_)
  refine kb.seq ?_;repeat (first|refine Ea.nil ?_|refine qN ?_|refine kb.region ?_|refine qa (pA (lv:=.atom _) rfl) ?_)
  refine kb.seq ?_;refine cM (A:=Nat×List Wd×LV×Heap) (λa=>[(0,.list (l.map str)),(3,.atom (.map (some m))),(8,.list ((List.range 9).map Ot)),(9,a.2.2.1),(10,int .i64 (i:Nat)),(11,int .i64 a.1)]) (λa=>a.2.2.2)
   (λa=>a.1=(Se (Jd l) (l.drop i)).1/\a.2.1=(if (Se (Jd l) (l.drop i)).1=0 then out else out++(Se (Jd l) (l.drop i)).2)/\Acc 1 a.2.2.1 (a.2.1.map str) a.2.2.2 [(m,.obj (.map es ka))]) ?_ ?_
  refine wa ?_;refine oL (λk ls H1=>∃ x:Nat,x<=9/\k=9-x/\ls=[(0,.list (l.map str)),(3,.atom (.map (some m))),(8,.list ((List.range 9).map Ot)),(9,v),(10,int .i64 (i:Nat)),(11,int .i64 0),(37,.list ((List.range 9).map Ot)),(38,int .i64 9),(39,int .i64 (x:Nat))]/\H1=H/\Se (Jd l) (l.drop i)=dI ((UM (Jd l) (l.drop i)).drop x)) ?_ ?_;exact⟨_,_,_,⟨0,zero_le _,rfl,rfl,rfl,hF⟩,Kb,bc _⟩;rintro k ls H1 ⟨x,hx,rfl,rfl,rfl,hX⟩ j3 Uo;refine wh ?_;refine Oa (λhc=>?_) λhc=>?_;have Z5:x<9:=by have:=zt hc;omega
  rw[qpG zo] at hX;refine Zi ?_;refine qa (xR (Ud:=Ot x) (cs:=[Ot x]) rfl rfl zo (by
   have:=Mo Ot (List.range 9) x (by simpa using Z5);rw[List.getElem_range] at this;exact this) rfl rfl) ?_
  refine xa ?_;refine qa (show Go.GL.Pure _ _ _ _ (.list ((l.drop i).map str)) from qtX l i▸Pure.ft (es:=l.map str) (i:=((i:Nat):Int)) (j:=(((l.map str).length:Nat):Int)) rfl ⟨_,rfl⟩ rfl zo zo zo (CI l))<|Ra ?_;have jx:=hv.drop i;have hxl:x<(UM (Jd l) (l.drop i)).length:=by omega
  generalize hr:(UM (Jd l) (l.drop i))[x]=r at hX;refine Ea.cut [(0,.list (l.map str)),(3,.atom (.map (some m))),(8,.list ((List.range 9).map Ot)),(9,v),(10,int .i64 (i:Nat)),(11,int .i64 0),(14,int .i64 (r.1:Nat)),(15,.list (r.2.map str)),(37,.list ((List.range 9).map Ot)),(38,int .i64 9),(39,int .i64 (x:Nat))] ?_ λj4 KD=>?_;clear hX;have h9:x=0∨x=1∨x=2∨x=3∨x=4∨x=5∨x=6∨x=7∨x=8:=by omega
  rcases h9 with rfl|rfl|rfl|rfl|rfl|rfl|rfl|rfl|rfl;obtain rfl:Rz (l.drop i)=r:=hr;refine oS (S.qF (f:=96) [_] rfl rfl (qtt hG (l.drop i) m jx) ?_);refine Ra ?_;exact⟨Kb,rfl,rfl⟩;obtain rfl:JC (l.drop i)=r:=hr;refine oS (S.qF (f:=97) [_] rfl rfl (qnK (B0:=B0) (w0:=w0) (l.drop i) m jx) ?_);refine Ra ?_;exact⟨Kb,rfl,rfl⟩;obtain rfl:bA (l.drop i)=r:=hr;refine oS (S.qF (f:=98) [_] rfl rfl (qns hG (l.drop i) m jx) ?_);refine Ra ?_;exact⟨Kb,rfl,rfl⟩;obtain rfl:jB (l.drop i)=r:=hr;refine oS (S.qF (f:=99) [_] rfl rfl (qvj hG (l.drop i) m jx) ?_);refine Ra ?_;exact⟨Kb,rfl,rfl⟩;obtain rfl:yB (l.drop i)=r:=hr;refine oS (S.qF (f:=100) [_] rfl rfl (qpf (B0:=B0) (w0:=w0) (l.drop i) m jx) ?_);refine Ra ?_;exact⟨Kb,rfl,rfl⟩;obtain rfl:Wz (l.drop i)=r:=hr;refine oS (S.qF (f:=101) [_] rfl rfl (qsp hG (l.drop i) m jx) ?_);refine Ra ?_;exact⟨Kb,rfl,rfl⟩;obtain rfl:Lz (l.drop i)=r:=hr;refine oS (S.qF (f:=102) [_] rfl rfl (qu8 (B0:=B0) (w0:=w0) (l.drop i) m jx) ?_);refine Ra ?_;exact⟨Kb,rfl,rfl⟩;obtain rfl:nB (l.drop i)=r:=hr;refine oS (S.qF (f:=103) [_] rfl rfl (qtw (B0:=B0) (w0:=w0) (l.drop i) m jx) ?_);refine Ra ?_;exact⟨Kb,rfl,rfl⟩;obtain rfl:Xv (Jd l) (l.drop i)=r:=hr;obtain⟨F,hp⟩:=qvN Eb;refine oS (S.Cm (f:=104) (H1:=[(m,.obj (.map es ka))]) (F:=F) [_] rfl rfl hp (qpw (B0:=B0) (w0:=w0) (l.drop i) m jx hM) (λv' H' hh=>?_) (by rintro ch H' ⟨h,_⟩;cases h));obtain⟨fJ,rfl⟩:=hh;cases fJ;refine Ea.Yb ⟨[],by simpa using hp.symm⟩ ?_;refine Ra ?_;exact⟨Kb,rfl,rfl⟩;refine xa ?_;refine Oa (λhn=>?_) λhn=>?_;have Zu:r.1≠0:=by have:=zt hn;omega
  rw[zp Zu] at hX;rw[hX] at hR;obtain⟨hR1,lh⟩:=hR Zu;have Tm:(r.2.map str).length=r.2.length:=Mb _;refine cl ?_;refine Cs ?_;refine oS (S.acc rfl Eb rfl (CI _) (EK _) zo λv' H' Ob=>?_);refine Ql ?_;refine Ra ?_;exact⟨(r.1,out++r.2,v',H'),⟨by rw[hX],by rw[hX,zn Zu],by rw[Te];exact Ob⟩,Kb,bc _,KD.trans Uo⟩;have Zu:r.1=0:=by have:=zf hn;omega
  rw[zn zo] at hX;refine wa ?_;exact⟨_,_,_,by omega,⟨x+1,by omega,rfl,rfl,rfl,hX⟩,Kb,bc _,KD.trans Uo⟩;have Z5:x=9:=by have:=zf hc;omega
  subst Z5;rw[qrP zo] at hX;refine Aa ?_;exact⟨(0,out,v,H1),⟨by rw[hX],by rw[hX];rfl,Eb⟩,Kb,bc _,Uo⟩;rintro⟨n,bt,v',H'⟩ ⟨zx,vx,Ob⟩ j5 hj5;simp only at zx vx Ob;have aam:(bt.map str).length=bt.length:=Mb _;rw[<-zx] at hR vx hE;refine wa ?_;refine Oa (λhn=>?_) λhn=>?_;have Zu:n=0:=by have:=zt hn;omega
  rw[zp Zu] at vx hE;subst vx;refine Ep ?_;refine qa (Cc (lv:=v') rfl)<|Aa ?_;refine qa (xR (Ud:=str l[i]) (cs:=[str l[i]]) rfl rfl zo (Mo _ _ _ Ka) rfl rfl)<|Ra ?_;refine Kj ?_;refine oS (S.acc rfl Ob rfl (by simp;rfl) rfl (by simp;omega) λv2 H2 ud=>qa (pA (lv:=v2) rfl) ?_);refine wa ?_;exact⟨_,_,_,by omega,⟨i+1,f,bt++[l[i]],v2,by omega,rfl,rfl,by rw[Te];exact ud,by omega,by simp;omega,by rw[Yc];exact hE⟩,Kb,bc _,hj5.trans Gc⟩;have Zu:n≠0:=by have:=zf hn;omega
  rw[zn Zu] at vx hE;obtain⟨hR1,lh⟩:=hR Zu;have Dt:bt.length=out.length+(Se (Jd l) (l.drop i)).2.length:=by rw[vx,Ga]
  refine wa ?_;exact⟨_,_,_,by omega,⟨i+n,f,bt,v',by omega,rfl,rfl,Ob,by omega,by omega,by rw[vx,Yc];exact hE⟩,Kb,bc _,hj5.trans Gc⟩
 have Wg:i=l.length:=by have:=zf hc;omega
 subst Wg;rw[drop_length,quX,ue] at hE;subst hE;refine kb.sub (d:=9) (v:=v) rfl Eb.sub ?_;refine cW sd ?_;refine xa ?_;exact qb (Gc.trans Me) (rC (rT (v:=.list _) rfl ie) rN) rfl
open As (sn sn.mk Yq Lj)
theorem Ah(sep:List UInt8)(ws:List (List UInt8))(hn:ws.length<=1000000000)(hl:(Go.Lib.join ws sep).length<=1000000000):ca (KC B0 w0) 53 [.list (ws.map str),str sep] [] (Ub (str (Go.Lib.join ws sep))):=As.Ah sep ws hn hl
theorem qsn(hG:GW B0 w0)(s:List UInt8)(hs:s.length<=1000000):ca (KC B0 w0) 54 [str s] [] (Ub (.list ((vk s).map str))):=by
 have ht:=As.Rn hG.base hG.mx s zo;have JB:((Tv s).map Lj).length=(Tv s).length:=Mb _;have sD:(Tv s).length<=s.length+1:=by have h1:=P3 s;rw[<-SK,Mb] at h1;exact h1
 rw[<-SK];generalize Tv s=l at ht JB sD;refine jb Tryz.func54 rfl (n:=20) rfl rfl rfl ?_;refine cl ?_;refine oS (sF [_] rfl ht ?_);refine Aa ?_;refine oL (λk ls H=>∃ (v:LV) (i:Nat),i<=l.length/\k=l.length-i/\ls=[(3,v),(7,.list (l.map Lj)),(8,int .i64 l.length),(9,int .i64 (i:Nat))]/\Acc 1 v (((l.take i).map (·.1)).map str) H [])
  ⟨_,_,_,⟨fc,0,zero_le _,rfl,rfl,by simpa using Acc.nil⟩,Kb,bc _⟩ ?_
 rintro k ls H ⟨v,i,hi,rfl,rfl,Eb⟩ j hj;refine wh ?_;refine Oa (λhc=>?_) λhc=>?_;have Ka:i<l.length:=by have:=zt hc;omega
 refine PF ?_;refine oS (Sd λb5=>?_);refine xa ?_;refine Cs ?_;refine Kj ?_;refine oS (S.Yx rfl Eb rfl (by simp;rfl) rfl (by simp;omega) λv' H' Ob=>?_);refine Ql ?_;refine zm ?_
 exact⟨_,_,_,by omega,⟨v',i+1,by omega,rfl,rfl,by
  rw[List.take_succ_eq_append_getElem Ka,Te,Te];exact Ob⟩,Kb,Yg ob,hj⟩
 have Wg:i=l.length:=by have:=zf hc;omega
 subst Wg;rw[take_length] at Eb;refine kb.sub (d:=3) (v:=v) rfl Eb.sub ?_;refine cW sd ?_;refine xa ?_;exact qb hj (rC (rT (v:=.list _) rfl ie) rN) rfl
theorem qvs{l:List Wd}(h:Mf l<=1000000):Small l:=⟨by have:=tV l;omega,λw hw=>by have:=qsI hw;omega⟩
theorem br(hG:GW B0 w0)(s:List UInt8)(hs:s.length<=1000000):ca (KC B0 w0) 29 [str s] [] (Ub (.tuple [str (WE s).1,int .i64 (WE s).2])):=by
 refine jb Tryz.func29 rfl (n:=21) rfl rfl rfl ?_;refine xa ?_;refine Oa (λh1=>?_) λh1=>?_;have Ka:400000<s.length:=by have:=zt h1;omega
 have hO:WE s=([],6):=by unfold WE;rw[zp Ka]
 refine Ak ?_;exact qb rfl (rC (Xc rfl) (eb rfl)) (by rw[hO];rfl);have Ka:¬ 400000<s.length:=by have:=zf h1;omega
 have hO:WE s=(Go.Lib.join (Fi (vk s)) [32],0):=by unfold WE;rw[zn Ka]
 have ht:=BW s;have hc:=qiN s;refine wa ?_;refine oS (sF [_] rfl (qsn hG s hs) ?_);refine Ra ?_;refine oL (λk ls H=>∃ l:List Wd,k=l.length/\ls=[(4,.list (l.map str))]/\H=[]/\Mf l<=400001/\(∀ w∈l,Gk w)/\Fi (vk s)=Fi l)
  ⟨_,_,_,⟨_,rfl,rfl,rfl,by omega,hc,rfl⟩,Kb,bc _⟩ ?_
 rintro k ls H ⟨l,rfl,rfl,rfl,sD,cf,hE⟩ j hj;have h1:=qsG hG l (qvs zo);have h2:=qvl l;have Jx:=qrX cf;have hjt:=BN l;have aau:=BN (Gq l);have z7:=tV l;have aar:=tV (Gq l);have UL:=XZ l;have j1:=Ah (B0:=B0) (w0:=w0) [32] l zo zo;have j2:=Ah (B0:=B0) (w0:=w0) [32] (Gq l) zo zo;refine wa ?_;refine oS (sF [_] rfl h1 ?_);refine xa ?_;refine oS (sF [_,_] rfl j2 ?_);refine Aa ?_;refine oS (sF [_,_] rfl j1 ?_);refine Aa ?_;refine Oa (λh3=>?_) λh3=>?_;have he:=qwd Jx cf (zt h3);rw[qyT he] at hE;rw[hE] at hO;refine wa ?_;refine oS (sF [_,_] rfl j1 ?_);refine Aa ?_;exact qb hj (rC (Xc rfl) (eb rfl)) (by rw[hO];rfl);have xb:¬ Gq l=l:=λh=>zf h3 (by rw[h]);rw[qu2 xb] at hE;refine xa ?_;exact⟨_,_,_,by rcases UL with h|h;exact absurd h xb;exact h,⟨Gq l,rfl,rfl,rfl,by omega,Jx,hE⟩,Kb,bc _,hj⟩
end Go.Proofs.Y.Pp
namespace Go.Proofs.Y.nj
open Go.GL Go.RowKit Go.ia
@[reducible] def u32(n:Nat):LV:=int .u32 (n:Int)
theorem Ci{x:Nat×ja}{H:Heap}:(x::H).Perm (H++[x]):=Lh (l₁:=[x])
theorem bf{kind:Int}{name:List UInt8}{index value:List Ex}{Ua Bb:List Sm}(h:Zh (.mk kind name index value Ua Bb)=true)(h7:¬ kind=7):∃ x,value=[x]:=by
 have h1:value.length=1:=by
  simp only[Zh] at h;repeat' (split at h)
  all_goals first
   |(simp only[Rg] at h;omega)
   |cases h
   |contradiction
 cases value with
 |nil=>cases h1
 |cons x l=>
  cases l with
  |nil=>exact⟨x,rfl⟩
  |cons y l=>simp at h1
theorem Mx{name:List UInt8}{index value:List Ex}{Ua Bb:List Sm}(h:Zh (.mk 2 name index value Ua Bb)=true):∃ x,index=[x]:=by
 have h1:index.length=1:=by simp only[Zh] at h;simp only[show ¬ ((2:Int)=1) by decide,if_false,if_true,Rg] at h;exact h.2.1
 cases index with
 |nil=>cases h1
 |cons x l=>
  cases l with
  |nil=>exact⟨x,rfl⟩
  |cons y l=>simp at h1
end Go.Proofs.Y.nj
namespace Go.Proofs.Y.sk
open Go.GL Go.RowKit Go.ia
variable{d:Nat}{Bb Ua:List Sm}{err:Int}{index value:List Ex}{name:List UInt8}{o:Value}{s:Nm}
theorem U1{kind:Int}(h:Zh (.mk kind name index value Ua Bb)=true)(h2:¬ kind=2):index=[]:=by
 have h1:index.length=0:=by
  simp only[Zh] at h;repeat' (split at h)
  all_goals first
   |(simp only[Rg] at h;omega)
   |cases h
   |contradiction
 exact List.length_eq_zero_iff.1 h1
theorem kR{kind:Int}(h:Zh (.mk kind name index value Ua Bb)=true)(h3:¬ kind=3)(h4:¬ kind=4):Ua=[]/\Bb=[]:=by
 have h1:Ua.length=0/\Bb.length=0:=by
  simp only[Zh] at h;repeat' (split at h)
  all_goals first
   |(simp only[Rg] at h;constructor <;> omega)
   |cases h
   |contradiction
 exact⟨List.length_eq_zero_iff.1 h1.1,List.length_eq_zero_iff.1 h1.2⟩
theorem qri(h:Zh (.mk 7 name index value Ua Bb)=true):value=[]:=by
 have h1:value.length=0:=by
  simp only[Zh] at h;repeat' (split at h)
  all_goals first
   |(simp only[Rg] at h;omega)
   |cases h
   |contradiction
 exact List.length_eq_zero_iff.1 h1
attribute [local irreducible] Ea kb ab ca Go.GL.Pure Ie pf ke LQ Rb oi Nj LS
variable{B0:Nat}{w0:World}
def qBW(B0:Nat)(w0:World)(k:KB)(c:Cb)(n:Nat):Prop:=∀ (x:Sm) (d:Nat),Oq x<=n->d<=200000000->ca (KC B0 w0) 201 [ptr k.cb 0,uc x] (eg k d) (Iz (Dl c x) (iv (HE c x)) (eg k (max d (Rt c x))))
def qAA(B0:Nat)(w0:World)(k:KB)(c:Cb)(n:Nat):Prop:=∀ (l:List Sm) (d:Nat),Td l<=n->d<=200000000->ca (KC B0 w0) 155 [ptr k.cb 0,.list (l.map uc)] (eg k d) (Iz (mi c l) (iv (Xl c l)) (eg k (max d (Mj c l))))
theorem tR{k:KB}{c:Cb}{B D:Nat}(hB:nu B D c.funcs)(YD:D<=100000000){n:Nat}(hn6:n<=2000000)(ih:qBW B0 w0 k c n):qAA B0 w0 k c n:=by
 intro l d Bh hd;have TD:=KK l;generalize hN:Xl c l=N;generalize Oj:max d (Mj c l)=DD;refine jb Tryz.func155 rfl (n:=21) rfl rfl rfl ?_;refine wa ?_;refine oL (λkk ls H'=>∃ (pre l1:List Sm) (m d1:Nat),l=pre++l1/\kk=l1.length/\ls=[(0,ptr k.cb 0),(5,iv m),(8,.list (l.map uc)),(9,int .i64 ((l.map uc).length:Int)),(10,iv pre.length)]/\H'=eg k d1/\d1<=200000000/\mi c l1=mi c l/\max m (Xl c l1)=N/\max d1 (Mj c l1)=DD)
  ⟨l.length,_,_,⟨[],l,0,d,rfl,rfl,rfl,rfl,hd,rfl,by omega,Oj⟩,Kb,bc _⟩ ?_
 rintro kk ls H' ⟨pre,l1,m,d1,ec,rfl,rfl,rfl,Lr,hE,hM,MT⟩ j hj;have oo:pre.length<=2000000:=by have:=congrArg List.length ec;rw[Ga] at this;omega
 refine wh ?_;refine Oa (λhc=>?_) λhc=>?_;have ma:=zt hc;rw[Mb,ec,Ga] at ma
 obtain⟨a,l2,rfl⟩:∃ a l2,l1=a::l2:=by
  cases l1 with
  |nil=>simp at ma
  |cons a l2=>exact⟨a,l2,rfl⟩
 have SD:Oq a<=n:=by
  have h1:∀ (p:List Sm) (x:Sm) (r:List Sm),Oq x<=Td (p++x::r):=λp=>by
   induction p with
   |nil=>intro x r;show Oq x<=Td (x::r);rw[Td];omega
   |cons y p ih2=>intro x r;show Oq x<=Td (y::(p++x::r));rw[Td];have:=ih2 x r;omega
  have:=h1 pre a l2;rw[<-ec] at this;omega
 rw[mi] at hE;rw[Xl] at hM;rw[Mj] at MT;have hda:=qsM B D c hB a;refine Zi ?_;refine qa (xR (Ud:=uc a) (cs:=[_,_,_,_,_,_]) rfl rfl zo (by rw[ec];exact de uc pre a l2) rfl rfl)<|Ra ?_;refine oS (Sd λb7=>?_);refine xa ?_;refine oS (sK [_,_] rfl (nj.Ci) (ih a d1 SD Lr) (λh0=>?_) λnm h0 e' Na=>?_);rw[h0] at hE;refine qa (Pure.ck m (HE c a) rfl rfl rfl rfl)<|wa ?_;exact⟨l2.length,_,_,lt_succ_self _,⟨pre++[a],l2,max m (HE c a),max d1 (Rt c a),by rw[ec];simp,rfl,rfl,rfl,by omega,hE,by omega,by omega⟩,⟨rfl,rfl,rfl,rfl,qf (by simp),trivial⟩,uG,hj⟩;refine Zd ?_;exact Zf (Na.trans hj) (by rw[<-hE];unfold ej;rw[zp h0]) h0;have ma:=zf hc;rw[Mb,ec,Ga] at ma
 obtain rfl:l1=[]:=by
  cases l1 with
  |nil=>rfl
  |cons a l2=>simp at ma;omega
 rw[Xl] at hM;rw[Mj] at MT;have e1:m=N:=by omega
 have e2:d1=DD:=by omega
 subst e1 e2;refine wa ?_;exact gn hj (eb rfl) (hE.symm.trans rfl) rfl ob
theorem uW{k:KB}{c:Cb}(hk:XA k c){B D:Nat}(hB:nu B D c.funcs)(vM:B<=50000000)(YD:D<=100000000):∀ n:Nat,n<=2000000->qBW B0 w0 k c n
 |0,_=>λx d h _=>by have:=NZ x;omega
 |n+1,hn6=>by
  have kX:=tR (B0:=B0) (w0:=w0) hB YD (n:=n) zo (uW hk hB vM YD n zo);have hX:qBf B0 w0 k c n:=QK hk hB zo YD n zo;intro x d Bh hd;obtain⟨kind,name,index,value,Ua,Bb⟩:=x;rw[Oq] at Bh;generalize hI:Dl c (Sm.mk kind name index value Ua Bb)=E;rw[Dl] at hI;generalize hN:HE c (Sm.mk kind name index value Ua Bb)=N;rw[HE] at hN;generalize Oj:max d (Rt c (Sm.mk kind name index value Ua Bb))=DD;rw[Rt] at Oj;have bM:=qoS (B0:=B0) (w0:=w0) (Sm.mk kind name index value Ua Bb);rw[Kw] at bM ⊢;refine jb Tryz.func201 rfl (n:=65) rfl rfl rfl ?_;refine Xe ?_;refine oS (sB rfl λb3=>?_);refine Aa ?_;refine cM (A:=Unit) (λ_=>[(0,ptr k.cb 0),(3,ptr b3 0)]) (λ_=>(b3,.cells 216 [int .i64 kind,str name,.list (index.map Ab),.list (value.map Ab),.list (Ua.map uc),.list (Bb.map uc)])::eg k d) (λ_=>Zh (Sm.mk kind name index value Ua Bb)=true) ?_ λ_ Xb j hj=>?_;refine cD (m:=7) rfl [(b3,.cells 216 [int .i64 kind,str name,.list (index.map Ab),.list (value.map Ab),.list (Ua.map uc),.list (Bb.map uc)]),(k.cb,.cells 120 [.atom (.map (some k.gm)),.atom (.map (some k.vm)),.atom (.map (some k.am)),.atom (.map (some k.fm)),str k.name,.atom (.map (some k.om)),int .i64 (d:Int)])]<|aT 0 rfl rfl (pG (Zb:=[_,_,_,_,_,_]) rfl xc rfl rfl)<|qw ?_;refine aT 3 rfl rfl (pN rfl)<|aT 4 rfl rfl (pF rfl)<|aT 5 rfl rfl (pL (c:=.atom _) rfl Xh rfl)<|aL ?_ (Fc pH Gd);refine lO 1 (lS (H1:=[]) rfl (.inl rfl) rfl dc (Fc pH Gd) (sF [_] rfl bM ?_))
  cases hf:Zh (Sm.mk kind name index value Ua Bb) with
  |true=>
   refine lO 6 (lS (H1:=[]) rfl (.inl rfl) rfl dc (Fc pH Gd) (ab.Dm [_,_,_] rfl (Ug true k.name 3 ea) (λ_=>?_) λnm h=>absurd rfl h));refine lD zk ?_;refine qN ?_
   exact⟨(),rfl,Kb,bc _,rfl⟩
  |false=>rw[hf,zp rfl] at hI;refine lO 6 (lS (H1:=[]) rfl (.inl rfl) rfl dc (Fc pH Gd) (ab.Dm [_,_,_] rfl (Ug false k.name 3 ea) (λh=>absurd h ea) λnm _ e' Na=>?_));refine Yi ?_;exact Zf (Na.trans rfl) (by rw[<-hI];rfl) ea
  rw[Xb,zn ea] at hI;refine wa ?_;by_cases h7:kind=7;subst h7;obtain rfl:=qri Xb;obtain rfl:=U1 Xb ea;obtain⟨rfl,rfl⟩:=kR Xb ea ea;refine oC rfl (λ_=>?_) (λhc=>by cases hc);refine Ak ?_;have e2:d=DD:=by rw[<-Oj];simp only[Qi,Mj];omega
  subst e2;exact gn hj (eb rfl) (by rw[<-hI];rfl) (by rw[<-hN];rfl) (Yg ob);refine oC rfl (λhc=>absurd (zt hc) h7) λ_=>?_;obtain⟨x0,rfl⟩:=nj.bf Xb h7;rw[zn h7] at hN
  have FB:Zl x0<=n:=by rw[Vb,Vb] at Bh;omega
  have cz:=oZ B D c hB x0;have aan:=HN B D c hB x0;have hEv:∀ E2,ej (vg c [x0]) E2=ej (Gf c x0) E2:=λE2=>by rw[vg,vg];unfold ej;by_cases h:Gf c x0≠0;rw[zp h,zp h];rw[zn h,zn ea,zn h]
  rw[hEv] at hI;rw[show([x0]:List Ex).headD default=x0 from rfl] at hN;have hDx:Qi c [x0]=Hj c x0:=by rw[Qi,Qi];omega
  rw[hDx] at Oj;refine xa ?_;refine qa (xR (Ud:=Ab x0) (cs:=[_,_,_,_]) rfl rfl zo rfl rfl rfl)<|Ra ?_;refine oS (sK [_,_] rfl (nj.Ci) (hX x0 d FB hd) (λh0=>?_) λnm h0 e' Na=>?_);rotate_left;refine Yi ?_;exact Zf (Na.trans hj) (by rw[<-hI];unfold ej;rw[zp h0]) h0;rw[h0,show ∀ E2,ej 0 E2=E2 from λE2=>rfl] at hI;generalize Lr:max d (Hj c x0)=d1;refine Ea.perm (nj.Ci (H:=eg k d1)).symm ?_;refine wa ?_
  by_cases ju:kind=1;subst ju;obtain rfl:=U1 Xb ea;obtain⟨rfl,rfl⟩:=kR Xb ea ea;have ew:du c name=E:=by rw[<-hI];simp only[vg,mi];unfold ej;by_cases ha:du c name=0 <;> simp[ha]
  refine oC rfl (λ_=>?_) (λhc=>by cases hc);refine wa ?_;refine oS (sK [_,_] rfl (nj.Ci) (UN hk d1 name) (λh1=>?_) λnm h1 e' Na=>?_);rw[ew] at h1;refine wa ?_;refine qa (Pure.ck 2 (Sf c x0) rfl rfl rfl rfl)<|Ad ?_
  have e2:d1=DD:=by rw[<-Oj,<-Lr];simp only[Qi,Mj];omega
  subst e2;refine gn hj (eb rfl) h1 ?_ uG;rw[<-hN];simp only[Xl];exact qf (by simp);refine Zd ?_;exact Zf (Na.trans hj) ew.symm h1;refine oC rfl (λhc=>absurd (zt hc) ju) λ_=>?_;rw[zn ju] at hI;refine Pj ?_
  by_cases fi:kind=2
  ·subst fi;obtain⟨i0,rfl⟩:=nj.Mx Xb;obtain⟨rfl,rfl⟩:=kR Xb ea ea
   have AX:Zl i0<=n:=by rw[Vb,Vb,Vb,Vb] at Bh;omega
   have hdi:=oZ B D c hB i0;have aao:=HN B D c hB i0;have ew:ej (Gf c i0) (Xz c name)=E:=by rw[<-hI];simp only[vg,mi];unfold ej;by_cases ha:Gf c i0=0 <;> by_cases hb:Xz c name=0 <;> simp[ha,hb]
   refine oC rfl (λ_=>?_) (λhc=>by cases hc);refine xa ?_;refine qa (xR (Ud:=Ab i0) (cs:=[_,_,_,_]) rfl rfl zo rfl rfl rfl)<|Ra ?_;refine oS (sK [_,_] rfl (nj.Ci) (hX i0 d1 AX zo) (λh1=>?_) λnm h1 e' Na=>?_);rotate_left;refine Zd ?_;exact Zf (Na.trans hj) (by rw[<-ew];unfold ej;rw[zp h1]) h1;rw[h1] at ew;refine Ea.perm (nj.Ci (H:=eg k (max d1 (Hj c i0)))).symm ?_;refine wa ?_;refine oS (sK [_,_] rfl (nj.Ci) (AR hk (max d1 (Hj c i0)) name) (λh2=>?_) λnm h2 e' Na=>?_);refine wa ?_;refine qa (Pure.ck (Sf c x0) (2+Sf c i0) rfl rfl rfl zo)<|Aa ?_
   have e2:max d1 (Hj c i0)=DD:=by rw[<-Oj,<-Lr];simp only[Qi,Mj];omega
   rw[<-e2];exact gn hj (eb rfl) (ew.symm.trans h2) (by rw[<-hN];rfl) uG;refine Zd ?_;exact Zf (Na.trans hj) ew.symm h2
  refine oC rfl (λhc=>absurd (zt hc) fi) λ_=>?_;obtain rfl:=U1 Xb fi;rw[zn fi] at hI hN;refine Pj ?_
  by_cases ZL:kind=5;subst ZL;obtain⟨rfl,rfl⟩:=kR Xb ea ea;refine oC rfl (λ_=>?_) (λhc=>by cases hc);refine wa ?_;have e2:d1=DD:=by rw[<-Oj,<-Lr];simp only[Qi,Mj];omega
  subst e2;exact gn hj (eb rfl) (by rw[<-hI];rfl) (by rw[<-hN];rfl) (Yg ob);refine oC rfl (λhc=>absurd (zt hc) ZL) λ_=>?_;rw[zn ZL] at hN
  have CH:ej (mi c Ua) (mi c Bb)=E:=by rw[<-hI];simp only[vg];rfl
  refine Pj ?_;by_cases iF:kind=3
  ·refine oC rfl (λ_=>?_) λhc=>absurd iF (zf hc);refine Aa ?_;refine oC rfl (λ_=>?_) λhc=>absurd iF (zf hc);refine yP ?_;refine aL ?_ Gd;refine lO 4 (lS (H1:=eg k d1) rfl (.inl rfl) rfl nj.Ci ob (ab.Dm [_,_] rfl (kX Ua d1 (by rw[Vb,Vb,Vb] at Bh;omega) zo) (λh1=>?_) λnm h1 e' Na=>?_));rotate_left;refine Zd ?_;exact Zf (Na.trans hj) (by rw[<-CH];unfold ej;rw[zp h1]) h1;rw[h1] at CH;have P7:=JK B D c hB Ua;refine lO 8 (lS (H1:=eg k (max d1 (Mj c Ua))) rfl (.inl rfl) rfl dc ob (ab.Dm [_,_] rfl (kX Bb (max d1 (Mj c Ua)) (by rw[Vb,Vb,Vb] at Bh;omega) zo) (λh2=>?_) λnm h2 e' Na=>?_));rotate_left;refine Zd ?_;exact Zf (Na.trans hj) CH.symm h2;refine wP ?_
   have e2:max (max d1 (Mj c Ua)) (Mj c Bb)=DD:=by rw[<-Oj,<-Lr];simp only[Qi];omega
   rw[<-e2];exact gn hj (eb rfl) (CH.symm.trans h2) (by rw[<-hN];rfl) uG
  refine oC rfl (λhc=>absurd (zt hc) iF) λ_=>?_;refine Pj ?_
  by_cases wH:kind=4
  ·refine oC rfl (λ_=>?_) λhc=>absurd wH (zf hc);refine yP ?_;refine aL ?_ Gd;refine lO 4 (lS (H1:=eg k d1) rfl (.inl rfl) rfl nj.Ci ob (ab.Dm [_,_] rfl (kX Ua d1 (by rw[Vb,Vb,Vb] at Bh;omega) zo) (λh1=>?_) λnm h1 e' Na=>?_));rotate_left;refine Zd ?_;exact Zf (Na.trans hj) (by rw[<-CH];unfold ej;rw[zp h1]) h1;rw[h1] at CH;have P7:=JK B D c hB Ua;refine lO 8 (lS (H1:=eg k (max d1 (Mj c Ua))) rfl (.inl rfl) rfl dc ob (ab.Dm [_,_] rfl (kX Bb (max d1 (Mj c Ua)) (by rw[Vb,Vb,Vb] at Bh;omega) zo) (λh2=>?_) λnm h2 e' Na=>?_));rotate_left;refine Zd ?_;exact Zf (Na.trans hj) CH.symm h2;refine wP ?_
   have e2:max (max d1 (Mj c Ua)) (Mj c Bb)=DD:=by rw[<-Oj,<-Lr];simp only[Qi];omega
   rw[<-e2];exact gn hj (eb rfl) (CH.symm.trans h2) (by rw[<-hN];rfl) uG
  refine oC rfl (λhc=>absurd (zt hc) wH) λ_=>?_;obtain⟨rfl,rfl⟩:=kR Xb iF wH;refine wa ?_;refine qa (Pure.ck 2 (Sf c x0) rfl rfl rfl rfl)<|Ad ?_
  have e2:d1=DD:=by rw[<-Oj,<-Lr];simp only[Qi,Mj];omega
  subst e2;refine gn hj (eb rfl) (by rw[<-CH];rfl) ?_ (Yg ob);rw[<-hN];simp only[Xl];exact qf (by simp)
theorem qrJ{X A L:Heap}(h:HSub X L):HSub X (A++L):=
 let ⟨G,hG⟩:=h
 ⟨A++G,(List.Perm.append_left A hG).trans (by
  rw[<-Yc,<-Yc];exact Lh.append_right G)⟩
def Hu(k:KB)(o:Value)(d:Nat):Heap:=[(k.cb,.cells 120 [.atom (.map (some k.gm)),.atom (.map (some k.vm)),.atom (.map (some k.am)),.atom (.map (some k.fm)),str k.name,.atom o,int .i64 (d:Int)]),(k.gm,.map (Ve k.G) k.g1),(k.vm,.map (Ve k.V) k.g2),(k.am,.map (Ve k.A) k.g3),(k.fm,.map (Ve k.F) k.g4)]
def IE(err:Int)(P:Heap->Prop)(r:Pe)(H:Heap):Prop:=(err=0/\r=.ret (.tuple [])/\P H)∨(err≠0/\(∃ nm,r=.panic (SF nm err))/\H=[])
section
variable{C:Ctx}{n:Nat}{e:Env}{H:Heap}{dst:Option Nat}{ty:TypeId}{ra:String}{ua:Array Edge}{g:Option (Nat×Bool)}{K:LV->Heap->Prop}{X:List PanicEntry->Heap->Prop}
theorem S.Qc{P:Heap->Prop}{H1 F:Heap}{f:FuncId} [Wb C.P f](args:List Operand){nh:Array TypeId}{av:List LV}(has:args.map e.ev=av)(hp:H.Perm (H1++F))
  (hc:ca C f av H1 (IE err P)) (hk:∀ H',err=0->P H'->K (.tuple []) (H'++F)) (hx:∀ nm,err≠0->X (SF nm err) F):ab C ⟨dst,.call { callee:=.value (.func f),args:=args.toArray,argTypes:=nh },ty,ra,ua,g⟩ e H K X:=by
 refine S.Uc args has hp hc ?_ ?_;rintro v H2 (⟨h1,h2,h3⟩|⟨_,⟨nm,h2⟩,_⟩);cases h2;exact hk _ h1 h3;cases h2;rintro ch H2 (⟨_,h2,_⟩|⟨h1,⟨nm,h2⟩,rfl⟩);cases h2;cases h2;exact hx nm h1
theorem Y4{P:Heap->Prop}{H':Heap}{rs:List ResultVar}{vs:List LV}(hd:e.ds=[])(h:tn C n e H rs vs)(he:err=0)(hv:Oh vs=.tuple [])(hH:HSub H' H)(hP:P H'):ke C n rs (IE err P) .normal e H:=
 rO hd h hH (.inl ⟨he,by rw[hv],hP⟩)
theorem Dj{er:Int}{P:Heap->Prop}{rs:List ResultVar}{nm:List UInt8}(hd:e.ds=[])(he:err=er)(h0:er≠0):ke C n rs (IE err P) (.panic (SF nm er)) e H:=
 ke.panic hd sd (.inr ⟨by rw[he];exact h0,⟨nm,by rw[he]⟩,rfl⟩)
end
def Bn(known:List Nm)(s:Nm):Int:=if kf s=false then 7 else if s∈known then 8 else 0
theorem mR(known:List Nm)(s:Nm)(l:List Nm):yp known (s::l)=ej (Bn known s) (yp (s::known) l):=by rw[yp];unfold Bn;split;rfl;split;rfl;rfl
theorem M3:∀ (l k k':List Nm),(∀ s,s∈k ↔ s∈k')->yp k l=yp k' l
 |[],_,_,_=>rfl
 |s::l,k,k',h=>by
  have h2:Bn k s=Bn k' s:=by unfold Bn;simp only[h s]
  rw[mR,mR,h2,M3 l (s::k) (s::k') (λx=>by simp[h x])]
theorem C4{k:KB}{known:List Nm}(hG:rp k.G known)(s:Nm):ca (KC B0 w0) 83 [ptr k.cb 0,str s] (Hu k o d)
  (IE (Bn known s) λH=>∃ g1,H=Hu { k with G:=GL.Nc k.G s (bool true),g1:=g1 } o d):=by
 generalize hI:Bn known s=E;unfold Bn at hI;refine jb Tryz.func83 rfl (n:=22) rfl rfl rfl ?_;refine Yd ?_;refine oS (sF [_] rfl (NW s) ?_);refine Aa ?_;cases hn:kf s with
 |false=>
  rw[zp hn] at hI;refine oS (sK (H1:=[]) (F:=Hu k o d) [_,_,_] rfl dc (Ug false s 7 ea) (λh=>absurd h ea) λnm _ e' Na=>?_);refine Yi ?_
  exact Dj (Na.trans rfl) hI.symm ea
 |true=>rw[zn (by rw[hn];decide)] at hI;refine oS (sK (H1:=[]) (F:=Hu k o d) [_,_,_] rfl dc (Ug true s 7 ea) (λ_=>?_) λnm h=>absurd rfl h);refine wa ?_;refine qa (Pure.Jg rfl rfl Xh hG)<|oB 13 rfl (λh1=>?_) λh1=>?_;rw[zp (zt h1)] at hI;refine Ra ?_;refine oS (sK (H1:=[]) (F:=Hu k o d) [_,_,_] rfl dc (Ug false s 8 ea) (λh=>absurd h ea) λnm _ e' Na=>?_);refine Yi ?_;exact Dj (Na.trans rfl) hI.symm ea;rw[zn (zf h1)] at hI;refine Ra ?_;refine oS (sK (H1:=[]) (F:=Hu k o d) [_,_,_] rfl dc (Ug true s 8 ea) (λ_=>?_) λnm h=>absurd rfl h);refine wa ?_;refine oS (S.ao (k:=s) (lv:=bool true) rfl rfl rfl Vd λg1=>?_);refine Ad ?_;exact Y4 rfl rN hI.symm rfl ⟨[],by rw[ue];exact yq _ _ _⟩ ⟨g1,rfl⟩
theorem qmx{vars ba later:List Nm}{known:List ye}{k:KB}(f:yb)(hG:rp k.G (vars++ba++later))(hV:rp k.V vars)(hA:rp k.A ba)(hF:∀ n,GL.wb k.F n=(known.find? λg=>decide (g.name=n)).map xK)(qm:f.name ∉ known.map (·.name))
  {B D:Nat} (hB:nu B D known) (vM:B<=50000000) (YD:D<=100000000) (Bh:Dr f<=2000000) :
  ca (KC B0 w0) 85 [ptr k.cb 0,Eg f] (Hu k o d)
  (IE (Bv vars ba later known f) λH=>∃ nm o' d' F' g4,(∀ n,GL.wb F' n=((known++[Aj vars ba later known f]).find? λg=>decide (g.name=n)).map xK)/\H=Hu { k with name:=nm,F:=F',g4:=g4 } o' d'):=by
 have kx:=LY Bh;have wX:f.params.length<=2000000:=kx.params;have CX:f.locals.length<=2000000:=kx.locals;have hbn:Td f.body<=2000000:=by unfold Dr at Bh;omega
 generalize hI:Bv vars ba later known f=E;unfold Bv at hI;refine jb Tryz.func85 rfl (n:=82) rfl rfl rfl ?_;refine Xe ?_;refine oS (sB rfl λb3=>?_);refine wa ?_;refine oS (S.im λom=>?_);refine xa ?_;refine oS (sL (es:=[Jq f.params,Jq f.locals]) [_,_] rfl (Qd rfl rfl (Qd rfl rfl pj)) rfl rfl rfl ?_);refine oS (S.Uc (H1:=[]) (F:=_) [_] rfl dc (qj9 [f.params,f.locals] (by simp) (by
  intro l hl;rcases Dc.1 hl with rfl|hl;exact wX;rw[aj hl];exact CX)) ?_ (by rintro ch H' ⟨v,h,_⟩;cases h))
 rintro v2 Ha2 ⟨_,h,ud⟩;cases h;have yl:[f.params,f.locals].flatten=f.params++f.locals:=by simp
 rw[yl] at ud;refine Ea.sub 24 rfl ud.sub ?_;refine Ea.Yb (H':=(b3,.cells 167 [str f.name,.list (f.params.map str),.list (f.locals.map str),.list (f.body.map uc)])::eg { k with name:=f.name,om:=om,O:=[],g5:=0 } 1) ?_ ?_
 ·refine qrJ ?_
  repeat first
   |exact HSub.nil _
   |refine Fc PJ ?_
 refine Aa ?_;refine oL (λkk ls H'=>∃ (pre l1:List Nm) (OO:KV) (gg:Nat),f.params++f.locals=pre++l1/\kk=l1.length/\ls=[(0,ptr k.cb 0),(3,ptr b3 0),(24,.list ((f.params++f.locals).map str)),(25,int .i64 (((f.params++f.locals).map str).length:Int)),(26,iv pre.length)] /\
   H'=(b3,.cells 167 [str f.name,.list (f.params.map str),.list (f.locals.map str),.list (f.body.map uc)])::eg { k with name:=f.name,om:=om,O:=OO,g5:=gg } 1/\rp OO pre/\ej (yp (pre.reverse++(vars++ba++later)) l1) (mi (Bg vars ba later known f) f.body)=E)
  ⟨_,_,_,⟨[],f.params++f.locals,[],0,rfl,rfl,rfl,rfl,rp.nil,hI⟩,Kb,bc _⟩ ?_
 rintro kk ls H' ⟨pre,l1,OO,gg,ec,rfl,rfl,rfl,hO,hE⟩ j hj;have oo:pre.length<=4000000:=by have:=congrArg List.length ec;rw[Ga,Ga] at this;omega
 refine wh ?_;refine Oa (λhc=>?_) λhc=>?_
 ·have ma:=zt hc;rw[Mb,ec,Ga] at ma
  obtain⟨s,l2,rfl⟩:∃ a l2,l1=a::l2:=by
   cases l1 with
   |nil=>simp at ma
   |cons a l2=>exact⟨a,l2,rfl⟩
  rw[mR] at hE;generalize lF:Bn (pre.reverse++(vars++ba++later)) s=En at hE;unfold Bn at lF;refine Zi ?_;refine qa (xR (Ud:=str s) (cs:=[str s]) rfl rfl zo (by rw[ec];exact de str pre s l2) rfl rfl)<|xa ?_;refine oS (sF [_] rfl (NW s) ?_);refine Aa ?_;cases hn:kf s with
  |false=>
   rw[zp hn] at lF;refine oS (sK (H1:=[]) (F:=_) [_,_,_] rfl dc (Ug false s 7 ea) (λh=>absurd h ea) λnm _ e' Na=>?_);refine Zd ?_
   exact Dj (Na.trans hj) (by rw[<-hE,<-lF];rfl) ea
  |true=>
   rw[zn (by rw[hn];decide)] at lF;refine oS (sK (H1:=[]) (F:=_) [_,_,_] rfl dc (Ug true s 7 ea) (λ_=>?_) λnm h=>absurd rfl h);refine xa ?_;refine qa (Pure.Jg rfl rfl YB hG)<|oB 39 rfl (λh1=>?_) λh1=>?_;have Og:s∈pre.reverse++(vars++ba++later):=mem_append_right _ (zt h1);rw[zp Og] at lF;refine Ra ?_;refine oS (sK (H1:=[]) (F:=_) [_,_,_] rfl dc (Ug false s 8 ea) (λh=>absurd h ea) λnm _ e' Na=>?_);refine Zd ?_;exact Dj (Na.trans hj) (by rw[<-hE,<-lF];rfl) ea;refine Ra ?_;refine qa (Pure.Jg rfl rfl r9 hO)<|oB 47 rfl (λh2=>?_) λh2=>?_;have Og:s∈pre.reverse++(vars++ba++later):=List.mem_append_left _ (List.mem_reverse.2 (zt h2));rw[zp Og] at lF;refine Ra ?_;refine oS (sK (H1:=[]) (F:=_) [_,_,_] rfl dc (Ug false s 8 ea) (λh=>absurd h ea) λnm _ e' Na=>?_);refine Zd ?_;exact Dj (Na.trans hj) (by rw[<-hE,<-lF];rfl) ea;rw[zn (λh=>(xj h).elim (λh=>zf h2 (List.mem_reverse.1 h)) (zf h1))] at lF;subst lF;refine Ra ?_;refine oS (sK (H1:=[]) (F:=_) [_,_,_] rfl dc (Ug true s 8 ea) (λ_=>?_) λnm h=>absurd rfl h);refine xa ?_;refine oS (S.ao (k:=s) (lv:=bool true) rfl rfl rfl zp6 λgg2=>?_);refine zm ?_
   exact⟨l2.length,_,_,lt_succ_self _,⟨pre++[s],l2,GL.Nc OO s (bool true),gg2,by rw[ec];simp,rfl,rfl,rfl,hO.add s,by
    rw[<-hE];rw[M3 l2 ((pre++[s]).reverse++(vars++ba++later)) (s::(pre.reverse++(vars++ba++later))) (λx=>by simp)];rfl⟩,⟨rfl,rfl,rfl,rfl,qf (by simp),trivial⟩,by
    repeat first
     |exact HSub.nil _
     |refine Fc PJ ?_,hj⟩
 have ma:=zf hc;rw[Mb,ec,Ga] at ma;obtain rfl:l1=[]:=by
  cases l1 with
  |nil=>rfl
  |cons a l2=>simp at ma;omega
 rw[ue] at ec;rw[<-ec] at hO;have Mt:mi (Bg vars ba later known f) f.body=E:=by rw[<-hE];rfl
 have E7:XA { k with name:=f.name,om:=om,O:=OO,g5:=gg } (Bg vars ba later known f):=⟨hG,hV,hA,hO,hF⟩;have nS:=tR (B0:=B0) (w0:=w0) (k:={ k with name:=f.name,om:=om,O:=OO,g5:=gg }) (c:=Bg vars ba later known f) hB YD (n:=2000000) (Pb _) (uW E7 hB vM YD 2000000 (Pb _)) f.body 1 hbn ea;have WL:=gR B D (Bg vars ba later known f) hB f.body;have hdb:=JK B D (Bg vars ba later known f) hB f.body;refine xa ?_;refine oS (sK [_,_] rfl (nj.Ci) nS (λh0=>?_) λnm h0 e' Na=>?_);rotate_left;refine Yi ?_;exact Dj (Na.trans hj) Mt.symm h0;refine Ea.perm (nj.Ci (H:=eg _ _)).symm ?_;refine Ad ?_;have Ct:(f.params.map str).length<=2000000:=by rw[Mb];exact wX
 refine kb.tail 20 zk ?_;refine Ra ?_;refine lP (Pure.Hr 2 (f.params.length+1) (Xl (Bg vars ba later known f) f.body) rfl rfl rfl rfl (by rw[Mb];omega) rfl) rfl ?_;refine Ra ?_;refine oS (S.ao (k:=f.name) (lv:=.agg [int .i64 ((f.params.map str).length:Int),int .i64 (max (max 2 (f.params.length+1)) (Xl (Bg vars ba later known f) f.body):Nat),int .i64 (max 1 (Mj (Bg vars ba later known f) f.body):Nat)]) rfl rfl rfl ZX λg4=>?_);refine Ad ?_;refine Y4 hj rN (Mt.symm.trans h0) rfl (H':=Hu { k with name:=f.name,F:=GL.Nc k.F f.name (.agg [int .i64 ((f.params.map str).length:Int),int .i64 (max (max 2 (f.params.length+1)) (Xl (Bg vars ba later known f) f.body):Nat),int .i64 (max 1 (Mj (Bg vars ba later known f) f.body):Nat)]),g4:=g4 } (.map (some om)) (max 1 (Mj (Bg vars ba later known f) f.body))) ?hs ⟨f.name,_,_,_,g4,λn=>?kv,rfl⟩
 case hs=>
  repeat first
   |exact HSub.nil _
   |refine Fc PJ ?_
 case kv=>
  rw[GL.Dn,hF n,List.find?_append];by_cases h1:f.name=n;rw[zp h1];have h2:(known.find? λg=>decide (g.name=n))=none:=by rw[List.find?_eq_none];intro g hg;simp only[Rg];intro h3;exact qm (by rw[h1,<-h3];exact mem_map_of_mem hg)
  rw[h2,none_or];have h4:([Aj vars ba later known f].find? λg=>decide (g.name=n))=some (Aj vars ba later known f):=by rw[List.find?_cons_of_pos];exact Dg h1
  rw[h4];show some _=some (xK _);unfold xK Aj;rw[<-Mb (f:=str)];rw[zn h1];have h4:([Aj vars ba later known f].find? λg=>decide (g.name=n))=none:=by rw[List.find?_eq_none];intro g hg;rw[aj hg];simp only[Rg];exact h1
  rw[h4,Option.or_none]
def wc(a:Nm×Int):LV:=.agg [str a.1,int .i64 a.2]
def Fh(vars:List Nm)(ba:List (Nm×Int))(fs:List yb):LV:=.agg [.list (vars.map str),.list (ba.map wc),.list (fs.map Eg)]
theorem RW:∀ (l known:List Nm),yp known l=0->l.Nodup/\(∀ s∈l,s ∉ known)/\∀ s∈l,kf s=true
 |[],known,_=>⟨List.nodup_nil,λs h=>(not_mem_nil h).elim,λs h=>(not_mem_nil h).elim⟩
 |s::l,known,h=>by rw[yp] at h;split at h;cases h;rename_i h1;split at h;cases h;rename_i h2;obtain⟨h3,h4,h5⟩:=RW l _ h;refine⟨List.nodup_cons.2 ⟨λhm=>h4 s hm Qe,h3⟩,?_,?_⟩;intro x hx;rcases Dc.1 hx with rfl|hx;exact h2;exact λhk=>h4 x hx (Oc _ hk);intro x hx;rcases Dc.1 hx with rfl|hx;simpa using h1;exact h5 x hx
theorem qlG(h:kf s=true):s.length<=1000:=by unfold kf at h;simp only[Ed,Rg] at h;omega
theorem dN{a b:Int}(h:a≠0):ej a b=a:=by unfold ej;exact zp h
theorem F4:∀ a b:List yb,ze (a++b)=ze a+ze b
 |[],b=>by rw[nil_append,ze,Nat.zero_add]
 |x::a,b=>by rw[cons_append,ze,ze,F4 a b];omega
theorem qlj{vars ba later:List Nm}:∀ (l:List yb) (known:List ye),cu vars ba later known l=0->∀ f∈l,∃ k,Bv vars ba later k f=0
 |[],_,_,f,h=>(not_mem_nil h).elim
 |g::l,known,h,f,hf=>by rw[cu,Tc] at h;rcases Dc.1 hf with rfl|hf;exact⟨known,h.1⟩;exact qlj l _ h.2 f hf
theorem qsm{vars ba later:List Nm}{k:List ye}{f:yb}(h:Bv vars ba later k f=0):∀ x∈f.params++f.locals,x.length<=1000:=by unfold Bv at h;rw[Tc] at h;intro x hx;exact qlG ((RW _ _ h.1).2.2 x hx)
theorem qtQ{l:List ye}{m:ye}(hn:(l.map (·.name)).Nodup)(hm:l.getLast? = some m):(l.find? λg=>decide (g.name=m.name))=some m:=by
 obtain⟨ys,rfl⟩:=List.getLast?_eq_some_iff.1 hm;rw[List.find?_append];have h1:(ys.find? λg=>decide (g.name=m.name))=none:=by rw[List.find?_eq_none];intro g hg;simp only[Rg];intro h2;rw[Te] at hn;exact(On hn).2.2 _ (mem_map_of_mem hg) _ (mem_map_of_mem (List.mem_singleton_self m)) h2
 rw[h1,none_or,List.find?_cons_of_pos];exact Dg rfl
theorem qj0{vars ba later:List Nm}:∀ (l:List yb) (known:List ye),(yC vars ba later known l).map (·.name)=known.map (·.name)++l.map (·.name)
 |[],known=>by rw[yC];simp
 |f::l,known=>by rw[yC,qj0 l];simp[Aj]
theorem E3{pre l:List Nm}{FR:Int}(h:yp pre (s::l)=FR)(h0:Bn pre s=0):yp (pre++[s]) l=FR:=by rw[<-h,mR,h0,M3 l (pre++[s]) (s::pre) (λx=>by simp[or_comm])];rfl
theorem N2{pre l:List Nm}{FR RA E:Int}(hI:ej FR RA=E)(h:yp pre (s::l)=FR)(h0:Bn pre s≠0):E=Bn pre s:=by rw[<-hI,<-h,mR,dN (a:=ej _ _) (by rw[dN h0];exact h0),dN h0]
theorem XK{k:KB}(vars:List Nm)(ba:List (Nm×Int))(fs:List yb)(ju:k.G=[])(fi:k.V=[])(iF:k.A=[])(wH:k.F=[])(qD:vars.length<=2000000)(FO:ba.length<=2000000)(mM:∀ a∈ba,-9223372036854775808<=a.2/\a.2<9223372036854775808)(Bh:ze fs<=2000000) :
  ca (KC B0 w0) 48 [ptr k.cb 0,Fh vars ba fs] (Hu k o d) (IE (Ws vars ba fs) λH=>H=[]):=by
 have dM:fs.length<=2000000:=Xf (OV fs) Bh;generalize hI:Ws vars ba fs=E;unfold Ws at hI;generalize LX:yp [] (vars++ba.map (·.1)++fs.map (·.name))=FR at hI;generalize hSZ:iG 0 (ba.map (·.2))=SZ at hI;generalize hFS:cu vars (ba.map (·.1)) (fs.map (·.name)) [] fs=FS at hI;generalize hSS:yC vars (ba.map (·.1)) (fs.map (·.name)) [] fs=SS at hI;generalize Qr:cQ vars fs SS=MN at hI;generalize hRA:ej SZ (ej FS MN)=RA at hI;refine jb Tryz.func48 rfl (n:=147) rfl rfl rfl ?_;refine Xe ?_;refine oS (sB rfl λb3=>?_);refine xa ?_;refine oL (λkk ls H'=>∃ (pre l1:List Nm) (G1 V1:KV) (g1 g2:Nat),vars=pre++l1/\kk=l1.length/\ls=[(0,ptr k.cb 0),(3,ptr b3 0),(18,.list (vars.map str)),(19,int .i64 ((vars.map str).length:Int)),(20,iv pre.length)] /\
   H'=(b3,.cells 71 [.list (vars.map str),.list (ba.map wc),.list (fs.map Eg)])::Hu { k with G:=G1,g1:=g1,V:=V1,g2:=g2 } o d/\rp G1 pre/\rp V1 pre/\yp pre (l1++ba.map (·.1)++fs.map (·.name))=FR)
  ⟨_,_,_,⟨[],vars,k.G,k.V,k.g1,k.g2,rfl,rfl,rfl,rfl,by rw[ju];exact rp.nil,by rw[fi];exact rp.nil,LX⟩,Kb,bc _⟩ ?_
 rintro kk ls H' ⟨pre,l1,G1,V1,g1,g2,ec,rfl,rfl,rfl,JA,hV1,hE⟩ j hj;have oo:pre.length<=2000000:=by have:=congrArg List.length ec;rw[Ga] at this;omega
 refine wh ?_;refine Oa (λhc=>?_) λhc=>?_
 ·have ma:=zt hc;rw[Mb,ec,Ga] at ma
  obtain⟨s,l2,rfl⟩:∃ a l2,l1=a::l2:=by
   cases l1 with
   |nil=>simp at ma
   |cons a l2=>exact⟨a,l2,rfl⟩
  rw[cons_append,cons_append] at hE;refine Zi ?_;refine qa (xR (Ud:=str s) (cs:=[str s]) rfl rfl zo (by rw[ec];exact de str pre s l2) rfl rfl)<|xa ?_;refine oS (S.Qc (F:=[_]) [_,_] rfl (nj.Ci) (C4 (k:={ k with G:=G1,g1:=g1,V:=V1,g2:=g2 }) (o:=o) (d:=d) JA s) (λH2 h0 hP=>?_) λnm h0 e' Na=>?_);rotate_left;refine Zd ?_;exact Dj (Na.trans hj) (N2 hI hE h0) h0;obtain⟨oF,rfl⟩:=hP;refine Ea.perm (nj.Ci (H:=Hu _ _ _)).symm ?_;refine xa ?_;refine oS (S.ao (k:=s) (lv:=bool true) rfl rfl rfl XB λaE=>?_);refine zm ?_;refine⟨l2.length,_,_,lt_succ_self _,⟨pre++[s],l2,GL.Nc G1 s (bool true),GL.Nc V1 s (bool true),oF,aE,by rw[ec];simp,rfl,rfl,rfl,JA.add s,hV1.add s,E3 hE h0⟩,⟨rfl,rfl,rfl,rfl,qf (by simp),trivial⟩,?_,hj⟩
  repeat first
   |exact HSub.nil _
   |refine Fc PJ ?_
 have ma:=zf hc;rw[Mb,ec,Ga] at ma;obtain rfl:l1=[]:=by
  cases l1 with
  |nil=>rfl
  |cons a l2=>simp at ma;omega
 rw[ue] at ec;subst ec;rw[nil_append] at hE;clear ma hc oo;refine xa ?_;refine oL (λkk ls H'=>∃ (pre l1:List (Nm×Int)) (G1 A1:KV) (g1 g3:Nat),ba=pre++l1/\kk=l1.length/\ls=[(0,ptr k.cb 0),(3,ptr b3 0),(34,.list (ba.map wc)),(35,int .i64 ((ba.map wc).length:Int)),(36,iv pre.length)] /\
   H'=(b3,.cells 71 [.list (vars.map str),.list (ba.map wc),.list (fs.map Eg)])::Hu { k with G:=G1,g1:=g1,V:=V1,g2:=g2,A:=A1,g3:=g3 } o d/\rp G1 (vars++pre.map (·.1))/\rp A1 (pre.map (·.1))/\yp (vars++pre.map (·.1)) (l1.map (·.1)++fs.map (·.name))=FR)
  ⟨_,_,_,⟨[],ba,G1,k.A,g1,k.g3,rfl,rfl,rfl,rfl,by simpa using JA,by rw[iF];exact rp.nil,by simpa using hE⟩,Kb,bc _⟩ ?_
 clear JA hE G1 g1;rintro kk ls H' ⟨pre,l1,G1,A1,g1,g3,ec,rfl,rfl,rfl,JA,OT,hE⟩ j Gc;have oo:pre.length<=2000000:=by have:=congrArg List.length ec;rw[Ga] at this;omega
 refine wh ?_;refine Oa (λhc=>?_) λhc=>?_
 ·have ma:=zt hc;rw[Mb,ec,Ga] at ma
  obtain⟨s,l2,rfl⟩:∃ a l2,l1=a::l2:=by
   cases l1 with
   |nil=>simp at ma
   |cons a l2=>exact⟨a,l2,rfl⟩
  rw[yd,cons_append] at hE;refine nP ?_;refine oS (Sd λb7=>?_);refine xa ?_;refine oS (S.Qc (F:=[_,_]) [_,_] rfl (Lh (l₁:=[_,_])) (C4 (k:={ k with G:=G1,g1:=g1,V:=V1,g2:=g2,A:=A1,g3:=g3 }) (o:=o) (d:=d) JA s.1) (λH2 h0 hP=>?_) λnm h0 e' Na=>?_);rotate_left;refine Zd ?_;exact Dj (Na.trans (Gc.trans hj)) (N2 hI hE h0) h0;obtain⟨oF,rfl⟩:=hP
  refine Ea.Yb (H':=[(b7,.cells 163 [str s.1,int .i64 s.2]),(k.cb,.cells 120 [.atom (.map (some k.gm)),.atom (.map (some k.vm)),.atom (.map (some k.am)),.atom (.map (some k.fm)),str k.name,.atom o,int .i64 (d:Int)]),(b3,.cells 71 [.list (vars.map str),.list (ba.map wc),.list (fs.map Eg)]),
   (k.gm,.map (Ve (GL.Nc G1 s.1 (bool true))) oF),(k.vm,.map (Ve V1) g2),(k.am,.map (Ve A1) g3),(k.fm,.map (Ve k.F) k.g4)]) ?_ ?_
  ·repeat first
    |exact HSub.nil _
    |refine Fc PJ ?_
  refine Ad ?_;refine cD (m:=7) rfl [(b7,.cells 163 [str s.1,int .i64 s.2]),(k.cb,.cells 120 [.atom (.map (some k.gm)),.atom (.map (some k.vm)),.atom (.map (some k.am)),.atom (.map (some k.fm)),str k.name,.atom o,int .i64 (d:Int)])]<|mP ?_;refine aL ?_ (Fc pH Gd);refine lO 6 (lS (H1:=[(k.am,.map (Ve A1) g3)]) rfl (.inl rfl) rfl (show xd _ _ _ from pT UO) (Fc pH Gd) (S.ao (k:=s.1) (lv:=bool true) rfl rfl rfl pH λH8=>?_));refine lD zk ?_;refine zm ?_;refine⟨l2.length,_,_,lt_succ_self _,⟨pre++[s],l2,GL.Nc G1 s.1 (bool true),GL.Nc A1 s.1 (bool true),oF,H8,by rw[ec];simp,rfl,rfl,rfl,by simpa using JA.add s.1,by simpa using OT.add s.1,by simpa using E3 hE h0⟩,⟨rfl,rfl,rfl,rfl,qf (by simp),trivial⟩,?_,Gc⟩
  repeat first
   |exact HSub.nil _
   |refine Fc PJ ?_
 have ma:=zf hc;rw[Mb,ec,Ga] at ma;obtain rfl:l1=[]:=by
  cases l1 with
  |nil=>rfl
  |cons a l2=>simp at ma;omega
 rw[ue] at ec;subst ec;rw[List.map_nil,nil_append] at hE;clear ma hc oo;refine xa ?_;refine oL (λkk ls H'=>∃ (pre l1:List yb) (G1:KV) (g1:Nat),fs=pre++l1/\kk=l1.length/\ls=[(0,ptr k.cb 0),(3,ptr b3 0),(52,.list (fs.map Eg)),(53,int .i64 ((fs.map Eg).length:Int)),(54,iv pre.length)] /\
   H'=(b3,.cells 71 [.list (vars.map str),.list (ba.map wc),.list (fs.map Eg)])::Hu { k with G:=G1,g1:=g1,V:=V1,g2:=g2,A:=A1,g3:=g3 } o d/\rp G1 (vars++ba.map (·.1)++pre.map (·.name))/\yp (vars++ba.map (·.1)++pre.map (·.name)) (l1.map (·.name))=FR)
  ⟨_,_,_,⟨[],fs,G1,g1,rfl,rfl,rfl,rfl,by simpa using JA,by simpa using hE⟩,Kb,bc _⟩ ?_
 clear JA hE G1 g1;rintro kk ls H' ⟨pre,l1,G1,g1,ec,rfl,rfl,rfl,JA,hE⟩ j Uo;have oo:pre.length<=2000000:=by have:=congrArg List.length ec;rw[Ga] at this;omega
 refine wh ?_;refine Oa (λhc=>?_) λhc=>?_
 ·have ma:=zt hc;rw[Mb,ec,Ga] at ma
  obtain⟨s,l2,rfl⟩:∃ a l2,l1=a::l2:=by
   cases l1 with
   |nil=>simp at ma
   |cons a l2=>exact⟨a,l2,rfl⟩
  rw[yd] at hE;refine Zi ?_;refine qa (xR (Ud:=Eg s) (cs:=[_,_,_,_]) rfl rfl zo (by rw[ec];exact de Eg pre s l2) rfl rfl)<|Ra ?_;refine oS (Sd λb7=>?_);refine xa ?_;refine oS (S.Qc (F:=[_,_]) [_,_] rfl (Lh (l₁:=[_,_])) (C4 (k:={ k with G:=G1,g1:=g1,V:=V1,g2:=g2,A:=A1,g3:=g3 }) (o:=o) (d:=d) JA s.name) (λH2 h0 hP=>?_) λnm h0 e' Na=>?_);rotate_left;refine Zd ?_;exact Dj (Na.trans (Uo.trans (Gc.trans hj))) (N2 hI hE h0) h0;obtain⟨oF,rfl⟩:=hP;refine Ea.perm (Lh (l₂:=[_,_])) ?_;refine zm ?_;refine⟨l2.length,_,_,lt_succ_self _,⟨pre++[s],l2,GL.Nc G1 s.name (bool true),oF,by rw[ec];simp,rfl,rfl,rfl,by simpa using JA.add s.name,by simpa using E3 hE h0⟩,⟨rfl,rfl,rfl,rfl,qf (by simp),trivial⟩,Yg ob,Uo⟩
 have ma:=zf hc;rw[Mb,ec,Ga] at ma;obtain rfl:l1=[]:=by
  cases l1 with
  |nil=>rfl
  |cons a l2=>simp at ma;omega
 rw[ue] at ec;subst ec;have rM:FR=0:=hE.symm;clear ma hc oo hE;rw[rM] at hI;have Y6:=(RW _ _ (LX.trans rM)).1;have GS:=(RW _ _ (LX.trans rM)).2.2;have KO:RA=E:=by rw[<-hI];rfl
 rw[<-hRA] at KO;clear hI hRA LX;have hPr:0<=(0:Int)/\(0:Int)<=150000:=⟨by decide,by decide⟩;refine xa ?_;refine oL (λkk ls H'=>∃ (pre l1:List (Nm×Int)) (T:Int),ba=pre++l1/\kk=l1.length/\ls=[(0,ptr k.cb 0),(3,ptr b3 0),(10,int .i64 T),(64,.list (ba.map wc)),(65,int .i64 ((ba.map wc).length:Int)),(66,iv pre.length)] /\
   H'=(b3,.cells 71 [.list (vars.map str),.list (ba.map wc),.list (fs.map Eg)])::Hu { k with G:=G1,g1:=g1,V:=V1,g2:=g2,A:=A1,g3:=g3 } o d/\(0<=T/\T<=150000)/\iG T (l1.map (·.2))=SZ)
  ⟨_,_,_,⟨[],ba,0,rfl,rfl,rfl,rfl,hPr,hSZ⟩,Kb,bc _⟩ ?_
 clear hSZ;rintro kk ls H' ⟨pre,l1,T,ec,rfl,rfl,rfl,⟨hT1,DT⟩,hE⟩ j KD;have oo:pre.length<=2000000:=by have:=congrArg List.length ec;rw[Ga] at this;omega
 refine wh ?_;refine Oa (λhc=>?_) λhc=>?_
 ·have ma:=zt hc;rw[Mb,ec,Ga] at ma
  obtain⟨s,l2,rfl⟩:∃ a l2,l1=a::l2:=by
   cases l1 with
   |nil=>simp at ma
   |cons a l2=>exact⟨a,l2,rfl⟩
  obtain⟨bF,Ol⟩:=mM s (by rw[ec];exact mem_append_right _ Qe);rw[yd,iG] at hE;refine nP ?_;refine oS (Sd λb7=>?_);refine xa ?_;refine oB 72 rfl (λh1=>?_) λh1=>?_;rotate_left;have h2:s.2<=0:=by have:=zf h1;omega
  rw[zp h2] at hE;refine oS (sK (H1:=[]) (F:=_) [_,_,_] rfl dc (Ug false s.1 2 ea) (λh=>absurd h ea) λnm _ e' Na=>?_);refine Zd ?_;exact Dj (Na.trans (KD.trans (Uo.trans (Gc.trans hj)))) (by rw[<-KO,<-hE];rfl) ea;have h2:¬ s.2<=0:=by have:=zt h1;omega
  rw[zn h2] at hE;refine oS (sK (H1:=[]) (F:=_) [_,_,_] rfl dc (Ug true s.1 2 ea) (λ_=>?_) λnm h=>absurd rfl h);refine xa ?_;refine oB 80 rfl (λh3=>?_) λh3=>?_;rotate_left;have h4:150000-T<s.2:=by have:=zf h3;omega
  rw[zp h4] at hE;refine oS (sK (H1:=[]) (F:=_) [_,_,_] rfl dc (Ug false s.1 6 ea) (λh=>absurd h ea) λnm _ e' Na=>?_);refine Zd ?_;exact Dj (Na.trans (KD.trans (Uo.trans (Gc.trans hj)))) (by rw[<-KO,<-hE];rfl) ea;have h4:¬ 150000-T<s.2:=by have:=zt h3;omega
  rw[zn h4] at hE;refine oS (sK (H1:=[]) (F:=_) [_,_,_] rfl dc (Ug true s.1 6 ea) (λ_=>?_) λnm h=>absurd rfl h);refine wa ?_;exact⟨l2.length,_,_,lt_succ_self _,⟨pre++[s],l2,T+s.2,by rw[ec];simp,rfl,rfl,rfl,⟨by omega,by omega⟩,hE⟩,⟨rfl,rfl,rfl,rfl,rfl,qf (by simp),trivial⟩,Yg ob,KD⟩
 have ma:=zf hc;rw[Mb,ec,Ga] at ma;obtain rfl:l1=[]:=by
  cases l1 with
  |nil=>rfl
  |cons a l2=>simp at ma;omega
 have o8:SZ=0:=by rw[<-hE];rfl
 rw[o8] at KO;have EH:ej FS MN=E:=by rw[<-KO];rfl
 clear KO ma hc oo ec hE;have yO:(fs.map (·.name)).Nodup:=(On Y6).2.1;have Ft:j.ds=[]:=KD.trans (Uo.trans (Gc.trans hj));clear hj Gc Uo KD;refine xa ?_;refine oL (λkk ls H'=>∃ (pre l1:List yb) (known:List ye) (F1:KV) (g4:Nat) (nm:Nm) (o1:Value) (d1:Nat),fs=pre++l1/\kk=l1.length/\ls=[(0,ptr k.cb 0),(3,ptr b3 0),(90,.list (fs.map Eg)),(91,int .i64 ((fs.map Eg).length:Int)),(92,iv pre.length)] /\
   H'=(b3,.cells 71 [.list (vars.map str),.list (ba.map wc),.list (fs.map Eg)])::Hu { k with name:=nm,G:=G1,g1:=g1,V:=V1,g2:=g2,A:=A1,g3:=g3,F:=F1,g4:=g4 } o1 d1/\(∀ n,GL.wb F1 n=(known.find? λg=>decide (g.name=n)).map xK)/\known.map (·.name)=pre.map (·.name) /\
   cu vars (ba.map (·.1)) (fs.map (·.name)) known l1=FS/\yC vars (ba.map (·.1)) (fs.map (·.name)) known l1=SS/\nu (8 * ze pre) pre.length known)
  ⟨_,_,_,⟨[],fs,[],k.F,k.g4,k.name,o,d,rfl,rfl,rfl,rfl,λn=>by rw[wH];rfl,rfl,hFS,hSS,λx hx=>(not_mem_nil hx).elim⟩,Kb,bc _⟩ ?_
 rintro kk ls H' ⟨pre,l1,known,F1,g4,nm,o1,d1,ec,rfl,rfl,rfl,hF,gF,hE,hS,hB⟩ j2 Gc;have oo:pre.length<=2000000:=by have:=congrArg List.length ec;rw[Ga] at this;omega
 refine wh ?_;refine Oa (λhc=>?_) λhc=>?_
 ·have ma:=zt hc;rw[Mb,ec,Ga] at ma
  obtain⟨s,l2,rfl⟩:∃ a l2,l1=a::l2:=by
   cases l1 with
   |nil=>simp at ma
   |cons a l2=>exact⟨a,l2,rfl⟩
  have ae:ze pre+Dr s<=2000000:=by have:=Bh;rw[ec,F4,ze] at this;omega
  have qm:s.name ∉ known.map (·.name):=by rw[gF];have:=yO;rw[ec,Te,yd] at this;intro hm;exact(On this).2.2 _ hm _ Qe rfl
  rw[cu] at hE;rw[yC] at hS;refine Zi ?_;refine qa (xR (Ud:=Eg s) (cs:=[_,_,_,_]) rfl rfl zo (by rw[ec];exact de Eg pre s l2) rfl rfl)<|Ra ?_;refine oS (Sd λb7=>?_);refine xa ?_;refine oS (S.Qc (F:=[_,_]) [_,_] rfl (Lh (l₁:=[_,_])) (qmx (vars:=vars) (ba:=ba.map (·.1)) (later:=fs.map (·.name)) (known:=known) (k:={ k with name:=nm,G:=G1,g1:=g1,V:=V1,g2:=g2,A:=A1,g3:=g3,F:=F1,g4:=g4 }) (o:=o1) (d:=d1) s JA hV1 OT hF qm hB zo zo zo) (λH2 h0 hP=>?_) λnm h0 e' Na=>?_);rotate_left;refine Zd ?_;exact Dj (Na.trans (Gc.trans Ft)) (by rw[<-EH,<-hE,dN (a:=ej _ _) (by rw[dN h0];exact h0),dN h0]) h0;obtain⟨nm',o',d',F',g4',hF',rfl⟩:=hP;refine Ea.perm (Lh (l₂:=[_,_])) ?_;refine zm ?_;refine⟨l2.length,_,_,lt_succ_self _,⟨pre++[s],l2,known++[Aj vars (ba.map (·.1)) (fs.map (·.name)) known s],F',g4',nm',o',d',by rw[ec];simp,rfl,rfl,rfl,hF',?_,by rw[<-hE,h0];rfl,hS,?_⟩,⟨rfl,rfl,rfl,rfl,qf (by simp),trivial⟩,Yg ob,Gc⟩;rw[Te,Te,gF];rfl;have h1:=qy7 (vars:=vars) (ba:=ba.map (·.1)) (later:=fs.map (·.name)) (f:=s) hB;have h2:ze (pre++[s])=ze pre+Dr s:=by rw[F4,ze,ze];rfl
  intro g hg;rw[h2,Ga,List.length_singleton];rcases xj hg with hg|hg;obtain⟨a1,a2,a3⟩:=hB g hg;exact⟨by omega,by omega,by omega⟩;obtain rfl:=aj hg;obtain⟨a1,a2,a3⟩:=h1;exact⟨by omega,by omega,by omega⟩
 have ma:=zf hc;rw[Mb,ec,Ga] at ma;obtain rfl:l1=[]:=by
  cases l1 with
  |nil=>rfl
  |cons a l2=>simp at ma;omega
 have HT:FS=0:=by rw[<-hE];rfl
 have B7:known=SS:=by rw[<-hS];rfl
 rw[HT] at EH;have qM:MN=E:=by rw[<-EH];rfl
 clear ma hc oo ec hE;subst B7;have Tf:=qlj fs [] (hFS.trans HT);have qH:∀ f∈fs,f.name.length<=1000/\∀ x∈f.params++f.locals,x.length<=1000:=λf hf=>by obtain⟨kk,hk⟩:=Tf f hf;exact⟨qlG (GS f.name (mem_append_right _ (mem_map_of_mem hf))),qsm hk⟩
 have kx:∀ f∈fs,tU f:=λf hf=>LY (Xf (fW hf) Bh);have Gx:=Gc.trans Ft;unfold cQ at Qr;refine xa ?_
 cases yl:fs.getLast? with
 |none=>
  have hf0:fs=[]:=List.getLast?_eq_none_iff.1 yl;rw[yl] at Qr;refine oB 105 rfl (λh=>absurd (zt h) (by rw[hf0];decide)) λ_=>?_;refine Aa ?_;refine oS (sK (H1:=[]) (F:=_) [_,_,_] rfl dc (Ug false [109,97,105,110] 9 ea) (λh=>absurd h ea) λnm _ e' Na=>?_);refine Yi ?_
  exact Dj (Na.trans Gx) (qM.symm.trans Qr.symm) ea
 |some f=>
  obtain⟨ys,V5⟩:=List.getLast?_eq_some_iff.1 yl;have z7:(fs.map Eg).length=ys.length+1:=by rw[Mb,V5,Ga];rfl
  have CX:(fs.map Eg).length<=2000000:=by rw[Mb];exact dM
  have Zu:(0:Int)<=((fs.map Eg).length:Int)-1:=by omega
  have lq:(fs.map Eg)[(((fs.map Eg).length:Int)-1).toNat]? = some (Eg f):=by rw[show(((fs.map Eg).length:Int)-1).toNat=ys.length by omega,V5,Te];rw[List.getElem?_append_right (by rw[Mb];exact Pb _),Mb,Nat.sub_self];rfl
  have rH:known.map (·.name)=fs.map (·.name):=by rw[<-hSS,qj0];rfl
  obtain⟨m,hm⟩:∃ m,known.getLast? = some m:=by
   cases hx:known.getLast? with
   |some m=>exact⟨m,rfl⟩
   |none=>rw[List.getLast?_eq_none_iff.1 hx,V5] at rH;simp at rH
  have q7:m.name=f.name:=by have h1:=congrArg List.getLast? rH;rw[List.getLast?_map,List.getLast?_map,hm,yl] at h1;exact Option.some.inj h1
  have eT:=qtQ (by rw[rH];exact yO) hm;rw[yl,hm] at Qr;replace Qr:(if f.name=[109,97,105,110]/\f.params=[] then (if (je vars fs).length<=8000/\m.need<=200/\m.depth<=60 then 0 else 6) else 9)=MN:=Qr
  rw[qM] at Qr;refine oB 105 rfl (λ_=>?_) (λh=>absurd (show((fs.map Eg).length:Int) > 0 by omega) (zf h));refine Ra ?_
  first|refine Ea.want rfl rfl ?_|skip
  refine tP ?_;refine oB 115 rfl (λh1=>?_) λh1=>?_;rotate_left;rw[zn (λh=>zf h1 h.1)] at Qr;refine Aa ?_;refine oS (sK (H1:=[]) (F:=_) [_,_,_] rfl dc (Ug false [109,97,105,110] 9 ea) (λh=>absurd h ea) λnm _ e' Na=>?_);refine Yi ?_;exact Dj (Na.trans Gx) Qr.symm ea;have oJ:f.name=[109,97,105,110]:=zt h1;refine Ra ?_
  first|refine Ea.want rfl rfl ?_|skip
  refine tP ?_;refine oB 125 rfl (λh2=>?_) λh2=>?_;rotate_left;rw[zn (λh=>zf h2 (by rw[h.2];rfl))] at Qr;refine oS (sK (H1:=[]) (F:=_) [_,_,_] rfl dc (Ug false [109,97,105,110] 9 ea) (λh=>absurd h ea) λnm _ e' Na=>?_);refine Yi ?_;exact Dj (Na.trans Gx) Qr.symm ea
  have BA:f.params=[]:=by have h3:=zt h2;rw[Mb] at h3;exact List.length_eq_zero_iff.1 zo
  rw[zp ⟨oJ,BA⟩] at Qr;refine oS (sK (H1:=[]) (F:=_) [_,_,_] rfl dc (Ug true [109,97,105,110] 9 ea) (λ_=>?_) λnm h=>absurd rfl h)
  have hgF:GL.wb F1 [109,97,105,110]=some (xK m):=by rw[hF,<-oJ,<-q7,eT];rfl
  refine xa ?_;refine qa (Pure.ZI rfl rfl zU hgF)<|oS (Sd λb16=>?_);refine xa ?_;refine oS (sF [_] rfl (ji (.list (ba.map wc)) qD dM kx qH) ?_);refine Ra ?_;refine oB 136 rfl (λh3=>?_) λh3=>?_;rotate_left;have nq:¬ ((je vars fs).length<=8000/\m.need<=200/\m.depth<=60):=λh=>zf h3 (by rw[Mb];have:=h.1;omega);rw[zn nq] at Qr;refine Aa ?_;refine oS (sK (H1:=[]) (F:=_) [_,_,_] rfl dc (Ug false [109,97,105,110] 6 ea) (λh=>absurd h ea) λnm _ e' Na=>?_);exact Dj (Na.trans Gx) Qr.symm ea
  have Nt:(je vars fs).length<=8000:=by have:=zt h3;rw[Mb] at this;omega
  refine Ra ?_;refine oB 141 rfl (λh4=>?_) λh4=>?_;rotate_left;have nq:¬ ((je vars fs).length<=8000/\m.need<=200/\m.depth<=60):=λh=>zf h4 (by have:=h.2.1;omega);rw[zn nq] at Qr;refine Aa ?_;refine oS (sK (H1:=[]) (F:=_) [_,_,_] rfl dc (Ug false [109,97,105,110] 6 ea) (λh=>absurd h ea) λnm _ e' Na=>?_);exact Dj (Na.trans Gx) Qr.symm ea
  have FH:m.need<=200:=by have:=zt h4;omega
  refine Ra ?_;refine oB 145 rfl (λh5=>?_) λh5=>?_;rotate_left;have nq:¬ ((je vars fs).length<=8000/\m.need<=200/\m.depth<=60):=λh=>zf h5 (by have:=h.2.2;omega);rw[zn nq] at Qr;refine oS (sK (H1:=[]) (F:=_) [_,_,_] rfl dc (Ug false [109,97,105,110] 6 ea) (λh=>absurd h ea) λnm _ e' Na=>?_);exact Dj (Na.trans Gx) Qr.symm ea
  have h5':m.depth<=60:=by have:=zt h5;omega
  rw[zp ⟨Nt,FH,h5'⟩] at Qr;refine oS (sK (H1:=[]) (F:=_) [_,_,_] rfl dc (Ug true [109,97,105,110] 6 ea) (λ_=>?_) λnm h=>absurd rfl h);refine Ad ?_;exact Y4 Gx rN Qr.symm rfl sd rfl
section
variable{C:Ctx}{e:Env}{H:Heap}{dst:Option Nat}{ty:TypeId}{ra:String}{ua:Array Edge}{g:Option (Nat×Bool)}{x:Operand}
theorem Pure.Yr{t xT:TypeId} [ht:ef C.P t]{zs:List Value}(hz:∀ w,(zeroValue t).run C.P w=.ok (.agg zs.toArray) w)(hx:e.ev x=.atom .nilIface):Go.GL.Pure C ⟨dst,.typeAssert x xT t true,ty,ra,ua,g⟩ e H (.tuple [.agg (zs.map .atom),bool false]):=
 .Xa λρ w L h=>⟨.tuple #[.agg zs.toArray,.bool false],by
  simp only[Fb];exact⟨[.agg zs.toArray,.bool false],rfl,by simp only[oa,Fb];exact⟨_,_,rfl,⟨zs,rfl,Ys zs⟩,_,_,rfl,rfl,rfl⟩⟩,λw'=>by
  obtain⟨d,hd,hm⟩:=ht.out;have h3:execOp ρ ⟨dst,.typeAssert x xT t true,ty,ra,ua,g⟩=(do Pure.pure (.value (<-Instr.typeAssert (ρ x) xT t true))):=rfl;rw[h3,nc h hx];simp only[Instr.typeAssert,Lc,Fe hd,jd];cases d <;> simp_all [Lc]⟩
end
theorem qw1(w:World):(zeroValue 114).run Tryz.prog w=.ok (.agg [.string ⟨#[]⟩,.int .i64 0].toArray) w:=
 (Go.zero_of_info (P:=Tryz.prog) (n:=2) zk).1 w
attribute [local irreducible] Cj Kg Gw Ko
theorem qwW(b2 b3:Nat)(c d:LV):Ko (KC B0 w0) 47 [ptr b2 0,ptr b3 0] .returning [(b2,.cells 9 [c]),(b3,.cells 30 [d])]
  (λu H=>u=.returning/\H=[(b2,.cells 9 [c]),(b3,.cells 30 [d])]):=by
 refine Ko.intro Tryz.func47 rfl (n:=19) rfl rfl rfl ?_;refine xz ?_;refine Yd ?_;refine qa (Pure.Yr qw1 rfl)<|Ra ?_;refine oS (Sd λb5=>?_);refine xa ?_;refine Oa (λhc=>?_) λhc=>?_;cases hc;refine xa ?_;refine Oa (λhc=>?_) λhc=>?_;cases hc;refine Aa ?_;exact⟨rfl,_,Yg ob,rfl,rfl⟩
theorem qwh(b2 b3:Nat)(c d:LV)(nm:List UInt8)(er:Int):Ko (KC B0 w0) 47 [ptr b2 0,ptr b3 0] (.panicking (SF nm er)) [(b2,.cells 9 [c]),(b3,.cells 30 [d])]
  (λu H=>settle u=.returning/\H=[(b2,.cells 9 [str nm]),(b3,.cells 30 [int .i64 er])]):=by
 refine Ko.intro Tryz.func47 rfl (n:=19) rfl rfl rfl ?_;refine xz ?_;refine Yd ?_;refine qa (Pure.tq (vs:=[.string ⟨nm.toArray⟩,.int .i64 er]) rfl)<|Ra ?_;refine oS (Sd λb5=>?_);refine xa ?_;refine Oa (λhc=>?_) λhc=>?_
 ·skip
  refine cD (m:=6) rfl [(b5,.cells 114 [str nm,int .i64 er])]<|aT 0 rfl rfl (pF rfl)<|aT 1 rfl rfl (pL (c:=.atom _) rfl xc rfl)<|aT 2 rfl rfl (pF rfl)<|aT 3 rfl rfl (pL (c:=.atom _) rfl xc rfl)<|aL ?_ Gd;refine lO 4 (lS (H1:=[(b2,.cells 9 [c])]) (F:=[(b5,.cells 114 [str nm,int .i64 er]),(b3,.cells 30 [d])]) rfl (.inl rfl) rfl Vd Gd (sS (Zb:=[_]) rfl pH rfl rfl rfl rfl rfl ?_));refine lO 5 (lS (H1:=[(b3,.cells 30 [d])]) (F:=[(b2,.cells 9 [str nm]),(b5,.cells 114 [str nm,int .i64 er])]) rfl (.inl rfl) rfl Hl (Fc Vd sd) (sS (Zb:=[_]) rfl pH rfl rfl rfl rfl rfl ?_));refine lD zk ?_;exact⟨rfl,_,Fc Vd Gd,rfl,rfl⟩
 cases hc
theorem fg(vars:List Nm)(ba:List (Nm×Int))(fs:List yb)(qD:vars.length<=2000000)(FO:ba.length<=2000000)(mM:∀ a∈ba,-9223372036854775808<=a.2/\a.2<9223372036854775808)(Bh:ze fs<=2000000) :
  ca (KC B0 w0) 27 [Fh vars ba fs] [] (λr H=>H=[]/\∃ nm,r=.ret (.tuple [str nm,int .i64 (Ws vars ba fs)])):=by
 generalize hE:Ws vars ba fs=E;refine ca.dx Tryz.func27 rfl (n:=15) rfl rfl rfl ?_;refine Bo ?_;refine Xe ?_;refine oS (sB rfl λb1=>oS (Sd λb2=>?_));refine oS (Sd λb3=>?_);refine Ad ?_;refine sw ?_;refine Cj.defer rfl rfl ?_;refine Es ?_;refine Bo ?_;refine Xe ?_;refine oS (S.im λgm=>oS (S.im λvm=>?_));refine oS (S.im λam=>oS (S.im λfm=>?_));refine Ra ?_;refine oS (sB rfl λcb=>?_);refine Ea.Yb (H':=Hu ⟨cb,gm,vm,am,fm,0,[],[],[],[],[],0,0,0,0,0,[]⟩ (.map none) 0++[(b3,.cells 30 [int .i64 0]),(b2,.cells 9 [str []]),(b1,.cells 71 [.list (vars.map str),.list (ba.map wc),.list (fs.map Eg)])]) ?_ ?_
 ·repeat first
   |exact HSub.nil _
   |refine Fc PJ ?_
 refine Ad ?_;refine sw ?_;refine Cj.step (S.Qc (F:=[_,_,_]) [_,_] rfl dc (XK (k:=⟨cb,gm,vm,am,fm,0,[],[],[],[],[],0,0,0,0,0,[]⟩) (o:=.map none) (d:=0) vars ba fs rfl rfl rfl rfl qD FO mM Bh) (λH2 h0 hP=>?_) λnm h0=>?_) rfl
 ·subst hP;rw[hE] at h0;subst h0;refine Es ?_;refine Kg.seq (Kg.region ?_);refine Cj.step (sS (Zb:=[_]) rfl Vd rfl rfl rfl rfl rfl ?_) rfl;refine Cj.step (sS (Zb:=[_]) rfl Vd rfl rfl rfl rfl rfl ?_) rfl;refine Es ?_;refine Kg.ret ?_
  exact Jw.Ek (vs:=[str [],int .i64 0]) (H1:=[(b2,.cells 9 [str []]),(b3,.cells 30 [int .i64 0])]) (F:=[_]) (H2:=[(b2,.cells 9 [str []]),(b3,.cells 30 [int .i64 0])]) rfl (yq _ _ _) (qwW b2 b3 _ _)
   (rC (pn.Ic rfl xc rfl ie) (rC (pn.Ic rfl Xh rfl ie) rN)) sd ⟨rfl,[],rfl⟩
 rw[hE] at h0 ⊢;refine Ie.panic ?_;exact Jw.Zs (vs:=[str nm,int .i64 E]) (H1:=[(b2,.cells 9 [str []]),(b3,.cells 30 [int .i64 0])]) (F:=[_]) (H2:=[(b2,.cells 9 [str nm]),(b3,.cells 30 [int .i64 E])]) rfl (yq _ _ _) (qwh b2 b3 _ _ nm E)
  (rC (pn.Ic rfl xc rfl ie) (rC (pn.Ic rfl Xh rfl ie) rN)) sd ⟨rfl,nm,rfl⟩
