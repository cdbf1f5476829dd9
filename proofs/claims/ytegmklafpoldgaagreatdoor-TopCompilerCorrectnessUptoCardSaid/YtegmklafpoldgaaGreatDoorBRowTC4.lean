import Derived.Lib.SplitLaws
import Derived.Shelf.Strings.SlTrimAscii
import Derived.Test.YtegmklafpoldgaaGreatDoorBRowTC3
set_option linter.unusedVariables false
set_option linter.unusedSimpArgs false
set_option maxRecDepth 100000
set_option maxHeartbeats 4000000
open Go.GL (zk)
open List (mem_append_right mem_map_of_mem not_mem_nil nil_append cons_append map_map all_reverse length_drop take_length getElem_mem drop_length drop_eq_getElem_cons foldl_cons)
open Nat (max_zero lt_succ_self sub_self zero_le)
open Option (none_or getD_some)
namespace Go.Proofs.YtegmklafpoldgaaGreatDoor.Chk
open Go.GL Go.RowKit Go.Stele
variable{A B:Heap}{d:Nat}{els thn:List Sm}{err:Int}{index value:List Ex}{name:List UInt8}{o:Value}{s:Nm}
@[reducible] def iv(n:Nat):LV:=int .i64 (n:Int)
attribute [local irreducible] LOps qah qae LCalls Go.GL.Pure qaw qam qad LQ LAny qay qal LS
section
variable{B0:Nat}{w0:World}
theorem qi7{k:KB}{c:CEnv}(hk:KBok k c){B D:Nat}(hB:KnB B D c.funcs)(hB8:B<=100000000)(hD8:D<=100000000)(d:Nat)(hd:d<=1000000000)(name:List UInt8)(ns:List Nat)(hl:ns.length<=2000000)(hns:∀ n∈ns,n<=1000000000) :
  LCalls (KC B0 w0) 236 [ptr k.cb 0,str name,.list (ns.map iv)] (ckH k d) (qh6 (callE c name ns.length) (iv (qiO c name ns)) (ckH k (max d (qgl c qch name)))):=by
 generalize hI:callE c name ns.length=E;generalize hN:qiO c name ns=N;generalize hDD:qgl c qch name=DD;unfold callE at hI;unfold qiO at hN;unfold qgl at hDD;have hll:(ns.map iv).length=ns.length:=zLm _;refine cJ Tryz.func236 (n:=110) ?_;refine gaa ?_
 by_cases hin:name=[105,110]
 rw[zp hin] at hI hN;rw[zn (λh=>h.2.1 hin)] at hDD;subst hDD;refine oC rfl (λ_=>?_) (λhc=>absurd hin (zf hc));refine gaa ?_;refine oS (sK (H1:=[]) (F:=ckH k d) [_,_,_] rfl zpr (qav (decide (((ns.map iv).length:Int)=0)) name 1 zDd) (λh=>?_) (λnm h e' he'=>?_)) rfl
 have h0:ns.length=0:=by
  by_cases h1:((ns.map iv).length:Int)=0
  omega;rw[decide_eq_false h1] at h;cases h
 refine gaa ?_;exact retK rfl (zra rfl) (by rw[<-hI,zp h0]) (by rw[<-hN];rfl) (by rw[max_zero];exact zhR _)
 have h0:¬ ns.length=0:=by
  intro h1;rw[zRp (show((ns.map iv).length:Int)=0 by omega)] at h;exact h rfl
 rw[show(if decide (((ns.map iv).length:Int)=0)=true then (0:Int) else 1)=1 by rw[zn];simp only[zDe];omega];refine gae ?_;exact panK (he'.trans rfl) (by rw[<-hI,zn h0]) zDd;rw[zn hin] at hI hN;refine oC rfl (λhc=>absurd (zt hc) hin) (λ_=>?_);refine gaa ?_
 by_cases hout:name=[111,117,116]
 rw[zp hout] at hI hN;rw[zn (λh=>h.2.2 hout)] at hDD;subst hDD;refine oC rfl (λ_=>?_) (λhc=>absurd hout (zf hc));refine gaa ?_;refine oS (sK (H1:=[]) (F:=ckH k d) [_,_,_] rfl zpr (qav (decide (((ns.map iv).length:Int)=1)) name 1 zDd) (λh=>?_) (λnm h e' he'=>?_)) rfl
 have h0:ns.length=1:=by
  by_cases h1:((ns.map iv).length:Int)=1
  omega;rw[decide_eq_false h1] at h;cases h
 obtain⟨a,l,rfl⟩:∃ a l,ns=a::l:=by
  cases ns with
  |nil=>simp at h0
  |cons a l=>exact⟨a,l,rfl⟩
 refine gaa ?_;refine oP (xR (el':=iv a) (cs:=[iv a]) rfl rfl zo rfl rfl rfl) rfl<|gad ?_;exact retK rfl (zra rfl) (by rw[<-hI,zp h0]) (by rw[<-hN];rfl) (by rw[max_zero];exact zhR _)
 have h0:¬ ns.length=1:=by
  intro h1;rw[zRp (show((ns.map iv).length:Int)=1 by omega)] at h;exact h rfl
 rw[show(if decide (((ns.map iv).length:Int)=1)=true then (0:Int) else 1)=1 by rw[zn];simp only[zDe];omega];refine gae ?_;exact panK (he'.trans rfl) (by rw[<-hI,zn h0]) zDd;rw[zn hout] at hI hN;rw[zp ⟨rfl,hin,hout⟩] at hDD;refine oC rfl (λhc=>absurd (zt hc) hout) (λ_=>?_);refine gaa ?_;have hF:=hk.F name
 cases hfn:c.fn name with
 |none=>
  rw[hfn] at hI hF;refine oP (Pure.kvMiss2 rfl rfl zm4 hF) rfl<|gad ?_;refine oS (sA λb7=>?_) rfl;refine gac ?_;refine oP (Pure.setHas rfl rfl zm3 hk.V) rfl<|oB 46 rfl (λh2=>?_) (λh2=>?_);have hbad:name∈c.vars∨name∈c.arrays∨name∈c.own:=.inl (zt h2);refine gad ?_;refine oS (sK (H1:=[]) (F:=_::ckH k d) [_,_,_] rfl zpr (qav false name 10 zDd) (λh=>absurd h zDd) (λnm _ e' he'=>?_)) rfl;refine gak ?_;exact panK (he'.trans rfl) (by rw[<-hI];exact zp hbad) zDd;refine gad ?_;refine oP (Pure.setHas rfl rfl zm4 hk.A) rfl<|oB 54 rfl (λh3=>?_) (λh3=>?_);have hbad:name∈c.vars∨name∈c.arrays∨name∈c.own:=.inr (.inl (zt h3));refine gad ?_;refine oS (sK (H1:=[]) (F:=_::ckH k d) [_,_,_] rfl zpr (qav false name 10 zDd) (λh=>absurd h zDd) (λnm _ e' he'=>?_)) rfl;refine gak ?_;exact panK (he'.trans rfl) (by rw[<-hI];exact zp hbad) zDd;refine gad ?_;refine oP (Pure.setHas rfl rfl zm6 hk.O) rfl<|oB 63 rfl (λh4=>?_) (λh4=>?_);have hbad:name∈c.vars∨name∈c.arrays∨name∈c.own:=.inr (.inr (zt h4));refine gad ?_;refine oS (sK (H1:=[]) (F:=_::ckH k d) [_,_,_] rfl zpr (qav false name 10 zDd) (λh=>absurd h zDd) (λnm _ e' he'=>?_)) rfl;refine gak ?_;exact panK (he'.trans rfl) (by rw[<-hI];exact zp hbad) zDd;refine gad ?_;refine oS (sK (H1:=[]) (F:=_::ckH k d) [_,_,_] rfl zpr (qav true name 10 zDd) (λ_=>?_) (λnm h=>absurd rfl h)) rfl;refine gag ?_;refine oS (sK (H1:=[]) (F:=_::ckH k d) [_,_,_] rfl zpr (qav false name 7 zDd) (λh=>absurd h zDd) (λnm _ e' he'=>?_)) rfl;refine gak ?_
  exact panK (he'.trans rfl) (by rw[<-hI];exact zn (λh=>h.elim (zf h2) (λh=>h.elim (zf h3) (zf h4)))) zDd
 |some f=>
  rw[hfn] at hI hF hN hDD;have hkb:=hB f (List.mem_of_find?_eq_some hfn);refine oP (Pure.kvHit2 rfl rfl zm4 hF) rfl<|gad ?_;refine oS (sA λb7=>?_) rfl;refine gac ?_;refine oS (sK (H1:=[]) (F:=_::ckH k d) [_,_,_] rfl zpr (qav true name 10 zDd) (λ_=>?_) (λnm h=>absurd rfl h)) rfl;refine gag ?_;refine oS (sK (H1:=[]) (F:=_::ckH k d) [_,_,_] rfl zpr (qav true name 7 zDd) (λ_=>?_) (λnm h=>absurd rfl h)) rfl;refine gaa ?_
  by_cases h0:ns.length=f.params
  rotate_left;have h0':¬ ((ns.map iv).length:Int)=(f.params:Int):=by omega
  refine oB 76 rfl (λh=>absurd (zt h) h0') (λ_=>?_);refine oS (sK (H1:=[]) (F:=_::ckH k d) [_,_,_] rfl zpr (qav false name 1 zDd) (λh=>absurd h zDd) (λnm _ e' he'=>?_)) rfl;refine gak ?_;exact panK (he'.trans rfl) (by rw[<-hI];exact zn h0) zDd;have h0':((ns.map iv).length:Int)=(f.params:Int):=by omega
  refine oB 76 rfl (λ_=>?_) (λh=>absurd h0' (zf h));have hI0:E=0:=by rw[<-hI];exact zp h0
  refine oS (sK (H1:=[]) (F:=_::ckH k d) [_,_,_] rfl zpr (qav true name 1 zDd) (λ_=>?_) (λnm h=>absurd rfl h)) rfl;refine gab ?_;refine cD (m:=12) rfl [(b7,.cells 176 [iv f.params,iv f.need,iv f.depth])]<|zQ53 ?_;refine aT 7 rfl rfl (Pure.add rfl rfl zo)<|aL ?_ zhp;refine lO 4 (lH rfl rfl (pL (c:=iv d) rfl zm1 rfl) ?_);refine lO 8 (lH rfl rfl (Pure.max2e d (f.depth+1) rfl rfl zo zo) ?_);refine lO 9 (lH rfl rfl (pN rfl) ?_);refine lO 10 (lH rfl rfl (pF rfl) ?_);refine lO 11 (lS (H1:=[(k.cb,.cells 105 [.atom (.map (some k.gm)),.atom (.map (some k.vm)),.atom (.map (some k.am)),.atom (.map (some k.fm)),str k.name,.atom (.map (some k.om)),int .i64 (d:Int)])]) rfl (.inl rfl) rfl (show Pick _ _ _ from pT pH) zhp (sS (n:=1) (cs':=[_,_,_,_,_,_,iv (max d (f.depth+1))]) rfl pH rfl rfl rfl rfl rfl ?_));refine lD zk ?_;have hdd:max d DD=max d (f.depth+1):=by rw[<-hDD]
  rw[hdd];refine qN ?_;refine qah.perm (H':=(b7,.cells 176 [iv f.params,iv f.need,iv f.depth])::ckH k (max d (f.depth+1))) (zRr _ _ _) ?_;refine gaa ?_;refine oP (Pure.max2e (f.params+1) f.need rfl rfl zo zo) rfl<|gaa ?_
  refine oL (λkk ls H'=>∃ (pre l1:List Nat) (m:Nat),ns=pre++l1/\kk=l1.length/\ls=[(9,iv m),(96,.list (ns.map iv)),(97,int .i64 ((ns.map iv).length:Int)),(98,iv pre.length)]/\H'=ckH k (max d (f.depth+1))/\qhM pre.length l1 m=N)
   ⟨ns.length,_,_,⟨[],ns,max (f.params+1) f.need,rfl,rfl,rfl,rfl,hN⟩,⟨rfl,rfl,rfl,rfl,trivial⟩,zhD zhr⟩ ?_
  rintro kk ls H' ⟨pre,l1,m,hLe,rfl,rfl,rfl,hS⟩ j hj
  have hb2:pre.length<=2000000:=by
   rw[hLe,zLa] at hl;omega
  refine gaj ?_;refine oC rfl (λhc=>?_) (λhc=>?_);have hlen:=zt hc;rw[zLm,hLe,zLa] at hlen
  obtain⟨a,l2,rfl⟩:∃ a l2,l1=a::l2:=by
   cases l1 with
   |nil=>simp at hlen
   |cons a l2=>exact⟨a,l2,rfl⟩
  have ha:a<=1000000000:=hns a (by rw[hLe];exact mem_append_right _ zMs);rw[qhM] at hS;refine gaa ?_;refine oP (xR (el':=iv a) (cs:=[iv a]) rfl rfl zo (by rw[hLe];exact get_mid iv pre a l2) rfl rfl) rfl<|gac ?_;refine oP (Pure.max2e m (pre.length+a) rfl rfl zo zo) rfl<|gaa ?_;exact⟨l2.length,_,_,lt_succ_self _,⟨pre++[a],l2,max m (pre.length+a),by rw[hLe];simp,rfl,rfl,rfl,by rw[zLa];exact hS⟩,⟨rfl,rfl,rfl,qao (by simp),trivial⟩,zhR _,hj⟩;have hlen:=zf hc;rw[zLm,hLe,zLa] at hlen
  obtain rfl:l1=[]:=by
   cases l1 with
   |nil=>rfl
   |cons a l2=>simp at hlen;omega
  rw[qhM] at hS;refine gaa ?_;exact retK hj (zra rfl) hI0 (by rw[<-hS];rfl) zhr
end
theorem qpQ{x y:Nat×LObj}:List.Perm (x::y::(A++B)) (A++(x::y::B)):=by
 have h:List.Perm (([x,y]++A)++B) ((A++[x,y])++B):=zPc.append_right B;rw[zAs A] at h;exact h
theorem qjg{x:Nat×LObj}:List.Perm (x::(A++B)) (A++(x::B)):=by
 have h:List.Perm (([x]++A)++B) ((A++[x])++B):=zPc.append_right B;rw[zAs A] at h;exact h
theorem qwZ{x y:Nat×LObj}:List.Perm (A++(x::y::B)) (B++(x::y::A)):=by
 refine qpQ.symm.trans ?_;exact(zPc (l₁:=x::y::A) (l₂:=B))
theorem qxg(n:Nat):∀ v∈[iv n],v.cells.length=1:=λv hv=>by rw[zRa hv];rfl
theorem qh3(c:CEnv):∀ l:List Ex,(qaZ c l).length=l.length
 |[]=>rfl
 |x::l=>by rw[qaZ,zLc,zLc,qh3 c l]
theorem qk4(c:CEnv)(x:Ex):∀ l:List Ex,qaZ c (l++[x])=qaZ c l++[qbg c x]
 |[]=>rfl
 |y::l=>by
  show qaZ c (y::(l++[x]))=_;rw[qaZ,qk4 c x l,qaZ];rfl
theorem qnt(c:CEnv)(x:Ex):∀ l:List Ex,qb2 c (l++[x])=max (qb2 c l) (depE c x)
 |[]=>by
  show max (depE c x) 0=max 0 (depE c x)
  omega
 |y::l=>by
  show qb2 c (y::(l++[x]))=_;rw[qb2,qnt c x l,qb2,Nat.max_assoc]
theorem qkN{c:CEnv}{B D:Nat}(hB:KnB B D c.funcs):∀ {l:List Ex} {n:Nat},n∈qaZ c l->n<=4 * ndEs l+B
 |[],n,h=>by rw[qaZ] at h;cases h
 |x::l,n,h=>by
  rw[qaZ] at h;rw[ndEs];rcases zMi.1 h with rfl|h;have:=qgb B D c hB x;omega;have:=qkN hB h;omega
section
variable{B0:Nat}{w0:World}
def qxA(B0:Nat)(w0:World)(k:KB)(c:CEnv)(n:Nat):Prop:=∀ (x:Ex) (d:Nat),ndE x<=n->d<=200000000->LCalls (KC B0 w0) 213 [ptr k.cb 0,encE x] (ckH k d) (qh6 (errE c x) (iv (qbg c x)) (ckH k (max d (depE c x))))
theorem qd8{k:KB}{c:CEnv}(hk:KBok k c){B D:Nat}(hB:KnB B D c.funcs)(hB8:B<=100000000)(hD8:D<=100000000):∀ n:Nat,n<=2000000->qxA B0 w0 k c n
 |0,_=>λx d h _=>by have:=qlJ x;omega
 |n+1,hn6=>by
  have ih:=qd8 hk hB hB8 hD8 n zo;intro x d hnd hd;obtain⟨op,num,name,args⟩:=x;rw[ndE] at hnd;have hal:=qdF args;have hall:(args.map encE).length=args.length:=zLm _;generalize hI:errE c (Ex.mk op num name args)=E;rw[errE] at hI;rw[qbg,depE];rw[qcH];refine cJ Tryz.func213 (n:=121) ?_;refine gai ?_;refine oS (sB rfl λb3=>?_) rfl;refine gaa ?_;refine oS (sF [_] rfl (qlN op) ?_) rfl;refine gab ?_;refine cM (A:=Unit) (λ_=>[(0,ptr k.cb 0),(3,ptr b3 0)]) (λ_=>(b3,.cells 170 [str op,int .u32 (num:Int),str name,.list (args.map encE)])::ckH k d) (λ_=>qbk op = -1∨qbk op=args.length) ?_ (λ_ hop j hj=>?_);refine cD (m:=14) rfl [(b3,.cells 170 [str op,int .u32 (num:Int),str name,.list (args.map encE)]),(k.cb,.cells 105 [.atom (.map (some k.gm)),.atom (.map (some k.vm)),.atom (.map (some k.am)),.atom (.map (some k.fm)),str k.name,.atom (.map (some k.om)),int .i64 (d:Int)])]<|aT 0 rfl rfl (pM (lv:=.atom _) rfl) ?_
  by_cases h1:qbk op = -1
  refine LAny.take (i:=1) (zhP pH zhp) rfl zk zk zk rfl (Pure.eqlT h1 rfl rfl)<|zQ40 ?_;refine zQ38 ?_;refine LAny.takeSkip (i:=7) rfl rfl rfl rfl zk zk zk rfl<|aT 8 rfl rfl (Pure.pickT (lv:=.atom _) rfl rfl)<|zQ20 ?_;refine lO 13 (lS (H1:=[]) rfl (.inl rfl) rfl zpr (zhP pH zhp) (qae.callK [_,_,_] rfl (qav true k.name 3 zDd) (λ_=>?_) (λnm h=>absurd rfl h)));refine zQ80 ?_;exact⟨(),.inl h1,⟨rfl,rfl,trivial⟩,zhR _,rfl⟩;refine LAny.take (i:=1) (zhP pH zhp) rfl zk zk zk rfl (Pure.eqlF h1 rfl rfl)<|zQ40 ?_;refine LAny.tkW 3 rfl rfl rfl rfl (pM (lv:=.atom _) rfl)<|LAny.tkW 4 rfl rfl rfl rfl (pF rfl)<|LAny.tkW 5 rfl rfl rfl rfl (pL (c:=.list _) rfl zm0 rfl)<|LAny.tkW 6 rfl rfl rfl rfl (Pure.llen rfl) ?_
  by_cases h2:qbk op=args.length
  refine LAny.takeWant (i:=7) (zhP pH zhp) rfl rfl rfl zk zk zk rfl (Pure.eqlT (show qbk op=((args.map encE).length:Int) by rw[hall];exact h2) rfl rfl)<|aT 8 rfl rfl (Pure.pickF (lv:=.atom _) rfl rfl)<|zQ20 ?_;refine lO 13 (lS (H1:=[]) rfl (.inl rfl) rfl zpr (zhP pH zhp) (qae.callK [_,_,_] rfl (qav true k.name 3 zDd) (λ_=>?_) (λnm h=>absurd rfl h)));refine zQ80 ?_;exact⟨(),.inr h2,⟨rfl,rfl,trivial⟩,zhR _,rfl⟩;refine LAny.takeWant (i:=7) (zhP pH zhp) rfl rfl rfl zk zk zk rfl (Pure.eqlF (show ¬ qbk op=((args.map encE).length:Int) by rw[hall];exact h2) rfl rfl)<|aT 8 rfl rfl (Pure.pickF (lv:=.atom _) rfl rfl)<|zQ20 ?_;refine lO 13 (lS (H1:=[]) rfl (.inl rfl) rfl zpr (zhP pH zhp) (qae.callK [_,_,_] rfl (qav false k.name 3 zDd) (λh=>absurd h zDd) (λnm _ e' he'=>?_)));refine gak ?_;exact panK (he'.trans rfl) (by rw[<-hI,zn (λh=>h.elim h1 h2)];rfl) zDd;rw[zp hop] at hI;refine gac ?_
  refine oL (λkk ls H'=>∃ (pre l1:List Ex) (v:LV) (Ha:Heap),args=pre++l1/\kk=l1.length/\ls=[(0,ptr k.cb 0),(3,ptr b3 0),(6,v),(29,.list (args.map encE)),(30,int .i64 ((args.map encE).length:Int)),(31,int .i64 (pre.length:Int))] /\
    H'=(b3,.cells 170 [str op,int .u32 (num:Int),str name,.list (args.map encE)])::(ckH k (max d (qb2 c pre))++Ha)/\GL.Acc 1 v ((qaZ c pre).map iv) Ha []/\orE (qba c l1) (useE c op name args.length)=E)
   ⟨args.length,_,_,⟨[],args,qab,[],rfl,rfl,rfl,rfl,Acc.nil,hI⟩,⟨rfl,rfl,rfl,rfl,rfl,rfl,trivial⟩,⟨[],by
    rw[zLz,zLz,qb2,max_zero]⟩⟩ ?_
  rintro kk ls H' ⟨pre,l1,v,Ha,hLe,rfl,rfl,rfl,hacc,hI2⟩ j2 hj2
  have hb2:pre.length<=2000000:=by
   have:=congrArg List.length hLe;rw[zLa] at this;omega
  have hdp:max d (qb2 c pre)<=200000000:=by
   have:=qgL B D c hB pre;omega
  refine gaj ?_;refine oC rfl (λhc=>?_) (λhc=>?_);have hlen:=zt hc;rw[zLm,hLe,zLa] at hlen
  obtain⟨a,l2,rfl⟩:∃ a l2,l1=a::l2:=by
   cases l1 with
   |nil=>simp at hlen
   |cons a l2=>exact⟨a,l2,rfl⟩
  have ham:ndE a<=ndEs args:=qlz (by rw[hLe];exact mem_append_right _ zMs);rw[qba] at hI2;refine gal ?_;refine oP (xR (el':=encE a) (cs:=[_,_,_,_]) rfl rfl zo (by rw[hLe];exact get_mid encE pre a l2) rfl rfl) rfl<|gad ?_;refine oS (sA λb8=>?_) rfl;refine gac ?_;refine zQ18 ?_;refine gad ?_;refine oS (sK [_,_] rfl qpQ (ih a _ zo hdp) (λh0=>?_) (λnm h0 e' he'=>?_)) rfl;rw[h0] at hI2;refine oS (sL (es:=[iv (qbg c a)]) [_] rfl (eC rfl rfl eN) rfl rfl rfl<|oS (sG qwZ rfl hacc rfl (qxg _) rfl (by rw[zLm,qh3,zLc,zLn];omega) λv' Ha' hacc'=>?_) rfl) rfl;refine zQ30 ?_;refine gaa ?_
  exact⟨l2.length,_,_,lt_succ_self _,⟨pre++[a],l2,v',Ha',by rw[hLe];simp,rfl,rfl,rfl,by rw[qk4,zMa];exact hacc',by rw[<-hI2];rfl⟩,⟨rfl,rfl,rfl,rfl,rfl,qao (by simp),trivial⟩,by
   rw[qnt,<-Nat.max_assoc]
   exact zhD zhr,hj2⟩
  refine gae ?_;exact panK ((he'.trans hj2).trans hj) (by rw[<-hI2];unfold orE;rw[zp h0,zp h0]) h0;have hlen:=zf hc;rw[zLm,hLe,zLa] at hlen
  obtain rfl:l1=[]:=by
   cases l1 with
   |nil=>rfl
   |cons a l2=>simp at hlen;omega
  rw[zLz] at hLe;subst hLe;have hI3:useE c op name args.length=E:=by rw[<-hI2];rfl
  have hds:j2.ds=[]:=hj2.trans hj;generalize hd1:max d (qb2 c args)=d1 at hdp ⊢;have hdd:max d (max (qb2 c args) (qgl c op name))=max d1 (qgl c op name):=by rw[<-hd1,Nat.max_assoc]
  rw[hdd];generalize hns:qaZ c args=ns at hacc ⊢;have hnl:ns.length=args.length:=by rw[<-hns,qh3]
  have hnb:∀ m∈ns,m<=1000000000:=λm hm=>by
   rw[<-hns] at hm;have:=qkN hB hm;omega
  have hel:=hacc.elems;refine gaa ?_
  have ret1:∀ (nd:LV) {e:Env} {H:Heap},E=0->e.ds=[]->e.s 4=nd->HSub (ckH k d1) H->qgl c op name=0->iv (opN c op name ns)=nd->qad (KC B0 w0) 121 [ResultVar.tmp 4] (qh6 E (iv (opN c op name ns)) (ckH k (max d1 (qgl c op name)))) .ret e H:=λnd {e H} h0 hd he hH hcd hn=>by
   rw[hcd,max_zero];exact retK hd (rC (rT he zsr) rN) h0 hn.symm hH
  have hcall0:¬ op=qch->qgl c op name=0:=λh=>by
   unfold qgl;rw[zn (λh2=>h h2.1)]
  have hE0:¬ op=nVar->¬ op=qeD->¬ op=qch->E=0:=λa1 a2 a3=>by
   rw[<-hI3];unfold useE;rw[zn a1,zn a2,zn a3]
  have HS:HSub (ckH k d1) ((b3,.cells 170 [str op,int .u32 (num:Int),str name,.list (args.map encE)])::(ckH k d1++Ha)):=zhD qaA
  by_cases h1:op=[110,117,109]
  refine oC rfl (λ_=>?_) (λhc=>absurd h1 (zf hc));refine gaa ?_;refine ret1 (iv 1) ?_ ?_ ?_ ?_ ?_ ?_;subst h1;exact hE0 zDd zDd zDd;exact hds;rfl;exact HS;subst h1;exact hcall0 zDd;subst h1;rfl;refine oC rfl (λhc=>absurd (zt hc) h1) (λ_=>?_);refine gaa ?_
  by_cases h2:op=[118,97,114]
  refine oC rfl (λ_=>?_) (λhc=>absurd h2 (zf hc));have hI4:qb9 c name=E:=by rw[<-hI3];subst h2;rfl
  refine gaa ?_;refine oS (sK [_,_] rfl qjg (qbT hk d1 name) (λh0=>?_) (λnm h0 e' he'=>?_)) rfl;rw[hI4] at h0;refine gaa ?_;refine ret1 (iv 1) h0 ?_ ?_ ?_ ?_ ?_;exact hds;rfl;exact qaA;subst h2;exact hcall0 zDd;subst h2;rfl;refine gae ?_;exact panK (he'.trans hds) hI4.symm h0;refine oC rfl (λhc=>absurd (zt hc) h2) (λ_=>?_);refine gaa ?_
  by_cases h3:op=[101,108,101,109]
  refine oC rfl (λ_=>?_) (λhc=>absurd h3 (zf hc));have hI4:qdB c name=E:=by rw[<-hI3];subst h3;rfl
  obtain⟨n0,rfl⟩:∃ n0,ns=[n0]:=by
   have h9:ns.length=1:=by
    rcases hop with h|h;subst h3;exact absurd h zDd;subst h3;have h9:(1:Int)=(args.length:Int):=h;omega
   cases ns with
   |nil=>cases h9
   |cons a l=>
    cases l with
    |nil=>exact⟨a,rfl⟩
    |cons b l=>simp at h9
  have hn0:=hnb n0 zMs;refine gaa ?_;refine oS (sK [_,_] rfl qjg (qeL hk d1 name) (λh0=>?_) (λnm h0 e' he'=>?_)) rfl;rw[hI4] at h0;refine gaj ?_;refine zQ52 ?_;refine ret1 (int .i64 (1+(n0:Int))) h0 ?_ ?_ ?_ ?_ ?_;exact hds;rfl;exact qaA;subst h3;exact hcall0 zDd;subst h3;exact qao (show((1+n0:Nat):Int)=_ by omega);refine gae ?_;exact panK (he'.trans hds) hI4.symm h0;refine oC rfl (λhc=>absurd (zt hc) h3) (λ_=>?_);refine gaa ?_
  by_cases h4:op=[99,97,108,108]
  refine oC rfl (λ_=>?_) (λhc=>absurd h4 (zf hc));have hI4:callE c name ns.length=E:=by rw[<-hI3,hnl];subst h4;rfl
  have hN4:opN c op name ns=qiO c name ns:=by subst h4;rfl
  have hD4:qgl c op name=qgl c qch name:=by subst h4;rfl
  refine gaa ?_;refine zQ18 ?_;refine LOps.sub 67 rfl hacc.sub ?_;refine oS (sK [_,_,_] rfl qjg (qi7 hk hB hB8 hD8 d1 zo name ns zo hnb) (λh0=>?_) (λnm h0 e' he'=>?_)) rfl;rw[hI4] at h0;refine gab ?_;rw[hN4,hD4];exact retK hds (zra rfl) h0 rfl qaA;refine gae ?_;exact panK (he'.trans hds) hI4.symm h0;refine oC rfl (λhc=>absurd (zt hc) h4) (λ_=>?_);have hE00:=hE0 h2 h3 h4;have hcd:=hcall0 h4;refine gaa ?_
  by_cases h5:op=[110,101,103]
  refine oC rfl (λ_=>?_) (λhc=>absurd h5 (zf hc))
  obtain⟨n0,rfl⟩:∃ n0,ns=[n0]:=by
   have h9:ns.length=1:=by
    rcases hop with h|h;subst h5;exact absurd h zDd;subst h5;have h9:(1:Int)=(args.length:Int):=h;omega
   cases ns with
   |nil=>cases h9
   |cons a l=>
    cases l with
    |nil=>exact⟨a,rfl⟩
    |cons b l=>simp at h9
  have hn0:=hnb n0 zMs;refine gai ?_;refine zQ52 ?_;refine ret1 (int .i64 (1+(n0:Int))) hE00 ?_ ?_ ?_ hcd ?_;exact hds;rfl;exact HS;subst h5;exact qao (show((1+n0:Nat):Int)=_ by omega);refine oC rfl (λhc=>absurd (zt hc) h5) (λ_=>?_);have h5n:=h5;clear h5;refine gaa ?_
  by_cases h5:op=[110,111,116]
  refine oC rfl (λ_=>?_) (λhc=>absurd h5 (zf hc))
  obtain⟨n0,rfl⟩:∃ n0,ns=[n0]:=by
   have h9:ns.length=1:=by
    rcases hop with h|h;subst h5;exact absurd h zDd;subst h5;have h9:(1:Int)=(args.length:Int):=h;omega
   cases ns with
   |nil=>cases h9
   |cons a l=>
    cases l with
    |nil=>exact⟨a,rfl⟩
    |cons b l=>simp at h9
  have hn0:=hnb n0 zMs;refine gai ?_;refine zQ52 ?_;refine oP (Pure.max2e 2 n0 rfl rfl rfl rfl) rfl<|gab ?_;refine ret1 (iv (max 2 n0)) hE00 ?_ ?_ ?_ hcd ?_;exact hds;rfl;exact HS;subst h5;rfl;refine oC rfl (λhc=>absurd (zt hc) h5) (λ_=>?_)
  have hbin:ns.length=2:=by
   unfold qbk at hop;rw[zn (λh=>h.elim h1 h2),zn (λh=>h.elim h3 (λh=>h.elim h5n h5)),zn (show ¬ op=qch from h4)] at hop;split at hop;rcases hop with h|h <;> omega;rcases hop with h|h <;> omega
  obtain⟨a,b,rfl⟩:∃ a b,ns=[a,b]:=by
   match ns,hbin with
   |[a,b],_=>exact⟨a,b,rfl⟩
  have ha:=hnb a zMs;have hb:=hnb b (zMo _ zMs);refine gab ?_;refine qah.quiet zk ?_;refine qP (pM (lv:=v) rfl) rfl ?_;refine qP (xR (el':=iv a) (cs:=[iv a]) hel rfl zo rfl rfl rfl) rfl ?_;refine gan ?_;refine qP (pM (lv:=v) rfl) rfl ?_;refine qP (xR (el':=iv b) (cs:=[iv b]) hel rfl zo rfl rfl rfl) rfl ?_;refine gac ?_
  by_cases h6:op=[62]
  refine oC rfl (λ_=>?_) (λhc=>absurd h6 (zf hc));refine gab ?_;refine oC rfl (λ_=>?_) (λhc=>absurd h6 (zf hc));refine gaa ?_;refine oP (Pure.max3e 3 a (1+b) rfl rfl rfl rfl rfl zo) rfl<|gab ?_;refine ret1 (iv (max (max 3 a) (1+b))) hE00 ?_ ?_ ?_ hcd ?_;exact hds;rfl;exact HS;subst h6;rfl;refine oC rfl (λhc=>absurd (zt hc) h6) (λ_=>?_);have h6n:=h6;clear h6;refine gaa ?_
  by_cases h6:op=[60,61]
  refine oC rfl (λ_=>?_) (λhc=>absurd h6 (zf hc));refine gaa ?_;refine oP (Pure.max3e 3 a (1+b) rfl rfl rfl rfl rfl zo) rfl<|gab ?_;refine ret1 (iv (max (max 3 a) (1+b))) hE00 ?_ ?_ ?_ hcd ?_;exact hds;rfl;exact HS;subst h6;rfl;refine oC rfl (λhc=>absurd (zt hc) h6) (λ_=>?_);refine gaa ?_
  by_cases h7:op=[33,61]
  refine oC rfl (λ_=>?_) (λhc=>absurd h7 (zf hc));refine gaa ?_;refine oP (Pure.max3e 3 (1+a) (2+b) rfl rfl rfl rfl zo zo) rfl<|gab ?_;refine ret1 (iv (max (max 3 (1+a)) (2+b))) hE00 ?_ ?_ ?_ hcd ?_;exact hds;rfl;exact HS;subst h7;rfl;refine oC rfl (λhc=>absurd (zt hc) h7) (λ_=>?_);refine gaa ?_
  by_cases h8:op=[38,38]
  refine oC rfl (λ_=>?_) (λhc=>absurd h8 (zf hc));refine gaa ?_;refine oP (Pure.max2e (1+a) (2+b) rfl rfl zo zo) rfl<|gab ?_;refine ret1 (iv (max (1+a) (2+b))) hE00 ?_ ?_ ?_ hcd ?_;exact hds;rfl;exact HS;subst h8;rfl;refine oC rfl (λhc=>absurd (zt hc) h8) (λ_=>?_);refine gaa ?_
  by_cases h9:op=[124,124]
  refine oC rfl (λ_=>?_) (λhc=>absurd h9 (zf hc));refine gaa ?_;refine oP (Pure.max2e (2+a) (3+b) rfl rfl zo zo) rfl<|gab ?_;refine ret1 (iv (max (2+a) (3+b))) hE00 ?_ ?_ ?_ hcd ?_;exact hds;rfl;exact HS;subst h9;rfl;refine oC rfl (λhc=>absurd (zt hc) h9) (λ_=>?_);refine gaa ?_;refine oP (Pure.max3e 2 a (1+b) rfl rfl rfl rfl rfl zo) rfl<|gaf ?_;refine ret1 (iv (max (max 2 a) (1+b))) hE00 ?_ ?_ ?_ hcd ?_;exact hds;rfl;exact HS;unfold opN;rw[zn (λh=>h.elim h1 h2),zn (λh=>h.elim h3 h5n),zn (show ¬ op=qch from h4),zn (show ¬ op=nNot from h5),zn (λh=>h.elim h6n h6),zn h7,zn h8,zn h9];rfl
end
theorem qxP:qbJ (.mk 1 name index value thn els)=((!decide (name=[])) && decide (((index.map encE).length:Int)=0) && decide (((value.map encE).length:Int)=1) && decide (((thn.map encS).length:Int)=0) && decide (((els.map encS).length:Int)=0)):=by
 rw[Bool.eq_iff_iff];simp only[qbJ,zBa,zDe,Bool.not_eq_true',decide_eq_false_iff_not,zLm];constructor;exact zT17;exact zT21
theorem qxr:qbJ (.mk 2 name index value thn els)=((!decide (name=[])) && decide (((index.map encE).length:Int)=1) && decide (((value.map encE).length:Int)=1) && decide (((thn.map encS).length:Int)=0) && decide (((els.map encS).length:Int)=0)):=by
 rw[Bool.eq_iff_iff];simp only[qbJ,zBa,zDe,Bool.not_eq_true',decide_eq_false_iff_not,zLm];constructor;exact zT17;exact zT21
theorem qx8:qbJ (.mk 3 name index value thn els)=((!!decide (name=[])) && decide (((index.map encE).length:Int)=0) && decide (((value.map encE).length:Int)=1)):=by
 rw[Bool.eq_iff_iff];simp only[qbJ,zBa,zDe,Bool.not_eq_true',decide_eq_false_iff_not,zLm];constructor;intro h;have h':_:=zt h;obtain⟨a1,a2,a3⟩:=h';exact⟨⟨by simpa using a1,by omega⟩,by omega⟩;rintro⟨⟨a1,a2⟩,a3⟩;exact zRp ⟨by simpa using a1,by omega,by omega⟩
theorem qxl:qbJ (.mk 4 name index value thn els)=((!!decide (name=[])) && decide (((index.map encE).length:Int)=0) && decide (((value.map encE).length:Int)=1) && decide (((els.map encS).length:Int)=0)):=by
 rw[Bool.eq_iff_iff];simp only[qbJ,zBa,zDe,Bool.not_eq_true',decide_eq_false_iff_not,zLm];constructor;intro h;have h':_:=zt h;obtain⟨a1,a2,a3,a4⟩:=h';exact⟨⟨⟨by simpa using a1,by omega⟩,by omega⟩,by omega⟩;rintro⟨⟨⟨a1,a2⟩,a3⟩,a4⟩;exact zRp ⟨by simpa using a1,by omega,by omega,by omega⟩
theorem qxT:qbJ (.mk 5 name index value thn els)=((!!decide (name=[])) && decide (((index.map encE).length:Int)=0) && decide (((value.map encE).length:Int)=1) && decide (((thn.map encS).length:Int)=0) && decide (((els.map encS).length:Int)=0)):=by
 rw[Bool.eq_iff_iff];simp only[qbJ,zBa,zDe,Bool.not_eq_true',decide_eq_false_iff_not,zLm];constructor;exact zT17;exact zT21
theorem qxW:qbJ (.mk 6 name index value thn els)=((!!decide (name=[])) && decide (((index.map encE).length:Int)=0) && decide (((value.map encE).length:Int)=1) && decide (((thn.map encS).length:Int)=0) && decide (((els.map encS).length:Int)=0) && decide (exOp (value.headD default)=[99,97,108,108])):=by
 rw[Bool.eq_iff_iff];simp only[qbJ,zBa,zDe,Bool.not_eq_true',decide_eq_false_iff_not,zLm];constructor;intro h;have h':_:=zt h;obtain⟨a1,a2,a3,a4,a5,a6⟩:=h';exact⟨⟨⟨⟨⟨by simpa using a1,by omega⟩,by omega⟩,by omega⟩,by omega⟩,a6⟩;rintro⟨⟨⟨⟨⟨a1,a2⟩,a3⟩,a4⟩,a5⟩,a6⟩;exact zRp ⟨by simpa using a1,by omega,by omega,by omega,by omega,a6⟩
theorem qxS:qbJ (.mk 7 name index value thn els)=((!!decide (name=[])) && decide (((index.map encE).length:Int)=0) && decide (((value.map encE).length:Int)=0) && decide (((thn.map encS).length:Int)=0) && decide (((els.map encS).length:Int)=0)):=by
 rw[Bool.eq_iff_iff];simp only[qbJ,zBa,zDe,Bool.not_eq_true',decide_eq_false_iff_not,zLm];constructor;exact zT17;exact zT21
section
variable{B0:Nat}{w0:World}
theorem qnX(s:Sm):LCalls (KC B0 w0) 212 [encS s] [] (Ret (bool (qbJ s))):=by
 obtain⟨kind,name,index,value,thn,els⟩:=s;rw[qca];refine cJ Tryz.func212 (n:=159) ?_;refine gai ?_;refine oS (sB rfl λb1=>?_) rfl;refine gab ?_;refine qah.quiet zk ?_;refine gac ?_
 by_cases hk1:kind=1
 ·subst hk1;refine oC rfl (λ_=>?_) (λhc=>by cases hc);rw[qxP];refine gah ?_;refine oB 28 rfl (λq1=>?_) (λq1=>?_);rotate_left;exact zT11;refine gab ?_;refine oB 32 rfl (λq2=>?_) (λq2=>?_);rotate_left;exact zT9;refine gab ?_;refine oB 36 rfl (λq3=>?_) (λq3=>?_);rotate_left;exact zT15;refine gab ?_;refine oB 40 rfl (λq4=>?_) (λq4=>?_);rotate_left;exact zT20;refine zQ3 ?_;simp only[q1,q2,q3,q4,Bool.true_and];rfl
 refine oC rfl (λhc=>absurd (zt hc) hk1) (λ_=>?_);refine gam ?_
 by_cases hk2:kind=2
 ·subst hk2;refine oC rfl (λ_=>?_) (λhc=>by cases hc);rw[qxr];refine gah ?_;refine oB 47 rfl (λq1=>?_) (λq1=>?_);rotate_left;exact zT11;refine gab ?_;refine oB 51 rfl (λq2=>?_) (λq2=>?_);rotate_left;exact zT9;refine gab ?_;refine oB 55 rfl (λq3=>?_) (λq3=>?_);rotate_left;exact zT15;refine gab ?_;refine oB 59 rfl (λq4=>?_) (λq4=>?_);rotate_left;exact zT20;refine zQ3 ?_;simp only[q1,q2,q3,q4,Bool.true_and];rfl
 refine oC rfl (λhc=>absurd (zt hc) hk2) (λ_=>?_);refine gam ?_
 by_cases hk3:kind=3
 ·subst hk3;refine oC rfl (λ_=>?_) (λhc=>by cases hc);rw[qx8];refine gac ?_;refine oB 67 rfl (λq1=>?_) (λq1=>?_);rotate_left;exact zT11;refine gab ?_;refine oB 71 rfl (λq2=>?_) (λq2=>?_);rotate_left;exact zT9;refine zQ3 ?_;simp only[q1,q2,Bool.true_and];rfl
 refine oC rfl (λhc=>absurd (zt hc) hk3) (λ_=>?_);refine gam ?_
 by_cases hk4:kind=4
 ·subst hk4;refine oC rfl (λ_=>?_) (λhc=>by cases hc);rw[qxl];refine gac ?_;refine oB 79 rfl (λq1=>?_) (λq1=>?_);rotate_left;exact zT11;refine gab ?_;refine oB 83 rfl (λq2=>?_) (λq2=>?_);rotate_left;exact zT9;refine gab ?_;refine oB 87 rfl (λq3=>?_) (λq3=>?_);rotate_left;exact zT15;refine zQ3 ?_;simp only[q1,q2,q3,Bool.true_and];rfl
 refine oC rfl (λhc=>absurd (zt hc) hk4) (λ_=>?_);refine gam ?_
 by_cases hk5:kind=5
 ·subst hk5;refine oC rfl (λ_=>?_) (λhc=>by cases hc);rw[qxT];refine gac ?_;refine oB 95 rfl (λq1=>?_) (λq1=>?_);rotate_left;exact zT11;refine gab ?_;refine oB 99 rfl (λq2=>?_) (λq2=>?_);rotate_left;exact zT9;refine gab ?_;refine oB 103 rfl (λq3=>?_) (λq3=>?_);rotate_left;exact zT15;refine gab ?_;refine oB 107 rfl (λq4=>?_) (λq4=>?_);rotate_left;exact zT20;refine zQ3 ?_;simp only[q1,q2,q3,q4,Bool.true_and];rfl
 refine oC rfl (λhc=>absurd (zt hc) hk5) (λ_=>?_);refine gam ?_
 by_cases hk6:kind=6
 ·subst hk6;refine oC rfl (λ_=>?_) (λhc=>by cases hc);rw[qxW];refine gac ?_;refine oB 115 rfl (λq1=>?_) (λq1=>?_);rotate_left;exact zT11;refine gab ?_;refine oB 119 rfl (λq2=>?_) (λq2=>?_);rotate_left;exact zT9;refine gab ?_;refine oB 123 rfl (λq3=>?_) (λq3=>?_);rotate_left;exact zT15;refine gab ?_;refine oB 127 rfl (λq4=>?_) (λq4=>?_);rotate_left;exact zT20;refine gab ?_;refine oB 131 rfl (λq5=>?_) (λq5=>?_);rotate_left;refine zQ3 ?_;simp only[q1,q2,q3,q4,q5,zRs,Bool.and_false,Bool.true_and];rfl;refine gan ?_
  obtain⟨x0,rfl⟩:∃ x,value=[x]:=by
   have h1:((value.map encE).length:Int)=1:=zt q3;rw[zLm] at h1
   cases value with
   |nil=>simp at h1
   |cons x l=>
    cases l with
    |nil=>exact⟨x,rfl⟩
    |cons y l=>simp at h1;omega
  first|refine LOps.want rfl rfl ?_|skip
  refine oP (xR (el':=encE x0) (cs:=[_,_,_,_]) rfl rfl zo rfl rfl rfl) rfl<|gad ?_;refine rR rfl (zra rfl) zhn ⟨?_,rfl⟩;simp only[q1,q2,q3,q4,q5,Bool.true_and];rfl
 refine oC rfl (λhc=>absurd (zt hc) hk6) (λ_=>?_);refine gam ?_
 by_cases hk7:kind=7
 ·subst hk7;refine oC rfl (λ_=>?_) (λhc=>by cases hc);rw[qxS];refine gac ?_;refine oB 143 rfl (λq1=>?_) (λq1=>?_);rotate_left;exact zT11;refine gab ?_;refine oB 147 rfl (λq2=>?_) (λq2=>?_);rotate_left;exact zT9;refine gab ?_;refine oB 151 rfl (λq3=>?_) (λq3=>?_);rotate_left;exact zT15;refine gab ?_;refine oB 155 rfl (λq4=>?_) (λq4=>?_);rotate_left;exact zT20;refine zQ3 ?_;simp only[q1,q2,q3,q4,Bool.true_and];rfl
 refine oC rfl (λhc=>absurd (zt hc) hk7) (λ_=>?_);refine gaa ?_;refine rR rfl (zra rfl) zhn ⟨?_,rfl⟩
 have hf:qbJ (.mk kind name index value thn els)=false:=by
  simp only[qbJ];rw[zn hk1,zn hk2,zn hk3,zn hk4,zn hk5,zn hk6,zn hk7]
 rw[hf];rfl
end
theorem qkq{kind:Int}(h:qbJ (.mk kind name index value thn els)=true)(h2:¬ kind=2):index=[]:=by
 have h1:index.length=0:=by
  simp only[qbJ] at h
  repeat' (split at h)
  all_goals first
   |(simp only[zDe] at h;omega)
   |cases h
   |contradiction
 exact List.length_eq_zero_iff.1 h1
theorem qfK{kind:Int}(h:qbJ (.mk kind name index value thn els)=true)(h3:¬ kind=3)(h4:¬ kind=4):thn=[]/\els=[]:=by
 have h1:thn.length=0/\els.length=0:=by
  simp only[qbJ] at h
  repeat' (split at h)
  all_goals first
   |(simp only[zDe] at h;constructor <;> omega)
   |cases h
   |contradiction
 exact⟨List.length_eq_zero_iff.1 h1.1,List.length_eq_zero_iff.1 h1.2⟩
theorem qpW(h:qbJ (.mk 7 name index value thn els)=true):value=[]:=by
 have h1:value.length=0:=by
  simp only[qbJ] at h
  repeat' (split at h)
  all_goals first
   |(simp only[zDe] at h;omega)
   |cases h
   |contradiction
 exact List.length_eq_zero_iff.1 h1
section
variable{B0:Nat}{w0:World}
def qx4(B0:Nat)(w0:World)(k:KB)(c:CEnv)(n:Nat):Prop:=∀ (x:Sm) (d:Nat),ndS x<=n->d<=200000000->LCalls (KC B0 w0) 187 [ptr k.cb 0,encS x] (ckH k d) (qh6 (errS c x) (iv (qkz c x)) (ckH k (max d (depS c x))))
def qxa(B0:Nat)(w0:World)(k:KB)(c:CEnv)(n:Nat):Prop:=∀ (l:List Sm) (d:Nat),ndSs l<=n->d<=200000000->LCalls (KC B0 w0) 154 [ptr k.cb 0,.list (l.map encS)] (ckH k d) (qh6 (qbB c l) (iv (qbP c l)) (ckH k (max d (qcg c l))))
theorem qeB{k:KB}{c:CEnv}{B D:Nat}(hB:KnB B D c.funcs)(hD8:D<=100000000){n:Nat}(hn6:n<=2000000)(ih:qx4 B0 w0 k c n):qxa B0 w0 k c n:=by
 intro l d hnd hd;have hal:=qek l;generalize hN:qbP c l=N;generalize hDD:max d (qcg c l)=DD;refine cJ Tryz.func154 (n:=21) ?_;refine gaa ?_
 refine oL (λkk ls H'=>∃ (pre l1:List Sm) (m d1:Nat),l=pre++l1/\kk=l1.length/\ls=[(0,ptr k.cb 0),(5,iv m),(8,.list (l.map encS)),(9,int .i64 ((l.map encS).length:Int)),(10,iv pre.length)]/\H'=ckH k d1/\d1<=200000000/\qbB c l1=qbB c l/\max m (qbP c l1)=N/\max d1 (qcg c l1)=DD)
  ⟨l.length,_,_,⟨[],l,0,d,rfl,rfl,rfl,rfl,hd,rfl,by omega,hDD⟩,⟨rfl,rfl,rfl,rfl,rfl,trivial⟩,zhR _⟩ ?_
 rintro kk ls H' ⟨pre,l1,m,d1,hLe,rfl,rfl,rfl,hd1,hE,hM,hD1⟩ j hj
 have hb2:pre.length<=2000000:=by
  have:=congrArg List.length hLe;rw[zLa] at this;omega
 refine gaj ?_;refine oC rfl (λhc=>?_) (λhc=>?_);have hlen:=zt hc;rw[zLm,hLe,zLa] at hlen
 obtain⟨a,l2,rfl⟩:∃ a l2,l1=a::l2:=by
  cases l1 with
  |nil=>simp at hlen
  |cons a l2=>exact⟨a,l2,rfl⟩
 have ham:ndS a<=n:=by
  have h1:∀ (p:List Sm) (x:Sm) (r:List Sm),ndS x<=ndSs (p++x::r):=λp=>by
   induction p with
   |nil=>intro x r;show ndS x<=ndSs (x::r);rw[ndSs];omega
   |cons y p ih2=>intro x r;show ndS x<=ndSs (y::(p++x::r));rw[ndSs];have:=ih2 x r;omega
  have:=h1 pre a l2;rw[<-hLe] at this;omega
 rw[qbB] at hE;rw[qbP] at hM;rw[qcg] at hD1;have hda:=qq5 B D c hB a;refine gal ?_;refine oP (xR (el':=encS a) (cs:=[_,_,_,_,_,_]) rfl rfl zo (by rw[hLe];exact get_mid encS pre a l2) rfl rfl) rfl<|gad ?_;refine oS (sA λb7=>?_) rfl;refine gac ?_;refine oS (sK [_,_] rfl (Inp.swap1) (ih a d1 ham hd1) (λh0=>?_) (λnm h0 e' he'=>?_)) rfl;rw[h0] at hE;refine oP (Pure.max2e m (qkz c a) rfl rfl rfl rfl) rfl<|gaa ?_;exact⟨l2.length,_,_,lt_succ_self _,⟨pre++[a],l2,max m (qkz c a),max d1 (depS c a),by rw[hLe];simp,rfl,rfl,rfl,by omega,hE,by omega,by omega⟩,⟨rfl,rfl,rfl,rfl,qao (by simp),trivial⟩,qaA,hj⟩;refine gae ?_;exact panK (he'.trans hj) (by rw[<-hE];unfold orE;rw[zp h0]) h0;have hlen:=zf hc;rw[zLm,hLe,zLa] at hlen
 obtain rfl:l1=[]:=by
  cases l1 with
  |nil=>rfl
  |cons a l2=>simp at hlen;omega
 rw[qbP] at hM;rw[qcg] at hD1;have e1:m=N:=by omega
 have e2:d1=DD:=by omega
 subst e1 e2;refine gaa ?_;exact retK hj (zra rfl) (hE.symm.trans rfl) rfl zhr
theorem qhy{k:KB}{c:CEnv}(hk:KBok k c){B D:Nat}(hB:KnB B D c.funcs)(hB8:B<=50000000)(hD8:D<=100000000):∀ n:Nat,n<=2000000->qx4 B0 w0 k c n
 |0,_=>λx d h _=>by have:=qn0 x;omega
 |n+1,hn6=>by
  have ihs:=qeB (B0:=B0) (w0:=w0) hB hD8 (n:=n) zo (qhy hk hB hB8 hD8 n zo);have hX:qxA B0 w0 k c n:=qd8 hk hB zo hD8 n zo;intro x d hnd hd;obtain⟨kind,name,index,value,thn,els⟩:=x;rw[ndS] at hnd;generalize hI:errS c (Sm.mk kind name index value thn els)=E;rw[errS] at hI;generalize hN:qkz c (Sm.mk kind name index value thn els)=N;rw[qkz] at hN;generalize hDD:max d (depS c (Sm.mk kind name index value thn els))=DD;rw[depS] at hDD;have hfs:=qnX (B0:=B0) (w0:=w0) (Sm.mk kind name index value thn els);rw[qca] at hfs ⊢;refine cJ Tryz.func187 (n:=65) ?_;refine gai ?_;refine oS (sB rfl λb3=>?_) rfl;refine gab ?_;refine cM (A:=Unit) (λ_=>[(0,ptr k.cb 0),(3,ptr b3 0)]) (λ_=>(b3,.cells 168 [int .i64 kind,str name,.list (index.map encE),.list (value.map encE),.list (thn.map encS),.list (els.map encS)])::ckH k d) (λ_=>qbJ (Sm.mk kind name index value thn els)=true) ?_ (λ_ hform j hj=>?_);refine cD (m:=7) rfl [(b3,.cells 168 [int .i64 kind,str name,.list (index.map encE),.list (value.map encE),.list (thn.map encS),.list (els.map encS)]),(k.cb,.cells 105 [.atom (.map (some k.gm)),.atom (.map (some k.vm)),.atom (.map (some k.am)),.atom (.map (some k.fm)),str k.name,.atom (.map (some k.om)),int .i64 (d:Int)])]<|aT 0 rfl rfl (pG (cs':=[_,_,_,_,_,_]) rfl zm0 rfl rfl)<|zQ40 ?_;refine aT 3 rfl rfl (pN rfl)<|aT 4 rfl rfl (pF rfl)<|aT 5 rfl rfl (pL (c:=.atom _) rfl zm1 rfl)<|aL ?_ (zhP pH zhp);refine lO 1 (lS (H1:=[]) rfl (.inl rfl) rfl zpr (zhP pH zhp) (sF [_] rfl hfs ?_))
  cases hf:qbJ (Sm.mk kind name index value thn els) with
  |true=>
   refine lO 6 (lS (H1:=[]) rfl (.inl rfl) rfl zpr (zhP pH zhp) (qae.callK [_,_,_] rfl (qav true k.name 3 zDd) (λ_=>?_) (λnm h=>absurd rfl h)));refine zQ80 ?_
   exact⟨(),rfl,⟨rfl,rfl,trivial⟩,zhR _,rfl⟩
  |false=>
   rw[hf,zp rfl] at hI;refine lO 6 (lS (H1:=[]) rfl (.inl rfl) rfl zpr (zhP pH zhp) (qae.callK [_,_,_] rfl (qav false k.name 3 zDd) (λh=>absurd h zDd) (λnm _ e' he'=>?_)));refine gak ?_;exact panK (he'.trans rfl) (by rw[<-hI];rfl) zDd
  rw[hform,zn zDd] at hI;refine gaa ?_
  by_cases h7:kind=7
  subst h7;obtain rfl:=qpW hform;obtain rfl:=qkq hform zDd;obtain⟨rfl,rfl⟩:=qfK hform zDd zDd;refine oC rfl (λ_=>?_) (λhc=>by cases hc);refine gaa ?_
  have e2:d=DD:=by
   rw[<-hDD];simp only[qb2,qcg];omega
  subst e2;exact retK hj (zra rfl) (by rw[<-hI];rfl) (by rw[<-hN];rfl) (zhD zhr);refine oC rfl (λhc=>absurd (zt hc) h7) (λ_=>?_);obtain⟨x0,rfl⟩:=Inp.form_value hform h7;rw[zn h7] at hN
  have hnx:ndE x0<=n:=by
   rw[ndEs,ndEs] at hnd;omega
  have hdx:=qn7 B D c hB x0;have hnx0:=qgb B D c hB x0
  have hEv:∀ E2,orE (qba c [x0]) E2=orE (errE c x0) E2:=λE2=>by
   rw[qba,qba];unfold orE
   by_cases h:errE c x0≠0
   rw[zp h,zp h];rw[zn h,zn zDd,zn h]
  rw[hEv] at hI;rw[show([x0]:List Ex).headD default=x0 from rfl] at hN
  have hDx:qb2 c [x0]=depE c x0:=by
   rw[qb2,qb2];omega
  rw[hDx] at hDD;refine gac ?_;refine oP (xR (el':=encE x0) (cs:=[_,_,_,_]) rfl rfl zo rfl rfl rfl) rfl<|gad ?_;refine oS (sK [_,_] rfl (Inp.swap1) (hX x0 d hnx hd) (λh0=>?_) (λnm h0 e' he'=>?_)) rfl;rotate_left;refine gak ?_;exact panK (he'.trans hj) (by rw[<-hI];unfold orE;rw[zp h0]) h0;rw[h0,show ∀ E2,orE 0 E2=E2 from λE2=>rfl] at hI;generalize hd1:max d (depE c x0)=d1;refine LOps.perm (Inp.swap1 (H:=ckH k d1)).symm ?_;refine gaa ?_
  by_cases hk1:kind=1
  subst hk1;obtain rfl:=qkq hform zDd;obtain⟨rfl,rfl⟩:=qfK hform zDd zDd
  have hI4:qb9 c name=E:=by
   rw[<-hI];simp only[qba,qbB];unfold orE
   by_cases ha:qb9 c name=0 <;> simp[ha]
  refine oC rfl (λ_=>?_) (λhc=>by cases hc);refine gaa ?_;refine oS (sK [_,_] rfl (Inp.swap1) (qbT hk d1 name) (λh1=>?_) (λnm h1 e' he'=>?_)) rfl;rw[hI4] at h1;refine gaa ?_;refine oP (Pure.max2e 2 (qbg c x0) rfl rfl rfl rfl) rfl<|gaf ?_
  have e2:d1=DD:=by
   rw[<-hDD,<-hd1];simp only[qb2,qcg];omega
  subst e2;refine retK hj (zra rfl) h1 ?_ qaA;rw[<-hN];simp only[qbP];exact qao (by simp);refine gae ?_;exact panK (he'.trans hj) hI4.symm h1;refine oC rfl (λhc=>absurd (zt hc) hk1) (λ_=>?_);rw[zn hk1] at hI;refine gam ?_
  by_cases hk2:kind=2
  ·subst hk2;obtain⟨i0,rfl⟩:=Inp.form_index hform;obtain⟨rfl,rfl⟩:=qfK hform zDd zDd
   have hni:ndE i0<=n:=by
    rw[ndEs,ndEs,ndEs,ndEs] at hnd;omega
   have hdi:=qn7 B D c hB i0;have hni0:=qgb B D c hB i0
   have hI4:orE (errE c i0) (qdB c name)=E:=by
    rw[<-hI];simp only[qba,qbB];unfold orE
    by_cases ha:errE c i0=0 <;> by_cases hb:qdB c name=0 <;> simp[ha,hb]
   refine oC rfl (λ_=>?_) (λhc=>by cases hc);refine gac ?_;refine oP (xR (el':=encE i0) (cs:=[_,_,_,_]) rfl rfl zo rfl rfl rfl) rfl<|gad ?_;refine oS (sK [_,_] rfl (Inp.swap1) (hX i0 d1 hni zo) (λh1=>?_) (λnm h1 e' he'=>?_)) rfl;rotate_left;refine gae ?_;exact panK (he'.trans hj) (by rw[<-hI4];unfold orE;rw[zp h1]) h1;rw[h1] at hI4;refine LOps.perm (Inp.swap1 (H:=ckH k (max d1 (depE c i0)))).symm ?_;refine gaa ?_;refine oS (sK [_,_] rfl (Inp.swap1) (qeL hk (max d1 (depE c i0)) name) (λh2=>?_) (λnm h2 e' he'=>?_)) rfl;refine gaa ?_;refine oP (Pure.max2e (qbg c x0) (2+qbg c i0) rfl rfl rfl zo) rfl<|gab ?_
   have e2:max d1 (depE c i0)=DD:=by
    rw[<-hDD,<-hd1];simp only[qb2,qcg];omega
   rw[<-e2];exact retK hj (zra rfl) (hI4.symm.trans h2) (by rw[<-hN];rfl) qaA;refine gae ?_;exact panK (he'.trans hj) hI4.symm h2
  refine oC rfl (λhc=>absurd (zt hc) hk2) (λ_=>?_);obtain rfl:=qkq hform hk2;rw[zn hk2] at hI hN;refine gam ?_
  by_cases hk5:kind=5
  subst hk5;obtain⟨rfl,rfl⟩:=qfK hform zDd zDd;refine oC rfl (λ_=>?_) (λhc=>by cases hc);refine gaa ?_
  have e2:d1=DD:=by
   rw[<-hDD,<-hd1];simp only[qb2,qcg];omega
  subst e2;exact retK hj (zra rfl) (by rw[<-hI];rfl) (by rw[<-hN];rfl) (zhD zhr);refine oC rfl (λhc=>absurd (zt hc) hk5) (λ_=>?_);rw[zn hk5] at hN
  have hI5:orE (qbB c thn) (qbB c els)=E:=by
   rw[<-hI];simp only[qba];rfl
  refine gam ?_
  by_cases hk3:kind=3
  ·refine oC rfl (λ_=>?_) (λhc=>absurd hk3 (zf hc));refine gab ?_;refine oC rfl (λ_=>?_) (λhc=>absurd hk3 (zf hc));refine zQ17 ?_;refine aL ?_ zhp;refine lO 4 (lS (H1:=ckH k d1) rfl (.inl rfl) rfl Inp.swap1 zhr (qae.callK [_,_] rfl (ihs thn d1 (by rw[ndEs,ndEs,ndEs] at hnd;omega) zo) (λh1=>?_) (λnm h1 e' he'=>?_)));rotate_left;refine gae ?_;exact panK (he'.trans hj) (by rw[<-hI5];unfold orE;rw[zp h1]) h1;rw[h1] at hI5;have hdt:=qfa B D c hB thn;refine lO 8 (lS (H1:=ckH k (max d1 (qcg c thn))) rfl (.inl rfl) rfl zpr zhr (qae.callK [_,_] rfl (ihs els (max d1 (qcg c thn)) (by rw[ndEs,ndEs,ndEs] at hnd;omega) zo) (λh2=>?_) (λnm h2 e' he'=>?_)));rotate_left;refine gae ?_;exact panK (he'.trans hj) hI5.symm h2;refine zQ27 ?_
   have e2:max (max d1 (qcg c thn)) (qcg c els)=DD:=by
    rw[<-hDD,<-hd1];simp only[qb2];omega
   rw[<-e2];exact retK hj (zra rfl) (hI5.symm.trans h2) (by rw[<-hN];rfl) qaA
  refine oC rfl (λhc=>absurd (zt hc) hk3) (λ_=>?_);refine gam ?_
  by_cases hk4:kind=4
  ·refine oC rfl (λ_=>?_) (λhc=>absurd hk4 (zf hc));refine zQ17 ?_;refine aL ?_ zhp;refine lO 4 (lS (H1:=ckH k d1) rfl (.inl rfl) rfl Inp.swap1 zhr (qae.callK [_,_] rfl (ihs thn d1 (by rw[ndEs,ndEs,ndEs] at hnd;omega) zo) (λh1=>?_) (λnm h1 e' he'=>?_)));rotate_left;refine gae ?_;exact panK (he'.trans hj) (by rw[<-hI5];unfold orE;rw[zp h1]) h1;rw[h1] at hI5;have hdt:=qfa B D c hB thn;refine lO 8 (lS (H1:=ckH k (max d1 (qcg c thn))) rfl (.inl rfl) rfl zpr zhr (qae.callK [_,_] rfl (ihs els (max d1 (qcg c thn)) (by rw[ndEs,ndEs,ndEs] at hnd;omega) zo) (λh2=>?_) (λnm h2 e' he'=>?_)));rotate_left;refine gae ?_;exact panK (he'.trans hj) hI5.symm h2;refine zQ27 ?_
   have e2:max (max d1 (qcg c thn)) (qcg c els)=DD:=by
    rw[<-hDD,<-hd1];simp only[qb2];omega
   rw[<-e2];exact retK hj (zra rfl) (hI5.symm.trans h2) (by rw[<-hN];rfl) qaA
  refine oC rfl (λhc=>absurd (zt hc) hk4) (λ_=>?_);obtain⟨rfl,rfl⟩:=qfK hform hk3 hk4;refine gaa ?_;refine oP (Pure.max2e 2 (qbg c x0) rfl rfl rfl rfl) rfl<|gaf ?_
  have e2:d1=DD:=by
   rw[<-hDD,<-hd1];simp only[qb2,qcg];omega
  subst e2;refine retK hj (zra rfl) (by rw[<-hI5];rfl) ?_ (zhD zhr);rw[<-hN];simp only[qbP];exact qao (by simp)
end
theorem qqg{X L:Heap}(h:HSub X L):HSub X (A++L):=
 let ⟨G,hG⟩:=h
 ⟨A++G,(List.Perm.append_left A hG).trans (by
  rw[<-zAs,<-zAs]
  exact zPc.append_right G)⟩
def pgH(k:KB)(o:Value)(d:Nat):Heap:=[(k.cb,.cells 105 [.atom (.map (some k.gm)),.atom (.map (some k.vm)),.atom (.map (some k.am)),.atom (.map (some k.fm)),str k.name,.atom o,int .i64 (d:Int)]),(k.gm,.map (kvs k.G) k.g1),(k.vm,.map (kvs k.V) k.g2),(k.am,.map (kvs k.A) k.g3),(k.fm,.map (kvs k.F) k.g4)]
def qkx(err:Int)(P:Heap->Prop)(r:LRes)(H:Heap):Prop:=(err=0/\r=.ret (.tuple [])/\P H)∨(err≠0/\(∃ nm,r=.panic (vio nm err))/\H=[])
section
variable{C:Ctx}{n:Nat}{e:Env}{H:Heap}{dst:Option Nat}{ty:TypeId}{pos:String}{aft:Array Edge}{g:Option (Nat×Bool)}{K:LV->Heap->Prop}{X:List PanicEntry->Heap->Prop}
theorem S.callE{P:Heap->Prop}{H1 F:Heap}{f:FuncId} [TEnter C.P f](args:List Operand){ats:Array TypeId}{av:List LV}(has:args.map e.ev=av)(hp:H.Perm (H1++F))
  (hc:LCalls C f av H1 (qkx err P)) (hk:∀ H',err=0->P H'->K (.tuple []) (H'++F)) (hx:∀ nm,err≠0->X (vio nm err) F):qae C ⟨dst,.call { callee:=.value (.func f),args:=args.toArray,argTypes:=ats },ty,pos,aft,g⟩ e H K X:=by
 refine S.callH args has hp hc ?_ ?_;rintro v H2 (⟨h1,h2,h3⟩|⟨_,⟨nm,h2⟩,_⟩);cases h2;exact hk _ h1 h3;cases h2;rintro ch H2 (⟨_,h2,_⟩|⟨h1,⟨nm,h2⟩,rfl⟩);cases h2;cases h2;exact hx nm h1
theorem qw4{P:Heap->Prop}{H':Heap}{rs:List ResultVar}{vs:List LV}(hd:e.ds=[])(h:qbQ C n e H rs vs)(he:err=0)(hv:qbE vs=.tuple [])(hH:HSub H' H)(hP:P H'):qad C n rs (qkx err P) .normal e H:=
 rO hd h hH (.inl ⟨he,by rw[hv],hP⟩)
theorem panE{er:Int}{P:Heap->Prop}{rs:List ResultVar}{nm:List UInt8}(hd:e.ds=[])(he:err=er)(h0:er≠0):qad C n rs (qkx err P) (.panic (vio nm er)) e H:=
 qad.panic hd zhn (.inr ⟨by rw[he];exact h0,⟨nm,by rw[he]⟩,rfl⟩)
end
def newE(known:List Nm)(s:Nm):Int:=if isNm s=false then 7 else if s∈known then 8 else 0
theorem qd6(known:List Nm)(s:Nm)(l:List Nm):qce known (s::l)=orE (newE known s) (qce (s::known) l):=by
 rw[qce];unfold newE;split;rfl;split;rfl;rfl
theorem qhO:∀ (l k k':List Nm),(∀ s,s∈k ↔ s∈k')->qce k l=qce k' l
 |[],_,_,_=>rfl
 |s::l,k,k',h=>by
  have h2:newE k s=newE k' s:=by
   unfold newE;simp only[h s]
  rw[qd6,qd6,h2,qhO l (s::k) (s::k') (λx=>by simp[h x])]
section
variable{B0:Nat}{w0:World}
theorem qgv{k:KB}{known:List Nm}(hG:qdO k.G known)(s:Nm):LCalls (KC B0 w0) 91 [ptr k.cb 0,str s] (pgH k o d)
  (qkx (newE known s) (λH=>∃ g1,H=pgH { k with G:=GL.kvPut k.G s (bool true),g1:=g1 } o d)):=by
 generalize hI:newE known s=E;unfold newE at hI;refine cJ Tryz.func91 (n:=22) ?_;refine gah ?_;refine oS (sF [_] rfl (qe5 s) ?_) rfl;refine gab ?_
 cases hn:isNm s with
 |false=>
  rw[zp hn] at hI;refine oS (sK (H1:=[]) (F:=pgH k o d) [_,_,_] rfl zpr (qav false s 7 zDd) (λh=>absurd h zDd) (λnm _ e' he'=>?_)) rfl;refine gak ?_
  exact panE (he'.trans rfl) hI.symm zDd
 |true=>
  rw[zn (by rw[hn];decide)] at hI;refine oS (sK (H1:=[]) (F:=pgH k o d) [_,_,_] rfl zpr (qav true s 7 zDd) (λ_=>?_) (λnm h=>absurd rfl h)) rfl;refine gaa ?_;refine oP (Pure.setHas rfl rfl zm1 hG) rfl<|oB 13 rfl (λh1=>?_) (λh1=>?_);rw[zp (zt h1)] at hI;refine gad ?_;refine oS (sK (H1:=[]) (F:=pgH k o d) [_,_,_] rfl zpr (qav false s 8 zDd) (λh=>absurd h zDd) (λnm _ e' he'=>?_)) rfl;refine gak ?_;exact panE (he'.trans rfl) hI.symm zDd;rw[zn (zf h1)] at hI;refine gad ?_;refine oS (sK (H1:=[]) (F:=pgH k o d) [_,_,_] rfl zpr (qav true s 8 zDd) (λ_=>?_) (λnm h=>absurd rfl h)) rfl;refine gaa ?_;refine oS (S.kvSet (k:=s) (lv:=bool true) rfl rfl rfl zp1 λg1=>?_) rfl;refine gaf ?_;exact qw4 rfl rN hI.symm rfl ⟨[],by rw[zLz];exact zRr _ _ _⟩ ⟨g1,rfl⟩
theorem ql3{vars arrays later:List Nm}{known:List FSum}{k:KB}(f:FnD)(hG:qdO k.G (vars++arrays++later))(hV:qdO k.V vars)(hA:qdO k.A arrays)(hF:∀ n,GL.kvGet k.F n=(known.find? λg=>decide (g.name=n)).map qjt)(hnew:f.name ∉ known.map (·.name))
  {B D:Nat} (hB:KnB B D known) (hB8:B<=50000000) (hD8:D<=100000000) (hnd:ndF f<=2000000) :
  LCalls (KC B0 w0) 93 [ptr k.cb 0,qaM f] (pgH k o d)
  (qkx (errF vars arrays later known f) (λH=>∃ nm o' d' F' g4,(∀ n,GL.kvGet F' n=((known++[sumF vars arrays later known f]).find? λg=>decide (g.name=n)).map qjt)/\H=pgH { k with name:=nm,F:=F',g4:=g4 } o' d')):=by
 have hsm:=qkX hnd;have hp6:f.params.length<=2000000:=hsm.params;have hl6:f.locals.length<=2000000:=hsm.locals
 have hbn:ndSs f.body<=2000000:=by
  unfold ndF at hnd;omega
 generalize hI:errF vars arrays later known f=E;unfold errF at hI;refine cJ Tryz.func93 (n:=82) ?_;refine gai ?_;refine oS (sB rfl λb3=>?_) rfl;refine gaa ?_;refine oS (S.kvNew λom=>?_) rfl;refine gac ?_;refine oS (sL (es:=[qeU f.params,qeU f.locals]) [_,_] rfl (eC rfl rfl (eC rfl rfl eN)) rfl rfl rfl ?_) rfl
 refine oS (S.callH (H1:=[]) (F:=_) [_] rfl zpr (qjG [f.params,f.locals] (by simp) (by
  intro l hl;rcases zMi.1 hl with rfl|hl;exact hp6;rw[zRa hl]
  exact hl6)) ?_ (by rintro ch H' ⟨v,h,_⟩;cases h)) rfl
 rintro v2 Ha2 ⟨_,h,hacc2⟩;cases h;have hfl:[f.params,f.locals].flatten=f.params++f.locals:=by simp
 rw[hfl] at hacc2;refine LOps.sub 24 rfl hacc2.sub ?_;refine LOps.weak (H':=(b3,.cells 89 [str f.name,.list (f.params.map str),.list (f.locals.map str),.list (f.body.map encS)])::ckH { k with name:=f.name,om:=om,O:=[],g5:=0 } 1) ?_ ?_
 ·refine qqg ?_
  repeat first
   |exact HSub.nil _
   |refine zhP zb1 ?_
 refine gab ?_
 refine oL (λkk ls H'=>∃ (pre l1:List Nm) (OO:KV) (gg:Nat),f.params++f.locals=pre++l1/\kk=l1.length/\ls=[(0,ptr k.cb 0),(3,ptr b3 0),(24,.list ((f.params++f.locals).map str)),(25,int .i64 (((f.params++f.locals).map str).length:Int)),(26,iv pre.length)] /\
   H'=(b3,.cells 89 [str f.name,.list (f.params.map str),.list (f.locals.map str),.list (f.body.map encS)])::ckH { k with name:=f.name,om:=om,O:=OO,g5:=gg } 1/\qdO OO pre/\orE (qce (pre.reverse++(vars++arrays++later)) l1) (qbB (envF vars arrays later known f) f.body)=E)
  ⟨_,_,_,⟨[],f.params++f.locals,[],0,rfl,rfl,rfl,rfl,qdO.nil,hI⟩,⟨rfl,rfl,rfl,rfl,rfl,trivial⟩,zhR _⟩ ?_
 rintro kk ls H' ⟨pre,l1,OO,gg,hLe,rfl,rfl,rfl,hO,hE⟩ j hj
 have hb2:pre.length<=4000000:=by
  have:=congrArg List.length hLe;rw[zLa,zLa] at this;omega
 refine gaj ?_;refine oC rfl (λhc=>?_) (λhc=>?_)
 ·have hlen:=zt hc;rw[zLm,hLe,zLa] at hlen
  obtain⟨s,l2,rfl⟩:∃ a l2,l1=a::l2:=by
   cases l1 with
   |nil=>simp at hlen
   |cons a l2=>exact⟨a,l2,rfl⟩
  rw[qd6] at hE;generalize hEn:newE (pre.reverse++(vars++arrays++later)) s=En at hE;unfold newE at hEn;refine zQ78 ?_;refine oS (sF [_] rfl (qe5 s) ?_) rfl;refine gab ?_
  cases hn:isNm s with
  |false=>
   rw[zp hn] at hEn;refine oS (sK (H1:=[]) (F:=_) [_,_,_] rfl zpr (qav false s 7 zDd) (λh=>absurd h zDd) (λnm _ e' he'=>?_)) rfl;refine gae ?_
   exact panE (he'.trans hj) (by rw[<-hE,<-hEn];rfl) zDd
  |true=>
   rw[zn (by rw[hn];decide)] at hEn;refine oS (sK (H1:=[]) (F:=_) [_,_,_] rfl zpr (qav true s 7 zDd) (λ_=>?_) (λnm h=>absurd rfl h)) rfl;refine gac ?_;refine oP (Pure.setHas rfl rfl zm2 hG) rfl<|oB 39 rfl (λh1=>?_) (λh1=>?_);have hin:s∈pre.reverse++(vars++arrays++later):=mem_append_right _ (zt h1);rw[zp hin] at hEn;refine gad ?_;refine oS (sK (H1:=[]) (F:=_) [_,_,_] rfl zpr (qav false s 8 zDd) (λh=>absurd h zDd) (λnm _ e' he'=>?_)) rfl;refine gae ?_;exact panE (he'.trans hj) (by rw[<-hE,<-hEn];rfl) zDd;refine gad ?_;refine oP (Pure.setHas rfl rfl zm6 hO) rfl<|oB 47 rfl (λh2=>?_) (λh2=>?_);have hin:s∈pre.reverse++(vars++arrays++later):=List.mem_append_left _ (List.mem_reverse.2 (zt h2));rw[zp hin] at hEn;refine gad ?_;refine oS (sK (H1:=[]) (F:=_) [_,_,_] rfl zpr (qav false s 8 zDd) (λh=>absurd h zDd) (λnm _ e' he'=>?_)) rfl;refine gae ?_;exact panE (he'.trans hj) (by rw[<-hE,<-hEn];rfl) zDd;rw[zn (λh=>(zRd h).elim (λh=>zf h2 (List.mem_reverse.1 h)) (zf h1))] at hEn;subst hEn;refine gad ?_;refine oS (sK (H1:=[]) (F:=_) [_,_,_] rfl zpr (qav true s 8 zDd) (λ_=>?_) (λnm h=>absurd rfl h)) rfl;refine gac ?_;refine oS (S.kvSet (k:=s) (lv:=bool true) rfl rfl rfl zp6 λgg2=>?_) rfl;refine gaa ?_
   exact⟨l2.length,_,_,lt_succ_self _,⟨pre++[s],l2,GL.kvPut OO s (bool true),gg2,by rw[hLe];simp,rfl,rfl,rfl,hO.add s,by
    rw[<-hE];rw[qhO l2 ((pre++[s]).reverse++(vars++arrays++later)) (s::(pre.reverse++(vars++arrays++later))) (λx=>by simp)]
    rfl⟩,⟨rfl,rfl,rfl,rfl,qao (by simp),trivial⟩,by
    repeat first
     |exact HSub.nil _
     |refine zhP zb1 ?_,hj⟩
 have hlen:=zf hc;rw[zLm,hLe,zLa] at hlen
 obtain rfl:l1=[]:=by
  cases l1 with
  |nil=>rfl
  |cons a l2=>simp at hlen;omega
 rw[zLz] at hLe;rw[<-hLe] at hO;have hE2:qbB (envF vars arrays later known f) f.body=E:=by rw[<-hE];rfl
 have hkb:KBok { k with name:=f.name,om:=om,O:=OO,g5:=gg } (envF vars arrays later known f):=⟨hG,hV,hA,hO,hF⟩;have hss:=qeB (B0:=B0) (w0:=w0) (k:={ k with name:=f.name,om:=om,O:=OO,g5:=gg }) (c:=envF vars arrays later known f) hB hD8 (n:=2000000) (zNr _) (qhy hkb hB hB8 hD8 2000000 (zNr _)) f.body 1 hbn zDd;have hnb:=qfs B D (envF vars arrays later known f) hB f.body;have hdb:=qfa B D (envF vars arrays later known f) hB f.body;refine gac ?_;refine oS (sK [_,_] rfl (Inp.swap1) hss (λh0=>?_) (λnm h0 e' he'=>?_)) rfl;rotate_left;refine gak ?_;exact panE (he'.trans hj) hE2.symm h0;refine LOps.perm (Inp.swap1 (H:=ckH _ _)).symm ?_;refine gaf ?_;have hpl:(f.params.map str).length<=2000000:=by rw[zLm];exact hp6
 refine qah.tail 20 zk ?_;refine gan ?_;refine lP (Pure.max3e 2 (f.params.length+1) (qbP (envF vars arrays later known f) f.body) rfl rfl rfl rfl (by rw[zLm];omega) rfl) rfl ?_;refine gad ?_;refine oS (S.kvSet (k:=f.name) (lv:=.agg [int .i64 ((f.params.map str).length:Int),int .i64 (max (max 2 (f.params.length+1)) (qbP (envF vars arrays later known f) f.body):Nat),int .i64 (max 1 (qcg (envF vars arrays later known f) f.body):Nat)]) rfl rfl rfl zp5 λg4=>?_) rfl;refine gaf ?_;refine qw4 hj rN (hE2.symm.trans h0) rfl (H':=pgH { k with name:=f.name,F:=GL.kvPut k.F f.name (.agg [int .i64 ((f.params.map str).length:Int),int .i64 (max (max 2 (f.params.length+1)) (qbP (envF vars arrays later known f) f.body):Nat),int .i64 (max 1 (qcg (envF vars arrays later known f) f.body):Nat)]),g4:=g4 } (.map (some om)) (max 1 (qcg (envF vars arrays later known f) f.body))) ?hs ⟨f.name,_,_,_,g4,λn=>?kv,rfl⟩
 case hs=>
  repeat first
   |exact HSub.nil _
   |refine zhP zb1 ?_
 case kv=>
  rw[GL.kvGet_put,hF n,List.find?_append]
  by_cases h1:f.name=n
  rw[zp h1]
  have h2:(known.find? λg=>decide (g.name=n))=none:=by
   rw[List.find?_eq_none];intro g hg;simp only[zDe];intro h3;exact hnew (by rw[h1,<-h3];exact mem_map_of_mem hg)
  rw[h2,none_or]
  have h4:([sumF vars arrays later known f].find? λg=>decide (g.name=n))=some (sumF vars arrays later known f):=by
   rw[List.find?_cons_of_pos];exact zRp h1
  rw[h4];show some _=some (qjt _);unfold qjt sumF;rw[<-zLm (f:=str)];rw[zn h1]
  have h4:([sumF vars arrays later known f].find? λg=>decide (g.name=n))=none:=by
   rw[List.find?_eq_none];intro g hg;rw[zRa hg];simp only[zDe];exact h1
  rw[h4,Option.or_none]
end
def encArG(a:Nm×Int):LV:=.agg [str a.1,int .i64 a.2]
def encPrG(vars:List Nm)(arrays:List (Nm×Int))(fs:List FnD):LV:=.agg [.list (vars.map str),.list (arrays.map encArG),.list (fs.map qaM)]
theorem qeX:∀ (l known:List Nm),qce known l=0->l.Nodup/\(∀ s∈l,s ∉ known)/\∀ s∈l,isNm s=true
 |[],known,_=>⟨List.nodup_nil,λs h=>(not_mem_nil h).elim,λs h=>(not_mem_nil h).elim⟩
 |s::l,known,h=>by
  rw[qce] at h;split at h;cases h
  rename_i h1
  split at h;cases h
  rename_i h2
  obtain⟨h3,h4,h5⟩:=qeX l _ h;refine⟨List.nodup_cons.2 ⟨λhm=>h4 s hm zMs,h3⟩,?_,?_⟩;intro x hx;rcases zMi.1 hx with rfl|hx;exact h2;exact λhk=>h4 x hx (zMo _ hk);intro x hx;rcases zMi.1 hx with rfl|hx;simpa using h1;exact h5 x hx
theorem qlc(h:isNm s=true):s.length<=1000:=by
 unfold isNm at h;simp only[zBa,zDe] at h;omega
theorem qkM{a b:Int}(h:a≠0):orE a b=a:=by
 unfold orE;exact zp h
theorem qgI:∀ a b:List FnD,ndFs (a++b)=ndFs a+ndFs b
 |[],b=>by rw[nil_append,ndFs,Nat.zero_add]
 |x::a,b=>by rw[cons_append,ndFs,ndFs,qgI a b];omega
theorem qkP{vars arrays later:List Nm}:∀ (l:List FnD) (known:List FSum),qeK vars arrays later known l=0->∀ f∈l,∃ k,errF vars arrays later k f=0
 |[],_,_,f,h=>(not_mem_nil h).elim
 |g::l,known,h,f,hf=>by
  rw[qeK,qac] at h;rcases zMi.1 hf with rfl|hf;exact⟨known,h.1⟩;exact qkP l _ h.2 f hf
theorem qqL{vars arrays later:List Nm}{k:List FSum}{f:FnD}(h:errF vars arrays later k f=0):∀ x∈f.params++f.locals,x.length<=1000:=by
 unfold errF at h;rw[qac] at h;intro x hx;exact qlc ((qeX _ _ h.1).2.2 x hx)
theorem qrW{l:List FSum}{m:FSum}(hn:(l.map (·.name)).Nodup)(hm:l.getLast? = some m):(l.find? λg=>decide (g.name=m.name))=some m:=by
 obtain⟨ys,rfl⟩:=List.getLast?_eq_some_iff.1 hm;rw[List.find?_append]
 have h1:(ys.find? λg=>decide (g.name=m.name))=none:=by
  rw[List.find?_eq_none];intro g hg;simp only[zDe];intro h2;rw[zMa] at hn;exact(zRc hn).2.2 _ (mem_map_of_mem hg) _ (mem_map_of_mem (List.mem_singleton_self m)) h2
 rw[h1,none_or,List.find?_cons_of_pos];exact zRp rfl
theorem qjw{vars arrays later:List Nm}:∀ (l:List FnD) (known:List FSum),(qjO vars arrays later known l).map (·.name)=known.map (·.name)++l.map (·.name)
 |[],known=>by rw[qjO];simp
 |f::l,known=>by
  rw[qjO,qjw l];simp[sumF]
theorem qh0{pre l:List Nm}{FR:Int}(h:qce pre (s::l)=FR)(h0:newE pre s=0):qce (pre++[s]) l=FR:=by
 rw[<-h,qd6,h0,qhO l (pre++[s]) (s::pre) (λx=>by simp[or_comm])];rfl
theorem qjq{pre l:List Nm}{FR RA E:Int}(hI:orE FR RA=E)(h:qce pre (s::l)=FR)(h0:newE pre s≠0):E=newE pre s:=by
 rw[<-hI,<-h,qd6,qkM (a:=orE _ _) (by rw[qkM h0];exact h0),qkM h0]
section
variable{B0:Nat}{w0:World}
theorem qdo{k:KB}(vars:List Nm)(arrays:List (Nm×Int))(fs:List FnD)(hk1:k.G=[])(hk2:k.V=[])(hk3:k.A=[])(hk4:k.F=[])(hv6:vars.length<=2000000)(ha6:arrays.length<=2000000)(har:∀ a∈arrays,-9223372036854775808<=a.2/\a.2<9223372036854775808)(hnd:ndFs fs<=2000000) :
  LCalls (KC B0 w0) 35 [ptr k.cb 0,encPrG vars arrays fs] (pgH k o d) (qkx (qb5 vars arrays fs) (λH=>H=[])):=by
 have hf6:fs.length<=2000000:=zNt (ndFs_len fs) hnd;generalize hI:qb5 vars arrays fs=E;unfold qb5 at hI;generalize hFR:qce [] (vars++arrays.map (·.1)++fs.map (·.name))=FR at hI;generalize hSZ:qgZ 0 (arrays.map (·.2))=SZ at hI;generalize hFS:qeK vars (arrays.map (·.1)) (fs.map (·.name)) [] fs=FS at hI;generalize hSS:qjO vars (arrays.map (·.1)) (fs.map (·.name)) [] fs=SS at hI;generalize hMN:qtu vars fs SS=MN at hI;generalize hRA:orE SZ (orE FS MN)=RA at hI;refine cJ Tryz.func35 (n:=147) ?_;refine gai ?_;refine oS (sB rfl λb3=>?_) rfl;refine gac ?_
 refine oL (λkk ls H'=>∃ (pre l1:List Nm) (G1 V1:KV) (g1 g2:Nat),vars=pre++l1/\kk=l1.length/\ls=[(0,ptr k.cb 0),(3,ptr b3 0),(18,.list (vars.map str)),(19,int .i64 ((vars.map str).length:Int)),(20,iv pre.length)] /\
   H'=(b3,.cells 28 [.list (vars.map str),.list (arrays.map encArG),.list (fs.map qaM)])::pgH { k with G:=G1,g1:=g1,V:=V1,g2:=g2 } o d/\qdO G1 pre/\qdO V1 pre/\qce pre (l1++arrays.map (·.1)++fs.map (·.name))=FR)
  ⟨_,_,_,⟨[],vars,k.G,k.V,k.g1,k.g2,rfl,rfl,rfl,rfl,by rw[hk1];exact qdO.nil,by rw[hk2];exact qdO.nil,hFR⟩,⟨rfl,rfl,rfl,rfl,rfl,trivial⟩,zhR _⟩ ?_
 rintro kk ls H' ⟨pre,l1,G1,V1,g1,g2,hLe,rfl,rfl,rfl,hG1,hV1,hE⟩ j hj
 have hb2:pre.length<=2000000:=by
  have:=congrArg List.length hLe;rw[zLa] at this;omega
 refine gaj ?_;refine oC rfl (λhc=>?_) (λhc=>?_)
 ·have hlen:=zt hc;rw[zLm,hLe,zLa] at hlen
  obtain⟨s,l2,rfl⟩:∃ a l2,l1=a::l2:=by
   cases l1 with
   |nil=>simp at hlen
   |cons a l2=>exact⟨a,l2,rfl⟩
  rw[cons_append,cons_append] at hE;refine zQ78 ?_;refine oS (S.callE (F:=[_]) [_,_] rfl (Inp.swap1) (qgv (k:={ k with G:=G1,g1:=g1,V:=V1,g2:=g2 }) (o:=o) (d:=d) hG1 s) (λH2 h0 hP=>?_) (λnm h0 e' he'=>?_)) rfl;rotate_left;refine gae ?_;exact panE (he'.trans hj) (qjq hI hE h0) h0;obtain⟨g1',rfl⟩:=hP;refine LOps.perm (Inp.swap1 (H:=pgH _ _ _)).symm ?_;refine gac ?_;refine oS (S.kvSet (k:=s) (lv:=bool true) rfl rfl rfl zp3 λg2'=>?_) rfl;refine gaa ?_;refine⟨l2.length,_,_,lt_succ_self _,⟨pre++[s],l2,GL.kvPut G1 s (bool true),GL.kvPut V1 s (bool true),g1',g2',by rw[hLe];simp,rfl,rfl,rfl,hG1.add s,hV1.add s,qh0 hE h0⟩,⟨rfl,rfl,rfl,rfl,qao (by simp),trivial⟩,?_,hj⟩
  repeat first
   |exact HSub.nil _
   |refine zhP zb1 ?_
 have hlen:=zf hc;rw[zLm,hLe,zLa] at hlen
 obtain rfl:l1=[]:=by
  cases l1 with
  |nil=>rfl
  |cons a l2=>simp at hlen;omega
 rw[zLz] at hLe;subst hLe;rw[nil_append] at hE;clear hlen hc hb2;refine gac ?_
 refine oL (λkk ls H'=>∃ (pre l1:List (Nm×Int)) (G1 A1:KV) (g1 g3:Nat),arrays=pre++l1/\kk=l1.length/\ls=[(0,ptr k.cb 0),(3,ptr b3 0),(34,.list (arrays.map encArG)),(35,int .i64 ((arrays.map encArG).length:Int)),(36,iv pre.length)] /\
   H'=(b3,.cells 28 [.list (vars.map str),.list (arrays.map encArG),.list (fs.map qaM)])::pgH { k with G:=G1,g1:=g1,V:=V1,g2:=g2,A:=A1,g3:=g3 } o d/\qdO G1 (vars++pre.map (·.1))/\qdO A1 (pre.map (·.1))/\qce (vars++pre.map (·.1)) (l1.map (·.1)++fs.map (·.name))=FR)
  ⟨_,_,_,⟨[],arrays,G1,k.A,g1,k.g3,rfl,rfl,rfl,rfl,by simpa using hG1,by rw[hk3];exact qdO.nil,by simpa using hE⟩,⟨rfl,rfl,rfl,rfl,rfl,trivial⟩,zhR _⟩ ?_
 clear hG1 hE G1 g1;rintro kk ls H' ⟨pre,l1,G1,A1,g1,g3,hLe,rfl,rfl,rfl,hG1,hA1,hE⟩ j hj2
 have hb2:pre.length<=2000000:=by
  have:=congrArg List.length hLe;rw[zLa] at this;omega
 refine gaj ?_;refine oC rfl (λhc=>?_) (λhc=>?_)
 ·have hlen:=zt hc;rw[zLm,hLe,zLa] at hlen
  obtain⟨s,l2,rfl⟩:∃ a l2,l1=a::l2:=by
   cases l1 with
   |nil=>simp at hlen
   |cons a l2=>exact⟨a,l2,rfl⟩
  rw[zMc,cons_append] at hE;refine zQ65 ?_;refine oS (sA λb7=>?_) rfl;refine gac ?_;refine oS (S.callE (F:=[_,_]) [_,_] rfl (zPc (l₁:=[_,_])) (qgv (k:={ k with G:=G1,g1:=g1,V:=V1,g2:=g2,A:=A1,g3:=g3 }) (o:=o) (d:=d) hG1 s.1) (λH2 h0 hP=>?_) (λnm h0 e' he'=>?_)) rfl;rotate_left;refine gae ?_;exact panE (he'.trans (hj2.trans hj)) (qjq hI hE h0) h0;obtain⟨g1',rfl⟩:=hP
  refine LOps.weak (H':=[(b7,.cells 86 [str s.1,int .i64 s.2]),(k.cb,.cells 105 [.atom (.map (some k.gm)),.atom (.map (some k.vm)),.atom (.map (some k.am)),.atom (.map (some k.fm)),str k.name,.atom o,int .i64 (d:Int)]),(b3,.cells 28 [.list (vars.map str),.list (arrays.map encArG),.list (fs.map qaM)]),
   (k.gm,.map (kvs (GL.kvPut G1 s.1 (bool true))) g1'),(k.vm,.map (kvs V1) g2),(k.am,.map (kvs A1) g3),(k.fm,.map (kvs k.F) k.g4)]) ?_ ?_
  ·repeat first
    |exact HSub.nil _
    |refine zhP zb1 ?_
  refine gaf ?_;refine cD (m:=7) rfl [(b7,.cells 86 [str s.1,int .i64 s.2]),(k.cb,.cells 105 [.atom (.map (some k.gm)),.atom (.map (some k.vm)),.atom (.map (some k.am)),.atom (.map (some k.fm)),str k.name,.atom o,int .i64 (d:Int)])]<|zQ28 ?_;refine aL ?_ (zhP pH zhp);refine lO 6 (lS (H1:=[(k.am,.map (kvs A1) g3)]) rfl (.inl rfl) rfl (show Pick _ _ _ from pT zp4) (zhP pH zhp) (S.kvSet (k:=s.1) (lv:=bool true) rfl rfl rfl pH λg3'=>?_));refine zQ64 ?_;refine⟨l2.length,_,_,lt_succ_self _,⟨pre++[s],l2,GL.kvPut G1 s.1 (bool true),GL.kvPut A1 s.1 (bool true),g1',g3',by rw[hLe];simp,rfl,rfl,rfl,by simpa using hG1.add s.1,by simpa using hA1.add s.1,by simpa using qh0 hE h0⟩,⟨rfl,rfl,rfl,rfl,qao (by simp),trivial⟩,?_,hj2⟩
  repeat first
   |exact HSub.nil _
   |refine zhP zb1 ?_
 have hlen:=zf hc;rw[zLm,hLe,zLa] at hlen
 obtain rfl:l1=[]:=by
  cases l1 with
  |nil=>rfl
  |cons a l2=>simp at hlen;omega
 rw[zLz] at hLe;subst hLe;rw[List.map_nil,nil_append] at hE;clear hlen hc hb2;refine gac ?_
 refine oL (λkk ls H'=>∃ (pre l1:List FnD) (G1:KV) (g1:Nat),fs=pre++l1/\kk=l1.length/\ls=[(0,ptr k.cb 0),(3,ptr b3 0),(52,.list (fs.map qaM)),(53,int .i64 ((fs.map qaM).length:Int)),(54,iv pre.length)] /\
   H'=(b3,.cells 28 [.list (vars.map str),.list (arrays.map encArG),.list (fs.map qaM)])::pgH { k with G:=G1,g1:=g1,V:=V1,g2:=g2,A:=A1,g3:=g3 } o d/\qdO G1 (vars++arrays.map (·.1)++pre.map (·.name))/\qce (vars++arrays.map (·.1)++pre.map (·.name)) (l1.map (·.name))=FR)
  ⟨_,_,_,⟨[],fs,G1,g1,rfl,rfl,rfl,rfl,by simpa using hG1,by simpa using hE⟩,⟨rfl,rfl,rfl,rfl,rfl,trivial⟩,zhR _⟩ ?_
 clear hG1 hE G1 g1;rintro kk ls H' ⟨pre,l1,G1,g1,hLe,rfl,rfl,rfl,hG1,hE⟩ j hj3
 have hb2:pre.length<=2000000:=by
  have:=congrArg List.length hLe;rw[zLa] at this;omega
 refine gaj ?_;refine oC rfl (λhc=>?_) (λhc=>?_)
 ·have hlen:=zt hc;rw[zLm,hLe,zLa] at hlen
  obtain⟨s,l2,rfl⟩:∃ a l2,l1=a::l2:=by
   cases l1 with
   |nil=>simp at hlen
   |cons a l2=>exact⟨a,l2,rfl⟩
  rw[zMc] at hE;refine zQ76 ?_;refine oS (sA λb7=>?_) rfl;refine gac ?_;refine oS (S.callE (F:=[_,_]) [_,_] rfl (zPc (l₁:=[_,_])) (qgv (k:={ k with G:=G1,g1:=g1,V:=V1,g2:=g2,A:=A1,g3:=g3 }) (o:=o) (d:=d) hG1 s.name) (λH2 h0 hP=>?_) (λnm h0 e' he'=>?_)) rfl;rotate_left;refine gae ?_;exact panE (he'.trans (hj3.trans (hj2.trans hj))) (qjq hI hE h0) h0;obtain⟨g1',rfl⟩:=hP;refine LOps.perm (zPc (l₂:=[_,_])) ?_;refine gaa ?_;refine⟨l2.length,_,_,lt_succ_self _,⟨pre++[s],l2,GL.kvPut G1 s.name (bool true),g1',by rw[hLe];simp,rfl,rfl,rfl,by simpa using hG1.add s.name,by simpa using qh0 hE h0⟩,⟨rfl,rfl,rfl,rfl,qao (by simp),trivial⟩,zhD zhr,hj3⟩
 have hlen:=zf hc;rw[zLm,hLe,zLa] at hlen
 obtain rfl:l1=[]:=by
  cases l1 with
  |nil=>rfl
  |cons a l2=>simp at hlen;omega
 rw[zLz] at hLe;subst hLe;have hFR0:FR=0:=hE.symm;clear hlen hc hb2 hE;rw[hFR0] at hI;have hnod:=(qeX _ _ (hFR.trans hFR0)).1;have hnmok:=(qeX _ _ (hFR.trans hFR0)).2.2;have hI1:RA=E:=by rw[<-hI];rfl
 rw[<-hRA] at hI1;clear hI hRA hFR;have hPr:0<=(0:Int)/\(0:Int)<=150000:=⟨by decide,by decide⟩;refine gac ?_
 refine oL (λkk ls H'=>∃ (pre l1:List (Nm×Int)) (T:Int),arrays=pre++l1/\kk=l1.length/\ls=[(0,ptr k.cb 0),(3,ptr b3 0),(10,int .i64 T),(64,.list (arrays.map encArG)),(65,int .i64 ((arrays.map encArG).length:Int)),(66,iv pre.length)] /\
   H'=(b3,.cells 28 [.list (vars.map str),.list (arrays.map encArG),.list (fs.map qaM)])::pgH { k with G:=G1,g1:=g1,V:=V1,g2:=g2,A:=A1,g3:=g3 } o d/\(0<=T/\T<=150000)/\qgZ T (l1.map (·.2))=SZ)
  ⟨_,_,_,⟨[],arrays,0,rfl,rfl,rfl,rfl,hPr,hSZ⟩,⟨rfl,rfl,rfl,rfl,rfl,rfl,trivial⟩,zhR _⟩ ?_
 clear hSZ;rintro kk ls H' ⟨pre,l1,T,hLe,rfl,rfl,rfl,⟨hT1,hT2⟩,hE⟩ j hj4
 have hb2:pre.length<=2000000:=by
  have:=congrArg List.length hLe;rw[zLa] at this;omega
 refine gaj ?_;refine oC rfl (λhc=>?_) (λhc=>?_)
 ·have hlen:=zt hc;rw[zLm,hLe,zLa] at hlen
  obtain⟨s,l2,rfl⟩:∃ a l2,l1=a::l2:=by
   cases l1 with
   |nil=>simp at hlen
   |cons a l2=>exact⟨a,l2,rfl⟩
  obtain⟨hs1,hs2⟩:=har s (by rw[hLe];exact mem_append_right _ zMs);rw[zMc,qgZ] at hE;refine zQ65 ?_;refine oS (sA λb7=>?_) rfl;refine gac ?_;refine oB 72 rfl (λh1=>?_) (λh1=>?_);rotate_left;have h2:s.2<=0:=by have:=zf h1;omega
  rw[zp h2] at hE;refine oS (sK (H1:=[]) (F:=_) [_,_,_] rfl zpr (qav false s.1 2 zDd) (λh=>absurd h zDd) (λnm _ e' he'=>?_)) rfl;refine gae ?_;exact panE (he'.trans (hj4.trans (hj3.trans (hj2.trans hj)))) (by rw[<-hI1,<-hE];rfl) zDd;have h2:¬ s.2<=0:=by have:=zt h1;omega
  rw[zn h2] at hE;refine oS (sK (H1:=[]) (F:=_) [_,_,_] rfl zpr (qav true s.1 2 zDd) (λ_=>?_) (λnm h=>absurd rfl h)) rfl;refine gac ?_;refine oB 80 rfl (λh3=>?_) (λh3=>?_);rotate_left;have h4:150000-T<s.2:=by have:=zf h3;omega
  rw[zp h4] at hE;refine oS (sK (H1:=[]) (F:=_) [_,_,_] rfl zpr (qav false s.1 6 zDd) (λh=>absurd h zDd) (λnm _ e' he'=>?_)) rfl;refine gae ?_;exact panE (he'.trans (hj4.trans (hj3.trans (hj2.trans hj)))) (by rw[<-hI1,<-hE];rfl) zDd;have h4:¬ 150000-T<s.2:=by have:=zt h3;omega
  rw[zn h4] at hE;refine oS (sK (H1:=[]) (F:=_) [_,_,_] rfl zpr (qav true s.1 6 zDd) (λ_=>?_) (λnm h=>absurd rfl h)) rfl;refine gaa ?_;exact⟨l2.length,_,_,lt_succ_self _,⟨pre++[s],l2,T+s.2,by rw[hLe];simp,rfl,rfl,rfl,⟨by omega,by omega⟩,hE⟩,⟨rfl,rfl,rfl,rfl,rfl,qao (by simp),trivial⟩,zhD zhr,hj4⟩
 have hlen:=zf hc;rw[zLm,hLe,zLa] at hlen
 obtain rfl:l1=[]:=by
  cases l1 with
  |nil=>rfl
  |cons a l2=>simp at hlen;omega
 have hSZ0:SZ=0:=by rw[<-hE];rfl
 rw[hSZ0] at hI1;have hI2:orE FS MN=E:=by rw[<-hI1];rfl
 clear hI1 hlen hc hb2 hLe hE;have hnf:(fs.map (·.name)).Nodup:=(zRc hnod).2.1;have hds:j.ds=[]:=hj4.trans (hj3.trans (hj2.trans hj));clear hj hj2 hj3 hj4;refine gac ?_
 refine oL (λkk ls H'=>∃ (pre l1:List FnD) (known:List FSum) (F1:KV) (g4:Nat) (nm:Nm) (o1:Value) (d1:Nat),fs=pre++l1/\kk=l1.length/\ls=[(0,ptr k.cb 0),(3,ptr b3 0),(90,.list (fs.map qaM)),(91,int .i64 ((fs.map qaM).length:Int)),(92,iv pre.length)] /\
   H'=(b3,.cells 28 [.list (vars.map str),.list (arrays.map encArG),.list (fs.map qaM)])::pgH { k with name:=nm,G:=G1,g1:=g1,V:=V1,g2:=g2,A:=A1,g3:=g3,F:=F1,g4:=g4 } o1 d1/\(∀ n,GL.kvGet F1 n=(known.find? λg=>decide (g.name=n)).map qjt)/\known.map (·.name)=pre.map (·.name) /\
   qeK vars (arrays.map (·.1)) (fs.map (·.name)) known l1=FS/\qjO vars (arrays.map (·.1)) (fs.map (·.name)) known l1=SS/\KnB (8 * ndFs pre) pre.length known)
  ⟨_,_,_,⟨[],fs,[],k.F,k.g4,k.name,o,d,rfl,rfl,rfl,rfl,λn=>by rw[hk4];rfl,rfl,hFS,hSS,λx hx=>(not_mem_nil hx).elim⟩,⟨rfl,rfl,rfl,rfl,rfl,trivial⟩,zhR _⟩ ?_
 rintro kk ls H' ⟨pre,l1,known,F1,g4,nm,o1,d1,hLe,rfl,rfl,rfl,hF,hkn,hE,hS,hB⟩ j2 hj2
 have hb2:pre.length<=2000000:=by
  have:=congrArg List.length hLe;rw[zLa] at this;omega
 refine gaj ?_;refine oC rfl (λhc=>?_) (λhc=>?_)
 ·have hlen:=zt hc;rw[zLm,hLe,zLa] at hlen
  obtain⟨s,l2,rfl⟩:∃ a l2,l1=a::l2:=by
   cases l1 with
   |nil=>simp at hlen
   |cons a l2=>exact⟨a,l2,rfl⟩
  have hsz:ndFs pre+ndF s<=2000000:=by
   have:=hnd;rw[hLe,qgI,ndFs] at this;omega
  have hnew:s.name ∉ known.map (·.name):=by
   rw[hkn];have:=hnf;rw[hLe,zMa,zMc] at this;intro hm;exact(zRc this).2.2 _ hm _ zMs rfl
  rw[qeK] at hE;rw[qjO] at hS;refine zQ76 ?_;refine oS (sA λb7=>?_) rfl;refine gac ?_;refine oS (S.callE (F:=[_,_]) [_,_] rfl (zPc (l₁:=[_,_])) (ql3 (vars:=vars) (arrays:=arrays.map (·.1)) (later:=fs.map (·.name)) (known:=known) (k:={ k with name:=nm,G:=G1,g1:=g1,V:=V1,g2:=g2,A:=A1,g3:=g3,F:=F1,g4:=g4 }) (o:=o1) (d:=d1) s hG1 hV1 hA1 hF hnew hB zo zo zo) (λH2 h0 hP=>?_) (λnm h0 e' he'=>?_)) rfl;rotate_left;refine gae ?_;exact panE (he'.trans (hj2.trans hds)) (by rw[<-hI2,<-hE,qkM (a:=orE _ _) (by rw[qkM h0];exact h0),qkM h0]) h0;obtain⟨nm',o',d',F',g4',hF',rfl⟩:=hP;refine LOps.perm (zPc (l₂:=[_,_])) ?_;refine gaa ?_;refine⟨l2.length,_,_,lt_succ_self _,⟨pre++[s],l2,known++[sumF vars (arrays.map (·.1)) (fs.map (·.name)) known s],F',g4',nm',o',d',by rw[hLe];simp,rfl,rfl,rfl,hF',?_,by rw[<-hE,h0];rfl,hS,?_⟩,⟨rfl,rfl,rfl,rfl,qao (by simp),trivial⟩,zhD zhr,hj2⟩;rw[zMa,zMa,hkn];rfl;have h1:=qvQ (vars:=vars) (arrays:=arrays.map (·.1)) (later:=fs.map (·.name)) (f:=s) hB;have h2:ndFs (pre++[s])=ndFs pre+ndF s:=by rw[qgI,ndFs,ndFs];rfl
  intro g hg;rw[h2,zLa,List.length_singleton];rcases zRd hg with hg|hg;obtain⟨a1,a2,a3⟩:=hB g hg;exact⟨by omega,by omega,by omega⟩;obtain rfl:=zRa hg;obtain⟨a1,a2,a3⟩:=h1;exact⟨by omega,by omega,by omega⟩
 have hlen:=zf hc;rw[zLm,hLe,zLa] at hlen
 obtain rfl:l1=[]:=by
  cases l1 with
  |nil=>rfl
  |cons a l2=>simp at hlen;omega
 have hFS0:FS=0:=by rw[<-hE];rfl
 have hknS:known=SS:=by rw[<-hS];rfl
 rw[hFS0] at hI2;have hI3:MN=E:=by rw[<-hI2];rfl
 clear hlen hc hb2 hLe hE;subst hknS;have hall:=qkP fs [] (hFS.trans hFS0)
 have hnn:∀ f∈fs,f.name.length<=1000/\∀ x∈f.params++f.locals,x.length<=1000:=λf hf=>by
  obtain⟨kk,hk⟩:=hall f hf;exact⟨qlc (hnmok f.name (mem_append_right _ (mem_map_of_mem hf))),qqL hk⟩
 have hsm:∀ f∈fs,SmF f:=λf hf=>qkX (zNt (qgS hf) hnd);have hds2:=hj2.trans hds;unfold qtu at hMN;refine gac ?_
 cases hfl:fs.getLast? with
 |none=>
  have hf0:fs=[]:=List.getLast?_eq_none_iff.1 hfl;rw[hfl] at hMN;refine oB 105 rfl (λh=>absurd (zt h) (by rw[hf0];decide)) (λ_=>?_);refine gab ?_;refine oS (sK (H1:=[]) (F:=_) [_,_,_] rfl zpr (qav false [109,97,105,110] 9 zDd) (λh=>absurd h zDd) (λnm _ e' he'=>?_)) rfl;refine gak ?_
  exact panE (he'.trans hds2) (hI3.symm.trans hMN.symm) zDd
 |some f=>
  obtain⟨ys,hys⟩:=List.getLast?_eq_some_iff.1 hfl;have hln:(fs.map qaM).length=ys.length+1:=by rw[zLm,hys,zLa];rfl
  have hl6:(fs.map qaM).length<=2000000:=by rw[zLm];exact hf6
  have hn0:(0:Int)<=((fs.map qaM).length:Int)-1:=by omega
  have hget:(fs.map qaM)[(((fs.map qaM).length:Int)-1).toNat]? = some (qaM f):=by
   rw[show(((fs.map qaM).length:Int)-1).toNat=ys.length by omega,hys,zMa];rw[List.getElem?_append_right (by rw[zLm];exact zNr _),zLm,sub_self];rfl
  have hnms:known.map (·.name)=fs.map (·.name):=by
   rw[<-hSS,qjw];rfl
  obtain⟨m,hm⟩:∃ m,known.getLast? = some m:=by
   cases hx:known.getLast? with
   |some m=>exact⟨m,rfl⟩
   |none=>
    rw[List.getLast?_eq_none_iff.1 hx,hys] at hnms;simp at hnms
  have hmf:m.name=f.name:=by
   have h1:=congrArg List.getLast? hnms;rw[List.getLast?_map,List.getLast?_map,hm,hfl] at h1;exact Option.some.inj h1
  have hfind:=qrW (by rw[hnms];exact hnf) hm;rw[hfl,hm] at hMN
  replace hMN:(if f.name=[109,97,105,110]/\f.params=[] then (if (qaf vars fs).length<=8000/\m.need<=200/\m.depth<=60 then 0 else 6) else 9)=MN:=hMN
  rw[hI3] at hMN;refine oB 105 rfl (λ_=>?_) (λh=>absurd (show((fs.map qaM).length:Int) > 0 by omega) (zf h));refine gad ?_
  first|refine LOps.want rfl rfl ?_|skip
  refine zQ48 ?_;refine oB 115 rfl (λh1=>?_) (λh1=>?_);rotate_left;rw[zn (λh=>zf h1 h.1)] at hMN;refine gab ?_;refine oS (sK (H1:=[]) (F:=_) [_,_,_] rfl zpr (qav false [109,97,105,110] 9 zDd) (λh=>absurd h zDd) (λnm _ e' he'=>?_)) rfl;refine gak ?_;exact panE (he'.trans hds2) hMN.symm zDd;have hmain:f.name=[109,97,105,110]:=zt h1;refine gad ?_
  first|refine LOps.want rfl rfl ?_|skip
  refine zQ48 ?_;refine oB 125 rfl (λh2=>?_) (λh2=>?_);rotate_left;rw[zn (λh=>zf h2 (by rw[h.2];rfl))] at hMN;refine oS (sK (H1:=[]) (F:=_) [_,_,_] rfl zpr (qav false [109,97,105,110] 9 zDd) (λh=>absurd h zDd) (λnm _ e' he'=>?_)) rfl;refine gak ?_;exact panE (he'.trans hds2) hMN.symm zDd
  have hpar:f.params=[]:=by
   have h3:=zt h2;rw[zLm] at h3;exact List.length_eq_zero_iff.1 zo
  rw[zp ⟨hmain,hpar⟩] at hMN;refine oS (sK (H1:=[]) (F:=_) [_,_,_] rfl zpr (qav true [109,97,105,110] 9 zDd) (λ_=>?_) (λnm h=>absurd rfl h)) rfl
  have hgF:GL.kvGet F1 [109,97,105,110]=some (qjt m):=by
   rw[hF,<-hmain,<-hmf,hfind];rfl
  refine gac ?_;refine oP (Pure.kvHit rfl rfl zm5 hgF) rfl<|oS (sA λb16=>?_) rfl;refine gac ?_;refine oS (sF [_] rfl (scalars_specG (.list (arrays.map encArG)) hv6 hf6 hsm hnn) ?_) rfl;refine gan ?_;refine oB 136 rfl (λh3=>?_) (λh3=>?_);rotate_left;have hbad:¬ ((qaf vars fs).length<=8000/\m.need<=200/\m.depth<=60):=λh=>zf h3 (by rw[zLm];have:=h.1;omega);rw[zn hbad] at hMN;refine gab ?_;refine oS (sK (H1:=[]) (F:=_) [_,_,_] rfl zpr (qav false [109,97,105,110] 6 zDd) (λh=>absurd h zDd) (λnm _ e' he'=>?_)) rfl;exact panE (he'.trans hds2) hMN.symm zDd
  have h3':(qaf vars fs).length<=8000:=by
   have:=zt h3;rw[zLm] at this;omega
  refine gan ?_;refine oB 141 rfl (λh4=>?_) (λh4=>?_);rotate_left;have hbad:¬ ((qaf vars fs).length<=8000/\m.need<=200/\m.depth<=60):=λh=>zf h4 (by have:=h.2.1;omega);rw[zn hbad] at hMN;refine gab ?_;refine oS (sK (H1:=[]) (F:=_) [_,_,_] rfl zpr (qav false [109,97,105,110] 6 zDd) (λh=>absurd h zDd) (λnm _ e' he'=>?_)) rfl;exact panE (he'.trans hds2) hMN.symm zDd
  have h4':m.need<=200:=by
   have:=zt h4;omega
  refine gan ?_;refine oB 145 rfl (λh5=>?_) (λh5=>?_);rotate_left;have hbad:¬ ((qaf vars fs).length<=8000/\m.need<=200/\m.depth<=60):=λh=>zf h5 (by have:=h.2.2;omega);rw[zn hbad] at hMN;refine oS (sK (H1:=[]) (F:=_) [_,_,_] rfl zpr (qav false [109,97,105,110] 6 zDd) (λh=>absurd h zDd) (λnm _ e' he'=>?_)) rfl;exact panE (he'.trans hds2) hMN.symm zDd
  have h5':m.depth<=60:=by
   have:=zt h5;omega
  rw[zp ⟨h3',h4',h5'⟩] at hMN;refine oS (sK (H1:=[]) (F:=_) [_,_,_] rfl zpr (qav true [109,97,105,110] 6 zDd) (λ_=>?_) (λnm h=>absurd rfl h)) rfl;refine gaf ?_;exact qw4 hds2 rN hMN.symm rfl zhn rfl
end
section
variable{C:Ctx}{e:Env}{H:Heap}{dst:Option Nat}{ty:TypeId}{pos:String}{aft:Array Edge}{g:Option (Nat×Bool)}{x:Operand}
theorem Pure.assertNil{t xT:TypeId} [ht:TConcrete C.P t]{zs:List Value}(hz:∀ w,(zeroValue t).run C.P w=.ok (.agg zs.toArray) w)(hx:e.ev x=.atom .nilIface):Go.GL.Pure C ⟨dst,.typeAssert x xT t true,ty,pos,aft,g⟩ e H (.tuple [.agg (zs.map .atom),bool false]):=
 .of_any λρ w L h=>⟨.tuple #[.agg zs.toArray,.bool false],by
  simp only[Rep];exact⟨[.agg zs.toArray,.bool false],rfl,by simp only[RepL,Rep];exact⟨_,_,rfl,⟨zs,rfl,qa1 zs⟩,_,_,rfl,rfl,rfl⟩⟩,λw'=>by
  obtain⟨d,hd,hm⟩:=ht.out;have h3:execOp ρ ⟨dst,.typeAssert x xT t true,ty,pos,aft,g⟩=(do Pure.pure (.value (<-Instr.typeAssert (ρ x) xT t true))):=rfl;rw[h3,qag h hx];simp only[Instr.typeAssert,zRt,qaa hd,zRv]
  cases d <;> simp_all [zRt]⟩
end
theorem quy(w:World):(zeroValue 99).run Tryz.prog w=.ok (.agg [.string ⟨#[]⟩,.int .i64 0].toArray) w:=
 (Go.zero_of_info (P:=Tryz.prog) (n:=2) zk).1 w
attribute [local irreducible] qbX qaI qdz qa9
section
variable{B0:Nat}{w0:World}
theorem quw(b2 b3:Nat)(c d:LV):qa9 (KC B0 w0) 34 [ptr b2 0,ptr b3 0] .returning [(b2,.cells 9 [c]),(b3,.cells 29 [d])]
  (λu H=>u=.returning/\H=[(b2,.cells 9 [c]),(b3,.cells 29 [d])]):=by
 refine qa9.intro Tryz.func34 rfl (n:=19) rfl rfl rfl ?_;refine zQ19 ?_;refine gah ?_;refine oP (Pure.assertNil quy rfl) rfl<|gad ?_;refine oS (sA λb5=>?_) rfl;refine gac ?_;refine oC rfl (λhc=>?_) (λhc=>?_);cases hc;refine gac ?_;refine oC rfl (λhc=>?_) (λhc=>?_);cases hc;refine gab ?_;exact⟨rfl,_,zhD zhr,rfl,rfl⟩
theorem qt0(b2 b3:Nat)(c d:LV)(nm:List UInt8)(er:Int):qa9 (KC B0 w0) 34 [ptr b2 0,ptr b3 0] (.panicking (vio nm er)) [(b2,.cells 9 [c]),(b3,.cells 29 [d])]
  (λu H=>settle u=.returning/\H=[(b2,.cells 9 [str nm]),(b3,.cells 29 [int .i64 er])]):=by
 refine qa9.intro Tryz.func34 rfl (n:=19) rfl rfl rfl ?_;refine zQ19 ?_;refine gah ?_;refine oP (Pure.assertOk (vs:=[.string ⟨nm.toArray⟩,.int .i64 er]) rfl) rfl<|gad ?_;refine oS (sA λb5=>?_) rfl;refine gac ?_;refine oC rfl (λhc=>?_) (λhc=>?_)
 ·skip
  refine cD (m:=6) rfl [(b5,.cells 99 [str nm,int .i64 er])]<|aT 0 rfl rfl (pF rfl)<|aT 1 rfl rfl (pL (c:=.atom _) rfl zm0 rfl)<|aT 2 rfl rfl (pF rfl)<|aT 3 rfl rfl (pL (c:=.atom _) rfl zm0 rfl)<|aL ?_ zhp;refine lO 4 (lS (H1:=[(b2,.cells 9 [c])]) (F:=[(b5,.cells 99 [str nm,int .i64 er]),(b3,.cells 29 [d])]) rfl (.inl rfl) rfl zp1 zhp (sS (cs':=[_]) rfl pH rfl rfl rfl rfl rfl ?_));refine lO 5 (lS (H1:=[(b3,.cells 29 [d])]) (F:=[(b2,.cells 9 [str nm]),(b5,.cells 99 [str nm,int .i64 er])]) rfl (.inl rfl) rfl zp2 (zhP zp1 zhn) (sS (cs':=[_]) rfl pH rfl rfl rfl rfl rfl ?_));refine lD zk ?_;exact⟨rfl,_,zhP zp1 zhp,rfl,rfl⟩
 cases hc
theorem check_spec(vars:List Nm)(arrays:List (Nm×Int))(fs:List FnD)(hv6:vars.length<=2000000)(ha6:arrays.length<=2000000)(har:∀ a∈arrays,-9223372036854775808<=a.2/\a.2<9223372036854775808)(hnd:ndFs fs<=2000000) :
  LCalls (KC B0 w0) 16 [encPrG vars arrays fs] [] (λr H=>H=[]/\∃ nm,r=.ret (.tuple [str nm,int .i64 (qb5 vars arrays fs)])):=by
 generalize hE:qb5 vars arrays fs=E;refine LCalls.introD Tryz.func16 rfl (n:=15) rfl rfl rfl ?_;refine zQ34 ?_;refine gai ?_;refine oS (sB rfl λb1=>oS (sA λb2=>?_) rfl) rfl;refine oS (sA λb3=>?_) rfl;refine gaf ?_;refine zQ24 ?_;refine zQ34 ?_;refine gai ?_;refine oS (S.kvNew λgm=>oS (S.kvNew λvm=>?_) rfl) rfl;refine oS (S.kvNew λam=>oS (S.kvNew λfm=>?_) rfl) rfl;refine gad ?_;refine oS (sB rfl λcb=>?_) rfl;refine LOps.weak (H':=pgH ⟨cb,gm,vm,am,fm,0,[],[],[],[],[],0,0,0,0,0,[]⟩ (.map none) 0++[(b3,.cells 29 [int .i64 0]),(b2,.cells 9 [str []]),(b1,.cells 28 [.list (vars.map str),.list (arrays.map encArG),.list (fs.map qaM)])]) ?_ ?_
 ·repeat first
   |exact HSub.nil _
   |refine zhP zb1 ?_
 refine gaf ?_;refine zQ61 ?_;refine qbX.step (S.callE (F:=[_,_,_]) [_,_] rfl zpr (qdo (k:=⟨cb,gm,vm,am,fm,0,[],[],[],[],[],0,0,0,0,0,[]⟩) (o:=.map none) (d:=0) vars arrays fs rfl rfl rfl rfl hv6 ha6 har hnd) (λH2 h0 hP=>?_) (λnm h0=>?_)) rfl
 ·subst hP;rw[hE] at h0;subst h0;refine zQ63 ?_;refine qaI.seq (qaI.region ?_);refine qbX.step (sS (cs':=[_]) rfl zp1 rfl rfl rfl rfl rfl ?_) rfl;refine qbX.step (sS (cs':=[_]) rfl zp1 rfl rfl rfl rfl rfl ?_) rfl;refine zQ63 ?_;refine qaI.ret ?_
  exact qbN.ret1 (vs:=[str [],int .i64 0]) (H1:=[(b2,.cells 9 [str []]),(b3,.cells 29 [int .i64 0])]) (F:=[_]) (H2:=[(b2,.cells 9 [str []]),(b3,.cells 29 [int .i64 0])]) rfl (zRr _ _ _) (quw b2 b3 _ _)
   (rC (qcU.cellOne rfl zm0 rfl zsr) (rC (qcU.cellOne rfl zm1 rfl zsr) rN)) zhn ⟨rfl,[],rfl⟩
 rw[hE] at h0 ⊢;refine qaw.panic ?_
 exact qbN.panic1 (vs:=[str nm,int .i64 E]) (H1:=[(b2,.cells 9 [str []]),(b3,.cells 29 [int .i64 0])]) (F:=[_]) (H2:=[(b2,.cells 9 [str nm]),(b3,.cells 29 [int .i64 E])]) rfl (zRr _ _ _) (qt0 b2 b3 _ _ nm E)
  (rC (qcU.cellOne rfl zm0 rfl zsr) (rC (qcU.cellOne rfl zm1 rfl zsr) rN)) zhn ⟨rfl,nm,rfl⟩
end
end Go.Proofs.YtegmklafpoldgaaGreatDoor.Chk
namespace Go.Proofs.YtegmklafpoldgaaGreatDoor.Inp
open Go.GL Go.RowKit Go.Stele
def qwn{A:Type}:IR A->Int
 |.ok _ _=>0
 |.stop e _=>e
attribute [local irreducible] LOps qah qae LCalls Go.GL.Pure qaw qam qad LQ LAny qay qal LS qbX qaI qdz qa9
section
variable{B0:Nat}{w0:World}
theorem qtJ(b2:Nat)(d:LV):qa9 (KC B0 w0) 75 [ptr b2 0] .returning [(b2,.cells 29 [d])]
  (λu H=>u=.returning/\H=[(b2,.cells 29 [d])]):=by
 refine qa9.intro Tryz.func75 rfl (n:=17) rfl rfl rfl ?_;refine zQ19 ?_;refine gac ?_;refine oC rfl (λhc=>?_) (λhc=>?_);cases hc;refine gab ?_;exact⟨rfl,_,zhR _,rfl,rfl⟩
theorem qu1(b2:Nat)(d:LV)(er:Int):qa9 (KC B0 w0) 75 [ptr b2 0] (.panicking (panI er)) [(b2,.cells 29 [d])]
  (λu H=>settle u=.returning/\H=[(b2,.cells 29 [int .i64 er])]):=by
 refine qa9.intro Tryz.func75 rfl (n:=17) rfl rfl rfl ?_;refine zQ19 ?_;refine gac ?_;refine oC rfl (λhc=>?_) (λhc=>?_);refine gah ?_;refine oP (Pure.assertOk (vs:=[.int .i64 er]) rfl) rfl<|gad ?_;refine oS (sA λb5=>?_) rfl;refine gac ?_;refine oC rfl (λhd=>?_) (λhd=>?_);cases hd;refine gac ?_;exact⟨rfl,_,zhP pH zhn,rfl,rfl⟩;cases hc
theorem qmZ{p q:Nat×LObj}{H:Heap}:Pick p (H++[q,p]) (q::H):=(zPc (l₂:=[q,p])).trans (zRr p q H)
theorem quR{A B:Type}(g:A->B){l:List A}{a:A}(h:l.getLast? = some a):(l.map g)[(((l.map g).length:Int)-1).toNat]? = some (g a):=by
 rw[List.getLast?_eq_getElem?] at h;rw[zLm,List.getElem?_map,show((l.length:Int)-1).toNat=l.length-1 by omega,h];rfl
theorem qsr{p:Pr}(h:qbn p∈p.funcs):p.funcs.getLast? = some (qbn p):=by
 unfold qbn
 cases hl:p.funcs.getLast? with
 |none=>rw[List.getLast?_eq_none_iff.1 hl] at h;cases h
 |some a=>rfl
theorem qtq{c:Cfg}(hC:CfgOk c){s:IS}{H:Heap}(hg:Good c c.lim s)(hs:St c s H):LCalls (KC B0 w0) 28 [ptr c.rb 0] H
  (λr H'=>St c (blkR (stI c.p c.lim (qbn c.p)) (qbn c.p).body s).st H'/\r=.ret (int .i64 (qwn (blkR (stI c.p c.lim (qbn c.p)) (qbn c.p).body s)))):=by
 obtain⟨hm1,hm2,hm3⟩:=hC.valid.main;have hlast:=qsr hm1;obtain⟨kn,hvb,hkn⟩:=hC.valid.bodies _ hm1;have hsm:=hC.small.each _ hm1;have hB:=qc9 (B0:=B0) (w0:=w0) hC (qrN hC c.lim).2;have hfl:c.p.funcs.length<=2000000:=hC.small.funcs;generalize hI:blkR (stI c.p c.lim (qbn c.p)) (qbn c.p).body s=R;have hs1:=hs;obtain⟨hl,hle,v,Ha,hacc,rfl⟩:=hs;refine LCalls.introD Tryz.func28 rfl (n:=24) rfl rfl rfl ?_;refine zQ34 ?_;refine gai ?_;refine oS (sA λb2=>?_) rfl;refine gaf ?_;refine zQ24 ?_;refine zQ34 ?_;have hfl2:(c.p.funcs.map qaM).length<=2000000:=by rw[zLm];exact hfl
 have hfl3:1<=(c.p.funcs.map qaM).length:=by
  rw[zLm];exact List.length_pos_of_mem hm1
 refine cD (m:=16) rfl [(c.rb,.cells 82 (runC c s v))]<|zQ10 ?_;refine aT 3 rfl rfl (pF rfl)<|aT 4 rfl rfl (pL (c:=.list _) rfl zm0 rfl)<|zQ46 ?_;refine aT 8 rfl rfl (pF rfl)<|aT 9 rfl rfl (pL (c:=.list _) rfl zm0 rfl)<|aT 10 rfl rfl (Pure.llen rfl)<|aT 11 rfl rfl (Pure.sub rfl rfl zo)<|LAny.take (i:=12) (zhP zp1 zhn) rfl zk zk zk rfl (xR (el':=qaM (qbn c.p)) (cs:=[_,_,_,_]) rfl rfl zo (quR qaM hlast) rfl rfl)<|aT 13 rfl rfl (pR (cs':=[_,_,_,_]) rfl rfl rfl)<|aL ?_ (zhP zp1 zhn);refine lO 14 (lS (H1:=[]) rfl (.inl rfl) rfl zpr (zhP zp1 zhn) (qae.alloc λb3=>?_));refine lO 15 (lS (H1:=[_]) rfl (.inl rfl) rfl zpr (zhP zp1 zhn) (sS (n:=4) (cs':=[_,_,_,_]) rfl pH rfl rfl rfl rfl rfl ?_));refine lD zk ?_;refine QNo.normal ?_;refine zQ61 ?_;refine qbX.step (S.callI [_,_,_] rfl (zPc (l₁:=[_,_])) (hB (qbn c.p) kn (qbn c.p).body s _ hm1 hkn hvb (hC.nums _ hm1) hsm.body hsm.stmts hg hs1) (λr s2 H2 hr hs2=>?_) (λer s2 H2 hr hs2=>?_)) rfl;rw[hr] at hI;subst hI;refine zQ63 ?_;refine qaI.seq (qaI.region ?_);refine qbX.step (sS (cs':=[_]) rfl qmZ rfl rfl rfl rfl rfl ?_) rfl;refine zQ63 ?_;refine qaI.ret ?_
 exact qbN.ret1 (vs:=[int .i64 0]) (H2:=[(b2,.cells 29 [int .i64 0])]) rfl zpr (qtJ b2 _)
  (rC (qcU.cellOne rfl zm0 rfl zsr) rN) (zhD (zhD zhr)) ⟨hs2,rfl⟩
 rw[hr] at hI;subst hI;refine qaw.panic ?_
 exact qbN.panic1 (H1:=[(b2,.cells 29 [int .i64 0])]) (F:=_::H2) (vs:=[int .i64 er]) (H2:=[(b2,.cells 29 [int .i64 er])]) rfl qmZ (qu1 b2 _ er)
  (rC (qcU.cellOne rfl zm0 rfl zsr) rN) (zhD (zhD zhr)) ⟨hs2,rfl⟩
end
end Go.Proofs.YtegmklafpoldgaaGreatDoor.Inp
namespace Go.Proofs.YtegmklafpoldgaaGreatDoor.Inp
open Go.GL Go.RowKit Go.Stele
variable{S X:Heap}{p:Pr}
section
variable{C:Ctx}{e:Env}{H:Heap}{dst:Option Nat}{ty:TypeId}{pos:String}{aft:Array Edge}{g:Option (Nat×Bool)}{x:Operand}
theorem Pure.bytesStr0{s d el:TypeId} [hs:TSlice C.P s el 1] [he:TKind C.P el .u8] [hd:TStr C.P d](hx:elems (e.ev x)=some []):Pure C ⟨dst,.convert s d x,ty,pos,aft,g⟩ e H (str []):=λρ w L h _=>by
 obtain⟨a,cap,hv,hcap,hr⟩:=(h x).elems hx;refine⟨_,qai,λw' ha=>?_⟩;have h0:execOp ρ ⟨dst,.convert s d x,ty,pos,aft,g⟩=(do Pure.pure (.value (<-convert s d (ρ x)))):=rfl
 cases a with
 |none=>
  have:=run_convert_bytes_string (P:=C.P) w' s d el none 0 cap hs.und he.und hd.und;rw[h0,hv,zRt];show((convert s d (.slice none 0 cap)).run C.P w').andThen _=_;rw[this];simp[Conv.bytesToString]
  rfl
 |some a=>
  have:=run_convert_bytes_back (P:=C.P) w' s d el a cap [] hs.und he.und hd.und (λj hj=>by simp at hj);rw[h0,hv,zRt];show((convert s d (.slice (some a) ([]:List UInt8).length cap)).run C.P w').andThen _=_;rw[this];rfl
end
attribute [local irreducible] LOps qah qae LCalls Go.GL.Pure qaw qam qad LQ LAny qay qal LS
section
variable{B0:Nat}{w0:World}
theorem qkC:LCalls (KC B0 w0) 27 [] [] (λr H=>∃ om db oc,r=.ret (.atom (.map (some om)))/\H=[(om,.map (kvs (qkA db)) oc),divH db]):=by
 refine cJ Tryz.func27 (n:=6) ?_;refine gag ?_;refine oS (sA λdb=>?_) rfl;refine gac ?_;refine oS (S.kvNew λom=>oS (S.kvIns (k:=[43]) rfl rfl rfl pH λc0=>?_) rfl) rfl;refine oS (S.kvIns (k:=[45]) rfl rfl rfl pH λc1=>oS (S.kvIns (k:=[42]) rfl rfl rfl pH λc2=>?_) rfl) rfl;refine oP (Pure.makeFunc rfl rfl) rfl<|oS (S.kvIns (k:=[47]) rfl rfl rfl pH λc3=>?_) rfl;refine oP (Pure.makeFunc rfl rfl) rfl<|oS (S.kvIns (k:=[37]) rfl rfl rfl pH λc4=>?_) rfl;refine oS (S.kvIns (k:=[94]) rfl rfl rfl pH λc5=>oS (S.kvIns (k:=[61,61]) rfl rfl rfl pH λc6=>?_) rfl) rfl;refine oS (S.kvIns (k:=[33,61]) rfl rfl rfl pH λc7=>oS (S.kvIns (k:=[60]) rfl rfl rfl pH λc8=>?_) rfl) rfl;refine oS (S.kvIns (k:=[62]) rfl rfl rfl pH λc9=>oS (S.kvIns (k:=[60,61]) rfl rfl rfl pH λc10=>?_) rfl) rfl;refine oS (S.kvIns (k:=[62,61]) rfl rfl rfl pH λc11=>oS (S.kvIns (k:=[38,38]) rfl rfl rfl pH λc12=>?_) rfl) rfl;refine oS (S.kvIns (k:=[124,124]) rfl rfl rfl pH λc13=>?_) rfl;refine gab ?_;exact rR rfl (zra rfl) zhr ⟨om,db,c13,rfl,rfl⟩
end
def encO(o:OutI):LV:=.agg [str o.out,int .i64 o.err,int .i64 (o.steps:Int)]
def runQ(p:Pr)(inp:List Nat)(steps:Int):OutI:=if qbj p=0 then qoT p inp steps else ⟨[],1,0⟩
@[reducible] def qju(b:Nat)(p:Pr):Nat×LObj:=(b,.cells 28 [.list (p.vars.map str),.list (p.arrays.map qgC),.list (p.funcs.map qaM)])
@[reducible] def outH(b:Nat):Nat×LObj:=(b,.cells 38 [str [],int .i64 0,int .i64 0])
@[reducible] def runH(rb om sm am fm:Nat)(p:Pr)(inp:List Nat)(steps:Int):Nat×LObj:=(rb,.cells 82 [.list (p.vars.map str),.list (p.arrays.map qgC),.list (p.funcs.map qaM),.atom (.map (some om)),.list (inp.map u32),qab,int .i64 0,int .i64 steps,.atom (.map (some sm)),.atom (.map (some am)),.atom (.map (some fm))])
structure NewRun where
 rb:Nat
 om:Nat
 db:Nat
 oc:Nat
 sm:Nat
 am:Nat
 fm:Nat
def qx5(a:NewRun)(b3 b6:Nat)(p:Pr)(inp:List Nat)(steps:Int):Heap:=[runH a.rb a.om a.sm a.am a.fm p inp steps,qju b3 p,(a.sm,.map (kvs []) 0),(a.am,.map (kvs []) 0),(a.fm,.map (kvs []) 0),(a.om,.map (kvs (qkA a.db)) a.oc),divH a.db,outH b6]
theorem quu{s b r q:Nat×LObj}:List.Perm (s::b::r::q::(X++S)) (r::q::s::(X++(S++[b]))):=by
 refine((zPc (l₁:=[s,b]) (l₂:=[r,q])).append_right (X++S)).trans (zRq _ (zRq _ (zRq _ ?_)));rw[<-zAs];exact swap1
theorem qtm{t b r q s:Nat×LObj}:List.Perm (t::b::r::q::s::(X++S)) (r::q::s::t::(X++(S++[b]))):=by
 refine((zPc (l₁:=[t,b]) (l₂:=[r,q,s])).append_right (X++S)).trans (zRq _ (zRq _ (zRq _ (zRq _ ?_))));rw[<-zAs];exact swap1
theorem qq0{t b d r q s:Nat×LObj}:List.Perm (t::b::d::r::q::s::(X++S)) ((r::q::s::t::(X++(S++[b])))++[d]):=
 (zRq t (zRq b (swap1 (x:=d) (H:=r::q::s::(X++S))))).trans (qtm.append_right [d])
theorem qtj{r q s a f o d u:Nat×LObj}{A:Heap}:List.Perm (r::q::s::a::f::(([o,d,u]++S)++A)) (([r,s,a,f,o,d]++(S++A))++[q,u]):=by
 refine zRq r ?_
 have h1:List.Perm (q::s::a::f::o::d::u::(S++A)) (q::u::s::a::f::o::d::(S++A)):=
  zRq q ((zPc (l₁:=[s,a,f,o,d]) (l₂:=[u])).append_right (S++A))
 exact h1.trans qd1
def scH0(sb:List (List UInt8×Nat)):Heap:=sb.map λq=>(q.2,LObj.cells 84 [u32 0])
def arH0(ab:List (List UInt8×Nat×Nat)):Heap:=ab.map λq=>(q.2.1,LObj.cells 84 (List.replicate q.2.2 (u32 0)))
theorem qsZ(hnd:(p.arrays.map (·.name)).Nodup){ab:List (List UInt8×Nat×Nat)}(hab:ab.map (λq=>(q.1,q.2.2))=p.arrays.map (λa=>(a.name,a.size)))(inp:List Nat)(lim:Nat):arH ab (qb7 p inp lim)=arH0 ab/\∀ q∈ab,((qb7 p inp lim).ar q.1).length=q.2.2:=by
 have key:∀ q∈ab,(qb7 p inp lim).ar q.1=List.replicate q.2.2 0:=λq hq=>by
  have h1:(q.1,q.2.2)∈p.arrays.map (λa=>(a.name,a.size)):=by rw[<-hab];exact zRg ⟨q,hq,rfl⟩
  obtain⟨a,ha,he⟩:=zRf h1;injection he with e1 e2
  show(match p.arrays.find? λa=>decide (a.name=q.1) with
   |some a=>List.replicate a.size 0
   |none=>[])=_
  cases hf:p.arrays.find? λa=>decide (a.name=q.1) with
  |none=>
   have:=List.find?_eq_none.1 hf a ha
   simp[e1] at this
  |some a2=>
   have h2:a2.name=q.1:=by simpa using List.find?_some hf
   have h3:a2=a:=by
    have hm2:=List.mem_of_find?_eq_some hf;clear hf h1 hab
    have:∀ (L:List Ar),(L.map (·.name)).Nodup->∀ {x y:Ar},x∈L->y∈L->x.name=y.name->x=y:=λL=>by
     induction L with
     |nil=>intro _ x y hx;cases hx
     |cons z L ih=>
      intro hn x y hx hy he;rw[zMc,List.nodup_cons] at hn;rcases zMi.1 hx with hx1|hx1;rcases zMi.1 hy with hy1|hy1;rw[hx1,hy1];exact absurd (by rw[<-hx1,he];exact mem_map_of_mem (f:=Ar.name) hy1) hn.1;rcases zMi.1 hy with hy1|hy1;exact absurd (by rw[<-hy1,<-he];exact mem_map_of_mem (f:=Ar.name) hx1) hn.1;exact ih hn.2 hx1 hy1 he
    exact this p.arrays hnd hm2 ha (h2.trans e1.symm)
   simp only[h3,e2]
 refine⟨List.map_congr_left λq hq=>?_,λq hq=>by rw[key q hq,List.length_replicate]⟩;rw[key q hq,List.map_replicate]
theorem qwa{A:Type}(lim:Nat)(r:IR A):endI lim r=⟨r.st.out,qwn r,lim-r.st.left⟩:=by cases r <;> rfl
theorem lz{C:Ctx}{n:Nat}{ops:Array Oper}{Q:Post}{HF H:Heap}{fuel:Nat}{listed:Array Bool}{e:Env}{i:Nat}{dst:Option Nat}{op:Op}{ty:TypeId}{pos:String}{aft:Array Edge}(hi:ops[i]? = some ⟨dst,op,ty,pos,aft,none⟩)(hd:qc8 n dst)
  (h:qae C ⟨dst,op,ty,pos,aft,none⟩ e [] (λlv H'=>qay C n ops Q HF fuel (listed.setIfInBounds i true) (e.put dst lv) (H'++H)) (λch H'=>∀ e',e'.ds=e.ds->Q (.panic ch) e' (H'++H)))
  (hHF:HSub HF H:=by first|exact zhP pH zhn|exact zhP zp1 zhn|exact zhP zp2 zhn|exact zhP zp3 zhn|exact zhP zp4 zhn|exact zhP zp5 zhn|exact zhP zp6 zhn|exact zhP zp7 zhn|exact zhP zp8 zhn):qal C n ops Q HF fuel listed e H i:=lS hi (.inl rfl) hd zpr hHF h
theorem hz{H:Heap}(h:HSub X H:=by
 repeat first
  |exact HSub.nil _
  |refine zhP (by first|exact pH|exact pT pH|exact pT zp1|exact pT zp2|exact pT zp3|exact pT zp4|exact pT zp5|exact pT zp6|exact pT zp7) ?_):HSub X H:=h
section
variable{B0:Nat}{w0:World}
theorem run_spec{p:Pr}(hsm:SmP p)(hnum:∀ f∈p.funcs,qbu f.body)(hchk:LCalls (KC B0 w0) 16 [qfk p] [] (λr H=>H=[]/\∃ nm,r=.ret (.tuple [str nm,int .i64 (qbj p)]))){inp:List Nat}(hin:∀ v∈inp,Lt v)(steps:Int) :
  LCalls (KC B0 w0) 10 [qfk p,.list (inp.map u32),int .i64 steps] [] (Ret (encO (runQ p inp steps))):=by
 refine cJ Tryz.func10 (n:=101) ?_;refine gai ?_;refine oS (sB rfl λb3=>oS (sA λb6=>?_) rfl) rfl;refine gac ?_;refine oS (S.callH (H1:=[]) (F:=[_,_]) [_] rfl zpr hchk ?_ (by rintro ch H' ⟨_,nm,h⟩;cases h)) rfl;rintro lv H' ⟨rfl,nm,h⟩;cases h;refine gac ?_
 by_cases hc0:qbj p=0
 rotate_left;refine oC rfl (λhc=>?_) (λhc=>?_);refine gac ?_;exact qak rfl (rC (rA rfl zm0 rfl zsr) rN) (by unfold runQ;rw[zn hc0];rfl);have h2:(!decide (qbj p=0))=false:=hc;simp at h2;exact absurd h2 hc0;refine oC rfl (λhc=>?_) (λ_=>?_);have h2:(!decide (qbj p=0))=true:=hc;simp[hc0] at h2;have hq:runQ p inp steps=qoT p inp steps:=by unfold runQ;rw[zp hc0]
 rw[hq];unfold qoT;refine gac ?_;refine oC rfl (λhc=>?_) (λhc=>?_);have h1:100000000<steps:=zt hc;rw[zp h1];refine gac ?_;exact qak rfl (rC (rA rfl zm0 rfl zsr) rN) rfl;have h1:¬ 100000000<steps:=zf hc;rw[zn h1];refine gac ?_;refine oC rfl (λhc=>?_) (λhc=>?_);have h2:steps<=0:=zt hc;rw[zp h2];refine gac ?_;exact qak rfl (rC (rA rfl zm0 rfl zsr) rN) rfl;have h2:¬ steps<=0:=zf hc;rw[zn h2];refine gab ?_;refine cM (A:=NewRun) (λa=>[(3,ptr b3 0),(6,ptr b6 0),(9,ptr a.rb 0)]) (λa=>qx5 a b3 b6 p inp steps) (λ_=>True) ?_ (λa _ j hj=>?_);refine cD (m:=10) rfl [qju b3 p]<|aT 0 rfl rfl (pG (cs':=[_,_,_]) rfl zm0 rfl rfl)<|aT 2 rfl rfl (pM (lv:=.list _) rfl)<|aT 3 rfl rfl (pM (lv:=.atom _) rfl)<|aL ?_ (zhP zp1 zhn);refine qay.four (i:=1) (j:=4) (k:=5) (l:=6) zk ?_ ?_ ?_ ?_;refine zQ4 ?_;rintro lv H' ⟨om,db,oc,h,rfl⟩;cases h;refine qay.three (i:=4) (j:=5) (k:=6) zk ?_ ?_ ?_;refine lz rfl rfl (S.kvNew λsm=>?_);refine zl2 (i:=5) (j:=6) zk ?_ ?_;refine lz rfl rfl (S.kvNew λam=>?_);exact zT2;refine lz rfl rfl (S.kvNew λfm=>?_);exact zT3;refine lz rfl rfl (S.kvNew λam=>?_);refine zl2 (i:=4) (j:=6) zk ?_ ?_;refine lz rfl rfl (S.kvNew λsm=>?_);exact zT2;refine lz rfl rfl (S.kvNew λfm=>?_);exact zT4;refine lz rfl rfl (S.kvNew λfm=>?_);refine zl2 (i:=4) (j:=5) zk ?_ ?_;refine lz rfl rfl (S.kvNew λsm=>?_);exact zT3;refine lz rfl rfl (S.kvNew λam=>?_);exact zT4;refine lz rfl rfl (S.kvNew λsm=>?_);refine qay.three (i:=1) (j:=5) (k:=6) zk ?_ ?_ ?_;refine zQ4 ?_;rintro lv H' ⟨om,db,oc,h,rfl⟩;cases h;refine zl2 (i:=5) (j:=6) zk ?_ ?_;refine lz rfl rfl (S.kvNew λam=>?_);exact zT2;refine lz rfl rfl (S.kvNew λfm=>?_);exact zT3;refine lz rfl rfl (S.kvNew λam=>?_);refine zl2 (i:=1) (j:=6) zk ?_ ?_;refine zQ4 ?_;rintro lv H' ⟨om,db,oc,h,rfl⟩;cases h;exact zT2;exact zT36;refine lz rfl rfl (S.kvNew λfm=>?_);refine zl2 (i:=1) (j:=5) zk ?_ ?_;refine zQ4 ?_;rintro lv H' ⟨om,db,oc,h,rfl⟩;cases h;exact zT3;exact zT37;refine lz rfl rfl (S.kvNew λam=>?_);refine qay.three (i:=1) (j:=4) (k:=6) zk ?_ ?_ ?_;refine zQ4 ?_;rintro lv H' ⟨om,db,oc,h,rfl⟩;cases h;refine zl2 (i:=4) (j:=6) zk ?_ ?_;refine lz rfl rfl (S.kvNew λsm=>?_);exact zT2;refine lz rfl rfl (S.kvNew λfm=>?_);exact zT4;refine lz rfl rfl (S.kvNew λsm=>?_);refine zl2 (i:=1) (j:=6) zk ?_ ?_;refine zQ4 ?_;rintro lv H' ⟨om,db,oc,h,rfl⟩;cases h;exact zT2;exact zT36;refine lz rfl rfl (S.kvNew λfm=>?_);refine zl2 (i:=1) (j:=4) zk ?_ ?_;refine zQ4 ?_;rintro lv H' ⟨om,db,oc,h,rfl⟩;cases h;exact zT4;exact zT38;refine lz rfl rfl (S.kvNew λfm=>?_);refine qay.three (i:=1) (j:=4) (k:=5) zk ?_ ?_ ?_;refine zQ4 ?_;rintro lv H' ⟨om,db,oc,h,rfl⟩;cases h;refine zl2 (i:=4) (j:=5) zk ?_ ?_;refine lz rfl rfl (S.kvNew λsm=>?_);exact zT3;refine lz rfl rfl (S.kvNew λam=>?_);exact zT4;refine lz rfl rfl (S.kvNew λsm=>?_);refine zl2 (i:=1) (j:=5) zk ?_ ?_;refine zQ4 ?_;rintro lv H' ⟨om,db,oc,h,rfl⟩;cases h;exact zT3;exact zT37;refine lz rfl rfl (S.kvNew λam=>?_);refine zl2 (i:=1) (j:=4) zk ?_ ?_;refine zQ4 ?_;rintro lv H' ⟨om,db,oc,h,rfl⟩;cases h;exact zT4;exact zT38;obtain⟨rb,om,db,oc,sm,am,fm⟩:=a;have hv:=qdl hc0;have hshort:=qpv hc0;have hnd:=hv.keys;have hand:(p.arrays.map (·.name)).Nodup:=(zRc (zRc (qaP _ _ hv.names).1).1).2.1;have hfnd:(p.funcs.map (·.name)).Nodup:=(zRc (qaP _ _ hv.names).1).2.1;have hvars6:p.arrays.length<=2000000:=hsm.arrays;have hfun6:p.funcs.length<=2000000:=hsm.funcs;have hsc8:=hv.few
 change qah (KC B0 w0) 101 _ _ _ [runH rb om sm am fm p inp steps,qju b3 p,(sm,.map (kvs (scKV [])) 0),(am,.map (kvs []) 0),(fm,.map (kvs []) 0),(om,.map (kvs (qkA db)) oc),divH db,outH b6]
 refine gac ?_;refine oS (sF [_] rfl (Chk.scalars_spec hsm (qhj hc0)) ?_) rfl;refine gab ?_
 refine oL (λk ls H'=>∃ (pre l1:List (List UInt8)) (sb:List (List UInt8×Nat)) (ck:Nat),qaf p.vars p.funcs=pre++l1/\k=l1.length/\sb.map (·.1)=pre/\ls=[(3,ptr b3 0),(6,ptr b6 0),(9,ptr rb 0),(43,.list ((qaf p.vars p.funcs).map str)),(44,int .i64 (((qaf p.vars p.funcs).map str).length:Int)),(45,int .i64 (pre.length:Int))] /\
   H'=runH rb om sm am fm p inp steps::qju b3 p::(sm,.map (kvs (scKV sb)) ck)::([(am,.map (kvs []) 0),(fm,.map (kvs []) 0),(om,.map (kvs (qkA db)) oc),divH db,outH b6]++scH0 sb))
  ⟨_,_,_,⟨[],qaf p.vars p.funcs,[],0,rfl,rfl,rfl,rfl,rfl⟩,⟨rfl,rfl,rfl,rfl,rfl,rfl,trivial⟩,zhR _⟩ ?_
 rintro k ls H' ⟨pre,l1,sb,ck,hLe,rfl,hsb,rfl,rfl⟩ j2 hj2
 have hb2:pre.length<=8000:=by
  rw[hLe,zLa] at hsc8;omega
 refine gaj ?_;refine oC rfl (λhd=>?_) (λhd=>?_);have hlen:=zt hd;rw[zLm,hLe,zLa] at hlen
 obtain⟨x,l2,rfl⟩:∃ a l2,l1=a::l2:=by
  cases l1 with
  |nil=>simp at hlen
  |cons a l2=>exact⟨a,l2,rfl⟩
 have hnew:x ∉ (scKV sb).map (·.1):=by
  have e:(scKV sb).map (·.1)=pre:=by
   rw[<-hsb];unfold scKV;rw[map_map];rfl
  rw[e];rw[hLe] at hnd;intro hm;exact(zRc hnd).2.2 x hm x zMs rfl
 refine gal ?_;refine oP (xR (el':=str x) (cs:=[str x]) rfl rfl zo (by rw[hLe];exact get_mid str pre x l2) rfl rfl) rfl<|gac ?_;refine oS (sA λb=>oS (S.kvSet (k:=x) rfl rfl rfl zp3 λck2=>?_) rfl) rfl;rw[qj1 hnew];refine gaa ?_
 exact⟨l2.length,_,_,lt_succ_self _,⟨pre++[x],l2,sb++[(x,b)],ck2,by rw[hLe];simp,rfl,by rw[zMa,hsb];rfl,rfl,rfl⟩,⟨rfl,rfl,rfl,rfl,rfl,qao (by simp),trivial⟩,⟨[],by
  rw[zLz];have e1:scKV (sb++[(x,b)])=scKV sb++[(x,ptr b 0)]:=by unfold scKV;rw[zMa];rfl
  have e2:scH0 (sb++[(x,b)])=scH0 sb++[(b,LObj.cells 84 [u32 0])]:=by unfold scH0;rw[zMa];rfl
  rw[e1,e2]
  exact quu⟩,hj2⟩
 have hlen:=zf hd;rw[zLm,hLe,zLa] at hlen
 obtain rfl:l1=[]:=by
  cases l1 with
  |nil=>rfl
  |cons a l2=>simp at hlen;omega
 rw[zLz] at hLe;rw[<-hLe] at hsb;refine gac ?_
 refine oL (λk ls H'=>∃ (pre l1:List Ar) (ab:List (List UInt8×Nat×Nat)) (ca:Nat),p.arrays=pre++l1/\k=l1.length/\ab.map (λq=>(q.1,q.2.2))=pre.map (λa=>(a.name,a.size))/\ls=[(3,ptr b3 0),(6,ptr b6 0),(9,ptr rb 0),(57,.list (p.arrays.map qgC)),(58,int .i64 ((p.arrays.map qgC).length:Int)),(59,int .i64 (pre.length:Int))] /\
   H'=runH rb om sm am fm p inp steps::qju b3 p::(sm,.map (kvs (scKV sb)) ck)::(am,.map (kvs (arKV ab)) ca)::(([(fm,.map (kvs []) 0),(om,.map (kvs (qkA db)) oc),divH db,outH b6]++scH0 sb)++arH0 ab))
  ⟨_,_,_,⟨[],p.arrays,[],0,rfl,rfl,rfl,rfl,rfl⟩,⟨rfl,rfl,rfl,rfl,rfl,rfl,trivial⟩,⟨[],by
   rw[zLz];refine zRq _ (zRq _ (zRq _ (zRq _ ?_)));show List.Perm _ (_++([]:Heap));rw[zLz]
   exact List.Perm.refl _⟩⟩ ?_
 rintro k ls H' ⟨pre,l1,ab,ca,hLe,rfl,hab,rfl,rfl⟩ j3 hj3
 have hb2:pre.length<=2000000:=by
  rw[hLe,zLa] at hvars6;omega
 refine gaj ?_;refine oC rfl (λhd=>?_) (λhd=>?_);have hlen:=zt hd;rw[zLm,hLe,zLa] at hlen
 obtain⟨x,l2,rfl⟩:∃ a l2,l1=a::l2:=by
  cases l1 with
  |nil=>simp at hlen
  |cons a l2=>exact⟨a,l2,rfl⟩
 have hxs:=hv.sizes x (by rw[hLe];exact mem_append_right _ zMs)
 have hnew:x.name ∉ (arKV ab).map (·.1):=by
  have e:(arKV ab).map (·.1)=pre.map (·.name):=by
   have h1:(ab.map (λq=>(q.1,q.2.2))).map (·.1)=(pre.map (λa=>(a.name,a.size))).map (·.1):=by rw[hab]
   rw[map_map,map_map] at h1;unfold arKV;rw[map_map];exact h1
  rw[e];rw[hLe,zMa] at hand;intro hm;exact(zRc hand).2.2 x.name hm x.name zMs rfl
 refine gal ?_;refine oP (xR (el':=qgC x) (cs:=[_,_]) rfl rfl zo (by rw[hLe];exact get_mid qgC pre x l2) rfl rfl) rfl<|gad ?_;refine oS (sA λb13=>?_) rfl;refine gad ?_;refine cD (m:=10) rfl [(b13,.cells 86 [str x.name,int .i64 (x.size:Int)]),runH rb om sm am fm p inp steps]<|zQ28 ?_;refine zQ66 ?_;refine aL ?_ (zhP pH zhp);refine lO 8 (lS (H1:=[]) rfl (.inl rfl) rfl zpr (zhP pH zhp) (S.makeRow (n:=x.size) rfl rfl zo zo λb=>?_));refine lO 9 (lS (H1:=[_]) rfl (.inl rfl) rfl (show Pick (am,.map (kvs (arKV ab)) ca) _ _ from pT zp4) (zhD (zhP pH zhp)) (S.kvSet (k:=x.name) rfl rfl rfl pH λca2=>?_));rw[qj1 hnew];refine zQ64 ?_
 exact⟨l2.length,_,_,lt_succ_self _,⟨pre++[x],l2,ab++[(x.name,b,x.size)],ca2,by rw[hLe];simp,rfl,by rw[zMa,zMa,hab];rfl,rfl,rfl⟩,⟨rfl,rfl,rfl,rfl,rfl,qao (by simp),trivial⟩,⟨[(b13,.cells 86 [str x.name,int .i64 (x.size:Int)])],by
  have e1:arKV (ab++[(x.name,b,x.size)])=arKV ab++[(x.name,rowV b x.size)]:=by unfold arKV;rw[zMa];rfl
  have e2:arH0 (ab++[(x.name,b,x.size)])=arH0 ab++[(b,LObj.cells 84 (List.replicate x.size (u32 0)))]:=by unfold arH0;rw[zMa];rfl
  rw[e1,e2]
  exact qq0⟩,hj3⟩
 have hlen:=zf hd;rw[zLm,hLe,zLa] at hlen
 obtain rfl:l1=[]:=by
  cases l1 with
  |nil=>rfl
  |cons a l2=>simp at hlen;omega
 rw[zLz] at hLe;rw[<-hLe] at hab;refine gac ?_
 refine oL (λk ls H'=>∃ (pre l1:List FnD) (cf:Nat),p.funcs=pre++l1/\k=l1.length/\ls=[(3,ptr b3 0),(6,ptr b6 0),(9,ptr rb 0),(74,.list (p.funcs.map qaM)),(75,int .i64 ((p.funcs.map qaM).length:Int)),(76,int .i64 (pre.length:Int))] /\
   H'=runH rb om sm am fm p inp steps::qju b3 p::(sm,.map (kvs (scKV sb)) ck)::(am,.map (kvs (arKV ab)) ca)::(fm,.map (kvs (fnKV pre)) cf)::(([(om,.map (kvs (qkA db)) oc),divH db,outH b6]++scH0 sb)++arH0 ab))
  ⟨_,_,_,⟨[],p.funcs,0,rfl,rfl,rfl,rfl⟩,⟨rfl,rfl,rfl,rfl,rfl,rfl,trivial⟩,zhR _⟩ ?_
 rintro k ls H' ⟨pre,l1,cf,hLe,rfl,rfl,rfl⟩ j4 hj4
 have hb2:pre.length<=2000000:=by
  rw[hLe,zLa] at hfun6;omega
 refine gaj ?_;refine oC rfl (λhd=>?_) (λhd=>?_);have hlen:=zt hd;rw[zLm,hLe,zLa] at hlen
 obtain⟨x,l2,rfl⟩:∃ a l2,l1=a::l2:=by
  cases l1 with
  |nil=>simp at hlen
  |cons a l2=>exact⟨a,l2,rfl⟩
 have hnew:x.name ∉ (fnKV pre).map (·.1):=by
  have e:(fnKV pre).map (·.1)=pre.map (·.name):=by
   unfold fnKV;rw[map_map];rfl
  rw[e];rw[hLe,zMa] at hfnd;intro hm;exact(zRc hfnd).2.2 x.name hm x.name zMs rfl
 refine gal ?_;refine oP (xR (el':=qaM x) (cs:=[_,_,_,_]) rfl rfl zo (by rw[hLe];exact get_mid qaM pre x l2) rfl rfl) rfl<|gad ?_;refine oS (sA λb15=>?_) rfl;refine gad ?_;refine qah.tail 7 zk ?_;refine gan ?_;refine oS (S.kvSet (k:=x.name) (lv:=qaM x) rfl rfl rfl zp5 λcf2=>?_) rfl;rw[qj1 hnew];refine gaa ?_
 exact⟨l2.length,_,_,lt_succ_self _,⟨pre++[x],l2,cf2,by rw[hLe];simp,rfl,rfl,rfl⟩,⟨rfl,rfl,rfl,rfl,rfl,qao (by simp),trivial⟩,⟨[(b15,.cells 89 [str x.name,.list (x.params.map str),.list (x.locals.map str),.list (x.body.map encS)])],by
  have e1:fnKV (pre++[x])=fnKV pre++[(x.name,qaM x)]:=by unfold fnKV;rw[zMa];rfl
  rw[e1]
  exact((zPc (l₁:=[_,_]) (l₂:=[_,_,_,_])).append_right _).trans (((List.Perm.refl [_,_,_,_,_]).append swap1).trans zpr)⟩,hj4⟩
 have hlen:=zf hd;rw[zLm,hLe,zLa] at hlen
 obtain rfl:l1=[]:=by
  cases l1 with
  |nil=>rfl
  |cons a l2=>simp at hlen;omega
 rw[zLz] at hLe;subst hLe;obtain⟨lim,rfl⟩:∃ lim:Nat,steps=(lim:Int):=⟨steps.toNat,by omega⟩;have hlim:lim<=100000000:=by omega
 rw[Int.toNat_natCast];obtain⟨har,hal⟩:=qsZ hand hab inp lim
 have hC:CfgOk ⟨p,rb,db,om,sm,am,fm,oc,ck,ca,cf,sb,ab,lim⟩:=⟨hv,hnum,hsb,by
  have h1:(ab.map (λq=>(q.1,q.2.2))).map (·.1)=(p.arrays.map (λa=>(a.name,a.size))).map (·.1):=by rw[hab]
  rw[map_map,map_map] at h1;exact h1,hsm,λq hq=>by
  have h1:(q.1,q.2.2)∈p.arrays.map (λa=>(a.name,a.size)):=by rw[<-hab];exact zRg ⟨q,hq,rfl⟩
  obtain⟨a,ha,he⟩:=zRf h1;injection he with e1 e2;rw[<-e2]
  exact(hv.sizes a ha).2,hlim,hshort.1,hshort.2⟩
 generalize hcdef:(⟨p,rb,db,om,sm,am,fm,oc,ck,ca,cf,sb,ab,lim⟩:Cfg)=c at hC;have hcp:c.p=p:=by rw[<-hcdef]
 have hcl:c.lim=lim:=by rw[<-hcdef]
 have hcr:c.rb=rb:=by rw[<-hcdef]
 have hst:St c (qb7 p inp lim) (stH c (qb7 p inp lim) qab []):=by
  refine⟨?_,?_,qab,[],Acc.nil,rfl⟩;rw[<-hcdef];exact hal;rw[hcl];exact zNr _
 have hgood:Good c c.lim (qb7 p inp lim):=by
  rw[hcl];refine⟨⟨λk=>by show Lt 0;unfold Lt;decide,λx v hv=>?_,hin⟩,zNr _,by rw[hcl];show 0+lim<=lim;omega⟩
  have h1:v∈(match p.arrays.find? λa=>decide (a.name=x) with
   |some a=>List.replicate a.size 0
   |none=>[]):=hv
  split at h1;rw[(List.mem_replicate.1 h1).2];unfold Lt;decide;cases h1
 have hmain:=qtq (B0:=B0) (w0:=w0) hC hgood hst;rw[hcl,hcp,hcr] at hmain
 have ehd:hdH ⟨p,rb,db,om,sm,am,fm,oc,ck,ca,cf,sb,ab,lim⟩ (qb7 p inp lim) qab=[runH rb om sm am fm p inp lim,(sm,.map (kvs (scKV sb)) ck),(am,.map (kvs (arKV ab)) ca),(fm,.map (kvs (fnKV p.funcs)) cf),(om,.map (kvs (qkA db)) oc),divH db]:=by
  have e0:lim-(qb7 p inp lim).left=0:=sub_self lim;unfold hdH runC;simp only[e0];rfl
 refine gaa ?_
 refine LOps.perm (H':=stH c (qb7 p inp lim) qab []++[qju b3 p,outH b6]) (by
  rw[<-hcdef,qto];show List.Perm _ ((hdH _ _ _++(scH sb (qb7 p inp lim)++(arH ab (qb7 p inp lim)++[])))++[qju b3 p,outH b6]);rw[har,zLz,ehd]
  exact qtj) ?_
 refine oS (S.callH (H1:=stH c (qb7 p inp lim) qab []) (F:=[qju b3 p,outH b6]) [_] rfl zpr hmain ?_ (by rintro ch H' ⟨_,h⟩;cases h)) rfl;rintro lv H' ⟨hs2,h⟩;cases h
 have hfin:runI p inp lim=⟨(blkR (stI p lim (qbn p)) (qbn p).body (qb7 p inp lim)).st.out,qwn (blkR (stI p lim (qbn p)) (qbn p).body (qb7 p inp lim)),lim-(blkR (stI p lim (qbn p)) (qbn p).body (qb7 p inp lim)).st.left⟩:=by
  unfold runI;exact qwa _ _
 rw[hfin];generalize blkR (stI p lim (qbn p)) (qbn p).body (qb7 p inp lim)=R at hs2 ⊢;obtain⟨_,hle,v,Ha,hacc,rfl⟩:=hs2;refine LOps.perm (H':=outH b6::qju b3 p::stH c R.st v Ha) ((zPc (l₂:=[_,_])).trans (zRr _ _ _)) ?_;refine gab ?_;refine qah.tail 11 zk ?_
 have hmem:(rb,LObj.cells 82 (runC c R.st v))∈outH b6::qju b3 p::stH c R.st v Ha:=by
  rw[<-hcr];exact List.Mem.tail _ zm1
 refine gan ?_;refine lP (pL (c:=v) rfl hmem rfl) rfl ?_
 have hconv:∀ (e:Env) (H:Heap) (dst:Option Nat) (ty:TypeId) (pos:String) (aft:Array Edge) (g:Option (Nat×Bool)) (x:Operand),e.ev x=v->GL.Pure (KC B0 w0) ⟨dst,.convert 80 9 x,ty,pos,aft,g⟩ e H (str R.st.out):=λe H dst ty pos aft g x hx=>by
  have he:=hacc.elems
  by_cases h0:R.st.out=[]
  rw[h0] at he ⊢;exact Pure.bytesStr0 (by rw[hx,he];rfl);exact Pure.bytesStr (by rw[hx,he];rfl) h0
 refine lP (hconv _ _ _ _ _ _ _ _ rfl) rfl ?_;refine gan ?_;refine lP (pL (c:=int .i64 ((c.lim-R.st.left:Nat):Int)) rfl hmem rfl) rfl ?_;refine gad ?_;refine qak ((hj4.trans hj3).trans (hj2.trans hj)) (rC (rA (k:=3) rfl zm0 rfl zsr) rN) ?_;rw[hcl];rfl
end
theorem encPr_eq(p:Pr):qfk p=Chk.encPrG p.vars (p.arrays.map λa=>(a.name,(a.size:Int))) p.funcs:=by
 unfold qfk Chk.encPrG;rw[map_map];rfl
section
variable{B0:Nat}{w0:World}
theorem checkPr_spec{n:Nat}(h:SzP p n)(hn:n<=2000000):LCalls (KC B0 w0) 16 [qfk p] [] (λr H=>H=[]/\∃ nm,r=.ret (.tuple [str nm,int .i64 (qbj p)])):=by
 rw[encPr_eq]
 exact Chk.check_spec _ _ _ (zNt h.vars hn) (by rw[zLm];exact zNt h.arrays hn) (λa ha=>by
  obtain⟨x,hx,rfl⟩:=zRf ha;have:=h.size x hx;constructor;show(-9223372036854775808:Int)<=(x.size:Int);omega;show(x.size:Int)<9223372036854775808
  omega) (zNt h.funcs hn)
end
end Go.Proofs.YtegmklafpoldgaaGreatDoor.Inp
namespace Go.Proofs.YtegmklafpoldgaaGreatDoor.RZ
open Go.GL Go.RowKit Go.Stele
theorem get_mid{A B:Type}(g:A->B)(pre:List A)(a:A)(l:List A):((pre++a::l).map g)[((pre.length:Nat):Int).toNat]? = some (g a):=by
 rw[Int.toNat_natCast,List.getElem?_map,List.getElem?_append_right (zNr _),sub_self];rfl
theorem more{A B:Type}{g:A->B}{L pre l1:List A}(hL:L=pre++l1)(h:decide ((pre.length:Int)<((L.map g).length:Int))=true):∃ a l2,l1=a::l2:=by
 have:=zt h;rw[zLm,hL,zLa] at this
 cases l1 with
 |nil=>simp at this
 |cons a l2=>exact⟨a,l2,rfl⟩
theorem qd9{A B:Type}{g:A->B}{L pre l1:List A}(hL:L=pre++l1)(h:decide ((pre.length:Int)<((L.map g).length:Int))=false):l1=[]:=by
 have:=zf h;rw[zLm,hL,zLa] at this
 cases l1 with
 |nil=>rfl
 |cons a l2=>simp at this;omega
theorem pre_le{A:Type}{L pre l1:List A}{n:Nat}(hL:L=pre++l1)(h:L.length<=n):pre.length<=n:=by
 rw[hL,zLa] at h;omega
theorem snoc{A:Type}{L pre l2:List A}{a:A}(hL:L=pre++a::l2):L=(pre++[a])++l2:=by rw[hL];simp
theorem qf5:∀ a b:List Ex,ndEs (a++b)=ndEs a+ndEs b
 |[],b=>by rw[ndEs,nil_append];omega
 |x::a,b=>by rw[cons_append,ndEs,ndEs,qf5 a b];omega
theorem qpp(l:List Ex):∀ v∈l.map encE,v.cells.length=4:=λv hv=>by
 obtain⟨x,_,rfl⟩:=zRf hv;rfl
theorem qs3(l:List Ex):((l.map encE).flatMap LV.cells).all qcP=true:=by
 induction l with
 |nil=>rfl
 |cons a l ih=>
  simp only[zMc,List.flatMap_cons,List.all_append,ih,Bool.and_true];rfl
theorem qsj{l pre:List Sm}{a:Sm}{l2:List Sm}(h:l=pre++a::l2):ndSs pre+ndS a<=ndSs l:=by
 have key:∀ p q:List Sm,ndSs (p++q)=ndSs p+ndSs q:=λp q=>by
  induction p with
  |nil=>rw[nil_append,ndSs];omega
  |cons x p ih=>rw[cons_append,ndSs,ndSs,ih];omega
 rw[h,key,ndSs];omega
theorem qmM{l pre:List Ex}{a:Ex}{l2:List Ex}(h:l=pre++a::l2):ndEs pre+ndE a<=ndEs l:=by
 rw[h,qf5,ndEs];omega
attribute [local irreducible] LOps qah qae LCalls Go.GL.Pure qaw qam qad LQ LAny qay qal LS
section
variable{B0:Nat}{w0:World}
def BtN(lo hi:Nat)(r:LRes)(H:Heap):Prop:=H=[]/\∃ z:Int,r=.ret (int .i64 z)/\(lo:Int)<=z/\z<=(hi:Int)
def qvl(B0:Nat)(w0:World)(n:Nat):Prop:=∀ x:Ex,ndE x<n->szE x<=1000000000->LCalls (KC B0 w0) 90 [encE x] [] (BtN (ndE x) (szE x))
theorem qjR:∀ n:Nat,n<=100000000->qvl B0 w0 n
 |0,_=>λx h _=>by omega
 |n+1,hn6=>by
  have ih:=qjR n zo;intro x hnd hsz;obtain⟨op,num,name,args⟩:=x;rw[ndE] at hnd ⊢;rw[szE] at hsz ⊢;have hal:=qdF args;rw[qcH];refine cJ Tryz.func90 (n:=29) ?_;refine gai ?_;refine oS (sB rfl λb1=>?_) rfl;refine zQ69 ?_;refine gad ?_;refine oP (Pure.quo rfl rfl zDd zo zo) rfl<|gac ?_
  refine oL (λkk ls H'=>∃ (pre l1:List Ex) (z:Int),args=pre++l1/\kk=l1.length/\ls=[(3,int .i64 z),(17,.list (args.map encE)),(18,int .i64 ((args.map encE).length:Int)),(19,int .i64 (pre.length:Int))]/\H'=[]/\(1:Int)+ndEs pre<=z/\z<=1+op.length+name.length+szEs pre)
   ⟨_,_,_,⟨[],args,_,rfl,rfl,rfl,rfl,by rw[ndEs];omega,by rw[szEs];omega⟩,⟨rfl,rfl,rfl,rfl,trivial⟩,HSub.nil _⟩ ?_
  rintro kk ls H' ⟨pre,l1,z,hL,rfl,rfl,rfl,hz1,hz2⟩ j2 hj2;have hb:=pre_le hL (show args.length<=100000000 by omega);refine gaj ?_;refine oC rfl (λhc=>?_) (λhc=>?_);obtain⟨a,l2,rfl⟩:=more hL hc;have ham:=qmM hL;have hap:szEs args=szEs pre+(szE a+szEs l2):=by rw[hL,qf3,szEs]
  have hnx:ndEs (pre++[a])=ndEs pre+ndE a:=by rw[qf5,ndEs,ndEs];omega
  have hsx:szEs (pre++[a])=szEs pre+szE a:=by rw[qf3,szEs,szEs];omega
  refine gal ?_;refine oP (xR (el':=encE a) (cs:=[_,_,_,_]) rfl rfl zo (by rw[hL];exact get_mid encE pre a l2) rfl rfl) rfl<|gad ?_;refine oS (sA λb5=>?_) rfl;refine gac ?_;refine oS (S.callH (H1:=[]) (F:=[_]) [_] rfl zpr (ih a zo zo) ?_ (by rintro ch H' ⟨_,nm,h,_⟩;cases h)) rfl;rintro lv H' ⟨rfl,z2,h,hy1,hy2⟩;cases h;refine gaa ?_;exact⟨l2.length,_,_,lt_succ_self _,⟨pre++[a],l2,_,snoc hL,rfl,rfl,rfl,by rw[hnx];omega,by rw[hsx];omega⟩,⟨rfl,rfl,rfl,qao (by simp),trivial⟩,HSub.nil _,hj2⟩
  have hall:pre=args:=by
   have hl1:l1=[]:=qd9 hL hc;rw[hL,hl1,zLz]
  subst hall;clear hc;refine gaa ?_;refine rR hj2 (zra rfl) zhn ⟨rfl,_,rfl,by omega,by omega⟩
end
@[reducible] def smH(b:Nat)(kind:Int)(name:Nm)(index value:List Ex)(thn els:List Sm):Nat×LObj:=(b,.cells 168 [int .i64 kind,str name,.list (index.map encE),.list (value.map encE),.list (thn.map encS),.list (els.map encS)])
section
variable{B0:Nat}{w0:World}
def SizeB(B0:Nat)(w0:World)(n:Nat):Prop:=∀ l:List Sm,ndSs l<n->szSs l<=1000000000->LCalls (KC B0 w0) 33 [.list (l.map encS)] [] (BtN (ndSs l) (szSs l))
theorem qjH:∀ n:Nat,n<=100000000->SizeB B0 w0 n
 |0,_=>λx h _=>by omega
 |n+1,hn6=>by
  have ih:=qjH n zo;have hC:qvl B0 w0 n:=qjR n zo;intro l hnd hsz;have hal:=qek l;refine cJ Tryz.func33 (n:=48) ?_;refine gaa ?_
  refine oL (λkk ls H'=>∃ (pre l1:List Sm) (z:Int),l=pre++l1/\kk=l1.length/\ls=[(3,int .i64 z),(8,.list (l.map encS)),(9,int .i64 ((l.map encS).length:Int)),(10,int .i64 (pre.length:Int))]/\H'=[]/\(ndSs pre:Int)<=z/\z<=szSs pre)
   ⟨_,_,_,⟨[],l,_,rfl,rfl,rfl,rfl,by rw[ndSs];omega,by rw[szSs];omega⟩,⟨rfl,rfl,rfl,rfl,trivial⟩,HSub.nil _⟩ ?_
  rintro kk ls HA ⟨pre,l1,z,hL,rfl,rfl,rfl,hz1,hz2⟩ j hj;have hb:=pre_le hL (show l.length<=100000000 by omega);refine gaj ?_;refine oC rfl (λhc=>?_) (λhc=>?_);rotate_left
  have hall:pre=l:=by
   have hl1:l1=[]:=qd9 hL hc;rw[hL,hl1,zLz]
  subst hall;clear hc;refine gaa ?_;refine rR hj (zra rfl) zhn ⟨rfl,_,rfl,by omega,by omega⟩;obtain⟨a,l2,rfl⟩:=more hL hc;have ham:=qsj hL;have hap:szSs l=szSs pre+(szS a+szSs l2):=by rw[hL,qpT,szSs]
  have hnx:ndSs (pre++[a])=ndSs pre+ndS a:=by
   have key:∀ p q:List Sm,ndSs (p++q)=ndSs p+ndSs q:=λp q=>by
    induction p with
    |nil=>rw[nil_append,ndSs];omega
    |cons x p ih=>rw[cons_append,ndSs,ndSs,ih];omega
   rw[key,ndSs,ndSs];omega
  have hsx:szSs (pre++[a])=szSs pre+szS a:=by rw[qpT,szSs,szSs];omega
  obtain⟨kind,name,index,value,thn,els⟩:=a;rw[ndS] at ham hnx;rw[szS] at hap hsx;have g2:=qdF value;have g3:=qdF index;refine gal ?_;refine oP (xR (el':=.agg [int .i64 kind,str name,.list (index.map encE),.list (value.map encE),.list (thn.map encS),.list (els.map encS)]) (cs:=[_,_,_,_,_,_]) rfl rfl zo (by rw[hL,<-qca];exact get_mid encS pre _ l2) rfl rfl) rfl<|gad ?_;refine oS (sA λb5=>?_) rfl;refine gad ?_;refine cM (A:=Int) (λz=>[(3,int .i64 z),(5,ptr b5 0),(8,.list (l.map encS)),(9,int .i64 ((l.map encS).length:Int)),(10,int .i64 (pre.length:Int))]) (λ_=>[smH b5 kind name index value thn els]) (λz=>(ndSs pre:Int)+1+ndSs thn+ndSs els<=z/\z<=szSs pre+1+name.length+szSs thn+szSs els) ?_ (λz5 hz5 j5 hj5=>?_);refine cD (m:=16) rfl [smH b5 kind name index value thn els]<|zQ35 ?_;refine aT 3 rfl rfl (Pure.slen rfl)<|aT 6 rfl rfl (pF rfl)<|aT 7 rfl rfl (pL (c:=.list _) rfl zm0 rfl)<|aT 10 rfl rfl (pF rfl)<|aT 11 rfl rfl (pL (c:=.list _) rfl zm0 rfl)<|aT 4 rfl rfl (Pure.quo rfl rfl zDd zo zo)<|aT 5 rfl rfl (Pure.add rfl rfl zo)<|aL ?_ zhr;refine zl1 (i:=8) zk ?_;refine lS (H1:=[]) rfl (.inl rfl) rfl zpr zhr (S.callH (H1:=[]) (F:=[]) [_] rfl zpr (ih thn zo zo) ?_ (by rintro ch H' ⟨_,nm,h,_⟩;cases h));rintro lv H' ⟨rfl,z1,h,ha1,ha2⟩;cases h;refine zl2 (i:=9) (j:=12) zk ?_ ?_;refine lH rfl rfl (Pure.add rfl rfl zo)<|zl1 (i:=12) zk ?_;refine zQ77 ?_;rintro lv H' ⟨rfl,z2,h,hb1,hb2⟩;cases h;refine zQ49 ?_;exact⟨_,⟨by omega,by omega⟩,⟨rfl,rfl,rfl,rfl,rfl,trivial⟩,zhR _,rfl⟩;refine zQ77 ?_;rintro lv H' ⟨rfl,z2,h,hb1,hb2⟩;cases h;refine zl1 (i:=9) zk ?_;refine lH rfl rfl (Pure.add rfl rfl zo)<|zQ49 ?_;exact⟨_,⟨by omega,by omega⟩,⟨rfl,rfl,rfl,rfl,rfl,trivial⟩,zhR _,rfl⟩;refine gab ?_;refine cD (m:=9) rfl [smH b5 kind name index value thn els]<|zQ39 ?_;refine lO 0 (lS (H1:=[]) rfl (.inl rfl) rfl zpr zhp (S.litA (es:=[]) [] rfl eN rfl rfl rfl λb7=>?_));refine lO 3 (lS (H1:=[(b7,.row 0)]) rfl (.inl rfl) rfl zpr zhp (S.acc (F:=[]) rfl Acc.row rfl (qpp _) (qs3 _) (by simp;omega) λv1 H1 h1=>?_));refine lO 6 (lS (H1:=H1) rfl (.inl rfl) rfl zpr zhp (S.acc (F:=[]) rfl h1 rfl (qpp _) (qs3 _) (by simp;omega) λv2 H2 h2=>?_));have e2:([]++value.map encE++index.map encE:List LV)=(value++index).map encE:=by simp
  rw[e2] at h2;refine lO 7 (lH rfl rfl (Pure.llen (h2.elems)) ?_);refine zQ51 ?_;refine qah.sub (d:=35) rfl h2.sub ?_;refine cW (H':=[smH b5 kind name index value thn els]) ⟨H2,zPc⟩ ?_
  refine oL (λkk ls H'=>∃ (pre2 l3:List Ex) (z:Int),value++index=pre2++l3/\kk=l3.length/\ls=[(3,int .i64 z),(8,.list (l.map encS)),(9,int .i64 ((l.map encS).length:Int)),(10,int .i64 (pre.length:Int)),(35,.list ((value++index).map encE)),(36,int .i64 (((value++index).map encE).length:Int)),(37,int .i64 (pre2.length:Int))]/\H'=[]/\(ndSs pre:Int)+1+ndSs thn+ndSs els+ndEs pre2<=z/\z<=szSs pre+1+name.length+szSs thn+szSs els+szEs pre2)
   ⟨_,_,_,⟨[],value++index,_,rfl,rfl,rfl,rfl,by rw[ndEs];omega,by rw[szEs];omega⟩,⟨rfl,rfl,rfl,rfl,rfl,rfl,rfl,trivial⟩,HSub.nil _⟩ ?_
  rintro kk ls H' ⟨pre2,l3,z3,hL2,rfl,rfl,rfl,hc1,hc2⟩ j2 hj2;have hb2:=pre_le hL2 (show(value++index).length<=100000000 by rw[zLa];omega);refine gaj ?_;refine oC rfl (λhc2=>?_) (λhc2=>?_);obtain⟨a,l4,rfl⟩:=more hL2 hc2;have ham2:=qmM hL2;rw[qf5] at ham2;have hap2:szEs value+szEs index=szEs pre2+(szE a+szEs l4):=by rw[<-qf3,hL2,qf3,szEs]
  have hnx2:ndEs (pre2++[a])=ndEs pre2+ndE a:=by rw[qf5,ndEs,ndEs];omega
  have hsx2:szEs (pre2++[a])=szEs pre2+szE a:=by rw[qf3,szEs,szEs];omega
  refine gal ?_;refine oP (xR (el':=encE a) (cs:=[_,_,_,_]) rfl rfl zo (by rw[hL2];exact get_mid encE pre2 a l4) rfl rfl) rfl<|gad ?_;refine oS (sA λb7=>?_) rfl;refine gac ?_;refine oS (S.callH (H1:=[]) (F:=[_]) [_] rfl zpr (hC a zo zo) ?_ (by rintro ch H' ⟨_,nm,h,_⟩;cases h)) rfl;rintro lv H' ⟨rfl,z4,h,hd1,hd2⟩;cases h;refine gaa ?_;exact⟨l4.length,_,_,lt_succ_self _,⟨pre2++[a],l4,_,snoc hL2,rfl,rfl,rfl,by rw[hnx2];omega,by rw[hsx2];omega⟩,⟨rfl,rfl,rfl,rfl,rfl,rfl,qao (by simp),trivial⟩,HSub.nil _,hj2⟩
  have hall2:pre2=value++index:=by
   have hl1:l3=[]:=qd9 hL2 hc2;rw[hL2,hl1,zLz]
  have hn2:ndEs pre2=ndEs value+ndEs index:=by rw[hall2,qf5]
  have hs2:szEs pre2=szEs value+szEs index:=by rw[hall2,qf3]
  clear hc2;refine gaa ?_;exact⟨l2.length,_,_,lt_succ_self _,⟨pre++[Sm.mk kind name index value thn els],l2,_,snoc hL,rfl,rfl,rfl,by rw[hnx];omega,by rw[hsx];omega⟩,⟨rfl,rfl,rfl,qao (by simp),trivial⟩,HSub.nil _,hj2.trans (hj5.trans hj)⟩
end
open Chk (encPrG encArG)
@[reducible] def fnH(b:Nat)(f:FnD):Nat×LObj:=(b,.cells 89 [str f.name,.list (f.params.map str),.list (f.locals.map str),.list (f.body.map encS)])
section
variable{B0:Nat}{w0:World}
theorem rsizePB_spec(vars:List Nm)(arrays:List (Nm×Int))(fs:List FnD)(hv6:vars.length<=2000000)(ha6:arrays.length<=2000000)(hf6:fs.length<=2000000)(hsm:∀ f∈fs,SmF f)(hbd:∀ f∈fs,ndSs f.body<100000000)(hs1:szNs vars<=2000000)(hs2:szAs arrays<=2000000)(hs3:szFs fs<=2000000) :
  LCalls (KC B0 w0) 14 [encPrG vars arrays fs] [] (λr H=>H=[]/\∃ z:Int,r=.ret (int .i64 z)/\(ndFs fs:Int)<=z):=by
 have hlv:(vars.map str).length=vars.length:=zLm _;have hla:(arrays.map encArG).length=arrays.length:=zLm _;have hvl0:=len_szNs vars;have hal0:=len_szAs arrays;unfold encPrG;refine cJ Tryz.func14 (n:=92) ?_;refine gai ?_;refine oS (sB rfl λb1=>?_) rfl;refine gac ?_
 refine oL (λkk ls H'=>∃ (pre l1:List Nm) (z:Int),vars=pre++l1/\kk=l1.length/\ls=[(1,ptr b1 0),(3,int .i64 z),(20,.list (vars.map str)),(21,int .i64 ((vars.map str).length:Int)),(22,int .i64 (pre.length:Int))]/\H'=[(b1,.cells 28 [.list (vars.map str),.list (arrays.map encArG),.list (fs.map qaM)])]/\(0:Int)<=z/\z<=vars.length+arrays.length+szNs pre)
  ⟨_,_,_,⟨[],vars,_,rfl,rfl,rfl,rfl,by omega,by rw[szNs];omega⟩,⟨rfl,rfl,rfl,rfl,rfl,trivial⟩,zhR _⟩ ?_
 rintro kk ls H' ⟨pre,l1,z,hL,rfl,rfl,rfl,hz1,hz2⟩ j hj;have hb:=pre_le hL hv6;refine gaj ?_;refine oC rfl (λhc=>?_) (λhc=>?_);obtain⟨a,l2,rfl⟩:=more hL hc;have hap:szNs vars=szNs pre+(a.length+1+szNs l2):=by rw[hL,qgi,szNs]
 have hsx:szNs (pre++[a])=szNs pre+(a.length+1):=by rw[qgi,szNs,szNs]
 have hvl:=len_szNs vars;have hal:=len_szAs arrays;refine gal ?_;refine oP (xR (el':=str a) (cs:=[_]) rfl rfl zo (by rw[hL];exact get_mid str pre a l2) rfl rfl) rfl<|zQ69 ?_;refine gaa ?_;exact⟨l2.length,_,_,lt_succ_self _,⟨pre++[a],l2,_,snoc hL,rfl,rfl,rfl,by omega,by rw[hsx];omega⟩,⟨rfl,rfl,rfl,rfl,qao (by simp),trivial⟩,zhR _,hj⟩
 have hall1:pre=vars:=by
  have hl1:l1=[]:=qd9 hL hc;rw[hL,hl1,zLz]
 have hps:szNs pre=szNs vars:=by rw[hall1]
 clear hc;refine gac ?_
 refine oL (λkk ls H'=>∃ (pre l1:List (Nm×Int)) (z:Int),arrays=pre++l1/\kk=l1.length/\ls=[(1,ptr b1 0),(3,int .i64 z),(33,.list (arrays.map encArG)),(34,int .i64 ((arrays.map encArG).length:Int)),(35,int .i64 (pre.length:Int))]/\H'=[(b1,.cells 28 [.list (vars.map str),.list (arrays.map encArG),.list (fs.map qaM)])]/\(0:Int)<=z/\z<=vars.length+arrays.length+szNs vars+szAs pre)
  ⟨_,_,_,⟨[],arrays,_,rfl,rfl,rfl,rfl,by omega,by rw[szAs];omega⟩,⟨rfl,rfl,rfl,rfl,rfl,trivial⟩,zhR _⟩ ?_
 rintro kk ls H' ⟨pre3,l1,z3,hL3,rfl,rfl,rfl,hy1,hy2⟩ j3 hj3;have hb3:=pre_le hL3 ha6;refine gaj ?_;refine oC rfl (λhc=>?_) (λhc=>?_);obtain⟨a,l2,rfl⟩:=more hL3 hc;have hap:szAs arrays=szAs pre3+(a.1.length+1+szAs l2):=by rw[hL3,qo5,szAs]
 have hsx:szAs (pre3++[a])=szAs pre3+(a.1.length+1):=by rw[qo5,szAs,szAs]
 have hvl:=len_szNs vars;have hal:=len_szAs arrays;refine gal ?_;refine oP (xR (el':=encArG a) (cs:=[_,_]) rfl rfl zo (by rw[hL3];exact get_mid encArG pre3 a l2) rfl rfl) rfl<|gad ?_;refine oS (sA λb5=>?_) rfl;refine zQ69 ?_;refine gaa ?_;exact⟨l2.length,_,_,lt_succ_self _,⟨pre3++[a],l2,_,snoc hL3,rfl,rfl,rfl,by omega,by rw[hsx];omega⟩,⟨rfl,rfl,rfl,rfl,qao (by simp),trivial⟩,zhD zhr,hj3⟩
 have hall3:pre3=arrays:=by
  have hl1:l1=[]:=qd9 hL3 hc;rw[hL3,hl1,zLz]
 have hps3:szAs pre3=szAs arrays:=by rw[hall3]
 clear hc;refine gac ?_
 refine oL (λkk ls H'=>∃ (pre l1:List FnD) (z:Int),fs=pre++l1/\kk=l1.length/\ls=[(3,int .i64 z),(47,.list (fs.map qaM)),(48,int .i64 ((fs.map qaM).length:Int)),(49,int .i64 (pre.length:Int))]/\H'=[]/\(ndFs pre:Int)<=z/\z<=vars.length+arrays.length+szNs vars+szAs arrays+szFs pre)
  ⟨_,_,_,⟨[],fs,_,rfl,rfl,rfl,rfl,by rw[ndFs];omega,by rw[szFs];omega⟩,⟨rfl,rfl,rfl,rfl,trivial⟩,HSub.nil _⟩ ?_
 rintro kk ls H' ⟨pre4,l1,z4,hL4,rfl,rfl,rfl,hx1,hx2⟩ j4 hj4;have hb4:=pre_le hL4 hf6;refine gaj ?_;refine oC rfl (λhc=>?_) (λhc=>?_);rotate_left
 have hall4:pre4=fs:=by
  have hl1:l1=[]:=qd9 hL4 hc;rw[hL4,hl1,zLz]
 rw[hall4] at hx1;clear hc;refine gaa ?_;refine rR (hj4.trans (hj3.trans hj)) (zra rfl) zhn ⟨rfl,_,rfl,by omega⟩;obtain⟨f,l2,rfl⟩:=more hL4 hc;have hfm:f∈fs:=by rw[hL4];exact mem_append_right _ zMs
 have hp6:f.params.length<=2000000:=(hsm f hfm).params;have hl6:f.locals.length<=2000000:=(hsm f hfm).locals;have hap:szFs fs=szFs pre4+(szF f+szFs l2):=by rw[hL4,qoY,szFs]
 have hsx:szFs (pre4++[f])=szFs pre4+szF f:=by rw[qoY,szFs,szFs];omega
 have hnx:ndFs (pre4++[f])=ndFs pre4+ndF f:=by
  have key:∀ p q:List FnD,ndFs (p++q)=ndFs p+ndFs q:=λp q=>by
   induction p with
   |nil=>rw[nil_append,ndFs];omega
   |cons x p ih=>rw[cons_append,ndFs,ndFs,ih];omega
  rw[key,ndFs,ndFs];omega
 have hfe:szF f=1+f.name.length+szNs f.params+szNs f.locals+szSs f.body:=rfl;have hne:ndF f=1+f.params.length+f.locals.length+ndSs f.body:=rfl;have hlp:(f.params.map str).length=f.params.length:=zLm _;have hll0:(f.locals.map str).length=f.locals.length:=zLm _;have hpl:=len_szNs f.params;have hll:=len_szNs f.locals;have hvl:=len_szNs vars;have hal:=len_szAs arrays;have hbz:=qjH (B0:=B0) (w0:=w0) 100000000 (zNr _) f.body (hbd f hfm) zo;refine gal ?_;refine oP (xR (el':=qaM f) (cs:=[_,_,_,_]) rfl rfl zo (by rw[hL4];exact get_mid qaM pre4 f l2) rfl rfl) rfl<|gad ?_;refine oS (sA λb7=>?_) rfl;refine gad ?_;refine cD (m:=20) rfl [fnH b7 f]<|zQ35 ?_;refine aT 3 rfl rfl (Pure.slen rfl)<|aT 4 rfl rfl (Pure.quo rfl rfl zDd zo zo)<|aT 5 rfl rfl (Pure.add rfl rfl zo)<|aT 6 rfl rfl (pF rfl)<|aT 7 rfl rfl (pL (c:=.list _) rfl zm0 rfl)<|aT 8 rfl rfl (Pure.llen rfl)<|aT 9 rfl rfl (Pure.add rfl rfl zo)<|aT 10 rfl rfl (pF rfl)<|aT 11 rfl rfl (pL (c:=.list _) rfl zm0 rfl)<|aT 12 rfl rfl (Pure.llen rfl)<|aT 13 rfl rfl (Pure.add rfl rfl zo)<|aT 14 rfl rfl (pF rfl)<|aT 15 rfl rfl (pL (c:=.list _) rfl zm0 rfl)<|aL ?_ zhr;refine lO 16 (lS (H1:=[]) rfl (.inl rfl) rfl zpr zhr (S.callH (H1:=[]) (F:=[]) [_] rfl zpr hbz ?_ (by rintro ch H' ⟨_,nm,h,_⟩;cases h)));rintro lv H' ⟨rfl,z1,h,hw1,hw2⟩;cases h;refine lO 17 (lH rfl rfl (Pure.add rfl rfl zo) ?_);refine lO 18 (lH rfl rfl (Pure.add rfl rfl zo) ?_);refine lO 19 (lH rfl rfl (pA (lv:=.atom _) rfl) ?_);refine zQ51 ?_;refine cD (m:=9) rfl [fnH b7 f]<|zQ39 ?_;refine lO 0 (lS (H1:=[]) rfl (.inl rfl) rfl zpr zhp (S.litA (es:=[]) [] rfl eN rfl rfl rfl λb9=>?_));refine lO 3 (lS (H1:=[(b9,.row 0)]) rfl (.inl rfl) rfl zpr zhp (S.acc (F:=[]) rfl Acc.row rfl (qdk _) (qe1 _) (by simp;omega) λv1 H1 h1=>?_));refine lO 6 (lS (H1:=H1) rfl (.inl rfl) rfl zpr zhp (S.acc (F:=[]) rfl h1 rfl (qdk _) (qe1 _) (by simp;omega) λv2 H2 h2=>?_));have e2:([]++f.params.map str++f.locals.map str:List LV)=(f.params++f.locals).map str:=by simp
 rw[e2] at h2;refine lO 7 (lH rfl rfl (Pure.llen (h2.elems)) ?_);refine zQ51 ?_;refine qah.sub (d:=78) rfl h2.sub ?_;refine cW (H':=[]) zhn ?_
 refine oL (λkk ls H'=>∃ (pre l1:List Nm) (z:Int),f.params++f.locals=pre++l1/\kk=l1.length/\ls=[(3,int .i64 z),(47,.list (fs.map qaM)),(48,int .i64 ((fs.map qaM).length:Int)),(49,int .i64 (pre4.length:Int)),(78,.list ((f.params++f.locals).map str)),(79,int .i64 (((f.params++f.locals).map str).length:Int)),(80,int .i64 (pre.length:Int))]/\H'=[]/\(ndFs pre4:Int)+ndF f<=z/\z+pre.length<=vars.length+arrays.length+szNs vars+szAs arrays+szFs pre4+1+f.name.length+f.params.length+f.locals.length+szSs f.body+szNs pre)
  ⟨_,_,_,⟨[],f.params++f.locals,_,rfl,rfl,rfl,rfl,by omega,by rw[szNs];simp only[zLn];omega⟩,⟨rfl,rfl,rfl,rfl,rfl,rfl,rfl,trivial⟩,HSub.nil _⟩ ?_
 rintro kk ls H' ⟨pre5,l5,z5,hL5,rfl,rfl,rfl,hv1,hv2⟩ j5 hj5;have hb5:=pre_le hL5 (show(f.params++f.locals).length<=4000000 by rw[zLa];omega);refine gaj ?_;refine oC rfl (λhd=>?_) (λhd=>?_);obtain⟨a,l6,rfl⟩:=more hL5 hd;have hap5:szNs f.params+szNs f.locals=szNs pre5+(a.length+1+szNs l6):=by rw[<-qgi,hL5,qgi,szNs]
 have hsx5:szNs (pre5++[a])=szNs pre5+(a.length+1):=by rw[qgi,szNs,szNs]
 have hlx5:(pre5++[a]).length=pre5.length+1:=by simp
 refine gal ?_;refine oP (xR (el':=str a) (cs:=[_]) rfl rfl zo (by rw[hL5];exact get_mid str pre5 a l6) rfl rfl) rfl<|zQ69 ?_;refine gaa ?_;exact⟨l6.length,_,_,lt_succ_self _,⟨pre5++[a],l6,_,snoc hL5,rfl,rfl,rfl,by omega,by rw[hsx5,hlx5];omega⟩,⟨rfl,rfl,rfl,rfl,rfl,rfl,qao (by simp),trivial⟩,HSub.nil _,hj5⟩
 have hall5:pre5=f.params++f.locals:=by
  have hl1:l5=[]:=qd9 hL5 hd;rw[hL5,hl1,zLz]
 have hs5:szNs pre5=szNs f.params+szNs f.locals:=by rw[hall5,qgi]
 have hp5:pre5.length=f.params.length+f.locals.length:=by rw[hall5,zLa]
 clear hd;refine gaa ?_;exact⟨l2.length,_,_,lt_succ_self _,⟨pre4++[f],l2,_,snoc hL4,rfl,rfl,rfl,by rw[hnx];omega,by rw[hsx];omega⟩,⟨rfl,rfl,rfl,qao (by simp),trivial⟩,HSub.nil _,hj5.trans hj4⟩
end
end Go.Proofs.YtegmklafpoldgaaGreatDoor.RZ
namespace Go.GL
open Go.RowKit
theorem qa3:∀ l:List (List UInt8),qdw 1 (l.map str)
 |[]=>eN
 |a::l=>eC rfl rfl (qa3 l)
theorem LCalls.ret_strs{C:Ctx}{f:FuncId}{vs:List Value}{l:List (List UInt8)}{t:TypeId}
  (h:∀ w,Below C.B0 C.w0 w->Calls C.P f vs.toArray w (λe w'=>e=.returned (.slice (some ⟨w.heap.size,0,none⟩) l.length l.length)/\w'=w.alloc (.cells (l.map λs=>Value.string ⟨s.toArray⟩).toArray t))):LCalls C f (vs.map .atom) [] (Ret (.list (l.map str))):=λxs w L hv hH=>by
 have hx:xs=vs:=by
  clear h hH
  induction vs generalizing xs with
  |nil=>simpa [RepL] using hv
  |cons v vs ih=>
   simp only[zMc,RepL,Rep] at hv;obtain⟨y,ys,rfl,rfl,hv⟩:=hv;rw[ih _ hv]
 subst hx;refine(h w hH.base).mono λe w' he=>?_;obtain⟨rfl,rfl⟩:=he
 have hr:RepL w L (l.map str) (l.map λs=>Value.string ⟨s.toArray⟩):=by
  have:=qa1 (w:=w) (L:=L) (l.map λs=>Value.string ⟨s.toArray⟩);rw[map_map] at this;exact this
 have hok:qdw 1 (l.map str):=qa3 l;have hl:(l.map str).length=l.length:=zLm _;have:=qjE (K:=λlv H=>∃ b,lv=.app b l.length 1 (l.map str)) (t:=t) (cap:=l.length) (rest:=[]) hH hr hok zo (by simp) λb=>⟨b,rfl⟩
 have e1:((l.map λs=>Value.string ⟨s.toArray⟩).flatMap λv=>v.cells.toList)++[]=l.map λs=>Value.string ⟨s.toArray⟩:=by
  rw[zLz];clear this hok hr h hv hl
  induction l with
  |nil=>rfl
  |cons a l ih=>rw[zMc,List.flatMap_cons,ih];try rfl
 rw[e1,hl] at this;obtain⟨lv,H',L',r1,r2,r3,b,rfl⟩:=this;exact⟨.list (l.map str),[],L',r1.weak zhn,r2.weak zhn,LV.Sub.app _ _ _ _ _ _ _ r3,rfl,rfl⟩
end Go.GL
namespace Go.Proofs.YtegmklafpoldgaaGreatDoor
open Go.GL Go.RowKit Go.Stele
namespace Asm
def GM(w0:World):Prop:=∃ m,w0.cell? ⟨0,0,none⟩=some (.int .i64 m)
theorem qk7{w:World}{L:Live}{b:Nat}:∀ (k off:Nat) (ws:List (List UInt8)),qaj w L b k off (ws.map str)->∀ (j:Nat) x,(ws.map λl=>(⟨l.toArray⟩:ByteArray))[j]? = some x->k=1/\w.cell? ⟨b,off+j,none⟩=some (.string x)
 |k,off,[],_,j,x,h=>by simp at h
 |k,off,s::ws,h,0,x,hx=>by
  simp only[zMc,qaj] at h;obtain⟨⟨hk,_,y,hy,hr⟩,_⟩:=h;simp only[Rep] at hr;simp at hx;rw[<-hx,Nat.add_zero,hy,hr]
  exact⟨hk.symm,rfl⟩
 |k,off,s::ws,h,j+1,x,hx=>by
  simp only[zMc,qaj] at h;obtain⟨⟨hk,_⟩,h2⟩:=h;have:=qk7 k (off+k) ws h2 j x (by simpa using hx);refine⟨hk.symm,?_⟩;rw[<-this.2,<-hk,Nat.add_assoc,Nat.add_comm 1 j]
section
variable{B0:Nat}{w0:World}
theorem cutPrefix_spec(s p:List UInt8):LCalls (KC B0 w0) 131 [str s,str p] [] (Ret (.tuple [str (Go.Lib.trimPrefix s p),bool (Go.Lib.hasPrefix s p)])):=by
 refine LCalls.mono (LCalls.of_belowT (vs:=[.string ⟨s.toArray⟩,.string ⟨p.toArray⟩]) (p:=λus=>us=[.string ⟨(Go.Lib.trimPrefix s p).toArray⟩,.bool (Go.Lib.hasPrefix s p)]) λw hw=>?_) ?_;refine(Tryz.strings_CutPrefix ⟨s.toArray⟩ ⟨p.toArray⟩ w).mono λe w' he=>⟨_,he.1,rfl,by rw[he.2];exact Below.refl _ _⟩;rintro r H ⟨v,rfl,⟨us,rfl,rfl⟩,rfl⟩;exact⟨rfl,rfl⟩
theorem cutSuffix_spec(s p:List UInt8)(hs:s.length<=1000000000):LCalls (KC B0 w0) 157 [str s,str p] [] (Ret (.tuple [str (Go.Lib.trimSuffix s p),bool (Go.Lib.hasSuffix s p)])):=by
 refine LCalls.mono (LCalls.of_belowT (vs:=[.string ⟨s.toArray⟩,.string ⟨p.toArray⟩]) (p:=λus=>us=[.string ⟨(Go.Lib.trimSuffix s p).toArray⟩,.bool (Go.Lib.hasSuffix s p)]) λw hw=>?_) ?_;refine(Tryz.strings_CutSuffix ⟨s.toArray⟩ ⟨p.toArray⟩ w (by show s.toArray.size<=_;simp;omega)).mono λe w' he=>⟨_,he.1,rfl,by rw[he.2];exact Below.refl _ _⟩;rintro r H ⟨v,rfl,⟨us,rfl,rfl⟩,rfl⟩;exact⟨rfl,rfl⟩
theorem joinS_spec(sep:List UInt8)(ws:List (List UInt8))(hn:ws.length<=1000000000)(hl:(Go.Lib.join ws sep).length<=1000000000):LCalls (KC B0 w0) 26 [.list (ws.map str),str sep] [] (Ret (str (Go.Lib.join ws sep))):=λxs w L hv hH=>by
 simp only[RepL] at hv;obtain⟨y,ys,rfl,hy,z,zs,rfl,hz,rfl⟩:=hv;simp only[Rep] at hy hz;obtain⟨a,cap,rfl,hcap,hrows⟩:=hy;subst hz;rw[zLm] at hcap
 have hmap:(ws.map λl=>(⟨l.toArray⟩:ByteArray)).map (·.data.toList)=ws:=by
  rw[map_map]
  conv=>rhs;rw[<-List.map_id ws]
  rfl
 have hc:Calls Tryz.prog 26 #[.slice a ws.length cap,.string ⟨sep.toArray⟩] w λe w'=>e=.returned (.string ⟨(Go.Lib.join ws sep).toArray⟩)/\Below w.heap.size w w':=by
  by_cases hne:ws=[]
  ·subst hne;exact(Tryz.strings_Join_none a cap ⟨sep.toArray⟩ w).mono λe w' he=>⟨by rw[he.1];try rfl,by rw[he.2];exact Below.refl _ _⟩
  obtain⟨b,off,k,rfl,hr⟩:=hrows (by simpa using hne);have hcells:=λj x hx=>(qk7 k off ws hr j x hx).2
  have hb:b<w.heap.size:=by
   obtain⟨s,r,rfl⟩:=List.exists_cons_of_ne_nil hne;have:=hcells 0 _ rfl;exact World.block_lt_of_cell? _ _ this
  have:=Tryz.strings_Join b off cap (ws.map λl=>(⟨l.toArray⟩:ByteArray)) ⟨sep.toArray⟩ w hcells hb (by rw[zLm];omega) (by rw[zLm];exact hcap) (by rw[hmap];show(Go.Lib.join ws sep).length<=_;omega);rw[zLm,hmap] at this;exact this
 rw[zLm];refine hc.mono λe w' he=>?_;obtain⟨rfl,hb⟩:=he;obtain⟨h1,h2⟩:=qiQ hH hb;exact⟨str (Go.Lib.join ws sep),[],L,h1,h2,qai,rfl,rfl⟩
theorem GM.at(hG:GW B0 w0)(h:GM w0){w:World}(hb:Below B0 w0 w):∃ m,w.cell? ⟨0,0,none⟩=some (.int .i64 m):=by
 obtain⟨m,hm⟩:=h;exact⟨m,(cell_of_heap (hb.block 0 (Nat.lt_of_lt_of_le zDd hG.big)) 0).trans hm⟩
theorem qk3(hG:GW B0 w0)(hM:GM w0)(s:List UInt8)(c:UInt8)(hs:s.length<=1000000000):LCalls (KC B0 w0) 94 [str s,str [c]] [] (Ret (.list ((qaT c s).map str))):=by
 rw[<-qqS];refine LCalls.ret_strs (vs:=[.string ⟨s.toArray⟩,.string ⟨#[c]⟩]) (t:=9) λw hw=>?_;obtain⟨m,hm⟩:=GM.at hG hM hw;have h1:=Tryz.strings_Split ⟨s.toArray⟩ ⟨#[c]⟩ m w (by show s.toArray.size<_;simp;omega) hm (zNr 1)
 have e1:(Go.Lib.splitB ⟨#[c]⟩ 0 (Go.Lib.countB ⟨s.toArray⟩ ⟨#[c]⟩) ⟨s.toArray⟩).map Value.string=(Go.Lib.split s [c]).map λs=>Value.string ⟨s.toArray⟩:=by
  have:=Go.Lib.splitB_data ⟨#[c]⟩ 0 (Go.Lib.countB ⟨s.toArray⟩ ⟨#[c]⟩) ⟨s.toArray⟩;have e2:Go.Lib.split s [c]=Go.Lib.splitK (⟨#[c]⟩:ByteArray).data.toList 0 (Go.Lib.countB ⟨s.toArray⟩ ⟨#[c]⟩) (⟨s.toArray⟩:ByteArray).data.toList:=rfl;rw[e2,<-this,map_map]
  try rfl
 have e3:(Go.Lib.split s [c]).length=Go.Lib.countB ⟨s.toArray⟩ ⟨#[c]⟩+1:=by
  have:=congrArg List.length e1;rw[zLm,zLm,Go.Lib.splitB_all ⟨#[c]⟩ (zNr 1) 0 _ _ rfl] at this;exact this.symm
 rw[e1] at h1;rw[e3];exact h1
theorem quz(hG:GW B0 w0)(hM:GM w0)(s:List UInt8)(c:UInt8)(hs:s.length<=1000000000):LCalls (KC B0 w0) 95 [str s,str [c]] [] (qgV λlv=>∃ a b,lv=.tuple [str (s.takeWhile λd=>decide (d≠c)),str a,bool b]):=by
 rw[<-qvJ];refine LCalls.mono (LCalls.of_belowT (vs:=[.string ⟨s.toArray⟩,.string ⟨#[c]⟩]) (p:=λus=>us=[.string ⟨(Go.Lib.cut s [c]).1.toArray⟩,.string ⟨(Go.Lib.cut s [c]).2.1.toArray⟩,.bool (Go.Lib.cut s [c]).2.2]) λw hw=>?_) ?_;obtain⟨m,hm⟩:=GM.at hG hM hw;refine(Tryz.strings_Cut ⟨s.toArray⟩ ⟨#[c]⟩ m w (by show s.toArray.size<_;simp;omega) hm).mono λe w' he=>?_;obtain⟨rfl,n,rfl⟩:=he;exact⟨_,rfl,rfl,below_drewN (Below.refl _ _) n⟩;rintro r H ⟨v,rfl,⟨us,rfl,rfl⟩,rfl⟩;exact⟨_,rfl,⟨_,_,rfl⟩,rfl⟩
def qcj(p:Wd×Nat):LV:=.agg [str p.1,int .i64 p.2]
end
def qlq:List UInt8:=[97,98,99,100,101,102,103,104,105,106,107,108,109,110,111,112,113,114,115,116,117,118,119,120,121,122,95,48,49,50,51,52,53,54,55,56,57]
theorem qqC(c:UInt8):qlq.contains c=qaU c:=by
 have:∀ n:Nat,n<256->qlq.contains (UInt8.ofNat n)=qaU (UInt8.ofNat n):=by decide +kernel
 have h:=this c.toNat c.toNat_lt
 rwa [UInt8.ofNat_toNat] at h
theorem qo7{st:List UInt8}{p:UInt8->Bool}(he:∀ c,st.contains c=p c)(s:List UInt8):(Go.Lib.trimS s st=[]) ↔ s.all p=true:=by
 have he:(λc=>st.contains c)=p:=funext he;unfold Go.Lib.trimS Go.Lib.trimLeftS Go.Lib.trimRightS;rw[he,qb8];constructor;intro h
 by_cases h2:s.reverse.dropWhile p=[]
 rw[qb8] at h2;rw[all_reverse] at h2;exact h2;exfalso;obtain⟨c,r,hcr⟩:=List.exists_cons_of_ne_nil h2
 have h3:p c=false:=by
  have:=List.head?_dropWhile_not p s.reverse;rw[hcr] at this;simpa using this
 rw[hcr,all_reverse,List.all_cons,h3] at h;cases h;intro h;have h2:s.reverse.dropWhile p=[]:=by rw[qb8,all_reverse];exact h
 rw[h2]
 try rfl
def qbw(o:Option Wd)(lv:LV):Prop:=∃ s,lv=.tuple [str s,bool o.isSome]/\∀ l,o=some l->s=l
theorem qbw.mk{o:Option Wd}{s:Wd}{b:Bool}(hb:o.isSome=b)(hs:∀ l,o=some l->s=l):qbw o (.tuple [str s,bool b]):=⟨s,by rw[hb],hs⟩
theorem qbI{p q:Bool}{s:Wd}{o:Option Wd}(h:o=if p=true/\q=true then some s else none):o.isSome=(p && q)/\∀ l,o=some l->s=l:=by
 subst h;cases p <;> cases q <;> simp
attribute [local irreducible] LOps qah qae LCalls Go.GL.Pure qaw qam qad LQ LAny qay qal
section
variable{B0:Nat}{w0:World}
theorem qpH(s st:List UInt8)(hs:s.length<=1000000000)(h1:st.length<=100)(h3:st.all (λb=>decide (b.toNat<128))=true):LCalls (KC B0 w0) 159 [str s,str st] [] (Ret (str (Go.Lib.trimS s st))):=
 LCalls.ret_of (vs:=[.string ⟨s.toArray⟩,.string ⟨st.toArray⟩]) λw hw=>(Go.Proofs.Any.strings_Trim_laid Tryz.lays160 zk ⟨s.toArray⟩ ⟨st.toArray⟩ w (by show s.toArray.size<=_;simp;omega) (by show st.toArray.size<_;simp;omega) (Go.Proofs.ascii_of_all h3))
theorem qmw(s:List UInt8)(hs:s.length<=1000000000):LCalls (KC B0 w0) 158 [str s] [] (Ret (bool (qgn s))):=by
 have hT:=qpH (B0:=B0) (w0:=w0) s qlq hs zDd zDd;have hnil:=qo7 qqC s;refine cJ Tryz.func158 (n:=23) ?_;refine gaa ?_;refine oB 5 rfl (λh1=>?_) (λh1=>?_);have e:s=[]:=zRi h1;subst e;refine gab ?_;refine oC rfl (λh=>?_) (λh=>by cases h);refine gaa ?_;exact qak rfl (rC (rT (v:=.atom _) rfl (vR _)) rN) rfl;have h1':¬ s=[]:=of_decide_eq_false h1
 obtain⟨c,r,rfl⟩:∃ c r,s=c::r:=by
  cases s with
  |nil=>exact absurd rfl h1'
  |cons c r=>exact⟨c,r,rfl⟩
 have hN:=qoL c r;refine gad ?_;refine oB 10 rfl (λh2=>?_) (λh2=>?_);have h2':¬ (c::r).length<=40:=by have:=zRi h2;omega
 rw[decide_eq_false h2',zRs,zRs] at hN;refine gab ?_;refine oC rfl (λh=>?_) (λh=>by cases h);refine gaa ?_;exact qak rfl (rC (rT (v:=.atom _) rfl (vR _)) rN) (qau hN.symm);have h2':(c::r).length<=40:=by have:=of_decide_eq_false h2;omega
 rw[zRp h2',Bool.true_and] at hN;refine gab ?_;refine oP (pI (c:=c) rfl rfl (by omega) rfl) rfl<|gab ?_;refine oB 15 rfl (λh3=>?_) (λh3=>?_)
 have h3':qaV c=false:=by
  unfold qaV;rw[decide_eq_false (by have:cv c<97:=zRi h3;omega),zRs]
 rw[h3',zRs] at hN;refine gab ?_;refine oC rfl (λh=>?_) (λh=>by cases h);refine gaa ?_;exact qak rfl (rC (rT (v:=.atom _) rfl (vR _)) rN) (qau hN.symm);refine gab ?_;refine oP (pI (c:=c) rfl rfl (by omega) rfl) rfl<|gad ?_;refine oC rfl (λh=>?_) (λh=>?_)
 have h3':qaV c=false:=by
  unfold qaV;rw[decide_eq_false (p:=cv c<=122) (by have:cv c > 122:=zRi h;omega),Bool.and_false]
 rw[h3',zRs] at hN;refine gaa ?_;exact qak rfl (rC (rT (v:=.atom _) rfl (vR _)) rN) (qau hN.symm)
 have h3':qaV c=true:=by
  unfold qaV;rw[zRp (by have:¬ cv c<97:=of_decide_eq_false h3;omega),zRp (by have:¬ cv c > 122:=of_decide_eq_false h;omega)]
  try rfl
 rw[h3',Bool.true_and] at hN;refine gaa ?_;refine oS (sF [_,_] rfl hT ?_) rfl;refine gab ?_
 exact qak rfl (rC (rT (v:=.atom _) rfl (vR _)) rN) (qau (by
  rw[hN,Bool.eq_iff_iff,decide_eq_true_iff]
  exact hnil))
theorem qgF(p:Wd×Nat)(hs:p.1.length<=1000000000):LCalls (KC B0 w0) 96 [qcj p] [] (qgV (qbw (defW p.1))):=by
 obtain⟨w,ln⟩:=p;simp only at hs ⊢;obtain⟨r1,r2⟩:=qbI (qvi w)
 have hlen:(Go.Lib.trimSuffix w [58]).length<=1000000000:=by
  unfold Go.Lib.trimSuffix;split;rw[List.length_take];omega;exact hs
 unfold qcj;refine cJ Tryz.func96 (n:=18) ?_;refine gai ?_;refine oS (sB (cs:=[str w,int .i64 ln]) rfl λb1=>?_) rfl;refine gaa ?_;refine oS (sF [_,_] rfl (cutSuffix_spec w [58] hs) ?_) rfl;refine gaa ?_;refine oB 14 rfl (λh=>?_) (λh=>?_);exact zT29;rw[h,zRs] at r1;refine gab ?_;exact qcf rfl (rC (rT (v:=.atom _) rfl (vR _)) (rC (rT (v:=.atom _) rfl (vR _)) rN)) (qbw.mk r1 r2)
theorem qjX(p:Wd×Nat)(hs:p.1.length<=1000000000):LCalls (KC B0 w0) 97 [qcj p] [] (qgV (qbw (refW p.1))):=by
 obtain⟨w,ln⟩:=p;simp only at hs ⊢;obtain⟨r1,r2⟩:=qbI (qvx w)
 have hlen:(Go.Lib.trimPrefix w [38]).length<=1000000000:=by
  unfold Go.Lib.trimPrefix;split;rw[length_drop];omega;exact hs
 unfold qcj;refine cJ Tryz.func97 (n:=18) ?_;refine gai ?_;refine oS (sB (cs:=[str w,int .i64 ln]) rfl λb1=>?_) rfl;refine gaa ?_;refine oS (sF [_,_] rfl (cutPrefix_spec w [38]) ?_) rfl;refine gaa ?_;refine oB 14 rfl (λh=>?_) (λh=>?_);exact zT29;rw[h,zRs] at r1;refine gab ?_;exact qcf rfl (rC (rT (v:=.atom _) rfl (vR _)) (rC (rT (v:=.atom _) rfl (vR _)) rN)) (qbw.mk r1 r2)
theorem qnf(p:Wd×Nat)(hs:p.1.length<=1000000000):LCalls (KC B0 w0) 98 [qcj p] [] (Ret (bool (qho p.1))):=by
 obtain⟨w,ln⟩:=p;simp only at hs ⊢;have hT:=qpH (B0:=B0) (w0:=w0) w qdx hs zDd zDd;have hnil:(Go.Lib.trimS w qdx=[]) ↔ qho w=true:=qo7 (p:=λc=>qdx.contains c) (λc=>rfl) w;unfold qcj;refine cJ Tryz.func98 (n:=7) ?_;refine gai ?_;refine oS (sB (cs:=[str w,int .i64 ln]) rfl λb1=>?_) rfl;refine gaa ?_;refine oS (sF [_,_] rfl hT ?_) rfl;refine gab ?_
 exact qak rfl (rC (rT (v:=.atom _) rfl (vR _)) rN) (qau (by
  rw[Bool.eq_iff_iff,decide_eq_true_iff]
  exact hnil))
theorem qgX(c:UInt8):LCalls (KC B0 w0) 101 [int .u8 c.toNat] [] (Ret (bool (qar c))):=by
 have hD:qar c=(decide (48<=cv c) && decide (cv c<=57)):=rfl;refine cJ Tryz.func101 (n:=9) ?_;refine gac ?_;refine oB 5 rfl (λh=>?_) (λh=>?_);have h':cv c ≥ 48:=zRi h;rw[zRp (show 48<=cv c from h'),Bool.true_and] at hD;refine gan ?_;exact qak rfl (rC (rT (v:=.atom _) rfl (vR _)) rN) (qau hD.symm);have h':¬ cv c ≥ 48:=of_decide_eq_false h;rw[decide_eq_false (show ¬ 48<=cv c from h'),zRs] at hD;refine gab ?_;exact qak rfl (rC (rT (v:=.atom _) rfl (vR _)) rN) (qau hD.symm)
theorem qfE(hG:GW B0 w0)(n:Nat)(hn:n<=1000000000000):LCalls (KC B0 w0) 100 [int .i64 n] [] (Ret (str (qeb n))):=by
 have hi:=qdp hG n (by omega);have hne:=qcl n
 have hl:(Go.Lib.decDigits n).length<=20:=by
  rw[Go.Lib.decDigits_length];exact zNt (qf1 12 n (by omega)) zDd
 have hA:qeb n=([48,48,48,48,48]++Go.Lib.decDigits n).drop (([48,48,48,48,48]++Go.Lib.decDigits n).length-6):=rfl;generalize Go.Lib.decDigits n=d at hi hne hl hA;have hpos:=List.length_pos_iff.2 hne;have hsl:([48,48,48,48,48]++d:List UInt8).length=d.length+5:=by simp
 refine cJ Tryz.func100 (n:=12) ?_;refine gag ?_;refine oS (sF [_] rfl hi ?_) rfl;refine gac ?_;refine oP (Pure.sslice (l:=[48,48,48,48,48]++d) (i:=(([48,48,48,48,48]++d:List UInt8).length:Int)-6) (j:=(([48,48,48,48,48]++d:List UInt8).length:Int)) rfl ⟨_,rfl⟩ rfl (by omega) (by omega) (by omega)) rfl<|gaf ?_
 exact qak rfl (rC (rT (v:=.atom _) rfl (vR _)) rN) (by
  rw[hA];have e1:(((([48,48,48,48,48]++d:List UInt8).length:Nat):Int)-6).toNat=([48,48,48,48,48]++d:List UInt8).length-6:=by omega
  show str (List.drop (((([48,48,48,48,48]++d:List UInt8).length:Nat):Int)-6).toNat (List.take ((([48,48,48,48,48]++d:List UInt8).length:Nat):Int).toNat ([48,48,48,48,48]++d)))=_
  rw[e1,Int.toNat_natCast,take_length])
theorem qkg(b:Nat)(l:List UInt8)(H:Heap)(hB:BH b l H):LCalls (KC B0 w0) 99 [ptr b 0] H (λr H'=>r=.ret (int .i64 l.length)/\H'=H):=by
 obtain⟨p,v,Hv,hp,hacc,rfl⟩:=hB;refine cJ Tryz.func99 (n:=8) ?_;refine gaa ?_;refine oP (Pure.blen rfl hacc) rfl<|gaf ?_;exact rR rfl (rC (rT (v:=.atom _) rfl (vR _)) rN) (zhR _) ⟨rfl,rfl⟩
theorem qku(b:Nat)(l:List UInt8)(c:UInt8)(H:Heap)(hB:BH b l H)(hlen:l.length<=10000000000):LCalls (KC B0 w0) 102 [ptr b 0,int .u8 c.toNat] H (λr H'=>(∃ x,r=.ret x)/\BH b (l++[c]) H'):=by
 obtain⟨p,v,Hv,hp,hacc,rfl⟩:=hB;refine cJ Tryz.func102 (n:=17) ?_;refine gag ?_;refine oS (S.callH (H1:=[(b,_)]) (F:=Hv) [_] rfl (List.Perm.refl _) (qgo b p (.atom v) hp) (λx H' h=>?_) (λch H' h=>?_)) rfl;obtain⟨⟨x',hx'⟩,rfl⟩:=h;cases hx';refine gaa ?_;refine zQ2 ?_;refine oS (S.appBL1 (q:=(b,.cells 134 [ptr b 0,.atom v])) (l:=l) (m:=[c]) rfl hacc rfl (by simp) (by simp;omega) λv' H' hacc'=>?_) rfl;refine gab ?_;have hacc2:=hacc';generalize l++[c]=lm at hacc' hacc2 ⊢
 cases hacc' with
 |nil=>
  refine gac ?_
  exact rR rfl (rC (rT (v:=.atom _) rfl (vR _)) rN) (zhR _) ⟨⟨_,rfl⟩,ptr b 0,_,_,.inr rfl,hacc2,rfl⟩
 |row h0 h1 h2=>
  refine gac ?_;exact rR rfl (rC (rT (v:=.atom _) rfl (vR _)) rN) (zhR _) ⟨⟨_,rfl⟩,ptr b 0,_,_,.inr rfl,hacc2,rfl⟩
 obtain⟨⟨x',hx'⟩,_⟩:=h;cases hx'
end
end Asm
end Go.Proofs.YtegmklafpoldgaaGreatDoor
namespace Go.Proofs.YtegmklafpoldgaaGreatDoor.Asm
open Go.GL Go.RowKit Go.Stele
variable{a b:Heap}{all met:List Wd}
abbrev txt(l:List (Wd×Nat)):List Wd:=l.map (·.1)
theorem qps{l:List (Wd×Nat)}{i:Nat}(h:i<l.length):txt (l.take (i+1))=txt (l.take i)++[l[i].1]:=by
 unfold txt;rw[List.take_succ_eq_append_getElem h,zMa];rfl
theorem qko{a:List Wd}{w d:Wd}(h:defW w=some d):defs (a++[w])=defs a++[d]:=by
 rw[qcE,qcV,h];rfl
theorem qj8{a:List Wd}{w:Wd}(h:defW w=none):defs (a++[w])=defs a:=by
 rw[qcE,qaB h];simp[defs]
theorem set_nil:SetMap #[] (λs=>decide (s∈([]:List Wd))):=⟨λe he=>by simp at he,λs h=>by simp at h⟩
theorem qpa{es:Array MapEntry}{ds:List Wd}{d:Wd}(h:SetMap es (λs=>decide (s∈ds) || decide (s=d))):SetMap es (λs=>decide (s∈ds++[d])):=
 cast (congrArg (SetMap es) (funext λs=>by simp)) h
attribute [local irreducible] LOps qah qae LCalls Go.GL.Pure qaw qam qad LQ LAny qay qal
section
variable{B0:Nat}{w0:World}
theorem tokens_spec(hG:GW B0 w0)(hM:GM w0)(s:List UInt8)(hs:s.length<=400000000):LCalls (KC B0 w0) 36 [str s] [] (Ret (.list ((qfR s).map qcj))):=by
 have hP:qfR s=qkD 0 (qaT 10 s):=rfl;have hpl:=qid 10 s;have hpa:((qaT 10 s).map str).length=(qaT 10 s).length:=zLm _
 have htl:(qfR s).length<=s.length+1:=by
  have h1:=qin s;rw[<-qcQ,zLm] at h1;exact h1
 have hsp:=qk3 hG hM s 10 zo;refine cJ Tryz.func36 (n:=41) ?_;refine gag ?_;refine oS (sF [_,_] rfl hsp ?_) rfl;refine gab ?_
 refine oL (λk ls H=>∃ (i:Nat) (out:List (Wd×Nat)) (v:LV),i<=(qaT 10 s).length/\k=(qaT 10 s).length-i/\ls=[(3,v),(9,.list ((qaT 10 s).map str)),(10,int .i64 (qaT 10 s).length),(11,int .i64 (i:Nat))]/\Acc 2 v (out.map qcj) H []/\out++qkD i ((qaT 10 s).drop i)=qfR s)
  ⟨_,_,_,⟨0,[],qab,zero_le _,rfl,rfl,Acc.nil,rfl⟩,⟨rfl,rfl,qao zo,rfl,trivial⟩,zhR _⟩ ?_
 rintro k ls H ⟨i,out,v,hi,rfl,rfl,hacc,hE⟩ j hj;refine gaj ?_;refine oC rfl (λhc=>?_) (λhc=>?_)
 ·have hlt:i<(qaT 10 s).length:=by have:=zt hc;omega
  have hlo:out.length<=(qfR s).length:=by rw[<-hE,zLa];omega
  rw[qpZ hlt] at hE;have hll:=qdh (getElem_mem hlt);have hc1:=quz hG hM (qaT 10 s)[i] 35 zo;have hW:qfF (qaT 10 s)[i]=full (qaT 32 ((qaT 10 s)[i].takeWhile λd=>decide (d≠35))):=rfl;have htw:((qaT 10 s)[i].takeWhile λd=>decide (d≠35)).length<=(qaT 10 s)[i].length:=(List.takeWhile_prefix _).length_le;have hs2:=qk3 hG hM ((qaT 10 s)[i].takeWhile λd=>decide (d≠35)) 32 zo;have hql:=qid 32 ((qaT 10 s)[i].takeWhile λd=>decide (d≠35));generalize (qaT 10 s)[i].takeWhile (λd=>decide (d≠35))=line at hc1 hW htw hs2 hql;generalize hq:qaT 32 line=q at hW hs2 hql;have hqa:(q.map str).length=q.length:=zLm _
  repeat (first|refine LOps.nil ?_|refine qN ?_|refine qah.skip ?_)
  refine qah.seq ?_;refine cM (A:=List (Wd×Nat)×LV×Heap) (λa=>[(3,a.2.1),(9,.list ((qaT 10 s).map str)),(10,int .i64 (qaT 10 s).length),(11,int .i64 (i:Nat))]) (λa=>a.2.2) (λa=>a.1=out++(full q).map (λw=>(w,i+1))/\Acc 2 a.2.1 (a.1.map qcj) a.2.2 []) ?_ ?_;refine gaa ?_;refine oP (xR (el':=str (qaT 10 s)[i]) (cs:=[str (qaT 10 s)[i]]) rfl rfl zo (qbR _ _ _ hlt) rfl rfl) rfl<|gac ?_;refine oS (S.fnIf [_,_] rfl hc1 ?_) rfl;rintro lv ⟨a,b,rfl⟩;refine gaa ?_;refine oS (sF [_,_] rfl hs2 ?_) rfl;refine gab ?_
  refine oL (λk ls H=>∃ (x:Nat) (out2:List (Wd×Nat)) (v:LV),x<=q.length/\k=q.length-x/\ls=[(3,v),(4,int .i64 (i:Nat)),(9,.list ((qaT 10 s).map str)),(10,int .i64 (qaT 10 s).length),(11,int .i64 (i:Nat)),(23,.list (q.map str)),(24,int .i64 q.length),(25,int .i64 (x:Nat))]/\Acc 2 v (out2.map qcj) H []/\out2.length<=out.length+x/\out2++(full (q.drop x)).map (λw=>(w,i+1))=out++(full q).map (λw=>(w,i+1)))
   ⟨_,_,_,⟨0,out,v,zero_le _,rfl,rfl,hacc,by omega,rfl⟩,⟨rfl,rfl,rfl,rfl,rfl,rfl,qao zo,rfl,trivial⟩,zhR _⟩ ?_
  rintro k ls H ⟨x,out2,v2,hx,rfl,rfl,hacc2,hlen2,hE2⟩ j2 hj2;have hol2:(out2.map qcj).length=out2.length:=zLm _;refine gaj ?_;refine oC rfl (λhc=>?_) (λhc=>?_);have hlt2:x<q.length:=by have:=zt hc;omega
  rw[qq8 hlt2] at hE2;refine gal ?_;refine oP (xR (el':=str q[x]) (cs:=[str q[x]]) rfl rfl zo (qbR _ _ _ hlt2) rfl rfl) rfl<|gac ?_;refine oC rfl (λhn=>?_) (λhn=>?_);have hne:¬ q[x]=[]:=by simpa using hn
  rw[zn hne] at hE2;refine gai ?_;refine oP (pM (lv:=v2) rfl) rfl<|gad ?_;refine zQ2 ?_;refine oS (S.acc rfl hacc2 rfl (by simp;rfl) rfl (by simp;omega) λv3 H3 hacc3=>oP (pA (lv:=v3) rfl) rfl ?_) rfl;refine gaa ?_;exact⟨_,_,_,by omega,⟨x+1,out2++[(q[x],i+1)],v3,by omega,rfl,rfl,by rw[zMa];exact hacc3,by simp;omega,by rw[zAs];exact hE2⟩,⟨rfl,rfl,rfl,rfl,rfl,rfl,rfl,qao zo,trivial⟩,zhR _,hj2⟩;have hne:q[x]=[]:=by simpa using hn
  rw[zp hne] at hE2;refine gaa ?_;exact⟨_,_,_,by omega,⟨x+1,out2,v2,by omega,rfl,rfl,hacc2,by omega,hE2⟩,⟨rfl,rfl,rfl,rfl,rfl,rfl,rfl,qao zo,trivial⟩,zhR _,hj2⟩;have hx':x=q.length:=by have:=zf hc;omega
  subst hx';rw[drop_length] at hE2;refine gab ?_;exact⟨(out2,v2,H),⟨by simpa [full] using hE2,hacc2⟩,⟨rfl,rfl,rfl,rfl,trivial⟩,zhR _,hj2⟩;rintro⟨out2,v2,H2⟩ ⟨ho,hacc2⟩ j3 hj3;simp only at ho hacc2;rw[hW,<-zAs,<-ho] at hE;refine gaa ?_;exact⟨_,_,_,by omega,⟨i+1,out2,v2,by omega,rfl,rfl,hacc2,by rw[<-hE]⟩,⟨rfl,rfl,rfl,qao zo,trivial⟩,zhR _,hj3.trans hj⟩
 have hi':i=(qaT 10 s).length:=by have:=zf hc;omega
 subst hi';rw[drop_length,qkD,zLz] at hE;subst hE;refine qah.sub (d:=3) (v:=v) rfl hacc.sub ?_;refine cW zhn ?_;refine gac ?_;exact qak hj (rC (rT (v:=.list _) rfl zsr) rN) rfl
end
theorem qoO{p:Wd×Nat}{x:Wd}{r:List (Wd×Nat)}(h:defW p.1=some x):errT all met (p::r)=if x∈met then (p.2,8) else errT all (met++[x]) r:=by
 obtain⟨w,ln⟩:=p;simp only at h;rw[errT,h]
theorem qpO{p:Wd×Nat}{x:Wd}{r:List (Wd×Nat)}(h:defW p.1=none)(h2:refW p.1=some x):errT all met (p::r)=if x∈all then errT all met r else (p.2,7):=by
 obtain⟨w,ln⟩:=p;simp only at h h2;rw[errT,h,h2]
theorem qno{p:Wd×Nat}{r:List (Wd×Nat)}(h:defW p.1=none)(h2:refW p.1=none):errT all met (p::r)=if qho p.1=true then errT all met r else (p.2,3):=by
 obtain⟨w,ln⟩:=p;simp only at h h2;rw[errT,h,h2]
section
variable{B0:Nat}{w0:World}
theorem check_spec(l:List (Wd×Nat))(hl:l.length<=1000000000)(hs:∀ p∈l,p.1.length<=1000000000):LCalls (KC B0 w0) 37 [.list (l.map qcj)] [] (Ret (.tuple [int .i64 ((errT (defs (txt l)) [] l).1:Nat),int .i64 ((errT (defs (txt l)) [] l).2:Nat)])):=by
 have hla:(l.map qcj).length=l.length:=zLm _;have zb:∀ w,(zeroValue 4).run (KC B0 w0).P w=.ok (.bool false) w:=λw=>(Go.zero_of_info (P:=Tryz.prog) (n:=1) zk).1 w;generalize hR:errT (defs (txt l)) [] l=R;refine cJ Tryz.func37 (n:=70) ?_;refine gag ?_;refine oS (S.makeMap λm=>?_) rfl;refine gaa ?_
 refine oL (λk ls H=>∃ (i:Nat) (es:Array MapEntry) (clock:Nat),i<=l.length/\k=l.length-i/\ls=[(0,.list (l.map qcj)),(4,.atom (.map (some m))),(17,.list (l.map qcj)),(18,int .i64 l.length),(19,int .i64 (i:Nat))]/\H=[(m,.obj (.map es clock))]/\SetMap es (λs=>decide (s∈defs (txt (l.take i)))))
  ⟨_,_,_,⟨0,#[],0,zero_le _,rfl,rfl,rfl,set_nil⟩,⟨rfl,rfl,rfl,qao zo,rfl,trivial⟩,zhR _⟩ ?_
 rintro k ls H ⟨i,es,clock,hi,rfl,rfl,rfl,hM⟩ j1 hj1;refine gaj ?_;refine oC rfl (λhc=>?_) (λhc=>?_);have hlt:i<l.length:=by have:=zt hc;omega
 have kd:=qgF (B0:=B0) (w0:=w0) l[i] (by have:=hs _ (getElem_mem hlt);omega);have htt:=qps hlt;refine zQ25 ?_;refine oS (sA λb6=>?_) rfl;refine gac ?_;refine oS (S.fnIf [_] rfl kd ?_) rfl;rintro lv ⟨s,rfl,hs2⟩;refine gaa ?_;refine oC rfl (λh=>?_) (λh=>?_);obtain⟨d,hd⟩:=zR h;obtain rfl:=hs2 d hd;refine gah ?_;refine oS (S.setPut (t:=102) (kt:=9) (el:=4) zk zk rfl rfl rfl zp1 hM λes' clock' hM'=>?_) rfl;refine gaa ?_;exact⟨_,_,_,by omega,⟨i+1,es',clock',by omega,rfl,rfl,rfl,by rw[htt,qko hd];exact qpa hM'⟩,⟨rfl,rfl,rfl,rfl,qao zo,trivial⟩,⟨[_],List.Perm.refl _⟩,hj1⟩
 have hn:defW l[i].1=none:=by
  cases ho:defW l[i].1 with
  |none=>rfl
  |some d=>rw[ho] at h;cases h
 refine gaa ?_;exact⟨_,_,_,by omega,⟨i+1,es,clock,by omega,rfl,rfl,rfl,by rw[htt,qj8 hn];exact hM⟩,⟨rfl,rfl,rfl,rfl,qao zo,trivial⟩,zhD zhr,hj1⟩;have hi':i=l.length:=by have:=zf hc;omega
 subst hi';rw[take_length] at hM;refine gaa ?_;refine oS (S.makeMap λm2=>?_) rfl;refine gaa ?_
 refine oL (λk ls H=>∃ (i:Nat) (es2:Array MapEntry) (clock2:Nat),i<=l.length/\k=l.length-i/\ls=[(4,.atom (.map (some m))),(9,.atom (.map (some m2))),(33,.list (l.map qcj)),(34,int .i64 l.length),(35,int .i64 (i:Nat))]/\H=[(m2,.obj (.map es2 clock2)),(m,.obj (.map es clock))]/\SetMap es2 (λs=>decide (s∈defs (txt (l.take i))))/\errT (defs (txt l)) (defs (txt (l.take i))) (l.drop i)=R)
  ⟨_,_,_,⟨0,#[],0,zero_le _,rfl,rfl,rfl,set_nil,hR⟩,⟨rfl,rfl,rfl,qao zo,rfl,trivial⟩,zhR _⟩ ?_
 rintro k ls H ⟨i,es2,clock2,hi,rfl,rfl,rfl,hM2,hE⟩ j2 hj2;refine gaj ?_;refine oC rfl (λhc=>?_) (λhc=>?_)
 ·have hlt:i<l.length:=by have:=zt hc;omega
  have hsl:=hs _ (getElem_mem hlt);have kd:=qgF (B0:=B0) (w0:=w0) l[i] zo;have kr:=qjX (B0:=B0) (w0:=w0) l[i] zo;have kc:=qnf (B0:=B0) (w0:=w0) l[i] zo;have htt:=qps hlt;rw[drop_eq_getElem_cons hlt] at hE;refine zQ25 ?_;refine oS (sA λb11=>?_) rfl;refine gac ?_;refine oS (S.fnIf [_] rfl kd ?_) rfl;rintro lv ⟨s,rfl,hs2⟩;refine gaa ?_;refine oC rfl (λh=>?_) (λh=>?_)
  ·obtain⟨d,hd⟩:=zR h;obtain rfl:=hs2 d hd;refine gah ?_;refine oP (Pure.setGet (t:=102) (kt:=9) (el:=4) zk zk zb rfl rfl zm1 hM2) rfl<|gaf ?_;refine oC rfl (λh3=>?_) (λh3=>?_);have hin:=zt h3;refine gaa ?_;rw[qoO hd,zp hin] at hE;exact qak (hj2.trans hj1) (rC (zrt rfl) (zra rfl)) (by rw[<-hE];rfl);have hin:=zf h3;refine gaa ?_;refine oS (S.setPut (t:=102) (kt:=9) (el:=4) zk zk rfl rfl rfl zp1 hM2 λes' clock' hM'=>?_) rfl;refine gaa ?_;exact⟨_,_,_,by omega,⟨i+1,es',clock',by omega,rfl,rfl,rfl,by rw[htt,qko hd];exact qpa hM',by rw[htt,qko hd,<-hE,qoO hd,zn hin]⟩,⟨rfl,rfl,rfl,rfl,qao zo,trivial⟩,⟨[_],zRq _ (zRr ..)⟩,hj2⟩
  have hn:defW l[i].1=none:=by
   cases ho:defW l[i].1 with
   |none=>rfl
   |some d=>rw[ho] at h;cases h
  refine gac ?_;refine oS (S.fnIf [_] rfl kr ?_) rfl;rintro lv ⟨s,rfl,hs3⟩;refine gaa ?_;refine oC rfl (λh3=>?_) (λh3=>?_);obtain⟨d,hd⟩:=zR h3;obtain rfl:=hs3 d hd;refine gah ?_;refine oP (Pure.setGet (t:=102) (kt:=9) (el:=4) zk zk zb rfl rfl zm2 hM) rfl<|gad ?_;refine oC rfl (λh4=>?_) (λh4=>?_);have hin:¬ s∈defs (txt l):=by simpa using h4
  refine gaa ?_;rw[qpO hn hd,zn hin] at hE;exact qak (hj2.trans hj1) (rC (zrt rfl) (zra rfl)) (by rw[<-hE];rfl);have hin:s∈defs (txt l):=by simpa using h4
  refine gaa ?_;exact⟨_,_,_,by omega,⟨i+1,es2,clock2,by omega,rfl,rfl,rfl,by rw[htt,qj8 hn];exact hM2,by rw[htt,qj8 hn,<-hE,qpO hn hd,zp hin]⟩,⟨rfl,rfl,rfl,rfl,qao zo,trivial⟩,zhD zhr,hj2⟩
  have hrn:refW l[i].1=none:=by
   cases ho:refW l[i].1 with
   |none=>rfl
   |some d=>rw[ho] at h3;cases h3
  refine gac ?_;refine oS (sF [_] rfl kc ?_) rfl;refine gad ?_;refine oC rfl (λh4=>?_) (λh4=>?_);have hin:¬ qho l[i].1=true:=by simpa using h4
  refine gaa ?_;rw[qno hn hrn,zn hin] at hE;exact qak (hj2.trans hj1) (rC (zrt rfl) (zra rfl)) (by rw[<-hE];rfl);have hin:qho l[i].1=true:=by simpa using h4
  refine gaa ?_;exact⟨_,_,_,by omega,⟨i+1,es2,clock2,by omega,rfl,rfl,rfl,by rw[htt,qj8 hn];exact hM2,by rw[htt,qj8 hn,<-hE,qno hn hrn,zp hin]⟩,⟨rfl,rfl,rfl,rfl,qao zo,trivial⟩,zhD zhr,hj2⟩
 have hi':i=l.length:=by have:=zf hc;omega
 subst hi';rw[drop_length,errT] at hE;refine gaa ?_;exact qak (hj2.trans hj1) (rC (zrt rfl) (zra rfl)) (by rw[<-hE];rfl)
end
def qiN(km:Option Nat)(Hk:Heap)(kn:Wd->Nat):Prop:=(km=none/\Hk=[]/\∀ x,kn x=0)∨∃ b m clock,km=some b/\Hk=[(b,.map (kvs m) clock)]/\∀ x,(GL.kvGet m x).getD (int .i64 0)=int .i64 (kn x:Nat)
section
variable{C:Ctx}{e:Env}{H:Heap}{dst:Option Nat}{ty:TypeId}{pos:String}{aft:Array Edge}{g:Option (Nat×Bool)}{K:LV->Heap->Prop}{X:List PanicEntry->Heap->Prop}{x y:Operand}
theorem S.known{t kt el:TypeId}(ht:C.P.underlying t=some (.map kt el))(hkt:C.P.underlying kt=some .string)(hz:∀ w,(zeroValue el).run C.P w=.ok (.int .i64 0) w){km:Option Nat}{Hk:Heap}{kn:Wd->Nat}{k:List UInt8}(hK:qiN km Hk kn)(hm:e.ev x=.atom (.map km))(hx:e.ev y=str k)
  (hb:∀ q∈Hk,q∈H) (hk:K (int .i64 (kn k:Nat)) H):qae C ⟨dst,.lookup t x y false,ty,pos,aft,g⟩ e H K X:=by
 rcases hK with⟨rfl,rfl,h0⟩|⟨b,m,clock,rfl,rfl,hI⟩;refine Pure.step (Pure.nilGet ht hkt hz hm hx) ?_;rw[h0 k] at hk;exact hk;refine Pure.step (Pure.kvGet ht hkt hz (zl:=int .i64 0) (λ_ _=>qai) hm hx (hb _ (zRb rfl))) ?_;rw[hI k];exact hk
end
theorem qnV{q:Nat×LObj}:HSub (a++b) (a++q::b):=⟨[q],List.perm_middle.trans (List.perm_append_singleton _ _).symm⟩
theorem quj{q:Nat×LObj}:HSub (a++b) ((a++[q])++b):=by
 rw[zAs];exact qnV
theorem qwO(a b:Nat):int .i64 ((a+b:Nat):Int)=int .i64 ((a:Int)+(b:Nat)):=qao zo
theorem quZ{q:Nat×LObj}:(a++q::b).Perm (b++(a++[q])):=by
 have h:=zPc (l₁:=a++[q]) (l₂:=b);rw[zAs] at h;exact h
theorem qwY{s:Nat}{v:LV}{es:List LV}{H F:Heap}(h:Acc s v es H F):HSub (a++F) (a++H):=by
 cases h with
 |nil=>exact zhR _
 |row=>exact qnV
theorem qn8(kn:Wd->Nat)(og:Nat)(l:List Wd)(t:Wd)(labs:List (Wd×Nat))(h:∀ w∈l,w≠[]):t.length<=(l.foldl (qbx kn og) (t,labs)).1.length:=by
 rw[qhr,qj2 kn l t h];omega
theorem qmQ(kn:Wd->Nat)(og:Nat):∀ (l:List Wd) (s:Wd×List (Wd×Nat)),s.2.length<=((l.foldl (qbx kn og) s).2).length/\((l.foldl (qbx kn og) s).2).length<=s.2.length+l.length
 |[],s=>by simp
 |w::r,s=>by
  rw[foldl_cons];have:=qmQ kn og r (qbx kn og s w)
  have h2:s.2.length<=(qbx kn og s w).2.length/\(qbx kn og s w).2.length<=s.2.length+1:=by
   unfold qbx
   cases defW w with
   |some x=>simp
   |none=>simp
  simp only[zLc];omega
theorem qt6:qbh []=qar 32:=by decide
section
variable{B0:Nat}{w0:World}
theorem qrP(hG:GW B0 w0)(l:List (Wd×Nat))(og:Nat)(hog:og<=1000000)(hl:l.length<=1000000000)(hs:∀ p∈l,p.1≠[]/\p.1.length<=1000000000)(kn:Wd->Nat)(hkn:∀ x,kn x<=1000000000000)(hL:((txt l).foldl (qbx kn og) ([],[])).1.length<=2000000000)(km:Option Nat)(Hk:Heap)(hK:qiN km Hk kn) :
  LCalls (KC B0 w0) 38 [.list (l.map qcj),int .i64 (og:Nat),.atom (.map km)] Hk (λr H'=>r=.ret (.tuple [str ((txt l).foldl (qbx kn og) ([],[])).1,.list (((txt l).foldl (qbx kn og) ([],[])).2.map qcj)])/\H'=Hk):=by
 have hla:(l.map qcj).length=l.length:=zLm _;have zi:∀ w,(zeroValue 3).run (KC B0 w0).P w=.ok (.int .i64 0) w:=λw=>(Go.zero_of_info (P:=Tryz.prog) (n:=1) zk).1 w
 have hne0:∀ i,∀ w∈txt (l.drop i),w≠[]:=λi w hw=>by
  obtain⟨p,hp,rfl⟩:=zRf hw;exact(hs p (List.mem_of_mem_drop hp)).1
 generalize hR:(txt l).foldl (qbx kn og) ([],[])=R at hL ⊢;refine cJ Tryz.func38 (n:=68) ?_;refine gag ?_;refine oS (sA λbb=>?_) rfl;refine gaa ?_
 refine oL (λk ls H=>∃ (i:Nat) (t:List UInt8) (labs:List (Wd×Nat)) (v:LV) (last:UInt8) (HB HL:Heap),i<=l.length/\k=l.length-i/\ls=[(1,int .i64 (og:Nat)),(2,.atom (.map km)),(8,ptr bb 0),(9,v),(10,int .u8 last.toNat),(18,.list (l.map qcj)),(19,int .i64 l.length),(20,int .i64 (i:Nat))]/\H=HB++HL/\BH bb t HB/\Acc 2 v (labs.map qcj) HL Hk/\qbh t=qar last/\labs.length<=i/\(txt (l.drop i)).foldl (qbx kn og) (t,labs)=R)
  ⟨_,_,_,⟨0,[],[],qab,32,[(bb,.cells 134 [.atom (.pointer none),.atom (.slice none 0 0)])],Hk,zero_le _,rfl,rfl,rfl,⟨_,_,[],.inl rfl,BRow.nil,rfl⟩,Acc.nil,qt6,zero_le _,hR⟩,⟨rfl,rfl,rfl,rfl,rfl,rfl,qao zo,rfl,trivial⟩,zhR _⟩ ?_
 rintro k ls H ⟨i,t,labs,v,last,HB,HL,hi,rfl,rfl,rfl,hB,hacc,hla2,hll,hE⟩ j hj;have hol:(labs.map qcj).length=labs.length:=zLm _;have htR:=qn8 kn og (txt (l.drop i)) t labs (hne0 i);rw[hE] at htR;refine gaj ?_;refine oC rfl (λhc=>?_) (λhc=>?_);have hlt:i<l.length:=by have:=zt hc;omega
 obtain⟨hne,hsl⟩:=hs _ (getElem_mem hlt);have kd:=qgF (B0:=B0) (w0:=w0) l[i] zo;have kr:=qjX (B0:=B0) (w0:=w0) l[i] zo
 have hdr:txt (l.drop i)=l[i].1::txt (l.drop (i+1)):=by
  unfold txt;rw[drop_eq_getElem_cons hlt,zMc]
 rw[hdr,foldl_cons] at hE;refine zQ25 ?_;refine oS (sA λb12=>?_) rfl;refine gac ?_;refine oS (S.fnIf [_] rfl kd ?_) rfl;rintro lv ⟨s,rfl,hs2⟩;refine gaa ?_;refine oC rfl (λh=>?_) (λh=>?_);obtain⟨d,hd⟩:=zR h;obtain rfl:=hs2 d hd;have hst:qbx kn og (t,labs) l[i].1=(t,labs++[(s,og+t.length)]):=by unfold qbx;rw[hd]
 rw[hst] at hE;refine gai ?_;refine zQ79 ?_;refine oS (S.callH (H1:=HB) (F:=(b12,.cells 150 [str l[i].1,int .i64 l[i].2])::HL) [_] rfl List.perm_middle.symm (qkg bb t HB hB) (λv' H' h=>?_) (λch H' h=>by obtain⟨h,_⟩:=h;cases h)) rfl;obtain⟨hv,rfl⟩:=h;cases hv;refine gad ?_;refine zQ2 ?_;refine oS (sG (H1:=HL) (A:=H'++[(b12,.cells 150 [str l[i].1,int .i64 l[i].2])]) quZ rfl hacc rfl (by simp;rfl) rfl (by simp;omega) λv' H2 hacc'=>?_) rfl;refine zQ30 ?_;refine gaa ?_
 exact⟨_,_,_,by omega,⟨i+1,t,labs++[(s,og+t.length)],v',last,H',H2,by omega,rfl,rfl,rfl,hB,by
  rw[zMa]
  have e1:[qcj (s,og+t.length)]=[LV.agg [str s,int .i64 ((og:Int)+(t.length:Nat))]]:=by
   unfold qcj;rw[qwO]
  rw[List.map_singleton,e1]
  exact hacc',hla2,by simp;omega,hE⟩,⟨rfl,rfl,rfl,rfl,rfl,rfl,rfl,qao zo,trivial⟩,quj,hj⟩
 have hn:defW l[i].1=none:=by
  cases ho:defW l[i].1 with
  |none=>rfl
  |some d=>rw[ho] at h;cases h
 have hst:qbx kn og (t,labs) l[i].1=(addT kn t l[i].1,labs):=by unfold qbx;rw[hn]
 obtain⟨hp0,hp1,hp2⟩:=qhz kn t l[i].1 hn hne;have hadd:addT kn t l[i].1=t++(if qbh t && qbU (qaF kn l[i].1) then [32] else [])++qaF kn l[i].1:=by unfold addT;rw[hn]
 have htR2:=qn8 kn og (txt (l.drop (i+1))) (addT kn t l[i].1) labs (hne0 (i+1));rw[hst] at hE;rw[hE] at htR2;refine cM (A:=Wd) (λs=>[(1,int .i64 (og:Nat)),(2,.atom (.map km)),(8,ptr bb 0),(9,v),(10,int .u8 last.toNat),(13,str s),(18,.list (l.map qcj)),(19,int .i64 l.length),(20,int .i64 (i:Nat))]) (λ_=>(b12,.cells 150 [str l[i].1,int .i64 l[i].2])::(HB++HL)) (λs=>s=qaF kn l[i].1) ?_ ?_;refine gac ?_;refine oS (S.fnIf [_] rfl kr ?_) rfl;rintro lv ⟨s,rfl,hs3⟩;refine gaa ?_;refine oC rfl (λh3=>?_) (λh3=>?_);obtain⟨d,hd⟩:=zR h3;obtain rfl:=hs3 d hd;refine gah ?_;refine oS (S.known (t:=64) (kt:=9) (el:=3) zk zk zi hK rfl rfl (λq hq=>zMo _ (mem_append_right _ (hacc.hsub.mem q hq)))<|oS (sF [_] rfl (qfE hG (kn s) (hkn s)) ?_) rfl) rfl;refine gaf ?_;exact⟨qeb (kn s),(by unfold qaF;rw[hd]),⟨rfl,rfl,rfl,rfl,rfl,rfl,rfl,rfl,rfl,trivial⟩,zhR _,rfl⟩
 have hrn:refW l[i].1=none:=by
  cases ho:refW l[i].1 with
  |none=>rfl
  |some d=>rw[ho] at h3;cases h3
 refine gab ?_;exact⟨l[i].1,(by unfold qaF;rw[hrn]),⟨rfl,rfl,rfl,rfl,rfl,rfl,rfl,rfl,rfl,trivial⟩,zhR _,rfl⟩;rintro s hpc j2 hj2;rw[<-hpc] at hp0 hp1 hp2 hadd;have hs0:=hp0;have hone:=one_le (qar last && qbU s);obtain⟨c,r,hcr⟩:=List.exists_cons_of_ne_nil hs0;have hfc:qbU s=qar c:=by rw[hcr];rfl
 rw[hla2] at hadd hp2;refine qah.seq ?_;refine cM (A:=Heap) (λ_=>[(1,int .i64 (og:Nat)),(2,.atom (.map km)),(8,ptr bb 0),(9,v),(10,int .u8 last.toNat),(13,str s),(18,.list (l.map qcj)),(19,int .i64 l.length),(20,int .i64 (i:Nat))]) (λHB'=>HB'++(b12,.cells 150 [str l[i].1,int .i64 l[i].2])::HL) (λHB'=>BH bb (t++if (qar last && qbU s)=true then [32] else []) HB') ?_ ?_;refine gah ?_;refine oS (sF [_] rfl (qgX last) ?_) rfl;refine gab ?_;refine oB 52 rfl (λh4=>?_) (λh4=>?_);have h4':qar last=true:=h4;rw[h4',Bool.true_and,hfc];refine gab ?_;refine oP (pI (c:=c) rfl rfl zo (by rw[hcr];rfl)) rfl<|gab ?_;refine oS (sF [_] rfl (qgX c) ?_) rfl;refine gab ?_;refine oC rfl (λh5=>?_) (λh5=>?_);refine gai ?_;refine oS (S.callH (H1:=HB) (F:=(b12,.cells 150 [str l[i].1,int .i64 l[i].2])::HL) [_,_] rfl List.perm_middle.symm (qku bb t 32 HB hB zo) (λv' H' h=>?_) (λch H' h=>by obtain⟨⟨x,h⟩,_⟩:=h;cases h)) rfl;refine gaf ?_;exact⟨H',by rw[zp h5];exact h.2,⟨rfl,rfl,rfl,rfl,rfl,rfl,rfl,rfl,rfl,trivial⟩,zhR _,rfl⟩;refine gab ?_;exact⟨HB,by rw[zn (by rw[h5];decide),zLz];exact hB,⟨rfl,rfl,rfl,rfl,rfl,rfl,rfl,rfl,rfl,trivial⟩,⟨[],by simpa using List.perm_middle.symm⟩,rfl⟩;have h4':qar last=false:=h4;rw[h4',zRs];refine gab ?_;refine oC rfl (λh5=>by cases h5) (λh5=>?_);refine gab ?_;exact⟨HB,by rw[zn zDd,zLz];exact hB,⟨rfl,rfl,rfl,rfl,rfl,rfl,rfl,rfl,rfl,trivial⟩,⟨[],by simpa using List.perm_middle.symm⟩,rfl⟩;rintro HB' hB' j3 hj3;have hsl3:=List.length_pos_iff.2 hs0
 have hget:s[((s.length:Int)-1).toNat]? = some (s.getLast hs0):=by
  rw[show((s.length:Int)-1).toNat=s.length-1 by omega,List.getLast_eq_getElem,zRl zo]
 have hlast:qbh s=qar (s.getLast hs0):=by
  unfold qbh;rw[List.getLast?_eq_some_getLast hs0]
 have htl:(t++if (qar last && qbU s)=true then [32] else []).length+s.length<=2000000000:=by
  have:(t++if (qar last && qbU s)=true then [32] else []).length=t.length+one (qar last && qbU s):=by
   rw[zLa];unfold one;split <;> rfl
  omega
 rw[hadd] at hE hp1;generalize (t++if (qar last && qbU s)=true then [32] else [])=t2 at hB' htl hE hp1;refine gah ?_;refine oS (S.callH (H1:=HB') (F:=(b12,.cells 150 [str l[i].1,int .i64 l[i].2])::HL) [_,_] rfl zpr (qiP bb t2 s HB' hB' zo) (λv' H' h=>?_) (λch H' h=>by obtain⟨⟨x,h⟩,_⟩:=h;cases h)) rfl;obtain⟨⟨x,hx⟩,hB2⟩:=h;refine gac ?_;refine oP (pI (c:=s.getLast hs0) rfl rfl zo hget) rfl<|gaa ?_;exact⟨_,_,_,by omega,⟨i+1,t2++s,labs,v,s.getLast hs0,H',HL,by omega,rfl,rfl,rfl,hB2,hacc,by rw[hp1,hlast],by omega,hE⟩,⟨rfl,rfl,rfl,rfl,rfl,rfl,rfl,qao zo,trivial⟩,qnV,hj3.trans (hj2.trans hj)⟩;have hi':i=l.length:=by have:=zf hc;omega
 subst hi';rw[drop_length] at hE;have hE':(t,labs)=R:=hE;subst hE';refine qah.sub (d:=9) (v:=v) rfl hacc.sub ?_;refine cW (qwY hacc) ?_;refine gaa ?_;refine oS (S.callH (H1:=HB) (F:=Hk) [_] rfl zpr (qn4 bb t HB hB zo) (λv' H' h=>?_) (λch H' h=>by obtain⟨h,_⟩:=h;cases h)) rfl;obtain⟨hv,rfl⟩:=h;cases hv;refine gad ?_;exact rR hj (rC (zrt rfl) (rC (rT (v:=.list _) rfl zsr) rN)) zhr ⟨rfl,by simp⟩
end
theorem qlE:∀ (l:List Wd) (d:Bool),lenW d l<=3 * tot l
 |[],d=>zero_le _
 |w::r,d=>by
  have h1:=one_le d;have h2:=one_le (d && qbU w);rw[lenW,qaJ]
  cases defW w with
  |some l=>have:=qlE r d;simp only;omega
  |none=>
   cases hr:refW w with
   |some l=>
    have:=qlE r true
    have hlen:2<=w.length:=by
     unfold refW at hr;split at hr;cases hr
     rename_i c q
     split at hr
     rename_i hc
     have:=List.length_pos_iff.2 (quU hc.2);simp only[zLc];omega;cases hr
    simp only
    omega
   |none=>have:=qlE r (qbh w);simp only;omega
theorem qsH(kn:Wd->Nat)(og M:Nat):∀ (l:List Wd) (s:Wd×List (Wd×Nat)),(∀ w∈l,w≠[])->((l.foldl (qbx kn og) s).1).length<=M->(∀ p∈s.2,p.2<=og+M)->∀ p∈(l.foldl (qbx kn og) s).2,p.2<=og+M
 |[],s,_,_,h=>h
 |w::r,s,hw,hM,h=>by
  rw[foldl_cons] at hM ⊢;refine qsH kn og M r _ (λx hx=>hw x (zMo w hx)) hM ?_;have h1:=qn8 kn og r (qbx kn og s w).1 (qbx kn og s w).2 (λx hx=>hw x (zMo w hx));intro p hp;unfold qbx at hp h1 hM
  cases hd:defW w with
  |none=>
   rw[hd] at hp
   exact h p hp
  |some x=>
   rw[hd] at hp h1 hM;simp only at hp h1 hM;rcases zRd hp with hp|hp;exact h p hp;rw[zRa hp];simp only;omega
def ql8(labs:List (Wd×Nat)):KV:=labs.map λp=>(p.1,int .i64 (p.2:Nat))
theorem qmy:∀ (labs:List (Wd×Nat)) (x:Wd),(GL.kvGet (ql8 labs) x).getD (int .i64 0)=int .i64 (qdI labs x:Nat)
 |[],x=>rfl
 |p::r,x=>by
  unfold ql8 qdI;rw[zMc,GL.kvGet,List.find?_cons]
  by_cases h:p.1=x
  rw[zp h,zRp h];rfl;rw[zn h,decide_eq_false h];exact qmy r x
theorem qqa{labs:List (Wd×Nat)}{i:Nat}(h:i<labs.length)(hn:(labs.map (·.1)).Nodup):GL.kvPut (ql8 (labs.take i)) labs[i].1 (int .i64 (labs[i].2:Nat))=ql8 (labs.take (i+1)):=by
 unfold ql8;rw[List.take_succ_eq_append_getElem h,zMa];refine qj1 ?_;rw[map_map];intro hm
 have e1:labs.map (·.1)=(labs.take i).map (·.1)++labs[i].1::(labs.drop (i+1)).map (·.1):=by
  conv=>lhs;rw[<-List.take_append_drop i labs,drop_eq_getElem_cons h]
  rw[zMa,zMc]
 rw[e1,List.nodup_append] at hn;exact hn.2.2 _ hm _ zMs rfl
theorem quQ{labs:List (Wd×Nat)}{M:Nat}(h:∀ p∈labs,p.2<=M)(x:Wd):qdI labs x<=M:=by
 unfold qdI
 cases hf:labs.find? λp=>decide (p.1=x) with
 |none=>exact zero_le _
 |some p=>exact h p (List.mem_of_find?_eq_some hf)
def asmLV:Except (Nat×Nat) (Wd×List (Wd×Nat))->LV
 |.error e=>.tuple [str [],.list [],int .i64 (e.1:Nat),int .i64 (e.2:Nat)]
 |.ok x=>.tuple [str x.1,.list (x.2.map qcj),int .i64 0,int .i64 0]
section
variable{B0:Nat}{w0:World}
theorem assemble_spec(hG:GW B0 w0)(hM:GM w0)(src:List UInt8)(og:Int)(hs:src.length<=300000000):LCalls (KC B0 w0) 17 [str src,int .i64 og] [] (Ret (asmLV (asmP src og))):=by
 have hA:asmP src og=asmP src og:=rfl
 conv at hA=>rhs;unfold asmP
 generalize hR:asmP src og=R at hA ⊢;refine LCalls.intro4 Tryz.func17 rfl (n:=65) rfl rfl rfl ?_;refine gaa ?_;refine oB 19 rfl (λh1=>?_) (λh1=>?_);have h1':og<0:=zt h1;rw[zp (.inl h1')] at hA;subst hA;refine gab ?_;refine oC rfl (λh=>?_) (λh=>by cases h);refine gaa ?_;exact qak rfl (rC (zrt rfl) (rC (rT (v:=qab) rfl vN) (rC (zrt rfl) (zra rfl)))) rfl;have h1':¬ og<0:=zf h1;refine gad ?_;refine oC rfl (λh2=>?_) (λh2=>?_);have h2':og ≥ 262144:=zt h2;rw[zp (.inr h2')] at hA;subst hA;refine gaa ?_;exact qak rfl (rC (zrt rfl) (rC (rT (v:=qab) rfl vN) (rC (zrt rfl) (zra rfl)))) rfl;have h2':¬ og ≥ 262144:=zf h2;rw[zn zo] at hA;obtain⟨o,rfl⟩:∃ o:Nat,og=(o:Int):=⟨og.toNat,by omega⟩;rw[Int.toNat_natCast] at hA;have hao:=@qpg src;have hft:=qcQ src;have hwt:=qhc src;have hwl:=qin src;have hcl:=qir src;have hlw:=qlE (qbc src) false;have htk:=tokens_spec hG hM src zo;rw[<-hft] at hwt hwl hcl hlw hA hao;rw[zLm] at hwl;generalize qfR src=l at hwt hwl hcl hlw htk hA hao;have hne:∀ w∈txt l,w≠[]:=λw hw=>(hcl w hw).1
 have hsz:∀ p∈l,p.1≠[]/\p.1.length<=1000000000:=λp hp=>by
  have hm:p.1∈l.map (·.1):=mem_map_of_mem hp;have:=qq2 hm;exact⟨(hcl _ hm).1,by omega⟩
 have hck:=check_spec (B0:=B0) (w0:=w0) l zo (λp hp=>(hsz p hp).2)
 have hlen:∀ kn,((txt l).foldl (qbx kn o) ([],[])).1.length=lenW false (txt l):=λkn=>by
  rw[qhr];exact qjP kn _ hne
 have hjo:=λkn hkn km Hk hK=>qrP hG l o zo zo hsz kn hkn (by rw[hlen kn];show lenW false (l.map (·.1))<=_;omega) km Hk hK;generalize hE:errT (defs (txt l)) [] l=E at hck hA hao;have hE2:E=(E.1,E.2):=rfl;refine gaa ?_;refine oS (sF [_] rfl htk ?_) rfl;refine gac ?_;refine oS (sF [_] rfl hck ?_) rfl;refine gac ?_;refine oC rfl (λh1=>?_) (λh1=>?_);have h3:¬ E.2=0:=by simpa using h1
 rw[zp h3] at hA;subst hA;refine gaa ?_;exact qak rfl (rC (zrt rfl) (rC (rT (v:=qab) rfl vN) (rC (zrt rfl) (zra rfl)))) rfl;have h3:E.2=0:=by simpa using h1
 rw[zn zo] at hA;have hnd:=(hao h3).1;refine gaa ?_;refine oS (S.callH (H1:=[]) (F:=[]) [_,_,.const (.map none)] rfl zpr (hjo (λ_=>0) (λ_=>zero_le _) none [] (.inl ⟨rfl,rfl,λ_=>rfl⟩)) (λv' H' hh=>?_) (λch H' hh=>by obtain⟨h,_⟩:=hh;cases h)) rfl;obtain⟨hv,rfl⟩:=hh;cases hv;have hlabs:((txt l).foldl (qbx (λ_=>0) o) ([],[])).2=qee (λ_=>0) o (l.map (·.1)):=rfl
 have hle:∀ p∈((txt l).foldl (qbx (λ_=>0) o) ([],[])).2,p.2<=1000000000000:=λp hp=>by
  have:=qsH (λ_=>0) o (lenW false (txt l)) (txt l) ([],[]) hne (by rw[hlen];exact zNr _) (λp hp=>by cases hp) p hp;have h5:lenW false (txt l)<=3 * tot (l.map (·.1)):=hlw;omega
 have hnl:(((txt l).foldl (qbx (λ_=>0) o) ([],[])).2.map (·.1)).Nodup:=by
  rw[qgw];exact hnd
 have hll:=(qmQ (λ_=>0) o (txt l) ([],[])).2;rw[hlabs] at hle hnl hll;generalize hLB:qee (λ_=>0) o (l.map (·.1))=labs at hle hnl hll hA hlabs;rw[hlabs]
 have hll2:labs.length<=l.length:=by
  have:(txt l).length=l.length:=zLm _;simp only[zLn] at hll;omega
 have hlab:(labs.map qcj).length=labs.length:=zLm _;refine gac ?_;refine oS (S.kvNew λm=>?_) rfl;refine gaa ?_
 refine oL (λk ls H=>∃ (i:Nat) (clock:Nat),i<=labs.length/\k=labs.length-i/\ls=[(1,int .i64 (o:Nat)),(8,.list (l.map qcj)),(13,.atom (.map (some m))),(41,.list (labs.map qcj)),(42,int .i64 labs.length),(43,int .i64 (i:Nat))]/\H=[(m,.map (kvs (ql8 (labs.take i))) clock)])
  ⟨_,_,_,⟨0,0,zero_le _,rfl,rfl,rfl⟩,⟨rfl,rfl,rfl,rfl,qao zo,rfl,trivial⟩,zhR _⟩ ?_
 rintro k ls H ⟨i,clock,hi,rfl,rfl,rfl⟩ j hj;refine gaj ?_;refine oC rfl (λhc=>?_) (λhc=>?_);have hlt:i<labs.length:=by have:=zt hc;omega
 refine gal ?_;refine oP (xR (el':=qcj labs[i]) (cs:=[_,_]) rfl rfl zo (qbR _ _ _ hlt) rfl rfl) rfl<|gad ?_;refine oS (sA λb15=>?_) rfl;refine gac ?_;refine oS (S.kvPut (t:=64) (kt:=9) (el:=3) (m:=ql8 (labs.take i)) (k:=labs[i].1) (lv:=int .i64 (labs[i].2:Nat)) zk zk rfl rfl rfl zp1 λclock'=>?_) rfl;rw[qqa hlt hnl];refine gaa ?_;exact⟨_,_,_,by omega,⟨i+1,clock',by omega,rfl,rfl,rfl⟩,⟨rfl,rfl,rfl,rfl,rfl,qao zo,trivial⟩,⟨[_],List.Perm.refl _⟩,hj⟩;have hi':i=labs.length:=by have:=zf hc;omega
 subst hi';rw[take_length];have hkn:=quQ hle;refine gaa ?_;refine oS (S.callH (H1:=[(m,.map (kvs (ql8 labs)) clock)]) (F:=[]) [_,_,_] rfl zpr (hjo (qdI labs) hkn (some m) _ (.inr ⟨m,ql8 labs,clock,rfl,rfl,qmy labs⟩)) (λv' H' hh=>?_) (λch H' hh=>by obtain⟨h,_⟩:=hh;cases h)) rfl;obtain⟨hv,rfl⟩:=hh;cases hv;have e1:((txt l).foldl (qbx (qdI labs) o) ([],[])).1=qcZ (qdI labs) (l.map (·.1)):=qhr _ _ _ _
 have e2:((txt l).foldl (qbx (qdI labs) o) ([],[])).2=labs:=by
  show qee (qdI labs) o (l.map (·.1))=labs;rw[qnj (qdI labs) (λ_=>0) o (l.map (·.1)) hne];exact hLB
 rw[e1,e2];generalize qcZ (qdI labs) (l.map (·.1))=tx at hA;refine gac ?_;refine oC rfl (λh2=>?_) (λh2=>?_);have h5:40000<tx.length:=by have:=zt h2;omega
 rw[zp h5] at hA;subst hA;refine gaa ?_;exact qak hj (rC (zrt rfl) (rC (rT (v:=qab) rfl vN) (rC (zrt rfl) (zra rfl)))) rfl;have h5:¬ 40000<tx.length:=by have:=zf h2;omega
 rw[zn h5] at hA;subst hA;refine gac ?_;exact qak hj (rC (zrt rfl) (rC (rT (v:=.list _) rfl zsr) (rC (zrt rfl) (zra rfl)))) rfl
end
end Go.Proofs.YtegmklafpoldgaaGreatDoor.Asm
namespace Go.Proofs.YtegmklafpoldgaaGreatDoor.Pp
open Go.GL Go.RowKit Go.Stele
open Asm (qbw qbw.mk qbI)
variable{i:Nat}{n:Int}{v:List Wd}
attribute [local irreducible] LOps qah qae LCalls Go.GL.Pure qaw qam qad LQ LAny qay qal
structure GW(B0:Nat)(w0:World):Prop where
 base:Go.Proofs.YtegmklafpoldgaaGreatDoor.GW B0 w0
 mx:Asm.GM w0
 errSyntax : ∃ tp p, w0.var? Tryz.prog "strconv.ErrSyntax" = some #[.iface tp p]
section
variable{B0:Nat}{w0:World}
theorem GW.syn (h : GW B0 w0) {w : World} (hb : Below B0 w0 w) : ∃ tp p, w.var? Tryz.prog "strconv.ErrSyntax" = some #[.iface tp p] := by
 have hg : Tryz.prog.globalNamed "strconv.ErrSyntax" = some 4 := by kernel_rfl
 obtain⟨tp,p,hv⟩:=h.errSyntax;exact⟨tp,p,var?_below hb hg (Nat.lt_of_lt_of_le zDd h.base.big) hv⟩
theorem GW.range (h : GW B0 w0) {w : World} (hb : Below B0 w0 w) : ∃ tp p, w.var? Tryz.prog "strconv.ErrRange" = some #[.iface tp p] := h.base.err hb
theorem fmtUint_spec(hG:GW B0 w0)(u:Nat)(hu:u<18446744073709551616):LCalls (KC B0 w0) 162 [int .u64 u,int .i64 10] [] (Ret (str (Go.Lib.decDigits u))):=Go.Proofs.YtegmklafpoldgaaGreatDoor.fmtUint_spec hG.base u hu
theorem cutPrefix_spec(s p:List UInt8):LCalls (KC B0 w0) 131 [str s,str p] [] (Ret (.tuple [str (Go.Lib.trimPrefix s p),bool (Go.Lib.hasPrefix s p)])):=Asm.cutPrefix_spec s p
theorem cutSuffix_spec(s p:List UInt8)(hs:s.length<=1000000000):LCalls (KC B0 w0) 157 [str s,str p] [] (Ret (.tuple [str (Go.Lib.trimSuffix s p),bool (Go.Lib.hasSuffix s p)])):=Asm.cutSuffix_spec s p hs
theorem qlH(hG:GW B0 w0)(s:List UInt8)(hs:s.length<=1000000000):LCalls (KC B0 w0) 161 [str s,int .i64 10,int .i64 32] []
  (qgV λlv=>(∃ u,Go.Lib.parseUintB 32 s=.ok u/\lv=.tuple [int .u64 u,.atom .nilIface])∨((∀ u,Go.Lib.parseUintB 32 s≠.ok u)/\∃ v t p,lv=.tuple [int .u64 v,.atom (.iface t p)])):=by
 have hsz:∀ k,1000000000<=k->s.toArray.size<=k:=λk hk=>by simp;omega
 refine LCalls.mono (LCalls.of_belowT (vs:=[.string ⟨s.toArray⟩,.int .i64 10,.int .i64 32]) (p:=λus=>(∃ u,Go.Lib.parseUintB 32 s=.ok u/\us=[.int .u64 u,.nilIface])∨((∀ u,Go.Lib.parseUintB 32 s≠.ok u)/\∃ v t p,us=[.int .u64 v,.iface t p])) λw hw=>?_) ?_
 cases h:Go.Lib.parseUintB 32 s with
 |ok u=>
  refine(Tryz.strconv_ParseUint_10_at32_ok ⟨s.toArray⟩ (hsz _ zDd) u (by simpa using h) w).mono λe w' he=>⟨_,he.1,.inl ⟨u,rfl,rfl⟩,?_⟩;rcases he.2 with h2|h2;rw[h2];exact Below.refl _ _;rw[h2]
  exact⟨rfl,rfl,rfl,by rw[Go.Lib.bytesWorld_size];omega,λk hk=>Go.Lib.bytesWorld_at_old w 5 _ k hk⟩
 |range=>
  obtain⟨tp,p,hv⟩:=hG.range hw;refine(Tryz.strconv_ParseUint_10_at32_range_var ⟨s.toArray⟩ (hsz _ zDd) (by simpa using h) tp p w hv).mono λe w' he=>?_;obtain⟨N,h1,_,_,h4⟩:=he
  exact⟨_,h1,.inr ⟨(λu hu=>by cases hu),_,_,_,rfl⟩,h4⟩
 |_=>
  obtain⟨tp,p,hv⟩:=hG.syn hw;refine(Tryz.strconv_ParseUint_10_at32_syntax_var ⟨s.toArray⟩ (hsz _ zDd) ⟨λu hu=>(by rw[h] at hu;cases hu),λhu=>(by rw[h] at hu;cases hu)⟩ tp p w hv).mono λe w' he=>?_;obtain⟨N,h1,_,_,h4⟩:=he;exact⟨_,h1,.inr ⟨(λu hu=>by cases hu),_,_,_,rfl⟩,h4⟩
 rintro r H ⟨v,rfl,⟨us,hus,rfl⟩,rfl⟩;refine⟨_,rfl,?_,rfl⟩;rcases hus with⟨u,h1,rfl⟩|⟨h1,v,t,p,rfl⟩;exact .inl ⟨u,h1,rfl⟩;exact .inr ⟨h1,v,t,p,rfl⟩
theorem qtr(s:List UInt8)(hs:s.length<=1000000000):LCalls (KC B0 w0) 159 [str s,str qfH] [] (Ret (str (Go.Lib.trimS s qfH))):=
 LCalls.ret_of (vs:=[.string ⟨s.toArray⟩,.string ⟨qfH.toArray⟩]) λw hw=>(Go.Proofs.Any.strings_Trim_laid Tryz.lays160 zk ⟨s.toArray⟩ ⟨qfH.toArray⟩ w (by show s.toArray.size<=_;simp;omega) zDd (Go.Proofs.ascii_of_all zDd))
end
theorem qn2(h:0<=n/\n<=4294967295):IntKind.u32.wrap n=n:=by
 simp only[IntKind.wrap,IntKind.bits,IntKind.signed,zRs]
 simp
 omega
theorem qln(h:0<=n/\n<=4294967295):IntKind.u64.wrap n=n:=by
 simp only[IntKind.wrap,IntKind.bits,IntKind.signed,zRs]
 simp
 omega
theorem qlr(n:Int):IntKind.u32.wrap n=n % 4294967296:=by
 simp only[IntKind.wrap,IntKind.bits,IntKind.signed,zRs]
 simp
instance:TIface zTp 137:=.of zk
section
variable{B0:Nat}{w0:World}
theorem qe5(s:List UInt8)(hs:s.length<=1000000000):LCalls (KC B0 w0) 132 [str s] [] (Ret (bool (qgn s))):=by
 have hT:=qtr (B0:=B0) (w0:=w0) s hs;have hnil:=qus s
 cases s with
 |nil=>
  refine cJ Tryz.func132 (n:=25) ?_;refine gac ?_
  exact qak rfl (zra rfl) rfl
 |cons c r=>
  have hN:qgn (c::r)=(decide ((c::r).length<=40) && qaV c && (c::r).all qaU):=rfl;rw[qaV] at hN;refine cJ Tryz.func132 (n:=25) ?_;refine gac ?_;refine oB 5 rfl (λh1=>?_) (λh1=>absurd h1 (by simp));refine oB 10 rfl (λh2=>?_) (λh2=>?_);have h2':(c::r).length<=40:=by have:=zt h2;omega
  rw[zRp h2',Bool.true_and] at hN;refine gab ?_;refine oP (pI (c:=c) rfl rfl zo rfl) rfl<|gad ?_;refine oB 15 rfl (λh3=>?_) (λh3=>?_);have h3':decide (97<=cv c)=true:=h3;rw[h3',Bool.true_and] at hN;refine gab ?_;refine oP (pI (c:=c) rfl rfl zo rfl) rfl<|gan ?_;refine oB 20 rfl (λh4=>?_) (λh4=>?_);have h4':decide (cv c<=122)=true:=h4;rw[h4',Bool.true_and] at hN;refine gab ?_;refine oS (sF [_,_] rfl hT ?_) rfl;refine gab ?_
  exact qak rfl (zra rfl) (qau (by
   rw[hN,Bool.eq_iff_iff,decide_eq_true_iff]
   exact hnil))
  have h4':decide (cv c<=122)=false:=h4;rw[h4',zRs] at hN;refine gab ?_;exact qak rfl (zra rfl) (qau hN.symm);have h3':decide (97<=cv c)=false:=h3;rw[h3',zRs,zRs] at hN;refine gab ?_;exact qak rfl (zra rfl) (qau hN.symm);have h2':¬ (c::r).length<=40:=by have:=zf h2;omega
  rw[decide_eq_false h2',zRs,zRs] at hN;refine gab ?_;exact qak rfl (zra rfl) (qau hN.symm)
theorem qdf(hG:GW B0 w0)(w:Wd)(hs:w.length<=1000000000):LCalls (KC B0 w0) 135 [str w] [] (Ret (.tuple [int .u32 ((numW w).getD 0:Nat),bool (numW w).isSome])):=by
 have hP:=qlH hG w hs;refine cJ Tryz.func135 (n:=21) ?_;refine gag ?_;refine oS (S.fnIf [_,_,_] rfl hP ?_) rfl;rintro lv (⟨u,hu,rfl⟩|⟨hno,v,t,p,rfl⟩);have hlt:=qnJ hu;refine gac ?_;refine oS (sF [_,_] rfl (fmtUint_spec hG u zo) ?_) rfl;refine gad ?_;refine oC rfl (λh=>?_) (λh=>?_);have hne:¬ Go.Lib.decDigits u=w:=by simpa using h
 have hn:numW w=none:=by unfold numW;rw[hu];exact zn hne
 refine gaa ?_;exact qak rfl (rC (zrt rfl) (zra rfl)) (by rw[hn];rfl);have he:Go.Lib.decDigits u=w:=by simpa using h
 have hn:numW w=some u:=by unfold numW;rw[hu];exact zp he
 refine gac ?_
 exact qak rfl (rC (zrt rfl) (zra rfl)) (by
  rw[hn,qn2 zo]
  rfl)
 have hn:numW w=none:=by
  unfold numW;split
  rename_i u hu
  exact absurd hu (hno u);rfl
 refine gac ?_;refine oC rfl (λh=>?_) (λh=>?_);refine gaa ?_;exact qak rfl (rC (zrt rfl) (zra rfl)) (by rw[hn];rfl);cases h
theorem qgr(w:Wd)(hs:w.length<=1000000000):LCalls (KC B0 w0) 77 [str w] [] (qgV (qbw (refW w))):=by
 obtain⟨r1,r2⟩:=qbI (qvx w)
 have hlen:(Go.Lib.trimPrefix w [38]).length<=1000000000:=by
  unfold Go.Lib.trimPrefix;split;rw[length_drop];omega;exact hs
 refine cJ Tryz.func77 (n:=17) ?_;refine gag ?_;refine oS (sF [_,_] rfl (cutPrefix_spec w [38]) ?_) rfl;refine gaa ?_;refine oB 13 rfl (λh=>?_) (λh=>?_);exact zT41;rw[h,zRs] at r1;refine gab ?_;exact qcf rfl (rC (zrt rfl) (zra rfl)) (qbw.mk r1 r2)
theorem qea(w:Wd)(hs:w.length<=1000000000):LCalls (KC B0 w0) 138 [str w] [] (qgV (qbw (defW w))):=by
 obtain⟨r1,r2⟩:=qbI (qvi w)
 have hlen:(Go.Lib.trimSuffix w [58]).length<=1000000000:=by
  unfold Go.Lib.trimSuffix;split;rw[List.length_take];omega;exact hs
 refine cJ Tryz.func138 (n:=17) ?_;refine gag ?_;refine oS (sF [_,_] rfl (cutSuffix_spec w [58] hs) ?_) rfl;refine gaa ?_;refine oB 13 rfl (λh=>?_) (λh=>?_);exact zT41;rw[h,zRs] at r1;refine gab ?_;exact qcf rfl (rC (zrt rfl) (zra rfl)) (qbw.mk r1 r2)
def qb4(v:List Wd)(m:Nat):LV:=.agg [.list (v.map str),.atom (.map (some m))]
theorem qaO(v:List Wd)(m i:Nat)(hv:v.length<=1000000000):LCalls (KC B0 w0) 134 [qb4 v m,int .i64 i] [] (Ret (str (wdAt v i))):=by
 have hla:(v.map str).length=v.length:=zLm _;unfold qb4;refine cJ Tryz.func134 (n:=15) ?_;refine gai ?_;refine oS (sB (cs:=[.list (v.map str),.atom (.map (some m))]) rfl λb2=>?_) rfl;refine gac ?_;refine oC rfl (λh=>?_) (λh=>?_);have hlt:i<v.length:=by have:=zt h;omega
 have hw:wdAt v i=v[i]:=by unfold wdAt;rw[zRl hlt];rfl
 refine gac ?_;refine oP (xR (el':=str v[i]) (cs:=[str v[i]]) rfl rfl zo (qbR _ _ _ hlt) rfl rfl) rfl<|gad ?_;exact qak rfl (zra rfl) (qm7 hw.symm);have hge:v.length<=i:=by have:=zf h;omega
 have hw:wdAt v i=[]:=by unfold wdAt;rw[List.getElem?_eq_none hge];rfl
 refine gaa ?_;exact qak rfl (zra rfl) (qm7 hw.symm)
def Small(v:List Wd):Prop:=v.length<=1000000/\∀ w∈v,w.length<=1000000
theorem Small.at(h:Small v)(i:Nat):(wdAt v i).length<=1000000:=by
 unfold wdAt
 cases hi:v[i]? with
 |none=>exact zero_le _
 |some w=>exact h.2 w (List.mem_of_getElem? hi)
theorem qhq(v:List Wd)(m i:Nat)(hv:Small v)(hi:i<=1000):LCalls (KC B0 w0) 137 [qb4 v m,int .i64 i] [] (qgV (qbw (qdd v i))):=by
 have h1:=qaO (B0:=B0) (w0:=w0) v m i (by have:=hv.1;omega);have h2:=qaO (B0:=B0) (w0:=w0) v m (i+1) (by have:=hv.1;omega);have e2:int .i64 ((i:Int)+1)=int .i64 ((i+1:Nat):Int):=qao zo;rw[<-e2] at h2;have hl:=hv.at i
 have hJ:qdd v i=match refW (wdAt v i) with
  |some l=>if wdAt v (i+1)=[63] then some l else none
  |none=>none:=rfl
 unfold qb4 at h1 h2 ⊢;refine cJ Tryz.func137 (n:=24) ?_;refine gai ?_;refine oS (sB (cs:=[.list (v.map str),.atom (.map (some m))]) rfl λb2=>?_) rfl;refine gac ?_;refine oS (sF [_,_] rfl h1<|oS (S.fnIf [_] rfl (qgr _ zo) ?_) rfl) rfl;rintro lv ⟨s,rfl,hs⟩;refine gaa ?_;refine oB 17 rfl (λh=>?_) (λh=>?_);obtain⟨l,hl2⟩:=zR h;have hsl:=hs l hl2;rw[hl2] at hJ;refine gad ?_;refine oS (sF [_,_] rfl h2 ?_) rfl;refine gab ?_
 exact qcf rfl (rC (zrt rfl) (zra rfl)) (qbw.mk (by rw[hJ];simp only;split <;> simp_all) (by
  intro l' h';rw[hJ] at h';simp only at h';split at h';injection h' with h';rw[hsl,h']
  cases h'))
 have hn:refW (wdAt v i)=none:=by
  cases h3:refW (wdAt v i) with
  |none=>rfl
  |some l=>rw[h3] at h;cases h
 rw[hn] at hJ;refine gab ?_
 exact qcf rfl (rC (zrt rfl) (zra rfl)) (qbw.mk (by rw[hJ];rfl) (by
  intro l' h';rw[hJ] at h'
  cases h'))
end
theorem xor32{a b:Nat}(ha:a<4294967296)(hb:b<4294967296):IntKind.u32.wrap (((BitVec.ofInt IntKind.u32.bits (a:Int) ^^^ BitVec.ofInt IntKind.u32.bits (b:Int)).toNat:Nat):Int)=((a ^^^ b:Nat):Int):=by
 have h1:(BitVec.ofInt 32 (a:Int) ^^^ BitVec.ofInt 32 (b:Int)).toNat=a ^^^ b:=by
  rw[BitVec.ofInt_natCast,BitVec.ofInt_natCast,BitVec.toNat_xor,BitVec.toNat_ofNat,BitVec.toNat_ofNat,Nat.mod_eq_of_lt ha,Nat.mod_eq_of_lt hb]
 have h2:a ^^^ b<4294967296:=Nat.xor_lt_two_pow (n:=32) ha hb;show IntKind.u32.wrap (((BitVec.ofInt 32 (a:Int) ^^^ BitVec.ofInt 32 (b:Int)).toNat:Nat):Int)=_;rw[h1,qn2 zo]
theorem wadd(a b:Nat):IntKind.u32.wrap ((a:Int)+b)=(((a+b) % 4294967296:Nat):Int):=by
 rw[qlr];omega
theorem wsub{a b:Nat}(hb:b<4294967296):IntKind.u32.wrap ((a:Int)-b)=(((a+4294967296-b) % 4294967296:Nat):Int):=by
 rw[qlr];omega
theorem wmul(a b:Nat):IntKind.u32.wrap ((a:Int) * b)=((a * b % 4294967296:Nat):Int):=by
 rw[qlr,Int.natCast_emod,Int.natCast_mul];rfl
theorem resT{m:Nat}{o:Option Nat}(ho:o=some m)(h:n=(m:Int)):qbE [int .u32 n,bool true]=LV.tuple [int .u32 ((o.getD 0:Nat):Int),bool o.isSome]:=by
 subst h;subst ho;rfl
section
variable{B0:Nat}{w0:World}
theorem qmz(a b:Nat)(op:Wd)(ha:a<4294967296)(hb:b<4294967296):LCalls (KC B0 w0) 178 [int .u32 a,str op,int .u32 b] [] (Ret (.tuple [int .u32 ((qd2 a op b).getD 0:Nat),bool (qd2 a op b).isSome])):=by
 have hC:qd2 a op b=qd2 a op b:=rfl
 conv at hC=>rhs;unfold qd2
 refine cJ Tryz.func178 (n:=47) ?_;refine gaa ?_;refine oC rfl (λh1=>?_) (λh1=>?_);rw[zp (zt h1)] at hC;refine gah ?_;refine oP (Pure.addW rfl rfl) rfl<|gab ?_;exact qak rfl (rC (zrt rfl) (zra rfl)) (resT hC (wadd a b));rw[zn (zf h1)] at hC;refine gaa ?_;refine oC rfl (λh2=>?_) (λh2=>?_);rw[zp (zt h2)] at hC;refine gah ?_;refine oP (Pure.subW rfl rfl) rfl<|gab ?_;exact qak rfl (rC (zrt rfl) (zra rfl)) (resT hC (wsub hb));rw[zn (zf h2)] at hC;refine gaa ?_;refine oC rfl (λh3=>?_) (λh3=>?_);rw[zp (zt h3)] at hC;refine gah ?_;refine oP (Pure.mulW rfl rfl) rfl<|gab ?_;exact qak rfl (rC (zrt rfl) (zra rfl)) (resT hC (wmul a b));rw[zn (zf h3)] at hC;refine gaa ?_;refine oC rfl (λh4=>?_) (λh4=>?_);rw[zp (zt h4)] at hC;refine gah ?_;refine oP (Pure.xorW rfl rfl) rfl<|gab ?_;exact qak rfl (rC (zrt rfl) (zra rfl)) (resT hC (xor32 ha hb));rw[zn (zf h4)] at hC;refine gaa ?_;refine oC rfl (λh5=>?_) (λh5=>?_);rw[zp (zt h5)] at hC;refine gaa ?_;refine oC rfl (λh6=>?_) (λh6=>?_);have hlt:a<b:=by have:=zt h6;omega
 refine gaa ?_;exact qak rfl (rC (zrt rfl) (zra rfl)) (by rw[hC,zp hlt];rfl);have hlt:¬ a<b:=by have:=zf h6;omega
 refine gaa ?_;exact qak rfl (rC (zrt rfl) (zra rfl)) (by rw[hC,zn hlt];rfl);rw[zn (zf h5)] at hC;refine gaa ?_;refine cC [(0,int .u32 a),(1,str op),(2,int .u32 b),(34,bool (decide (op=[47]∨op=[37])))] ?_ (λj hj=>?_);refine oC rfl (λh6=>?_) (λh6=>?_);refine gab ?_;exact⟨⟨rfl,rfl,rfl,qau (by simp[zt h6]),trivial⟩,rfl,rfl⟩;refine gaa ?_;exact⟨⟨rfl,rfl,rfl,qau (by simp[zf h6]),trivial⟩,rfl,rfl⟩;refine oC rfl (λh6=>?_) (λh6=>?_);have h6':op=[47]∨op=[37]:=zt h6;refine gaa ?_;refine oC rfl (λh7=>?_) (λh7=>?_);have hb0:b=0:=by have:=zt h7;omega
 have hCn:qd2 a op b=none:=by
  rw[hC];rcases h6' with h|h;rw[zp h,zp hb0];rw[zn (by rw[h];decide),zp h,zp hb0]
 refine gaa ?_;exact qak hj (rC (zrt rfl) (zra rfl)) (by rw[hCn];rfl);have hb0:¬ b=0:=by have:=zf h7;omega
 refine gaa ?_;refine oC rfl (λh8=>?_) (λh8=>?_);rw[zp (zt h8),zn hb0] at hC;have hle:a / b<=a:=Nat.div_le_self _ _
 have e1:IntKind.u32.wrap ((a:Int).tdiv (b:Int))=((a / b:Nat):Int):=by
  rw[Int.tdiv_eq_ediv_of_nonneg zo,<-Int.natCast_ediv];exact qn2 ⟨Int.natCast_nonneg _,Int.ofNat_le.2 (show a / b<=4294967295 by omega)⟩
 refine gah ?_;refine oP (Pure.quoW rfl rfl zo) rfl<|gab ?_;exact qak hj (rC (zrt rfl) (zra rfl)) (resT hC e1)
 have h9:op=[37]:=by
  rcases h6' with h|h;exact absurd h (zf h8);exact h
 rw[zn (zf h8),zp h9,zn hb0] at hC
 have e1:(a:Int).tmod (b:Int)=((a % b:Nat):Int):=by
  rw[Int.tmod_eq_emod_of_nonneg zo,<-Int.natCast_emod]
 refine gaa ?_;refine oP (Pure.remW rfl rfl zo) rfl<|gab ?_;exact qak hj (rC (zrt rfl) (zra rfl)) (resT hC e1);have h6':¬ (op=[47]∨op=[37]):=zf h6
 have hCn:qd2 a op b=none:=by
  rw[hC,zn (λh=>h6' (.inl h)),zn (λh=>h6' (.inr h))]
 refine gaa ?_;exact qak hj (rC (zrt rfl) (zra rfl)) (by rw[hCn];rfl)
theorem qjd(hG:GW B0 w0)(x op y:Wd)(hx:x.length<=1000000)(hy:y.length<=1000000):LCalls (KC B0 w0) 133 [str x,str op,str y] [] (qgV (qbw (qa2 x op y))):=by
 have n1:=qdf hG x zo;have n2:=qdf hG y zo
 have hJ:qa2 x op y=match numW x,numW y with
  |some a,some b=>match qd2 a op b with
   |some c=>if (Go.Lib.decDigits c).length<=x.length+y.length+1 then some (Go.Lib.decDigits c) else none
   |none=>none
  |_,_=>none:=rfl
 have ha:(numW x).getD 0<4294967296:=by
  cases h:numW x with
  |none=>decide
  |some u=>exact qji h
 have hb:(numW y).getD 0<4294967296:=by
  cases h:numW y with
  |none=>decide
  |some u=>exact qji h
 have n3:=qmz (B0:=B0) (w0:=w0) _ _ op ha hb
 have hc:(qd2 ((numW x).getD 0) op ((numW y).getD 0)).getD 0<4294967296:=by
  cases h:qd2 ((numW x).getD 0) op ((numW y).getD 0) with
  |none=>decide
  |some u=>exact qkn ha hb h
 have hdl:=qh4 hc;refine cJ Tryz.func133 (n:=54) ?_;refine gag ?_;refine oS (sF [_] rfl n1 ?_) rfl;refine gaa ?_;refine oS (sF [_] rfl n2 ?_) rfl;refine gaa ?_;refine oS (sF [_,_,_] rfl n3 ?_) rfl;refine gac ?_;refine oS (sF [_,_] (show _=[int .u64 (IntKind.u64.wrap (((qd2 ((numW x).getD 0) op ((numW y).getD 0)).getD 0:Nat):Int)),int .i64 10] from rfl) (by rw[qln zo];exact fmtUint_spec hG _ zo) ?_) rfl;refine gag ?_;refine oB 37 rfl (λh1=>?_) (λh1=>?_);obtain⟨a,ha2⟩:=zR h1;refine gab ?_;refine oB 40 rfl (λh2=>?_) (λh2=>?_);obtain⟨b,hb2⟩:=zR h2;rw[ha2,hb2] at hJ;rw[ha2,hb2];simp only at hJ;simp only[getD_some];refine gab ?_;refine oB 43 rfl (λh3=>?_) (λh3=>?_);obtain⟨c,hc2⟩:=zR h3;rw[ha2,hb2] at hdl;simp only[getD_some] at hdl;rw[hc2] at hJ hdl;rw[hc2];simp only[getD_some] at hJ hdl ⊢;refine gad ?_
 exact qcf rfl (rC (zrt rfl) (zra rfl)) (qbw.mk (by
  rw[hJ]
  by_cases hle:(Go.Lib.decDigits c).length<=x.length+y.length+1
  rw[zp hle,zRp zo];rfl;rw[zn hle,decide_eq_false zo];rfl) (by
  intro l' h';rw[hJ] at h';split at h';injection h'
  cases h'))
 have hn:qd2 a op b=none:=by
  cases h4:qd2 a op b with
  |none=>rfl
  |some l=>rw[h4] at h3;cases h3
 rw[hn] at hJ;refine gab ?_
 exact qcf rfl (rC (zrt rfl) (zra rfl)) (qbw.mk (by rw[hJ];rfl) (by
  intro l' h';rw[hJ] at h'
  cases h'))
 have hn:numW y=none:=by
  cases h3:numW y with
  |none=>rfl
  |some l=>rw[h3] at h2;cases h2
 rw[ha2,hn] at hJ;refine gab ?_
 exact qcf rfl (rC (zrt rfl) (zra rfl)) (qbw.mk (by rw[hJ];rfl) (by
  intro l' h';rw[hJ] at h'
  cases h'))
 have hn:numW x=none:=by
  cases h3:numW x with
  |none=>rfl
  |some l=>rw[h3] at h1;cases h1
 rw[hn] at hJ;refine gab ?_
 exact qcf rfl (rC (zrt rfl) (zra rfl)) (qbw.mk (by rw[hJ];rfl) (by
  intro l' h';rw[hJ] at h'
  cases h'))
end
def qhw(r:qeW):LV:=.tuple [int .i64 r.1,.list (r.2.map str)]
section
variable{B0:Nat}{w0:World}
theorem qrB(hG:GW B0 w0)(v:List Wd)(m:Nat)(hv:Small v):LCalls (KC B0 w0) 78 [qb4 v m] [] (Ret (qhw (qhE v))):=by
 have k0:=qaO (B0:=B0) (w0:=w0) v m 0 (by have:=hv.1;omega);have k1:=qaO (B0:=B0) (w0:=w0) v m 1 (by have:=hv.1;omega);have k2:=qaO (B0:=B0) (w0:=w0) v m 2 (by have:=hv.1;omega);have kj:=qjd hG (wdAt v 0) (wdAt v 2) (wdAt v 1) (hv.at 0) (hv.at 1)
 have hF:qhE v=match qa2 (wdAt v 0) (wdAt v 2) (wdAt v 1) with
  |some s=>(3,[s])
  |none=>(0,[]):=rfl
 unfold qb4 at k0 k1 k2 ⊢;generalize qa2 (wdAt v 0) (wdAt v 2) (wdAt v 1)=o at kj hF;refine cJ Tryz.func78 (n:=19) ?_;refine gai ?_;refine oS (sB (cs:=[.list (v.map str),.atom (.map (some m))]) rfl λb1=>?_) rfl;refine gab ?_;refine cD (m:=12) rfl [(b1,.cells 158 [.list (v.map str),.atom (.map (some m))])]<|aT 0 rfl rfl (pG (cs':=[_,_]) rfl zm0 rfl rfl)<|aT 2 rfl rfl (pG (cs':=[_,_]) rfl zm0 rfl rfl)<|aT 4 rfl rfl (pG (cs':=[_,_]) rfl zm0 rfl rfl)<|zQ62 ?_;refine lO 3 (lS (H1:=[]) rfl (.inl rfl) rfl zpr zhr (sF [_,_] rfl k2 ?_));refine lO 5 (lS (H1:=[]) rfl (.inl rfl) rfl zpr zhr (sF [_,_] rfl k1 ?_));refine lO 6 (lS (H1:=[]) rfl (.inl rfl) rfl zpr zhr (S.fnIf [_,_,_] rfl kj ?_));rintro lv ⟨s,rfl,hs⟩;refine qay.any [(b1,.cells 158 [.list (v.map str),.atom (.map (some m))])] (λ_ h=>h) ?_;refine aT 7 rfl rfl (pM (lv:=.tuple _) rfl)<|aT 8 rfl rfl (Pure.extract (c:=.atom _) rfl rfl)<|aT 9 rfl rfl (Pure.extract (c:=.atom _) rfl rfl)<|aT 10 rfl rfl (pA (lv:=.atom _) rfl)<|aT 11 rfl rfl (pA (lv:=.atom _) rfl)<|aL ?_ zhr;refine lD zk ?_;refine gag ?_;refine oC rfl (λh=>?_) (λh=>?_);obtain⟨l,rfl⟩:=zR h;obtain rfl:=hs l rfl;refine gah ?_;refine zQ2 ?_;refine gad ?_;exact qak rfl (rC (zrt rfl) (rC (rT (v:=.list _) rfl zsr) rN)) (by rw[hF];rfl)
 obtain rfl:o=none:=by
  cases o with
  |none=>rfl
  |some l=>cases h
 refine gaa ?_;exact qak rfl (rC (zrt rfl) (rC (rT (v:=qab) rfl vN) rN)) (by rw[hF];rfl)
theorem qqO(hG:GW B0 w0)(v:List Wd)(m:Nat)(hv:Small v):LCalls (KC B0 w0) 83 [qb4 v m] [] (Ret (qhw (qeR v))):=by
 have k0:=qaO (B0:=B0) (w0:=w0) v m 0 (by have:=hv.1;omega);have kn:=qdf hG (wdAt v 0) (by have:=hv.at 0;omega);have kj:=qhq (B0:=B0) (w0:=w0) v m 1 hv zo
 have hF:qeR v=match numW (wdAt v 0) with
  |some n=>if n≠0/\(qdd v 1).isSome=true then (3,[]) else (0,[])
  |none=>(0,[]):=rfl
 unfold qb4 at k0 kj ⊢;generalize numW (wdAt v 0)=on at kn hF;generalize qdd v 1=oj at kj hF;refine cJ Tryz.func83 (n:=27) ?_;refine gai ?_;refine oS (sB (cs:=[.list (v.map str),.atom (.map (some m))]) rfl λb1=>?_) rfl;refine gac ?_;refine zQ81 ?_;refine oS (sF [_] rfl kn ?_) rfl;refine zQ82 ?_;rintro lv ⟨s,rfl,hs⟩;refine gaa ?_;refine oB 20 rfl (λh1=>?_) (λh1=>?_);rw[h1] at hF
 cases on with
 |none=>
  refine gab ?_;refine oC rfl (λh=>?_) (λh=>?_);cases h
  exact zT23
 |some n=>
  refine gad ?_;refine oC rfl (λh=>?_) (λh=>?_)
  have hn:n≠0:=by
   intro h0;subst h0;exact absurd h zDd
  simp only[hn,ne_eq,not_false_eq_true,and_self,if_true] at hF;refine gaa ?_;exact qak rfl (rC (zrt rfl) (rC (rT (v:=qab) rfl vN) rN)) (by rw[hF];rfl)
  have hn:n=0:=by
   have h0:¬ ¬ ((n:Int)=0):=by simpa using h
   omega
  subst hn;refine gaa ?_;exact qak rfl (rC (zrt rfl) (rC (rT (v:=qab) rfl vN) rN)) (by rw[hF];rfl)
 rw[h1] at hF;refine gab ?_;refine oC rfl (λh=>?_) (λh=>?_);cases h;refine gaa ?_
 exact qak rfl (rC (zrt rfl) (rC (rT (v:=qab) rfl vN) rN)) (by
  rw[hF]
  cases on <;> simp <;> rfl)
theorem qom(v:List Wd)(m:Nat)(hv:Small v){es:Array MapEntry}{clock:Nat}{p:List UInt8->Bool}(hs:SetMap es p):LCalls (KC B0 w0) 86 [qb4 v m] [(m,.obj (.map es clock))] (λr H=>r=.ret (qhw (qcv p v))/\H=[(m,.obj (.map es clock))]):=by
 have k0:=qaO (B0:=B0) (w0:=w0) v m 0 (by have:=hv.1;omega);have kd:=qea (B0:=B0) (w0:=w0) (wdAt v 0) (by have:=hv.at 0;omega)
 have hF:qcv p v=match defW (wdAt v 0) with
  |some l=>if p l=true then (0,[]) else (1,[])
  |none=>(0,[]):=rfl
 unfold qb4 at k0 ⊢;generalize defW (wdAt v 0)=o at kd hF;refine cJ Tryz.func86 (n:=20) ?_;refine gai ?_;refine oS (sB (cs:=[.list (v.map str),.atom (.map (some m))]) rfl λb1=>?_) rfl;refine gac ?_;refine zQ81 ?_;refine oS (S.fnIf [_] rfl kd ?_) rfl;rintro lv ⟨s,rfl,hs2⟩;refine gaa ?_;refine oB 13 rfl (λh1=>?_) (λh1=>?_);obtain⟨l,rfl⟩:=zR h1;obtain rfl:=hs2 l rfl;simp only at hF;refine gab ?_;refine oP (Pure.setGet (t:=102) (kt:=9) (el:=4) zk zk (λw=>(Go.zero_of_info (P:=Tryz.prog) (n:=1) zk).1 w) rfl rfl zm1 hs) rfl<|gad ?_;refine oC rfl (λh=>?_) (λh=>?_);have hp:p s=false:=by simpa using h
 refine gaa ?_;exact rR rfl (rC (zrt rfl) (rC (rT (v:=qab) rfl vN) rN)) (zhD zhr) ⟨by rw[hF,hp];rfl,rfl⟩;have hp:p s=true:=by simpa using h
 refine gaa ?_;exact rR rfl (rC (zrt rfl) (rC (rT (v:=qab) rfl vN) rN)) (zhD zhr) ⟨by rw[hF,hp];rfl,rfl⟩
 obtain rfl:o=none:=by
  cases o with
  |none=>rfl
  |some l=>cases h1
 refine gab ?_;refine oC rfl (λh=>?_) (λh=>?_);cases h;refine gaa ?_;exact rR rfl (rC (zrt rfl) (rC (rT (v:=qab) rfl vN) rN)) (zhD zhr) ⟨by rw[hF];rfl,rfl⟩
end
def isW(v:List Wd):Nat->List Wd->Bool
 |_,[]=>true
 |i,w::r=>decide (wdAt v i=w) && isW v (i+1) r
section
variable{B0:Nat}{w0:World}
theorem qck(v:List Wd)(m i:Nat)(ws:List Wd)(hv:Small v)(hi:i<=1000)(hw:ws.length<=1000):LCalls (KC B0 w0) 136 [qb4 v m,int .i64 i,.list (ws.map str)] [] (Ret (bool (isW v i ws))):=by
 have hla:(ws.map str).length=ws.length:=zLm _;have kw:∀ k,LCalls (KC B0 w0) 134 [qb4 v m,int .i64 (k:Nat)] [] (Ret (str (wdAt v k))):=λk=>qaO v m k (by have:=hv.1;omega);unfold qb4 at kw ⊢;refine cJ Tryz.func136 (n:=24) ?_;refine gai ?_;refine oS (sB (cs:=[.list (v.map str),.atom (.map (some m))]) rfl λb3=>?_) rfl;refine gaa ?_
 refine oL (λk ls H=>∃ j,j<=ws.length/\k=ws.length-j/\ls=[(1,int .i64 i),(3,ptr b3 0),(9,.list (ws.map str)),(10,int .i64 ws.length),(11,int .i64 j)]/\H=[(b3,.cells 158 [.list (v.map str),.atom (.map (some m))])]/\isW v i ws=isW v (i+j) (ws.drop j))
  ⟨_,_,_,⟨0,zero_le _,rfl,rfl,rfl,rfl⟩,⟨rfl,rfl,rfl,qao zo,rfl,trivial⟩,zhR _⟩ ?_
 rintro k ls H ⟨j,hj,rfl,rfl,rfl,hE⟩ j1 hj1;refine gaj ?_;refine oC rfl (λhc=>?_) (λhc=>?_);have hlt:j<ws.length:=by have:=zt hc;omega
 rw[drop_eq_getElem_cons hlt,isW] at hE;have k1:=kw (i+j);have e1:int .i64 ((i+j:Nat):Int)=int .i64 ((i:Int)+j):=qao zo;rw[e1] at k1;refine gaa ?_;refine oP (xR (el':=str ws[j]) (cs:=[str ws[j]]) rfl rfl zo (qbR _ _ _ hlt) rfl rfl) rfl<|gac ?_;refine oS (sF [_,_] rfl k1 ?_) rfl;refine gad ?_;refine oC rfl (λh=>?_) (λh=>?_);have hne:¬ wdAt v (i+j)=ws[j]:=by simpa using h
 rw[decide_eq_false hne,zRs] at hE;refine gaa ?_;exact qak hj1 (zra rfl) (qau hE.symm);have he:wdAt v (i+j)=ws[j]:=by simpa using h
 rw[zRp he,Bool.true_and] at hE;refine gaa ?_;exact⟨_,_,_,by omega,⟨j+1,by omega,rfl,rfl,rfl,by rw[hE,Nat.add_assoc]⟩,⟨rfl,rfl,rfl,rfl,qao zo,trivial⟩,zhR _,hj1⟩;have hj':j=ws.length:=by have:=zf hc;omega
 subst hj';rw[drop_length,isW] at hE;refine gaa ?_;exact qak hj1 (zra rfl) (qau hE.symm)
theorem qm2(v:List Wd)(m:Nat)(hv:Small v):LCalls (KC B0 w0) 79 [qb4 v m] [] (Ret (qhw (qcX v))):=by
 have k0:=qaO (B0:=B0) (w0:=w0) v m 0 (by have:=hv.1;omega);have k1:=qaO (B0:=B0) (w0:=w0) v m 1 (by have:=hv.1;omega);have hF:qcX v=if wdAt v 0=[48]/\(wdAt v 1=[43]∨wdAt v 1=[45]∨wdAt v 1=[94])∨wdAt v 0=[49]/\(wdAt v 1=[42]∨wdAt v 1=[47]) then (2,[]) else (0,[]):=rfl
 unfold qb4 at k0 k1 ⊢;generalize wdAt v 0=a at k0 hF;generalize wdAt v 1=b at k1 hF;refine cJ Tryz.func79 (n:=36) ?_;refine gai ?_;refine oS (sB (cs:=[.list (v.map str),.atom (.map (some m))]) rfl λb1=>?_) rfl;refine gab ?_;refine cD (m:=6) rfl [(b1,.cells 158 [.list (v.map str),.atom (.map (some m))])]<|aT 0 rfl rfl (pG (cs':=[_,_]) rfl zm0 rfl rfl)<|aT 2 rfl rfl (pG (cs':=[_,_]) rfl zm0 rfl rfl)<|zQ62 ?_;refine lO 3 (lS (H1:=[]) rfl (.inl rfl) rfl zpr zhr (sF [_,_] rfl k1 ?_));refine qay.any [(b1,.cells 158 [.list (v.map str),.atom (.map (some m))])] (λ_ h=>h) ?_;refine aT 4 rfl rfl (pA (lv:=.atom _) rfl)<|aT 5 rfl rfl (pA (lv:=.atom _) rfl)<|aL ?_ zhr;refine zQ64 ?_;refine LOps.cut [(1,ptr b1 0),(35,bool (decide (a=[48]/\(b=[43]∨b=[45]∨b=[94])∨a=[49]/\(b=[42]∨b=[47]))))] ?_ (λj hj=>?_);refine oB 12 rfl (λh1=>?_) (λh1=>?_);have e1:a=[48]:=zt h1;have n1:¬ a=[49]:=by rw[e1];decide
 refine gab ?_;refine oB 15 rfl (λh2=>?_) (λh2=>?_);have e2:b=[43]:=zt h2;refine gad ?_;exact⟨⟨rfl,qau (by simp[e1,e2]),trivial⟩,rfl,rfl⟩;have e2:¬ b=[43]:=zf h2;refine gab ?_;refine oB 19 rfl (λh3=>?_) (λh3=>?_);have e3:b=[45]:=zt h3;refine gad ?_;exact⟨⟨rfl,qau (by simp[e1,e3]),trivial⟩,rfl,rfl⟩;have e3:¬ b=[45]:=zf h3;refine gab ?_;refine oB 24 rfl (λh4=>?_) (λh4=>?_);have e4:b=[94]:=zt h4;refine gad ?_;exact⟨⟨rfl,qau (by simp[e1,e4]),trivial⟩,rfl,rfl⟩;have e4:¬ b=[94]:=zf h4;refine gab ?_;refine oB 27 rfl (λh5=>absurd (zt h5) n1) (λh5=>?_);refine gad ?_;exact⟨⟨rfl,qau (by simp[e2,e3,e4,n1]),trivial⟩,rfl,rfl⟩;have e1:¬ a=[48]:=zf h1;refine gad ?_;refine oB 27 rfl (λh2=>?_) (λh2=>?_);have e2:a=[49]:=zt h2;refine gab ?_;refine oB 30 rfl (λh3=>?_) (λh3=>?_);have e3:b=[42]:=zt h3;refine gab ?_;exact⟨⟨rfl,qau (by simp[e2,e3]),trivial⟩,rfl,rfl⟩;have e3:¬ b=[42]:=zf h3;refine gab ?_;exact⟨⟨rfl,qau (by simp[e2,e3]),trivial⟩,rfl,rfl⟩;have e2:¬ a=[49]:=zf h2;refine gad ?_;exact⟨⟨rfl,qau (by simp[e1,e2]),trivial⟩,rfl,rfl⟩;refine oC rfl (λh=>?_) (λh=>?_);rw[zp (zt h)] at hF;refine gaa ?_;exact qak hj (rC (zrt rfl) (rC (rT (v:=qab) rfl vN) rN)) (by rw[hF];rfl);rw[zn (zf h)] at hF;refine gaa ?_;exact qak hj (rC (zrt rfl) (rC (rT (v:=qab) rfl vN) rN)) (by rw[hF];rfl)
end
theorem qqw(l:Wd)(v:List Wd)(i:Nat):qf0 l (v.drop i)=match defW (wdAt v i) with
  |some d=>decide (d=l) || qf0 l (v.drop (i+1))
  |none=>false:=by
 by_cases h:i<v.length
 ·have e:wdAt v i=v[i]:=by unfold wdAt;rw[zRl h];rfl
  rw[drop_eq_getElem_cons h,qf0,e]
  first|done|(cases defW v[i] <;> rfl)
 have e:wdAt v i=[]:=by unfold wdAt;rw[List.getElem?_eq_none zo];rfl
 rw[List.drop_eq_nil_of_le zo,e];rfl
theorem qwX{d:Wd}(h:defW (wdAt v i)=some d):i<v.length:=by
 by_cases hl:i<v.length
 exact hl;have e:wdAt v i=[]:=by unfold wdAt;rw[List.getElem?_eq_none zo];rfl
 rw[e] at h;cases h
section
variable{B0:Nat}{w0:World}
theorem qsX(v:List Wd)(m:Nat)(hv:Small v):LCalls (KC B0 w0) 84 [qb4 v m] [] (Ret (qhw (qhR v))):=by
 have k0:=qaO (B0:=B0) (w0:=w0) v m 0 (by have:=hv.1;omega);have kj:=qhq (B0:=B0) (w0:=w0) v m 1 hv zo;have kw:∀ k,LCalls (KC B0 w0) 134 [qb4 v m,int .i64 (k:Nat)] [] (Ret (str (wdAt v k))):=λk=>qaO v m k (by have:=hv.1;omega);have kd:∀ k,LCalls (KC B0 w0) 138 [str (wdAt v k)] [] (qgV (qbw (defW (wdAt v k)))):=λk=>qea (wdAt v k) (by have:=hv.at k;omega)
 have hF:qhR v=match qdd v 1 with
  |some l=>if wdAt v 0=[48]/\qf0 l (v.drop 3)=true then (3,[]) else (0,[])
  |none=>(0,[]):=rfl
 unfold qb4 at k0 kj kw ⊢;generalize qdd v 1=oj at kj hF;generalize wdAt v 0=a at k0 hF;refine cJ Tryz.func84 (n:=35) ?_;refine gai ?_;refine oS (sB (cs:=[.list (v.map str),.atom (.map (some m))]) rfl λb1=>?_) rfl;refine zQ82 ?_;rintro lv ⟨s,rfl,hs⟩;refine gac ?_;refine oB 16 rfl (λh1=>?_) (λh1=>?_)
 obtain rfl:oj=none:=by
  cases oj with
  |none=>rfl
  |some l=>cases h1
 refine gab ?_;refine oC rfl (λh=>?_) (λh=>?_);exact zT23;cases h
 obtain⟨l,rfl⟩:∃ l,oj=some l:=by
  cases oj with
  |none=>cases h1
  |some l=>exact⟨l,rfl⟩
 obtain rfl:=hs l rfl;simp only at hF;refine gad ?_;refine zQ81 ?_;refine gad ?_;refine oC rfl (λh=>?_) (λh=>?_);have hne:¬ a=[48]:=by simpa using h
 rw[zn (λhc=>hne hc.1)] at hF;refine gaa ?_;exact qak rfl (rC (zrt rfl) (rC (rT (v:=qab) rfl vN) rN)) (by rw[hF];rfl);have he:a=[48]:=by simpa using h
 subst he;simp only[true_and] at hF;refine gaa ?_
 refine oL (λk ls H=>∃ i,(i<=v.length∨i=3)/\k=v.length+4-i/\ls=[(1,ptr b1 0),(4,str s),(6,int .i64 (i:Nat))]/\H=[(b1,.cells 158 [.list (v.map str),.atom (.map (some m))])]/\qf0 s (v.drop 3)=qf0 s (v.drop i))
  ⟨_,_,_,⟨3,Or.inr rfl,rfl,rfl,rfl,rfl⟩,⟨rfl,rfl,rfl,trivial⟩,zhR _⟩ ?_
 rintro k ls H ⟨i,hi,rfl,rfl,rfl,hE⟩ j1 hj1;have hl:=hv.1;rw[qqw s v i] at hE;refine gac ?_;refine oS (sF [_,_] rfl (kw i)<|oS (S.fnIf [_] rfl (kd i) ?_) rfl) rfl;rintro lv ⟨d,rfl,hd⟩;refine gac ?_;refine oC rfl (λh=>?_) (λh=>?_)
 have hn:defW (wdAt v i)=none:=by
  cases ho:defW (wdAt v i) with
  |none=>rfl
  |some l=>rw[ho] at h;cases h
 rw[hn] at hE;rw[hE] at hF;refine gaa ?_;exact qak hj1 (rC (zrt rfl) (rC (rT (v:=qab) rfl vN) rN)) (by rw[hF];rfl)
 obtain⟨e,ho⟩:∃ e,defW (wdAt v i)=some e:=by
  cases ho:defW (wdAt v i) with
  |none=>rw[ho] at h;cases h
  |some l=>exact⟨l,rfl⟩
 have hlt:=qwX ho;obtain rfl:=hd e ho;rw[ho] at hE;simp only at hE;refine gaa ?_;refine oC rfl (λh2=>?_) (λh2=>?_);have he:d=s:=zt h2;rw[zRp he,Bool.true_or] at hE;rw[hE] at hF;refine gaa ?_;exact qak hj1 (rC (zrt rfl) (rC (rT (v:=qab) rfl vN) rN)) (by rw[hF];rfl);have he:¬ d=s:=zf h2;rw[decide_eq_false he,Bool.false_or] at hE;refine gaa ?_;exact⟨_,_,_,by omega,⟨i+1,Or.inl zo,rfl,rfl,rfl,hE⟩,⟨rfl,rfl,qao zo,trivial⟩,zhR _,hj1⟩
end
section
variable{B0:Nat}{w0:World}
theorem qs7(hG:GW B0 w0)(v:List Wd)(m:Nat)(hv:Small v):LCalls (KC B0 w0) 81 [qb4 v m] [] (Ret (qhw (qiK v))):=by
 have k0:=qaO (B0:=B0) (w0:=w0) v m 0 (by have:=hv.1;omega);have kn:=qdf hG (wdAt v 0) (by have:=hv.at 0;omega);have ki:=qck (B0:=B0) (w0:=w0) v m 1 [[64],wdAt v 0,[33]] hv zo (by simp only[zLc,zLn];omega)
 have hF:qiK v=if (numW (wdAt v 0)).isSome=true/\isW v 1 [[64],wdAt v 0,[33]]=true then (4,[]) else (0,[]):=by
  simp only[qiK,isW,zBa,zDe,and_true]
 unfold qb4 at k0 ki ⊢;generalize numW (wdAt v 0)=on at kn hF;generalize isW v 1 [[64],wdAt v 0,[33]]=q at ki hF;generalize wdAt v 0=a at k0 kn ki;refine cJ Tryz.func81 (n:=20) ?_;refine gai ?_;refine oS (sB (cs:=[.list (v.map str),.atom (.map (some m))]) rfl λb1=>?_) rfl;refine gac ?_;refine zQ81 ?_;refine oS (sF [_] rfl kn ?_) rfl;refine gab ?_
 cases on with
 |none=>
  refine zQ56 ?_;refine LAny.takeSkip (i:=2) rfl rfl rfl rfl zk zk zk rfl<|zQ38 ?_;refine aT 7 rfl rfl (Pure.pickF (lv:=.atom _) rfl rfl)<|aL ?_ zhr;refine lD zk ?_;refine gaf ?_;refine oC rfl (λh=>?_) (λh=>?_);cases h
  exact zT23
 |some n=>
  refine zQ56 ?_;refine LAny.tkW 2 rfl rfl rfl rfl (pG (cs':=[_,_]) rfl zm0 rfl rfl)<|LAny.tkW 3 rfl rfl rfl rfl (pG (cs':=[_,_]) rfl zm0 rfl rfl)<|aL ?_ zhr;refine lO 4 (lS (H1:=[]) rfl (.inr ⟨1,true,13,rfl,rfl,rfl⟩) rfl zpr zhr (sF [_,_] rfl k0 ?_));refine lO 5 (lS (H1:=[]) rfl (.inr ⟨1,true,13,rfl,rfl,rfl⟩) rfl zpr zhr ?_);refine sL [.const (.string { data:=#[64] }),.tmp 16,.const (.string { data:=#[33] })] rfl (eC rfl rfl (eC rfl rfl (eC rfl rfl eN))) rfl rfl rfl ?_;refine lO 6 (lS (H1:=[]) rfl (.inr ⟨1,true,13,rfl,rfl,rfl⟩) rfl zpr zhr (sF [_,_,_] rfl ki ?_));refine qay.any [(b1,.cells 158 [.list (v.map str),.atom (.map (some m))])] (λ_ h=>h) ?_;refine aT 7 rfl rfl (Pure.pickT (lv:=.atom _) rfl rfl)<|aL ?_ zhr;refine lD zk ?_;refine gaf ?_;refine oC rfl (λh=>?_) (λh=>?_);have hq:q=true:=h;subst hq;refine gaa ?_;exact qak rfl (rC (zrt rfl) (rC (rT (v:=qab) rfl vN) rN)) (by rw[hF];rfl);have hq:q=false:=h;subst hq;refine gaa ?_;exact qak rfl (rC (zrt rfl) (rC (rT (v:=qab) rfl vN) rN)) (by rw[hF];rfl)
end
theorem qnW(h:5<v.length):((v.map str).take 6).drop 4=[str (wdAt v 4),str (wdAt v 5)]:=by
 have e4:wdAt v 4=v[4]:=by unfold wdAt;rw[zRl zo];rfl
 have e5:wdAt v 5=v[5]:=by unfold wdAt;rw[zRl h];rfl
 rw[e4,e5,<-List.map_take,<-List.map_drop]
 have:(v.take 6).drop 4=[v[4],v[5]]:=by
  rw[List.drop_take,drop_eq_getElem_cons (by omega:4<v.length),drop_eq_getElem_cons h];rfl
 rw[this];rfl
section
variable{B0:Nat}{w0:World}
theorem qoa(v:List Wd)(m:Nat)(hv:Small v):LCalls (KC B0 w0) 82 [qb4 v m] [] (Ret (qhw (qdu v))):=by
 have kj:=qhq (B0:=B0) (w0:=w0) v m 4 hv zo;have ki:=qck (B0:=B0) (w0:=w0) v m 0 [[49],[60],[49],[60]] hv zo zDd
 have hF:qdu v=if (qdd v 4).isSome=true/\isW v 0 [[49],[60],[49],[60]]=true then (6,[wdAt v 4,wdAt v 5]) else (0,[]):=by
  simp only[qdu,isW,zBa,zDe,and_true]
 have hlen:∀ l,qdd v 4=some l->5<v.length:=λl h=>qcC h;unfold qb4 at kj ki ⊢;generalize qdd v 4=oj at kj hF hlen;generalize isW v 0 [[49],[60],[49],[60]]=q at ki hF;refine cJ Tryz.func82 (n:=20) ?_;refine gai ?_;refine oS (sB (cs:=[.list (v.map str),.atom (.map (some m))]) rfl λb1=>?_) rfl;refine zQ82 ?_;rintro lv ⟨s,rfl,hs⟩;refine gaa ?_
 cases oj with
 |none=>
  refine gab ?_;refine oC rfl (λh=>?_) (λh=>?_);cases h
  exact zT23
 |some l=>
  have h5:=hlen l rfl;refine gad ?_;refine oS (sL [.const (.string { data:=#[49] }),.const (.string { data:=#[60] }),.const (.string { data:=#[49] }),.const (.string { data:=#[60] })] rfl (eC rfl rfl (eC rfl rfl (eC rfl rfl (eC rfl rfl eN)))) rfl rfl rfl ?_) rfl;refine gab ?_;refine oS (sF [_,_,_] rfl ki ?_) rfl;refine gab ?_;refine oC rfl (λh=>?_) (λh=>?_);have hq:q=true:=h;subst hq;refine gab ?_;refine cD (m:=5) rfl [(b1,.cells 158 [.list (v.map str),.atom (.map (some m))])]<|aT 0 rfl rfl (pF rfl)<|aT 1 rfl rfl (pL (c:=.list _) rfl zm0 rfl)<|LAny.take (i:=2) zhr rfl zk zk zk rfl (Pure.lslice (es:=v.map str) (i:=4) (j:=6) rfl ⟨_,rfl⟩ ⟨_,rfl⟩ zo zo (by rw[zLm];omega) (qdk v))<|aT 3 rfl rfl (pA (lv:=.atom _) rfl)<|aT 4 rfl rfl (pA (lv:=.list _) rfl)<|aL ?_ zhr;refine zQ51 ?_;exact qak rfl (rC (zrt rfl) (rC (rT (v:=.list _) rfl zsr) rN)) (by rw[hF];exact congrArg (λx=>LV.tuple [int .i64 6,.list x]) (qnW h5));have hq:q=false:=h;subst hq;refine gaa ?_;exact qak rfl (rC (zrt rfl) (rC (rT (v:=qab) rfl vN) rN)) (by rw[hF];rfl)
end
section
variable{B0:Nat}{w0:World}
theorem qmP(hG:GW B0 w0)(v:List Wd)(m:Nat)(hv:Small v):LCalls (KC B0 w0) 80 [qb4 v m] [] (Ret (qhw (qcr v))):=by
 have k0:=qaO (B0:=B0) (w0:=w0) v m 0 (by have:=hv.1;omega);have k1:=qaO (B0:=B0) (w0:=w0) v m 1 (by have:=hv.1;omega);have k2:=qaO (B0:=B0) (w0:=w0) v m 2 (by have:=hv.1;omega);have k3:=qaO (B0:=B0) (w0:=w0) v m 3 (by have:=hv.1;omega);have kj:=qjd hG (wdAt v 0) (wdAt v 1) (wdAt v 2) (hv.at 0) (hv.at 2)
 have hF:qcr v=if (wdAt v 1=[43]∨wdAt v 1=[42]∨wdAt v 1=[94])/\wdAt v 3=wdAt v 1 then
  (match qa2 (wdAt v 0) (wdAt v 1) (wdAt v 2) with
  |some s=>(4,[s,wdAt v 1])
  |none=>(0,[]))
 else (0,[]):=rfl
 unfold qb4 at k0 k1 k2 k3 ⊢;generalize qa2 (wdAt v 0) (wdAt v 1) (wdAt v 2)=o at kj hF;generalize wdAt v 1=b at k1 kj hF;generalize wdAt v 3=d at k3 hF;refine cJ Tryz.func80 (n:=38) ?_;refine gai ?_;refine oS (sB (cs:=[.list (v.map str),.atom (.map (some m))]) rfl λb1=>?_) rfl;refine gac ?_;refine oS (sF [_,_] rfl k1 ?_) rfl;refine gac ?_;refine LOps.cut [(1,ptr b1 0),(4,str b),(24,bool (!decide ((b=[43]∨b=[42]∨b=[94])/\d=b)))] ?_ (λj hj=>?_);refine oB 11 rfl (λh1=>?_) (λh1=>?_);have e1:¬ b=[43]:=by simpa using h1
 refine gad ?_;refine oB 15 rfl (λh2=>?_) (λh2=>?_);have e2:¬ b=[42]:=by simpa using h2
 refine gad ?_;refine oB 19 rfl (λh3=>?_) (λh3=>?_);have e3:¬ b=[94]:=by simpa using h3
 refine gab ?_;exact⟨⟨rfl,rfl,qau (by simp[e1,e2,e3]),trivial⟩,rfl,rfl⟩;have e3:b=[94]:=by simpa using h3
 refine gad ?_;refine oS (sF [_,_] rfl k3 ?_) rfl;refine gad ?_;exact⟨⟨rfl,rfl,qau (by simp[e3]),trivial⟩,rfl,rfl⟩;have e2:b=[42]:=by simpa using h2
 refine gad ?_;refine oS (sF [_,_] rfl k3 ?_) rfl;refine gad ?_;exact⟨⟨rfl,rfl,qau (by simp[e2]),trivial⟩,rfl,rfl⟩;have e1:b=[43]:=by simpa using h1
 refine gad ?_;refine oS (sF [_,_] rfl k3 ?_) rfl;refine gad ?_;exact⟨⟨rfl,rfl,qau (by simp[e1]),trivial⟩,rfl,rfl⟩;refine oC rfl (λh=>?_) (λh=>?_);have hn:¬ ((b=[43]∨b=[42]∨b=[94])/\d=b):=zf (Bool.not_eq_true' _▸h);rw[zn hn] at hF;refine gaa ?_;exact qak hj (rC (zrt rfl) (rC (rT (v:=qab) rfl vN) rN)) (by rw[hF];rfl)
 have hn:(b=[43]∨b=[42]∨b=[94])/\d=b:=by
  by_cases hc:(b=[43]∨b=[42]∨b=[94])/\d=b
  exact hc;rw[decide_eq_false hc] at h;cases h
 rw[zp hn] at hF;refine gab ?_;refine cD (m:=11) rfl [(b1,.cells 158 [.list (v.map str),.atom (.map (some m))])]<|aT 0 rfl rfl (pG (cs':=[_,_]) rfl zm0 rfl rfl)<|zQ40 ?_;refine aT 3 rfl rfl (pG (cs':=[_,_]) rfl zm0 rfl rfl)<|zQ62 ?_;refine lO 4 (lS (H1:=[]) rfl (.inl rfl) rfl zpr zhr (sF [_,_] rfl k2 ?_));refine lO 5 (lS (H1:=[]) rfl (.inl rfl) rfl zpr zhr (S.fnIf [_,_,_] rfl kj ?_));rintro lv ⟨s,rfl,hs⟩;refine qay.any [(b1,.cells 158 [.list (v.map str),.atom (.map (some m))])] (λ_ h=>h) ?_;refine aT 6 rfl rfl (pM (lv:=.tuple _) rfl)<|aT 7 rfl rfl (Pure.extract (c:=.atom _) rfl rfl)<|aT 8 rfl rfl (Pure.extract (c:=.atom _) rfl rfl)<|aT 9 rfl rfl (pA (lv:=.atom _) rfl)<|aT 10 rfl rfl (pA (lv:=.atom _) rfl)<|aL ?_ zhr;refine lD zk ?_;refine gag ?_;refine oC rfl (λh=>?_) (λh=>?_);obtain⟨l,rfl⟩:=zR h;obtain rfl:=hs l rfl;refine gah ?_;refine oS (sL [.tmp 35,.tmp 36] rfl (eC rfl rfl (eC rfl rfl eN)) rfl rfl rfl ?_) rfl;refine gad ?_;exact qak hj (rC (zrt rfl) (rC (rT (v:=.list _) rfl zsr) rN)) (by rw[hF];rfl)
 obtain rfl:o=none:=by
  cases o with
  |none=>rfl
  |some l=>cases h
 refine gaa ?_;exact qak hj (rC (zrt rfl) (rC (rT (v:=qab) rfl vN) rN)) (by rw[hF];rfl)
end
theorem qmv(h:v.length<=i):qbY (v.drop i)=0:=by
 rw[List.drop_eq_nil_of_le h];rfl
theorem qon(h:i<v.length)(hd:(defW v[i]).isSome=true):qbY (v.drop i)=0:=by
 unfold qbY
 rw[drop_eq_getElem_cons h,List.takeWhile_cons_of_neg (λhc=>absurd (show(defW v[i]).isNone=true from hc) (by
  cases hx:defW v[i] with
  |none=>rw[hx] at hd;cases hd
  |some d=>simp))]
 rfl
theorem qnv(h:i<v.length)(hd:(defW v[i]).isSome=false):qbY (v.drop i)=qbY (v.drop (i+1))+1:=by
 unfold qbY;rw[drop_eq_getElem_cons h,List.takeWhile_cons_of_pos (by simpa using hd)];rfl
theorem qwN{n:Nat}(hn:n=qco v)(h0:n=0->i=0)(hi:n<=i)(hE:0<n->qbY (v.drop n)=i-n):qiH v=if n<i then (i,v.take n) else (0,[]):=by
 unfold qiH;rw[<-hn]
 by_cases h:0<n
 rw[hE h]
 by_cases hj:n<i
 rw[zp ⟨h,by omega⟩,zp hj,show n+(i-n)=i by omega];rw[zn (λhc=>hj zo),zn hj];rw[zn (λhc=>h hc.1),zn (by have:=h0 zo;omega)]
section
variable{B0:Nat}{w0:World}
theorem qrF(v:List Wd)(m:Nat)(hv:Small v):LCalls (KC B0 w0) 85 [qb4 v m] [] (Ret (qhw (qiH v))):=by
 have hla:(v.map str).length=v.length:=zLm _;have hl:=hv.1;have k0:=qaO (B0:=B0) (w0:=w0) v m 0 (by have:=hv.1;omega);have kj:=qhq (B0:=B0) (w0:=w0) v m 1 hv zo;have hS:qco v=if (qdd v 1).isSome=true/\wdAt v 0=[48] then 3 else if wdAt v 0=[59]∨wdAt v 0=[36] then 1 else 0:=rfl
 have hD:=λ{i}=>@qwN i v;unfold qb4 at k0 kj ⊢;generalize qco v=n at hS hD;generalize qdd v 1=oj at kj hS;generalize wdAt v 0=a at k0 hS
 have hn3:n<=3:=by
  rw[hS];split;omega;split <;> omega
 refine cJ Tryz.func85 (n:=59) ?_;refine gai ?_;refine oS (sB (cs:=[.list (v.map str),.atom (.map (some m))]) rfl λb1=>?_) rfl
 repeat (first|refine LOps.nil ?_|refine qN ?_|refine oP (pA (lv:=.atom _) rfl) rfl ?_)
 refine gai ?_
 repeat (first|refine LOps.nil ?_|refine qN ?_|refine oP (pA (lv:=.atom _) rfl) rfl ?_)
 refine qah.seq ?_;refine cC [(1,ptr b1 0),(4,int .i64 (n:Nat))] ?_ (λj hj=>?_);refine zQ82 ?_;rintro lv ⟨s,rfl,hs⟩;refine gaa ?_;refine LOps.cut [(1,ptr b1 0),(4,int .i64 0),(20,bool (decide (oj.isSome=true/\a=[48])))] ?_ (λj2 hj2=>?_)
 cases oj with
 |none=>
  refine gab ?_
  exact⟨⟨rfl,rfl,qau (by simp),trivial⟩,rfl,rfl⟩
 |some l=>
  refine gad ?_;refine zQ81 ?_;refine gab ?_;exact⟨⟨rfl,rfl,qau (by simp),trivial⟩,rfl,rfl⟩
 refine oC rfl (λh=>?_) (λh=>?_);rw[zp (zt h)] at hS;subst hS;refine gag ?_;exact⟨⟨rfl,rfl,trivial⟩,rfl,hj2⟩;rw[zn (zf h)] at hS;refine gac ?_;refine zQ81 ?_;refine gab ?_;refine LOps.cut [(1,ptr b1 0),(4,int .i64 0),(28,bool (decide (a=[59]∨a=[36])))] ?_ (λj3 hj3=>?_);refine oB 24 rfl (λh1=>?_) (λh1=>?_);have e1:a=[59]:=zt h1;refine gab ?_;exact⟨⟨rfl,rfl,qau (by simp[e1]),trivial⟩,rfl,rfl⟩;have e1:¬ a=[59]:=zf h1;refine gad ?_;refine zQ81 ?_;refine gab ?_;exact⟨⟨rfl,rfl,qau (by simp[e1]),trivial⟩,rfl,rfl⟩;refine oC rfl (λh=>?_) (λh=>?_);rw[zp (zt h)] at hS;subst hS;refine gag ?_;exact⟨⟨rfl,rfl,trivial⟩,rfl,hj3.trans hj2⟩;rw[zn (zf h)] at hS;subst hS;refine gab ?_;exact⟨⟨rfl,rfl,trivial⟩,rfl,hj3.trans hj2⟩;refine gaa ?_
 refine oL (λk ls H=>∃ i:Nat,n<=i/\(i<=v.length∨i=n)/\(n=0->i=0)/\k=v.length+4-i/\ls=[(1,ptr b1 0),(4,int .i64 (n:Nat)),(7,int .i64 (i:Nat))]/\H=[(b1,.cells 158 [.list (v.map str),.atom (.map (some m))])]/\qbY (v.drop n)=(i-n)+qbY (v.drop i))
  ⟨_,_,_,⟨n,zNr _,Or.inr rfl,id,rfl,rfl,rfl,by omega⟩,⟨rfl,rfl,rfl,trivial⟩,zhR _⟩ ?_
 rintro k ls H ⟨i,hni,hi,h0,rfl,rfl,rfl,hE⟩ j1 hj1;refine gac ?_;refine LOps.cut [(1,ptr b1 0),(4,int .i64 (n:Nat)),(7,int .i64 (i:Nat)),(38,bool (decide (0<n/\i<v.length)))] ?_ (λj2 hj2=>?_);refine oB 32 rfl (λh1=>?_) (λh1=>?_);have e1:0<n:=by have:=zt h1;omega
 refine gan ?_;exact⟨⟨rfl,rfl,rfl,qau (by rw[decide_eq_decide];omega),trivial⟩,rfl,rfl⟩;have e1:¬ 0<n:=by have:=zf h1;omega
 refine gab ?_;exact⟨⟨rfl,rfl,rfl,qau (by simp[e1]),trivial⟩,rfl,rfl⟩;refine oC rfl (λh=>?_) (λh=>?_);obtain⟨hn0,hlt⟩:=zt h;have kd:=qea (B0:=B0) (w0:=w0) v[i] (by have:=hv.2 _ (getElem_mem hlt);omega);refine gac ?_;refine oP (xR (el':=str v[i]) (cs:=[str v[i]]) rfl rfl zo (qbR _ _ _ hlt) rfl rfl) rfl<|gad ?_;refine oS (S.fnIf [_] rfl kd ?_) rfl;rintro lv ⟨s,rfl,hs⟩;refine gaa ?_;refine oC rfl (λh2=>?_) (λh2=>?_);rw[qon hlt h2] at hE
 replace hD:=hD rfl h0 hni (λ_=>by omega)
 refine gac ?_;refine oC rfl (λh3=>?_) (λh3=>?_);exact zT39;exact zT19;rw[qnv hlt (by simpa using h2)] at hE;refine gaa ?_;exact⟨_,_,_,by omega,⟨i+1,by omega,Or.inl zo,by omega,rfl,rfl,rfl,by omega⟩,⟨rfl,rfl,qao zo,trivial⟩,zhR _,hj2.trans hj1⟩;have hc:=zf h
 replace hD:=hD rfl h0 hni (λh=>by rw[qmv (v:=v) (i:=i) zo] at hE;omega)
 refine gaa ?_;refine oC rfl (λh3=>?_) (λh3=>?_);exact zT39;exact zT19
end
end Go.Proofs.YtegmklafpoldgaaGreatDoor.Pp
namespace Go.Proofs.YtegmklafpoldgaaGreatDoor.Pp
open Go.GL Go.RowKit Go.Stele
open Asm (qbw qbw.mk qbI)
def qp5(used:Wd->Bool)(v:List Wd):List qeW:=[qhE v,qcX v,qcr v,qiK v,qdu v,qeR v,qhR v,qiH v,qcv used v]
def qit:List qeW->qeW
 |[]=>(0,[])
 |r::l=>if r.1≠0 then r else qit l
theorem qox{used:Wd->Bool}{v:List Wd}(h:(qcv used v).1=0):qcv used v=(0,[]):=by
 unfold qcv at h ⊢;revert h
 cases defW (wdAt v 0) with
 |none=>exact λ_=>rfl
 |some l=>
  intro h;simp only at h ⊢
  by_cases hu:used l=true
  rw[zp hu];rw[zn hu] at h;cases h
theorem qn9(used:Wd->Bool)(v:List Wd):qa4 used v=qit (qp5 used v):=by
 have hz:=@qox used v;unfold qa4 qp5;generalize qhE v=a1;generalize qcX v=a2;generalize qcr v=a3;generalize qiK v=a4;generalize qdu v=a5;generalize qeR v=a6;generalize qhR v=a7;generalize qiH v=a8;generalize qcv used v=a9 at hz;simp only[qit]
 by_cases h9:a9.1≠0
 rw[zp h9];rw[zn h9,hz (Decidable.not_not.1 h9)]
theorem qow{l:List qeW}{i:Nat}(h:i<l.length):qit (l.drop i)=if l[i].1≠0 then l[i] else qit (l.drop (i+1)):=by
 rw[drop_eq_getElem_cons h,qit]
theorem qqj{l:List qeW}{i:Nat}(h:l.length<=i):qit (l.drop i)=(0,[]):=by
 rw[List.drop_eq_nil_of_le h]
 try rfl
theorem qr8(used:Wd->Bool)(v:List Wd):(qp5 used v).length=9:=rfl
theorem qsO(used:Wd->Bool)(f:Nat):qcw used f []=[]:=by
 cases f <;> rfl
theorem qqE(used:Wd->Bool)(f:Nat)(w:Wd)(r:List Wd):qcw used (f+1) (w::r)=if (qa4 used (w::r)).1=0 then w::qcw used f r else (qa4 used (w::r)).2++qcw used f ((w::r).drop (qa4 used (w::r)).1):=rfl
theorem qqz(l:List Wd)(k:Nat)(h:k<l.length)(s:Wd):qaK (l.take (k+1)) s=(qaK (l.take k) s || decide (refW l[k]=some s)):=by
 unfold qaK;rw[List.take_succ_eq_append_getElem h,List.any_append]
 simp
attribute [local irreducible] LOps qah qae LCalls Go.GL.Pure qaw qam qad LQ LAny qay qal
theorem qe1(l:List Wd):((l.map str).flatMap LV.cells).all qcP=true:=by
 induction l with
 |nil=>rfl
 |cons a l ih=>
  rw[zMc,List.flatMap_cons,List.all_append,ih];rfl
theorem qr0(l:List Wd)(i:Nat):((l.map str).take (((l.map str).length:Nat):Int).toNat).drop ((i:Nat):Int).toNat=(l.drop i).map str:=by
 rw[Int.toNat_natCast,Int.toNat_natCast,take_length,List.map_drop]
theorem qty{s:Nat}{v:LV}{es:List LV}{H:Heap}{q:Nat×LObj}(h:Acc s v es H [q]):∃ F,H.Perm ([q]++F):=by
 cases h with
 |nil=>exact⟨[],List.Perm.refl _⟩
 |row=>exact⟨[_],zRr ..⟩
theorem Small.drop{l:List Wd}(h:Small l)(i:Nat):Small (l.drop i):=
 ⟨by have:=h.1;rw[length_drop];omega,λw hw=>h.2 w (List.mem_of_mem_drop hw)⟩
def fnLV(k:Nat):LV:=.atom (.func (.func (78+k)) #[] #[])
section
variable{B0:Nat}{w0:World}
theorem qqY(hG:GW B0 w0)(l:List Wd)(hv:Small l):LCalls (KC B0 w0) 30 [.list (l.map str)] [] (Ret (.list ((qec l).map str))):=by
 have hla:(l.map str).length=l.length:=zLm _;have hl:=hv.1;refine cJ Tryz.func30 (n:=73) ?_;refine gag ?_;refine oS (S.makeMap λm=>?_) rfl;refine gaa ?_
 refine oL (λk ls H=>∃ (i:Nat) (es:Array MapEntry) (clock:Nat),i<=l.length/\k=l.length-i/\ls=[(0,.list (l.map str)),(3,.atom (.map (some m))),(17,.list (l.map str)),(18,int .i64 l.length),(19,int .i64 (i:Nat))]/\H=[(m,.obj (.map es clock))]/\SetMap es (qaK (l.take i)))
  ⟨_,_,_,⟨0,#[],0,zero_le _,rfl,rfl,rfl,SetMap.nil⟩,⟨rfl,rfl,rfl,qao zo,rfl,trivial⟩,zhR _⟩ ?_
 rintro k ls H ⟨i,es,clock,hi,rfl,rfl,rfl,hM⟩ j1 hj1;refine gaj ?_;refine oC rfl (λhc=>?_) (λhc=>?_);have hlt:i<l.length:=by have:=zt hc;omega
 have kr:=qgr (B0:=B0) (w0:=w0) l[i] (by have:=hv.2 _ (getElem_mem hlt);omega);have hU:qaK (l.take (i+1))=λs=>qaK (l.take i) s || decide (refW l[i]=some s):=funext λs=>qqz l i hlt s;refine gal ?_;refine oP (xR (el':=str l[i]) (cs:=[str l[i]]) rfl rfl zo (qbR _ _ _ hlt) rfl rfl) rfl<|gac ?_;refine oS (S.fnIf [_] rfl kr ?_) rfl;rintro lv ⟨s,rfl,hs⟩;refine gaa ?_;refine oC rfl (λh=>?_) (λh=>?_);obtain⟨d,hd⟩:=zR h;obtain rfl:=hs d hd;refine gah ?_;refine oS (S.setPut (t:=102) (kt:=9) (el:=4) zk zk rfl rfl rfl pH hM λes' clock' hM'=>?_) rfl;refine gaa ?_
 exact⟨_,_,_,by omega,⟨i+1,es',clock',by omega,rfl,rfl,rfl,by
  rw[hU,hd]
  exact cast (by congr;funext x;simp[eq_comm]) hM'⟩,⟨rfl,rfl,rfl,rfl,qao zo,trivial⟩,zhR _,hj1⟩
 have hn:refW l[i]=none:=by
  cases ho:refW l[i] with
  |none=>rfl
  |some d=>rw[ho] at h;cases h
 refine gaa ?_
 exact⟨_,_,_,by omega,⟨i+1,es,clock,by omega,rfl,rfl,rfl,by
  rw[hU,hn]
  exact cast (by congr;funext x;simp) hM⟩,⟨rfl,rfl,rfl,rfl,qao zo,trivial⟩,zhR _,hj1⟩
 have hi':i=l.length:=by have:=zf hc;omega
 subst hi';rw[take_length] at hM;refine gaa ?_;refine oS (sL [.func 78,.func 79,.func 80,.func 81,.func 82,.func 83,.func 84,.func 85,.func 86] rfl (eC rfl rfl (eC rfl rfl (eC rfl rfl (eC rfl rfl (eC rfl rfl (eC rfl rfl (eC rfl rfl (eC rfl rfl (eC rfl rfl eN))))))))) rfl rfl rfl ?_) rfl;refine gac ?_
 refine oL (λk ls H=>∃ (i f:Nat) (out:List Wd) (v:LV),i<=l.length/\k=l.length-i/\ls=[(0,.list (l.map str)),(3,.atom (.map (some m))),(8,.list ((List.range 9).map fnLV)),(9,v),(10,int .i64 (i:Nat))]/\Acc 1 v (out.map str) H [(m,.obj (.map es clock))]/\l.length-i<=f/\out.length<=i/\out++qcw (qaK l) f (l.drop i)=qec l)
  ⟨_,_,_,⟨0,l.length,[],qab,zero_le _,rfl,rfl,Acc.nil,by omega,zero_le _,rfl⟩,⟨rfl,rfl,rfl,rfl,rfl,trivial⟩,zhR _⟩ ?_
 rintro k ls H ⟨i,f,out,v,hi,rfl,rfl,hacc,hf,hlen,hE⟩ j2 hj2;have hol:(out.map str).length=out.length:=zLm _;refine gaa ?_;refine oC rfl (λhc=>?_) (λhc=>?_)
 ·have hlt:i<l.length:=by have:=zt hc;omega
  obtain⟨f,rfl⟩:∃ g,f=g+1:=⟨f-1,by omega⟩;have hR:(qa4 (qaK l) (l.drop i)).1≠0->(qa4 (qaK l) (l.drop i)).1<=(l.drop i).length/\(qa4 (qaK l) (l.drop i)).2.length<(qa4 (qaK l) (l.drop i)).1:=qfn (qaK l) (l.drop i);have hF:=qn9 (qaK l) (l.drop i);have hl9:=qr8 (qaK l) (l.drop i);rw[drop_eq_getElem_cons hlt,qqE,<-drop_eq_getElem_cons hlt,List.drop_drop] at hE;have hdl:(l.drop i).length=l.length-i:=length_drop
  repeat (first|refine LOps.nil ?_|refine qN ?_|refine qah.skip ?_|refine qah.block ?_)
  refine qah.seq ?_
  repeat (first|refine LOps.nil ?_|refine qN ?_|refine qah.region ?_|refine oP (pA (lv:=.atom _) rfl) rfl ?_)
  refine qah.seq ?_
  refine cM (A:=Nat×List Wd×LV×Heap) (λa=>[(0,.list (l.map str)),(3,.atom (.map (some m))),(8,.list ((List.range 9).map fnLV)),(9,a.2.2.1),(10,int .i64 (i:Nat)),(11,int .i64 a.1)]) (λa=>a.2.2.2)
   (λa=>a.1=(qa4 (qaK l) (l.drop i)).1/\a.2.1=(if (qa4 (qaK l) (l.drop i)).1=0 then out else out++(qa4 (qaK l) (l.drop i)).2)/\Acc 1 a.2.2.1 (a.2.1.map str) a.2.2.2 [(m,.obj (.map es clock))]) ?_ ?_
  refine gaa ?_;refine oL (λk ls H1=>∃ x:Nat,x<=9/\k=9-x/\ls=[(0,.list (l.map str)),(3,.atom (.map (some m))),(8,.list ((List.range 9).map fnLV)),(9,v),(10,int .i64 (i:Nat)),(11,int .i64 0),(37,.list ((List.range 9).map fnLV)),(38,int .i64 9),(39,int .i64 (x:Nat))]/\H1=H/\qa4 (qaK l) (l.drop i)=qit ((qp5 (qaK l) (l.drop i)).drop x)) ?_ ?_;exact⟨_,_,_,⟨0,zero_le _,rfl,rfl,rfl,hF⟩,⟨rfl,rfl,rfl,rfl,rfl,rfl,rfl,rfl,rfl,trivial⟩,zhR _⟩;rintro k ls H1 ⟨x,hx,rfl,rfl,rfl,hX⟩ j3 hj3;refine gaj ?_;refine oC rfl (λhc=>?_) (λhc=>?_);have hx9:x<9:=by have:=zt hc;omega
  rw[qow zo] at hX;refine gal ?_
  refine oP (xR (el':=fnLV x) (cs:=[fnLV x]) rfl rfl zo (by
   have:=qbR fnLV (List.range 9) x (by simpa using hx9);rw[List.getElem_range] at this
   exact this) rfl rfl) rfl ?_
  refine gac ?_;refine oP (show Go.GL.Pure _ _ _ _ (.list ((l.drop i).map str)) from qr0 l i▸Pure.lslice (es:=l.map str) (i:=((i:Nat):Int)) (j:=(((l.map str).length:Nat):Int)) rfl ⟨_,rfl⟩ rfl zo zo zo (qdk l)) rfl<|gad ?_;have hv':=hv.drop i;have hxl:x<(qp5 (qaK l) (l.drop i)).length:=by omega
  generalize hr:(qp5 (qaK l) (l.drop i))[x]=r at hX;refine LOps.cut [(0,.list (l.map str)),(3,.atom (.map (some m))),(8,.list ((List.range 9).map fnLV)),(9,v),(10,int .i64 (i:Nat)),(11,int .i64 0),(14,int .i64 (r.1:Nat)),(15,.list (r.2.map str)),(37,.list ((List.range 9).map fnLV)),(38,int .i64 9),(39,int .i64 (x:Nat))] ?_ (λj4 hj4=>?_);clear hX;have h9:x=0∨x=1∨x=2∨x=3∨x=4∨x=5∨x=6∨x=7∨x=8:=by omega
  rcases h9 with rfl|rfl|rfl|rfl|rfl|rfl|rfl|rfl|rfl;obtain rfl:qhE (l.drop i)=r:=hr;refine oS (S.fnV (f:=78) [_] rfl rfl (qrB hG (l.drop i) m hv') ?_) rfl;refine gad ?_;exact⟨⟨rfl,rfl,rfl,rfl,rfl,rfl,rfl,rfl,rfl,rfl,rfl,trivial⟩,rfl,rfl⟩;obtain rfl:qcX (l.drop i)=r:=hr;refine oS (S.fnV (f:=79) [_] rfl rfl (qm2 (B0:=B0) (w0:=w0) (l.drop i) m hv') ?_) rfl;refine gad ?_;exact⟨⟨rfl,rfl,rfl,rfl,rfl,rfl,rfl,rfl,rfl,rfl,rfl,trivial⟩,rfl,rfl⟩;obtain rfl:qcr (l.drop i)=r:=hr;refine oS (S.fnV (f:=80) [_] rfl rfl (qmP hG (l.drop i) m hv') ?_) rfl;refine gad ?_;exact⟨⟨rfl,rfl,rfl,rfl,rfl,rfl,rfl,rfl,rfl,rfl,rfl,trivial⟩,rfl,rfl⟩;obtain rfl:qiK (l.drop i)=r:=hr;refine oS (S.fnV (f:=81) [_] rfl rfl (qs7 hG (l.drop i) m hv') ?_) rfl;refine gad ?_;exact⟨⟨rfl,rfl,rfl,rfl,rfl,rfl,rfl,rfl,rfl,rfl,rfl,trivial⟩,rfl,rfl⟩;obtain rfl:qdu (l.drop i)=r:=hr;refine oS (S.fnV (f:=82) [_] rfl rfl (qoa (B0:=B0) (w0:=w0) (l.drop i) m hv') ?_) rfl;refine gad ?_;exact⟨⟨rfl,rfl,rfl,rfl,rfl,rfl,rfl,rfl,rfl,rfl,rfl,trivial⟩,rfl,rfl⟩;obtain rfl:qeR (l.drop i)=r:=hr;refine oS (S.fnV (f:=83) [_] rfl rfl (qqO hG (l.drop i) m hv') ?_) rfl;refine gad ?_;exact⟨⟨rfl,rfl,rfl,rfl,rfl,rfl,rfl,rfl,rfl,rfl,rfl,trivial⟩,rfl,rfl⟩;obtain rfl:qhR (l.drop i)=r:=hr;refine oS (S.fnV (f:=84) [_] rfl rfl (qsX (B0:=B0) (w0:=w0) (l.drop i) m hv') ?_) rfl;refine gad ?_;exact⟨⟨rfl,rfl,rfl,rfl,rfl,rfl,rfl,rfl,rfl,rfl,rfl,trivial⟩,rfl,rfl⟩;obtain rfl:qiH (l.drop i)=r:=hr;refine oS (S.fnV (f:=85) [_] rfl rfl (qrF (B0:=B0) (w0:=w0) (l.drop i) m hv') ?_) rfl;refine gad ?_;exact⟨⟨rfl,rfl,rfl,rfl,rfl,rfl,rfl,rfl,rfl,rfl,rfl,trivial⟩,rfl,rfl⟩;obtain rfl:qcv (qaK l) (l.drop i)=r:=hr;obtain⟨F,hp⟩:=qty hacc;refine oS (S.callV (f:=86) (H1:=[(m,.obj (.map es clock))]) (F:=F) [_] rfl rfl hp (qom (B0:=B0) (w0:=w0) (l.drop i) m hv' hM) (λv' H' hh=>?_) (by rintro ch H' ⟨h,_⟩;cases h)) rfl;obtain⟨hv1,rfl⟩:=hh;cases hv1;refine LOps.weak ⟨[],by simpa using hp.symm⟩ ?_;refine gad ?_;exact⟨⟨rfl,rfl,rfl,rfl,rfl,rfl,rfl,rfl,rfl,rfl,rfl,trivial⟩,rfl,rfl⟩;refine gac ?_;refine oC rfl (λhn=>?_) (λhn=>?_);have hn0:r.1≠0:=by have:=zt hn;omega
  rw[zp hn0] at hX;rw[hX] at hR;obtain⟨hR1,hR2⟩:=hR hn0;have hrl:(r.2.map str).length=r.2.length:=zLm _;refine gag ?_;refine zQ79 ?_;refine oS (S.acc rfl hacc rfl (qdk _) (qe1 _) zo λv' H' hacc'=>?_) rfl;refine zQ30 ?_;refine gad ?_;exact⟨(r.1,out++r.2,v',H'),⟨by rw[hX],by rw[hX,zn hn0],by rw[zMa];exact hacc'⟩,⟨rfl,rfl,rfl,rfl,rfl,rfl,trivial⟩,zhR _,hj4.trans hj3⟩;have hn0:r.1=0:=by have:=zf hn;omega
  rw[zn zo] at hX;refine gaa ?_;exact⟨_,_,_,by omega,⟨x+1,by omega,rfl,rfl,rfl,hX⟩,⟨rfl,rfl,rfl,rfl,rfl,rfl,rfl,rfl,qao zo,trivial⟩,zhR _,hj4.trans hj3⟩;have hx9:x=9:=by have:=zf hc;omega
  subst hx9;rw[qqj zo] at hX;refine gab ?_;exact⟨(0,out,v,H1),⟨by rw[hX],by rw[hX];rfl,hacc⟩,⟨rfl,rfl,rfl,rfl,rfl,rfl,trivial⟩,zhR _,hj3⟩;rintro⟨n,out',v',H'⟩ ⟨hn1,ho1,hacc'⟩ j5 hj5;simp only at hn1 ho1 hacc';have hol':(out'.map str).length=out'.length:=zLm _;rw[<-hn1] at hR ho1 hE;refine gaa ?_;refine oC rfl (λhn=>?_) (λhn=>?_);have hn0:n=0:=by have:=zt hn;omega
  rw[zp hn0] at ho1 hE;subst ho1;refine gag ?_;refine oP (pM (lv:=v') rfl) rfl<|gab ?_;refine oP (xR (el':=str l[i]) (cs:=[str l[i]]) rfl rfl zo (qbR _ _ _ hlt) rfl rfl) rfl<|gad ?_;refine zQ2 ?_;refine oS (S.acc rfl hacc' rfl (by simp;rfl) rfl (by simp;omega) λv2 H2 hacc2=>oP (pA (lv:=v2) rfl) rfl ?_) rfl;refine gaa ?_;exact⟨_,_,_,by omega,⟨i+1,f,out'++[l[i]],v2,by omega,rfl,rfl,by rw[zMa];exact hacc2,by omega,by simp;omega,by rw[zAs];exact hE⟩,⟨rfl,rfl,rfl,rfl,qao zo,trivial⟩,zhR _,hj5.trans hj2⟩;have hn0:n≠0:=by have:=zf hn;omega
  rw[zn hn0] at ho1 hE;obtain⟨hR1,hR2⟩:=hR hn0;have hlo:out'.length=out.length+(qa4 (qaK l) (l.drop i)).2.length:=by rw[ho1,zLa]
  refine gaa ?_;exact⟨_,_,_,by omega,⟨i+n,f,out',v',by omega,rfl,rfl,hacc',by omega,by omega,by rw[ho1,zAs];exact hE⟩,⟨rfl,rfl,rfl,rfl,qao zo,trivial⟩,zhR _,hj5.trans hj2⟩
 have hi':i=l.length:=by have:=zf hc;omega
 subst hi';rw[drop_length,qsO,zLz] at hE;subst hE;refine qah.sub (d:=9) (v:=v) rfl hacc.sub ?_;refine cW zhn ?_;refine gac ?_;exact qak (hj2.trans hj1) (rC (rT (v:=.list _) rfl zsr) rN) rfl
end
open Asm (qbw qbw.mk qbI qcj)
section
variable{B0:Nat}{w0:World}
theorem joinS_spec(sep:List UInt8)(ws:List (List UInt8))(hn:ws.length<=1000000000)(hl:(Go.Lib.join ws sep).length<=1000000000):LCalls (KC B0 w0) 26 [.list (ws.map str),str sep] [] (Ret (str (Go.Lib.join ws sep))):=Asm.joinS_spec sep ws hn hl
theorem qqM(hG:GW B0 w0)(s:List UInt8)(hs:s.length<=1000000):LCalls (KC B0 w0) 29 [str s] [] (Ret (.list ((qbc s).map str))):=by
 have ht:=Asm.tokens_spec hG.base hG.mx s zo;have hla:((qfR s).map qcj).length=(qfR s).length:=zLm _
 have htl:(qfR s).length<=s.length+1:=by
  have h1:=qin s;rw[<-qcQ,zLm] at h1;exact h1
 rw[<-qcQ];generalize qfR s=l at ht hla htl;refine cJ Tryz.func29 (n:=20) ?_;refine gag ?_;refine oS (sF [_] rfl ht ?_) rfl;refine gab ?_
 refine oL (λk ls H=>∃ (v:LV) (i:Nat),i<=l.length/\k=l.length-i/\ls=[(3,v),(7,.list (l.map qcj)),(8,int .i64 l.length),(9,int .i64 (i:Nat))]/\Acc 1 v (((l.take i).map (·.1)).map str) H [])
  ⟨_,_,_,⟨qab,0,zero_le _,rfl,rfl,by simpa using Acc.nil⟩,⟨rfl,rfl,qao zo,rfl,trivial⟩,zhR _⟩ ?_
 rintro k ls H ⟨v,i,hi,rfl,rfl,hacc⟩ j hj;refine gaj ?_;refine oC rfl (λhc=>?_) (λhc=>?_);have hlt:i<l.length:=by have:=zt hc;omega
 refine zQ25 ?_;refine oS (sA λb5=>?_) rfl;refine gac ?_;refine zQ79 ?_;refine zQ2 ?_;refine oS (S.acc1 rfl hacc rfl (by simp;rfl) rfl (by simp;omega) λv' H' hacc'=>?_) rfl;refine zQ30 ?_;refine gaa ?_
 exact⟨_,_,_,by omega,⟨v',i+1,by omega,rfl,rfl,by
  rw[List.take_succ_eq_append_getElem hlt,zMa,zMa]
  exact hacc'⟩,⟨rfl,rfl,rfl,qao zo,trivial⟩,zhD zhr,hj⟩
 have hi':i=l.length:=by have:=zf hc;omega
 subst hi';rw[take_length] at hacc;refine qah.sub (d:=3) (v:=v) rfl hacc.sub ?_;refine cW zhn ?_;refine gac ?_;exact qak hj (rC (rT (v:=.list _) rfl zsr) rN) rfl
end
theorem qtg{l:List Wd}(h:tot l<=1000000):Small l:=⟨by have:=qlU l;omega,λw hw=>by have:=qq2 hw;omega⟩
section
variable{B0:Nat}{w0:World}
theorem optimize_spec(hG:GW B0 w0)(s:List UInt8)(hs:s.length<=1000000):LCalls (KC B0 w0) 11 [str s] [] (Ret (.tuple [str (qcy s).1,int .i64 (qcy s).2])):=by
 refine cJ Tryz.func11 (n:=21) ?_;refine gac ?_;refine oC rfl (λh1=>?_) (λh1=>?_);have hlt:400000<s.length:=by have:=zt h1;omega
 have hO:qcy s=([],6):=by unfold qcy;rw[zp hlt]
 refine gaa ?_;exact qak rfl (rC (zrt rfl) (zra rfl)) (by rw[hO];rfl);have hlt:¬ 400000<s.length:=by have:=zf h1;omega
 have hO:qcy s=(Go.Lib.join (optP (qbc s)) [32],0):=by unfold qcy;rw[zn hlt]
 have ht:=qhc s;have hc:=qir s;refine gaa ?_;refine oS (sF [_] rfl (qqM hG s hs) ?_) rfl;refine gad ?_
 refine oL (λk ls H=>∃ l:List Wd,k=l.length/\ls=[(4,.list (l.map str))]/\H=[]/\tot l<=400001/\(∀ w∈l,qbv w)/\optP (qbc s)=optP l)
  ⟨_,_,_,⟨_,rfl,rfl,rfl,by omega,hc,rfl⟩,⟨rfl,trivial⟩,zhR _⟩ ?_
 rintro k ls H ⟨l,rfl,rfl,rfl,htl,hcl,hE⟩ j hj;have h1:=qqY hG l (qtg zo);have h2:=qs9 l;have hcl2:=qqr hcl;have hjt:=qgg l;have hjt2:=qgg (qec l);have hln:=qlU l;have hln2:=qlU (qec l);have hor:=qlG l;have j1:=joinS_spec (B0:=B0) (w0:=w0) [32] l zo zo;have j2:=joinS_spec (B0:=B0) (w0:=w0) [32] (qec l) zo zo;refine gaa ?_;refine oS (sF [_] rfl h1 ?_) rfl;refine gac ?_;refine oS (sF [_,_] rfl j2 ?_) rfl;refine gab ?_;refine oS (sF [_,_] rfl j1 ?_) rfl;refine gab ?_;refine oC rfl (λh3=>?_) (λh3=>?_);have he:=qtW hcl2 hcl (zt h3);rw[qvI he] at hE;rw[hE] at hO;refine gaa ?_;refine oS (sF [_,_] rfl j1 ?_) rfl;refine gab ?_;exact qak hj (rC (zrt rfl) (zra rfl)) (by rw[hO];rfl);have hne:¬ qec l=l:=λh=>zf h3 (by rw[h]);rw[qsR hne] at hE;refine gac ?_;exact⟨_,_,_,by rcases hor with h|h;exact absurd h hne;exact h,⟨qec l,rfl,rfl,rfl,by omega,hcl2,hE⟩,⟨rfl,trivial⟩,zhR _,hj⟩
end
end Go.Proofs.YtegmklafpoldgaaGreatDoor.Pp
namespace Go.Proofs.YtegmklafpoldgaaGreatDoor.Cmp
open Go.GL Go.RowKit Go.Stele
open Go.Lib (decDigits itoa join)
variable{A F H1:Heap}{ats:Array TypeId}{avs:List LV}{c:CC}{env:CEnv}{f:FuncId}{m:Nat}{op own:Nm}
structure TB where
 tb:Nat
 sm:Nat
 am:Nat
 S:KV
 A:KV
 g1:Nat
 g2:Nat
 sc:Nat
def TrH(k:TB)(own:Nm)(ws:List Wd)(n:Nat)(H:Heap):Prop:=∃ v Hv,GL.Acc 1 v (ws.map str) Hv []/\H=(k.tb,.cells 66 [v,int .i64 (n:Nat),int .i64 (k.sc:Nat),.atom (.map (some k.sm)),.atom (.map (some k.am)),str own])::(k.sm,.map (kvs k.S) k.g1)::(k.am,.map (kvs k.A) k.g2)::Hv
def qh1(P:Heap->Prop):LRes->Heap->Prop:=λr H=>r=.ret (.tuple [])/\P H
def qmY(s:List UInt8)(P:Heap->Prop):LRes->Heap->Prop:=λr H=>r=.ret (str s)/\P H
structure TBok(k:TB)(c:CC)(own:Nm):Prop where
 sc:∀ name,∃ a:Nat,a<=1000000000/\c.sc name=decDigits a/\((∃ v,GL.kvGet k.S (own++[46]++name)=some v/\v=int .i64 (a:Nat))∨(GL.kvGet k.S (own++[46]++name)=none/\(GL.kvGet k.S name).getD (int .i64 0)=int .i64 (a:Nat)))
 ar:∀ name,∃ a:Nat,a<=1000000000/\c.ar name=decDigits a/\(GL.kvGet k.A name).getD (int .i64 0)=int .i64 (a:Nat)
 t0:c.t0=decDigits k.sc
 t1:c.t1=decDigits (k.sc+1)
 t2:c.t2=decDigits (k.sc+2)
 small:k.sc<=1000000000
 own:own.length<=1000000
theorem perm3{x y z:Nat×LObj}:(x::y::z::A).Perm (A++[x,y,z]):=zPc (l₁:=[x,y,z])
theorem qbd{x:Nat×LObj}:(x::A).Perm (A++[x]):=(List.perm_append_singleton _ _).symm
theorem qeq{x y:Nat×LObj}:(x::y::A).Perm (A++[x,y]):=zPc (l₁:=[x,y])
theorem qnQ:A.Perm (A++[]):=by rw[zLz]
theorem qct{x:Nat×LObj}:HSub A (x::A):=zhD zhr
theorem qiC{x y:Nat×LObj}:HSub A (x::y::A):=zhD (zhD zhr)
theorem qsN{x:Nat×LObj}:HSub [x] (x::A):=zhP pH zhn
theorem qiE{x y:Nat×LObj}:HSub [x,y] (x::y::A):=zhP pH zhp
theorem qoF{x:Nat×LObj}:HSub (x::A) (A++[x]):=⟨[],by rw[zLz];exact qbd.symm⟩
theorem qpS{x y:Nat×LObj}:HSub (x::y::A) (A++[x,y]):=⟨[],by rw[zLz];exact qeq.symm⟩
theorem qsy(h:m<4294967296):IntKind.u64.wrap (m:Int)=m:=by
 simp only[IntKind.wrap,IntKind.bits,IntKind.signed,zRs]
 simp
 omega
section
variable{C:Ctx}{e:Env}{H:Heap}{dst:Option Nat}{ty:TypeId}{pos:String}{aft:Array Edge}{g:Option (Nat×Bool)}{K:LV->Heap->Prop}{X:List PanicEntry->Heap->Prop}
theorem zsT{f:FuncId} [TEnter C.P f](args:List Operand){P:Heap->Prop}(has:args.map e.ev=avs)(hp:H.Perm (H1++F))(hc:LCalls C f avs H1 (qh1 P))(hk:∀ H',P H'->K (.tuple []) (F++H')) :
  qae C ⟨dst,.call { callee:=.value (.func f),args:=args.toArray,argTypes:=ats },ty,pos,aft,g⟩ e H K X:=
 qae.conseq (K:=λlv H''=>∃ H',H''=H'++F/\P H'/\lv=.tuple []) (S.callH args has hp hc (by rintro v H' ⟨h,h2⟩;cases h;exact⟨H',rfl,h2,rfl⟩) (by rintro ch H' ⟨h,_⟩;cases h))
  (by rintro lv H'' ⟨H',rfl,hP,rfl⟩;exact⟨_,F++H',vR _,⟨[],by rw[zLz];exact zPc⟩,hk H' hP⟩)
theorem Pure.kvOr{t el:TypeId}{zv:Value}{zl lv:LV} [h:TMap C.P t el zv zl]{x y:Operand}{b clock:Nat}{m:KV}{s:List UInt8}(hm:e.ev x=.atom (.map (some b)))(hx:e.ev y=str s)(hb:(b,.map (kvs m) clock)∈H)(hg:(GL.kvGet m s).getD zl=lv) :
  GL.Pure C ⟨dst,.lookup t x y false,ty,pos,aft,g⟩ e H lv:=by
 obtain⟨kt,h1,h2⟩:=h.und;exact hg▸GL.Pure.kvGet h1 h2 h.zero h.rep hm hx hb
theorem S.callS{f:FuncId} [TEnter C.P f](args:List Operand){P:Heap->Prop}{s:List UInt8}(has:args.map e.ev=avs)(hp:H.Perm (H1++F))(hc:LCalls C f avs H1 (qmY s P))(hk:∀ H',P H'->K (str s) (F++H')) :
  qae C ⟨dst,.call { callee:=.value (.func f),args:=args.toArray,argTypes:=ats },ty,pos,aft,g⟩ e H K X:=
 qae.conseq (K:=λlv H''=>∃ H',H''=H'++F/\P H'/\lv=str s) (S.callH args has hp hc (by rintro v H' ⟨h,h2⟩;cases h;exact⟨H',rfl,h2,rfl⟩) (by rintro ch H' ⟨h,_⟩;cases h))
  (by rintro lv H'' ⟨H',rfl,hP,rfl⟩;exact⟨_,F++H',vR _,⟨[],by rw[zLz];exact zPc⟩,hk H' hP⟩)
theorem S.callTV{fo:Operand} [TEnter C.P f]{first caps:Array Value}(args:List Operand){P:Heap->Prop}(hf:e.ev fo=.atom (.func (.func f) first caps))
  (has:first.toList.map .atom++args.map e.ev++caps.toList.map .atom=avs) (hp:H.Perm (H1++F)) (hc:LCalls C f avs H1 (qh1 P)) (hk:∀ H',P H'->K (.tuple []) (F++H')) :
  qae C ⟨dst,.call { callee:=.value fo,args:=args.toArray,argTypes:=ats },ty,pos,aft,g⟩ e H K X:=
 qae.conseq (K:=λlv H''=>∃ H',H''=H'++F/\P H'/\lv=.tuple []) (S.callV args hf has hp hc (by rintro v H' ⟨h,h2⟩;cases h;exact⟨H',rfl,h2,rfl⟩) (by rintro ch H' ⟨h,_⟩;cases h))
  (by rintro lv H'' ⟨H',rfl,hP,rfl⟩;exact⟨_,F++H',vR _,⟨[],by rw[zLz];exact zPc⟩,hk H' hP⟩)
end
attribute [local irreducible] LOps qah qae LCalls Go.GL.Pure qaw qam qad LQ LAny qay qal LS
section
variable{B0:Nat}{w0:World}{k:TB}{own:Nm}{c:CC}{ws:List Wd}{n:Nat}{H:Heap}
theorem qaC(h:TrH k own ws n H)(W:List Wd){a:LV}(ha:GL.elems a=some (W.map str))(hr:ws.length+W.length<=1000000000):LCalls (KC B0 w0) 52 [ptr k.tb 0,a] H (qh1 (TrH k own (ws++W) n)):=by
 obtain⟨v,Hv,hacc,rfl⟩:=h;have h1:(ws.map str).length=ws.length:=zLm _;have h2:(W.map str).length=W.length:=zLm _;refine cJ Tryz.func52 (n:=13) ?_;refine gaa ?_;refine oP (pL (c:=v) rfl zm0 rfl) rfl<|oP (pM (lv:=a) rfl) rfl<|oS (sG perm3 rfl hacc ha (qdk W) (qe1 W) zo λv' H' hacc'=>?_) rfl;refine gab ?_;refine oS (sS (cs':=[v',int .i64 (n:Nat),int .i64 (k.sc:Nat),.atom (.map (some k.sm)),.atom (.map (some k.am)),str own]) rfl pH (Acc.cell hacc').1 rfl rfl (Acc.cell hacc').2 rfl ?_) rfl;refine gaf ?_;exact rO rfl rN zhr ⟨rfl,v',H',by rw[zMa];exact hacc',rfl⟩
theorem qf7(hG:GW B0 w0)(h:TrH k own ws n H)(hn:n<=1000000000000):LCalls (KC B0 w0) 170 [ptr k.tb 0] H (qmY (labW n) (TrH k own ws (n+1))):=by
 obtain⟨v,Hv,hacc,rfl⟩:=h
 have hd:(Go.Lib.decDigits n).length<=20:=by
  rw[Go.Lib.decDigits_length];exact zNt (qf1 12 n zo) zDd
 refine cJ Tryz.func170 (n:=18) ?_;refine gaa ?_;refine oS (sF [_] rfl (qdp hG n zo) ?_) rfl;refine gac ?_
 first|(refine oS (sS (cs':=[_,_,_,_,_,_]) rfl pH rfl rfl rfl rfl rfl ?_) rfl)|skip
 refine gaa ?_;exact rR rfl (zra rfl) zhr ⟨rfl,v,Hv,hacc,rfl⟩
theorem qbT(hG:GW B0 w0)(hk:TBok k c own)(h:TrH k own ws n H)(name:List UInt8)(hn:name.length<=1000000):LCalls (KC B0 w0) 54 [ptr k.tb 0,str name] H (qmY (c.sc name) (TrH k own ws n)):=by
 obtain⟨a,ha1,ha2,ha3⟩:=hk.sc name;have ho:=hk.own;have h0:=h;obtain⟨v,Hv,hacc,rfl⟩:=h;rw[ha2];refine cJ Tryz.func54 (n:=32) ?_;refine gag ?_;refine zQ33 ?_;rcases ha3 with⟨v3,hv3,rfl⟩|⟨hv3,hv4⟩;refine qP (Pure.kvHit2 rfl rfl zm1 hv3) rfl ?_;refine gac ?_;refine oC rfl (λhc=>?_) (λhc=>?_);refine gah ?_;refine oS (sF [_] rfl (qdp hG a zo) ?_) rfl;refine gab ?_;exact rR rfl (zra rfl) zhr ⟨rfl,h0⟩;cases hc;refine qP (Pure.kvMiss2 rfl rfl zm1 hv3) rfl ?_;refine gac ?_;refine oC rfl (λhc=>?_) (λhc=>?_);cases hc;refine gaa ?_;refine oP (Pure.kvOr rfl rfl zm1 hv4) rfl<|oS (sF [_] rfl (qdp hG a zo) ?_) rfl;refine gaf ?_;exact rR rfl (zra rfl) zhr ⟨rfl,h0⟩
theorem qdj(hG:GW B0 w0)(hk:TBok k c own)(h:TrH k own ws n H)(i:Nat)(hi:i<=2):LCalls (KC B0 w0) 53 [ptr k.tb 0,int .i64 (i:Nat)] H (qmY (decDigits (k.sc+i)) (TrH k own ws n)):=by
 have h0:=h;obtain⟨v,Hv,hacc,rfl⟩:=h;have hs:=hk.small;have e1:int .i64 ((k.sc:Int)+(i:Int))=int .i64 ((k.sc+i:Nat):Int):=qao zo;refine cJ Tryz.func53 (n:=12) ?_;refine gaa ?_;refine oS (sF [_] (by show [_]=_;exact congrArg (λx=>[x]) e1) (qdp hG (k.sc+i) zo) ?_) rfl;refine gaf ?_;exact rR rfl (zra rfl) zhr ⟨rfl,h0⟩
theorem qip(hG:GW B0 w0)(hk:TBok k c own)(h:TrH k own ws n H)(hr:ws.length+(qaX c).length<=1000000000):LCalls (KC B0 w0) 208 [ptr k.tb 0] H (qh1 (TrH k own (ws++qaX c) n)):=by
 have e:qaX c=[c.t2,[33],c.t1,[33],c.t2,[64],c.t1,[64],[60]]:=rfl;rw[e] at hr ⊢;rw[hk.t1,hk.t2];rw[hk.t1,hk.t2] at hr;refine cJ Tryz.func208 (n:=15) ?_;refine gah ?_;refine oS (S.callS (F:=[]) [_,_] rfl qnQ (qdj hG hk h 1 zDd) λH1 h1=>?_) rfl;refine gab ?_;refine oS (S.callS (H1:=H1) (F:=[]) [_,_] rfl qnQ (qdj hG hk h1 2 zDd) λH2 h2=>?_) rfl;refine gag ?_;refine oS (sL [_,_,_,_,_,_,_,_,_] rfl (qa3 [_,_,_,_,_,_,_,_,_]) rfl rfl rfl<|oS (zsT (H1:=H2) (F:=[]) [_,_] rfl qnQ (qaC h2 [_,_,_,_,_,_,_,_,_] rfl hr) λH3 h3=>?_) rfl) rfl;refine gaf ?_;exact rO rfl rN zhr ⟨rfl,h3⟩
end
structure EnvOk(env:CEnv):Prop where
 sc:∀ s,qb9 env s=0->s.length<=24
 fn:∀ k∈env.funcs,k.name.length<=24
theorem EnvOk.call(h:EnvOk env){name:Nm}(hc:callE env name m=0):name.length<=24:=by
 unfold callE at hc;split at hc
 rename_i e;rw[e];decide
 split at hc
 rename_i e;rw[e];decide
 unfold CEnv.fn at hc
 cases hf:env.funcs.find? λf=>decide (f.name=name) with
 |none=>
  rw[hf] at hc;simp only at hc
  split at hc <;> cases hc
 |some k=>
  have e:k.name=name:=zt (List.find?_some (p:=λg:FSum=>decide (g.name=name)) hf);rw[<-e];exact h.fn k (List.mem_of_find?_eq_some hf)
section
variable{C:Ctx}{e:Env}{H:Heap}{dst:Option Nat}{ty:TypeId}{pos:String}{aft:Array Edge}{g:Option (Nat×Bool)}{K:LV->Heap->Prop}{X:List PanicEntry->Heap->Prop}
theorem qae.callT{f:FuncId} [TEnter C.P f](args:List Operand){P:Heap->Prop}(has:args.map e.ev=avs)(hc:LCalls C f avs H (qh1 P))(hk:∀ H',P H'->K (.tuple []) H') :
  qae C ⟨dst,.call { callee:=.value (.func f),args:=args.toArray,argTypes:=ats },ty,pos,aft,g⟩ e H K X:=
 qae.conseq (zsT (F:=[]) (K:=λlv H'=>K lv H') (X:=X) args has (by rw[zLz]) hc (λH' h=>hk H' h)) (λlv H' h=>⟨lv,H',vR _,zhR _,h⟩)
end
section
variable{B0:Nat}{w0:World}
abbrev exB(b:Nat)(op:Nm)(num:Nat)(name:Nm)(args:List Ex):Nat×LObj:=(b,.cells 170 [str op,int .u32 (num:Int),str name,.list (args.map encE)])
def qnK(B0:Nat)(w0:World)(k:TB)(own:Nm)(c:CC)(env:CEnv)(m:Nat):Prop:=∀ (x:Ex) (ws:List Wd) (n:Nat) (H:Heap),ndE x<=m->numE x->errE env x=0->TrH k own ws n H->ws.length+(exW c x).length<=1000000000->LCalls (KC B0 w0) 125 [ptr k.tb 0,encE x] H (qh1 (TrH k own (ws++exW c x) n))
theorem qlA{k:TB}(ih:qnK B0 w0 k own c env m)(l:List Ex)(ws:List Wd)(n:Nat)(H:Heap)(hm:ndEs l<=m)(hl:l.length<=2000000)(hnum:qcB l)(he:qba env l=0)(h:TrH k own ws n H)(hr:ws.length+(exWl c l).flatten.length<=1000000000) :
  LCalls (KC B0 w0) 168 [ptr k.tb 0,.list (l.map encE)] H (qh1 (TrH k own (ws++(exWl c l).flatten) n)):=by
 have hall:(l.map encE).length=l.length:=zLm _;refine cJ Tryz.func168 (n:=16) ?_;refine gaa ?_
 refine oL (λkk ls H'=>∃ (pre l1:List Ex) (ws':List Wd),l=pre++l1/\kk=l1.length/\ls=[(0,ptr k.tb 0),(6,.list (l.map encE)),(7,int .i64 ((l.map encE).length:Int)),(8,int .i64 (pre.length:Int))]/\TrH k own ws' n H'/\ws'++(exWl c l1).flatten=ws++(exWl c l).flatten/\qba env l1=0/\qcB l1)
  ⟨l.length,_,_,⟨[],l,ws,rfl,rfl,rfl,h,rfl,he,hnum⟩,⟨rfl,rfl,rfl,rfl,trivial⟩,zhR _⟩ ?_
 rintro kk ls H' ⟨pre,l1,ws',hLe,rfl,rfl,hT,hW,he1,hn1⟩ j hj
 have hb2:pre.length<=2000000:=by
  have:=congrArg List.length hLe;rw[zLa] at this;omega
 refine gaj ?_;refine oC rfl (λhc=>?_) (λhc=>?_);have hlen:=zt hc;rw[zLm,hLe,zLa] at hlen
 obtain⟨a,l2,rfl⟩:∃ a l2,l1=a::l2:=by
  cases l1 with
  |nil=>simp at hlen
  |cons a l2=>exact⟨a,l2,rfl⟩
 have ham:ndE a<=ndEs l:=qlz (by rw[hLe];exact mem_append_right _ zMs);rw[qba] at he1;rw[qcB] at hn1;rw[exWl,List.flatten_cons,<-zAs] at hW;obtain⟨h1,h2⟩:=qac.1 he1;have hlw:=congrArg List.length hW;rw[zLa,zLa,zLa] at hlw;refine gal ?_;refine oP (xR (el':=encE a) (cs:=[_,_,_,_]) rfl rfl zo (by rw[hLe];exact Chk.get_mid encE pre a l2) rfl rfl) rfl<|gad ?_;refine oS (sA λb8=>?_) rfl;refine gac ?_;refine oS (zsT (H1:=H') (F:=[_]) [_,_] rfl qbd (ih a ws' n H' zo hn1.1 h1 hT zo) λH2 hT2=>?_) rfl;refine gaa ?_;exact⟨l2.length,_,_,lt_succ_self _,⟨pre++[a],l2,ws'++exW c a,by rw[hLe];simp,rfl,rfl,hT2,hW,h2,hn1.2⟩,⟨rfl,rfl,rfl,qao (by simp),trivial⟩,qct,hj⟩;have hlen:=zf hc;rw[zLm,hLe,zLa] at hlen
 obtain rfl:l1=[]:=by
  cases l1 with
  |nil=>rfl
  |cons a l2=>simp at hlen;omega
 rw[exWl,List.flatten_nil,zLz] at hW;refine gab ?_;exact rO hj rN zhr ⟨rfl,by rw[<-hW];exact hT⟩
theorem qne{k:TB}(ih:qnK B0 w0 k own c env m)(b2 b3:Nat)(op:Nm)(num:Nat)(name:Nm)(x y:Ex)(ws:List Wd)(n:Nat)(H:Heap)(hx:ndE x<=m)(hy:ndE y<=m)(nx:numE x)(ny:numE y)(ex:errE env x=0)(ey:errE env y=0)(h:TrH k own ws n H)
  (A B:List Wd) {a b:LV} (ha:GL.elems a=some (A.map str)) (hb:GL.elems b=some (B.map str)) (hr:ws.length+(A++exW c x++B++exW c y).length<=1000000000) :
  LCalls (KC B0 w0) 207 [a,b,ptr b2 0,ptr b3 0] ((b2,.cells 63 [ptr k.tb 0])::exB b3 op num name [x,y]::H)
   (qh1 (λH'=>∃ H2,H'=(b2,.cells 63 [ptr k.tb 0])::exB b3 op num name [x,y]::H2/\TrH k own (ws++(A++exW c x++B++exW c y)) n H2)):=by
 simp only[zLa] at hr;refine cJ Tryz.func207 (n:=24) ?_;refine gaa ?_;refine oP (pM (lv:=a) rfl) rfl<|oS (zsT (H1:=H) (F:=[_,_]) [_,_] rfl qeq (qaC h A ha zo) λH2 h2=>?_) rfl;refine gab ?_;refine zQ44 ?_;refine LAny.take (i:=3) qiE rfl zk zk zk rfl (xR (el':=encE x) (cs:=[_,_,_,_]) rfl rfl zDd rfl rfl rfl)<|aT 4 rfl rfl (pR (cs':=[_,_,_,_]) rfl rfl rfl)<|aL ?_ qiE;refine lO 5 (lS (H1:=H2) (F:=[_,_]) rfl (.inl rfl) rfl qeq zhr (qae.callT [_,_] rfl (ih x _ n H2 hx nx ex h2 (by rw[zLa];omega)) λH3 h3=>?_));refine zQ80 ?_;refine cW qpS ?_;refine gaa ?_;refine oP (pM (lv:=b) rfl) rfl<|oS (zsT (H1:=H3) (F:=[_,_]) [_,_] rfl qeq (qaC h3 B hb (by simp only[zLa];omega)) λH4 h4=>?_) rfl;refine gaf ?_;refine zQ44 ?_;refine LAny.take (i:=3) qiE rfl zk zk zk rfl (xR (el':=encE y) (cs:=[_,_,_,_]) rfl rfl zDd rfl rfl rfl)<|aT 4 rfl rfl (pR (cs':=[_,_,_,_]) rfl rfl rfl)<|aL ?_ qiE;refine lO 5 (lS (H1:=H4) (F:=[_,_]) rfl (.inl rfl) rfl qeq zhr (qae.callT [_,_] rfl (ih y _ n H4 hy ny ey h4 (by simp only[zLa];omega)) λH5 h5=>?_));refine lD zk ?_
 exact rO rfl rN qpS ⟨rfl,H5,rfl,by
  simp only[zAs] at h5 ⊢
  exact h5⟩
end
theorem qiX(c:CC):exWl c []=[]:=by rw[exWl]
theorem qft(c:CC)(x:Ex)(l:List Ex):exWl c (x::l)=exW c x::exWl c l:=by rw[exWl]
theorem qwv{env:CEnv}{name:Nm}{args:List Ex}(h:qbk op = -1∨qbk op=args.length)(ho:qbk op=1):∃ x,args=[x]:=by
 have:args.length=1:=by omega
 exact zRo this
theorem quO{args:List Ex}(h:qbk op = -1∨qbk op=args.length)(ho:qbk op=2):∃ x y,args=[x,y]:=by
 have h2:args.length=2:=by omega
 match args,h2 with
 |[x,y],_=>exact⟨x,y,rfl⟩
def binW(c:CC)(op:Nm):List Wd:=if op=[62] then qaX c else if op=[60,61] then qaX c++[[49],[94]] else if op=[62,61] then [[60],[49],[94]] else if op=[61,61] then [[94],[49],[60]] else [op]
def twoW(c:CC)(op:Nm)(X Y:List Wd):List Wd:=
 if op=[33,61] then [[48]]++X++[]++Y++[[94],[60]]
 else if op=[38,38] then [[48]]++X++[[60],[48]]++Y++[[60],[42]]
 else if op=[124,124] then [[48],[48]]++X++[[60],[48]]++Y++[[60],[43],[60]]
 else []++X++[]++Y++binW c op
theorem qv4(c:CC)(num:Nat)(name:Nm)(x y:Ex)(h1:op≠nNum)(h2:op≠nVar)(h3:op≠qeD)(h4:op≠qch)(h5:op≠nNeg)(h6:op≠nNot):exW c (.mk op num name [x,y])=twoW c op (exW c x) (exW c y):=by
 rw[exW,qft,qft,qiX];unfold opW twoW binW;rw[zn h1,zn h2,zn h3,zn h4,zn h5,zn h6];simp only[List.headD_cons,List.drop_one,List.tail_cons,nil_append,zLz,zAs,cons_append,List.singleton_append]
section
variable{B0:Nat}{w0:World}
theorem qgA(hG:GW B0 w0){k:TB}(hk:TBok k c own)(ih:qnK B0 w0 k own c env m)(op:Nm)(num:Nat)(name:Nm)(x y:Ex)(ws:List Wd)(n:Nat)(H:Heap)(hx:ndE x<=m)(hy:ndE y<=m)(nx:numE x)(ny:numE y)(ex:errE env x=0)(ey:errE env y=0)(h:TrH k own ws n H)
  (hr:ws.length+(twoW c op (exW c x) (exW c y)).length<=1000000000) :
  LCalls (KC B0 w0) 169 [ptr k.tb 0,encE (.mk op num name [x,y])] H (qh1 (TrH k own (ws++twoW c op (exW c x) (exW c y)) n)):=by
 rw[qcH];generalize hW:twoW c op (exW c x) (exW c y)=W at hr ⊢;unfold twoW at hW;refine cJ Tryz.func169 (n:=64) ?_;refine gai ?_;refine oS (sB rfl λb2=>oS (sB rfl λb3=>?_) rfl) rfl;refine LOps.weak (H':=(b2,.cells 63 [ptr k.tb 0])::exB b3 op num name [x,y]::H) ⟨[],by rw[zLz];exact zRr _ _ _⟩ ?_;refine gac ?_;have hBT:=λ(A B:List Wd) {a b:LV} (ha:GL.elems a=some (A.map str)) (hb:GL.elems b=some (B.map str)) hr=>qne (B0:=B0) (w0:=w0) ih b2 b3 op num name x y ws n H hx hy nx ny ex ey h A B ha hb hr
 by_cases h1:op=[33,61]
 rw[zp h1] at hW;refine oC rfl (λ_=>?_) (λhc=>absurd h1 (zf hc));refine gah ?_;refine zQ15 ?_;refine oS (S.callTV (f:=207) (F:=[]) [_,_] rfl rfl qnQ (hBT [[48]] [] rfl rfl (by rw[<-hW] at hr;simp only[zLa] at hr ⊢;omega)) ?_) rfl;rintro H1 ⟨H2,rfl,h2⟩;refine gaa ?_;refine zQ8 ?_;refine oS (zsT (H1:=H2) (F:=[_,_]) [_,_] rfl qeq (qaC h2 [[94],[60]] rfl (by rw[<-hW] at hr;simp only[zLa] at hr ⊢;omega)) λH3 h3=>?_) rfl;refine gab ?_;exact rR rfl rN qiC ⟨rfl,by rw[<-hW];simp only[zAs] at h3 ⊢;exact h3⟩;rw[zn h1] at hW;refine oC rfl (λhc=>absurd (zt hc) h1) (λ_=>?_);refine gaa ?_
 by_cases h2:op=[38,38]
 rw[zp h2] at hW;refine oC rfl (λ_=>?_) (λhc=>absurd h2 (zf hc));refine gah ?_;refine zQ15 ?_;refine zQ8 ?_;refine oS (S.callTV (f:=207) (F:=[]) [_,_] rfl rfl qnQ (hBT [[48]] [[60],[48]] rfl rfl (by rw[<-hW] at hr;simp only[zLa] at hr ⊢;omega)) ?_) rfl;rintro H1 ⟨H2,rfl,h2⟩;refine gaa ?_;refine zQ8 ?_;refine oS (zsT (H1:=H2) (F:=[_,_]) [_,_] rfl qeq (qaC h2 [[60],[42]] rfl (by rw[<-hW] at hr;simp only[zLa] at hr ⊢;omega)) λH3 h3=>?_) rfl;refine gab ?_;exact rR rfl rN qiC ⟨rfl,by rw[<-hW];simp only[zAs] at h3 ⊢;exact h3⟩;rw[zn h2] at hW;refine oC rfl (λhc=>absurd (zt hc) h2) (λ_=>?_);refine gaa ?_
 by_cases h3:op=[124,124]
 rw[zp h3] at hW;refine oC rfl (λ_=>?_) (λhc=>absurd h3 (zf hc));refine gah ?_;refine zQ8 ?_;refine zQ8 ?_;refine oS (S.callTV (f:=207) (F:=[]) [_,_] rfl rfl qnQ (hBT [[48],[48]] [[60],[48]] rfl rfl (by rw[<-hW] at hr;simp only[zLa] at hr ⊢;omega)) ?_) rfl;rintro H1 ⟨H2,rfl,h2⟩;refine zQ71 ?_;refine oS (zsT (H1:=H2) (F:=[_,_]) [_,_] rfl qeq (qaC h2 [[60],[43],[60]] rfl (by rw[<-hW] at hr;simp only[zLa] at hr ⊢;omega)) λH3 h3=>?_) rfl;refine gab ?_;exact rR rfl rN qiC ⟨rfl,by rw[<-hW];simp only[zAs] at h3 ⊢;exact h3⟩;rw[zn h3] at hW;refine oC rfl (λhc=>absurd (zt hc) h3) (λ_=>?_);refine gaa ?_;refine oS (S.callTV (f:=207) (F:=[]) [_,_] rfl rfl qnQ (hBT [] [] rfl rfl (by rw[<-hW] at hr;simp only[zLa] at hr ⊢;omega)) ?_) rfl;rintro H1 ⟨H2,rfl,h2⟩;generalize hX:ws++([]++exW c x++[]++exW c y)=wx at h2;have hW2:wx++binW c op=ws++W:=by rw[<-hW,<-hX];simp only[zAs]
 have hlw:=congrArg List.length hW2;rw[zLa,zLa] at hlw;unfold binW at hW2 hlw;refine gac ?_
 by_cases g1:op=[62]
 rw[zp g1] at hW2 hlw;refine oC rfl (λ_=>?_) (λhc=>absurd g1 (zf hc));refine gaa ?_;refine oS (zsT (H1:=H2) (F:=[_,_]) [_] rfl qeq (qip hG hk h2 zo) λH3 h3=>?_) rfl;refine gab ?_;exact rO rfl rN qiC ⟨rfl,by rw[<-hW2];exact h3⟩;rw[zn g1] at hW2 hlw;refine oC rfl (λhc=>absurd (zt hc) g1) (λ_=>?_);refine gaa ?_
 by_cases g2:op=[60,61]
 rw[zp g2] at hW2 hlw;rw[zLa] at hlw;refine oC rfl (λ_=>?_) (λhc=>absurd g2 (zf hc));refine gaa ?_;refine oS (zsT (H1:=H2) (F:=[_,_]) [_] rfl qeq (qip hG hk h2 zo) λH3 h3=>?_) rfl;refine gaa ?_;refine zQ8 ?_;refine oS (zsT (H1:=H3) (F:=[_,_]) [_,_] rfl qeq (qaC h3 [[49],[94]] rfl (by rw[zLa];omega)) λH4 h4=>?_) rfl;refine gab ?_;exact rO rfl rN qiC ⟨rfl,by rw[<-hW2,<-zAs];exact h4⟩;rw[zn g2] at hW2 hlw;refine oC rfl (λhc=>absurd (zt hc) g2) (λ_=>?_);refine gaa ?_
 by_cases g3:op=[62,61]
 rw[zp g3] at hW2 hlw;refine oC rfl (λ_=>?_) (λhc=>absurd g3 (zf hc));refine zQ71 ?_;refine oS (zsT (H1:=H2) (F:=[_,_]) [_,_] rfl qeq (qaC h2 [[60],[49],[94]] rfl zo) λH3 h3=>?_) rfl;refine gab ?_;exact rO rfl rN qiC ⟨rfl,by rw[<-hW2];exact h3⟩;rw[zn g3] at hW2 hlw;refine oC rfl (λhc=>absurd (zt hc) g3) (λ_=>?_);refine gaa ?_
 by_cases g4:op=[61,61]
 rw[zp g4] at hW2 hlw;refine oC rfl (λ_=>?_) (λhc=>absurd g4 (zf hc));refine zQ71 ?_;refine oS (zsT (H1:=H2) (F:=[_,_]) [_,_] rfl qeq (qaC h2 [[94],[49],[60]] rfl zo) λH3 h3=>?_) rfl;refine gab ?_;exact rO rfl rN qiC ⟨rfl,by rw[<-hW2];exact h3⟩;rw[zn g4] at hW2 hlw;refine oC rfl (λhc=>absurd (zt hc) g4) (λ_=>?_);refine gac ?_;refine zQ15 ?_;refine oS (zsT (H1:=H2) (F:=[_,_]) [_,_] rfl qeq (qaC h2 [op] rfl zo) λH3 h3=>?_) rfl;refine gab ?_;exact rO rfl rN qiC ⟨rfl,by rw[<-hW2];exact h3⟩
theorem qd8(hG:GW B0 w0){k:TB}{own:Nm}{c:CC}(hk:TBok k c own){env:CEnv}(hE:EnvOk env):∀ m:Nat,m<=2000000->qnK B0 w0 k own c env m
 |0,_=>λx ws n H h=>by have:=qlJ x;omega
 |m+1,hm6=>by
  have ih:=qd8 hG hk hE m zo;intro x ws n H hnd hnum herr h hr;obtain⟨op,num,name,args⟩:=x;rw[ndE] at hnd;rw[numE] at hnum;obtain⟨hnum,hna⟩:=hnum;have hal:=qdF args;have hall:(args.map encE).length=args.length:=zLm _;rw[errE] at herr
  by_cases hop:qbk op = -1∨qbk op=args.length
  rotate_left;rw[zn hop] at herr;cases herr;rw[zp hop] at herr;obtain⟨he1,he2⟩:=qac.1 herr;have hW:exW c (Ex.mk op num name args)=opW c op num name (exWl c args):=by rw[exW]
  have hone:qbk op=1->∃ x,args=[x]:=λh1=>qwv (env:=env) (name:=name) hop h1;rw[qcH];refine cJ Tryz.func125 (n:=98) ?_;refine gai ?_;refine oS (sB rfl λb3=>?_) rfl;refine gaa ?_
  by_cases h1:op=[110,117,109]
  have hW1:exW c (Ex.mk op num name args)=[decDigits num]:=by rw[hW];subst h1;rfl
  rw[hW1] at hr ⊢;refine oC rfl (λ_=>?_) (λhc=>absurd h1 (zf hc));refine gac ?_;refine oS (sF [_,_] (by show [int .u64 (IntKind.u64.wrap (num:Int)),_]=[int .u64 (num:Nat),int .i64 10];rw[qsy hnum];rfl) (fmtUint_spec hG num (by have:num<4294967296:=hnum;omega)) ?_) rfl;refine zQ15 ?_;refine oS (zsT (H1:=H) (F:=[_]) [_,_] rfl qbd (qaC h [decDigits num] rfl hr) λH2 h2=>?_) rfl;refine gab ?_;exact rO rfl rN qct ⟨rfl,h2⟩;refine oC rfl (λhc=>absurd (zt hc) h1) (λ_=>?_);refine gaa ?_
  by_cases h2:op=[118,97,114]
  have hW1:exW c (Ex.mk op num name args)=[c.sc name,[64]]:=by rw[hW];subst h2;rfl
  have hsc:qb9 env name=0:=by rw[<-he2];subst h2;rfl
  have hnl:=hE.sc name hsc;rw[hW1] at hr ⊢;refine oC rfl (λ_=>?_) (λhc=>absurd h2 (zf hc));refine gaa ?_;refine oS (S.callS (H1:=H) (F:=[_]) [_,_] rfl qbd (qbT hG hk h name zo) λH2 h2=>?_) rfl;refine zQ8 ?_;refine oS (zsT (H1:=H2) (F:=[_]) [_,_] rfl qbd (qaC h2 [c.sc name,[64]] rfl hr) λH3 h3=>?_) rfl;refine gab ?_;exact rO rfl rN qct ⟨rfl,h3⟩;refine oC rfl (λhc=>absurd (zt hc) h2) (λ_=>?_);refine gaa ?_
  by_cases h3:op=[101,108,101,109]
  obtain⟨x,rfl⟩:=hone (by subst h3;rfl);have hW1:exW c (Ex.mk op num name [x])=[c.ar name]++(exW c x++[[43],[64]]):=by rw[hW,qft,qiX];subst h3;rfl
  rw[hW1] at hr ⊢;simp only[zLa,zLc,zLn] at hr;rw[qba] at he1;rw[qcB] at hna;rw[ndEs] at hnd;have hex:=(qac.1 he1).1;obtain⟨a,ha1,ha2,ha3⟩:=hk.ar name;refine oC rfl (λ_=>?_) (λhc=>absurd h3 (zf hc));refine gab ?_;have h0:=h;obtain⟨v,Hv,hacc,rfl⟩:=h;refine cD (m:=11) rfl [exB b3 op num name [x]]<|zQ53 ?_;refine aL ?_ zhp;refine lO 4 (lH rfl rfl (pL (c:=.atom _) rfl zm1 rfl) ?_);refine lO 7 (lH rfl rfl (Pure.kvOr rfl rfl zm3 ha3) ?_);refine lO 8 (lS (H1:=[]) rfl (.inl rfl) rfl zpr zhp (sF [_] rfl (qdp hG a zo) ?_));rw[<-ha2];refine lO 9 (lS (H1:=[]) rfl (.inl rfl) rfl zpr zhp (sL [_] rfl (qa3 [_]) rfl rfl rfl ?_));refine lO 10 (lS (F:=[exB b3 op num name [x]]) rfl (.inl rfl) rfl qbd zhr (qae.callT [_,_] rfl (qaC h0 [c.ar name] rfl (by simp only[zLc,zLn];omega)) λH2 h2=>?_));refine zQ80 ?_;refine cW qoF ?_;refine zQ14 ?_;refine oS (zsT (H1:=H2) (F:=[_]) [_,_] rfl qbd (ih x _ n H2 zo hna.1 hex h2 (by simp only[zLa,zLc,zLn];omega)) λH3 h3=>?_) rfl;refine gag ?_;refine zQ8 ?_;refine oS (zsT (H1:=H3) (F:=[_]) [_,_] rfl qbd (qaC h3 [[43],[64]] rfl (by simp only[zLa,zLc,zLn];omega)) λH4 h4=>?_) rfl;refine gab ?_;exact rO rfl rN qct ⟨rfl,by rw[zAs,zAs] at h4;exact h4⟩;refine oC rfl (λhc=>absurd (zt hc) h3) (λ_=>?_);refine gaa ?_
  by_cases h4:op=[99,97,108,108]
  have hcl:callE env name args.length=0:=by rw[<-he2];subst h4;rfl
  have hnl:=hE.call hcl;have hW1:exW c (Ex.mk op num name args)=(exWl c args).flatten++(if name=[105,110] then [[44]] else if name=[111,117,116] then [[46],[48]] else [[38,102,95]++name,[58]]):=by rw[hW];subst h4;rfl
  rw[hW1] at hr ⊢;rw[zLa] at hr;refine oC rfl (λ_=>?_) (λhc=>absurd h4 (zf hc));refine gac ?_;refine oS (zsT (H1:=H) (F:=[_]) [_,_] rfl qbd (qlA ih args ws n H zo zo hna he1 h zo) λH2 h2=>?_) rfl;rw[<-zAs];generalize hX:ws++(exWl c args).flatten=wx at h2 ⊢;have hlx:=congrArg List.length hX;rw[zLa] at hlx;refine gaa ?_
  by_cases g1:name=[105,110]
  rw[zp g1] at hr ⊢;refine oC rfl (λ_=>?_) (λhc=>absurd g1 (zf hc));refine gah ?_;refine zQ15 ?_;refine oS (zsT (H1:=H2) (F:=[_]) [_,_] rfl qbd (qaC h2 [[44]] rfl zo) λH3 h3=>?_) rfl;refine gab ?_;exact rO rfl rN qct ⟨rfl,h3⟩;rw[zn g1] at hr ⊢;refine oC rfl (λhc=>absurd (zt hc) g1) (λ_=>?_);refine gaa ?_
  by_cases g2:name=[111,117,116]
  rw[zp g2] at hr ⊢;refine oC rfl (λ_=>?_) (λhc=>absurd g2 (zf hc));refine gah ?_;refine zQ8 ?_;refine oS (zsT (H1:=H2) (F:=[_]) [_,_] rfl qbd (qaC h2 [[46],[48]] rfl zo) λH3 h3=>?_) rfl;refine gab ?_;exact rO rfl rN qct ⟨rfl,h3⟩;rw[zn g2] at hr ⊢;refine oC rfl (λhc=>absurd (zt hc) g2) (λ_=>?_);refine gac ?_;refine zQ8 ?_;refine oS (zsT (H1:=H2) (F:=[_]) [_,_] rfl qbd (qaC h2 [[38,102,95]++name,[58]] rfl zo) λH3 h3=>?_) rfl;refine gab ?_;exact rO rfl rN qct ⟨rfl,h3⟩;refine oC rfl (λhc=>absurd (zt hc) h4) (λ_=>?_);refine gaa ?_
  by_cases h5:op=[110,101,103]
  obtain⟨x,rfl⟩:=hone (by subst h5;rfl);have hW1:exW c (Ex.mk op num name [x])=[[48]]++(exW c x++[[45]]):=by rw[hW,qft,qiX];subst h5;rfl
  rw[hW1] at hr ⊢;simp only[zLa,zLc,zLn] at hr;rw[qba] at he1;rw[qcB] at hna;rw[ndEs] at hnd;have hex:=(qac.1 he1).1;refine oC rfl (λ_=>?_) (λhc=>absurd h5 (zf hc));refine gah ?_;refine zQ15 ?_;refine oS (zsT (H1:=H) (F:=[_]) [_,_] rfl qbd (qaC h [[48]] rfl (by simp only[zLc,zLn];omega)) λH2 h2=>?_) rfl;refine zQ14 ?_;refine oS (zsT (H1:=H2) (F:=[_]) [_,_] rfl qbd (ih x _ n H2 zo hna.1 hex h2 (by simp only[zLa,zLc,zLn];omega)) λH3 h3=>?_) rfl;refine gag ?_;refine zQ15 ?_;refine oS (zsT (H1:=H3) (F:=[_]) [_,_] rfl qbd (qaC h3 [[45]] rfl (by simp only[zLa,zLc,zLn];omega)) λH4 h4=>?_) rfl;refine gab ?_;exact rO rfl rN qct ⟨rfl,by rw[zAs,zAs] at h4;exact h4⟩;refine oC rfl (λhc=>absurd (zt hc) h5) (λ_=>?_);refine gaa ?_
  by_cases h6:op=[110,111,116]
  obtain⟨x,rfl⟩:=hone (by subst h6;rfl);have hW1:exW c (Ex.mk op num name [x])=exW c x++[[49],[60]]:=by rw[hW,qft,qiX];subst h6;rfl
  rw[hW1] at hr ⊢;simp only[zLa,zLc,zLn] at hr;rw[qba] at he1;rw[qcB] at hna;rw[ndEs] at hnd;have hex:=(qac.1 he1).1;refine oC rfl (λ_=>?_) (λhc=>absurd h6 (zf hc));refine zQ14 ?_;refine oS (zsT (H1:=H) (F:=[_]) [_,_] rfl qbd (ih x _ n H zo hna.1 hex h zo) λH3 h3=>?_) rfl;refine gag ?_;refine zQ8 ?_;refine oS (zsT (H1:=H3) (F:=[_]) [_,_] rfl qbd (qaC h3 [[49],[60]] rfl (by simp only[zLa,zLc,zLn];omega)) λH4 h4=>?_) rfl;refine gab ?_;exact rO rfl rN qct ⟨rfl,by rw[zAs] at h4;exact h4⟩;refine oC rfl (λhc=>absurd (zt hc) h6) (λ_=>?_)
  have htwo:qbk op=2:=by
   unfold qbk at hop ⊢;rw[zn (λh=>h.elim h1 h2),zn (λh=>h.elim h3 (λh=>h.elim h5 h6)),zn (show ¬ op=qch from h4)] at hop ⊢;split;rfl
   rename_i hb
   rw[zn hb] at hop;omega
  obtain⟨x,y,rfl⟩:=quO hop htwo;have hW2:=qv4 c num name x y h1 h2 h3 h4 h5 h6;rw[hW2] at hr ⊢;simp only[qba] at he1;simp only[qcB] at hna;simp only[ndEs] at hnd;have hex:=qac.1 he1;refine gac ?_;refine oS (zsT (H1:=H) (F:=[_]) [_,_] rfl qbd (qgA hG hk ih op num name x y ws n H zo zo hna.1 hna.2.1 hex.1 (qac.1 hex.2).1 h hr) λH3 h3=>?_) rfl;refine gab ?_;exact rO rfl rN qct ⟨rfl,h3⟩
end
end Go.Proofs.YtegmklafpoldgaaGreatDoor.Cmp
