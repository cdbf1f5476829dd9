/- Texts joined: Fmt6, RtLaw, LawT0, GlEqS, GlEqI, GlFieldI, TopP, TopC, LawTS. -/
import Derived.Laws.StructEq
import Derived.ChangeKeysEq
import Derived.Test.YtdakelgkjdaijaaGreatDoorBRowTS5
import Derived.Test.YtdakelgkjdaijaaGreatDoorBRowTS6
import Derived.Test.YtdakelgkjdaijaaGreatDoorBRowTS7
import Derived.Test.YtdakelgkjdaijaaGreatDoorBRowTS10
import Derived.Test.YtdakelgkjdaijaaGreatDoorBRowTS11
import Derived.Test.YtdakelgkjdaijaaGreatDoorBRowTS12
import Derived.Test.YtdakelgkjdaijaaGreatDoorBRowTS13
import Derived.Test.YtdakelgkjdaijaaGreatDoorBRowTS14
set_option linter.unusedVariables false
set_option linter.unusedSimpArgs false
set_option maxRecDepth 100000
set_option maxHeartbeats 4000000
namespace Go.Proofs.YtdakelgkjdaijaaGreatDoor
open Go.GL Go.RowKit Go.Stele
/-! ### A printed program is small -/
theorem qvp {l:List Ex} (h:∀ x∈l,okE x):okEs l:=by
 induction l with
 |nil=>trivial
 |cons a l ih=>exact ⟨h a zMs,ih fun x hx=>h x (zMo _ hx)⟩
theorem qkW:∀ (n:Nat) (e:Ex),nEx e<=n->∀ (k:Nat) (ts:List KT) (d:Nat),PE e k ts d->ts.length<=100000->okE e
 |0,.mk _ _ _ _,hn=>by rw[nEx] at hn;omega
 |n+1,e,hn=>by
  intro k ts d h hz
  cases h with
  |num h=>exact ⟨h,by simp,trivial⟩
  |var h=>exact ⟨by decide,by simp,trivial⟩
  |elem h ha=>
   simp only[nEx,nExs] at hn;simp only[zLc,zLa,zLn] at hz
   exact ⟨by decide,by simp,qkW n _ zo _ _ _ ha zo,trivial⟩
  |call h ha=>
   rename_i s l t1 d1
   simp only[nEx] at hn;simp only[zLc,zLa,zLn] at hz;refine ⟨by decide,by have:=qq1 l t1 d1 ha;omega,qvp fun x hx=>?_⟩;obtain ⟨t,d',h1,h2⟩:=qqN l t1 d1 ha x hx
   exact qkW n x (by have:=qfL hx;omega) _ _ _ h1 zo
  |neg ha=>
   simp only[nEx,nExs] at hn;simp only[zLc] at hz
   exact ⟨by decide,by simp,qkW n _ zo _ _ _ ha zo,trivial⟩
  |not ha=>
   simp only[nEx,nExs] at hn;simp only[zLc] at hz
   exact ⟨by decide,by simp,qkW n _ zo _ _ _ ha zo,trivial⟩
  |par hs ho hk2 ha hb=>
   simp only[nEx,nExs] at hn;simp only[zLc,zLa,zLn] at hz
   exact ⟨by decide,by simp,qkW n _ zo _ _ _ ha zo,qkW n _ zo _ _ _ hb zo,trivial⟩
  |bin hs ho hk2 ha hb=>
   simp only[nEx,nExs] at hn;simp only[zLc,zLa,zLn] at hz;exact ⟨by decide,by simp,qkW n _ zo _ _ _ ha zo,qkW n _ zo _ _ _ hb zo,trivial⟩
theorem peOk {e:Ex} {k:Nat} {ts:List KT} {d:Nat} (h:PE e k ts d) (hz:ts.length<=100000):okE e:=qkW _ e (zNr _) k ts d h hz
theorem qwM:∀ (n:Nat),(∀ (s:Sm),nSm s<=n->∀ (ts:List KT) (d:Nat),PS s ts d->ts.length<=100000->okS s) /\
  (∀ (l:List Sm),nSms l<=n->∀ (ts:List KT) (d:Nat),PSs l ts d->ts.length<=100000->okSs l)
 |0=>by
  refine ⟨fun s hn=>?_,fun l hn ts d hp hz=>?_⟩
  ·obtain ⟨k,a,b,c,d,e⟩:=s;rw[nSm] at hn;omega
  ·cases hp with
   |nil=>trivial
   |cons h1 h2=>
    rename_i s _ _ _ _ _
    obtain ⟨k,a,b,c,d,e⟩:=s;rw[nSms,nSm] at hn
    omega
 |n+1=>by
  obtain ⟨hS,hL⟩:=qwM n
  have hS':∀ (s:Sm),nSm s<=n+1->∀ (ts:List KT) (d:Nat),PS s ts d->ts.length<=100000->okS s:=by
   intro s hn ts d hp hz
   cases hp with
   |assign hs he=>
    simp only[zLc,zLa,zLn] at hz
    exact ⟨trivial,⟨peOk he zo,trivial⟩,trivial,trivial⟩
   |store hs hx he=>
    simp only[zLc,zLa,zLn] at hz
    exact ⟨⟨peOk hx zo,trivial⟩,⟨peOk he zo,trivial⟩,trivial,trivial⟩
   |call hs hl=>
    rename_i s l t1 d1
    simp only[zLc,zLa,zLn] at hz;have:PE (.mk qbG 0 s l) 0 ((2,s)::sg 40::(t1++[sg 41])) (d1+1):=.call hs hl
    exact ⟨trivial,⟨peOk this (by simp only[zLc,zLa,zLn];omega),trivial⟩,trivial,trivial⟩
   |ret he=>
    simp only[zLc,zLa,zLn] at hz
    exact ⟨trivial,⟨peOk he zo,trivial⟩,trivial,trivial⟩
   |halt=>exact ⟨trivial,trivial,trivial,trivial⟩
   |ifElse he g1 g2 hne=>
    simp only[nSm] at hn;simp only[zLc,zLa,zLn] at hz
    exact ⟨trivial,⟨peOk he zo,trivial⟩,hL _ zo _ _ g1 zo,hL _ zo _ _ g2 zo⟩
   |ifThen he g1=>
    simp only[nSm] at hn;simp only[zLc,zLa,zLn] at hz
    exact ⟨trivial,⟨peOk he zo,trivial⟩,hL _ zo _ _ g1 zo,trivial⟩
   |«while» he g1=>
    simp only[nSm] at hn;simp only[zLc,zLa,zLn] at hz;exact ⟨trivial,⟨peOk he zo,trivial⟩,hL _ zo _ _ g1 zo,trivial⟩
  refine ⟨hS',fun l hn ts d hp hz=>?_⟩
  cases hp with
  |nil=>trivial
  |cons h1 h2=>
   rename_i s l t1 t2 d1 d2
   have hpos:0<nSm s:=by obtain ⟨k,a,b,c,d,e⟩:=s;rw[nSm];omega
   rw[nSms] at hn;simp only[zLa] at hz;exact ⟨hS' s zo _ _ h1 zo,hL l zo _ _ h2 zo⟩
theorem pssOk {l:List Sm} {ts:List KT} {d:Nat} (h:PSs l ts d) (hz:ts.length<=100000):okSs l:=(qwM _).2 l (zNr _) ts d h hz
attribute [local irreducible] LOps qae qad LCalls Go.GL.Pure qax qaj qac LQ LAny qaE qal
section
variable {B0:Nat} {w0:World}
structure FmtOk (p:Pr):Prop where
 vars:p.vars.length<=1000000000
 arrays:p.arrays.length<=1000000000
 size:∀ a∈p.arrays,a.size<4294967296
 funcs:p.funcs.length<=1000000000
 params:∀ f∈p.funcs,f.params.length<=1000000000/\f.locals.length<=1000000000/\nSms f.body<=1000000000/\okSs f.body
 len:(qbx p).length<=100000000
theorem qjJ {A:Type} (f:A->List UInt8) {l:List A} {i:Nat} (h:i<l.length):((l.take (i+1)).map f).flatten=((l.take i).map f).flatten++f l[i]:=by
 rw[List.take_succ_eq_append_getElem h,zMa,List.flatten_append]
 simp
theorem qn4 {A:Type} (f:A->List UInt8) {l:List A} {i:Nat} (h:i<l.length):((l.take i).map f).flatten.length+(f l[i]).length<=((l.map f).flatten).length:=by
 have h1:=qjJ f h;have h2:(l.map f).flatten=((l.take (i+1)).map f).flatten++((l.drop (i+1)).map f).flatten:=by rw[<-List.flatten_append,<-zMa,List.take_append_drop]
 rw[h2,h1];simp only[zLa];omega
theorem qs1 (a b:Nat×LObj) (H:Heap):HSub (b::H) (H++[a,b]):=⟨[a],(zPc (l₁:=H) (l₂:=[a,b])).trans (List.Perm.trans (List.Perm.swap b a H) (List.Perm.cons b (List.perm_append_singleton a H).symm))⟩
theorem qtp (a:Nat×LObj) (H:Heap):HSub (a::H) (H++[a]):=⟨[],by rw[zLz];exact List.perm_append_singleton a H⟩
theorem qnL (hG:GW B0 w0) (p:Pr) (hp:FmtOk p):LCalls (KC B0 w0) 8 [qeL p] [] (Ret (str (qbx p))):=by
 obtain ⟨vars,arrays,funcs⟩:=p;obtain ⟨p1,p2,p3,p4,p5,p6⟩:=hp;simp only at p1 p2 p3 p4 p5;have hlv:(vars.map str).length=vars.length:=zLm _;have hla:(arrays.map qd8).length=arrays.length:=zLm _;have hlf:(funcs.map qaQ).length=funcs.length:=zLm _;unfold qbx at p6 ⊢;simp only[zLa] at p6;simp only;obtain ⟨V,hV⟩:∃ V,V=(if vars=[] then [] else qia vars):=⟨_,rfl⟩;rw[<-hV] at p6 ⊢;rw[qeL];simp only;refine cI Tryz.func8 rfl (n:=69) rfl rfl rfl ?_;refine gah ?_;refine oS (sB (cs:=[.list (vars.map str),.list (arrays.map qd8),.list (funcs.map qaQ)]) rfl fun b1=>?_) rfl;refine gai ?_;refine oS (sA fun b3=>?_) rfl;refine gac ?_;refine cW (zhP zp1 zhr) ?_;have hB0:BH b3 [] [(b3,.cells 70 [.atom (.pointer none),.atom (.slice none 0 0)])]:=⟨_,_,[],.inl rfl,BRow.nil,rfl⟩;refine cM (A:=Heap) (fun _=>[(1,ptr b1 0),(3,ptr b3 0)]) (fun H=>(b1,.cells 28 [.list (vars.map str),.list (arrays.map qd8),.list (funcs.map qaQ)])::H) (fun H=>BH b3 V H) ?_ (fun H hB j hj=>?_)
 ·refine oC rfl (fun h1=>?_) (fun h1=>?_)
  ·have hne:vars≠[]:=by
    rintro rfl;exact absurd h1 zDd
   rw[if_neg hne] at hV
   have hVl:V.length=4+(Go.Lib.join vars qcI).length+2:=by
    rw[hV];simp only[qia,zLa,zLc,zLn]
   refine gaa ?_;refine oS (sF [_,_] rfl (joinS_spec qcI vars zo zo) ?_) rfl;refine gad ?_;refine oS (S.callBH [_,_] rfl (qaD b3 [] (qia vars) _ hB0 (by rw[<-hV];simp only[zLn];omega)) fun v H2 hB2=>?_) rfl;refine gaf ?_;exact ⟨H2,by rw[hV];exact hB2,⟨rfl,rfl,trivial⟩,zhR _,rfl⟩
  ·have hne:vars=[]:=by
    have:=zf h1;rw[hlv] at this;exact List.eq_nil_of_length_eq_zero zo
   rw[if_pos hne] at hV;refine gaq ?_;exact ⟨_,by rw[hV];exact hB0,⟨rfl,rfl,trivial⟩,zhR _,rfl⟩
 refine gaa ?_
 refine oL (fun k ls H=>∃ i,i<=arrays.length/\k=arrays.length-i/\ls=[(1,ptr b1 0),(3,ptr b3 0),(19,.list (arrays.map qd8)),(20,int .i64 arrays.length),(21,int .i64 i)]/\∃ H',H=(b1,.cells 28 [.list (vars.map str),.list (arrays.map qd8),.list (funcs.map qaQ)])::H'/\BH b3 (V++((arrays.take i).map fAr).flatten) H')
  ⟨_,_,_,⟨0,Nat.zero_le _,rfl,rfl,_,rfl,by simpa using hB⟩,⟨rfl,rfl,rfl,qak zo,rfl,trivial⟩,zhR _⟩ ?_
 clear hB hB0;rintro k ls H ⟨i,hi,rfl,rfl,H',rfl,hB⟩ j1 hj1;refine gaj ?_;refine oC rfl (fun hc=>?_) (fun hc=>?_)
 ·have hlt:i<arrays.length:=by have:=zt hc;omega
  have hm:=qn4 fAr hlt;have hsz:=p3 arrays[i] (List.getElem_mem hlt);have hta:=qjJ fAr hlt;refine gam ?_;refine oP (xR (el':=qd8 arrays[i]) (cs:=[_,_]) rfl rfl zo (qbd _ _ _ hlt) rfl rfl) rfl ?_;refine gad ?_;refine oS (sA fun b5=>?_) rfl;refine gad ?_;generalize arrays[i]=a at hm hsz hta ⊢;obtain ⟨nm,sz⟩:=a;simp only at hsz;have hdl:=qel hsz;rw[show fAr ⟨nm,sz⟩=[97,114,114,97,121,32]++nm++[91]++Go.Lib.decDigits sz++[93,59,10] from rfl] at hm hta;simp only[zLa,zLc,zLn] at hm;refine cD (m:=10) rfl [(b5,.cells 76 [str nm,int .i64 sz])] ?_;refine zQ28 ?_;refine aT 5 rfl rfl (pL (c:=.atom _) rfl zm0 rfl) ?_;refine aL ?_ zhp;refine lO 6 (lS (H1:=[]) rfl (.inl rfl) rfl zpr zhp (sF [_] rfl (qcP hG sz zo) ?_));refine lO 7 (lH rfl rfl (Pure.sadd rfl rfl (by simp only[zLa,zLc,zLn];omega)) ?_);refine lO 8 (lH rfl rfl (Pure.sadd rfl rfl (by simp only[zLa,zLc,zLn];omega)) ?_);refine lO 9 (lS (H1:=H') (F:=[(b5,.cells 76 [str nm,int .i64 sz]),(b1,.cells 28 [.list (vars.map str),.list (arrays.map qd8),.list (funcs.map qaQ)])]) rfl (.inl rfl) rfl (zPc (l₁:=[_,_])) zhp (qad.call (args:=[_,_]) (qaD b3 _ ([97,114,114,97,121,32]++nm++[91]++Go.Lib.decDigits sz++[93,59,10]) H' hB (by simp only[zLa,zLc,zLn];omega)) (fun v3 H3 h3=>?_) (fun ch H3 h3=>?_)));rotate_left
  ·obtain ⟨⟨x,hx⟩,_⟩:=h3;cases hx
  obtain ⟨_,hB3⟩:=h3;refine lD zk ?_;refine gan ?_;exact ⟨_,_,_,by omega,⟨i+1,by omega,rfl,rfl,H3,rfl,by rw[hta];simpa only[zAs] using hB3⟩,⟨rfl,rfl,rfl,rfl,qak zo,trivial⟩,qs1 _ _ _,hj1⟩
 have hi':i=arrays.length:=by have:=zf hc;omega
 subst hi';rw[List.take_length] at hB;clear hi hc;generalize hA:(arrays.map fAr).flatten=A at hB p6 ⊢;refine gaa ?_
 refine oL (fun k ls H=>∃ i,i<=funcs.length/\k=funcs.length-i/\ls=[(3,ptr b3 0),(37,.list (funcs.map qaQ)),(38,int .i64 funcs.length),(39,int .i64 i)]/\BH b3 (V++A++((funcs.take i).map fFn).flatten) H)
  ⟨_,_,_,⟨0,Nat.zero_le _,rfl,rfl,by simpa using hB⟩,⟨rfl,rfl,qak zo,rfl,trivial⟩,zhD zhr⟩ ?_
 clear hB;rintro k ls H ⟨i,hi,rfl,rfl,hB⟩ j2 hj2;refine gaj ?_;refine oC rfl (fun hc=>?_) (fun hc=>?_)
 ·have hlt:i<funcs.length:=by have:=zt hc;omega
  have hm:=qn4 fFn hlt;have hpf:=p5 funcs[i] (List.getElem_mem hlt);have hta:=qjJ fFn hlt;refine gam ?_;refine oP (xR (el':=qaQ funcs[i]) (cs:=[_,_,_,_]) rfl rfl zo (qbd _ _ _ hlt) rfl rfl) rfl ?_;refine gad ?_;refine oS (sA fun b7=>?_) rfl;refine gad ?_;generalize funcs[i]=a at hm hpf hta ⊢;obtain ⟨nm,ps,lo,bd⟩:=a;obtain ⟨q1,q2,q3,q4⟩:=hpf;simp only at q1 q2 q3 q4;have hll:(lo.map str).length=lo.length:=zLm _;rw[show fFn ⟨nm,ps,lo,bd⟩=[102,117,110,99,32]++nm++[40]++Go.Lib.join ps qcI++[41,32,123,10]++(if lo=[] then [] else [32,32]++qia lo)++fSs [32,32] bd++[125,10] from rfl] at hm hta;simp only[zLa,zLc,zLn] at hm;refine cD (m:=10) rfl [(b7,.cells 79 [str nm,.list (ps.map str),.list (lo.map str),.list (bd.map encS)])] ?_;refine zQ28 ?_;refine aT 5 rfl rfl (pL (c:=.list _) rfl zm0 rfl) ?_;refine aL ?_ zhp;refine lO 6 (lS (H1:=[]) rfl (.inl rfl) rfl zpr zhp (sF [_,_] rfl (joinS_spec qcI ps q1 zo) ?_));refine lO 7 (lH rfl rfl (Pure.sadd rfl rfl (by simp only[zLa,zLc,zLn];omega)) ?_);refine lO 8 (lH rfl rfl (Pure.sadd rfl rfl (by simp only[zLa,zLc,zLn];omega)) ?_);refine lO 9 (lS (H1:=H) (F:=[(b7,.cells 79 [str nm,.list (ps.map str),.list (lo.map str),.list (bd.map encS)])]) rfl (.inl rfl) rfl (List.perm_append_singleton _ _).symm zhr (qad.call (args:=[_,_]) (qaD b3 _ ([102,117,110,99,32]++nm++[40]++Go.Lib.join ps qcI++[41,32,123,10]) H hB (by simp only[zLa,zLc,zLn];omega)) (fun v3 H3 h3=>?_) (fun ch H3 h3=>?_)));rotate_left
  ·obtain ⟨⟨x,hx⟩,_⟩:=h3;cases hx
  obtain ⟨_,hB3⟩:=h3;refine lD zk ?_;refine gaq ?_;refine cW (H':=(b7,.cells 79 [str nm,.list (ps.map str),.list (lo.map str),.list (bd.map encS)])::H3) (qtp _ _) ?_;refine gac ?_;refine oC rfl (fun h1=>?_) (fun h1=>?_)
  ·have hne:lo≠[]:=by
    rintro rfl;exact absurd h1 zDd
   rw[if_neg hne] at hm hta;rw[show qia lo=[118,97,114,32]++Go.Lib.join lo qcI++[59,10] from rfl] at hm hta;simp only[zLa,zLc,zLn] at hm;refine gaa ?_;refine oS (sF [_,_] rfl (joinS_spec qcI lo q2 zo) ?_) rfl;refine gad ?_;refine oS (S.callBH [_,_] rfl (qaD b3 _ ([32,32,118,97,114,32]++Go.Lib.join lo qcI++[59,10]) H3 hB3 (by simp only[zLa,zLc,zLn];omega)) fun v4 H4 hB4=>?_) rfl;refine gaa ?_;refine oS (S.callBH [_,_,_] rfl (qko hG _ bd [32,32] _ b3 H4 (zNr _) q3 q4 (by simp only[zLa,zLc,zLn];omega) hB4) fun v5 H5 hB5=>?_) rfl;refine gaj ?_;refine oS (S.callBH [_,_] rfl (qaD b3 _ [125,10] H5 hB5 (by simp only[zLa,zLc,zLn];omega)) fun v6 H6 hB6=>?_) rfl;refine gan ?_;exact ⟨_,_,_,by omega,⟨i+1,by omega,rfl,rfl,by rw[hta];simpa only[zAs,List.cons_append,List.nil_append] using hB6⟩,⟨rfl,rfl,rfl,qak zo,trivial⟩,zhD zhr,hj2⟩
  ·have hne:lo=[]:=by
    have:=zf h1;rw[hll] at this;exact List.eq_nil_of_length_eq_zero zo
   rw[if_pos hne] at hm hta;simp only[zLa,zLc,zLn] at hm;refine gaa ?_;refine oS (S.callBH [_,_,_] rfl (qko hG _ bd [32,32] _ b3 H3 (zNr _) q3 q4 (by simp only[zLa,zLc,zLn];omega) hB3) fun v5 H5 hB5=>?_) rfl;refine gaj ?_;refine oS (S.callBH [_,_] rfl (qaD b3 _ [125,10] H5 hB5 (by simp only[zLa,zLc,zLn];omega)) fun v6 H6 hB6=>?_) rfl;refine gan ?_;exact ⟨_,_,_,by omega,⟨i+1,by omega,rfl,rfl,by rw[hta];simpa only[zAs,List.cons_append,List.nil_append] using hB6⟩,⟨rfl,rfl,rfl,qak zo,trivial⟩,zhD zhr,hj2⟩
 ·have hi':i=funcs.length:=by have:=zf hc;omega
  subst hi';rw[List.take_length] at hB;refine gaa ?_;refine oS (S.callH (H1:=H) (F:=[]) [_] rfl (by simp) (qjh b3 _ H hB (by simp only[zLa,zLc,zLn];omega)) (fun x H' h=>?_) (fun ch H' h=>?_)) rfl
  ·obtain ⟨hx,hH⟩:=h;cases hx;refine gaf ?_;exact qaf (hj2.trans (hj1.trans hj)) (zra rfl) rfl
  ·cases h.1
end
end Go.Proofs.YtdakelgkjdaijaaGreatDoor
namespace Go.Proofs.YtdakelgkjdaijaaGreatDoor
open Go.GL Go.RowKit Go.Stele
theorem PP.none:PP noPr []:=by
 have:=PP.mk (v:=[]) (a:=[]) (f:=[]) (ts:=[]) (fun x hx=>by cases hx) (fun x hx=>by cases hx) PFs.nil;exact this
theorem qiD {s:List UInt8} (hs:s.length<=1500):∃ ts,PP (qaW s).1 ts/\ts.length<=1500/\((qaW s).2.2=0->∃ T,qbR s=.ok T/\ts.length<=T.length):=by
 unfold qaW;split
 ·rename_i l e he
  exact ⟨[],PP.none,by simp,fun h=>absurd h (qjP he)⟩
 ·rename_i T hT
  have hT':=hT;unfold qbR at hT';rw[if_neg zo] at hT';have hag:=qf4 _ _ _ _ hT';have hTl:=(qhJ _ _ _ _ hT').1;split
  ·rename_i p i op hp
   obtain ⟨ts,h1,h2⟩:=qmX hag hp;exact ⟨ts,h1,by omega,fun _=>⟨T,hT,h2⟩⟩
  ·rename_i l e he
   exact ⟨[],PP.none,by simp,fun h=>absurd h (qkX _ _ _ _ _ _ _ he)⟩
  ·exact ⟨[],PP.none,by simp,fun _=>⟨T,hT,Nat.zero_le _⟩⟩
theorem qnU {p:Pr} {ts:List KT} (hp:PP p ts) (hl:(qbx p).length<=60000):(∃ B,qbR (qbx p)=.ok B/\B.length=ts.length)/\qaW (qbx p)=(p,0,0):=by
 obtain ⟨B,h1,h2⟩:=qrU hp 1
 have h3:qbR (qbx p)=.ok B:=by
  unfold qbR;rw[if_neg zo];exact h1
 refine ⟨⟨B,h3,by rw[<-h2,zLm]⟩,?_⟩;unfold qaW;rw[h3];obtain ⟨q,hq⟩:=qdN B (10 * B.length+20) noPr 0 0 (Nat.zero_le _) zo;obtain ⟨j,hj⟩:=qo7 hp h2 hq;simp only;rw[hq,hj]
end Go.Proofs.YtdakelgkjdaijaaGreatDoor
namespace Go.Proofs.YtdakelgkjdaijaaGreatDoor
open Go.GL Go.RowKit Go.Stele
theorem qrp:∀ (l:List FnD) (ts:List KT),PFs l ts->∀ f∈l,∃ t d,PF f t d/\t.length<=ts.length
 |[],_,_,_,h=>by cases h
 |a::l,ts,hp,f,h=>by
  cases hp with
  |cons hf hd hl=>
   rcases zMi.1 h with rfl|h
   ·exact ⟨_,_,hf,by simp only[zLa];omega⟩
   ·obtain ⟨t,d,h1,h2⟩:=qrp l _ hl f h;exact ⟨t,d,h1,by simp only[zLa];omega⟩
theorem qp4 (l:List (List UInt8)):l.length<=(varK l).length:=by
 rw[qim];split
 ·rename_i h;subst h;simp
 ·omega
theorem qwg {p:Pr} {ts:List KT} (hp:PP p ts) (hz:ts.length<=1500) (hn:nPr p<=1000000000):FmtOk p:=by
 have hsz:=qpq hp
 cases hp with
 |mk hv ha hf=>
  rename_i v a f t
  simp only[zLa,qlf] at hz;have h1:=qp4 v;unfold nPr at hn;simp only at hn;have h2:=qoS f;refine ⟨by simp only;omega,by simp only;omega,fun x hx=>(ha x hx).2,by simp only;omega,fun x hx=>?_,?_⟩
  ·simp only at hx;have h3:=qoq hx;obtain ⟨t',d,h4,h5⟩:=qrp f t hf x hx;unfold nFn at h3;refine ⟨by omega,by omega,by omega,?_⟩
   cases h4 with
   |mk k1 k2 k3 k4=>
    simp only[zLa,zLc] at h5;exact pssOk k4 zo
  ·simp only[zLa,qlf] at hsz;omega
end Go.Proofs.YtdakelgkjdaijaaGreatDoor
namespace Go.GL
open Go.RowKit
class TOut (P:Program) (t:TypeId):Prop where
 und:P.underlying t=some (.struct (P.fieldsOf t))
 apart:P.stoodInHeld t=false
 guard:P.eqGuardType P.depth t=false
 fields : ∃ f0 f1 f2 : Field, (P.fieldsOf t).toList = [f0, f1, f2] ∧ (f0.name ≠ "_" ∧ f0.offset = 0 ∧ P.underlying f0.type = some .string) ∧ (f1.name ≠ "_" ∧ f1.offset = 1 ∧ P.underlying f1.type = some (.int .i64)) ∧ (f2.name ≠ "_" ∧ f2.offset = 2 ∧ P.underlying f2.type = some (.int .i64))
def qnw (P : Program) (f : Field) (o : Nat) : Bool := f.name != "_" && f.offset == o && (match P.underlying f.type with | some .string => true | _ => false)
def qjK (P : Program) (f : Field) (o : Nat) : Bool := f.name != "_" && f.offset == o && (match P.underlying f.type with | some (.int .i64) => true | _ => false)
def qup (P:Program) (t:TypeId):Bool:=(match P.underlying t with|some (.struct _)=>true|_=>false) && !P.stoodInHeld t && !P.eqGuardType P.depth t && (match (P.fieldsOf t).toList with|[f0,f1,f2]=>qnw P f0 0 && qjK P f1 1 && qjK P f2 2|_=>false)
theorem qpD {P : Program} {f : Field} {o : Nat} (h : qnw P f o = true) : f.name ≠ "_" ∧ f.offset = o ∧ P.underlying f.type = some .string := by
 unfold qnw at h;simp only[zBa,bne_iff_ne,beq_iff_eq] at h;obtain ⟨⟨h1,h2⟩,h3⟩:=h;refine ⟨h1,h2,?_⟩;split at h3
 ·assumption
 ·cases h3
theorem qfK {P : Program} {f : Field} {o : Nat} (h : qjK P f o = true) : f.name ≠ "_" ∧ f.offset = o ∧ P.underlying f.type = some (.int .i64) := by
 unfold qjK at h;simp only[zBa,bne_iff_ne,beq_iff_eq] at h;obtain ⟨⟨h1,h2⟩,h3⟩:=h;refine ⟨h1,h2,?_⟩;split at h3
 ·assumption
 ·cases h3
theorem TOut.of {P:Program} {t:TypeId} (h:qup P t=true):TOut P t:=by
 unfold qup at h;simp only[zBa,Bool.not_eq_true'] at h;obtain ⟨⟨⟨h1,h2⟩,h3⟩,h4⟩:=h;refine ⟨?_,h2,h3,?_⟩
 ·split at h1
  ·rename_i fs hu
   rw[hu];simp[Program.fieldsOf,hu]
  ·cases h1
 ·split at h4
  ·rename_i f0 f1 f2 hf
   simp only[zBa] at h4;exact ⟨f0,f1,f2,hf,qpD h4.1.1,qfK h4.1.2,qfK h4.2⟩
  ·cases h4
theorem qgd {P:Program} {t:TypeId} {d:TypeDesc} (hu:P.underlying t=some d) (hp:d=.string∨d=.int .i64) {xs:Array Value} {off:Nat} {v:Value} (hx:xs[off]? = some v) (w:World):(part t xs off).run P w=.ok v w:=
 run_part_plain w (by rcases hp with rfl|rfl <;> simp[Program.plainKey,hu]) hx
theorem qmV {P:Program} {t:TypeId} (hu:P.underlying t=some .string) (d:Nat) (a b:List UInt8) (w:World):(Op.equalIn (d+1) t (.string ⟨a.toArray⟩) (.string ⟨b.toArray⟩)).run P w=.ok (decide (a=b)) w:=by
 simp only[Op.equalIn,Sem.run_bind,qaa hu,Result.andThen_ok,Sem.run_pure];rw[beq_toListBytes,ByteArray.toList_eq,ByteArray.toList_eq];congr 1
 by_cases h:a=b <;> simp[h]
theorem qgA {P:Program} {t:TypeId} (hu:P.underlying t=some (.int .i64)) (d:Nat) (a b:Int) (w:World):(Op.equalIn (d+1) t (.int .i64 a) (.int .i64 b)).run P w=.ok (decide (a=b)) w:=by
 simp only[Op.equalIn,Sem.run_bind,qaa hu,Result.andThen_ok,Sem.run_pure,if_true];congr 1
theorem qsj {P:Program} {t:TypeId} [h:TOut P t] (a b:List UInt8) (x y u v:Int) (w:World) :
  (Op.equal t (.agg #[.string ⟨a.toArray⟩,.int .i64 x,.int .i64 u]) (.agg #[.string ⟨b.toArray⟩,.int .i64 y,.int .i64 v])).run P w=.ok (decide (a=b/\x=y/\u=v)) w:=by
 obtain ⟨f0,f1,f2,hf,⟨n0,o0,u0⟩,⟨n1,o1,u1⟩,⟨n2,o2,u2⟩⟩:=h.fields;rw[qfX,run_equalIn_struct w 9999 t _ _ h.und h.apart,hf];have p0:∀ (s:List UInt8) (i j:Int),(part f0.type #[.string ⟨s.toArray⟩,.int .i64 i,.int .i64 j] f0.offset).run P w=.ok (.string ⟨s.toArray⟩) w:=fun s i j=>qgd u0 (.inl rfl) (by rw[o0];try rfl) w;have p1:∀ (s:List UInt8) (i j:Int),(part f1.type #[.string ⟨s.toArray⟩,.int .i64 i,.int .i64 j] f1.offset).run P w=.ok (.int .i64 i) w:=fun s i j=>qgd u1 (.inr rfl) (by rw[o1];try rfl) w;have p2:∀ (s:List UInt8) (i j:Int),(part f2.type #[.string ⟨s.toArray⟩,.int .i64 i,.int .i64 j] f2.offset).run P w=.ok (.int .i64 j) w:=fun s i j=>qgd u2 (.inr rfl) (by rw[o2];try rfl) w;have e0:=qmV u0 9998 a b w;have e1:=qgA u1 9998 x y w;have e2:=qgA u2 9998 u v w;have q1:∀ a b:Int,(Op.equalIn 9999 f1.type (.int .i64 a) (.int .i64 b)).run P w=.ok (decide (a=b)) w:=fun a b=>qgA u1 9998 a b w;have q2:∀ a b:Int,(Op.equalIn 9999 f2.type (.int .i64 a) (.int .i64 b)).run P w=.ok (decide (a=b)) w:=fun a b=>qgA u2 9998 a b w;have q0:(Op.equalIn 9999 f0.type (.string ⟨a.toArray⟩) (.string ⟨b.toArray⟩)).run P w=.ok (decide (a=b)) w:=qmV u0 9998 a b w;simp only[Op.eqFields,n0,n1,n2,ne_eq,not_false_eq_true,if_true,Sem.run_bind,p0,q0,Result.andThen_ok]
 by_cases ha:a=b
 ·simp only[ha,decide_true,Bool.not_true,Bool.false_eq_true,if_false,Sem.run_bind,p1,q1,Result.andThen_ok,true_and]
  by_cases hx:x=y
  ·simp only[hx,decide_true,Bool.not_true,Bool.false_eq_true,if_false,Sem.run_bind,p2,q2,Result.andThen_ok,true_and]
   by_cases hu:u=v
   ·simp[hu]
   ·simp[hu]
  ·simp[hx]
 ·simp[ha]
section
variable {C:Ctx} {e:Env} {H:Heap} {dst:Option Nat} {ty:TypeId} {pos:String} {aft:Array Edge} {g:Option (Nat×Bool)} {x y:Operand}
theorem quB {ρ:Operand->Value} {w:World} {L:Live} (h:∀ x,Rep w L (e.ev x) (ρ x)) {x:Operand} {a:List UInt8} {i j:Int} (hx:e.ev x=.agg [str a,int .i64 i,int .i64 j]):ρ x=.agg #[.string ⟨a.toArray⟩,.int .i64 i,.int .i64 j]:=by
 have hv:=h x;rw[hx] at hv;simp only[Rep,RepL,str,int] at hv;obtain ⟨vs,h1,v0,r0,e0,rfl,v1,r1,e1,rfl,v2,r2,e2,rfl,e3⟩:=hv;rw[h1,e0,e1,e2,e3]
theorem Pure.eqOut {t yT:TypeId} [h:TOut C.P t] {a b:List UInt8} {i j k l:Int} (hx:e.ev x=.agg [str a,int .i64 i,int .i64 j]) (hy:e.ev y=.agg [str b,int .i64 k,int .i64 l]) :
  Pure C ⟨dst,.binOp .eql t x y yT,ty,pos,aft,g⟩ e H (bool (decide (a=b/\i=k/\j=l))):=
 .of_any fun ρ _ _ hr=>⟨_,qah,fun w'=>by
  have h1:=quB hr hx;have h2:=quB hr hy
  have he:(eqGuard .eql t x y (.agg #[.string ⟨a.toArray⟩,.int .i64 i,.int .i64 j]) (.agg #[.string ⟨b.toArray⟩,.int .i64 k,.int .i64 l])).run C.P w'=.ok () w':=by
   simp[eqGuard,h.guard]
  have hb:binOp .eql t (.agg #[.string ⟨a.toArray⟩,.int .i64 i,.int .i64 j]) (.agg #[.string ⟨b.toArray⟩,.int .i64 k,.int .i64 l])=(do Pure.pure (.bool (<-Op.equal t (.agg #[.string ⟨a.toArray⟩,.int .i64 i,.int .i64 j]) (.agg #[.string ⟨b.toArray⟩,.int .i64 k,.int .i64 l])))):=rfl
  simp only[execOp,h1,h2,he,hb,Sem.run_bind,Sem.run_pure,Result.andThen_ok,qsj]⟩
theorem Pure.eqOutT {t yT:TypeId} [h:TOut C.P t] {a b:List UInt8} {i j k l:Int} (hx:e.ev x=.agg [str a,int .i64 i,int .i64 j]) (hy:e.ev y=.agg [str b,int .i64 k,int .i64 l]) (h1:a=b) (h2:i=k) (h3:j=l) :
  Pure C ⟨dst,.binOp .eql t x y yT,ty,pos,aft,g⟩ e H (bool true):=by
 have:=Pure.eqOut (C:=C) (H:=H) (dst:=dst) (ty:=ty) (pos:=pos) (aft:=aft) (g:=g) (t:=t) (yT:=yT) hx hy
 rwa [decide_eq_true ⟨h1,h2,h3⟩] at this
end
end Go.GL
namespace Go.GL
open Go.RowKit
class TInt3 (P:Program) (t:TypeId):Prop where
 und:P.underlying t=some (.struct (P.fieldsOf t))
 apart:P.stoodInHeld t=false
 guard:P.eqGuardType P.depth t=false
 fields : ∃ f0 f1 f2 : Field, (P.fieldsOf t).toList = [f0, f1, f2] ∧ (f0.name ≠ "_" ∧ f0.offset = 0 ∧ P.underlying f0.type = some (.int .i64)) ∧ (f1.name ≠ "_" ∧ f1.offset = 1 ∧ P.underlying f1.type = some (.int .i64)) ∧ (f2.name ≠ "_" ∧ f2.offset = 2 ∧ P.underlying f2.type = some (.int .i64))
def qst (P:Program) (t:TypeId):Bool:=(match P.underlying t with|some (.struct _)=>true|_=>false) && !P.stoodInHeld t && !P.eqGuardType P.depth t && (match (P.fieldsOf t).toList with|[f0,f1,f2]=>qjK P f0 0 && qjK P f1 1 && qjK P f2 2|_=>false)
theorem TInt3.of {P:Program} {t:TypeId} (h:qst P t=true):TInt3 P t:=by
 unfold qst at h;simp only[zBa,Bool.not_eq_true'] at h;obtain ⟨⟨⟨h1,h2⟩,h3⟩,h4⟩:=h;refine ⟨?_,h2,h3,?_⟩
 ·split at h1
  ·rename_i fs hu
   rw[hu];simp[Program.fieldsOf,hu]
  ·cases h1
 ·split at h4
  ·rename_i f0 f1 f2 hf
   simp only[zBa] at h4;exact ⟨f0,f1,f2,hf,qfK h4.1.1,qfK h4.1.2,qfK h4.2⟩
  ·cases h4
section
variable {C:Ctx} {e:Env} {H:Heap} {dst:Option Nat} {ty:TypeId} {pos:String} {aft:Array Edge} {g:Option (Nat×Bool)} {x y:Operand}
theorem qto {ρ:Operand->Value} {w:World} {L:Live} (h:∀ x,Rep w L (e.ev x) (ρ x)) {x:Operand} {a i j:Int} (hx:e.ev x=.agg [int .i64 a,int .i64 i,int .i64 j]):ρ x=.agg #[.int .i64 a,.int .i64 i,.int .i64 j]:=by
 have hv:=h x;rw[hx] at hv;simp only[Rep,RepL,int] at hv;obtain ⟨vs,h1,v0,r0,e0,rfl,v1,r1,e1,rfl,v2,r2,e2,rfl,e3⟩:=hv;rw[h1,e0,e1,e2,e3]
end
end Go.GL
namespace Go.GL
open Go.RowKit
section
variable {C:Ctx} {e:Env} {H:Heap} {dst:Option Nat} {ty:TypeId} {pos:String} {aft:Array Edge} {g:Option (Nat×Bool)} {x:Operand}
theorem Pure.field0 {t:TypeId} [h:TInt3 C.P t] {a i j:Int} (hx:e.ev x=.agg [int .i64 a,int .i64 i,int .i64 j]) :
  Pure C ⟨dst,.field t x 0,ty,pos,aft,g⟩ e H (int .i64 a):=
 .of_any fun ρ _ _ hr=>⟨_,qah,fun w'=>by
  have h1:=qto hr hx;obtain ⟨f0,f1,f2,hf,⟨n0,o0,u0⟩,_,_⟩:=h.fields;have h3:execOp ρ ⟨dst,.field t x 0,ty,pos,aft,g⟩=(do Pure.pure (.value (<-Instr.field t (ρ x) 0))):=rfl
  have hg:(C.P.fieldsOf t)[0]? = some f0:=by
   rw[<-Array.getElem?_toList,hf]
   try rfl
  have hp:(part f0.type #[.int .i64 a,.int .i64 i,.int .i64 j] f0.offset).run C.P w'=.ok (.int .i64 a) w':=by
   rw[o0];simp[part,isAgg,qaa u0]
  rw[h3,h1]
  simp only[Instr.field,Sem.run_bind,qaa h.und,Result.andThen_ok,hg,asAgg,Sem.run_pure,hp]⟩
end
end Go.GL
namespace Go.Proofs.YtdakelgkjdaijaaGreatDoor.Top
open Go.Stele
open Cmp (bldR)
theorem qj2 {s:List UInt8} (hs:s.length<=1500) (hl:(qbx (qaW s).1).length<=60000):qaW (qbx (qaW s).1)=((qaW s).1,0,0):=by
 obtain ⟨ts,h1,_⟩:=qiD hs;exact (qnU h1 hl).2
theorem qsk {s:List UInt8} (hs:s.length<=1500) (he:(qaW s).2.2=0) (hl:(qbx (qaW s).1).length<=60000) (o:Org):bldR (qaW (qbx (qaW s).1)) o=bldR (qaW s) o:=by
 rw[qj2 hs hl];unfold bldR;rw[he]
 try rfl
theorem qo9 {s:List UInt8} (hs:s.length<=1500) (he:(qaW s).2.2=0) (hl:(qbx (qaW s).1).length<=60000) (inp:List Nat) (n:Int):qhf (qbx (qaW s).1) inp n=qhf s inp n:=by
 obtain ⟨l1,h1,_⟩:=Inp.parse_both (s:=s) (by omega);obtain ⟨l2,h2,_⟩:=Inp.parse_both hl;have h3:=qj2 hs hl;rw[h2] at h3
 have e1:(qdY (qbx (qaW s).1)).1=(qdY s).1:=by
  have:=congrArg (·.1) h3;simp only at this;rw[this,h1]
 have e2:(qdY (qbx (qaW s).1)).2=(qdY s).2:=by
  have:=congrArg (·.2.2) h3;simp only at this;rw[this];rw[h1] at he;exact he.symm
 unfold qhf;rw[e1,e2]
end Go.Proofs.YtdakelgkjdaijaaGreatDoor.Top
namespace Go.Proofs.YtdakelgkjdaijaaGreatDoor.Top
open Go.Stele
open Cmp (defO)
def srcT:Wd:=[118,97,114,32,120,59,32,102,117,110,99,32,109,97,105,110,40,41,32,123,32,120,32,61,32,105,110,40,41,59,32,119,104,105,108,101,32,120,32,62,32,48,32,123,32,111,117,116,40,54,52,32,43,32,120,41,59,32,120,32,61,32,120,32,45,32,49,59,32,125,32,125]
def asmT:Wd:=[38,102,95,109,97,105,110,32,58,32,48,32,33,32,36,32,102,95,109,97,105,110,58,32,44,32,51,32,33,32,106,48,58,32,51,32,64,32,48,32,50,32,33,32,49,32,33,32,50,32,64,32,49,32,64,32,60,32,38,106,49,32,63,32,54,52,32,51,32,64,32,43,32,46,32,48,32,48,32,33,32,51,32,64,32,49,32,45,32,51,32,33,32,48,32,38,106,48,32,63,32,106,49,58,32,48,32,59]
def quD:Wd:=[48,49,48,48,49,48,58,48,33,36,44,51,33,51,64,48,32,50,33,49,33,50,64,49,64,60,48,49,48,48,53,57,63,54,52,32,51,64,43,46,48,32,48,33,51,64,49,45,51,33,48,32,48,49,48,48,49,51,63,48,59]
theorem qsP:(qaW srcT).2=(0,0):=by kernel_rfl
theorem quU:cmpP (qaW srcT).1.vars (qcC (qaW srcT).1) (qaW srcT).1.funcs defO=.ok asmT:=by kernel_rfl
theorem qu4:qdU asmT=(asmT,0):=by kernel_rfl
theorem qvm:asmP asmT 10000=.ok (quD,[([102,95,109,97,105,110],10010),([106,48],10013),([106,49],10059)]):=by kernel_rfl
theorem quC:runM 1000 (qhP quD 10000 [3])=(0,[67,66,65],173):=by kernel_rfl
end Go.Proofs.YtdakelgkjdaijaaGreatDoor.Top
namespace Go.Proofs.YtdakelgkjdaijaaGreatDoor.Top
open Go.GL Go.RowKit Go.Stele
open Inp (u32)
open Mch (qqy qmC qtO us)
open Asm (asmLV)
open Cmp (I64 bldR quT qpz defO qgG qhx qdB qhq qhs)
instance:TOut Tryz.prog 39:=.of zk
instance:TInt3 Tryz.prog 36:=.of zk
attribute [local irreducible] LOps qae qad LCalls Go.GL.Pure qax qaj qac LQ LAny qaE qal LS
section
variable {B0:Nat} {w0:World}
theorem qrT {code:Wd} {inp:List Nat} {steps:Nat} (hlen:code.length<=252144) (hin:∀ v∈inp,v<4294967296) (h0:0<steps) (h1:steps<=100000000) :
  LCalls (KC B0 w0) 21 [str code,.list (us inp),int .i64 (steps:Nat)] [] (Ret (qqy (runM steps (qhP code 10000 inp)))):=by
 have hrun:=qmC (B0:=B0) (w0:=w0) (code:=code) (og:=10000) zo zDd hin h0 h1;have hd:=qdB (B0:=B0) (w0:=w0);have eD:qgG defO=.agg [int .i64 10000,int .i64 0,int .i64 100000]:=rfl;rw[eD] at hd;generalize runM steps (qhP code 10000 inp)=R at hrun ⊢;unfold qqy at hrun ⊢;unfold qtO at hrun;refine cI Tryz.func21 rfl (n:=18) rfl rfl rfl ?_;refine gac ?_;refine oS (sA fun b6=>?_) rfl;refine gac ?_;refine oS (sF [] rfl hd ?_) rfl;refine oP (Pure.field0 rfl) rfl ?_;refine gac ?_;refine zQ2 ?_;refine gac ?_;refine oS (sF [_,_,_,_] rfl hrun ?_) rfl;refine gac ?_;exact qaf rfl (rC (rA rfl zm0 rfl zsr) rN) rfl
theorem qkQ (hG:Pp.GW B0 w0):LCalls (KC B0 w0) 6 [] [] (Ret (bool true)):=by
 have hps:=qgv (B0:=B0) (w0:=w0) hG.base srcT;have hsz:=qhs srcT;have hcp:=qhq (B0:=B0) (w0:=w0) hG.base hG.mx hsz zDd defO (by unfold I64;decide) (by unfold I64;decide) (by unfold I64;decide);rw[quU] at hcp;have hop:=Pp.optimize_spec (B0:=B0) (w0:=w0) hG asmT zDd;rw[qu4] at hop;have has:=Asm.assemble_spec (B0:=B0) (w0:=w0) hG.base hG.mx asmT 10000 zDd;rw[qvm] at has;have hrun:=qrT (B0:=B0) (w0:=w0) (code:=quD) (inp:=[3]) (steps:=1000) zDd zDd zDd zDd;rw[quC] at hrun;have hd:=qdB (B0:=B0) (w0:=w0);have eD:qgG defO=.agg [int .i64 10000,int .i64 0,int .i64 100000]:=rfl;rw[eD] at hd hcp;have htp:=qsP;generalize qaW srcT=r at hps hcp htp hsz;obtain ⟨p,l,e⟩:=r;simp only at htp hcp;injection htp with e1 e2;subst e1 e2;unfold qfU at hps;unfold qpz at hcp;unfold asmLV at has;unfold qqy at hrun;simp only at hps hcp hop has hrun;have eP:qeL p=.agg [.list (p.vars.map str),.list (p.arrays.map qd8),.list (p.funcs.map qaQ)]:=rfl;rw[eP] at hps hcp;refine cI Tryz.func6 rfl (n:=63) rfl rfl rfl ?_;refine gat ?_;refine oS (sF [_] rfl hps ?_) rfl;refine gat ?_;refine oS (sA fun b1=>?_) rfl;refine gat ?_;refine cC [(0,bool false),(1,ptr b1 0),(3,int .i64 0),(4,str asmT),(5,int .i64 0)] ?_ (fun j hj=>?_)
 ·refine cD (m:=8) rfl [(b1,.cells 28 [.list (p.vars.map str),.list (p.arrays.map qd8),.list (p.funcs.map qaQ)])] ?_
  first|refine aT 0 rfl rfl (pR (cs':=[_,_,_]) rfl rfl rfl) ?_|refine aT 0 rfl rfl (pG (cs':=[_,_,_]) rfl zm0 rfl rfl) ?_|refine aT 0 rfl rfl (pG (cs':=[_,_,_]) rfl zm1 rfl rfl) ?_|refine aT 0 rfl rfl (pG (cs':=[_,_,_]) rfl zm2 rfl rfl) ?_
  refine aL ?_ zhr;refine zl1 (i:=1) zk ?_;refine lS (H1:=[]) rfl (.inl rfl) rfl zpr zhr (sF [] rfl hd ?_);refine zl1 (i:=2) zk ?_;refine lS (H1:=[]) rfl (.inl rfl) rfl zpr zhr (sF [_,_] rfl hcp ?_);refine zl1 (i:=3) zk ?_
  first|refine lH rfl rfl (pM (lv:=.tuple _) rfl) ?_
  refine zl2 (i:=4) (j:=5) zk ?_ ?_
  ·first|refine lH rfl rfl (Pure.extract (c:=.atom _) rfl rfl) ?_
   refine zl2 (i:=5) (j:=6) zk ?_ ?_
   ·first|refine lH rfl rfl (Pure.extract (c:=.atom _) rfl rfl) ?_
    refine zl1 (i:=6) zk ?_;refine lH rfl rfl (pA (lv:=.atom _) rfl) ?_;refine zQ27 ?_;refine qN ?_;exact ⟨⟨rfl,rfl,rfl,rfl,rfl,trivial⟩,rfl,rfl⟩
   ·refine lH rfl rfl (pA (lv:=.atom _) rfl) ?_;refine zl1 (i:=5) zk ?_
    first|refine lH rfl rfl (Pure.extract (c:=.atom _) rfl rfl) ?_
    refine zQ27 ?_;refine qN ?_;exact ⟨⟨rfl,rfl,rfl,rfl,rfl,trivial⟩,rfl,rfl⟩
  ·first|refine lH rfl rfl (Pure.extract (c:=.atom _) rfl rfl) ?_
   refine zl1 (i:=4) zk ?_
   first|refine lH rfl rfl (Pure.extract (c:=.atom _) rfl rfl) ?_
   refine zl1 (i:=6) zk ?_;refine lH rfl rfl (pA (lv:=.atom _) rfl) ?_;refine zQ27 ?_;refine qN ?_;exact ⟨⟨rfl,rfl,rfl,rfl,rfl,trivial⟩,rfl,rfl⟩
 refine gat ?_;refine oS (sF [_] rfl hop ?_) rfl;refine gat ?_;refine oS (sF [] rfl hd ?_) rfl;refine oP (Pure.field0 rfl) rfl ?_;refine gat ?_;refine oS (sF [_,_] rfl has ?_) rfl;refine gat ?_;refine oC rfl (fun hc=>by cases hc) (fun _=>?_);refine gat ?_;refine zQ2 ?_;refine gat ?_;refine oS (sF [_,_,_] rfl hrun ?_) rfl;refine oS (sA fun b12=>?_) rfl;refine gat ?_;exact qaf hj (zra rfl) rfl
theorem top_walk (hG:Pp.GW B0 w0) (s:List UInt8) {inp:List Nat} (hin:∀ v∈inp,Lt v):LCalls (KC B0 w0) 3 [str s,.list (inp.map u32)] [] (Ret (bool true)):=by
 have haw:=qkQ hG;have hd:=qdB (B0:=B0) (w0:=w0);have eD:qgG defO=.agg [int .i64 10000,int .i64 0,int .i64 100000]:=rfl;have hps:=qgv (B0:=B0) (w0:=w0) hG.base s;have hpo:=qqS s;have hpp:=@qiD s;have hb:=qhx (B0:=B0) (w0:=w0) hG.base hG.mx s defO (by unfold I64;decide) (by unfold I64;decide) (by unfold I64;decide);have hb2:=qhx (B0:=B0) (w0:=w0) hG.base hG.mx (qbx (qaW s).1) defO (by unfold I64;decide) (by unfold I64;decide) (by unfold I64;decide);have hbe:=fun hs he hl=>qsk (s:=s) hs he hl defO;have hse:=fun hs he hl=>qo9 (s:=s) hs he hl inp 3000;have hsrc:=fun hs=>Inp.source_spec (B0:=B0) (w0:=w0) hG.base s hs hin 3000;have hsrc2:=fun hs=>Inp.source_spec (B0:=B0) (w0:=w0) hG.base (qbx (qaW s).1) hs hin 3000;have hla:(inp.map u32).length=inp.length:=zLm _;rw[eD] at hd hb hb2;generalize hr:qaW s=r at hps hpo hpp hb hb2 hbe hse hsrc2;obtain ⟨p,l,e⟩:=r;simp only at hpo hpp hb2 hbe hse hsrc2;unfold qfU at hps;simp only at hps;refine cI Tryz.func3 rfl (n:=74) rfl rfl rfl ?_;refine gal ?_;refine oB 18 rfl (fun h1=>?_) (fun h1=>?_)
 ·refine gal ?_;refine oC rfl (fun _=>?_) (fun hc=>by cases hc);refine zQ33 ?_;exact qaf rfl (zra rfl) rfl
 have hs:s.length<=1500:=by have:=zf h1;omega
 refine gal ?_;refine oC rfl (fun _=>?_) (fun hc=>?_)
 ·refine zQ33 ?_;exact qaf rfl (zra rfl) rfl
 obtain ⟨ts,hpp2,hts,_⟩:=hpp hs;refine gal ?_;refine oS (sF [_] rfl hps ?_) rfl;refine gal ?_;refine oS (sA fun b5=>?_) rfl;refine gal ?_
 by_cases he:e=0
 rotate_left
 ·refine oC rfl (fun _=>?_) (fun hc=>?_)
  ·refine zQ33 ?_;exact qaf rfl (zra rfl) rfl
  ·have h2:(!decide (e=0))=false:=hc;simp at h2;exact absurd h2 he
 subst he;have hfo:=qnL (B0:=B0) (w0:=w0) hG.base p (qwg hpp2 hts hpo.size);refine oC rfl (fun hc=>by cases hc) (fun _=>?_);refine gal ?_;refine oS (sF [_] rfl hfo ?_) rfl;refine gal ?_;generalize qbx p=g at hb2 hbe hse hsrc2;refine oC rfl (fun _=>?_) (fun hc=>?_)
 ·refine zQ33 ?_;exact qaf rfl (zra rfl) rfl
 have hg:g.length<=60000:=by have:=zf hc;omega
 rw[hbe hs rfl hg] at hb2;generalize bldR (p,l,0) defO=R at hb hb2;obtain ⟨x,m,f⟩:=R;unfold quT at hb hb2;simp only at hb hb2;refine gal ?_;refine oS (sF [] rfl hd ?_) rfl;refine oS (sF [_,_] rfl hb ?_) rfl;refine gal ?_;refine oS (sF [] rfl hd ?_) rfl;refine oS (sF [_,_] rfl hb2 ?_) rfl;refine gal ?_;refine oB 56 rfl (fun h=>?_) (fun _=>?_)
 ·simp at h
 refine gal ?_;refine oC rfl (fun h=>?_) (fun _=>?_)
 ·simp at h
 refine gal ?_
 by_cases hf:f=0
 rotate_left
 ·refine oC rfl (fun _=>?_) (fun hc=>?_)
  ·refine zQ33 ?_;exact qaf rfl (zra rfl) rfl
  ·have h2:(!decide (f=0))=false:=hc;simp at h2;exact absurd h2 hf
 subst hf;refine oC rfl (fun hc=>by cases hc) (fun _=>?_);have hW:=hsrc zo;have hW2:=hsrc2 hg;rw[hse hs rfl hg] at hW2;generalize qhf s inp 3000=Z at hW hW2;obtain ⟨o1,e1,n1⟩:=Z;unfold Inp.encO at hW hW2;simp only at hW hW2;refine gal ?_;refine oS (sF [_,_,_] rfl hW ?_) rfl;refine gal ?_;refine oS (sF [_,_,_] rfl hW2 ?_) rfl;refine gal ?_;refine oP (Pure.eqOutT (a:=o1) (b:=o1) (i:=e1) (k:=e1) (j:=(n1:Int)) (l:=(n1:Int)) rfl rfl rfl rfl rfl) rfl ?_;refine zQ33 ?_;exact qaf rfl (zra rfl) rfl
end
end Go.Proofs.YtdakelgkjdaijaaGreatDoor.Top
