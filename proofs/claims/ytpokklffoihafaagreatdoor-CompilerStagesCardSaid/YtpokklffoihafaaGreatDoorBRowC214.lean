/- Texts joined: Fmt6, RtLaw, LawCS, LawT0, LawCT. -/
import Derived.Test.YtpokklffoihafaaGreatDoorBRowC25
import Derived.Test.YtpokklffoihafaaGreatDoorBRowC212
import Derived.Test.YtpokklffoihafaaGreatDoorBRowC213
set_option linter.unusedVariables false
set_option linter.unusedSimpArgs false
namespace Go.Proofs.YtpokklffoihafaaGreatDoor
open Go.GL Go.RowKit Go.Stele
set_option maxRecDepth 100000
set_option maxHeartbeats 4000000
/-! ### A printed program is small -/
theorem okEs_of {l:List Ex} (h:∀ x∈l,okE x):okEs l:=by
 induction l with
 |nil=>trivial
 |cons a l ih=>exact ⟨h a (List.mem_cons_self ..),ih fun x hx=>h x (List.mem_cons_of_mem _ hx)⟩
theorem pe_ok:∀ (n:Nat) (e:Ex),nEx e≤n→∀ (k:Nat) (ts:List KT) (d:Nat),PE e k ts d→ts.length≤100000→okE e
 |0,.mk _ _ _ _,hn=>by rw[nEx] at hn;omega
 |n+1,e,hn=>by
  intro k ts d h hz
  cases h with
  |num h=>exact ⟨h,by simp,trivial⟩
  |var h=>exact ⟨by decide,by simp,trivial⟩
  |elem h ha=>
   simp only[nEx,nExs] at hn
   simp only[List.length_cons,List.length_append,List.length_nil] at hz
   exact ⟨by decide,by simp,pe_ok n _ zo _ _ _ ha zo,trivial⟩
  |call h ha=>
   rename_i s l t1 d1
   simp only[nEx] at hn
   simp only[List.length_cons,List.length_append,List.length_nil] at hz
   refine ⟨by decide,by have:=pes_len l t1 d1 ha;omega,okEs_of fun x hx=>?_⟩
   obtain ⟨t,d',h1,h2⟩:=pes_mem l t1 d1 ha x hx
   exact pe_ok n x (by have:=nExs_mem hx;omega) _ _ _ h1 zo
  |neg ha=>
   simp only[nEx,nExs] at hn
   simp only[List.length_cons] at hz
   exact ⟨by decide,by simp,pe_ok n _ zo _ _ _ ha zo,trivial⟩
  |not ha=>
   simp only[nEx,nExs] at hn
   simp only[List.length_cons] at hz
   exact ⟨by decide,by simp,pe_ok n _ zo _ _ _ ha zo,trivial⟩
  |par hs ho hk2 ha hb=>
   simp only[nEx,nExs] at hn
   simp only[List.length_cons,List.length_append,List.length_nil] at hz
   exact ⟨by decide,by simp,pe_ok n _ zo _ _ _ ha zo,pe_ok n _ zo _ _ _ hb zo,trivial⟩
  |bin hs ho hk2 ha hb=>
   simp only[nEx,nExs] at hn
   simp only[List.length_cons,List.length_append,List.length_nil] at hz
   exact ⟨by decide,by simp,pe_ok n _ zo _ _ _ ha zo,pe_ok n _ zo _ _ _ hb zo,trivial⟩
theorem peOk {e:Ex} {k:Nat} {ts:List KT} {d:Nat} (h:PE e k ts d) (hz:ts.length≤100000):okE e:=pe_ok _ e (Nat.le_refl _) k ts d h hz
theorem ps_ok:∀ (n:Nat),(∀ (s:Sm),nSm s≤n→∀ (ts:List KT) (d:Nat),PS s ts d→ts.length≤100000→okS s) ∧
  (∀ (l:List Sm),nSms l≤n→∀ (ts:List KT) (d:Nat),PSs l ts d→ts.length≤100000→okSs l)
 |0=>by
  refine ⟨fun s hn=>?_,fun l hn ts d hp hz=>?_⟩
  ·obtain ⟨k,a,b,c,d,e⟩:=s
   rw[nSm] at hn
   omega
  ·cases hp with
   |nil=>trivial
   |cons h1 h2=>
    rename_i s _ _ _ _ _
    obtain ⟨k,a,b,c,d,e⟩:=s
    rw[nSms,nSm] at hn
    omega
 |n+1=>by
  obtain ⟨hS,hL⟩:=ps_ok n
  have hS':∀ (s:Sm),nSm s≤n+1→∀ (ts:List KT) (d:Nat),PS s ts d→ts.length≤100000→okS s:=by
   intro s hn ts d hp hz
   cases hp with
   |assign hs he=>
    simp only[List.length_cons,List.length_append,List.length_nil] at hz
    exact ⟨trivial,⟨peOk he zo,trivial⟩,trivial,trivial⟩
   |store hs hx he=>
    simp only[List.length_cons,List.length_append,List.length_nil] at hz
    exact ⟨⟨peOk hx zo,trivial⟩,⟨peOk he zo,trivial⟩,trivial,trivial⟩
   |call hs hl=>
    rename_i s l t1 d1
    simp only[List.length_cons,List.length_append,List.length_nil] at hz
    have:PE (.mk nCall 0 s l) 0 ((2,s)::sg 40::(t1++[sg 41])) (d1+1):=.call hs hl
    exact ⟨trivial,⟨peOk this (by simp only[List.length_cons,List.length_append,List.length_nil];omega),trivial⟩,trivial,trivial⟩
   |ret he=>
    simp only[List.length_cons,List.length_append,List.length_nil] at hz
    exact ⟨trivial,⟨peOk he zo,trivial⟩,trivial,trivial⟩
   |halt=>exact ⟨trivial,trivial,trivial,trivial⟩
   |ifElse he g1 g2 hne=>
    simp only[nSm] at hn
    simp only[List.length_cons,List.length_append,List.length_nil] at hz
    exact ⟨trivial,⟨peOk he zo,trivial⟩,hL _ zo _ _ g1 zo,hL _ zo _ _ g2 zo⟩
   |ifThen he g1=>
    simp only[nSm] at hn
    simp only[List.length_cons,List.length_append,List.length_nil] at hz
    exact ⟨trivial,⟨peOk he zo,trivial⟩,hL _ zo _ _ g1 zo,trivial⟩
   |«while» he g1=>
    simp only[nSm] at hn
    simp only[List.length_cons,List.length_append,List.length_nil] at hz
    exact ⟨trivial,⟨peOk he zo,trivial⟩,hL _ zo _ _ g1 zo,trivial⟩
  refine ⟨hS',fun l hn ts d hp hz=>?_⟩
  cases hp with
  |nil=>trivial
  |cons h1 h2=>
   rename_i s l t1 t2 d1 d2
   have hpos:0<nSm s:=by obtain ⟨k,a,b,c,d,e⟩:=s;rw[nSm];omega
   rw[nSms] at hn
   simp only[List.length_append] at hz
   exact ⟨hS' s zo _ _ h1 zo,hL l zo _ _ h2 zo⟩
theorem pssOk {l:List Sm} {ts:List KT} {d:Nat} (h:PSs l ts d) (hz:ts.length≤100000):okSs l:=(ps_ok _).2 l (Nat.le_refl _) ts d h hz
attribute [local irreducible] LOps LCode LStep LCalls Go.GL.Pure QThen QBlock RetPost LQ LAny LLate LLateOp
section
variable {B0:Nat} {w0:World}
structure FmtOk (p:Pr):Prop where
 vars:p.vars.length≤1000000000
 arrays:p.arrays.length≤1000000000
 size:∀ a∈p.arrays,a.size<4294967296
 funcs:p.funcs.length≤1000000000
 params:∀ f∈p.funcs,f.params.length≤1000000000∧f.locals.length≤1000000000∧nSms f.body≤1000000000∧okSs f.body
 len:(formatP p).length≤100000000
theorem flat_take {A:Type} (f:A→List UInt8) {l:List A} {i:Nat} (h:i<l.length):((l.take (i+1)).map f).flatten=((l.take i).map f).flatten++f l[i]:=by
 rw[List.take_succ_eq_append_getElem h,List.map_append,List.flatten_append]
 simp
theorem flat_mem {A:Type} (f:A→List UInt8) {l:List A} {i:Nat} (h:i<l.length):((l.take i).map f).flatten.length+(f l[i]).length≤((l.map f).flatten).length:=by
 have h1:=flat_take f h
 have h2:(l.map f).flatten=((l.take (i+1)).map f).flatten++((l.drop (i+1)).map f).flatten:=by rw[←List.flatten_append,←List.map_append,List.take_append_drop]
 rw[h2,h1]
 simp only[List.length_append]
 omega
theorem hsub_two (a b:Nat×LObj) (H:Heap):HSub (b::H) (H++[a,b]):=⟨[a],(List.perm_append_comm (l₁:=H) (l₂:=[a,b])).trans (List.Perm.trans (List.Perm.swap b a H) (List.Perm.cons b (List.perm_append_singleton a H).symm))⟩
theorem hsub_one (a:Nat×LObj) (H:Heap):HSub (a::H) (H++[a]):=⟨[],by rw[List.append_nil];exact List.perm_append_singleton a H⟩
theorem Format_spec (hG:GW B0 w0) (p:Pr) (hp:FmtOk p):LCalls (KC B0 w0) 23 [encPr p] [] (Ret (str (formatP p))):=by
 obtain ⟨vars,arrays,funcs⟩:=p
 obtain ⟨p1,p2,p3,p4,p5,p6⟩:=hp
 simp only at p1 p2 p3 p4 p5
 have hlv:(vars.map str).length=vars.length:=List.length_map _
 have hla:(arrays.map encAr).length=arrays.length:=List.length_map _
 have hlf:(funcs.map encFn).length=funcs.length:=List.length_map _
 unfold formatP at p6 ⊢
 simp only[List.length_append] at p6
 simp only
 obtain ⟨V,hV⟩:∃ V,V=(if vars=[] then [] else varsT vars):=⟨_,rfl⟩
 rw[←hV] at p6 ⊢
 rw[encPr]
 simp only
 refine cI Tryz.func23 rfl (n:=69) rfl rfl rfl ?_
 refine gaq ?_
 refine oS (S.box (cs:=[.list (vars.map str),.list (arrays.map encAr),.list (funcs.map encFn)]) rfl fun b1=>?_) rfl
 refine gac ?_
 refine oS (S.alloc fun b3=>?_) rfl
 refine gan ?_
 refine LCode.weak (zhP zp1 zhr) ?_
 have hB0:BH b3 [] [(b3,.cells 112 [.atom (.pointer none),.atom (.slice none 0 0)])]:=⟨_,_,[],.inl rfl,BRow.nil,rfl⟩
 refine LCode.midC (A:=Heap) (fun _=>[(1,ptr b1 0),(3,ptr b3 0)]) (fun H=>(b1,.cells 26 [.list (vars.map str),.list (arrays.map encAr),.list (funcs.map encFn)])::H) (fun H=>BH b3 V H) ?_ (fun H hB j hj=>?_)
 ·refine oC rfl (fun h1=>?_) (fun h1=>?_)
  ·have hne:vars≠[]:=by
    rintro rfl
    exact absurd h1 (by decide)
   rw[if_neg hne] at hV
   have hVl:V.length=4+(Go.Lib.join vars comSp).length+2:=by
    rw[hV]
    simp only[varsT,List.length_append,List.length_cons,List.length_nil]
   refine gaf ?_
   refine oS (S.fn [_,_] rfl (joinS_spec comSp vars zo zo) ?_) rfl
   refine gaa ?_
   refine oS (S.callBH [_,_] rfl (writeString_spec b3 [] (varsT vars) _ hB0 (by rw[←hV];simp only[List.length_nil];omega)) fun v H2 hB2=>?_) rfl
   refine gab ?_
   exact ⟨H2,by rw[hV];exact hB2,⟨rfl,rfl,trivial⟩,HSub.refl _,rfl⟩
  ·have hne:vars=[]:=by
    have:=zf h1
    rw[hlv] at this
    exact List.eq_nil_of_length_eq_zero zo
   rw[if_pos hne] at hV
   refine gaa ?_
   exact ⟨_,by rw[hV];exact hB0,⟨rfl,rfl,trivial⟩,HSub.refl _,rfl⟩
 refine gai ?_
 refine oL (fun k ls H=>∃ i,i≤arrays.length∧k=arrays.length-i∧ls=[(1,ptr b1 0),(3,ptr b3 0),(19,.list (arrays.map encAr)),(20,int .i64 arrays.length),(21,int .i64 i)]∧∃ H',H=(b1,.cells 26 [.list (vars.map str),.list (arrays.map encAr),.list (funcs.map encFn)])::H'∧BH b3 (V++((arrays.take i).map fAr).flatten) H')
  ⟨_,_,_,⟨0,Nat.zero_le _,rfl,rfl,_,rfl,by simpa using hB⟩,⟨rfl,rfl,rfl,int_eq zo,rfl,trivial⟩,HSub.refl _⟩ ?_
 clear hB hB0
 rintro k ls H ⟨i,hi,rfl,rfl,H',rfl,hB⟩ j1 hj1
 refine gas ?_
 refine oC rfl (fun hc=>?_) (fun hc=>?_)
 ·have hlt:i<arrays.length:=by have:=zt hc;omega
  have hm:=flat_mem fAr hlt
  have hsz:=p3 arrays[i] (List.getElem_mem hlt)
  have hta:=flat_take fAr hlt
  refine gau ?_
  refine oP (xR (el':=encAr arrays[i]) (cs:=[_,_]) rfl rfl zo (map_get _ _ _ hlt) rfl rfl) rfl ?_
  refine gaa ?_
  refine oS (S.alloc fun b5=>?_) rfl
  refine gaa ?_
  generalize arrays[i]=a at hm hsz hta ⊢
  obtain ⟨nm,sz⟩:=a
  simp only at hsz
  have hdl:=dec_len hsz
  rw[show fAr ⟨nm,sz⟩=[97,114,114,97,121,32]++nm++[91]++Go.Lib.decDigits sz++[93,59,10] from rfl] at hm hta
  simp only[List.length_append,List.length_cons,List.length_nil] at hm
  refine LCode.draw (m:=10) rfl [(b5,.cells 64 [str nm,int .i64 sz])] ?_
  refine aT 0 rfl rfl (Pure.fieldH rfl) ?_
  refine aT 1 rfl rfl (Pure.loadH (c:=.atom _) rfl zm0 rfl) ?_
  refine aT 2 rfl rfl (Pure.sadd rfl rfl (by first|omega|(simp only[List.length_append,List.length_cons,List.length_nil];omega))) ?_
  refine aT 3 rfl rfl (Pure.sadd rfl rfl (by first|omega|(simp only[List.length_append,List.length_cons,List.length_nil];omega))) ?_
  refine aT 4 rfl rfl (Pure.fieldH rfl) ?_
  refine aT 5 rfl rfl (Pure.loadH (c:=.atom _) rfl zm0 rfl) ?_
  refine LAny.late ?_ zhp
  refine lO 6 (lS (H1:=[]) rfl (.inl rfl) rfl zpr zhp (S.fn [_] rfl (itoa_spec hG sz zo) ?_))
  refine lO 7 (lH rfl rfl (Pure.sadd rfl rfl (by simp only[List.length_append,List.length_cons,List.length_nil];omega)) ?_)
  refine lO 8 (lH rfl rfl (Pure.sadd rfl rfl (by simp only[List.length_append,List.length_cons,List.length_nil];omega)) ?_)
  refine lO 9 (lS (H1:=H') (F:=[(b5,.cells 64 [str nm,int .i64 sz]),(b1,.cells 26 [.list (vars.map str),.list (arrays.map encAr),.list (funcs.map encFn)])]) rfl (.inl rfl) rfl (List.perm_append_comm (l₁:=[_,_])) zhp (LStep.call (args:=[_,_]) (writeString_spec b3 _ ([97,114,114,97,121,32]++nm++[91]++Go.Lib.decDigits sz++[93,59,10]) H' hB (by simp only[List.length_append,List.length_cons,List.length_nil];omega)) (fun v3 H3 h3=>?_) (fun ch H3 h3=>?_)))
  rotate_left
  ·obtain ⟨⟨x,hx⟩,_⟩:=h3
   cases hx
  obtain ⟨_,hB3⟩:=h3
  refine lD zk ?_
  refine gad ?_
  exact ⟨_,_,_,by omega,⟨i+1,by omega,rfl,rfl,H3,rfl,by rw[hta];simpa only[List.append_assoc] using hB3⟩,⟨rfl,rfl,rfl,rfl,int_eq zo,trivial⟩,hsub_two _ _ _,hj1⟩
 have hi':i=arrays.length:=by have:=zf hc;omega
 subst hi'
 rw[List.take_length] at hB
 clear hi hc
 generalize hA:(arrays.map fAr).flatten=A at hB p6 ⊢
 refine gai ?_
 refine oL (fun k ls H=>∃ i,i≤funcs.length∧k=funcs.length-i∧ls=[(3,ptr b3 0),(37,.list (funcs.map encFn)),(38,int .i64 funcs.length),(39,int .i64 i)]∧BH b3 (V++A++((funcs.take i).map fFn).flatten) H)
  ⟨_,_,_,⟨0,Nat.zero_le _,rfl,rfl,by simpa using hB⟩,⟨rfl,rfl,int_eq zo,rfl,trivial⟩,zhD zhr⟩ ?_
 clear hB
 rintro k ls H ⟨i,hi,rfl,rfl,hB⟩ j2 hj2
 refine gas ?_
 refine oC rfl (fun hc=>?_) (fun hc=>?_)
 ·have hlt:i<funcs.length:=by have:=zt hc;omega
  have hm:=flat_mem fFn hlt
  have hpf:=p5 funcs[i] (List.getElem_mem hlt)
  have hta:=flat_take fFn hlt
  refine gau ?_
  refine oP (xR (el':=encFn funcs[i]) (cs:=[_,_,_,_]) rfl rfl zo (map_get _ _ _ hlt) rfl rfl) rfl ?_
  refine gaa ?_
  refine oS (S.alloc fun b7=>?_) rfl
  refine gab ?_
  generalize funcs[i]=a at hm hpf hta ⊢
  obtain ⟨nm,ps,lo,bd⟩:=a
  obtain ⟨q1,q2,q3,q4⟩:=hpf
  simp only at q1 q2 q3 q4
  have hll:(lo.map str).length=lo.length:=List.length_map _
  rw[show fFn ⟨nm,ps,lo,bd⟩=[102,117,110,99,32]++nm++[40]++Go.Lib.join ps comSp++[41,32,123,10]++(if lo=[] then [] else [32,32]++varsT lo)++fSs [32,32] bd++[125,10] from rfl] at hm hta
  simp only[List.length_append,List.length_cons,List.length_nil] at hm
  refine LCode.draw (m:=10) rfl [(b7,.cells 67 [str nm,.list (ps.map str),.list (lo.map str),.list (bd.map encS)])] ?_
  refine aT 0 rfl rfl (Pure.fieldH rfl) ?_
  refine aT 1 rfl rfl (Pure.loadH (c:=.atom _) rfl zm0 rfl) ?_
  refine aT 2 rfl rfl (Pure.sadd rfl rfl (by first|omega|(simp only[List.length_append,List.length_cons,List.length_nil];omega))) ?_
  refine aT 3 rfl rfl (Pure.sadd rfl rfl (by first|omega|(simp only[List.length_append,List.length_cons,List.length_nil];omega))) ?_
  refine aT 4 rfl rfl (Pure.fieldH rfl) ?_
  refine aT 5 rfl rfl (Pure.loadH (c:=.list _) rfl zm0 rfl) ?_
  refine LAny.late ?_ zhp
  refine lO 6 (lS (H1:=[]) rfl (.inl rfl) rfl zpr zhp (S.fn [_,_] rfl (joinS_spec comSp ps q1 zo) ?_))
  refine lO 7 (lH rfl rfl (Pure.sadd rfl rfl (by simp only[List.length_append,List.length_cons,List.length_nil];omega)) ?_)
  refine lO 8 (lH rfl rfl (Pure.sadd rfl rfl (by simp only[List.length_append,List.length_cons,List.length_nil];omega)) ?_)
  refine lO 9 (lS (H1:=H) (F:=[(b7,.cells 67 [str nm,.list (ps.map str),.list (lo.map str),.list (bd.map encS)])]) rfl (.inl rfl) rfl (List.perm_append_singleton _ _).symm zhr (LStep.call (args:=[_,_]) (writeString_spec b3 _ ([102,117,110,99,32]++nm++[40]++Go.Lib.join ps comSp++[41,32,123,10]) H hB (by simp only[List.length_append,List.length_cons,List.length_nil];omega)) (fun v3 H3 h3=>?_) (fun ch H3 h3=>?_)))
  rotate_left
  ·obtain ⟨⟨x,hx⟩,_⟩:=h3
   cases hx
  obtain ⟨_,hB3⟩:=h3
  refine lD zk ?_
  refine gab ?_
  refine LCode.weak (H':=(b7,.cells 67 [str nm,.list (ps.map str),.list (lo.map str),.list (bd.map encS)])::H3) (hsub_one _ _) ?_
  refine gan ?_
  refine oC rfl (fun h1=>?_) (fun h1=>?_)
  ·have hne:lo≠[]:=by
    rintro rfl
    exact absurd h1 (by decide)
   rw[if_neg hne] at hm hta
   rw[show varsT lo=[118,97,114,32]++Go.Lib.join lo comSp++[59,10] from rfl] at hm hta
   simp only[List.length_append,List.length_cons,List.length_nil] at hm
   refine gaf ?_
   refine oS (S.fn [_,_] rfl (joinS_spec comSp lo q2 zo) ?_) rfl
   refine gaa ?_
   refine oS (S.callBH [_,_] rfl (writeString_spec b3 _ ([32,32,118,97,114,32]++Go.Lib.join lo comSp++[59,10]) H3 hB3 (by simp only[List.length_append,List.length_cons,List.length_nil];omega)) fun v4 H4 hB4=>?_) rfl
   refine gaf ?_
   refine oS (S.callBH [_,_,_] rfl (lines_spec hG _ bd [32,32] _ b3 H4 (Nat.le_refl _) q3 q4 (by simp only[List.length_append,List.length_cons,List.length_nil];omega) hB4) fun v5 H5 hB5=>?_) rfl
   refine gas ?_
   refine oS (S.callBH [_,_] rfl (writeString_spec b3 _ [125,10] H5 hB5 (by simp only[List.length_append,List.length_cons,List.length_nil];omega)) fun v6 H6 hB6=>?_) rfl
   refine gad ?_
   exact ⟨_,_,_,by omega,⟨i+1,by omega,rfl,rfl,by rw[hta];simpa only[List.append_assoc,List.cons_append,List.nil_append] using hB6⟩,⟨rfl,rfl,rfl,int_eq zo,trivial⟩,zhD zhr,hj2⟩
  ·have hne:lo=[]:=by
    have:=zf h1
    rw[hll] at this
    exact List.eq_nil_of_length_eq_zero zo
   rw[if_pos hne] at hm hta
   simp only[List.length_append,List.length_cons,List.length_nil] at hm
   refine gaf ?_
   refine oS (S.callBH [_,_,_] rfl (lines_spec hG _ bd [32,32] _ b3 H3 (Nat.le_refl _) q3 q4 (by simp only[List.length_append,List.length_cons,List.length_nil];omega) hB3) fun v5 H5 hB5=>?_) rfl
   refine gas ?_
   refine oS (S.callBH [_,_] rfl (writeString_spec b3 _ [125,10] H5 hB5 (by simp only[List.length_append,List.length_cons,List.length_nil];omega)) fun v6 H6 hB6=>?_) rfl
   refine gad ?_
   exact ⟨_,_,_,by omega,⟨i+1,by omega,rfl,rfl,by rw[hta];simpa only[List.append_assoc,List.cons_append,List.nil_append] using hB6⟩,⟨rfl,rfl,rfl,int_eq zo,trivial⟩,zhD zhr,hj2⟩
 ·have hi':i=funcs.length:=by have:=zf hc;omega
  subst hi'
  rw[List.take_length] at hB
  refine gac ?_
  refine oS (S.callH (H1:=H) (F:=[]) [_] rfl (by simp) (string_spec b3 _ H hB (by simp only[List.length_append,List.length_cons,List.length_nil];omega)) (fun x H' h=>?_) (fun ch H' h=>?_)) rfl
  ·obtain ⟨hx,hH⟩:=h
   cases hx
   refine gab ?_
   exact retRet (hj2.trans (hj1.trans hj)) (zra rfl) rfl
  ·cases h.1
end
end Go.Proofs.YtpokklffoihafaaGreatDoor
namespace Go.Proofs.YtpokklffoihafaaGreatDoor
open Go.GL Go.RowKit Go.Stele
set_option maxRecDepth 100000
set_option maxHeartbeats 4000000
theorem PP.none:PP noPr []:=by
 have:=PP.mk (v:=[]) (a:=[]) (f:=[]) (ts:=[]) (fun x hx=>by cases hx) (fun x hx=>by cases hx) PFs.nil
 exact this
theorem parse_print {s:List UInt8} (hs:s.length≤1500):∃ ts,PP (parseP s).1 ts∧ts.length≤1500∧((parseP s).2.2=0→∃ T,lexAllP s=.ok T∧ts.length≤T.length):=by
 unfold parseP
 split
 ·rename_i l e he
  exact ⟨[],PP.none,by simp,fun h=>absurd h (lexAllP_err he)⟩
 ·rename_i T hT
  have hT':=hT
  unfold lexAllP at hT'
  rw[if_neg zo] at hT'
  have hag:=lexP_again _ _ _ _ hT'
  have hTl:=(lexP_ok _ _ _ _ hT').1
  split
  ·rename_i p i op hp
   obtain ⟨ts,h1,h2⟩:=src_print hag hp
   exact ⟨ts,h1,by omega,fun _=>⟨T,hT,h2⟩⟩
  ·rename_i l e he
   exact ⟨[],PP.none,by simp,fun h=>absurd h (prog_en _ _ _ _ _ _ _ he)⟩
  ·exact ⟨[],PP.none,by simp,fun _=>⟨T,hT,Nat.zero_le _⟩⟩
theorem print_parse {p:Pr} {ts:List KT} (hp:PP p ts) (hl:(formatP p).length≤60000):(∃ B,lexAllP (formatP p)=.ok B∧B.length=ts.length)∧parseP (formatP p)=(p,0,0):=by
 obtain ⟨B,h1,h2⟩:=print_lex hp 1
 have h3:lexAllP (formatP p)=.ok B:=by
  unfold lexAllP
  rw[if_neg zo]
  exact h1
 refine ⟨⟨B,h3,by rw[←h2,List.length_map]⟩,?_⟩
 unfold parseP
 rw[h3]
 obtain ⟨q,hq⟩:=sProg_ends B (10 * B.length+20) noPr 0 0 (Nat.zero_le _) zo
 obtain ⟨j,hj⟩:=print_read hp h2 hq
 simp only
 rw[hq,hj]
end Go.Proofs.YtpokklffoihafaaGreatDoor
namespace Go.Proofs.YtpokklffoihafaaGreatDoor.Cmp
open Go.GL Go.RowKit Go.Stele
set_option maxRecDepth 100000
set_option maxHeartbeats 4000000
instance:TInt3 Tryz.prog 28:=.of zk
def signW:List UInt8:=[43,45,42,47,37,94,60,64,33,63,58,59,44,46,36,48,49,50,51,52,53,54,55,56,57,32,10]
theorem sign_has {c:UInt8} (h:codeSet.contains c=true∨c=32):Go.Lib.contains signW [c]=true:=by
 have key:∀ n:Nat,n<256→(codeSet.contains (UInt8.ofNat n)=true∨UInt8.ofNat n=32)→Go.Lib.contains signW [UInt8.ofNat n]=true:=by decide +kernel
 have:=key c.toNat c.toNat_lt
 rw[UInt8.ofNat_toNat] at this
 exact this h
theorem sign_print {c:UInt8} (h:codeSet.contains c=true∨c=32):32≤c.toNat∧c.toNat≤126:=by
 have key:∀ n:Nat,n<256→(codeSet.contains (UInt8.ofNat n)=true∨UInt8.ofNat n=32)→32≤n∧n≤126:=by decide +kernel
 have:=key c.toNat c.toNat_lt
 rw[UInt8.ofNat_toNat] at this
 exact this h
attribute [local irreducible] LOps LCode LStep LCalls Go.GL.Pure QThen QBlock RetPost LQ LAny LLate LLateOp LS
section
variable {B0:Nat} {w0:World}
theorem awake_spec (hG:GW B0 w0) (hM:Asm.GM w0):LCalls (KC B0 w0) 13 [] [] (Ret (bool true)):=by
 have hb:=build_spec (B0:=B0) (w0:=w0) hG hM awakeSrc defO (by unfold I64;decide) (by unfold I64;decide) (by unfold I64;decide)
 rw[awake_bld] at hb
 have hd:=defaults_spec (B0:=B0) (w0:=w0)
 have eD:orgLV defO=.agg [int .i64 10000,int .i64 0,int .i64 100000]:=rfl
 rw[eD] at hb hd
 unfold bldLV at hb
 refine cI Tryz.func13 rfl (n:=25) rfl rfl rfl ?_
 refine gae ?_
 refine oS (S.fn [] rfl hd ?_) rfl
 refine oS (S.fn [_,_] rfl hb ?_) rfl
 refine gae ?_
 refine oS (S.fn [] rfl hd ?_) rfl
 refine gae ?_
 refine oP (Pure.eqInt3 rfl rfl) rfl ?_
 refine gae ?_
 exact retRet rfl (zra rfl) rfl
theorem contains_spec (hG:GW B0 w0) (hM:Asm.GM w0) (s p:List UInt8) (hs:s.length≤1000000):LCalls (KC B0 w0) 45 [str s,str p] [] (Ret (bool (Go.Lib.contains s p))):=by
 refine LCalls.ret_of (vs:=[.string ⟨s.toArray⟩,.string ⟨p.toArray⟩]) fun w hb=>?_
 obtain ⟨m,hm⟩:=Asm.GM.at hG hM hb
 refine (Go.Proofs.Tryz.strings_Contains ⟨s.toArray⟩ ⟨p.toArray⟩ m w ?_ hm).mono fun e w' he=>?_
 ·show s.toArray.size<_
  rw[List.size_toArray]
  omega
 ·obtain ⟨h1,h2⟩:=he
  subst h2
  exact ⟨by simpa using h1,Below.refl _ _⟩
theorem mcheck_spec (hG:GW B0 w0) (hM:Asm.GM w0) (s:List UInt8) (hs:s.length≤1000000) (h:∀ c∈s,codeSet.contains c=true∨c=32):LCalls (KC B0 w0) 20 [str s] [] (Ret (.tuple [int .i64 0,int .i64 0])):=by
 refine cI Tryz.func20 rfl (n:=19) rfl rfl rfl ?_
 refine gam ?_
 refine oL (fun k ls H=>∃ i:Nat,i≤s.length∧k=s.length-i∧ls=[(0,str s),(6,int .i64 s.length),(7,int .i64 (i:Nat))]∧H=[])
  ⟨_,_,_,⟨0,Nat.zero_le _,rfl,rfl,rfl⟩,⟨rfl,rfl,rfl,trivial⟩,HSub.refl _⟩ ?_
 rintro k ls H ⟨i,hi,rfl,rfl,rfl⟩ j hj
 refine gam ?_
 refine oC rfl (fun hc=>?_) (fun hc=>?_)
 ·have hlt:i<s.length:=by have:=zt hc;omega
  have hsl:(s.take ((i:Int)+1).toNat).drop ((i:Nat):Int).toNat=[s[i]]:=by
   rw[show ((i:Int)+1).toNat=i+1 by omega,Int.toNat_natCast,List.take_succ_eq_append_getElem hlt,List.drop_append_of_le_length (by rw[List.length_take];omega),List.drop_eq_nil_of_le (by rw[List.length_take];omega)]
   rfl
  refine gam ?_
  refine oP (Pure.ssliceE (l:=s) (m:=[s[i]]) (i:=(i:Nat)) (j:=(i:Int)+1) rfl ⟨_,rfl⟩ ⟨_,rfl⟩ zo zo zo hsl) rfl ?_
  refine gam ?_
  refine oS (S.fn [_,_] rfl (contains_spec hG hM signW [s[i]] (by decide)) ?_) rfl
  rw[sign_has (h _ (List.getElem_mem hlt))]
  refine gam ?_
  refine oC rfl (fun hc=>by cases hc) (fun _=>?_)
  refine gam ?_
  exact ⟨_,_,_,by omega,⟨i+1,by omega,rfl,rfl,rfl⟩,⟨rfl,rfl,int_eq zo,trivial⟩,HSub.refl _,hj⟩
 ·refine gam ?_
  exact retRet hj (rC (zrt rfl) (zra rfl)) rfl
theorem form_walk (hG:GW B0 w0) (hM:Asm.GM w0) (s:List UInt8) (o:Org) (o1:I64 o.code) (o2:I64 o.scalars) (o3:I64 o.arrays):LCalls (KC B0 w0) 6 [str s,orgLV o] [] (Ret (bool true)):=by
 have hb:=build_spec (B0:=B0) (w0:=w0) hG hM s o o1 o2 o3
 have haw:=awake_spec (B0:=B0) (w0:=w0) hG hM
 have hfacts:∀ x,bldR (parseP s) o=(x,0,0)→x.length≤40000∧∀ c∈x,codeSet.contains c=true∨c=32:=fun x hx=>by
  unfold bldR at hx
  split at hx
  ·rename_i h1
   exact absurd (congrArg (·.2.2) hx) h1
  ·split at hx
   ·rename_i e he
    have:=cmp_ne (build_err he)
    exact absurd (congrArg (·.2.2) hx) this
   ·rename_i y hy
    have:=form_law hy
    have e1:y=x:=congrArg (·.1) hx
    rw[←e1]
    exact this
 have hbad:(bldR (parseP s) o).2.2≠0→(bldR (parseP s) o).1=[]:=fun h=>by
  unfold bldR at h ⊢
  split
  ·rfl
  ·rename_i h1
   rw[if_neg h1] at h
   split at h
   ·rfl
   ·exact absurd rfl h
 have hline:(bldR (parseP s) o).2.2=0→(bldR (parseP s) o).2.1=0:=fun h=>by
  unfold bldR at h ⊢
  split
  ·rename_i h1
   rw[if_pos h1] at h
   exact absurd h h1
  ·split <;> rfl
 generalize bldR (parseP s) o=r at hb hfacts hbad hline
 obtain ⟨x,l,e⟩:=r
 simp only at hbad hline
 unfold bldLV at hb
 have eOr:orgLV o=.agg [int .i64 o.code,int .i64 o.scalars,int .i64 o.arrays]:=rfl
 rw[eOr] at hb ⊢
 simp only at hb
 refine cI Tryz.func6 rfl (n:=78) rfl rfl rfl ?_
 refine gad ?_
 refine oS (S.box rfl fun b3=>?_) rfl
 refine gad ?_
 refine oS (S.fn [_,_] rfl hb ?_) rfl
 refine gad ?_
 refine oB 22 rfl (fun h1=>?_) (fun h1=>?_)
 ·refine gad ?_
  refine oC rfl (fun _=>?_) (fun hc=>by cases hc)
  refine gad ?_
  by_cases he:e=0
  ·subst he
   refine oB 28 rfl (fun _=>?_) (fun hc=>by cases hc)
   refine gad ?_
   refine oS (S.fn [] rfl haw ?_) rfl
   refine gad ?_
   exact retRet rfl (zra rfl) rfl
  ·obtain rfl:=hbad he
   refine oB 28 rfl (fun hc=>absurd (zt hc) he) (fun _=>?_)
   refine gad ?_
   refine oS (S.fn [] rfl haw ?_) rfl
   refine gad ?_
   exact retRet rfl (zra rfl) rfl
 refine gad ?_
 refine oC rfl (fun hc=>?_) (fun hc=>?_)
 ·refine gad ?_
  by_cases he:e=0
  ·subst he
   refine oB 28 rfl (fun _=>?_) (fun hc=>by cases hc)
   refine gad ?_
   refine oS (S.fn [] rfl haw ?_) rfl
   refine gad ?_
   exact retRet rfl (zra rfl) rfl
  ·obtain rfl:=hbad he
   refine oB 28 rfl (fun hc=>absurd (zt hc) he) (fun _=>?_)
   refine gad ?_
   refine oS (S.fn [] rfl haw ?_) rfl
   refine gad ?_
   exact retRet rfl (zra rfl) rfl
 have he0:e=0:=by simpa using hc
 subst he0
 obtain rfl:=hline rfl
 obtain ⟨hx4,hxc⟩:=hfacts x rfl
 refine gad ?_
 refine oS (S.fn [_] rfl (mcheck_spec hG hM x zo hxc) ?_) rfl
 refine gad ?_
 refine oL (fun k ls H=>∃ i:Nat,i≤x.length∧k=x.length-i∧ls=[(5,str x),(10,bool true),(56,int .i64 x.length),(57,int .i64 (i:Nat))]∧H=[])
  ⟨_,_,_,⟨0,Nat.zero_le _,rfl,rfl,rfl⟩,⟨rfl,bool_eq (decide_eq_true zo),rfl,rfl,trivial⟩,HSub.nil _⟩ ?_
 rintro k ls H ⟨i,hi,rfl,rfl,rfl⟩ j hj
 refine gad ?_
 refine oC rfl (fun hc=>?_) (fun hc=>?_)
 ·have hlt:i<x.length:=by have:=zt hc;omega
  obtain ⟨p1,p2⟩:=sign_print (hxc _ (List.getElem_mem hlt))
  have hget:x[((i:Nat):Int).toNat]? = some x[i]:=by rw[Int.toNat_natCast,List.getElem?_eq_getElem hlt]
  refine gad ?_
  refine oP (Pure.sindex (c:=x[i]) rfl rfl zo hget) rfl ?_
  refine gad ?_
  refine oB 67 rfl (fun _=>?_) (fun hc=>?_)
  rotate_left
  ·have:=zf hc;omega
  refine gad ?_
  refine oP (Pure.sindex (c:=x[i]) rfl rfl zo hget) rfl ?_
  refine gad ?_
  exact ⟨_,_,_,by omega,⟨i+1,by omega,rfl,rfl,rfl⟩,⟨rfl,bool_eq (decide_eq_true zo),rfl,int_eq zo,trivial⟩,HSub.refl _,hj⟩
 ·refine gad ?_
  refine oS (S.fn [] rfl haw ?_) rfl
  refine gad ?_
  exact retRet hj (zra rfl) rfl
end
end Go.Proofs.YtpokklffoihafaaGreatDoor.Cmp
namespace Go.Proofs.YtpokklffoihafaaGreatDoor
open Go.GL Go.RowKit Go.Stele
set_option maxRecDepth 100000
set_option maxHeartbeats 4000000
theorem pfs_nth:∀ (l:List FnD) (ts:List KT),PFs l ts→∀ f∈l,∃ t d,PF f t d∧t.length≤ts.length
 |[],_,_,_,h=>by cases h
 |a::l,ts,hp,f,h=>by
  cases hp with
  |cons hf hd hl=>
   rcases List.mem_cons.1 h with rfl|h
   ·exact ⟨_,_,hf,by simp only[List.length_append];omega⟩
   ·obtain ⟨t,d,h1,h2⟩:=pfs_nth l _ hl f h
    exact ⟨t,d,h1,by simp only[List.length_append];omega⟩
theorem varK_count (l:List (List UInt8)):l.length≤(varK l).length:=by
 rw[varK_len]
 split
 ·rename_i h;subst h;simp
 ·omega
theorem fmt_ok {p:Pr} {ts:List KT} (hp:PP p ts) (hz:ts.length≤1500) (hn:nPr p≤1000000000):FmtOk p:=by
 have hsz:=print_size hp
 cases hp with
 |mk hv ha hf=>
  rename_i v a f t
  simp only[List.length_append,arK_len] at hz
  have h1:=varK_count v
  unfold nPr at hn
  simp only at hn
  have h2:=nFns_len f
  refine ⟨by simp only;omega,by simp only;omega,fun x hx=>(ha x hx).2,by simp only;omega,fun x hx=>?_,?_⟩
  ·simp only at hx
   have h3:=nFns_mem hx
   obtain ⟨t',d,h4,h5⟩:=pfs_nth f t hf x hx
   unfold nFn at h3
   refine ⟨by omega,by omega,by omega,?_⟩
   cases h4 with
   |mk k1 k2 k3 k4=>
    simp only[List.length_append,List.length_cons] at h5
    exact pssOk k4 zo
  ·simp only[List.length_append,arK_len] at hsz
   omega
end Go.Proofs.YtpokklffoihafaaGreatDoor
namespace Go.Proofs.YtpokklffoihafaaGreatDoor.Cmp
open Go.GL Go.RowKit Go.Stele
open Go.Lib (decDigits itoa join)
set_option maxRecDepth 100000
set_option maxHeartbeats 4000000
attribute [local irreducible] LOps LCode LStep LCalls Go.GL.Pure QThen QBlock RetPost LQ LAny LLate LLateOp LS
section
variable {B0:Nat} {w0:World}
theorem stages_walk (hG:GW B0 w0) (hM:Asm.GM w0) (s:List UInt8) (o:Org) (o1:I64 o.code) (o2:I64 o.scalars) (o3:I64 o.arrays):LCalls (KC B0 w0) 7 [str s,orgLV o] [] (Ret (bool true)):=by
 have haw:=awake_spec (B0:=B0) (w0:=w0) hG hM
 have hb:=build_spec (B0:=B0) (w0:=w0) hG hM s o o1 o2 o3
 have hps:=parse_any (B0:=B0) (w0:=w0) hG s
 have hsz:=parse_size s
 have hpo:=parseP_ok s
 have hpp:=@parse_print s
 have eOr:orgLV o=.agg [int .i64 o.code,int .i64 o.scalars,int .i64 o.arrays]:=rfl
 refine cI Tryz.func7 rfl (n:=120) rfl rfl rfl ?_
 refine gaj ?_
 refine oS (S.box rfl fun b3=>?_) rfl
 refine gaj ?_
 refine oC rfl (fun h1=>?_) (fun h1=>?_)
 ·refine gaj ?_
  refine oS (S.fn [] rfl haw ?_) rfl
  refine gaj ?_
  exact retRet rfl (zra rfl) rfl
 have hlen:s.length≤1500:=by have:=zf h1;omega
 obtain ⟨ts,hpp,hts,_⟩:=hpp hlen
 generalize parseP s=r at hb hps hsz hpo hpp
 obtain ⟨p,l,e⟩:=r
 simp only at hsz hpo hpp
 have hfo:=fmt_ok hpp hts hpo.size
 have hcp:=compile_pr (B0:=B0) (w0:=w0) hG hM hsz (by decide) o o1 o2 o3
 generalize hR:bldR (p,l,e) o=R at hb
 have hR0:=hR
 unfold bldR at hR
 simp only at hR
 unfold bldLV at hb
 rw[eOr] at hb hcp
 refine gaj ?_
 refine oS (S.fn [_,_] rfl hb ?_) rfl
 refine gaj ?_
 refine oS (S.fn [_] rfl hps ?_) rfl
 unfold encParse
 simp only
 refine gaj ?_
 refine oS (S.alloc fun b8=>?_) rfl
 refine gaj ?_
 by_cases hc0:e=0
 rotate_left
 ·rw[if_pos hc0] at hR
  subst hR
  refine oC rfl (fun _=>?_) (fun hc=>?_)
  rotate_left
  ·have h2:(!decide (e=0))=false:=hc
   simp at h2
   exact absurd h2 hc0
  refine gaj ?_
  refine oB 47 rfl (fun _=>?_) (fun hc=>absurd rfl (zf hc))
  refine gaj ?_
  refine oB 52 rfl (fun _=>?_) (fun hc=>absurd rfl (zf hc))
  refine gaj ?_
  refine oS (S.fn [] rfl haw ?_) rfl
  refine gaj ?_
  exact retRet rfl (zra rfl) rfl
 refine oC rfl (fun hc=>?_) (fun _=>?_)
 ·have h2:(!decide (e=0))=true:=hc
  simp[hc0] at h2
 rw[if_neg (by simpa using hc0)] at hR
 subst hc0
 cases hcm:cmpP p.vars (arrsP p) p.funcs o with
 |error er=>
  have hne:=cmp_ne hcm
  have hbc:buildC p.vars (arrsP p) p.funcs o=.error er:=by unfold buildC;rw[hcm]
  rw[hbc] at hR
  simp only at hR
  subst hR
  rw[hcm] at hcp
  refine gaj ?_
  refine oS (S.fn [_,_] rfl hcp ?_) rfl
  unfold cmpLV
  refine gaj ?_
  refine oC rfl (fun _=>?_) (fun hc=>?_)
  rotate_left
  ·have h2:(!decide (er=0))=false:=hc
   simp at h2
   exact absurd h2 hne
  refine gaj ?_
  refine oB 74 rfl (fun _=>?_) (fun hc=>absurd rfl (zf hc))
  refine gaj ?_
  refine oS (S.fn [] rfl haw ?_) rfl
  refine gaj ?_
  exact retRet rfl (zra rfl) rfl
 |ok t=>
  obtain ⟨x,hx,hbc⟩:=cmp_asm hcm
  rw[hbc] at hR
  simp only at hR
  subst hR
  have htl:=asm_len hsz (by decide) hcm
  have hasm:=Asm.assemble_spec (B0:=B0) (w0:=w0) hG hM t o.code htl
  rw[hx] at hasm
  rw[hcm] at hcp
  refine gaj ?_
  refine oS (S.fn [_,_] rfl hcp ?_) rfl
  unfold cmpLV
  refine gaj ?_
  refine oC rfl (fun hc=>by cases hc) (fun _=>?_)
  refine gaj ?_
  refine oS (S.fn [_,_] rfl hasm ?_) rfl
  unfold Asm.asmLV
  refine gaj ?_
  refine oC rfl (fun hc=>?_) (fun _=>?_)
  ·have h2:(!decide (x.1=x.1))=true:=hc
   simp at h2
  refine gaj ?_
  refine oS (S.fn [_] rfl (Format_spec hG p hfo) ?_) rfl
  refine gaj ?_
  refine oC rfl (fun h3=>?_) (fun h3=>?_)
  ·refine gaj ?_
   refine oS (S.fn [] rfl haw ?_) rfl
   refine gaj ?_
   exact retRet rfl (zra rfl) rfl
  have hl6:(formatP p).length≤60000:=by have:=zf h3;omega
  obtain ⟨_,hq⟩:=print_parse hpp hl6
  have hb2:=build_spec (B0:=B0) (w0:=w0) hG hM (formatP p) o o1 o2 o3
  have hR2:bldR (p,0,0) o=(x.1,0,0):=by
   unfold bldR
   rw[if_neg (fun h=>h rfl)]
   simp only
   rw[hbc]
  rw[hq,hR2] at hb2
  unfold bldLV at hb2
  rw[eOr] at hb2
  refine gaj ?_
  refine oS (S.fn [_,_] rfl hb2 ?_) rfl
  refine gaj ?_
  refine oB 117 rfl (fun _=>?_) (fun hc=>absurd rfl (zf hc))
  refine gaj ?_
  refine oS (S.fn [] rfl haw ?_) rfl
  refine gaj ?_
  exact retRet rfl (zra rfl) rfl
end
end Go.Proofs.YtpokklffoihafaaGreatDoor.Cmp
