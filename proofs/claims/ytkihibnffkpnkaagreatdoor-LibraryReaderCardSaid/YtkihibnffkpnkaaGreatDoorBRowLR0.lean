import Derived.Below
import Derived.OrdersHeld
import Derived.Deep.Quiet
set_option linter.unusedVariables false
set_option linter.unusedSimpArgs false
set_option maxRecDepth 100000
set_option maxHeartbeats 4000000
theorem zn{c:Prop}{h:Decidable c}(k:¬c){α:Sort _}{t e:α}:@ite α c h t e=e:=if_neg k
theorem zp{c:Prop}{h:Decidable c}(k:c){α:Sort _}{t e:α}:@ite α c h t e=t:=if_pos k
theorem zLa{α : Type _}{a b : List α} : (a ++ b).length = a.length + b.length := List.length_append
theorem zLc{α : Type _}{a : α}{l : List α} : (a :: l).length = l.length + 1 := rfl
theorem zLn{α : Type _} : ([] : List α).length = 0 := rfl
theorem zLm{α β : Type _}{l : List α}(f : α -> β) : (l.map f).length = l.length := List.length_map f
theorem zLz{α : Type _}(l : List α) : l ++ [] = l := List.append_nil l
theorem zAs{α : Type _}(a b c : List α) : a ++ b ++ c = a ++ (b ++ c) := List.append_assoc a b c
theorem zMs{α : Type _}{a : α}{l : List α} : a ∈ a :: l := List.mem_cons_self ..
theorem zMo{α : Type _}(b : α){a : α}{l : List α}(h : a ∈ l) : a ∈ b :: l := List.mem_cons_of_mem b h
theorem zMi{α : Type _}{a b : α}{l : List α} : a ∈ b :: l ↔ a = b ∨ a ∈ l := List.mem_cons
theorem zPf{α : Type _}(l : List α) : l <+: l := List.prefix_refl l
theorem zMa{α β : Type _}{f : α -> β}{l₁ l₂ : List α} : (l₁ ++ l₂).map f = l₁.map f ++ l₂.map f := List.map_append
theorem zMc{α β : Type _}{f : α -> β}{a : α}{l : List α} : (a :: l).map f = f a :: l.map f := rfl
theorem zPc{α : Type _}{l₁ l₂ : List α} : (l₁ ++ l₂).Perm (l₂ ++ l₁) := List.perm_append_comm
theorem zDe{p : Prop} [Decidable p] : (decide p = true) = p := decide_eq_true_eq
theorem zBa(a b : Bool) : ((a && b) = true) = (a = true /\ b = true) := Bool.and_eq_true a b
theorem zNr(n : Nat) : n <= n := Nat.le_refl n
theorem zNt{a b c : Nat}(h : a <= b)(k : b <= c) : a <= c := Nat.le_trans h k
theorem zCs{α : Type _}{a b : α}(h : a = b := by kernel_rfl) : some a = some b := congrArg some h
theorem zDd{P : Prop}(h : P := by decide) : P := h
theorem zQ0{P Q:Prop}(h:Q)(t:(Unit->Q)->P:=by intro zu;(refine oS (sL [_] rfl (eC rfl rfl eN) rfl rfl rfl ?_) rfl);exact zu ()):P:=t λ_=>h
theorem zQ1{P Q:Prop}(h:Q)(t:(Unit->Q)->P:=by intro zu;(refine gab ?_;refine rR rfl (zra rfl) zhn ⟨?_,rfl⟩);exact zu ()):P:=t λ_=>h
theorem zQ2{P Q:Prop}(h:Q)(t:(Unit->Q)->P:=by intro zu;(refine zl1 (i:=4) zk ?_;refine lW rfl (.inl rfl) rfl (sS (cs':=[_]) rfl zp2 rfl rfl rfl rfl rfl ?_);refine zl1 (i:=5) zk ?_;refine lW rfl (.inl rfl) rfl (sS (cs':=[_]) rfl zp2 rfl rfl rfl rfl rfl ?_);refine lD zk ?_;refine gab ?_);exact zu ()):P:=t λ_=>h
theorem zQ3{P Q:Prop}(h:Q)(t:(Unit->Q)->P:=by intro zu;(refine oS (S.insertK (kt:=30) (el:=113) (kd:=.u32) zk zk rfl rfl rfl pH rfl rfl ?_) rfl;refine oS (S.insertK (kt:=30) (el:=113) (kd:=.u32) zk zk rfl rfl rfl pH rfl rfl ?_) rfl;refine oS (S.insertK (kt:=30) (el:=113) (kd:=.u32) zk zk rfl rfl rfl pH rfl rfl ?_) rfl;refine oS (S.insertK (kt:=30) (el:=113) (kd:=.u32) zk zk rfl rfl rfl pH rfl rfl ?_) rfl);exact zu ()):P:=t λ_=>h
theorem zQ4{P Q:Prop}(h:Q)(t:(Unit->Q)->P:=by intro zu;(refine zl1 (i:=10) zk ?_;refine lH rfl rfl (pN rfl) ?_;refine zl1 (i:=11) zk ?_;refine lH rfl rfl (pF rfl) ?_;refine zl1 (i:=12) zk ?_;refine lW rfl (.inl rfl) rfl (sS (n:=1) (vs:=[v']) (cs':=[_,_,_,_,_,v',_,_,_,_]) rfl pH (qnL hacc').1 rfl rfl (qnL hacc').2 rfl ?_);refine lD zk ?_;refine gab ?_);exact zu ()):P:=t λ_=>h
theorem zQ5{P Q:Prop}(h:Q)(t:(Unit->Q)->P:=by intro zu;(refine oS (sL [_,_] rfl (qaY [_,_]) rfl rfl rfl ?_) rfl);exact zu ()):P:=t λ_=>h
theorem zQ6{P Q:Prop}(h:Q)(t:(Unit->Q)->P:=by intro zu;(refine gar ?_;refine oS (sF [] rfl h1 ?_) rfl;refine oS (sF [] rfl h2 ?_) rfl;refine oP (Pure.sadd rfl rfl (by first|omega|(simp only[zLa];omega))) rfl ?_;refine oS (sF [] rfl h3 ?_) rfl;refine oP (Pure.sadd rfl rfl (by first|omega|(simp only[zLa];omega))) rfl ?_);exact zu ()):P:=t λ_=>h
theorem zQ7{P Q:Prop}(h:Q)(t:(Unit->Q)->P:=by intro zu;(refine aT 0 rfl rfl (pM (lv:=.atom _) rfl) ?_;refine aT 1 rfl rfl (pM (lv:=.atom _) rfl) ?_;refine aT 2 rfl rfl (pN rfl) ?_;refine aT 3 rfl rfl (pF rfl) ?_);exact zu ()):P:=t λ_=>h
theorem zQ8{P Q:Prop}(h:Q)(t:(Unit->Q)->P:=by intro zu;(refine zl1 (i:=11) zk ?_;refine lH rfl rfl (pN rfl) ?_;refine zl1 (i:=12) zk ?_;refine lH rfl rfl (pF rfl) ?_;refine zl1 (i:=13) zk ?_;refine lW rfl (.inl rfl) rfl (sS (n:=1) (vs:=[LV.atom v']) (cs':=[_,_,_,_,_,_,_,_,_,_]) rfl pH (qlh hm').1 rfl rfl (qlh hm').2 rfl ?_);refine lD zk ?_;refine gaa ?_);exact zu ()):P:=t λ_=>h
theorem zQ9{P Q:Prop}(h:Q)(t:(Unit->Q)->P:=by intro zu;(refine aT 0 rfl rfl (pM (lv:=.atom _) rfl) ?_;refine aT 1 rfl rfl (pN rfl) ?_;refine aT 2 rfl rfl (pF rfl) ?_);exact zu ()):P:=t λ_=>h
theorem zQ10{P Q:Prop}(h:Q)(t:(Unit->Q)->P:=by intro zu;(refine gaa ?_;refine oP (xR (el':=encE x) (cs:=[_,_,_,_]) rfl rfl zDd rfl rfl rfl) rfl ?_;refine gad ?_);exact zu ()):P:=t λ_=>h
theorem zQ11{P Q:Prop}(h:Q)(t:(Unit->Q)->P:=by intro zu;(refine oS (sL [_] rfl (qaY [_]) rfl rfl rfl ?_) rfl);exact zu ()):P:=t λ_=>h
theorem zQ12{P Q:Prop}(h:Q)(t:(Unit->Q)->P:=by intro zu;(refine cD (m:=7) rfl [(b1,.cells 179 [.list (v.map str),.atom (.map (some m))])] ?_;refine aT 0 rfl rfl (pM (lv:=.atom _) rfl) ?_;refine aT 1 rfl rfl (pF rfl) ?_;refine aT 2 rfl rfl (pL (c:=.list _) rfl zm0 rfl) ?_;refine aT 3 rfl rfl (pM (lv:=.atom _) rfl) ?_;refine LAny.take (i:=4) zhr rfl zk zk zk rfl (Pure.lslice (es:=v.map str) (i:=0) (j:=(n:Int)) rfl rfl ⟨_,rfl⟩ zo zo (by rw[hla];omega) (qey v)) ?_;refine aT 5 rfl rfl (pA (lv:=.atom _) rfl) ?_;refine aT 6 rfl rfl (pA (lv:=.list _) rfl) ?_);exact zu ()):P:=t λ_=>h
theorem zQ13{P Q:Prop}(h:Q)(t:(Unit->Q)->P:=by intro zu;(refine cD (m:=11) rfl [(b3,.cells 193 [int .i64 kind,str name,.list (([]:List Ex).map encE),.list ([x0].map encE),.list (thn.map encS),.list (els.map encS)])] ?_;refine aT 0 rfl rfl (pM (lv:=.atom _) rfl) ?_;refine aT 1 rfl rfl (pM (lv:=.atom _) rfl) ?_;refine aT 2 rfl rfl (pF rfl) ?_;refine aT 3 rfl rfl (pL (c:=.list _) rfl zm0 rfl) ?_;refine aT 5 rfl rfl (pM (lv:=.atom _) rfl) ?_;refine aT 6 rfl rfl (pF rfl) ?_;refine aT 7 rfl rfl (pL (c:=.list _) rfl zm0 rfl) ?_);exact zu ()):P:=t λ_=>h
theorem zQ14{P Q:Prop}(h:Q)(t:(Unit->Q)->P:=by intro zu;(refine oP (pM (lv:=v) rfl) rfl ?_);exact zu ()):P:=t λ_=>h
theorem zQ15{P Q:Prop}(h:Q)(t:(Unit->Q)->P:=by intro zu;(refine aT 9 rfl rfl (pM (lv:=.atom _) rfl) ?_;refine aT 10 rfl rfl (pN rfl) ?_;refine aT 11 rfl rfl (pF rfl) ?_;refine aT 12 rfl rfl (pL (c:=.atom _) rfl zm1 rfl) ?_;refine aL ?_ (zhP pH zhp));exact zu ()):P:=t λ_=>h
theorem zQ16{P Q:Prop}(h:Q)(t:(Unit->Q)->P:=by intro zu;(refine lO 6 (lH rfl rfl (pF rfl) ?_);refine lO 7 (lW rfl (.inl rfl) rfl (sS (cs':=[v1,v',v3]) rfl zp1 (Acc.cell ha').1 rfl rfl (Acc.cell ha').2 rfl ?_));refine lD zk ?_;refine gab ?_);exact zu ()):P:=t λ_=>h
theorem zQ17{P Q:Prop}(h:Q)(t:(Unit->Q)->P:=by intro zu;(refine lO 6 (lH rfl rfl (pF rfl) ?_);refine lO 7 (lW rfl (.inl rfl) rfl (sS (cs':=[v1,v2,v']) rfl zp1 (Acc.cell ha').1 rfl rfl (Acc.cell ha').2 rfl ?_));refine lD zk ?_;refine gab ?_);exact zu ()):P:=t λ_=>h
theorem zQ18{P Q:Prop}(h:Q)(t:(Unit->Q)->P:=by intro zu;(refine gak ?_;refine oP (xR (el':=qcn l[i]) (cs:=[_,_]) rfl rfl zo (qbj _ _ _ hlt) rfl rfl) rfl ?_;refine gad ?_);exact zu ()):P:=t λ_=>h
theorem zQ19{P Q:Prop}(h:Q)(t:(Unit->Q)->P:=by intro zu;(refine oP (pA (lv:=v') rfl) rfl ?_);exact zu ()):P:=t λ_=>h
theorem zQ20{P Q:Prop}(h:Q)(t:(Unit->Q)->P:=by intro zu;(refine zl1 (i:=8) zk ?_;refine lW rfl (.inl rfl) rfl (sL (es:=[int .u8 (IntKind.u8.wrap (v:Int))]) [_] rfl (eC rfl rfl eN) rfl rfl rfl ?_);refine zl1 (i:=9) zk ?_);exact zu ()):P:=t λ_=>h
theorem zQ21{P Q:Prop}(h:Q)(t:(Unit->Q)->P:=by intro zu;(refine lO 9 (lH rfl rfl (Pure.max3e (qba c x0) (qbN c thn) (qbN c els) rfl rfl rfl rfl rfl rfl) ?_);refine lO 10 (lH rfl rfl (pA (lv:=.atom _) rfl) ?_);refine lD zk ?_;refine gac ?_;refine oP (Pure.max2e 2 (max (max (qba c x0) (qbN c thn)) (qbN c els)) rfl rfl rfl rfl) rfl ?_;refine gaf ?_);exact zu ()):P:=t λ_=>h
theorem zQ22{P Q:Prop}(h:Q)(t:(Unit->Q)->P:=by intro zu;(refine lW rfl (.inl rfl) rfl (sS (cs':=[_]) rfl zp2 rfl rfl rfl rfl rfl ?_);refine zl1 (i:=2) zk ?_;refine lH rfl rfl (pL (c:=.atom _) rfl zm2 rfl) ?_;refine zl1 (i:=5) zk ?_;refine lW rfl (.inl rfl) rfl (sS (cs':=[_]) rfl zp2 rfl rfl rfl rfl rfl ?_);refine lD zk ?_;refine gab ?_);exact zu ()):P:=t λ_=>h
theorem zQ23{P Q:Prop}(h:Q)(t:(Unit->Q)->P:=by intro zu;(refine qea.seq (qea.recover rfl rfl ?_);refine qea.of ?_);exact zu ()):P:=t λ_=>h
theorem zQ24{P Q:Prop}(h:Q)(t:(Unit->Q)->P:=by intro zu;(refine lW rfl (.inl rfl) rfl (sS (cs':=[_,_,_]) rfl zp2 rfl rfl rfl rfl rfl ?_));exact zu ()):P:=t λ_=>h
theorem zQ25{P Q:Prop}(h:Q)(t:(Unit->Q)->P:=by intro zu;(refine qaU.seq (qaU.region ?_);refine gad ?_);exact zu ()):P:=t λ_=>h
theorem zQ26{P Q:Prop}(h:Q)(t:(Unit->Q)->P:=by intro zu;(refine oP (Pure.sadd rfl rfl (by first|omega|(simp only[zLa];omega))) rfl ?_;refine gaf ?_);exact zu ()):P:=t λ_=>h
theorem zQ27{P Q:Prop}(h:Q)(t:(Unit->Q)->P:=by intro zu;(refine lW rfl (.inl rfl) rfl (sL [_] rfl (eC rfl rfl eN) rfl rfl rfl ?_));exact zu ()):P:=t λ_=>h
theorem zQ28{P Q:Prop}(h:Q)(t:(Unit->Q)->P:=by intro zu;(refine LAny.takeSkip (i:=3) rfl rfl rfl rfl zk zk zk rfl ?_;refine LAny.takeSkip (i:=4) rfl rfl rfl rfl zk zk zk rfl ?_;refine LAny.takeSkip (i:=5) rfl rfl rfl rfl zk zk zk rfl ?_;refine LAny.takeSkip (i:=6) rfl rfl rfl rfl zk zk zk rfl ?_);exact zu ()):P:=t λ_=>h
theorem zQ29{P Q:Prop}(h:Q)(t:(Unit->Q)->P:=by intro zu;(refine qag.quiet zk ?_;refine gad ?_);exact zu ()):P:=t λ_=>h
theorem zQ30{P Q:Prop}(h:Q)(t:(Unit->Q)->P:=by intro zu;(refine zQ14 ?_;refine oP (pA (lv:=v) rfl) rfl ?_;refine gaf ?_);exact zu ()):P:=t λ_=>h
theorem zQ31{P Q:Prop}(h:Q)(t:(Unit->Q)->P:=by intro zu;(refine cD (m:=6) rfl [(b2,.cells 129 [ptr k.tb 0]),exB b3 op num name [x,y]] ?_;refine aT 0 rfl rfl (pL (c:=.atom _) rfl zm0 rfl) ?_;refine aT 1 rfl rfl (pF rfl) ?_;refine aT 2 rfl rfl (pL (c:=.list _) rfl zm1 rfl) ?_);exact zu ()):P:=t λ_=>h
theorem zQ32{P Q:Prop}(h:Q)(t:(Unit->Q)->P:=by intro zu;(refine qaU.seq (qaU.of ?_));exact zu ()):P:=t λ_=>h
theorem zQ33{P Q:Prop}(h:Q)(t:(Unit->Q)->P:=by intro zu;(refine lO 4 (lW rfl (.inl rfl) rfl (sL [_] rfl (eC rfl rfl eN) rfl rfl rfl ?_)));exact zu ()):P:=t λ_=>h
theorem zQ34{P Q:Prop}(h:Q)(t:(Unit->Q)->P:=by intro zu;(refine oP (xR (el':=qbm f) (n:=((fs.map qbm).length:Int)-1) (cs:=[str f.name,.list (f.params.map str),.list (f.locals.map str),.list (f.body.map encS)]) rfl rfl hn0 hget rfl rfl) rfl ?_;refine gad ?_);exact zu ()):P:=t λ_=>h
theorem zQ35{P Q:Prop}(h:Q)(t:(Unit->Q)->P:=by intro zu;(refine aT 2 rfl rfl (pM (lv:=.atom _) rfl) ?_);exact zu ()):P:=t λ_=>h
theorem zQ36{P Q:Prop}(h:Q)(t:(Unit->Q)->P:=by intro zu;(refine gaa ?_;refine oP (xR (el':=encE v) (cs:=[_,_,_,_]) rfl rfl zDd rfl rfl rfl) rfl ?_;refine gad ?_);exact zu ()):P:=t λ_=>h
theorem zQ37{P Q:Prop}(h:Q)(t:(Unit->Q)->P:=by intro zu;(refine zQ14 ?_;refine oP (xR (el':=iv n0) (cs:=[iv n0]) hel rfl zo rfl rfl rfl) rfl ?_;refine gad ?_);exact zu ()):P:=t λ_=>h
theorem zQ38{P Q:Prop}(h:Q)(t:(Unit->Q)->P:=by intro zu;(refine zQ7 ?_;refine aT 5 rfl rfl (pF rfl) ?_;refine aT 6 rfl rfl (pL (c:=.atom _) rfl zm0 rfl) ?_);exact zu ()):P:=t λ_=>h
theorem zQ39{P Q:Prop}(h:Q)(t:(Unit->Q)->P:=by intro zu;(refine lO 5 (lH rfl rfl (pF rfl) ?_);refine lO 6 (lW rfl (.inl rfl) rfl (sS (cs':=[v',v2,v3]) rfl zp1 (Acc.cell ha').1 rfl rfl (Acc.cell ha').2 rfl ?_));refine lD zk ?_;refine gab ?_);exact zu ()):P:=t λ_=>h
theorem zQ40{P Q:Prop}(h:Q)(t:(Unit->Q)->P:=by intro zu;(refine PW.once h hw ?_ (by rw[qjx zDd];exact zNr 1));exact zu ()):P:=t λ_=>h
theorem zQ41{P Q:Prop}(h:Q)(t:(Unit->Q)->P:=by intro zu;(refine qcf.nil ?_;refine qN ?_);exact zu ()):P:=t λ_=>h
theorem zQ42{P Q:Prop}(h:Q)(t:(Unit->Q)->P:=by intro zu;(refine zl1 (i:=7) zk ?_;refine lH rfl rfl (pA (lv:=.atom _) rfl) ?_;refine lD zk ?_;refine gaf ?_;refine⟨⟨mb,mm,bm⟩,trivial,⟨rfl,rfl,rfl,rfl,trivial⟩,?_,rfl⟩);exact zu ()):P:=t λ_=>h
theorem zQ43{P Q:Prop}(h:Q)(t:(Unit->Q)->P:=by intro zu;(refine cD (m:=8) rfl [(b1,.cells 179 [.list (v.map str),.atom (.map (some m))])] ?_;refine aT 0 rfl rfl (pM (lv:=.atom _) rfl) ?_;refine aT 1 rfl rfl (pM (lv:=.atom _) rfl) ?_);exact zu ()):P:=t λ_=>h
theorem zQ44{P Q:Prop}(h:Q)(t:(Unit->Q)->P:=by intro zu;(refine oS (S.insertK (kt:=30) (el:=113) (kd:=.u32) zk zk rfl rfl rfl pH rfl rfl ?_) rfl;refine oS (S.insertK (kt:=30) (el:=113) (kd:=.u32) zk zk rfl rfl rfl pH rfl rfl ?_) rfl);exact zu ()):P:=t λ_=>h
theorem zQ45{P Q:Prop}(h:Q)(t:(Unit->Q)->P:=by intro zu;(refine lO 7 (lH rfl rfl (Pure.indexRowE (o:=a) rfl rfl zo zo zo) ?_));exact zu ()):P:=t λ_=>h
theorem zQ46{P Q:Prop}(h:Q)(t:(Unit->Q)->P:=by intro zu;(refine aL ?_ zhr;refine lO 1 (lS (H1:=[]) rfl (.inl rfl) rfl zpr zhr (sF [_,_] rfl k0 ?_)));exact zu ()):P:=t λ_=>h
theorem zQ47{P Q:Prop}(h:Q)(t:(Unit->Q)->P:=by intro zu;(refine aL ?_ zhr;refine lD zk ?_);exact zu ()):P:=t λ_=>h
theorem zQ48{P Q:Prop}(h:Q)(t:(Unit->Q)->P:=by intro zu;(refine gak ?_;refine oP (xR (el':=encArG s) (cs:=[str s.1,int .i64 s.2]) rfl rfl zo (by rw[hLe];exact get_mid encArG pre s l2) rfl rfl) rfl ?_;refine gad ?_);exact zu ()):P:=t λ_=>h
theorem zQ49{P Q:Prop}(h:Q)(t:(Unit->Q)->P:=by intro zu;(refine lH rfl rfl (pL (c:=.atom _) rfl zm1 rfl) ?_);exact zu ()):P:=t λ_=>h
theorem zQ50{P Q:Prop}(h:Q)(t:(Unit->Q)->P:=by intro zu;(refine gaj ?_;refine oP (pI (c:=c1) rfl rfl zDd rfl) rfl ?_);exact zu ()):P:=t λ_=>h
theorem zQ51{P Q:Prop}(h:Q)(t:(Unit->Q)->P:=by intro zu;(refine zQ9 ?_;refine aT 3 rfl rfl (pL (c:=.atom _) rfl zm1 rfl) ?_;refine aT 4 rfl rfl (pF rfl) ?_;refine aT 5 rfl rfl (pL (c:=.atom _) rfl zm0 rfl) ?_);exact zu ()):P:=t λ_=>h
theorem zQ52{P Q:Prop}(h:Q)(t:(Unit->Q)->P:=by intro zu;(refine oP (pI (c:=a) rfl rfl zo hget) rfl ?_;refine gad ?_);exact zu ()):P:=t λ_=>h
theorem zQ53{P Q:Prop}(h:Q)(t:(Unit->Q)->P:=by intro zu;(refine gac ?_;refine oS (sL [_,_,_] rfl (qaY [_,_,_]) rfl rfl rfl ?_) rfl);exact zu ()):P:=t λ_=>h
theorem zT0{P : Prop}(h : P := by
  simp only[qfE]
  rw[Array.getD_eq_getD_getElem?]
  rcases Nat.lt_or_ge i args.length with hi|hi
  ·rw[List.getElem?_eq_getElem hi]
   obtain⟨x,hx,hr⟩:=hv.get (List.getElem?_eq_getElem hi)
   have hxi:(vs.toArray++Array.replicate (fn.ntmps-vs.toArray.size) undef)[i]? = some x:=by
    rw[Array.getElem?_append_left (by simp;omega)]
    simpa using hx
   rw[hxi]
   exact hr
  ·rw[List.getElem?_eq_none hi]
   have hxi:((vs.toArray++Array.replicate (fn.ntmps-vs.toArray.size) undef)[i]?).getD undef=undef:=by
    rw[Array.getElem?_append_right (by simp;omega)]
    rw[Array.getElem?_replicate]
    try split <;> rfl
   rw[hxi]
   simp only[Option.getD_none,Rep]) : P := h
theorem zT1{P : Prop}(h : P := by
  refine zl1 (i:=10) zk ?_
  refine lW rfl (.inl rfl) rfl (S.appM (HM:=HC) (F:=_::(HD3++(k.memH s.mem::k.binH::HO))) rfl qxg hC rfl (by simp;rfl) rfl (by simp;omega) λv' H' hm'=>?_)
  refine zQ8 ?_
  have hm3:MRow 30 1 v' (us (s.pc::s.calls).reverse) H':=by
   rw[List.reverse_cons,qg7]
   exact hm'
  exact rO hjj rN ⟨[],by rw[zLz];exact zPc.trans qxg.symm⟩ ⟨rfl,v',H',vo,HO,_::HD3,hm3,hO,⟨vd2,HD3,hm2,rfl⟩,rfl⟩) : P := h
theorem zT2{P : Prop}(h : P := by
  refine gab ?_
  exact⟨⟨rfl,rfl,rfl,qau (hc.trans (dig_t (zt hc) zDd)),trivial⟩,rfl,rfl⟩) : P := h
theorem zT3{P : Prop}(h : P := by
  rw[hr2,h3,qat] at hI
  refine gae ?_
  exact qad.panic (he'.trans (hj2.trans hj)) (qtY (A:=[(b5,LObj.cells 202 [str (exOp ex),int .u32 (qe2 ex),str (qcW ex),.list (qbO ex)]),(b,LObj.cells 202 [str [],int .u32 0,str [],qab])]) (B:=[(bo,LObj.cells 213 [.atom (.func (.func fn) first caps)]),(bs,LObj.cells 80 [ptr sb 0]),(bp,LObj.cells 32 [.list ((qb2 k).map str)]),(bn,LObj.cells 4 [bool (decide ((k:Int)=2))])])) (by cases hI;exact⟨rfl,i3,op3,rfl⟩)) : P := h
theorem zT4{P : Prop}(h : P := by
  rw[hr2,h3,qat] at hI
  refine gae ?_
  exact panP (he'.trans (hj2.trans hj)) (by cases hI;rfl) zhp) : P := h
theorem zT5{P : Prop}(h : P := by
  refine zl1 (i:=1) zk ?_
  refine lH rfl rfl (pL (c:=.atom _) rfl zm2 rfl) ?_
  refine zQ2 ?_
  have hp:qa6 s=(noPr,l,er):=by rw[qa6,hL]
  rw[hp]
  exact⟨[qgA noPr,int .i64 l,int .i64 er],[],rC (rA (k:=3) (cs:=[qab,qab,qab]) rfl memA rfl (vA (bs:=[.list [],.list [],.list []]) ⟨vN,vN,vN,trivial⟩)) (rC (qdb.cellOne (cs:=[int .i64 l]) rfl memA rfl zsr) (rC (qdb.cellOne (cs:=[int .i64 er]) rfl memA rfl zsr) rN)),HSub.nil _,rfl,rfl⟩) : P := h
theorem zT6{P : Prop}(h : P := by
  refine zQ1 ?_
  simp only[q1,q2,Bool.false_and,Bool.and_false,Bool.true_and]
  rfl) : P := h
theorem zT7{P : Prop}(h : P := by
  refine zl1 (i:=3) zk ?_
  refine zQ24 ?_
  refine zQ2 ?_
  have hp:qa6 s=(noPr,l,er):=by rw[qa6,hL]
  rw[hp]
  exact⟨[qgA noPr,int .i64 l,int .i64 er],[],rC (rA (k:=3) (cs:=[qab,qab,qab]) rfl memA rfl (vA (bs:=[.list [],.list [],.list []]) ⟨vN,vN,vN,trivial⟩)) (rC (qdb.cellOne (cs:=[int .i64 l]) rfl memA rfl zsr) (rC (qdb.cellOne (cs:=[int .i64 er]) rfl memA rfl zsr) rN)),HSub.nil _,rfl,rfl⟩) : P := h
theorem zT8{P : Prop}(h : P := by
  refine zQ1 ?_
  simp only[q1,Bool.false_and,Bool.and_false,Bool.true_and]
  rfl) : P := h
theorem zT9{P : Prop}(h : P := by
  rw[hr2,h4,qal] at hI
  obtain⟨g1,g2,g3,rfl⟩:=(qcU T k).1 0 _ _ _ (hr2.trans (congrArg some h4))
  have g5:=g3 zo
  have g6:=g2 rfl
  refine zQ0 ?_
  refine oS (S.acc1 rfl hacc rfl (by simp;rfl) rfl (by simp;omega) λv' H' hacc'=>?_) rfl
  refine zQ19 ?_
  refine gab ?_
  exact⟨k,_,_,by omega,⟨v',l++[e2],i4,H',by omega,rfl,rfl,by rw[zMa];exact hacc',by omega,by simp;omega,hI⟩,⟨rfl,rfl,trivial⟩,zhR _,hj⟩) : P := h
theorem zT10{P : Prop}(h : P := by
  refine zl1 (i:=7) zk ?_
  refine lH rfl rfl (Pure.cvt rfl) ?_
  refine zQ20 ?_
  refine lW rfl (.inl rfl) rfl (sG (A:=_::(HD3++(k.memH s.mem::k.binH::HC))) qpY rfl hO rfl (λv hv=>by rw[List.mem_singleton.1 hv];rfl) rfl hroom2 λv' H' hacc'=>?_)
  rw[e1] at hacc'
  refine zQ4 ?_
  exact rO hjj rN ⟨[],by rw[zLz];exact zPc.trans qpY.symm⟩ ⟨rfl,vc,HC,v',H',_::HD3,hC,hacc',⟨vd2,HD3,hm2,rfl⟩,rfl⟩) : P := h
theorem zT11{P : Prop}(h : P := by
  refine zQ49 ?_
  refine zQ2 ?_
  have hp:qa6 s=(noPr,l,er):=by rw[qa6,hL]
  rw[hp]
  exact⟨[qgA noPr,int .i64 l,int .i64 er],[],rC (rA (k:=3) (cs:=[qab,qab,qab]) rfl memA rfl (vA (bs:=[.list [],.list [],.list []]) ⟨vN,vN,vN,trivial⟩)) (rC (qdb.cellOne (cs:=[int .i64 l]) rfl memA rfl zsr) (rC (qdb.cellOne (cs:=[int .i64 er]) rfl memA rfl zsr) rN)),HSub.nil _,rfl,rfl⟩) : P := h
theorem zT12{P : Prop}(h : P := by
  refine zQ1 ?_
  simp only[q1,q2,q3,Bool.false_and,Bool.and_false,Bool.true_and]
  rfl) : P := h
theorem zT13{P : Prop}(h : P := by
  refine zQ22 ?_
  have hp:qa6 s=(noPr,l,er):=by rw[qa6,hL]
  rw[hp]
  exact⟨[qgA noPr,int .i64 l,int .i64 er],[],rC (rA (k:=3) (cs:=[qab,qab,qab]) rfl memA rfl (vA (bs:=[.list [],.list [],.list []]) ⟨vN,vN,vN,trivial⟩)) (rC (qdb.cellOne (cs:=[int .i64 l]) rfl memA rfl zsr) (rC (qdb.cellOne (cs:=[int .i64 er]) rfl memA rfl zsr) rN)),HSub.nil _,rfl,rfl⟩) : P := h
theorem zT14{P : Prop}(h : P := by
  intro h
  have h':_:=zt h
  obtain⟨a1,a2,a3,a4,a5⟩:=h'
  exact⟨⟨⟨⟨by simpa using a1,by omega⟩,by omega⟩,by omega⟩,by omega⟩) : P := h
theorem zT15{P : Prop}(h : P := by
  refine zQ1 ?_
  simp only[q1,q2,q3,q4,Bool.false_and,Bool.and_false,Bool.true_and]
  rfl) : P := h
theorem zT16{P : Prop}(h : P := by
  have e3:n<i:=by have:=zf h3;omega
  rw[zp e3] at hD
  refine gab ?_
  refine zQ12 ?_
  refine zQ47 ?_
  refine gaf ?_
  exact qac (hj2.trans (hj1.trans hj)) (rC (zrt rfl) (rC (rT (v:=.list _) rfl zsr) rN)) (by rw[hD];exact congrArg (λx=>LV.tuple [int .i64 (i:Nat),.list x]) List.map_take.symm)) : P := h
theorem zT17{P : Prop}(h : P := by
  rintro⟨⟨⟨⟨a1,a2⟩,a3⟩,a4⟩,a5⟩
  exact decide_eq_true ⟨by simpa using a1,by omega,by omega,by omega,by omega⟩) : P := h
theorem zT18{P : Prop}(h : P := by
  refine zl1 (i:=5) zk ?_
  refine lH rfl rfl (pB _ (cs:=[_,_,_,_,_,_,_,_,_,_]) rfl) ?_
  refine zl1 (i:=6) zk ?_
  refine lW rfl (.inl rfl) rfl (zsB rfl λmb=>?_)
  refine zQ42 ?_
  first
   |exact zhP pH (zhP pH (zhP pH zhr))
   |exact zhP pH (zhP zp1 (zhP pH zhr))) : P := h
theorem zT19{P : Prop}(h : P := by
  rw[hr1,h2,qat] at hr
  refine gae ?_
  exact panP (he'.trans hj) (by cases hr;rfl) zhp) : P := h
theorem zT20{P : Prop}(h : P := by
  rw[h1,qat] at hr
  refine gal ?_
  exact panP (he'.trans rfl) (by cases hr;rfl) zhp) : P := h
theorem zT21{P : Prop}(h : P := by
  have hk:¬ k=2:=by have:=zf hk2;omega
  rw[zn hk] at hI
  refine gab ?_
  exact⟨q,_,_,by omega,⟨.mk (qeL T i2) 0 [] [ex,e2],i3,by omega,rfl,rfl,q4,hI⟩,⟨rfl,rfl,rfl,rfl,rfl,rfl,trivial⟩,(by rw[qjw];exact zhR _),hj2.trans hj⟩) : P := h
theorem zT22{P : Prop}(h : P := by
  rw[hr1,h1,qat] at hr
  refine gae ?_
  exact panP zb0 (by cases hr;rfl) zhp) : P := h
theorem zT23{P : Prop}(h : P := by
  rw[h,Bool.true_and] at r1
  refine gaj ?_
  refine oS (sF [_] rfl (qmg _ hlen) ?_) rfl
  refine gab ?_
  exact qcl rfl (rC (rT (v:=.atom _) rfl (vR _)) (rC (rT (v:=.atom _) rfl (vR _)) rN)) (qbt.mk r1 r2)) : P := h
theorem zT24{P : Prop}(h : P := by
  right
  cases h:qbn v with
  |none=>rfl
  |some s=>exact absurd ⟨hc,s,h⟩ h3) : P := h
theorem zT25{P : Prop}(h : P := by
  have hRt:R=.trap s:=by
   rw[<-hR2]
   unfold ldM
   cases hd:s.data with
   |nil=>rfl
   |cons x r=>simp only;rw[zn (hb x r hd)]
  subst hRt
  refine gae ?_
  exact qad.panic (he'.trans hjj) zhr (mkT _ _ hD')) : P := h
theorem zT26{P : Prop}(h : P := by
  rw[h1,qat] at hr
  refine gae ?_
  exact panP zb0 (by cases hr;rfl) zhp) : P := h
theorem zT27{P : Prop}(h : P := by
  rw[h3,qat] at hr
  refine gae ?_
  exact panP zb0 (by cases hr;rfl) zhp) : P := h
theorem zT28{P : Prop}(h : P := by
  have hk:k=2:=by have:=zt hk2;omega
  rw[zp hk] at hI
  refine gaa ?_
  exact rR (hj2.trans hj) (rC (rA rfl zm0 rfl zsr) rN) (zhD (zhD zhr)) (by cases hI;exact⟨by rw[qd5];rfl,rfl⟩)) : P := h
theorem zT29{P : Prop}(h : P := by
  refine gac ?_
  exact qac rfl (rC (zrt rfl) (rC (rT (v:=qab) rfl vN) rN)) (by rw[hF];rfl)) : P := h
theorem zT30{P : Prop}(h : P := by
  have e3:¬ n<i:=by have:=zt h3;omega
  rw[zn e3] at hD
  refine gap ?_
  exact qac (hj2.trans (hj1.trans hj)) (rC (zrt rfl) (rC (rT (v:=qab) rfl vN) rN)) (by rw[hD];rfl)) : P := h
theorem zT31{P : Prop}(h : P := by
  injection h with h
  subst h
  simp) : P := h
theorem zT32{P : Prop}(h : P := by
  rw[h,Bool.true_and] at r1
  refine gaj ?_
  refine oS (sF [_] rfl (qe5 _ hlen) ?_) rfl
  refine gab ?_
  exact qcl rfl (rC (zrt rfl) (zra rfl)) (qbt.mk r1 r2)) : P := h
namespace Go.GL
theorem zMt{α:Type _}{a b:α}{l:List α}(h:a∈l):a∈b::l:=List.Mem.tail _ h
theorem zo{P:Prop}(h:P:=by omega):P:=h
theorem zk{P:Prop}(h:P:=by kernel_rfl):P:=h
theorem zRB{α β:Type}(P:Program)(w:World)(x:Sem α)(f:α->Sem β):Sem.run P (x>>=f) w=(Sem.run P x w).andThen λa w'=>Sem.run P (f a) w':=Sem.run_bind ..
theorem zRP{α:Type}(P:Program)(w:World)(a:α):Sem.run P (pure a) w=.ok a w:=Sem.run_pure ..
theorem zRO{α β:Type}(a:α)(w:World)(f:α->World->Result β):(Result.ok a w).andThen f=f a w:=rfl
theorem zpr{α:Type _}{l:List α}:l.Perm l:=List.Perm.refl _
theorem zm0{α:Type _}{a:α}{l:List α}:a∈a::l:=(List.Mem.head _)
theorem zm1{α:Type _}{a b:α}{l:List α}:b∈a::b::l:=(zMt (List.Mem.head _))
theorem zm2{α:Type _}{a b c:α}{l:List α}:c∈a::b::c::l:=(zMt (zMt (List.Mem.head _)))
theorem zm3{α:Type _}{a b c d:α}{l:List α}:d∈a::b::c::d::l:=(zMt (zMt (zMt (List.Mem.head _))))
theorem zm4{α:Type _}{a b c d e:α}{l:List α}:e∈a::b::c::d::e::l:=(zMt (zMt (zMt (zMt (List.Mem.head _)))))
theorem zm5{α:Type _}{a b c d e f:α}{l:List α}:f∈a::b::c::d::e::f::l:=(zMt (zMt (zMt (zMt (zMt (List.Mem.head _))))))
theorem zm6{α:Type _}{a b c d e f g:α}{l:List α}:g∈a::b::c::d::e::f::g::l:=(zMt (zMt (zMt (zMt (zMt (zMt (List.Mem.head _)))))))
theorem zm7{α:Type _}{a b c d e f g h:α}{l:List α}:h∈a::b::c::d::e::f::g::h::l:=(zMt (zMt (zMt (zMt (zMt (zMt (zMt (List.Mem.head _))))))))
theorem zm8{α:Type _}{a b c d e f g h i:α}{l:List α}:i∈a::b::c::d::e::f::g::h::i::l:=(zMt (zMt (zMt (zMt (zMt (zMt (zMt (zMt (List.Mem.head _)))))))))
theorem zb0{P:Prop}(h:P:=by first|exact he9.trans rfl|exact he9.trans hj|exact he9.trans (hj2.trans hj)):P:=h
theorem zb1{P:Prop}(h:P:=by first|exact pH|exact pT pH|exact pT (pT (pH))|exact pT (pT (pT (pH)))|exact pT (pT (pT (pT (pH))))|exact pT (pT (pT (pT (pT (pH)))))|exact pT (pT (pT (pT (pT (pT (pH))))))|exact pT (pT (pT (pT (pT (pT (pT (pH)))))))):P:=h
theorem zt{p:Prop} [Decidable p](h:decide p=true):p:=of_decide_eq_true h
theorem zf{p:Prop} [Decidable p](h:decide p=false):¬p:=of_decide_eq_false h
theorem gaa{P Q:Prop}(h:Q)(t:(Unit->Q)->P:=by intro h;(repeat first|refine qN ?_|refine LOps.nil ?_|refine qag.region ?_|refine qag.seq ?_|refine oP (pM (lv:=.atom _) rfl) rfl ?_|refine oP (pA (lv:=.atom _) rfl) rfl ?_|refine qag.ret ?_|refine qag.skip ?_|refine oP (pF rfl) rfl ?_|refine LOps.want rfl rfl ?_|refine qaz.ret ?_|refine qag.block ?_|refine qam.normal ?_|refine oP (Pure.pickF (lv:=.atom _) rfl rfl) rfl ?_|refine oP (Pure.pickT (lv:=.atom _) rfl rfl) rfl ?_|refine oP (pL (c:=.atom _) rfl (List.Mem.head _) rfl) rfl ?_|refine LOps.skip rfl rfl rfl rfl ?_|refine qam.ret ?_|refine oP (Pure.add rfl rfl (by omega)) rfl ?_|refine oP (Pure.eql rfl rfl) rfl ?_|refine oP (Pure.extract (c:=.atom _) rfl rfl) rfl ?_|refine oP (pM (lv:=.tuple _) rfl) rfl ?_|refine oP (pN rfl) rfl ?_|refine oP (Pure.lss rfl rfl) rfl ?_|refine qam.hit ?_|refine qaz.exit ?_|refine qag.exit ?_|refine oP (Pure.seq rfl rfl) rfl ?_|refine oP (pM (lv:=.list _) rfl) rfl ?_|refine oP (Pure.llen rfl) rfl ?_|refine oP (pL (c:=.list _) rfl (List.Mem.head _) rfl) rfl ?_|refine oP (Pure.not rfl) rfl ?_|refine oP (pA (lv:=.list _) rfl) rfl ?_|refine oS (sS (cs':=[_,_,_]) rfl pH rfl rfl rfl rfl rfl ?_) rfl|refine oP (Pure.slen rfl) rfl ?_|refine oP (pG (cs':=[_,_]) rfl (List.Mem.head _) rfl rfl) rfl ?_|refine oP (Pure.gtr rfl rfl) rfl ?_|refine oP (pL (c:=.atom _) rfl (zMt (List.Mem.head _)) rfl) rfl ?_|refine oP (Pure.neq rfl rfl) rfl ?_|refine oP (pO (c:=.atom _) rfl rfl) rfl ?_|refine oS (sS (cs':=[_,_]) rfl pH rfl rfl rfl rfl rfl ?_) rfl|refine oP (Pure.sub rfl rfl (by omega)) rfl ?_|refine oP (Pure.extract (c:=.list _) rfl rfl) rfl ?_|refine oP (pB _ (cs:=[_,_,_]) rfl) rfl ?_|refine oP (Pure.leq rfl rfl) rfl ?_|refine oP (Pure.geq rfl rfl) rfl ?_|refine LQ.nil ?_|refine oP (Pure.sadd rfl rfl (by first|omega|(simp only[zLa,zLc,zLn];omega))) rfl ?_|refine oP (Pure.sneq rfl rfl) rfl ?_|refine LOps.skipU rfl rfl rfl ?_|refine oS (sS (cs':=[_,_,_,_]) rfl pH rfl rfl rfl rfl rfl ?_) rfl|refine qP (pF rfl) rfl ?_|refine qP (pL (c:=.atom _) rfl (List.Mem.head _) rfl) rfl ?_|refine oP (pB _ (cs:=[_,_]) rfl) rfl ?_|refine qP (pL (c:=.list _) rfl (List.Mem.head _) rfl) rfl ?_|refine oS (sS (cs':=[_,_,_,_,_,_,_,_,_,_]) rfl pH rfl rfl rfl rfl rfl ?_) rfl|refine oP (pB _ (cs:=[_,_,_,_]) rfl) rfl ?_|refine oS (sS (cs':=[_,_,_,_,_,_]) rfl (pT pH) rfl rfl rfl rfl rfl ?_) rfl|refine qP (pA (lv:=.atom _) rfl) rfl ?_|refine oP (pB _ (cs:=[_,_,_,_,_,_]) rfl) rfl ?_|refine oP (pG (cs':=[_,_,_,_,_,_]) rfl (List.Mem.head _) rfl rfl) rfl ?_|refine oP (pG (cs':=[_,_,_]) rfl (List.Mem.head _) rfl rfl) rfl ?_|refine oS (sS (cs':=[_,_,_,_,_,_]) rfl (pT (pT pH)) rfl rfl rfl rfl rfl ?_) rfl|refine oS (sS (cs':=[_,_,_,_,_,_]) rfl pH rfl rfl rfl rfl rfl ?_) rfl|refine oS (sS (cs':=[_,_,_,_]) rfl (pT pH) rfl rfl rfl rfl rfl ?_) rfl|refine qP (pO (c:=.atom _) rfl rfl) rfl ?_|refine oP (pG (cs':=[_,_,_,_]) rfl (List.Mem.head _) rfl rfl) rfl ?_|refine oP (pG (cs':=[_,_,_,_]) rfl (zMt (List.Mem.head _)) rfl rfl) rfl ?_|refine oS (sS (cs':=[_,_,_,_]) rfl (pT (pT pH)) rfl rfl rfl rfl rfl ?_) rfl|refine qam.miss zDd ?_|refine oP (Pure.cvt rfl) rfl ?_|refine oP (pG (cs':=[_,_,_]) rfl (zMt (List.Mem.head _)) rfl rfl) rfl ?_|refine oP (Pure.makeFunc rfl rfl) rfl ?_|refine oP (Pure.nilNeqNil rfl) rfl ?_|refine oS (sS (cs':=[_,_,_]) rfl (pT pH) rfl rfl rfl rfl rfl ?_) rfl|refine qP (Pure.llen rfl) rfl ?_|refine oP (pA (lv:=.app _ _ _ _) rfl) rfl ?_|refine oP (Pure.ifaceNeqNil rfl) rfl ?_|refine oP (pG (cs':=[_,_,_]) rfl (zMt (zMt (zMt (zMt (List.Mem.head _))))) rfl rfl) rfl ?_|refine oP (pL (c:=.atom _) rfl (zMt (zMt (zMt (zMt (List.Mem.head _))))) rfl) rfl ?_|refine oP (pO (c:=.list _) rfl rfl) rfl ?_|refine oS (sS (cs':=[_,_,_,_,_,_,_,_,_,_]) rfl (pT pH) rfl rfl rfl rfl rfl ?_) rfl|refine oS (sS (cs':=[_,_,_]) rfl (pT (pT pH)) rfl rfl rfl rfl rfl ?_) rfl|refine oS (sS (cs':=[_]) rfl (pT pH) rfl rfl rfl rfl rfl ?_) rfl|refine oS (sS (cs':=[_]) rfl pH rfl rfl rfl rfl rfl ?_) rfl|refine oP (pG (cs':=[_,_,_,_,_,_]) rfl (zMt (List.Mem.head _)) rfl rfl) rfl ?_|refine oP (pG (cs':=[_,_]) rfl (zMt (List.Mem.head _)) rfl rfl) rfl ?_|refine oP (pL (c:=.atom _) rfl (zMt (zMt (List.Mem.head _))) rfl) rfl ?_|refine oP (pL (c:=.atom _) rfl (zMt (zMt (zMt (zMt (zMt (zMt (List.Mem.head _))))))) rfl) rfl ?_|refine oP (pL (c:=.list _) rfl (zMt (List.Mem.head _)) rfl) rfl ?_|refine oP (Pure.makeInterfaceAgg (vs:=[_,_]) rfl) rfl ?_|refine oS (sS (cs':=[]) rfl pH rfl rfl rfl rfl rfl ?_) rfl|refine oS (sS (cs':=[_,_,_,_]) rfl (pT (pT (pT (pT pH)))) rfl rfl rfl rfl rfl ?_) rfl|refine oS (sS (cs':=[_,_,_]) rfl (pT (pT (pT (pT pH)))) rfl rfl rfl rfl rfl ?_) rfl|refine oS (sS (cs':=[_,_,_]) rfl (pT (pT (pT pH))) rfl rfl rfl rfl rfl ?_) rfl|refine qP (Pure.extract (c:=.atom _) rfl rfl) rfl ?_|refine qP (pM (lv:=.tuple _) rfl) rfl ?_|refine oP (pB _ (cs:=[]) rfl) rfl ?_|refine oP (pL (c:=.list _) rfl (zMt (zMt (List.Mem.head _))) rfl) rfl ?_|refine oP (pL (c:=.list _) rfl (zMt (zMt (zMt (zMt (zMt (List.Mem.head _)))))) rfl) rfl ?_|refine oP (Pure.makeInterfaceAgg (vs:=[]) rfl) rfl ?_|refine oP (pM (lv:=.app _ _ _ _) rfl) rfl ?_|refine oS (sS (cs':=[_,_,_,_,_,_,_]) rfl (pT (pT pH)) rfl rfl rfl rfl rfl ?_) rfl|refine oS (sS (cs':=[_,_,_,_,_,_,_]) rfl pH rfl rfl rfl rfl rfl ?_) rfl|refine oS (sS (cs':=[_,_]) rfl (pT (pT pH)) rfl rfl rfl rfl rfl ?_) rfl|refine oS (sS (cs':=[_,_]) rfl (pT pH) rfl rfl rfl rfl rfl ?_) rfl|refine qP (Pure.sneq rfl rfl) rfl ?_);exact h ()):P:=t λ_=>h
theorem gab{P Q:Prop}(h:Q)(t:(Unit->Q)->P:=by intro h;(repeat first|refine qN ?_|refine LOps.nil ?_|refine qag.seq ?_|refine oP (pM (lv:=.atom _) rfl) rfl ?_|refine oP (pA (lv:=.atom _) rfl) rfl ?_|refine qag.ret ?_|refine qag.skip ?_|refine oP (pF rfl) rfl ?_|refine LOps.want rfl rfl ?_|refine qaz.ret ?_|refine qag.block ?_|refine qam.normal ?_|refine qaz.panic ?_|refine oP (Pure.pickF (lv:=.atom _) rfl rfl) rfl ?_|refine oP (Pure.pickT (lv:=.atom _) rfl rfl) rfl ?_|refine oP (pL (c:=.atom _) rfl (List.Mem.head _) rfl) rfl ?_|refine LOps.skip rfl rfl rfl rfl ?_|refine qam.panic ?_|refine qam.ret ?_|refine oP (Pure.add rfl rfl (by omega)) rfl ?_|refine oP (Pure.eql rfl rfl) rfl ?_|refine oP (Pure.extract (c:=.atom _) rfl rfl) rfl ?_|refine oP (pM (lv:=.tuple _) rfl) rfl ?_|refine oP (pN rfl) rfl ?_|refine oP (Pure.lss rfl rfl) rfl ?_|refine qam.hit ?_|refine qaz.exit ?_|refine qag.exit ?_|refine oP (Pure.seq rfl rfl) rfl ?_|refine oP (pM (lv:=.list _) rfl) rfl ?_);exact h ()):P:=t λ_=>h
theorem gac{P Q:Prop}(h:Q)(t:(Unit->Q)->P:=by intro h;(repeat first|refine qN ?_|refine LOps.nil ?_|refine qag.region ?_|refine qag.seq ?_|refine oP (pM (lv:=.atom _) rfl) rfl ?_|refine oP (pA (lv:=.atom _) rfl) rfl ?_|refine qag.ret ?_|refine qag.skip ?_|refine oP (pF rfl) rfl ?_|refine LOps.want rfl rfl ?_|refine qaz.ret ?_|refine qag.block ?_|refine qam.normal ?_|refine qaz.panic ?_|refine oP (Pure.pickF (lv:=.atom _) rfl rfl) rfl ?_|refine oP (Pure.pickT (lv:=.atom _) rfl rfl) rfl ?_|refine oP (pL (c:=.atom _) rfl (List.Mem.head _) rfl) rfl ?_|refine LOps.skip rfl rfl rfl rfl ?_|refine qam.panic ?_|refine qam.ret ?_|refine oP (Pure.add rfl rfl (by omega)) rfl ?_|refine oP (Pure.eql rfl rfl) rfl ?_|refine oP (Pure.extract (c:=.atom _) rfl rfl) rfl ?_|refine oP (pM (lv:=.tuple _) rfl) rfl ?_|refine oP (pN rfl) rfl ?_|refine oP (Pure.lss rfl rfl) rfl ?_|refine qam.hit ?_|refine qaz.exit ?_|refine qag.exit ?_|refine oP (Pure.seq rfl rfl) rfl ?_|refine oP (pM (lv:=.list _) rfl) rfl ?_);exact h ()):P:=t λ_=>h
theorem gad{P Q:Prop}(h:Q)(t:(Unit->Q)->P:=by intro h;(repeat first|refine qN ?_|refine LOps.nil ?_|refine qag.seq ?_|refine oP (pM (lv:=.atom _) rfl) rfl ?_|refine oP (pA (lv:=.atom _) rfl) rfl ?_|refine qag.ret ?_|refine oP (pF rfl) rfl ?_|refine LOps.want rfl rfl ?_|refine qaz.ret ?_|refine qag.block ?_|refine qam.normal ?_|refine oP (Pure.pickF (lv:=.atom _) rfl rfl) rfl ?_|refine oP (Pure.pickT (lv:=.atom _) rfl rfl) rfl ?_|refine oP (pL (c:=.atom _) rfl (List.Mem.head _) rfl) rfl ?_|refine LOps.skip rfl rfl rfl rfl ?_|refine qam.ret ?_|refine oP (Pure.add rfl rfl (by omega)) rfl ?_|refine oP (Pure.eql rfl rfl) rfl ?_|refine oP (Pure.extract (c:=.atom _) rfl rfl) rfl ?_|refine oP (pM (lv:=.tuple _) rfl) rfl ?_|refine oP (pN rfl) rfl ?_|refine oP (Pure.lss rfl rfl) rfl ?_|refine qam.hit ?_|refine qaz.exit ?_|refine qag.exit ?_|refine oP (Pure.seq rfl rfl) rfl ?_|refine oP (pM (lv:=.list _) rfl) rfl ?_|refine oP (Pure.llen rfl) rfl ?_|refine oP (pL (c:=.list _) rfl (List.Mem.head _) rfl) rfl ?_|refine oP (Pure.not rfl) rfl ?_|refine oP (pA (lv:=.list _) rfl) rfl ?_|refine oS (sS (cs':=[_,_,_]) rfl pH rfl rfl rfl rfl rfl ?_) rfl|refine oP (Pure.slen rfl) rfl ?_|refine oP (pG (cs':=[_,_]) rfl (List.Mem.head _) rfl rfl) rfl ?_|refine oP (Pure.gtr rfl rfl) rfl ?_|refine oP (pL (c:=.atom _) rfl (zMt (List.Mem.head _)) rfl) rfl ?_|refine oP (Pure.neq rfl rfl) rfl ?_|refine oP (pO (c:=.atom _) rfl rfl) rfl ?_|refine oS (sS (cs':=[_,_]) rfl pH rfl rfl rfl rfl rfl ?_) rfl|refine oP (Pure.sub rfl rfl (by omega)) rfl ?_|refine oP (pR (cs':=[_,_,_,_]) rfl rfl rfl) rfl ?_|refine oP (Pure.extract (c:=.list _) rfl rfl) rfl ?_|refine oP (pB _ (cs:=[_,_,_]) rfl) rfl ?_|refine oP (pR (cs':=[_,_]) rfl rfl rfl) rfl ?_|refine oP (Pure.leq rfl rfl) rfl ?_|refine oP (Pure.geq rfl rfl) rfl ?_|refine LQ.nil ?_|refine oP (Pure.extract (c:=.agg _) rfl rfl) rfl ?_|refine oP (Pure.sadd rfl rfl (by first|omega|(simp only[zLa,zLc,zLn];omega))) rfl ?_|refine oP (Pure.sneq rfl rfl) rfl ?_|refine LOps.skipU rfl rfl rfl ?_|refine oS (sS (cs':=[_,_,_,_]) rfl pH rfl rfl rfl rfl rfl ?_) rfl|refine qP (pF rfl) rfl ?_|refine qP (pL (c:=.atom _) rfl (List.Mem.head _) rfl) rfl ?_|refine qP (pM (lv:=.atom _) rfl) rfl ?_|refine qP (pN rfl) rfl ?_|refine oP (pB _ (cs:=[_,_]) rfl) rfl ?_|refine qP (pL (c:=.list _) rfl (List.Mem.head _) rfl) rfl ?_|refine oS (sS (cs':=[_,_,_,_,_,_,_,_,_,_]) rfl pH rfl rfl rfl rfl rfl ?_) rfl|refine oP (pB _ (cs:=[_,_,_,_]) rfl) rfl ?_|refine oS (sS (cs':=[_,_,_,_,_,_]) rfl (pT pH) rfl rfl rfl rfl rfl ?_) rfl|refine qP (pA (lv:=.atom _) rfl) rfl ?_|refine oP (pB _ (cs:=[_,_,_,_,_,_]) rfl) rfl ?_|refine oP (pG (cs':=[_,_,_]) rfl (List.Mem.head _) rfl rfl) rfl ?_|refine oS (sS (cs':=[_,_,_,_,_,_]) rfl (pT (pT pH)) rfl rfl rfl rfl rfl ?_) rfl|refine oS (sS (cs':=[_,_,_,_]) rfl (pT pH) rfl rfl rfl rfl rfl ?_) rfl|refine qP (pO (c:=.atom _) rfl rfl) rfl ?_|refine oP (pG (cs':=[_,_,_,_]) rfl (List.Mem.head _) rfl rfl) rfl ?_|refine qam.miss zDd ?_|refine oS (sS (cs':=[_,_,_]) rfl (pT pH) rfl rfl rfl rfl rfl ?_) rfl|refine qP (Pure.field1 rfl rfl) rfl ?_|refine qP (Pure.llen rfl) rfl ?_|refine oP (Pure.field1 rfl rfl) rfl ?_|refine qcf.pure (pM (lv:=.atom _) rfl) rfl ?_|refine LQ.want rfl rfl ?_|refine lP (pF rfl) rfl ?_|refine lP (pM (lv:=.atom _) rfl) rfl ?_|refine lP (pN rfl) rfl ?_|refine oP (pA (lv:=.app _ _ _ _) rfl) rfl ?_|refine oP (pL (c:=.atom _) rfl (zMt (zMt (zMt (zMt (List.Mem.head _))))) rfl) rfl ?_|refine oP (pO (c:=.list _) rfl rfl) rfl ?_|refine oS (sS (cs':=[_,_,_,_,_,_,_,_,_,_]) rfl (pT pH) rfl rfl rfl rfl rfl ?_) rfl|refine oS (sS (cs':=[_]) rfl (pT pH) rfl rfl rfl rfl rfl ?_) rfl|refine qcf.pure (Pure.makeFunc rfl rfl) rfl ?_|refine lP (pL (c:=.atom _) rfl (zMt (List.Mem.head _)) rfl) rfl ?_|refine oP (pR (cs':=[_,_,_,_,_,_]) rfl rfl rfl) rfl ?_|refine oP (pL (c:=.atom _) rfl (zMt (zMt (List.Mem.head _))) rfl) rfl ?_|refine oS (sS (cs':=[_,_,_,_]) rfl (pT (pT (pT pH))) rfl rfl rfl rfl rfl ?_) rfl|refine qP (Pure.geq rfl rfl) rfl ?_|refine qP (Pure.lss rfl rfl) rfl ?_|refine qP (Pure.pickF (lv:=.atom _) rfl rfl) rfl ?_|refine qP (Pure.pickT (lv:=.atom _) rfl rfl) rfl ?_|refine qP (Pure.sub rfl rfl (by omega)) rfl ?_|refine LQ.skip rfl rfl rfl rfl ?_|refine LS.nil ?_|refine lP (pB _ (cs:=[_,_,_]) rfl) rfl ?_|refine oP (pB _ (cs:=[_,_,_,_,_,_,_]) rfl) rfl ?_|refine oS (sS (cs':=[_]) rfl (pT (pT (pT (pT (pT (pT pH)))))) rfl rfl rfl rfl rfl ?_) rfl|refine qcf.pure (pF rfl) rfl ?_|refine qcf.pure (pG (cs':=[_,_,_]) rfl (zMt (zMt (zMt (zMt (zMt (zMt (zMt (List.Mem.head _)))))))) rfl rfl) rfl ?_|refine qcf.pure (pL (c:=.atom _) rfl (zMt (List.Mem.head _)) rfl) rfl ?_|refine qcf.pure (Pure.lss rfl rfl) rfl ?_|refine qcf.pure (pN rfl) rfl ?_|refine qfu.pure (pL (c:=.list _) rfl (List.Mem.head _) rfl) rfl ?_|refine qfu.pure (pO (c:=.list _) rfl rfl) rfl ?_|refine qfu.pure (pM (lv:=.atom _) rfl) rfl ?_|refine qfu.pure (Pure.not rfl) rfl ?_|refine qP (Pure.eql rfl rfl) rfl ?_|refine qP (pL (c:=.atom _) rfl (zMt (List.Mem.head _)) rfl) rfl ?_|refine qP (pL (c:=.atom _) rfl (zMt (zMt (zMt (zMt (List.Mem.head _))))) rfl) rfl ?_|refine qP (Pure.minI rfl rfl) rfl ?_|refine qP (Pure.neq rfl rfl) rfl ?_|refine qP (Pure.sadd rfl rfl (by first|omega|(simp only[zLa,zLc,zLn];omega))) rfl ?_|refine lP (Pure.add rfl rfl (by omega)) rfl ?_|refine lP (Pure.llen rfl) rfl ?_|refine lP (pL (c:=.atom _) rfl (List.Mem.head _) rfl) rfl ?_|refine lP (pL (c:=.list _) rfl (List.Mem.head _) rfl) rfl ?_);exact h ()):P:=t λ_=>h
theorem gae{P Q:Prop}(h:Q)(t:(Unit->Q)->P:=by intro h;(repeat first|refine qaz.panic ?_|refine qam.panic ?_);exact h ()):P:=t λ_=>h
theorem gaf{P Q:Prop}(h:Q)(t:(Unit->Q)->P:=by intro h;(repeat first|refine qN ?_|refine LOps.nil ?_|refine oP (pA (lv:=.atom _) rfl) rfl ?_|refine qag.ret ?_);exact h ()):P:=t λ_=>h
theorem gag{P Q:Prop}(h:Q)(t:(Unit->Q)->P:=by intro h;(repeat first|refine qag.region ?_|refine qag.seq ?_|refine oP (pM (lv:=.atom _) rfl) rfl ?_);exact h ()):P:=t λ_=>h
theorem gah{P Q:Prop}(h:Q)(t:(Unit->Q)->P:=by intro h;(repeat first|refine qag.region ?_|refine qag.seq ?_);exact h ()):P:=t λ_=>h
theorem gai{P Q:Prop}(h:Q)(t:(Unit->Q)->P:=by intro h;(repeat first|refine qN ?_|refine LOps.nil ?_|refine qag.region ?_|refine qag.seq ?_|refine oP (Pure.lss rfl rfl) rfl ?_);exact h ()):P:=t λ_=>h
theorem gaj{P Q:Prop}(h:Q)(t:(Unit->Q)->P:=by intro h;(repeat first|refine oP (pM (lv:=.atom _) rfl) rfl ?_|refine LOps.want rfl rfl ?_);exact h ()):P:=t λ_=>h
theorem gak{P Q:Prop}(h:Q)(t:(Unit->Q)->P:=by intro h;(repeat first|refine qN ?_|refine qag.region ?_|refine qag.seq ?_|refine qag.skip ?_|refine qag.block ?_);exact h ()):P:=t λ_=>h
theorem gal{P Q:Prop}(h:Q)(t:(Unit->Q)->P:=by intro h;(repeat first|refine qaz.panic ?_);exact h ()):P:=t λ_=>h
theorem gam{P Q:Prop}(h:Q)(t:(Unit->Q)->P:=by intro h;(repeat first|refine qN ?_|refine LOps.nil ?_|refine qag.region ?_|refine qag.seq ?_|refine oP (pM (lv:=.atom _) rfl) rfl ?_);exact h ()):P:=t λ_=>h
theorem gan{P Q:Prop}(h:Q)(t:(Unit->Q)->P:=by intro h;(repeat first|refine qN ?_|refine LOps.nil ?_|refine qag.region ?_|refine qag.seq ?_|refine oP (pA (lv:=.atom _) rfl) rfl ?_|refine oP (Pure.eql rfl rfl) rfl ?_);exact h ()):P:=t λ_=>h
theorem gao{P Q:Prop}(h:Q)(t:(Unit->Q)->P:=by intro h;(repeat first|refine qN ?_|refine LOps.nil ?_|refine qag.region ?_|refine qag.seq ?_|refine oP (pM (lv:=.atom _) rfl) rfl ?_|refine oP (pA (lv:=.atom _) rfl) rfl ?_);exact h ()):P:=t λ_=>h
theorem gap{P Q:Prop}(h:Q)(t:(Unit->Q)->P:=by intro h;(repeat first|refine qN ?_|refine LOps.nil ?_|refine qag.region ?_|refine qag.seq ?_|refine oP (pA (lv:=.atom _) rfl) rfl ?_|refine qag.ret ?_|refine qaz.ret ?_);exact h ()):P:=t λ_=>h
theorem gaq{P Q:Prop}(h:Q)(t:(Unit->Q)->P:=by intro h;(repeat first|refine qN ?_|refine LOps.nil ?_|refine qag.region ?_|refine oP (pM (lv:=.atom _) rfl) rfl ?_|refine qam.normal ?_|refine oP (Pure.add rfl rfl (by omega)) rfl ?_);exact h ()):P:=t λ_=>h
theorem gar{P Q:Prop}(h:Q)(t:(Unit->Q)->P:=by intro h;(repeat first|refine qN ?_|refine LOps.nil ?_|refine qag.region ?_|refine qag.seq ?_|refine oP (pA (lv:=.atom _) rfl) rfl ?_);exact h ()):P:=t λ_=>h
theorem gas{P Q:Prop}(h:Q)(t:(Unit->Q)->P:=by intro h;(repeat first|refine qN ?_|refine LOps.nil ?_|refine qag.region ?_|refine qag.seq ?_|refine oP (pA (lv:=.atom _) rfl) rfl ?_|refine oP (Pure.seq rfl rfl) rfl ?_);exact h ()):P:=t λ_=>h
theorem gat{P Q:Prop}(h:Q)(t:(Unit->Q)->P:=by intro h;(repeat first|refine qN ?_|refine LOps.nil ?_|refine qag.region ?_|refine qag.seq ?_|refine oP (pA (lv:=.atom _) rfl) rfl ?_|refine qag.ret ?_);exact h ()):P:=t λ_=>h
open Go.RowKit
inductive LV where
 |atom (v:Value)
 |list (es:List LV)
 |app (b cap k:Nat) (es:List LV)
 |agg (cs:List LV)
 |tuple (vs:List LV)
 |ref (cs:List LV)
 deriving Inhabited
def LV.cells:LV->List LV
 |.agg cs=>cs
 |v=>[v]
@[reducible] def int(k:IntKind)(n:Int):LV:=.atom (.int k n)
@[reducible] def bool(b:Bool):LV:=.atom (.bool b)
@[reducible] def str(l:List UInt8):LV:=.atom (.string ⟨l.toArray⟩)
@[reducible] def ptr(b off:Nat):LV:=.atom (.pointer (some ⟨b,off,none⟩))
@[reducible] def qab:LV:=.atom (.slice none 0 0)
inductive LObj where
 |cells (ty:TypeId) (cs:List LV)
 |row (n:Nat)
 |map (es:List (Value×LV)) (clock:Nat)
 |obj (o:Obj)
 deriving Inhabited
abbrev Heap:=List (Nat×LObj)
abbrev Live:=Nat->Nat
mutual
def Rep(w:World)(L:Live):LV->Value->Prop
 |.atom v,x=>x=v
 |.agg cs,x=>∃ xs:List Value,x=.agg xs.toArray/\RepL w L cs xs
 |.tuple vs,x=>∃ xs:List Value,x=.tuple xs.toArray/\RepL w L vs xs
 |.list es,x=>∃ a cap,x=.slice a es.length cap/\es.length<=cap/\(es≠[]->∃ b off k,a=some ⟨b,off,none⟩/\qak w L b k off es)
 |.app b cap k es,x=>x=.slice (some ⟨b,0,none⟩) es.length cap/\es.length<=cap/\qak w L b k 0 es/\∃ e s,w.shape? b=some (e,s)/\cap * k<=s
 |.ref cs,x=>∃ b off,x=.pointer (some ⟨b,off,none⟩)/\RepC w L b off cs
def RepL(w:World)(L:Live):List LV->List Value->Prop
 |[],xs=>xs=[]
 |c::cs,xs=>∃ y ys,xs=y::ys/\Rep w L c y/\RepL w L cs ys
def RepC(w:World)(L:Live)(b:Nat):Nat->List LV->Prop
 |_,[]=>True
 |off,c::cs=>off<L b/\(∃ x,w.cell? ⟨b,off,none⟩=some x/\Rep w L c x)/\RepC w L b (off+1) cs
def qak(w:World)(L:Live)(b k:Nat):Nat->List LV->Prop
 |_,[]=>True
 |off,.agg cs::es=>(cs.length=k/\RepC w L b off cs)/\qak w L b k (off+k) es
 |off,.atom v::es=>(1=k/\off<L b/\∃ x,w.cell? ⟨b,off,none⟩=some x/\Rep w L (.atom v) x)/\qak w L b k (off+k) es
 |off,.list v::es=>(1=k/\off<L b/\∃ x,w.cell? ⟨b,off,none⟩=some x/\Rep w L (.list v) x)/\qak w L b k (off+k) es
 |off,.app b2 c k2 v::es=>(1=k/\off<L b/\∃ x,w.cell? ⟨b,off,none⟩=some x/\Rep w L (.app b2 c k2 v) x)/\qak w L b k (off+k) es
 |off,.tuple v::es=>(1=k/\off<L b/\∃ x,w.cell? ⟨b,off,none⟩=some x/\Rep w L (.tuple v) x)/\qak w L b k (off+k) es
 |off,.ref v::es=>(1=k/\off<L b/\∃ x,w.cell? ⟨b,off,none⟩=some x/\Rep w L (.ref v) x)/\qak w L b k (off+k) es
end
structure Ext(w:World)(L:Live)(w':World)(L':Live):Prop where
 size:w.heap.size<=w'.heap.size
 shape:∀ b,b<w.heap.size->w'.shape? b=w.shape? b
 live:∀ b i,i<L b->w'.cell? ⟨b,i,none⟩=w.cell? ⟨b,i,none⟩
 mono:∀ b,L b<=L' b
theorem Ext.refl(w:World)(L:Live):Ext w L w L:=⟨zNr _,λ_ _=>rfl,λ_ _ _=>rfl,λ_=>zNr _⟩
theorem Ext.trans{w1 w2 w3:World}{L1 L2 L3:Live}(h:Ext w1 L1 w2 L2)(k:Ext w2 L2 w3 L3):Ext w1 L1 w3 L3:=
 ⟨zNt h.size k.size,λb hb=>(k.shape b (Nat.lt_of_lt_of_le hb h.size)).trans (h.shape b hb),
  λb i hi=>(k.live b i (Nat.lt_of_lt_of_le hi (h.mono b))).trans (h.live b i hi),λb=>zNt (h.mono b) (k.mono b)⟩
theorem qtG{w:World}{b:Nat}{p:TypeId×Nat}(h:w.shape? b=some p):b<w.heap.size:=by
 rcases Nat.lt_or_ge b w.heap.size with h1|h1;exact h1;simp[World.shape?,Array.getElem?_eq_none h1] at h
mutual
theorem Rep.mono{w w':World}{L L':Live}(h:Ext w L w' L'):∀ (lv:LV) (x:Value),Rep w L lv x->Rep w' L' lv x
 |.atom v,x,r=>by simp only[Rep] at r ⊢;exact r
 |.agg cs,x,r=>by
  simp only[Rep] at r ⊢;obtain⟨xs,rfl,r⟩:=r
  exact⟨xs,rfl,RepL.mono h cs xs r⟩
 |.tuple cs,x,r=>by
  simp only[Rep] at r ⊢;obtain⟨xs,rfl,r⟩:=r
  exact⟨xs,rfl,RepL.mono h cs xs r⟩
 |.list es,x,r=>by
  simp only[Rep] at r ⊢;obtain⟨a,cap,rfl,hl,r⟩:=r;refine⟨a,cap,rfl,hl,λhne=>?_⟩;obtain⟨b,off,k,ha,r⟩:=r hne
  exact⟨b,off,k,ha,qak.mono h b k off es r⟩
 |.app b cap k es,x,r=>by
  simp only[Rep] at r ⊢;obtain⟨rfl,hl,r,e,s,hs,hc⟩:=r
  exact⟨rfl,hl,qak.mono h b k 0 es r,e,s,by rw[h.shape b (qtG hs)];exact hs,hc⟩
 |.ref cs,x,r=>by
  simp only[Rep] at r ⊢;obtain⟨b,off,rfl,r⟩:=r;exact⟨b,off,rfl,RepC.mono h b off cs r⟩
 termination_by lv=>SizeOf.sizeOf lv
theorem RepL.mono{w w':World}{L L':Live}(h:Ext w L w' L'):∀ (cs:List LV) (xs:List Value),RepL w L cs xs->RepL w' L' cs xs
 |[],xs,r=>by simp only[RepL] at r ⊢;exact r
 |c::cs,xs,r=>by
  simp only[RepL] at r ⊢;obtain⟨y,ys,rfl,r1,r2⟩:=r;exact⟨y,ys,rfl,Rep.mono h c y r1,RepL.mono h cs ys r2⟩
 termination_by cs=>SizeOf.sizeOf cs
theorem RepC.mono{w w':World}{L L':Live}(h:Ext w L w' L')(b:Nat):∀ (off:Nat) (cs:List LV),RepC w L b off cs->RepC w' L' b off cs
 |_,[],r=>by simp only[RepC]
 |off,c::cs,r=>by
  simp only[RepC] at r ⊢;obtain⟨r1,⟨x,hx,r2⟩,r3⟩:=r;exact⟨Nat.lt_of_lt_of_le r1 (h.mono b),⟨x,by rw[h.live b off r1];exact hx,Rep.mono h c x r2⟩,RepC.mono h b (off+1) cs r3⟩
 termination_by _ cs=>SizeOf.sizeOf cs
theorem qak.mono{w w':World}{L L':Live}(h:Ext w L w' L')(b k:Nat):∀ (off:Nat) (es:List LV),qak w L b k off es->qak w' L' b k off es
 |_,[],r=>by simp only[qak]
 |off,.agg cs::es,r=>by
  simp only[qak] at r ⊢
  exact⟨⟨r.1.1,RepC.mono h b off cs r.1.2⟩,qak.mono h b k (off+k) es r.2⟩
 |off,.atom v::es,r=>by
  simp only[qak] at r ⊢;obtain⟨⟨h1,h2,x,h3,h4⟩,r2⟩:=r
  exact⟨⟨h1,Nat.lt_of_lt_of_le h2 (h.mono b),x,by rw[h.live b off h2];exact h3,Rep.mono h (.atom v) x h4⟩,qak.mono h b k (off+k) es r2⟩
 |off,.list v::es,r=>by
  simp only[qak] at r ⊢;obtain⟨⟨h1,h2,x,h3,h4⟩,r2⟩:=r
  exact⟨⟨h1,Nat.lt_of_lt_of_le h2 (h.mono b),x,by rw[h.live b off h2];exact h3,Rep.mono h (.list v) x h4⟩,qak.mono h b k (off+k) es r2⟩
 |off,.app b2 c k2 v::es,r=>by
  simp only[qak] at r ⊢;obtain⟨⟨h1,h2,x,h3,h4⟩,r2⟩:=r
  exact⟨⟨h1,Nat.lt_of_lt_of_le h2 (h.mono b),x,by rw[h.live b off h2];exact h3,Rep.mono h (.app b2 c k2 v) x h4⟩,qak.mono h b k (off+k) es r2⟩
 |off,.tuple v::es,r=>by
  simp only[qak] at r ⊢;obtain⟨⟨h1,h2,x,h3,h4⟩,r2⟩:=r
  exact⟨⟨h1,Nat.lt_of_lt_of_le h2 (h.mono b),x,by rw[h.live b off h2];exact h3,Rep.mono h (.tuple v) x h4⟩,qak.mono h b k (off+k) es r2⟩
 |off,.ref v::es,r=>by
  simp only[qak] at r ⊢;obtain⟨⟨h1,h2,x,h3,h4⟩,r2⟩:=r;exact⟨⟨h1,Nat.lt_of_lt_of_le h2 (h.mono b),x,by rw[h.live b off h2];exact h3,Rep.mono h (.ref v) x h4⟩,qak.mono h b k (off+k) es r2⟩
 termination_by _ es=>SizeOf.sizeOf es
end
def LV.Sub(a b:LV):Prop:=∀ w L x,Rep w L a x->Rep w L b x
theorem vR(a:LV):a.Sub a:=λ_ _ _ h=>h
theorem vN:qab.Sub (.list []):=λw L x r=>by
 simp only[Rep] at r ⊢;subst r;exact⟨none,0,rfl,zNr _,λh=>absurd rfl h⟩
theorem LV.Sub.app(b cap k:Nat)(es:List LV):(LV.app b cap k es).Sub (.list es):=λw L x r=>by
 simp only[Rep] at r ⊢;obtain⟨rfl,hl,r,_⟩:=r;exact⟨some ⟨b,0,none⟩,cap,rfl,hl,λ_=>⟨b,0,k,rfl,r⟩⟩
def SubL:List LV->List LV->Prop
 |[],[]=>True
 |a::avs,b::bs=>a.Sub b/\SubL avs bs
 |_,_=>False
theorem SubL.repL{w:World}{L:Live}:∀ {avs bs:List LV} {xs:List Value},SubL avs bs->RepL w L avs xs->RepL w L bs xs
 |[],[],xs,_,r=>r
 |a::avs,b::bs,xs,h,r=>by
  simp only[RepL] at r ⊢;obtain⟨y,ys,rfl,r1,r2⟩:=r
  exact⟨y,ys,rfl,h.1 _ _ _ r1,SubL.repL h.2 r2⟩
 |[],_::_,_,h,_=>h.elim
 |_::_,[],_,h,_=>h.elim
theorem vA{avs bs:List LV}(h:SubL avs bs):(LV.agg avs).Sub (.agg bs):=λw L x r=>by
 simp only[Rep] at r ⊢;obtain⟨xs,rfl,r⟩:=r;exact⟨xs,rfl,h.repL r⟩
def qm1(w:World)(L:Live)(b:Nat):LObj->Prop
 |.cells ty cs=>L b=0/\∃ xs:List Value,w.heap[b]? = some (.cells xs.toArray ty (0,0))/\RepL w L cs xs
 |.row n=>L b=n/\∃ (xs:Array Value) (ty:TypeId) (fr:Nat×Nat),w.heap[b]? = some (.cells xs ty fr)/\n<=xs.size/\fr.2<=n
 |.map es clock=>L b=0/\∃ avs:List MapEntry,w.heap[b]? = some (.map avs.toArray clock)/\avs.map (·.key)=es.map (·.1)/\RepL w L (es.map (·.2)) (avs.map (·.val))
   /\ (∀ e∈avs,e.born<clock)/\(avs.map (·.born)).Nodup
 |.obj o=>L b=0/\w.heap[b]? = some o/\w.shape? b=none
structure Ctx where
 P:Program
 B0:Nat
 w0:World
structure RelH(C:Ctx)(w:World)(L:Live)(H:Heap):Prop where
 base:Below C.B0 C.w0 w
 lbase:True
 b0:C.B0<=w.heap.size
 wf:∀ b,w.heap.size<=b->L b=0
 nodup:(H.map (·.1)).Nodup
 objs:∀ p∈H,C.B0<=p.1/\p.1<w.heap.size/\qm1 w L p.1 p.2
@[reducible] def keys(H:Heap):List Nat:=H.map (·.1)
structure Fr(K:List Nat)(w:World)(L:Live)(w':World)(L':Live)(H':Heap):Prop where
 os:w'.os=w.os
 tape:w'.tape=w.tape
 output:w'.output=w.output
 ext:Ext w L w' L'
 block:∀ b,b<w.heap.size->b ∉ K->w'.heap[b]? = w.heap[b]?
 lsame:∀ b,b<w.heap.size->b ∉ K->L' b=L b
 kin:∀ p∈H',p.1∈K∨w.heap.size<=p.1
theorem Fr.refl(w:World)(L:Live)(H:Heap):Fr (keys H) w L w L H:=
 ⟨rfl,rfl,rfl,.refl _ _,λ_ _ _=>rfl,λ_ _ _=>rfl,λ_ hp=>.inl (List.mem_map_of_mem hp)⟩
theorem Fr.trans{K:List Nat}{w1 w2 w3:World}{L1 L2 L3:Live}{H2 H3:Heap}(h:Fr K w1 L1 w2 L2 H2)(k:Fr (keys H2) w2 L2 w3 L3 H3):Fr K w1 L1 w3 L3 H3:=by
 have out:∀ b,b<w1.heap.size->b ∉ K->b ∉ keys H2:=λb hb hn hm=>by
  obtain⟨p,hp,rfl⟩:=List.mem_map.1 hm;rcases h.kin p hp with h1|h1;exact hn h1;omega
 refine⟨k.os.trans h.os,k.tape.trans h.tape,k.output.trans h.output,h.ext.trans k.ext,λb hb hn=>?_,λb hb hn=>?_,λp hp=>?_⟩;exact(k.block b (Nat.lt_of_lt_of_le hb h.ext.size) (out b hb hn)).trans (h.block b hb hn);exact(k.lsame b (Nat.lt_of_lt_of_le hb h.ext.size) (out b hb hn)).trans (h.lsame b hb hn);rcases k.kin p hp with h1|h1;obtain⟨q,hq,he⟩:=List.mem_map.1 h1;rw[<-he];exact h.kin q hq;exact .inr (zNt h.ext.size h1)
theorem Fr.sub{K:List Nat}{w w':World}{L L':Live}{H H':Heap}(h:Fr K w L w' L' H)(hs:∀ p∈H',p∈H):Fr K w L w' L' H':=
 ⟨h.os,h.tape,h.output,h.ext,h.block,h.lsame,λp hp=>h.kin p (hs p hp)⟩
theorem qbL{w w':World}{b:Nat}(h:w'.heap[b]? = w.heap[b]?):w'.shape? b=w.shape? b:=by simp only[World.shape?,h]
theorem cell_of_heap{w w':World}{b:Nat}(h:w'.heap[b]? = w.heap[b]?)(o:Nat):w'.cell? ⟨b,o,none⟩=w.cell? ⟨b,o,none⟩:=by simp only[World.cell?,h]
theorem qm1.keep{w w':World}{L L':Live}{b:Nat}{o:LObj}(h:Ext w L w' L')(hb:w'.heap[b]? = w.heap[b]?)(hl:L' b=L b)(r:qm1 w L b o):qm1 w' L' b o:=by
 cases o with
 |cells ty cs=>obtain⟨r1,xs,r2,r3⟩:=r;exact⟨hl.trans r1,xs,hb.trans r2,r3.mono h _ _⟩
 |row n=>obtain⟨r1,xs,ty,fr,r2,r3,r4⟩:=r;exact⟨hl.trans r1,xs,ty,fr,hb.trans r2,r3,r4⟩
 |map es clock=>obtain⟨r1,avs,r2,r3,r4,r5⟩:=r;exact⟨hl.trans r1,avs,hb.trans r2,r3,r4.mono h _ _,r5⟩
 |obj o=>obtain⟨r1,r2,r3⟩:=r;exact⟨hl.trans r1,hb.trans r2,by rw[qbL hb];exact r3⟩
theorem RelH.perm{C:Ctx}{w:World}{L:Live}{H H':Heap}(h:RelH C w L H)(p:H.Perm H'):RelH C w L H':=
 ⟨h.base,h.lbase,h.b0,h.wf,((p.map _).nodup_iff).1 h.nodup,λq hq=>h.objs q (p.mem_iff.2 hq)⟩
theorem RelH.left{C:Ctx}{w:World}{L:Live}{H F:Heap}(h:RelH C w L (H++F)):RelH C w L H:=
 ⟨h.base,h.lbase,h.b0,h.wf,(List.nodup_append.1 (by simpa using h.nodup)).1,λq hq=>h.objs q (List.mem_append_left _ hq)⟩
theorem RelH.sub{C:Ctx}{w:World}{L:Live}{H H':Heap}(h:RelH C w L H)(s:H'.Sublist H):RelH C w L H':=
 ⟨h.base,h.lbase,h.b0,h.wf,h.nodup.sublist (s.map _),λq hq=>h.objs q (s.subset hq)⟩
theorem RelH.frame{C:Ctx}{w w':World}{L L':Live}{H H' F:Heap}(h:RelH C w L (H++F))(f:Fr (keys H) w L w' L' H')(h':RelH C w' L' H') :
  RelH C w' L' (H'++F)/\Fr (keys (H++F)) w L w' L' (H'++F):=by
 have hn:(keys H++keys F).Nodup:=by simpa [keys] using h.nodup
 have hdis:∀ q∈F,q.1 ∉ keys H:=λq hq hm=>(List.nodup_append.1 hn).2.2 _ hm _ (List.mem_map_of_mem hq) rfl;refine⟨⟨h'.base,h'.lbase,h'.b0,h'.wf,?_,λp hp=>?_⟩,⟨f.os,f.tape,f.output,f.ext,λb hb hk=>?_,λb hb hk=>?_,λp hp=>?_⟩⟩;rw[zMa];refine List.nodup_append.2 ⟨h'.nodup,(List.nodup_append.1 hn).2.1,λa ha b hb he=>?_⟩;subst he;obtain⟨p,hp,rfl⟩:=List.mem_map.1 ha;obtain⟨q,hq,he⟩:=List.mem_map.1 hb;have hqs:=(h.objs q (List.mem_append_right _ hq)).2.1;rcases f.kin p hp with h1|h1;exact hdis q hq (he▸h1);omega;rcases List.mem_append.1 hp with hp|hp;exact h'.objs p hp;obtain⟨r1,r2,r3⟩:=h.objs p (List.mem_append_right _ hp);exact⟨r1,Nat.lt_of_lt_of_le r2 f.ext.size,r3.keep f.ext (f.block _ r2 (hdis p hp)) (f.lsame _ r2 (hdis p hp))⟩;exact f.block b hb (λhm=>hk (by simp only[keys,zMa,List.mem_append];exact .inl hm));exact f.lsame b hb (λhm=>hk (by simp only[keys,zMa,List.mem_append];exact .inl hm));rcases List.mem_append.1 hp with hp|hp;rcases f.kin p hp with h1|h1;exact .inl (by simp only[keys,zMa,List.mem_append];exact .inl h1);exact .inr h1;exact .inl (by simp only[keys,zMa,List.mem_append];exact .inr (List.mem_map_of_mem hp))
def Pick(p:Nat×LObj)(H F:Heap):Prop:=H.Perm (p::F)
theorem pH{p:Nat×LObj}{F:Heap}:Pick p (p::F) F:=List.Perm.refl _
theorem pT{p q:Nat×LObj}{H F:Heap}(h:Pick p H F):Pick p (q::H) (q::F):=
 (List.Perm.cons q h).trans (List.Perm.swap p q F)
def HSub(H' H:Heap):Prop:=∃ G,H.Perm (H'++G)
theorem zhR(H:Heap):HSub H H:=⟨[],by simp⟩
theorem HSub.nil(H:Heap):HSub [] H:=⟨H,by simp⟩
theorem zhD{H' H:Heap}{p:Nat×LObj}(h:HSub H' H):HSub H' (p::H):=
 let ⟨G,hG⟩:=h
 ⟨p::G,(List.Perm.cons p hG).trans List.perm_middle.symm⟩
theorem zhP{H' H F:Heap}{p:Nat×LObj}(hp:Pick p H F)(h:HSub H' F):HSub (p::H') H:=
 let ⟨G,hG⟩:=h
 ⟨G,List.Perm.trans hp (List.Perm.cons p hG)⟩
theorem RelH.weak{C:Ctx}{w:World}{L:Live}{H H':Heap}(h:RelH C w L H)(s:HSub H' H):RelH C w L H':=
 let ⟨_,hG⟩:=s
 (h.perm hG).left
theorem Fr.weak{K:List Nat}{w w':World}{L L':Live}{H H':Heap}(h:Fr K w L w' L' H)(s:HSub H' H):Fr K w L w' L' H':=
 let ⟨_,hG⟩:=s
 h.sub λ_ hp=>hG.mem_iff.2 (List.mem_append_left _ hp)
structure Env where
 s:Nat->LV
 ds:List Deferred
def Env.upd(e:Env)(d:Nat)(v:LV):Env:=⟨λi=>bif Nat.beq i d then v else e.s i,e.ds⟩
def Env.put(e:Env):Option Nat->LV->Env
 |some d,v=>e.upd d v
 |none,_=>e
def Env.ev(e:Env):Operand->LV
 |.tmp t=>e.s t
 |.const v=>.atom v
 |.global g=>.atom (.pointer (some ⟨g,0,none⟩))
 |.func f=>.atom (.func (.func f) #[] #[])
structure RelE(n:Nat)(a:Act)(e:Env)(w:World)(L:Live):Prop where
 size:a.tmps.size=n
 ds:a.defers=e.ds
 vals:∀ i,Rep w L (e.s i) (a.tmps.getD i undef)
theorem RelE.ev{n:Nat}{a:Act}{e:Env}{w:World}{L:Live}(h:RelE n a e w L):∀ x,Rep w L (e.ev x) (a.eval x):=λx=>by
 cases x with
 |tmp t=>exact h.vals t
 |const v=>simp only[Env.ev,Rep,Act.eval]
 |global g=>simp only[Env.ev,Rep,Act.eval]
 |func f=>simp only[Env.ev,Rep,Act.eval]
theorem RelE.mono{n:Nat}{a:Act}{e:Env}{w w':World}{L L':Live}(h:RelE n a e w L)(x:Ext w L w' L'):RelE n a e w' L':=
 ⟨h.size,h.ds,λi=>(h.vals i).mono x _ _⟩
def dstB(n:Nat):Option Nat->Bool
 |some d=>Nat.blt d n
 |none=>true
@[reducible] def qdp(n:Nat)(d:Option Nat):Prop:=dstB n d=true
theorem RelE.put{n:Nat}{a:Act}{e:Env}{w:World}{L:Live}(h:RelE n a e w L){dst:Option Nat}{lv:LV}{v:Value}(hd:qdp n dst)(hv:Rep w L lv v) :
  RelE n (a.put dst v) (e.put dst lv) w L:=by
 cases dst with
 |none=>exact h
 |some d=>
  refine⟨by simp[Act.put,h.size],h.ds,λi=>?_⟩;simp only[Env.put,Env.upd,Act.put];have hs:=h.size;have hd:d<n:=by simpa [qdp,dstB] using hd
  by_cases hi:i=d
  subst hi;simp[Array.getD,hs,hd];exact hv
  have hb:Nat.beq i d=false:=by
   cases hb:Nat.beq i d with
   |true=>exact absurd (Nat.eq_of_beq_eq_true hb) hi
   |false=>rfl
  rw[hb];have hv':=h.vals i;rw[Array.getD_eq_getD_getElem?] at hv' ⊢;rw[Array.getElem?_setIfInBounds,zn (Ne.symm hi)];exact hv'
abbrev Post:=Exit->Env->Heap->Prop
def RelX(n:Nat):Exit->Act->Env->World->Live->Prop
 |.panic _,a,e,_,_=>a.defers=e.ds
 |_,a,e,w,L=>RelE n a e w L
def lift(C:Ctx)(n:Nat)(w:World)(L:Live)(K:List Nat)(Q:Post):Exit->Act->World->Prop:=
 λx a' w'=>∃ e' H' L',Fr K w L w' L' H'/\RelH C w' L' H'/\RelX n x a' e' w' L'/\Q x e' H'
theorem qjz{C:Ctx}{n:Nat}{w:World}{L:Live}{K:List Nat}{Q Q':Post}(h:∀ x e H,Q x e H->Q' x e H){x:Exit}{a:Act}{w':World}
  (k:lift C n w L K Q x a w'):lift C n w L K Q' x a w':=
 let ⟨e',H',L',h1,h2,h3,h4⟩:=k
 ⟨e',H',L',h1,h2,h3,h _ _ _ h4⟩
theorem qdV{C:Ctx}{n:Nat}{w w1:World}{L L1:Live}{K:List Nat}{H1:Heap}{Q:Post}(f:Fr K w L w1 L1 H1){x:Exit}{a:Act}{w':World}
  (k:lift C n w1 L1 (keys H1) Q x a w'):lift C n w L K Q x a w':=
 let ⟨e',H',L',h1,h2,h3,h4⟩:=k
 ⟨e',H',L',f.trans h1,h2,h3,h4⟩
def qe7(w:World)(L:Live)(H:Heap)(w':World):Prop:=
 (∀ p∈H,w'.heap[p.1]? = w.heap[p.1]?)/\(∀ b i,i<L b->w'.cell? ⟨b,i,none⟩=w.cell? ⟨b,i,none⟩)
def Pure(C:Ctx)(o:Oper)(e:Env)(H:Heap)(lv:LV):Prop:=
 ∀ (ρ:Operand->Value) w L,(∀ x,Rep w L (e.ev x) (ρ x))->RelH C w L H ->
  ∃ v,Rep w L lv v/\∀ w',qe7 w L H w'->(execOp ρ o).run C.P w'=.ok (.value v) w'
def Left(C:Ctx)(w:World)(L:Live)(H:Heap)(w':World)(v:Value)(K:LV->Heap->Prop):Prop:=
 ∃ lv H' L',Fr (keys H) w L w' L' H'/\RelH C w' L' H'/\Rep w' L' lv v/\K lv H'
def qfk(C:Ctx)(w:World)(L:Live)(H:Heap)(w':World)(X:Heap->Prop):Prop:=
 ∃ H' L',Fr (keys H) w L w' L' H'/\RelH C w' L' H'/\X H'
def qcG(C:Ctx)(w:World)(L:Live)(H:Heap)(K:LV->Heap->Prop)(X:List PanicEntry->Heap->Prop):Ending->World->Prop
 |.returned v,w'=>Left C w L H w' v K
 |.panicked ch,w'=>qfk C w L H w' (X ch)
 |.outgrown,_=>False
def qe3(C:Ctx)(w:World)(L:Live)(H:Heap)(K:LV->Heap->Prop)(X:List PanicEntry->Heap->Prop):Result Next->Prop
 |.ok (.value v) w'=>Left C w L H w' v K
 |.ok .skip w'=>Left C w L H w' undef K
 |.ok (.enter f args) w'=>w'=w/\Calls C.P f args w (qcG C w L H K X)
 |.halt (.panic v) w'=>qfk C w L H w' (X [{ v,recovered:=false }])
 |_=>False
def qae(C:Ctx)(o:Oper)(e:Env)(H:Heap)(K:LV->Heap->Prop)(X:List PanicEntry->Heap->Prop):Prop:=
 ∀ (ρ:Operand->Value) w L,(∀ x,Rep w L (e.ev x) (ρ x))->RelH C w L H->qe3 C w L H K X ((execOp ρ o).run C.P w)
def LOps(C:Ctx)(n:Nat)(ops:Array Oper)(Q:Post)(rest:List Oper)(e:Env)(H:Heap):Prop:=
 ∀ a w L,RelE n a e w L->RelH C w L H->wpList C.P ops (lift C n w L (keys H) Q) rest a w
def qag(C:Ctx)(n:Nat)(c:Code)(Q:Post)(e:Env)(H:Heap):Prop:=
 ∀ a w L,RelE n a e w L->RelH C w L H->c.wp C.P (lift C n w L (keys H) Q) a w
inductive LRes where
 |ret (v:LV)
 |panic (ch:List PanicEntry)
def LCalls(C:Ctx)(f:FuncId)(args:List LV)(H:Heap)(R:LRes->Heap->Prop):Prop:=
 ∀ (vs:List Value) w L,RepL w L args vs->RelH C w L H ->
  Calls C.P f vs.toArray w (qcG C w L H (λv=>R (.ret v)) (λch=>R (.panic ch)))
theorem Left.mono{C:Ctx}{w:World}{L:Live}{H:Heap}{w':World}{v:Value}{K K':LV->Heap->Prop}(h:Left C w L H w' v K)(hk:∀ lv H,K lv H->K' lv H):Left C w L H w' v K':=
 let ⟨lv,H',L',h1,h2,h3,h4⟩:=h
 ⟨lv,H',L',h1,h2,h3,hk _ _ h4⟩
theorem qfk.mono{C:Ctx}{w:World}{L:Live}{H:Heap}{w':World}{X X':Heap->Prop}(h:qfk C w L H w' X)(hk:∀ H,X H->X' H):qfk C w L H w' X':=
 let ⟨H',L',h1,h2,h3⟩:=h
 ⟨H',L',h1,h2,hk _ h3⟩
theorem qcG.mono{C:Ctx}{w:World}{L:Live}{H:Heap}{K K':LV->Heap->Prop}{X X':List PanicEntry->Heap->Prop}(hk:∀ lv H,K lv H->K' lv H)(hx:∀ ch H,X ch H->X' ch H)
  (e:Ending) (w':World) (h:qcG C w L H K X e w'):qcG C w L H K' X' e w':=by
 cases e with
 |returned v=>exact Left.mono h hk
 |panicked ch=>exact qfk.mono h (hx ch)
 |outgrown=>exact h
theorem LCalls.mono{C:Ctx}{f:FuncId}{args:List LV}{H:Heap}{R R':LRes->Heap->Prop}(h:LCalls C f args H R)(hr:∀ r H,R r H->R' r H):LCalls C f args H R':=
 λvs w L h1 h2=>(h vs w L h1 h2).mono (qcG.mono (λ_ _=>hr _ _) (λ_ _=>hr _ _))
theorem Left.frame{C:Ctx}{w:World}{L:Live}{H F:Heap}{w':World}{v:Value}{K:LV->Heap->Prop}(hH:RelH C w L (H++F))(h:Left C w L H w' v (λlv H'=>K lv (H'++F))) :
  Left C w L (H++F) w' v K:=
 let ⟨lv,H',L',h1,h2,h3,h4⟩:=h
 let f:=hH.frame h1 h2
 ⟨lv,H'++F,L',f.2,f.1,h3,h4⟩
theorem qfk.frame{C:Ctx}{w:World}{L:Live}{H F:Heap}{w':World}{X:Heap->Prop}(hH:RelH C w L (H++F))(h:qfk C w L H w' (λH'=>X (H'++F))) :
  qfk C w L (H++F) w' X:=
 let ⟨H',L',h1,h2,h3⟩:=h
 let f:=hH.frame h1 h2
 ⟨H'++F,L',f.2,f.1,h3⟩
theorem Fr.perm{H1 H2:Heap}(p:H1.Perm H2){w w':World}{L L':Live}{H':Heap}(h:Fr (keys H1) w L w' L' H'):Fr (keys H2) w L w' L' H':=by
 have hm:∀ b,b∈keys H1 ↔ b∈keys H2:=λb=>(p.map _).mem_iff;exact⟨h.os,h.tape,h.output,h.ext,λb hb hn=>h.block b hb (λk=>hn ((hm b).1 k)),λb hb hn=>h.lsame b hb (λk=>hn ((hm b).1 k)),λq hq=>(h.kin q hq).imp (hm _).1 id⟩
theorem qe3.frame{C:Ctx}{w:World}{L:Live}{H F G:Heap}{K:LV->Heap->Prop}{X:List PanicEntry->Heap->Prop}(p:G.Perm (H++F))(hH:RelH C w L G){r:Result Next}
  (h:qe3 C w L H (λlv H'=>K lv (H'++F)) (λch H'=>X ch (H'++F)) r):qe3 C w L G K X r:=by
 have hH':=hH.perm p
 have lf:∀ {w' v},Left C w L H w' v (λlv H'=>K lv (H'++F))->Left C w L G w' v K:=λh=>by
  obtain⟨lv,H',L',h1,h2,h3,h4⟩:=Left.frame hH' h;exact⟨lv,H',L',h1.perm p.symm,h2,h3,h4⟩
 have lx:∀ {w' ch},qfk C w L H w' (λH'=>X ch (H'++F))->qfk C w L G w' (X ch):=λh=>by
  obtain⟨H',L',h1,h2,h3⟩:=qfk.frame hH' h;exact⟨H',L',h1.perm p.symm,h2,h3⟩
 unfold qe3 at h ⊢;split at h;exact lf h;exact lf h;refine⟨h.1,h.2.mono λe w' he=>?_⟩
 cases e with
 |returned v=>exact lf he
 |panicked ch=>exact lx he
 |outgrown=>exact he
 exact lx h;exact h.elim
theorem qae.frame{C:Ctx}{o:Oper}{e:Env}{G H F:Heap}{K:LV->Heap->Prop}{X:List PanicEntry->Heap->Prop}(p:G.Perm (H++F))
  (h:qae C o e H (λlv H'=>K lv (H'++F)) (λch H'=>X ch (H'++F))):qae C o e G K X:=
 λρ w L h1 h2=>qe3.frame p h2 (h ρ w L h1 (h2.perm p).left)
theorem Pure.step{C:Ctx}{o:Oper}{e:Env}{H:Heap}{lv:LV}{K:LV->Heap->Prop}{X:List PanicEntry->Heap->Prop}(h:Pure C o e H lv)(k:K lv H):qae C o e H K X:=λρ w L h1 h2=>by
 obtain⟨v,hv,hr⟩:=h ρ w L h1 h2;rw[hr w ⟨λ_ _=>rfl,λ_ _ _=>rfl⟩];exact⟨lv,H,L,Fr.refl _ _ _,h2,hv,k⟩
theorem qbD{P:Program}{ops:Array Oper}{Q Q':Exit->Act->World->Prop}(h:∀ e a w,Q e a w->Q' e a w):∀ (l:List Oper) (a:Act) (w:World),wpList P ops Q l a w->wpList P ops Q' l a w
 |[],_,_,k=>h _ _ _ k
 |o::l,a,w,k=>by
  unfold wpList at k ⊢;split at k
  rename_i hw
  rw[zp hw];rcases k with k|⟨k1,a0,w0,k2⟩;refine .inl ?_;unfold Oper.wp at k ⊢;generalize (execOp a.eval o).run P w=r at k ⊢
  cases r with
  |ok x w'=>
   cases x <;> simp only[Oper.upon] at k ⊢ <;> first
    |exact qbD h l _ _ k
    |(refine Calls.mono k λe w'' he=>?_;cases e with
      |returned v=>exact qbD h l _ _ he
      |panicked ch=>exact h _ _ _ he
      |outgrown=>obtain⟨a0,w0,he⟩:=he;exact⟨a0,w0,h _ _ _ he⟩)
    |exact Rows.mono k λ_ _ he=>qbD h l _ _ he
  |halt x w'=>cases x <;> simp only[Oper.upon] at k ⊢ <;> exact h _ _ _ k
  exact .inr ⟨k1,a0,w0,h _ _ _ k2⟩
  rename_i hw
  rw[zn hw];exact qbD h l _ _ k
theorem qsP{C:Ctx}{n:Nat}{o:Oper}{e:Env}{H:Heap}{K:LV->Heap->Prop}{X:List PanicEntry->Heap->Prop}(h:qae C o e H K X)(hd:qdp n o.dst)
  {a:Act} {w:World} {L:Live} (hE:RelE n a e w L) (hH:RelH C w L H) {K':Act->World->Prop} {Q':Exit->Act->World->Prop}
  (hK:∀ lv H' L' w' a',Fr (keys H) w L w' L' H'->RelH C w' L' H'->RelE n a' (e.put o.dst lv) w' L'->K lv H'->K' a' w')
  (hX:∀ ch H' L' w',Fr (keys H) w L w' L' H'->RelH C w' L' H'->X ch H'->Q' (.panic ch) a w'):o.wp C.P a w K' Q':=by
 have hs:=h a.eval w L hE.ev hH;unfold Oper.wp
 have left:∀ {w' v},Left C w L H w' v K->K' (a.put o.dst v) w':=λh=>by
  obtain⟨lv,H',L',h1,h2,h3,h4⟩:=h;exact hK lv H' L' _ _ h1 h2 ((hE.mono h1.ext).put hd h3) h4
 have leftX:∀ {w' ch},qfk C w L H w' (X ch)->Q' (.panic ch) a w':=λh=>by
  obtain⟨H',L',h1,h2,h3⟩:=h;exact hX _ H' L' _ h1 h2 h3
 generalize (execOp a.eval o).run C.P w=r at hs ⊢;unfold qe3 at hs;split at hs;exact left hs;exact left hs;obtain⟨rfl,hs⟩:=hs;refine Calls.mono hs λe w' he=>?_
 cases e with
 |returned v=>exact left he
 |panicked ch=>exact leftX he
 |outgrown=>exact he.elim
 exact leftX hs;exact hs.elim
section ops
variable{C:Ctx}{n:Nat}{ops:Array Oper}{Q:Post}{e:Env}{H:Heap}
theorem LOps.nil(h:Q .normal e H):LOps C n ops Q [] e H:=λ_ _ L hE hH=>⟨e,H,L,Fr.refl _ _ _,hH,hE,h⟩
theorem oS{dst:Option Nat}{op:Op}{ty:TypeId}{pos:String}{aft:Array Edge}{rest:List Oper}
  (h:qae C ⟨dst,op,ty,pos,aft,none⟩ e H (λlv H'=>LOps C n ops Q rest (e.put dst lv) H') (λch H'=>∀ e',e'.ds=e.ds->Q (.panic ch) e' H'))
  (hd:qdp n dst):LOps C n ops Q (⟨dst,op,ty,pos,aft,none⟩::rest) e H:=λa w L hE hH=>by
 unfold wpList;rw[zp (by simp[Region.wanted])];refine .inl (qsP h hd hE hH (λlv H' L' w' a' h1 h2 h3 h4=>?_) (λch H' L' w' h1 h2 h3=>?_));exact qbD (λ_ _ _=>qdV h1) _ _ _ (h4 a' w' L' h3 h2);exact⟨e,H',L',h1,h2,hE.ds,h3 e rfl⟩
theorem oP{dst:Option Nat}{op:Op}{ty:TypeId}{pos:String}{aft:Array Edge}{rest:List Oper}{lv:LV}
  (h:Pure C ⟨dst,op,ty,pos,aft,none⟩ e H lv) (hd:qdp n dst) (k:LOps C n ops Q rest (e.put dst lv) H):LOps C n ops Q (⟨dst,op,ty,pos,aft,none⟩::rest) e H:=
 oS (h.step k) hd
theorem qcI{a:Act}{w:World}{L:Live}(hE:RelE n a e w L){j d:Nat}{b:Bool}(hj:(ops[j]?).bind (·.dst)=some d)(hb:e.s d=.atom (.bool b)):yielded ops a.tmps j=some b:=by
 have h:=hE.vals d;rw[hb] at h;simp only[Rep] at h;unfold yielded;rw[hj];simp only[Option.bind_some];rw[Array.getD_eq_getD_getElem?] at h
 cases hx:a.tmps[d]? with
 |none=>rw[hx] at h;simp[undef] at h
 |some x=>rw[hx] at h;simp only[Option.getD_some] at h;subst h;rfl
theorem LOps.want{dst:Option Nat}{op:Op}{ty:TypeId}{pos:String}{aft:Array Edge}{rest:List Oper}{j d:Nat}{b:Bool}
  (hj:(ops[j]?).bind (·.dst)=some d) (hb:e.s d=.atom (.bool b))
  (k:LOps C n ops Q (⟨dst,op,ty,pos,aft,none⟩::rest) e H):LOps C n ops Q (⟨dst,op,ty,pos,aft,some (j,b)⟩::rest) e H:=λa w L hE hH=>by
 have:=k a w L hE hH;unfold wpList at this ⊢;rw[zp (by simp[Region.wanted])] at this;rw[zp (by simp[Region.wanted,qcI hE hj hb])];exact this
theorem LOps.skip{dst:Option Nat}{op:Op}{ty:TypeId}{pos:String}{aft:Array Edge}{rest:List Oper}{j d:Nat}{b c:Bool}
  (hj:(ops[j]?).bind (·.dst)=some d) (hb:e.s d=.atom (.bool b)) (hne:b=!c) (hd:qdp n dst)
  (k:LOps C n ops Q rest (e.put dst (.atom undef)) H):LOps C n ops Q (⟨dst,op,ty,pos,aft,some (j,c)⟩::rest) e H:=λa w L hE hH=>by
 unfold wpList;rw[zn (by subst hne;cases c <;> simp[Region.wanted,qcI hE hj hb])];exact k _ w L (hE.put hd (by simp only[Rep])) hH
theorem LOps.conseq{Q':Post}{rest:List Oper}(h:LOps C n ops Q rest e H)(hq:∀ x e H,Q x e H->Q' x e H):LOps C n ops Q' rest e H:=
 λa w L hE hH=>qbD (λ_ _ _=>qjz hq) _ _ _ (h a w L hE hH)
end ops
section code
variable{C:Ctx}{n:Nat}{Q:Post}{e:Env}{H:Heap}
def qaz(k:Env->Heap->Prop)(Q:Post):Post
 |.normal,e,H=>k e H
 |x,e,H=>Q x e H
def qam(id:Nat)(Q:Post):Post
 |.exit id',e,H=>if id'=id then Q .normal e H else Q (.exit id') e H
 |x,e,H=>Q x e H
theorem qag.conseq{c:Code}{Q':Post}(h:qag C n c Q e H)(hq:∀ x e H,Q x e H->Q' x e H):qag C n c Q' e H:=
 λa w L hE hH=>Go.wp_mono (h a w L hE hH) (λ_ _ _=>qjz hq)
theorem qag.seq{x y:Code}(h:qag C n x (qaz (λe H=>qag C n y Q e H) Q) e H):qag C n (.seq x y) Q e H:=λa w L hE hH=>by
 refine wp_seq (Go.wp_mono (h a w L hE hH) λex a' w' hq=>?_);obtain⟨e',H',L',h1,h2,h3,h4⟩:=hq
 cases ex with
 |normal=>exact Go.wp_mono (h4 a' w' L' h3 h2) λ_ _ _=>qdV h1
 |exit id=>exact⟨e',H',L',h1,h2,h3,h4⟩
 |goto id=>exact⟨e',H',L',h1,h2,h3,h4⟩
 |ret=>exact⟨e',H',L',h1,h2,h3,h4⟩
 |panic ch=>exact⟨e',H',L',h1,h2,h3,h4⟩
 |outgrown=>exact⟨e',H',L',h1,h2,h3,h4⟩
theorem qag.block{id:Nat}{c:Code}(h:qag C n c (qam id Q) e H):qag C n (.block id c) Q e H:=λa w L hE hH=>by
 refine wp_block (Go.wp_mono (h a w L hE hH) λex a' w' hq=>?_);obtain⟨e',H',L',h1,h2,h3,h4⟩:=hq
 cases ex with
 |exit id'=>
  simp only[Exit.inBlock,qam] at h4 ⊢;split
  rename_i hid;rw[zp hid] at h4;exact⟨e',H',L',h1,h2,h3,h4⟩
  rename_i hid;rw[zn hid] at h4;exact⟨e',H',L',h1,h2,h3,h4⟩
 |normal=>exact⟨e',H',L',h1,h2,h3,h4⟩
 |goto id=>exact⟨e',H',L',h1,h2,h3,h4⟩
 |ret=>exact⟨e',H',L',h1,h2,h3,h4⟩
 |panic ch=>exact⟨e',H',L',h1,h2,h3,h4⟩
 |outgrown=>exact⟨e',H',L',h1,h2,h3,h4⟩
theorem qag.skip(h:Q .normal e H):qag C n .skip Q e H:=λ_ _ L hE hH=>wp_skip ⟨e,H,L,Fr.refl _ _ _,hH,hE,h⟩
theorem qag.exit{id:Nat}(h:Q (.exit id) e H):qag C n (.exit id) Q e H:=λ_ _ L hE hH=>wp_exit ⟨e,H,L,Fr.refl _ _ _,hH,hE,h⟩
theorem qag.ret(h:Q .ret e H):qag C n .ret Q e H:=λ_ _ L hE hH=>wp_ret ⟨e,H,L,Fr.refl _ _ _,hH,hE,h⟩
theorem zoC{c:Operand}{x y:Code}{t:Bool}(hc:e.ev c=.atom (.bool t))(ht:t=true->qag C n x Q e H)(hf:t=false->qag C n y Q e H):qag C n (.cond c x y) Q e H:=
 λa w L hE hH=>by
  have hv:=hE.ev c;rw[hc] at hv;simp only[Rep] at hv;exact wp_cond_split hv (λh=>ht h a w L hE hH) (λh=>hf h a w L hE hH)
theorem qag.region{id:Nat}{l:List Oper}(h:LOps C n l.toArray Q l e H):qag C n (.region id l.toArray false) Q e H:=λa w L hE hH=>wp_region_lit (h a w L hE hH)
theorem qi3{P:Program}{c:Code}{Q:Exit->Act->World->Prop}(I:Nat->Act->World->Prop)
  (round:∀ n a w,I n a w->c.wp P (Exit.then (λa' w'=>∃ m,m<n/\I m a' w') Q) a w) {n:Nat} {a:Act} {w:World} (h₀:I n a w):(Code.loop c).wp P Q a w:=by
 intro b k cs
 have key:∀ n a w,I n a w ->
   ∃ e a' w',Q e a' w'/\Arrives P (lone (b.at a (.code c::.inLoop c::k)) cs w) b k cs e a' w':=by
  intro n
  induction n using Nat.strongRecOn with
  |_ n ih=>
   intro a w hI;obtain⟨e,a₁,w₁,hq,harr⟩:=round n a w hI b (.inLoop c::k) cs
   cases e with
   |normal=>
    obtain⟨m,hlt,hI₁⟩:=hq;obtain⟨e₂,a₂,w₂,hq₂,harr₂⟩:=ih m hlt a₁ w₁ hI₁
    exact⟨e₂,a₂,w₂,hq₂,.of_steps (Steps.trans harr (.one step_inLoop)) harr₂⟩
   |exit id=>exact⟨_,a₁,w₁,hq,.pass (x:=.inLoop c) rfl (λ_ _=>.inl (by simp)) harr⟩
   |goto l=>exact⟨_,a₁,w₁,hq,.pass (x:=.inLoop c) rfl (λ_ _=>.inl (by simp)) harr⟩
   |ret=>exact⟨_,a₁,w₁,hq,.pass (x:=.inLoop c) rfl (λ_ _=>.inl (by simp)) harr⟩
   |panic ch=>exact⟨_,a₁,w₁,hq,.pass (x:=.inLoop c) rfl (λ_ _=>.inl (by simp)) harr⟩
   |outgrown=>exact⟨_,a₁,w₁,hq,.pass (x:=.inLoop c) rfl (λ_ _=>.inl (by simp)) harr⟩
 obtain⟨e,a',w',hq,harr⟩:=key n a w h₀;exact⟨e,a',w',hq,.of_steps (.one step_loop) harr⟩
theorem qag.loop{c:Code}(I:Nat->Env->Heap->Prop)(k:Nat)(h0:I k e H)
  (round:∀ k e H,I k e H->qag C n c (qaz (λe' H'=>∃ m,m<k/\I m e' H') Q) e H):qag C n (.loop c) Q e H:=λa w L hE hH=>by
 refine qi3 (I:=λk a' w'=>∃ e' H' L',Fr (keys H) w L w' L' H'/\RelH C w' L' H'/\RelE n a' e' w' L'/\I k e' H') (n:=k) ?_ ⟨e,H,L,Fr.refl _ _ _,hH,hE,h0⟩;rintro k a1 w1 ⟨e1,H1,L1,h1,h2,h3,h4⟩;refine Go.wp_mono (round k e1 H1 h4 a1 w1 L1 h3 h2) λex a' w' hq=>?_;obtain⟨e',H',L',g1,g2,g3,g4⟩:=hq
 cases ex with
 |normal=>
  obtain⟨m,hm,g4⟩:=g4
  exact⟨m,hm,e',H',L',h1.trans g1,g2,g3,g4⟩
 |exit id=>exact⟨e',H',L',h1.trans g1,g2,g3,g4⟩
 |goto id=>exact⟨e',H',L',h1.trans g1,g2,g3,g4⟩
 |ret=>exact⟨e',H',L',h1.trans g1,g2,g3,g4⟩
 |panic ch=>exact⟨e',H',L',h1.trans g1,g2,g3,g4⟩
 |outgrown=>exact⟨e',H',L',h1.trans g1,g2,g3,g4⟩
def Env.slots(j:Env):List (Nat×LV)->Env
 |[]=>j
 |(d,v)::r=>(Env.slots j r).upd d v
theorem Env.upd_self{e:Env}{d:Nat}{v:LV}(h:e.s d=v):e.upd d v=e:=by
 obtain⟨s,ds⟩:=e;simp only[Env.upd,Env.mk.injEq,and_true];funext i
 cases hb:Nat.beq i d with
 |false=>rfl
 |true=>
  have:=Nat.eq_of_beq_eq_true hb;subst this;exact h.symm
theorem Env.slots_self{e:Env}:∀ {l:List (Nat×LV)},(∀ p∈l,e.s p.1=p.2)->Env.slots e l=e
 |[],_=>rfl
 |(d,v)::r,h=>by
  simp only[Env.slots];rw[Env.slots_self (l:=r) (λp hp=>h p (zMo _ hp))];exact Env.upd_self (h (d,v) List.mem_cons_self)
end code
section exits
variable{C:Ctx}{n:Nat}{Q:Post}{e:Env}{H:Heap}{k:Env->Heap->Prop}{id id':Nat}
theorem qN(h:k e H):qaz k Q .normal e H:=h
theorem qaz.exit(h:Q (.exit id) e H):qaz k Q (.exit id) e H:=h
theorem qaz.ret(h:Q .ret e H):qaz k Q .ret e H:=h
theorem qaz.panic{ch:List PanicEntry}(h:Q (.panic ch) e H):qaz k Q (.panic ch) e H:=h
theorem qam.hit(h:Q .normal e H):qam id Q (.exit id) e H:=by simp only[qam,if_true];exact h
theorem qam.miss(hn:id'≠id)(h:Q (.exit id') e H):qam id Q (.exit id') e H:=by simp only[qam,zn hn];exact h
theorem qam.normal(h:Q .normal e H):qam id Q .normal e H:=h
theorem qam.ret(h:Q .ret e H):qam id Q .ret e H:=h
theorem qam.panic{ch:List PanicEntry}(h:Q (.panic ch) e H):qam id Q (.panic ch) e H:=h
theorem zoB{ops:Array Oper}{rest:List Oper}(d:Nat){b:Bool}(hb:e.s d=bool b)(ht:b=true->LOps C n ops Q rest (e.upd d (bool true)) H)(hf:b=false->LOps C n ops Q rest (e.upd d (bool false)) H):LOps C n ops Q rest e H:=by
 cases b;have:=hf rfl;rwa [Env.upd_self hb] at this;have:=ht rfl;rwa [Env.upd_self hb] at this
theorem qag.sub{c:Code}{d:Nat}{v v':LV}(hv:e.s d=v)(hs:v.Sub v')(h:qag C n c Q (e.upd d v') H):qag C n c Q e H:=λa w L hE hH=>by
 refine h a w L ⟨hE.size,hE.ds,λi=>?_⟩ hH;simp only[Env.upd]
 cases hb:Nat.beq i d with
 |false=>exact hE.vals i
 |true=>
  have hi:=Nat.eq_of_beq_eq_true hb;subst hi;have:=hE.vals i;rw[hv] at this;exact hs _ _ _ this
theorem LOps.sub{ops:Array Oper}{rest:List Oper}(d:Nat){v v':LV}(hv:e.s d=v)(hs:v.Sub v')(h:LOps C n ops Q rest (e.upd d v') H):LOps C n ops Q rest e H:=λa w L hE hH=>by
 refine h a w L ⟨hE.size,hE.ds,λi=>?_⟩ hH;simp only[Env.upd]
 cases hb:Nat.beq i d with
 |false=>exact hE.vals i
 |true=>
  have hi:=Nat.eq_of_beq_eq_true hb;subst hi;have:=hE.vals i;rw[hv] at this;exact hs _ _ _ this
theorem qhx{w w':World}{L:Live}{K:List Nat}{H1:Heap}(hK:∀ b∈K,b∈keys H1){x:Exit}{a:Act}(h:lift C n w L K Q x a w'):lift C n w L (keys H1) Q x a w':=
 let ⟨e',H',L',h1,h2,h3,h4⟩:=h
 ⟨e',H',L',⟨h1.os,h1.tape,h1.output,h1.ext,λb hb hn=>h1.block b hb (λk=>hn (hK b k)),λb hb hn=>h1.lsame b hb (λk=>hn (hK b k)),λp hp=>(h1.kin p hp).imp (hK _) id⟩,h2,h3,h4⟩
theorem HSub.keys{H' H:Heap}(s:HSub H' H):∀ b∈keys H',b∈GL.keys H:=λb hb=>by
 obtain⟨p,hp,rfl⟩:=List.mem_map.1 hb;obtain⟨G,hG⟩:=s;exact List.mem_map_of_mem (hG.mem_iff.2 (List.mem_append_left _ hp))
theorem cW{c:Code}{H':Heap}(s:HSub H' H)(h:qag C n c Q e H'):qag C n c Q e H:=λa w L hE hH=>Go.wp_mono (h a w L hE (hH.weak s)) λ_ _ _=>qhx s.keys
theorem LOps.weak{ops:Array Oper}{rest:List Oper}{H':Heap}(s:HSub H' H)(h:LOps C n ops Q rest e H'):LOps C n ops Q rest e H:=λa w L hE hH=>qbD (λ_ _ _=>qhx s.keys) _ _ _ (h a w L hE (hH.weak s))
theorem qag.perm{c:Code}{H':Heap}(s:H.Perm H')(h:qag C n c Q e H'):qag C n c Q e H:=cW ⟨[],by simpa using s⟩ h
end exits
def qbh(tmps:Array Value):ResultVar->Sem Value
 |.tmp t=>Pure.pure (tmps.getD t undef)
 |.cell a t=>do loadVar t (<-asAddr (tmps.getD a undef))
def qdb(C:Ctx)(n:Nat)(e:Env)(H:Heap)(r:ResultVar)(lv:LV):Prop:=
 ∀ a w L,RelE n a e w L->RelH C w L H->∃ v,(qbh a.tmps r).run C.P w=.ok v w/\Rep w L lv v
def qbX(C:Ctx)(n:Nat)(e:Env)(H:Heap):List ResultVar->List LV->Prop
 |[],[]=>True
 |r::rs,v::vs=>qdb C n e H r v/\qbX C n e H rs vs
 |_,_=>False
def qbJ:List LV->LV
 |[v]=>v
 |vs=>.tuple vs
def qad(C:Ctx)(n:Nat)(rs:List ResultVar)(R:LRes->Heap->Prop):Post
 |.normal,e,H|.ret,e,H=>e.ds=[]/\∃ vs H',qbX C n e H rs vs/\HSub H' H/\R (.ret (qbJ vs)) H'
 |.panic ch,e,H=>e.ds=[]/\∃ H',HSub H' H/\R (.panic ch) H'
 |_,_,_=>False
def qfE(args:List LV):Env:=⟨λi=>(args[i]?).getD (.atom undef),[]⟩
theorem RepL.length{w:World}{L:Live}:∀ {cs:List LV} {xs:List Value},RepL w L cs xs->xs.length=cs.length
 |[],xs,h=>by simp only[RepL] at h;subst h;rfl
 |c::cs,xs,h=>by
  simp only[RepL] at h;obtain⟨y,ys,rfl,_,h⟩:=h;simp[RepL.length h]
theorem RepL.get{w:World}{L:Live}:∀ {cs:List LV} {xs:List Value},RepL w L cs xs->∀ {i:Nat} {c:LV},cs[i]? = some c->∃ x,xs[i]? = some x/\Rep w L c x
 |[],_,_,i,c,hc=>by simp at hc
 |c::cs,xs,h,i,c',hc=>by
  simp only[RepL] at h;obtain⟨y,ys,rfl,h1,h⟩:=h
  cases i with
  |zero=>simp at hc;subst hc;exact⟨y,rfl,h1⟩
  |succ i=>simpa using RepL.get h (i:=i) (by simpa using hc)
theorem qdM{P:Program}{α β:Type}{s:Sem α}{f:α->Sem β}{w w':World}{v:α}(h:s.run P w=.ok v w'):(s >>= f).run P w=(f v).run P w':=by
 rw[zRB,h];try rfl
theorem qpb{P:Program}{fn:Func}(h:fn.results=#[])(tmps:Array Value)(w:World):(results fn tmps).run P w=.ok (.tuple #[]) w:=by simp[results,h]
theorem qtV{P:Program}{fn:Func}{r:ResultVar}(h:fn.results=#[r]){tmps:Array Value}{w:World}{v:Value}(h1:(qbh tmps r).run P w=.ok v w):(results fn tmps).run P w=.ok v w:=by
 have:results fn tmps=qbh tmps r:=by
  cases r <;> simp[results,h,qbh]
 rw[this,h1]
theorem qua{P:Program}{fn:Func}{r s:ResultVar}(h:fn.results=#[r,s]){tmps:Array Value}{w:World}{v u:Value}(h1:(qbh tmps r).run P w=.ok v w)(h2:(qbh tmps s).run P w=.ok u w) :
  (results fn tmps).run P w=.ok (.tuple #[v,u]) w:=by
 have:results fn tmps=(do let v <-qbh tmps r;let u <-qbh tmps s;Pure.pure (.tuple #[v,u])):=by
  cases r <;> cases s <;> simp[results,h,qbh]
 rw[this,qdM h1,qdM h2]
 try rfl
theorem qtA{P:Program}{fn:Func}{r s t:ResultVar}(h:fn.results=#[r,s,t]){tmps:Array Value}{w:World}{v u x:Value}(h1:(qbh tmps r).run P w=.ok v w)(h2:(qbh tmps s).run P w=.ok u w)(h3:(qbh tmps t).run P w=.ok x w) :
  (results fn tmps).run P w=.ok (.tuple #[v,u,x]) w:=by
 have:results fn tmps=(do let v <-qbh tmps r;let u <-qbh tmps s;let x <-qbh tmps t;Pure.pure (.tuple #[v,u,x])):=by
  cases r <;> cases s <;> cases t <;> simp[results,h,qbh]
 rw[this,qdM h1,qdM h2,qdM h3]
 try rfl
theorem qhO{C:Ctx}{n:Nat}{fn:Func}{e:Env}{H:Heap}{a:Act}{w:World}{L:Live}(hE:RelE n a e w L)(hH:RelH C w L H){vs:List LV}
  (h:qbX C n e H fn.results.toList vs) (h3:fn.results.size<=3):∃ v,(results fn a.tmps).run C.P w=.ok v w/\Rep w L (qbJ vs) v:=by
 obtain⟨rs,hrs⟩:∃ rs,fn.results=List.toArray rs:=⟨fn.results.toList,by simp⟩;rw[hrs] at h h3;simp only[List.size_toArray] at h h3
 match rs,vs,h,h3,hrs with
 |[],[],_,_,hrs=>exact⟨_,qpb hrs _ _,by simp only[qbJ,Rep];exact⟨[],rfl,by simp only[RepL]⟩⟩
 |[r],[x],h,_,hrs=>
  obtain⟨v,hv,hr⟩:=h.1 a w L hE hH
  exact⟨v,qtV hrs hv,hr⟩
 |[r,s],[x,y],h,_,hrs=>
  obtain⟨v,hv,hr⟩:=h.1 a w L hE hH;obtain⟨u,hu,hs⟩:=h.2.1 a w L hE hH
  exact⟨_,qua hrs hv hu,by simp only[qbJ,Rep];exact⟨[v,u],rfl,by simp only[RepL];exact⟨v,_,rfl,hr,u,_,rfl,hs,rfl⟩⟩⟩
 |[r,s,t],[x,y,z],h,_,hrs=>
  obtain⟨v,hv,hr⟩:=h.1 a w L hE hH;obtain⟨u,hu,hs⟩:=h.2.1 a w L hE hH;obtain⟨q,hq,ht⟩:=h.2.2.1 a w L hE hH
  exact⟨_,qtA hrs hv hu hq,by simp only[qbJ,Rep];exact⟨[v,u,q],rfl,by simp only[RepL];exact⟨v,_,rfl,hr,u,_,rfl,hs,q,_,rfl,ht,rfl⟩⟩⟩
 |_::_::_::_::_,_,_,h3,_=>simp at h3
 |[],_::_,h,_,_=>exact h.elim
 |[_],[],h,_,_=>exact h.elim
 |[_],_::_::_,h,_,_=>exact h.2.elim
 |[_,_],[],h,_,_=>exact h.elim
 |[_,_],[_],h,_,_=>exact h.2.elim
 |[_,_],_::_::_::_,h,_,_=>exact h.2.2.elim
 |[_,_,_],[],h,_,_=>exact h.elim
 |[_,_,_],[_],h,_,_=>exact h.2.elim
 |[_,_,_],[_,_],h,_,_=>exact h.2.2.elim
 |[_,_,_],_::_::_::_::_,h,_,_=>exact h.2.2.2.elim
theorem zcI{C:Ctx}{f:FuncId}{fn:Func}{c:Code}{n:Nat}{args:List LV}{H:Heap}{R:LRes->Heap->Prop}(hf:C.P.funcs[f]? = some fn)(hb:fn.body=some c)(hn:fn.ntmps=n)(h3:Nat.ble fn.results.size 3=true)
  (hl:Nat.ble args.length n=true) (h:qag C n c (qad C n fn.results.toList R) (qfE args) H):LCalls C f args H R:=λvs w L hv hH=>by
 subst hn;have hl':args.length<=fn.ntmps:=by simpa using hl
 have h3':fn.results.size<=3:=by simpa using h3
 have hlen:=hv.length;refine calls_of_wp hf hb (Go.wp_mono (h _ w L ⟨?_,rfl,λi=>?_⟩ hH) λex a' w' hq=>?_)
 simp;omega
 exact zT0;obtain⟨e',H',L',g1,g2,g3,g4⟩:=hq
 have ret:RelE fn.ntmps a' e' w' L'->(e'.ds=[]/\∃ vs H'',qbX C fn.ntmps e' H' fn.results.toList vs/\HSub H'' H'/\R (.ret (qbJ vs)) H'') ->
   a'.defers=[]/\∃ v,(results fn a'.tmps).run C.P w'=.ok v w'/\qcG C w L H (λv=>R (.ret v)) (λch=>R (.panic ch)) (.returned v) w':=λhE hr=>by
  obtain⟨h1,vs',H'',h2,h4,h5⟩:=hr;obtain⟨v,r1,r2⟩:=qhO hE g2 h2 h3';exact⟨hE.ds.trans h1,v,r1,qbJ vs',H'',L',g1.weak h4,g2.weak h4,r2,h5⟩
 cases ex with
 |normal=>exact ret g3 g4
 |ret=>exact ret g3 g4
 |panic ch=>
  obtain⟨h1,H'',h4,h5⟩:=g4
  exact⟨g3.trans h1,H'',L',g1.weak h4,g2.weak h4,h5⟩
 |exit id=>exact g4.elim
 |goto id=>exact g4.elim
 |outgrown=>exact g4.elim
theorem rT{C:Ctx}{n:Nat}{e:Env}{H:Heap}{t:Nat}{v lv:LV}(hv:e.s t=v)(h:v.Sub lv):qdb C n e H (.tmp t) lv:=λa w L hE _=>by
 have:=hE.vals t;rw[hv] at this;exact⟨_,rfl,h _ _ _ this⟩
end Go.GL
