import Derived.Below
import Derived.OrdersHeld
import Derived.Deep.Quiet
import Derived.Laws.Strings
set_option linter.unusedVariables false
set_option linter.unusedSimpArgs false
set_option maxRecDepth 100000
set_option maxHeartbeats 0
theorem ga{P:Prop}(h:P:=by omega):P:=h
theorem zn{c:Prop}{h:Decidable c}(k:¬c){α:Sort _}{t e:α}:@ite α c h t e=e:=if_neg k
theorem zp{c:Prop}{h:Decidable c}(k:c){α:Sort _}{t e:α}:@ite α c h t e=t:=if_pos k
theorem zR{α:Type _}{o:Option α}(h:o.isSome=true):∃ a,o=some a:=Option.isSome_iff_exists.1 h
theorem aj{α:Type _}{a b:α}(h:a∈[b]):a=b:=List.mem_singleton.1 h
theorem Sq{α:Type _}{a b:α}(h:a=b):a∈[b]:=List.mem_singleton.2 h
theorem On{α:Type _}{s t:List α}(h:(s++t).Nodup):s.Nodup/\t.Nodup/\∀ a∈s,∀ b∈t,a≠b:=List.nodup_append.1 h
theorem xj{α:Type _}{a:α}{s t:List α}(h:a∈s++t):a∈s∨a∈t:=List.mem_append.1 h
theorem zq{α:Type _}{a:α}{s t:List α}(h:a∈s∨a∈t):a∈s++t:=List.mem_append.2 h
theorem Ni{α β:Type _}{f:α->β}{b:β}{l:List α}(h:b∈l.map f):∃ a,a∈l/\f a=b:=List.mem_map.1 h
theorem jl{α β:Type _}{f:α->β}{b:β}{l:List α}(h:∃ a,a∈l/\f a=b):b∈l.map f:=List.mem_map.2 h
theorem Ym{α:Type _}(a b:α):(some a=some b)=(a=b):=Option.some.injEq a b
theorem qg{p:Prop}[Decidable p](h:decide p=true):p:=of_decide_eq_true h
theorem Jl{α:Type _}{a:α}{l:List α}:(a::l)[0]?=some a:=List.getElem?_cons_zero
theorem Bs{α:Type _}{a:α}{l:List α}{i:Nat}:(a::l)[i+1]?=l[i]?:=List.getElem?_cons_succ
theorem Yh{α:Type _}{l:List α}{i:Nat}(h:i<l.length):l[i]?=some l[i]:=List.getElem?_eq_getElem h
theorem Qg{α:Type _}{a:α}{l:List α}:a∈a::l:=List.Mem.head _
theorem Il:(false=true)=False:=Bool.false_eq_true
theorem nw{α:Type _}{l:List α}(h:l.length=1):∃ a,l=[a]:=List.length_eq_one_iff.1 h
theorem Dg{p:Prop}[Decidable p](h:p):decide p=true:=decide_eq_true h
theorem au{α:Type _}(a:α){s t:List α}(h:s.Perm t):(a::s).Perm (a::t):=.cons a h
theorem yq{α:Type _}(a b:α)(l:List α):(b::a::l).Perm (a::b::l):=.swap a b l
theorem wj(b:Bool):(false&&b)=false:=Bool.false_and b
theorem Lc{α β:Type}(P:Go.Program)(w:Go.World)(x:Go.Sem α)(f:α->Go.Sem β):Go.Sem.run P (x>>=f) w=(Go.Sem.run P x w).andThen λa w'=>Go.Sem.run P (f a) w':=Go.Sem.run_bind ..
theorem Xd{α:Type}(P:Go.Program)(w:Go.World)(a:α):Go.Sem.run P (pure a) w=.ok a w:=Go.Sem.run_pure ..
theorem jd{α β:Type}(a:α)(w:Go.World)(f:α->Go.World->Go.Result β):(Go.Result.ok a w).andThen f=f a w:=rfl
theorem Ga{α : Type _}{a b : List α} : (a ++ b).length = a.length + b.length := List.length_append
theorem Ma{α : Type _}{a : α}{l : List α} : (a :: l).length = l.length + 1 := rfl
theorem qc{α : Type _} : ([] : List α).length = 0 := rfl
theorem Mb{α β : Type _}{l : List α}(f : α -> β) : (l.map f).length = l.length := List.length_map f
theorem ue{α : Type _}(l : List α) : l ++ [] = l := List.append_nil l
theorem Yc{α : Type _}(a b c : List α) : a ++ b ++ c = a ++ (b ++ c) := List.append_assoc a b c
theorem Qe{α : Type _}{a : α}{l : List α} : a ∈ a :: l := List.mem_cons_self ..
theorem Oc{α : Type _}(b : α){a : α}{l : List α}(h : a ∈ l) : a ∈ b :: l := List.mem_cons_of_mem b h
theorem Dc{α : Type _}{a b : α}{l : List α} : a ∈ b :: l ↔ a = b ∨ a ∈ l := List.mem_cons
theorem B9{α : Type _}(l : List α) : l <+: l := List.prefix_refl l
theorem Te{α β : Type _}{f : α -> β}{l₁ l₂ : List α} : (l₁ ++ l₂).map f = l₁.map f ++ l₂.map f := List.map_append
theorem yd{α β : Type _}{f : α -> β}{a : α}{l : List α} : (a :: l).map f = f a :: l.map f := rfl
theorem Lh{α : Type _}{l₁ l₂ : List α} : (l₁ ++ l₂).Perm (l₂ ++ l₁) := List.perm_append_comm
theorem Rg{p : Prop} [Decidable p] : (decide p = true) = p := decide_eq_true_eq
theorem Ed(a b : Bool) : ((a && b) = true) = (a = true /\ b = true) := Bool.and_eq_true a b
theorem Pb(n : Nat) : n <= n := Nat.le_refl n
theorem Xf{a b c : Nat}(h : a <= b)(k : b <= c) : a <= c := Nat.le_trans h k
theorem zCs{α : Type _}{a b : α}(h : a = b := by kernel_rfl) : some a = some b := congrArg some h
theorem ea{P : Prop}(h : P := by decide) : P := h
theorem Kj{P Q:Prop}(h:Q)(t:(Unit->Q)->P:=by intro zu;(refine oS (sL [_] rfl (Qd rfl rfl pj) rfl rfl rfl ?_));exact zu ()):P:=t λ_=>h
theorem jC{P Q:Prop}(h:Q)(t:(Unit->Q)->P:=by intro zu;(refine Aa ?_;refine rR rfl (eb rfl) sd ⟨?_,rfl⟩);exact zu ()):P:=t λ_=>h
theorem fY{P Q:Prop}(h:Q)(t:(Unit->Q)->P:=by intro zu;(refine Ck (i:=4) zk ?_;refine lW rfl (.inl rfl) rfl (sS (Zb:=[_]) rfl Hl rfl rfl rfl rfl rfl ?_);refine Ck (i:=5) zk ?_;refine lW rfl (.inl rfl) rfl (sS (Zb:=[_]) rfl Hl rfl rfl rfl rfl rfl ?_);refine lD zk ?_;refine Aa ?_);exact zu ()):P:=t λ_=>h
theorem zQ3{P Q:Prop}(h:Q)(t:(Unit->Q)->P:=by intro zu;(refine oS (S.di (kt:=24) (el:=141) (kd:=.u32) zk zk rfl rfl rfl pH rfl rfl ?_);refine oS (S.di (kt:=24) (el:=141) (kd:=.u32) zk zk rfl rfl rfl pH rfl rfl ?_);refine oS (S.di (kt:=24) (el:=141) (kd:=.u32) zk zk rfl rfl rfl pH rfl rfl ?_);refine oS (S.di (kt:=24) (el:=141) (kd:=.u32) zk zk rfl rfl rfl pH rfl rfl ?_));exact zu ()):P:=t λ_=>h
theorem dY{P Q:Prop}(h:Q)(t:(Unit->Q)->P:=by intro zu;(refine Ck (i:=10) zk ?_;refine lH rfl rfl (pN rfl) ?_;refine Ck (i:=11) zk ?_;refine lH rfl rfl (pF rfl) ?_;refine Ck (i:=12) zk ?_;refine lW rfl (.inl rfl) rfl (sS (n:=1) (vs:=[v']) (Zb:=[_,_,_,_,_,v',_,_,_,_]) rfl pH (zZ Ob).1 rfl rfl (zZ Ob).2 rfl ?_);refine lD zk ?_;refine Aa ?_);exact zu ()):P:=t λ_=>h
theorem Ds{P Q:Prop}(h:Q)(t:(Unit->Q)->P:=by intro zu;(refine oS (sL [_,_] rfl (Zv [_,_]) rfl rfl rfl ?_));exact zu ()):P:=t λ_=>h
theorem CU{P Q:Prop}(h:Q)(t:(Unit->Q)->P:=by intro zu;(refine Ep ?_;refine oS (sF [] rfl h1 ?_);refine oS (sF [] rfl h2 ?_);refine qa (Pure.Gz rfl rfl (by first|omega|(simp only[Ga];omega))) ?_;refine oS (sF [] rfl h3 ?_);refine qa (Pure.Gz rfl rfl (by first|omega|(simp only[Ga];omega))) ?_);exact zu ()):P:=t λ_=>h
theorem BU{P Q:Prop}(h:Q)(t:(Unit->Q)->P:=by intro zu;(refine aT 0 rfl rfl (Cc (lv:=.atom _) rfl) ?_;refine aT 1 rfl rfl (Cc (lv:=.atom _) rfl) ?_;refine aT 2 rfl rfl (pN rfl) ?_;refine aT 3 rfl rfl (pF rfl) ?_);exact zu ()):P:=t λ_=>h
theorem zQ8{P Q:Prop}(h:Q)(t:(Unit->Q)->P:=by intro zu;(refine Ck (i:=11) zk ?_;refine lH rfl rfl (pN rfl) ?_;refine Ck (i:=12) zk ?_;refine lH rfl rfl (pF rfl) ?_;refine Ck (i:=13) zk ?_;refine lW rfl (.inl rfl) rfl (sS (n:=1) (vs:=[LV.atom v']) (Zb:=[_,_,_,_,_,_,_,_,_,_]) rfl pH (DV eF).1 rfl rfl (DV eF).2 rfl ?_);refine lD zk ?_;refine xa ?_);exact zu ()):P:=t λ_=>h
theorem JM{P Q:Prop}(h:Q)(t:(Unit->Q)->P:=by intro zu;(refine aT 0 rfl rfl (Cc (lv:=.atom _) rfl) ?_;refine aT 1 rfl rfl (pN rfl) ?_;refine aT 2 rfl rfl (pF rfl) ?_);exact zu ()):P:=t λ_=>h
theorem uw{P Q:Prop}(h:Q)(t:(Unit->Q)->P:=by intro zu;(refine xa ?_;refine qa (xR (Ud:=Ab x) (cs:=[_,_,_,_]) rfl rfl ea rfl rfl rfl) ?_;refine Ra ?_);exact zu ()):P:=t λ_=>h
theorem Zm{P Q:Prop}(h:Q)(t:(Unit->Q)->P:=by intro zu;(refine oS (sL [_] rfl (Zv [_]) rfl rfl rfl ?_));exact zu ()):P:=t λ_=>h
theorem gY{P Q:Prop}(h:Q)(t:(Unit->Q)->P:=by intro zu;(refine cD (m:=7) rfl [(b1,.cells 193 [.list (v.map str),.atom (.map (some m))])] ?_;refine aT 0 rfl rfl (Cc (lv:=.atom _) rfl) ?_;refine aT 1 rfl rfl (pF rfl) ?_;refine aT 2 rfl rfl (pL (c:=.list _) rfl xc rfl) ?_;refine aT 3 rfl rfl (Cc (lv:=.atom _) rfl) ?_;refine Rb.take (i:=4) ob rfl zk zk zk rfl (Pure.ft (es:=v.map str) (i:=0) (j:=(n:Int)) rfl rfl ⟨_,rfl⟩ zo zo (by rw[JB];omega) (CI v)) ?_;refine aT 5 rfl rfl (pA (lv:=.atom _) rfl) ?_;refine aT 6 rfl rfl (pA (lv:=.list _) rfl) ?_);exact zu ()):P:=t λ_=>h
theorem yP{P Q:Prop}(h:Q)(t:(Unit->Q)->P:=by intro zu;(refine cD (m:=11) rfl [(b3,.cells 216 [int .i64 kind,str name,.list (([]:List Ex).map Ab),.list ([x0].map Ab),.list (Ua.map uc),.list (Bb.map uc)])] ?_;refine aT 0 rfl rfl (Cc (lv:=.atom _) rfl) ?_;refine aT 1 rfl rfl (Cc (lv:=.atom _) rfl) ?_;refine aT 2 rfl rfl (pF rfl) ?_;refine aT 3 rfl rfl (pL (c:=.list _) rfl xc rfl) ?_;refine aT 5 rfl rfl (Cc (lv:=.atom _) rfl) ?_;refine aT 6 rfl rfl (pF rfl) ?_;refine aT 7 rfl rfl (pL (c:=.list _) rfl xc rfl) ?_);exact zu ()):P:=t λ_=>h
theorem qu{P Q:Prop}(h:Q)(t:(Unit->Q)->P:=by intro zu;(refine qa (Cc (lv:=v) rfl) ?_);exact zu ()):P:=t λ_=>h
theorem aK{P Q:Prop}(h:Q)(t:(Unit->Q)->P:=by intro zu;(refine aT 9 rfl rfl (Cc (lv:=.atom _) rfl) ?_;refine aT 10 rfl rfl (pN rfl) ?_;refine aT 11 rfl rfl (pF rfl) ?_;refine aT 12 rfl rfl (pL (c:=.atom _) rfl Xh rfl) ?_;refine aL ?_ (Fc pH Gd));exact zu ()):P:=t λ_=>h
theorem ZJ{P Q:Prop}(h:Q)(t:(Unit->Q)->P:=by intro zu;(refine lO 6 (lH rfl rfl (pF rfl) ?_);refine lO 7 (lW rfl (.inl rfl) rfl (sS (Zb:=[v1,v',v3]) rfl Vd (Acc.cell Wm).1 rfl rfl (Acc.cell Wm).2 rfl ?_));refine lD zk ?_;refine Aa ?_);exact zu ()):P:=t λ_=>h
theorem YJ{P Q:Prop}(h:Q)(t:(Unit->Q)->P:=by intro zu;(refine lO 6 (lH rfl rfl (pF rfl) ?_);refine lO 7 (lW rfl (.inl rfl) rfl (sS (Zb:=[v1,v2,v']) rfl Vd (Acc.cell Wm).1 rfl rfl (Acc.cell Wm).2 rfl ?_));refine lD zk ?_;refine Aa ?_);exact zu ()):P:=t λ_=>h
theorem PF{P Q:Prop}(h:Q)(t:(Unit->Q)->P:=by intro zu;(refine Zi ?_;refine qa (xR (Ud:=Lj l[i]) (cs:=[_,_]) rfl rfl zo (Mo _ _ _ Ka) rfl rfl) ?_;refine Ra ?_);exact zu ()):P:=t λ_=>h
theorem xP{P Q:Prop}(h:Q)(t:(Unit->Q)->P:=by intro zu;(refine Ck (i:=8) zk ?_;refine lW rfl (.inl rfl) rfl (sL (es:=[int .u8 (IntKind.u8.wrap (v:Int))]) [_] rfl (Qd rfl rfl pj) rfl rfl rfl ?_);refine Ck (i:=9) zk ?_);exact zu ()):P:=t λ_=>h
theorem wP{P Q:Prop}(h:Q)(t:(Unit->Q)->P:=by intro zu;(refine lO 9 (lH rfl rfl (Pure.Hr (Sf c x0) (Xl c Ua) (Xl c Bb) rfl rfl rfl rfl rfl rfl) ?_);refine lO 10 (lH rfl rfl (pA (lv:=.atom _) rfl) ?_);refine lD zk ?_;refine wa ?_;refine qa (Pure.ck 2 (max (max (Sf c x0) (Xl c Ua)) (Xl c Bb)) rfl rfl rfl rfl) ?_;refine Ad ?_);exact zu ()):P:=t λ_=>h
theorem Ql{P Q:Prop}(h:Q)(t:(Unit->Q)->P:=by intro zu;(refine qa (pA (lv:=v') rfl) ?_);exact zu ()):P:=t λ_=>h
theorem eY{P Q:Prop}(h:Q)(t:(Unit->Q)->P:=by intro zu;(refine lW rfl (.inl rfl) rfl (sS (Zb:=[_]) rfl Hl rfl rfl rfl rfl rfl ?_);refine Ck (i:=2) zk ?_;refine lH rfl rfl (pL (c:=.atom _) rfl YB rfl) ?_;refine Ck (i:=5) zk ?_;refine lW rfl (.inl rfl) rfl (sS (Zb:=[_]) rfl Hl rfl rfl rfl rfl rfl ?_);refine lD zk ?_;refine Aa ?_);exact zu ()):P:=t λ_=>h
theorem xz{P Q:Prop}(h:Q)(t:(Unit->Q)->P:=by intro zu;(refine Gw.seq (Gw.recover rfl rfl ?_);refine Gw.of ?_);exact zu ()):P:=t λ_=>h
theorem NF{P Q:Prop}(h:Q)(t:(Unit->Q)->P:=by intro zu;(refine lW rfl (.inl rfl) rfl (sS (Zb:=[_,_,_]) rfl Hl rfl rfl rfl rfl rfl ?_));exact zu ()):P:=t λ_=>h
theorem Tq{P Q:Prop}(h:Q)(t:(Unit->Q)->P:=by intro zu;(refine kb.quiet zk ?_;refine Ra ?_);exact zu ()):P:=t λ_=>h
theorem iC{P Q:Prop}(h:Q)(t:(Unit->Q)->P:=by intro zu;(refine lW rfl (.inl rfl) rfl (sL [_] rfl (Qd rfl rfl pj) rfl rfl rfl ?_));exact zu ()):P:=t λ_=>h
theorem sw{P Q:Prop}(h:Q)(t:(Unit->Q)->P:=by intro zu;(refine Kg.seq (Kg.region ?_);refine Ra ?_);exact zu ()):P:=t λ_=>h
theorem LF{P Q:Prop}(h:Q)(t:(Unit->Q)->P:=by intro zu;(refine qa (Pure.Gz rfl rfl (by first|omega|(simp only[Ga];omega))) ?_;refine Ad ?_);exact zu ()):P:=t λ_=>h
theorem vP{P Q:Prop}(h:Q)(t:(Unit->Q)->P:=by intro zu;(refine Rb.Ai (i:=3) rfl rfl rfl rfl zk zk zk rfl ?_;refine Rb.Ai (i:=4) rfl rfl rfl rfl zk zk zk rfl ?_;refine Rb.Ai (i:=5) rfl rfl rfl rfl zk zk zk rfl ?_;refine Rb.Ai (i:=6) rfl rfl rfl rfl zk zk zk rfl ?_);exact zu ()):P:=t λ_=>h
theorem gC{P Q:Prop}(h:Q)(t:(Unit->Q)->P:=by intro zu;(refine qu ?_;refine qa (pA (lv:=v) rfl) ?_;refine Ad ?_);exact zu ()):P:=t λ_=>h
theorem uP{P Q:Prop}(h:Q)(t:(Unit->Q)->P:=by intro zu;(refine cD (m:=6) rfl [(b2,.cells 123 [ptr k.tb 0]),MO b3 op num name [x,y]] ?_;refine aT 0 rfl rfl (pL (c:=.atom _) rfl xc rfl) ?_;refine aT 1 rfl rfl (pF rfl) ?_;refine aT 2 rfl rfl (pL (c:=.list _) rfl Xh rfl) ?_);exact zu ()):P:=t λ_=>h
theorem Bo{P Q:Prop}(h:Q)(t:(Unit->Q)->P:=by intro zu;(refine Kg.seq (Kg.of ?_));exact zu ()):P:=t λ_=>h
theorem KF{P Q:Prop}(h:Q)(t:(Unit->Q)->P:=by intro zu;(refine lO 4 (lW rfl (.inl rfl) rfl (sL [_] rfl (Qd rfl rfl pj) rfl rfl rfl ?_)));exact zu ()):P:=t λ_=>h
theorem qw{P Q:Prop}(h:Q)(t:(Unit->Q)->P:=by intro zu;(refine aT 2 rfl rfl (Cc (lv:=.atom _) rfl) ?_);exact zu ()):P:=t λ_=>h
theorem tP{P Q:Prop}(h:Q)(t:(Unit->Q)->P:=by intro zu;(refine qa (xR (Ud:=Eg f) (n:=((fs.map Eg).length:Int)-1) (cs:=[str f.name,.list (f.params.map str),.list (f.locals.map str),.list (f.body.map uc)]) rfl rfl Zu lq rfl rfl) ?_;refine Ra ?_);exact zu ()):P:=t λ_=>h
theorem XJ{P Q:Prop}(h:Q)(t:(Unit->Q)->P:=by intro zu;(refine xa ?_;refine qa (xR (Ud:=Ab v) (cs:=[_,_,_,_]) rfl rfl ea rfl rfl rfl) ?_;refine Ra ?_);exact zu ()):P:=t λ_=>h
theorem WJ{P Q:Prop}(h:Q)(t:(Unit->Q)->P:=by intro zu;(refine qu ?_;refine qa (xR (Ud:=iv n0) (cs:=[iv n0]) um rfl zo rfl rfl rfl) ?_;refine Ra ?_);exact zu ()):P:=t λ_=>h
theorem VJ{P Q:Prop}(h:Q)(t:(Unit->Q)->P:=by intro zu;(refine BU ?_;refine aT 5 rfl rfl (pF rfl) ?_;refine aT 6 rfl rfl (pL (c:=.atom _) rfl xc rfl) ?_);exact zu ()):P:=t λ_=>h
theorem rP{P Q:Prop}(h:Q)(t:(Unit->Q)->P:=by intro zu;(refine lO 5 (lH rfl rfl (pF rfl) ?_);refine lO 6 (lW rfl (.inl rfl) rfl (sS (Zb:=[v',v2,v3]) rfl Vd (Acc.cell Wm).1 rfl rfl (Acc.cell Wm).2 rfl ?_));refine lD zk ?_;refine Aa ?_);exact zu ()):P:=t λ_=>h
theorem fC{P Q:Prop}(h:Q)(t:(Unit->Q)->P:=by intro zu;(refine PW.once h hw ?_ (by rw[y3 ea];exact Pb 1));exact zu ()):P:=t λ_=>h
theorem Es{P Q:Prop}(h:Q)(t:(Unit->Q)->P:=by intro zu;(refine Cj.nil ?_;refine qN ?_);exact zu ()):P:=t λ_=>h
theorem pP{P Q:Prop}(h:Q)(t:(Unit->Q)->P:=by intro zu;(refine cD (m:=8) rfl [(b1,.cells 193 [.list (v.map str),.atom (.map (some m))])] ?_;refine aT 0 rfl rfl (Cc (lv:=.atom _) rfl) ?_;refine aT 1 rfl rfl (Cc (lv:=.atom _) rfl) ?_);exact zu ()):P:=t λ_=>h
theorem cY{P Q:Prop}(h:Q)(t:(Unit->Q)->P:=by intro zu;(refine Ck (i:=7) zk ?_;refine lH rfl rfl (pA (lv:=.atom _) rfl) ?_;refine lD zk ?_;refine Ad ?_;refine⟨⟨mb,mm,bm⟩,trivial,Kb,?_,rfl⟩);exact zu ()):P:=t λ_=>h
theorem bY{P Q:Prop}(h:Q)(t:(Unit->Q)->P:=by intro zu;(refine oS (S.di (kt:=24) (el:=141) (kd:=.u32) zk zk rfl rfl rfl pH rfl rfl ?_);refine oS (S.di (kt:=24) (el:=141) (kd:=.u32) zk zk rfl rfl rfl pH rfl rfl ?_));exact zu ()):P:=t λ_=>h
theorem JF{P Q:Prop}(h:Q)(t:(Unit->Q)->P:=by intro zu;(refine lO 7 (lH rfl rfl (Pure.cg (o:=a) rfl rfl zo zo zo) ?_));exact zu ()):P:=t λ_=>h
theorem UJ{P Q:Prop}(h:Q)(t:(Unit->Q)->P:=by intro zu;(refine aL ?_ ob;refine lO 1 (lS (H1:=[]) rfl (.inl rfl) rfl dc ob (sF [_,_] rfl k0 ?_)));exact zu ()):P:=t λ_=>h
theorem ow{P Q:Prop}(h:Q)(t:(Unit->Q)->P:=by intro zu;(refine aL ?_ ob;refine lD zk ?_);exact zu ()):P:=t λ_=>h
theorem nP{P Q:Prop}(h:Q)(t:(Unit->Q)->P:=by intro zu;(refine Zi ?_;refine qa (xR (Ud:=wc s) (cs:=[str s.1,int .i64 s.2]) rfl rfl zo (by rw[ec];exact de wc pre s l2) rfl rfl) ?_;refine Ra ?_);exact zu ()):P:=t λ_=>h
theorem IF{P Q:Prop}(h:Q)(t:(Unit->Q)->P:=by intro zu;(refine lH rfl rfl (pL (c:=.atom _) rfl Xh rfl) ?_);exact zu ()):P:=t λ_=>h
theorem GF{P Q:Prop}(h:Q)(t:(Unit->Q)->P:=by intro zu;(refine Aa ?_;refine qa (pI (c:=c1) rfl rfl ea rfl) ?_);exact zu ()):P:=t λ_=>h
theorem mP{P Q:Prop}(h:Q)(t:(Unit->Q)->P:=by intro zu;(refine JM ?_;refine aT 3 rfl rfl (pL (c:=.atom _) rfl Xh rfl) ?_;refine aT 4 rfl rfl (pF rfl) ?_;refine aT 5 rfl rfl (pL (c:=.atom _) rfl xc rfl) ?_);exact zu ()):P:=t λ_=>h
theorem Cs{P Q:Prop}(h:Q)(t:(Unit->Q)->P:=by intro zu;(refine qu ?_;refine Aa ?_);exact zu ()):P:=t λ_=>h
theorem FF{P Q:Prop}(h:Q)(t:(Unit->Q)->P:=by intro zu;(refine qa (pI (c:=a) rfl rfl zo lq) ?_;refine Ra ?_);exact zu ()):P:=t λ_=>h
theorem TJ{P Q:Prop}(h:Q)(t:(Unit->Q)->P:=by intro zu;(refine wa ?_;refine oS (sL [_,_,_] rfl (Zv [_,_,_]) rfl rfl rfl ?_));exact zu ()):P:=t λ_=>h
theorem kP{P : Prop}(h : P := by
  simp only[tI];rw[Array.getD_eq_getD_getElem?];rcases Nat.lt_or_ge i args.length with hi|hi
  ·rw[Yh hi]
   obtain⟨x,hx,hr⟩:=hv.get (Yh hi);have Y5:(vs.toArray++Array.replicate (fn.ntmps-vs.toArray.size) undef)[i]? = some x:=by rw[Array.getElem?_append_left (by simp;omega)];simpa using hx
   rw[Y5];exact hr
  ·rw[List.getElem?_eq_none hi]
   have Y5:((vs.toArray++Array.replicate (fn.ntmps-vs.toArray.size) undef)[i]?).getD undef=undef:=by rw[Array.getElem?_append_right (by simp;omega)];rw[Array.getElem?_replicate];try split <;> rfl
   rw[Y5];simp only[Option.getD_none,Fb]) : P := h
theorem aY{P : Prop}(h : P := by
  refine Ck (i:=10) zk ?_;refine lW rfl (.inl rfl) rfl (S.MH (HM:=HC) (F:=_::(Xm++(k.kh s.mem::k.mh::HO))) rfl qAO hC rfl (by simp;rfl) rfl (by simp;omega) λv' H' eF=>?_)
  refine zQ8 ?_;have hm3:Lf 24 1 v' (us (s.pc::s.calls).reverse) H':=by rw[List.reverse_cons,gG];exact eF
  exact rO tj rN ⟨[],by rw[ue];exact Lh.trans qAO.symm⟩ ⟨rfl,v',H',vo,HO,_::Xm,hm3,hO,⟨ru,Xm,dw,rfl⟩,rfl⟩) : P := h
theorem BF{P : Prop}(h : P := by
  refine Aa ?_;exact⟨⟨rfl,rfl,rfl,Re (hc.trans (cU (zt hc) ea)),trivial⟩,rfl,rfl⟩) : P := h
theorem A9{P : Prop}(h : P := by
  rw[De,h3,Ih] at hI;refine Zd ?_;exact ke.panic (Na.trans (Gc.trans hj)) (qws (A:=[(b5,ja.cells 219 [str (Li ex),int .u32 (Qs ex),str (Us ex),.list (Xq ex)]),(b,ja.cells 219 [str [],int .u32 0,str [],fc])]) (B:=[(bo,ja.cells 250 [.atom (.func (.func fn) first db)]),(bs,ja.cells 109 [ptr sb 0]),(bp,ja.cells 42 [.list ((Oi k).map str)]),(bn,ja.cells 4 [bool (decide ((k:Int)=2))])])) (by cases hI;exact⟨rfl,i3,wg,rfl⟩)) : P := h
theorem IM{P : Prop}(h : P := by
  rw[De,h3,Ih] at hI;refine Zd ?_;exact Mc (Na.trans (Gc.trans hj)) (by cases hI;rfl) Gd) : P := h
theorem y9{P : Prop}(h : P := by
  refine Ck (i:=1) zk ?_;refine lH rfl rfl (pL (c:=.atom _) rfl YB rfl) ?_;refine fY ?_;have hp:Di s=(Ej,l,er):=by rw[Di,hL]
  rw[hp];exact⟨[Cw Ej,int .i64 l,int .i64 er],[],rC (rA (k:=3) (cs:=[fc,fc,fc]) rfl Qo rfl (vA (bs:=[.list [],.list [],.list []]) ⟨vN,vN,vN,trivial⟩)) (rC (pn.Ic (cs:=[int .i64 l]) rfl Qo rfl ie) (rC (pn.Ic (cs:=[int .i64 er]) rfl Qo rfl ie) rN)),HSub.nil _,rfl,rfl⟩) : P := h
theorem RJ{P : Prop}(h : P := by
  refine jC ?_;simp only[q1,q2,wj,Bool.and_false,Bool.true_and];rfl) : P := h
theorem x9{P : Prop}(h : P := by
  refine Ck (i:=3) zk ?_;refine NF ?_;refine fY ?_;have hp:Di s=(Ej,l,er):=by rw[Di,hL]
  rw[hp];exact⟨[Cw Ej,int .i64 l,int .i64 er],[],rC (rA (k:=3) (cs:=[fc,fc,fc]) rfl Qo rfl (vA (bs:=[.list [],.list [],.list []]) ⟨vN,vN,vN,trivial⟩)) (rC (pn.Ic (cs:=[int .i64 l]) rfl Qo rfl ie) (rC (pn.Ic (cs:=[int .i64 er]) rfl Qo rfl ie) rN)),HSub.nil _,rfl,rfl⟩) : P := h
theorem QJ{P : Prop}(h : P := by
  refine jC ?_;simp only[q1,wj,Bool.and_false,Bool.true_and];rfl) : P := h
theorem w9{P : Prop}(h : P := by
  rw[De,h4,Je] at hI;obtain⟨g1,g2,g3,rfl⟩:=(Ky T k).1 0 _ _ _ (De.trans (congrArg some h4));have g5:=g3 zo;have g6:=g2 rfl;refine Kj ?_;refine oS (S.Yx rfl Eb rfl (by simp;rfl) rfl (by simp;omega) λv' H' Ob=>?_)
  refine Ql ?_;refine Aa ?_;exact⟨k,_,_,by omega,⟨v',l++[e2],i4,H',by omega,rfl,rfl,by rw[Te];exact Ob,by omega,by simp;omega,hI⟩,Kb,bc _,hj⟩) : P := h
theorem jP{P : Prop}(h : P := by
  refine Ck (i:=7) zk ?_;refine lH rfl rfl (Pure.nE rfl) ?_;refine xP ?_;refine lW rfl (.inl rfl) rfl (sG (A:=_::(Xm++(k.kh s.mem::k.mh::HC))) WM rfl hO rfl (λv hv=>by rw[aj hv];rfl) rfl Bt λv' H' Ob=>?_)
  rw[e1] at Ob;refine dY ?_;exact rO tj rN ⟨[],by rw[ue];exact Lh.trans WM.symm⟩ ⟨rfl,vc,HC,v',H',_::Xm,hC,Ob,⟨ru,Xm,dw,rfl⟩,rfl⟩) : P := h
theorem iP{P : Prop}(h : P := by
  refine IF ?_;refine fY ?_;have hp:Di s=(Ej,l,er):=by rw[Di,hL]
  rw[hp];exact⟨[Cw Ej,int .i64 l,int .i64 er],[],rC (rA (k:=3) (cs:=[fc,fc,fc]) rfl Qo rfl (vA (bs:=[.list [],.list [],.list []]) ⟨vN,vN,vN,trivial⟩)) (rC (pn.Ic (cs:=[int .i64 l]) rfl Qo rfl ie) (rC (pn.Ic (cs:=[int .i64 er]) rfl Qo rfl ie) rN)),HSub.nil _,rfl,rfl⟩) : P := h
theorem vz{P : Prop}(h : P := by
  refine jC ?_;simp only[q1,q2,q3,wj,Bool.and_false,Bool.true_and];rfl) : P := h
theorem fP{P : Prop}(h : P := by
  refine eY ?_;have hp:Di s=(Ej,l,er):=by rw[Di,hL]
  rw[hp];exact⟨[Cw Ej,int .i64 l,int .i64 er],[],rC (rA (k:=3) (cs:=[fc,fc,fc]) rfl Qo rfl (vA (bs:=[.list [],.list [],.list []]) ⟨vN,vN,vN,trivial⟩)) (rC (pn.Ic (cs:=[int .i64 l]) rfl Qo rfl ie) (rC (pn.Ic (cs:=[int .i64 er]) rfl Qo rfl ie) rN)),HSub.nil _,rfl,rfl⟩) : P := h
theorem EF{P : Prop}(h : P := by
  intro h;have h':_:=zt h;obtain⟨a1,a2,a3,a4,a5⟩:=h';exact⟨⟨⟨⟨by simpa using a1,by omega⟩,by omega⟩,by omega⟩,by omega⟩) : P := h
theorem bC{P : Prop}(h : P := by
  refine jC ?_;simp only[q1,q2,q3,q4,wj,Bool.and_false,Bool.true_and];rfl) : P := h
theorem dP{P : Prop}(h : P := by
  have e3:n<i:=by have:=zf h3;omega
  rw[zp e3] at hD;refine Aa ?_;refine gY ?_;refine ow ?_;refine Ad ?_;exact qb (Gc.trans (Me.trans hj)) (rC (Xc rfl) (rC (rT (v:=.list _) rfl ie) rN)) (by rw[hD];exact congrArg (λx=>LV.tuple [int .i64 (i:Nat),.list x]) List.map_take.symm)) : P := h
theorem DF{P : Prop}(h : P := by
  rintro⟨⟨⟨⟨a1,a2⟩,a3⟩,a4⟩,a5⟩;exact Dg ⟨by simpa using a1,by omega,by omega,by omega,by omega⟩) : P := h
theorem cP{P : Prop}(h : P := by
  refine Ck (i:=5) zk ?_;refine lH rfl rfl (pB _ (cs:=[_,_,_,_,_,_,_,_,_,_]) rfl) ?_;refine Ck (i:=6) zk ?_;refine lW rfl (.inl rfl) rfl (sB rfl λmb=>?_);refine cY ?_;first
   |exact Fc pH (Fc pH (Fc pH ob))
   |exact Fc pH (Fc Vd (Fc pH ob))) : P := h
theorem CF{P : Prop}(h : P := by
  rw[Ae,h2,Ih] at hr;refine Zd ?_;exact Mc (Na.trans hj) (by cases hr;rfl) Gd) : P := h
theorem AF{P : Prop}(h : P := by
  rw[h1,Ih] at hr;refine Yi ?_;exact Mc (Na.trans rfl) (by cases hr;rfl) Gd) : P := h
theorem bP{P : Prop}(h : P := by
  have hk:¬ k=2:=by have:=zf fi;omega
  rw[zn hk] at hI;refine Aa ?_;exact⟨q,_,_,by omega,⟨.mk (Sz T i2) 0 [] [ex,e2],i3,by omega,rfl,rfl,q4,hI⟩,Kb,(by rw[qj2];exact bc _),Gc.trans hj⟩) : P := h
theorem zF{P : Prop}(h : P := by
  rw[Ae,h1,Ih] at hr;refine Zd ?_;exact Mc gp (by cases hr;rfl) Gd) : P := h
theorem aP{P : Prop}(h : P := by
  rw[h,Bool.true_and] at r1;refine Aa ?_;refine oS (sF [_] rfl (qm6 _ ma) ?_);refine Aa ?_;exact Iy rfl (rC (rT (v:=.atom _) rfl (vR _)) (rC (rT (v:=.atom _) rfl (vR _)) rN)) (sn.mk r1 r2)) : P := h
theorem yF{P : Prop}(h : P := by
  right;cases h:ur v with
  |none=>rfl
  |some s=>exact absurd ⟨hc,s,h⟩ h3) : P := h
theorem ZO{P : Prop}(h : P := by
  have Kn:R=.Be s:=by
   rw[<-lh];unfold XI;cases hd:s.data with
   |nil=>rfl
   |cons x r=>simp only;rw[zn (hb x r hd)]
  subst Kn;refine Zd ?_;exact ke.panic (Na.trans tj) ob (Gr _ _ Eh)) : P := h
theorem xF{P : Prop}(h : P := by
  rw[h1,Ih] at hr;refine Zd ?_;exact Mc gp (by cases hr;rfl) Gd) : P := h
theorem wF{P : Prop}(h : P := by
  rw[h3,Ih] at hr;refine Zd ?_;exact Mc gp (by cases hr;rfl) Gd) : P := h
theorem YO{P : Prop}(h : P := by
  have hk:k=2:=by have:=zt fi;omega
  rw[zp hk] at hI;refine xa ?_;exact rR (Gc.trans hj) (rC (rA rfl xc rfl ie) rN) (Yg (Yg ob)) (by cases hI;exact⟨by rw[GC];rfl,rfl⟩)) : P := h
theorem SJ{P : Prop}(h : P := by
  refine wa ?_;exact qb rfl (rC (Xc rfl) (rC (rT (v:=fc) rfl vN) rN)) (by rw[hF];rfl)) : P := h
theorem XO{P : Prop}(h : P := by
  have e3:¬ n<i:=by have:=zt h3;omega
  rw[zn e3] at hD;refine Ak ?_;exact qb (Gc.trans (Me.trans hj)) (rC (Xc rfl) (rC (rT (v:=fc) rfl vN) rN)) (by rw[hD];rfl)) : P := h
theorem ou{P : Prop}(h : P := by
  injection h with h;subst h;simp) : P := h
theorem WO{P : Prop}(h : P := by
  rw[h,Bool.true_and] at r1;refine Aa ?_;refine oS (sF [_] rfl (NW _ ma) ?_);refine Aa ?_;exact Iy rfl (rC (Xc rfl) (eb rfl)) (sn.mk r1 r2)) : P := h
namespace Go.GL
variable{Q:Prop}
theorem pd{α:Type _}{a b:α}{l:List α}(h:a∈l):a∈b::l:=List.Mem.tail _ h
theorem zo{P:Prop}(h:P:=by omega):P:=h
theorem zk{P:Prop}(h:P:=by kernel_rfl):P:=h
theorem dc{α:Type _}{l:List α}:l.Perm l:=List.Perm.refl _
theorem xc{α:Type _}{a:α}{l:List α}:a∈a::l:=(Qg)
theorem Xh{α:Type _}{a b:α}{l:List α}:b∈a::b::l:=(pd (Qg))
theorem YB{α:Type _}{a b c:α}{l:List α}:c∈a::b::c::l:=(pd (pd (Qg)))
theorem VO{α:Type _}{a b c d:α}{l:List α}:d∈a::b::c::d::l:=(pd (pd (pd (Qg))))
theorem AU{α:Type _}{a b c d e:α}{l:List α}:e∈a::b::c::d::e::l:=(pd (pd (pd (pd (Qg)))))
theorem zU{α:Type _}{a b c d e f:α}{l:List α}:f∈a::b::c::d::e::f::l:=(pd (pd (pd (pd (pd (Qg))))))
theorem r9{α:Type _}{a b c d e f g:α}{l:List α}:g∈a::b::c::d::e::f::g::l:=(pd (pd (pd (pd (pd (pd (Qg)))))))
theorem zm7{α:Type _}{a b c d e f g h:α}{l:List α}:h∈a::b::c::d::e::f::g::h::l:=(pd (pd (pd (pd (pd (pd (pd (Qg))))))))
theorem zm8{α:Type _}{a b c d e f g h i:α}{l:List α}:i∈a::b::c::d::e::f::g::h::i::l:=(pd (pd (pd (pd (pd (pd (pd (pd (Qg)))))))))
theorem gp{P:Prop}(h:P:=by first|exact Fj.trans rfl|exact Fj.trans hj|exact Fj.trans (Gc.trans hj)):P:=h
theorem PJ{P:Prop}(h:P:=by first|exact pH|exact pT pH|exact pT (pT (pH))|exact pT (pT (pT (pH)))|exact pT (pT (pT (pT (pH))))|exact pT (pT (pT (pT (pT (pH)))))|exact pT (pT (pT (pT (pT (pT (pH))))))|exact pT (pT (pT (pT (pT (pT (pT (pH)))))))):P:=h
theorem zt{p:Prop} [Decidable p](h:decide p=true):p:=qg h
theorem zf{p:Prop} [Decidable p](h:decide p=false):¬p:=of_decide_eq_false h
theorem Aa{P:Prop}(h:Q)(t:(Unit->Q)->P:=by intro h;(repeat first|refine qN ?_|refine Ea.nil ?_|refine kb.seq ?_|refine qa (Cc (lv:=.atom _) rfl) ?_|refine qa (pA (lv:=.atom _) rfl) ?_|refine kb.ret ?_|refine kb.skip ?_|refine qa (pF rfl) ?_|refine Ea.want rfl rfl ?_|refine kb.block ?_|refine Ie.ret ?_|refine pf.normal ?_|refine Ie.panic ?_|refine qa (Pure.Yl (lv:=.atom _) rfl rfl) ?_|refine qa (pL (c:=.atom _) rfl (Qg) rfl) ?_|refine qa (Pure.Wp (lv:=.atom _) rfl rfl) ?_|refine Ea.skip rfl rfl rfl rfl ?_|refine qa (Pure.add rfl rfl ga) ?_|refine pf.panic ?_|refine qa (Pure.eql rfl rfl) ?_|refine pf.ret ?_|refine qa (Cc (lv:=.list _) rfl) ?_|refine qa (Pure.lss rfl rfl) ?_|refine qa (Pure.extract (c:=.atom _) rfl rfl) ?_|refine qa (Cc (lv:=.tuple _) rfl) ?_|refine pf.hit ?_|refine Ie.exit ?_|refine kb.exit ?_|refine qa (pN rfl) ?_|refine qa (Pure.Ro rfl) ?_|refine qa (Pure.seq rfl rfl) ?_);exact h ()):P:=t λ_=>h
theorem xa{P:Prop}(h:Q)(t:(Unit->Q)->P:=by intro h;(repeat first|refine qN ?_|refine Ea.nil ?_|refine kb.region ?_|refine kb.seq ?_|refine qa (Cc (lv:=.atom _) rfl) ?_|refine qa (pA (lv:=.atom _) rfl) ?_|refine kb.ret ?_|refine kb.skip ?_|refine qa (pF rfl) ?_|refine Ea.want rfl rfl ?_|refine kb.block ?_|refine Ie.ret ?_|refine pf.normal ?_|refine qa (Pure.Yl (lv:=.atom _) rfl rfl) ?_|refine qa (pL (c:=.atom _) rfl (Qg) rfl) ?_|refine qa (Pure.Wp (lv:=.atom _) rfl rfl) ?_|refine Ea.skip rfl rfl rfl rfl ?_|refine qa (Pure.add rfl rfl ga) ?_|refine qa (Pure.eql rfl rfl) ?_|refine pf.ret ?_|refine qa (Cc (lv:=.list _) rfl) ?_|refine qa (Pure.lss rfl rfl) ?_|refine qa (Pure.extract (c:=.atom _) rfl rfl) ?_|refine qa (Cc (lv:=.tuple _) rfl) ?_|refine pf.hit ?_|refine Ie.exit ?_|refine kb.exit ?_|refine qa (pN rfl) ?_|refine qa (Pure.Ro rfl) ?_|refine qa (Pure.seq rfl rfl) ?_|refine qa (pL (c:=.list _) rfl (Qg) rfl) ?_|refine qa (Pure.not rfl) ?_|refine qa (pA (lv:=.list _) rfl) ?_|refine oS (sS (Zb:=[_,_,_]) rfl pH rfl rfl rfl rfl rfl ?_) rfl|refine qa (Pure.gtr rfl rfl) ?_|refine qa (pG (Zb:=[_,_]) rfl (Qg) rfl rfl) ?_|refine qa (Pure.neq rfl rfl) ?_|refine qa (Pure.fK rfl) ?_|refine qa (pO (c:=.atom _) rfl rfl) ?_|refine qa (pL (c:=.atom _) rfl (pd (Qg)) rfl) ?_|refine qa (Pure.sub rfl rfl ga) ?_|refine oS (sS (Zb:=[_,_]) rfl pH rfl rfl rfl rfl rfl ?_) rfl|refine qa (Pure.extract (c:=.list _) rfl rfl) ?_|refine qa (Pure.geq rfl rfl) ?_|refine qa (Pure.leq rfl rfl) ?_|refine qa (pB _ (cs:=[_,_,_]) rfl) ?_|refine LQ.nil ?_|refine qa (Pure.Gz rfl rfl (by first|omega|(simp only[Ga,Ma,qc];omega))) ?_|refine qa (Pure.TF rfl rfl) ?_|refine qa (Pure.nE rfl) ?_|refine Ea.UH rfl rfl rfl ?_|refine oS (sS (Zb:=[_,_,_,_]) rfl pH rfl rfl rfl rfl rfl ?_) rfl|refine qP (pF rfl) rfl ?_|refine qP (pL (c:=.atom _) rfl (Qg) rfl) rfl ?_|refine qP (pL (c:=.list _) rfl (Qg) rfl) rfl ?_|refine qa (pB _ (cs:=[_,_]) rfl) ?_|refine oS (sS (Zb:=[_,_,_,_,_,_,_,_,_,_]) rfl pH rfl rfl rfl rfl rfl ?_) rfl|refine qP (pO (c:=.atom _) rfl rfl) rfl ?_|refine qa (pB _ (cs:=[_,_,_,_]) rfl) ?_|refine oS (sS (Zb:=[_,_,_,_,_,_]) rfl (pT pH) rfl rfl rfl rfl rfl ?_) rfl|refine qP (pA (lv:=.atom _) rfl) rfl ?_|refine qa (pB _ (cs:=[_,_,_,_,_,_]) rfl) ?_|refine qa (pG (Zb:=[_,_,_,_,_,_]) rfl (Qg) rfl rfl) ?_|refine qa (pG (Zb:=[_,_,_]) rfl (Qg) rfl rfl) ?_|refine oS (sS (Zb:=[_,_,_,_,_,_]) rfl (pT (pT pH)) rfl rfl rfl rfl rfl ?_) rfl|refine oS (sS (Zb:=[_,_,_,_,_,_]) rfl pH rfl rfl rfl rfl rfl ?_) rfl|refine oS (sS (Zb:=[_,_,_,_]) rfl (pT pH) rfl rfl rfl rfl rfl ?_) rfl|refine qa (pG (Zb:=[_,_,_,_]) rfl (Qg) rfl rfl) ?_|refine qa (pG (Zb:=[_,_,_,_]) rfl (pd (Qg)) rfl rfl) ?_|refine oS (sS (Zb:=[_,_,_,_]) rfl (pT (pT pH)) rfl rfl rfl rfl rfl ?_) rfl|refine qa (pA (lv:=.app _ _ _ _) rfl) ?_|refine qa (pG (Zb:=[_,_,_]) rfl (pd (Qg)) rfl rfl) ?_|refine qa (Pure.makeFunc rfl rfl) ?_|refine qa (Pure.lA rfl) ?_|refine qP (Pure.Ro rfl) rfl ?_|refine pf.RR ea ?_|refine qa (Pure.Xu rfl) ?_|refine qa (pG (Zb:=[_,_,_]) rfl (pd (pd (pd (pd (Qg))))) rfl rfl) ?_|refine qa (pL (c:=.atom _) rfl (pd (pd (pd (pd (Qg))))) rfl) ?_|refine qa (pO (c:=.list _) rfl rfl) ?_|refine oS (sS (Zb:=[_,_,_,_,_,_,_,_,_,_]) rfl (pT pH) rfl rfl rfl rfl rfl ?_) rfl|refine oS (sS (Zb:=[_,_,_]) rfl (pT pH) rfl rfl rfl rfl rfl ?_) rfl|refine oS (sS (Zb:=[_]) rfl (pT pH) rfl rfl rfl rfl rfl ?_) rfl|refine oS (sS (Zb:=[_]) rfl pH rfl rfl rfl rfl rfl ?_) rfl|refine qa (pG (Zb:=[_,_,_,_,_,_]) rfl (pd (Qg)) rfl rfl) ?_|refine qa (pG (Zb:=[_,_]) rfl (pd (Qg)) rfl rfl) ?_|refine qa (pL (c:=.atom _) rfl (pd (pd (Qg))) rfl) ?_|refine qa (pL (c:=.atom _) rfl (pd (pd (pd (pd (pd (pd (Qg))))))) rfl) ?_|refine qa (pL (c:=.list _) rfl (pd (Qg)) rfl) ?_|refine qa (Pure.Ji (vs:=[_,_]) rfl) ?_|refine oS (sS (Zb:=[]) rfl pH rfl rfl rfl rfl rfl ?_) rfl|refine oS (sS (Zb:=[_,_,_,_]) rfl (pT (pT (pT (pT pH)))) rfl rfl rfl rfl rfl ?_) rfl|refine qP (Pure.extract (c:=.atom _) rfl rfl) rfl ?_|refine qP (Cc (lv:=.tuple _) rfl) rfl ?_|refine qa (pB _ (cs:=[]) rfl) ?_|refine qa (pL (c:=.list _) rfl (pd (pd (Qg))) rfl) ?_|refine qa (pL (c:=.list _) rfl (pd (pd (pd (pd (pd (Qg)))))) rfl) ?_|refine qa (Pure.Ji (vs:=[]) rfl) ?_|refine qa (Cc (lv:=.app _ _ _ _) rfl) ?_|refine oS (sS (Zb:=[_,_,_,_,_,_,_]) rfl (pT (pT pH)) rfl rfl rfl rfl rfl ?_) rfl|refine oS (sS (Zb:=[_,_,_,_,_,_,_]) rfl pH rfl rfl rfl rfl rfl ?_) rfl|refine oS (sS (Zb:=[_,_,_]) rfl (pT (pT pH)) rfl rfl rfl rfl rfl ?_) rfl|refine oS (sS (Zb:=[_,_]) rfl (pT (pT pH)) rfl rfl rfl rfl rfl ?_) rfl|refine oS (sS (Zb:=[_,_]) rfl (pT pH) rfl rfl rfl rfl rfl ?_) rfl|refine qP (Pure.TF rfl rfl) rfl ?_);exact h ()):P:=t λ_=>h
theorem wa{P:Prop}(h:Q)(t:(Unit->Q)->P:=by intro h;(repeat first|refine qN ?_|refine Ea.nil ?_|refine kb.region ?_|refine kb.seq ?_|refine qa (Cc (lv:=.atom _) rfl) ?_|refine qa (pA (lv:=.atom _) rfl) ?_|refine kb.ret ?_|refine kb.skip ?_|refine qa (pF rfl) ?_|refine Ea.want rfl rfl ?_|refine kb.block ?_|refine Ie.ret ?_|refine pf.normal ?_|refine Ie.panic ?_|refine qa (Pure.Yl (lv:=.atom _) rfl rfl) ?_|refine qa (pL (c:=.atom _) rfl (Qg) rfl) ?_|refine qa (Pure.Wp (lv:=.atom _) rfl rfl) ?_|refine Ea.skip rfl rfl rfl rfl ?_|refine qa (Pure.add rfl rfl ga) ?_|refine pf.panic ?_|refine qa (Pure.eql rfl rfl) ?_|refine pf.ret ?_|refine qa (Cc (lv:=.list _) rfl) ?_|refine qa (Pure.lss rfl rfl) ?_|refine qa (Pure.extract (c:=.atom _) rfl rfl) ?_|refine qa (Cc (lv:=.tuple _) rfl) ?_|refine pf.hit ?_|refine Ie.exit ?_|refine kb.exit ?_|refine qa (pN rfl) ?_|refine qa (Pure.Ro rfl) ?_|refine qa (Pure.seq rfl rfl) ?_);exact h ()):P:=t λ_=>h
theorem Ra{P:Prop}(h:Q)(t:(Unit->Q)->P:=by intro h;(repeat first|refine qN ?_|refine Ea.nil ?_|refine kb.seq ?_|refine qa (Cc (lv:=.atom _) rfl) ?_|refine qa (pA (lv:=.atom _) rfl) ?_|refine kb.ret ?_|refine qa (pF rfl) ?_|refine Ea.want rfl rfl ?_|refine kb.block ?_|refine Ie.ret ?_|refine pf.normal ?_|refine qa (Pure.Yl (lv:=.atom _) rfl rfl) ?_|refine qa (pL (c:=.atom _) rfl (Qg) rfl) ?_|refine qa (Pure.Wp (lv:=.atom _) rfl rfl) ?_|refine Ea.skip rfl rfl rfl rfl ?_|refine qa (Pure.add rfl rfl ga) ?_|refine qa (Pure.eql rfl rfl) ?_|refine pf.ret ?_|refine qa (Cc (lv:=.list _) rfl) ?_|refine qa (Pure.lss rfl rfl) ?_|refine qa (Pure.extract (c:=.atom _) rfl rfl) ?_|refine qa (Cc (lv:=.tuple _) rfl) ?_|refine pf.hit ?_|refine Ie.exit ?_|refine kb.exit ?_|refine qa (pN rfl) ?_|refine qa (Pure.Ro rfl) ?_|refine qa (Pure.seq rfl rfl) ?_|refine qa (pL (c:=.list _) rfl (Qg) rfl) ?_|refine qa (Pure.not rfl) ?_|refine qa (pA (lv:=.list _) rfl) ?_|refine oS (sS (Zb:=[_,_,_]) rfl pH rfl rfl rfl rfl rfl ?_) rfl|refine qa (Pure.gtr rfl rfl) ?_|refine qa (pG (Zb:=[_,_]) rfl (Qg) rfl rfl) ?_|refine qa (Pure.neq rfl rfl) ?_|refine qa (Pure.fK rfl) ?_|refine qa (pO (c:=.atom _) rfl rfl) ?_|refine qa (pL (c:=.atom _) rfl (pd (Qg)) rfl) ?_|refine qa (Pure.sub rfl rfl ga) ?_|refine oS (sS (Zb:=[_,_]) rfl pH rfl rfl rfl rfl rfl ?_) rfl|refine qa (Pure.extract (c:=.list _) rfl rfl) ?_|refine qa (pR (Zb:=[_,_,_,_]) rfl rfl rfl) ?_|refine qa (Pure.geq rfl rfl) ?_|refine qa (pR (Zb:=[_,_]) rfl rfl rfl) ?_|refine qa (Pure.leq rfl rfl) ?_|refine qa (pB _ (cs:=[_,_,_]) rfl) ?_|refine LQ.nil ?_|refine qa (Pure.extract (c:=.agg _) rfl rfl) ?_|refine qa (Pure.Gz rfl rfl (by first|omega|(simp only[Ga,Ma,qc];omega))) ?_|refine qa (Pure.TF rfl rfl) ?_|refine Ea.UH rfl rfl rfl ?_|refine oS (sS (Zb:=[_,_,_,_]) rfl pH rfl rfl rfl rfl rfl ?_) rfl|refine qP (pF rfl) rfl ?_|refine qP (Cc (lv:=.atom _) rfl) rfl ?_|refine qP (pL (c:=.atom _) rfl (Qg) rfl) rfl ?_|refine qP (pN rfl) rfl ?_|refine qP (pL (c:=.list _) rfl (Qg) rfl) rfl ?_|refine qa (pB _ (cs:=[_,_]) rfl) ?_|refine oS (sS (Zb:=[_,_,_,_,_,_,_,_,_,_]) rfl pH rfl rfl rfl rfl rfl ?_) rfl|refine qP (pO (c:=.atom _) rfl rfl) rfl ?_|refine qa (pB _ (cs:=[_,_,_,_]) rfl) ?_|refine oS (sS (Zb:=[_,_,_,_,_,_]) rfl (pT pH) rfl rfl rfl rfl rfl ?_) rfl|refine qP (pA (lv:=.atom _) rfl) rfl ?_|refine qa (pB _ (cs:=[_,_,_,_,_,_]) rfl) ?_|refine qa (pG (Zb:=[_,_,_]) rfl (Qg) rfl rfl) ?_|refine oS (sS (Zb:=[_,_,_,_,_,_]) rfl (pT (pT pH)) rfl rfl rfl rfl rfl ?_) rfl|refine oS (sS (Zb:=[_,_,_,_]) rfl (pT pH) rfl rfl rfl rfl rfl ?_) rfl|refine qP (Pure.Cl rfl rfl) rfl ?_|refine qa (Pure.Cl rfl rfl) ?_|refine qa (pG (Zb:=[_,_,_,_]) rfl (Qg) rfl rfl) ?_|refine qa (pA (lv:=.app _ _ _ _) rfl) ?_|refine qP (Pure.Ro rfl) rfl ?_|refine Cj.pure (Cc (lv:=.atom _) rfl) rfl ?_|refine LQ.want rfl rfl ?_|refine lP (pF rfl) rfl ?_|refine lP (Cc (lv:=.atom _) rfl) rfl ?_|refine lP (pN rfl) rfl ?_|refine pf.RR ea ?_|refine qa (pL (c:=.atom _) rfl (pd (pd (pd (pd (Qg))))) rfl) ?_|refine qa (pO (c:=.list _) rfl rfl) ?_|refine oS (sS (Zb:=[_,_,_,_,_,_,_,_,_,_]) rfl (pT pH) rfl rfl rfl rfl rfl ?_) rfl|refine oS (sS (Zb:=[_,_,_]) rfl (pT pH) rfl rfl rfl rfl rfl ?_) rfl|refine oS (sS (Zb:=[_]) rfl (pT pH) rfl rfl rfl rfl rfl ?_) rfl|refine Cj.pure (Pure.makeFunc rfl rfl) rfl ?_|refine lP (pL (c:=.atom _) rfl (pd (Qg)) rfl) rfl ?_|refine qa (pR (Zb:=[_,_,_,_,_,_]) rfl rfl rfl) ?_|refine qa (pL (c:=.atom _) rfl (pd (pd (Qg))) rfl) ?_|refine oS (sS (Zb:=[_,_,_,_]) rfl (pT (pT (pT pH))) rfl rfl rfl rfl rfl ?_) rfl|refine qP (Pure.geq rfl rfl) rfl ?_|refine qP (Pure.lss rfl rfl) rfl ?_|refine qP (Cc (lv:=.list _) rfl) rfl ?_|refine qP (Pure.neq rfl rfl) rfl ?_|refine qP (Pure.Yl (lv:=.atom _) rfl rfl) rfl ?_|refine qP (Pure.Wp (lv:=.atom _) rfl rfl) rfl ?_|refine qP (Pure.fK rfl) rfl ?_|refine qP (Pure.sub rfl rfl ga) rfl ?_|refine LQ.skip rfl rfl rfl rfl ?_|refine LS.nil ?_|refine lP (pB _ (cs:=[_,_,_]) rfl) rfl ?_|refine qa (pB _ (cs:=[_,_,_,_,_,_,_]) rfl) ?_|refine oS (sS (Zb:=[_]) rfl (pT (pT (pT (pT (pT (pT pH)))))) rfl rfl rfl rfl rfl ?_) rfl|refine Cj.pure (pF rfl) rfl ?_|refine Cj.pure (pG (Zb:=[_,_,_]) rfl (pd (pd (pd (pd (pd (pd (pd (Qg)))))))) rfl rfl) rfl ?_|refine Cj.pure (pL (c:=.atom _) rfl (pd (Qg)) rfl) rfl ?_|refine Cj.pure (Pure.lss rfl rfl) rfl ?_|refine Cj.pure (pN rfl) rfl ?_|refine xu.pure (pL (c:=.list _) rfl (Qg) rfl) rfl ?_|refine xu.pure (pO (c:=.list _) rfl rfl) rfl ?_|refine xu.pure (Cc (lv:=.atom _) rfl) rfl ?_|refine xu.pure (Pure.not rfl) rfl ?_|refine qP (Pure.eql rfl rfl) rfl ?_|refine qP (pL (c:=.atom _) rfl (pd (Qg)) rfl) rfl ?_|refine qP (pL (c:=.atom _) rfl (pd (pd (pd (pd (Qg))))) rfl) rfl ?_|refine qP (Pure.I5 rfl rfl) rfl ?_|refine qP (Pure.Gz rfl rfl (by first|omega|(simp only[Ga,Ma,qc];omega))) rfl ?_|refine lP (Pure.add rfl rfl ga) rfl ?_|refine lP (Pure.Ro rfl) rfl ?_|refine lP (pL (c:=.atom _) rfl (Qg) rfl) rfl ?_|refine lP (pL (c:=.list _) rfl (Qg) rfl) rfl ?_);exact h ()):P:=t λ_=>h
theorem Zd{P:Prop}(h:Q)(t:(Unit->Q)->P:=by intro h;(repeat first|refine Ie.panic ?_|refine pf.panic ?_);exact h ()):P:=t λ_=>h
theorem Ad{P:Prop}(h:Q)(t:(Unit->Q)->P:=by intro h;(repeat first|refine qN ?_|refine Ea.nil ?_|refine qa (pA (lv:=.atom _) rfl) ?_|refine kb.ret ?_);exact h ()):P:=t λ_=>h
theorem Yd{P:Prop}(h:Q)(t:(Unit->Q)->P:=by intro h;(repeat first|refine kb.region ?_|refine kb.seq ?_|refine qa (Cc (lv:=.atom _) rfl) ?_);exact h ()):P:=t λ_=>h
theorem Xe{P:Prop}(h:Q)(t:(Unit->Q)->P:=by intro h;(repeat first|refine kb.region ?_|refine kb.seq ?_);exact h ()):P:=t λ_=>h
theorem wh{P:Prop}(h:Q)(t:(Unit->Q)->P:=by intro h;(repeat first|refine qN ?_|refine Ea.nil ?_|refine kb.region ?_|refine kb.seq ?_|refine qa (Pure.lss rfl rfl) ?_);exact h ()):P:=t λ_=>h
theorem Zi{P:Prop}(h:Q)(t:(Unit->Q)->P:=by intro h;(repeat first|refine qN ?_|refine kb.region ?_|refine kb.seq ?_|refine kb.skip ?_|refine kb.block ?_);exact h ()):P:=t λ_=>h
theorem Yi{P:Prop}(h:Q)(t:(Unit->Q)->P:=by intro h;(repeat first|refine Ie.panic ?_);exact h ()):P:=t λ_=>h
theorem Xi{P:Prop}(h:Q)(t:(Unit->Q)->P:=by intro h;(repeat first|refine qN ?_|refine Ea.nil ?_|refine kb.region ?_|refine kb.seq ?_|refine qa (Cc (lv:=.atom _) rfl) ?_);exact h ()):P:=t λ_=>h
theorem Pj{P:Prop}(h:Q)(t:(Unit->Q)->P:=by intro h;(repeat first|refine qN ?_|refine Ea.nil ?_|refine kb.region ?_|refine kb.seq ?_|refine qa (pA (lv:=.atom _) rfl) ?_|refine qa (Pure.eql rfl rfl) ?_);exact h ()):P:=t λ_=>h
theorem Ak{P:Prop}(h:Q)(t:(Unit->Q)->P:=by intro h;(repeat first|refine qN ?_|refine Ea.nil ?_|refine kb.region ?_|refine kb.seq ?_|refine qa (pA (lv:=.atom _) rfl) ?_|refine kb.ret ?_|refine Ie.ret ?_);exact h ()):P:=t λ_=>h
theorem cl{P:Prop}(h:Q)(t:(Unit->Q)->P:=by intro h;(repeat first|refine qN ?_|refine Ea.nil ?_|refine kb.region ?_|refine kb.seq ?_|refine qa (Cc (lv:=.atom _) rfl) ?_|refine qa (pA (lv:=.atom _) rfl) ?_);exact h ()):P:=t λ_=>h
theorem zm{P:Prop}(h:Q)(t:(Unit->Q)->P:=by intro h;(repeat first|refine qN ?_|refine Ea.nil ?_|refine kb.region ?_|refine qa (Cc (lv:=.atom _) rfl) ?_|refine pf.normal ?_|refine qa (Pure.add rfl rfl ga) ?_);exact h ()):P:=t λ_=>h
theorem Ep{P:Prop}(h:Q)(t:(Unit->Q)->P:=by intro h;(repeat first|refine qN ?_|refine Ea.nil ?_|refine kb.region ?_|refine kb.seq ?_|refine qa (pA (lv:=.atom _) rfl) ?_);exact h ()):P:=t λ_=>h
theorem Mn{P:Prop}(h:Q)(t:(Unit->Q)->P:=by intro h;(repeat first|refine qN ?_|refine Ea.nil ?_|refine kb.region ?_|refine kb.seq ?_|refine qa (pA (lv:=.atom _) rfl) ?_|refine qa (Pure.seq rfl rfl) ?_);exact h ()):P:=t λ_=>h
theorem Ln{P:Prop}(h:Q)(t:(Unit->Q)->P:=by intro h;(repeat first|refine qN ?_|refine Ea.nil ?_|refine kb.region ?_|refine kb.seq ?_|refine qa (pA (lv:=.atom _) rfl) ?_|refine kb.ret ?_);exact h ()):P:=t λ_=>h
open Go.RowKit
variable{K:List Nat}{P:Program}{ua:Array Edge}{b d f j k n off s:Nat}{c:Code}{dst:Option Nat}{hi lo:Option Operand}{i:Int}{o:Oper}{ra:String}{rest:List Oper}{t ty:TypeId}{tmps:Array Value}{v:Value}{w w':World}{x:Operand}{ρ:Operand->Value}
inductive LV where
 |atom (v:Value)
 |list (es:List LV)
 |app (b cap k:Nat) (es:List LV)
 |agg (cs:List LV)
 |tuple (vs:List LV)
 |ref (cs:List LV)
 deriving Inhabited
variable{cs es:List LV}{lv:LV}
def LV.cells:LV->List LV
 |.agg cs=>cs
 |v=>[v]
@[reducible] def int(k:IntKind)(n:Int):LV:=.atom (.int k n)
@[reducible] def bool(b:Bool):LV:=.atom (.bool b)
@[reducible] def str(l:List UInt8):LV:=.atom (.string ⟨l.toArray⟩)
@[reducible] def ptr(b off:Nat):LV:=.atom (.pointer (some ⟨b,off,none⟩))
@[reducible] def fc:LV:=.atom (.slice none 0 0)
inductive ja where
 |cells (ty:TypeId) (cs:List LV)
 |row (n:Nat)
 |frz (ty:TypeId) (cs:List LV)
 |map (es:List (Value×LV)) (ka:Nat)
 |obj (o:Obj)
 deriving Inhabited
abbrev Heap:=List (Nat×ja)
variable{F H H' H1:Heap}
abbrev Live:=Nat->Nat
variable{L L':Live}
mutual
def Fb(w:World)(L:Live):LV->Value->Prop
 |.atom v,x=>x=v
 |.agg cs,x=>∃ xs:List Value,x=.agg xs.toArray/\oa w L cs xs
 |.tuple vs,x=>∃ xs:List Value,x=.tuple xs.toArray/\oa w L vs xs
 |.list es,x=>∃ a cap,x=.slice a es.length cap/\es.length<=cap/\(es≠[]->∃ b off k,a=some ⟨b,off,none⟩/\Zc w L b k off es)
 |.app b cap k es,x=>x=.slice (some ⟨b,0,none⟩) es.length cap/\es.length<=cap/\Zc w L b k 0 es/\∃ e s,w.shape? b=some (e,s)/\cap * k<=s
 |.ref cs,x=>∃ b off,x=.pointer (some ⟨b,off,none⟩)/\Tb w L b off cs
def oa(w:World)(L:Live):List LV->List Value->Prop
 |[],xs=>xs=[]
 |c::cs,xs=>∃ y ys,xs=y::ys/\Fb w L c y/\oa w L cs ys
def Tb(w:World)(L:Live)(b:Nat):Nat->List LV->Prop
 |_,[]=>True
 |off,c::cs=>off<L b/\(∃ x,w.cell? ⟨b,off,none⟩=some x/\Fb w L c x)/\Tb w L b (off+1) cs
def Zc(w:World)(L:Live)(b k:Nat):Nat->List LV->Prop
 |_,[]=>True
 |off,.agg cs::es=>(cs.length=k/\Tb w L b off cs)/\Zc w L b k (off+k) es
 |off,.atom v::es=>(1=k/\off<L b/\∃ x,w.cell? ⟨b,off,none⟩=some x/\Fb w L (.atom v) x)/\Zc w L b k (off+k) es
 |off,.list v::es=>(1=k/\off<L b/\∃ x,w.cell? ⟨b,off,none⟩=some x/\Fb w L (.list v) x)/\Zc w L b k (off+k) es
 |off,.app b2 c k2 v::es=>(1=k/\off<L b/\∃ x,w.cell? ⟨b,off,none⟩=some x/\Fb w L (.app b2 c k2 v) x)/\Zc w L b k (off+k) es
 |off,.tuple v::es=>(1=k/\off<L b/\∃ x,w.cell? ⟨b,off,none⟩=some x/\Fb w L (.tuple v) x)/\Zc w L b k (off+k) es
 |off,.ref v::es=>(1=k/\off<L b/\∃ x,w.cell? ⟨b,off,none⟩=some x/\Fb w L (.ref v) x)/\Zc w L b k (off+k) es
end
structure Ext(w:World)(L:Live)(w':World)(L':Live):Prop where
 size:w.heap.size<=w'.heap.size
 shape:∀ b,b<w.heap.size->w'.shape? b=w.shape? b
 live:∀ b i,i<L b->w'.cell? ⟨b,i,none⟩=w.cell? ⟨b,i,none⟩
 mono:∀ b,L b<=L' b
theorem Ext.refl(w:World)(L:Live):Ext w L w L:=⟨Pb _,λ_ _=>rfl,λ_ _ _=>rfl,λ_=>Pb _⟩
theorem Ext.trans{w1 w2 w3:World}{L1 L2 L3:Live}(h:Ext w1 L1 w2 L2)(k:Ext w2 L2 w3 L3):Ext w1 L1 w3 L3:=
 ⟨Xf h.size k.size,λb hb=>(k.shape b (Nat.lt_of_lt_of_le hb h.size)).trans (h.shape b hb),
  λb i hi=>(k.live b i (Nat.lt_of_lt_of_le hi (h.mono b))).trans (h.live b i hi),λb=>Xf (h.mono b) (k.mono b)⟩
theorem qv3{p:TypeId×Nat}(h:w.shape? b=some p):b<w.heap.size:=by rcases Nat.lt_or_ge b w.heap.size with h1|h1;exact h1;simp[World.shape?,Array.getElem?_eq_none h1] at h
mutual
theorem Fb.mono{w w':World}{L L':Live}(h:Ext w L w' L'):∀ (lv:LV) (x:Value),Fb w L lv x->Fb w' L' lv x
 |.atom v,x,r=>by simp only[Fb] at r ⊢;exact r
 |.agg cs,x,r=>by simp only[Fb] at r ⊢;obtain⟨xs,rfl,r⟩:=r;exact⟨xs,rfl,oa.mono h cs xs r⟩
 |.tuple cs,x,r=>by simp only[Fb] at r ⊢;obtain⟨xs,rfl,r⟩:=r;exact⟨xs,rfl,oa.mono h cs xs r⟩
 |.list es,x,r=>by
  simp only[Fb] at r ⊢;obtain⟨a,cap,rfl,hl,r⟩:=r;refine⟨a,cap,rfl,hl,λxb=>?_⟩;obtain⟨b,off,k,ha,r⟩:=r xb
  exact⟨b,off,k,ha,Zc.mono h b k off es r⟩
 |.app b cap k es,x,r=>by simp only[Fb] at r ⊢;obtain⟨rfl,hl,r,e,s,hs,hc⟩:=r;exact⟨rfl,hl,Zc.mono h b k 0 es r,e,s,by rw[h.shape b (qv3 hs)];exact hs,hc⟩
 |.ref cs,x,r=>by simp only[Fb] at r ⊢;obtain⟨b,off,rfl,r⟩:=r;exact⟨b,off,rfl,Tb.mono h b off cs r⟩
 termination_by lv=>SizeOf.sizeOf lv
theorem oa.mono{w w':World}{L L':Live}(h:Ext w L w' L'):∀ (cs:List LV) (xs:List Value),oa w L cs xs->oa w' L' cs xs
 |[],xs,r=>by simp only[oa] at r ⊢;exact r
 |c::cs,xs,r=>by simp only[oa] at r ⊢;obtain⟨y,ys,rfl,r1,r2⟩:=r;exact⟨y,ys,rfl,Fb.mono h c y r1,oa.mono h cs ys r2⟩
 termination_by cs=>SizeOf.sizeOf cs
theorem Tb.mono{w w':World}{L L':Live}(h:Ext w L w' L')(b:Nat):∀ (off:Nat) (cs:List LV),Tb w L b off cs->Tb w' L' b off cs
 |_,[],r=>by simp only[Tb]
 |off,c::cs,r=>by simp only[Tb] at r ⊢;obtain⟨r1,⟨x,hx,r2⟩,r3⟩:=r;exact⟨Nat.lt_of_lt_of_le r1 (h.mono b),⟨x,by rw[h.live b off r1];exact hx,Fb.mono h c x r2⟩,Tb.mono h b (off+1) cs r3⟩
 termination_by _ cs=>SizeOf.sizeOf cs
theorem Zc.mono{w w':World}{L L':Live}(h:Ext w L w' L')(b k:Nat):∀ (off:Nat) (es:List LV),Zc w L b k off es->Zc w' L' b k off es
 |_,[],r=>by simp only[Zc]
 |off,.agg cs::es,r=>by simp only[Zc] at r ⊢;exact⟨⟨r.1.1,Tb.mono h b off cs r.1.2⟩,Zc.mono h b k (off+k) es r.2⟩
 |off,.atom v::es,r=>by simp only[Zc] at r ⊢;obtain⟨⟨h1,h2,x,h3,h4⟩,r2⟩:=r;exact⟨⟨h1,Nat.lt_of_lt_of_le h2 (h.mono b),x,by rw[h.live b off h2];exact h3,Fb.mono h (.atom v) x h4⟩,Zc.mono h b k (off+k) es r2⟩
 |off,.list v::es,r=>by simp only[Zc] at r ⊢;obtain⟨⟨h1,h2,x,h3,h4⟩,r2⟩:=r;exact⟨⟨h1,Nat.lt_of_lt_of_le h2 (h.mono b),x,by rw[h.live b off h2];exact h3,Fb.mono h (.list v) x h4⟩,Zc.mono h b k (off+k) es r2⟩
 |off,.app b2 c k2 v::es,r=>by simp only[Zc] at r ⊢;obtain⟨⟨h1,h2,x,h3,h4⟩,r2⟩:=r;exact⟨⟨h1,Nat.lt_of_lt_of_le h2 (h.mono b),x,by rw[h.live b off h2];exact h3,Fb.mono h (.app b2 c k2 v) x h4⟩,Zc.mono h b k (off+k) es r2⟩
 |off,.tuple v::es,r=>by simp only[Zc] at r ⊢;obtain⟨⟨h1,h2,x,h3,h4⟩,r2⟩:=r;exact⟨⟨h1,Nat.lt_of_lt_of_le h2 (h.mono b),x,by rw[h.live b off h2];exact h3,Fb.mono h (.tuple v) x h4⟩,Zc.mono h b k (off+k) es r2⟩
 |off,.ref v::es,r=>by simp only[Zc] at r ⊢;obtain⟨⟨h1,h2,x,h3,h4⟩,r2⟩:=r;exact⟨⟨h1,Nat.lt_of_lt_of_le h2 (h.mono b),x,by rw[h.live b off h2];exact h3,Fb.mono h (.ref v) x h4⟩,Zc.mono h b k (off+k) es r2⟩
 termination_by _ es=>SizeOf.sizeOf es
end
def LV.Sub(a b:LV):Prop:=∀ w L x,Fb w L a x->Fb w L b x
theorem vR(a:LV):a.Sub a:=λ_ _ _ h=>h
theorem vN:fc.Sub (.list []):=λw L x r=>by simp only[Fb] at r ⊢;subst r;exact⟨none,0,rfl,Pb _,λh=>absurd rfl h⟩
theorem LV.Sub.app(b cap k:Nat)(es:List LV):(LV.app b cap k es).Sub (.list es):=λw L x r=>by simp only[Fb] at r ⊢;obtain⟨rfl,hl,r,_⟩:=r;exact⟨some ⟨b,0,none⟩,cap,rfl,hl,λ_=>⟨b,0,k,rfl,r⟩⟩
def dy:List LV->List LV->Prop
 |[],[]=>True
 |a::Sc,b::bs=>a.Sub b/\dy Sc bs
 |_,_=>False
theorem dy.jK{w:World}{L:Live}:∀ {Sc bs:List LV} {xs:List Value},dy Sc bs->oa w L Sc xs->oa w L bs xs
 |[],[],xs,_,r=>r
 |a::Sc,b::bs,xs,h,r=>by simp only[oa] at r ⊢;obtain⟨y,ys,rfl,r1,r2⟩:=r;exact⟨y,ys,rfl,h.1 _ _ _ r1,dy.jK h.2 r2⟩
 |[],_::_,_,h,_=>h.elim
 |_::_,[],_,h,_=>h.elim
theorem vA{Sc bs:List LV}(h:dy Sc bs):(LV.agg Sc).Sub (.agg bs):=λw L x r=>by simp only[Fb] at r ⊢;obtain⟨xs,rfl,r⟩:=r;exact⟨xs,rfl,h.jK r⟩
def tQ(w:World)(L:Live)(b:Nat):ja->Prop
 |.cells ty cs=>L b=0/\∃ xs:List Value,w.heap[b]? = some (.cells xs.toArray ty (0,0))/\oa w L cs xs
 |.row n=>L b=n/\∃ (xs:Array Value) (ty:TypeId) (fr:Nat×Nat),w.heap[b]? = some (.cells xs ty fr)/\n<=xs.size/\fr.2<=n
 |.frz ty cs=>L b=0/\∃ (xs:List Value) (fr:Nat×Nat),w.heap[b]? = some (.cells xs.toArray ty fr)/\xs.length<=fr.1/\oa w L cs xs
 |.map es ka=>L b=0/\∃ Sc:List MapEntry,w.heap[b]? = some (.map Sc.toArray ka)/\Sc.map (·.key)=es.map (·.1)/\oa w L (es.map (·.2)) (Sc.map (·.val))
   /\ (∀ e∈Sc,e.born<ka)/\(Sc.map (·.born)).Nodup
 |.obj o=>L b=0/\w.heap[b]? = some o/\w.shape? b=none
structure Ctx where
 P:Program
 B0:Nat
 w0:World
variable{C:Ctx}
structure Ta(C:Ctx)(w:World)(L:Live)(H:Heap):Prop where
 base:Below C.B0 C.w0 w
 sj:True
 b0:C.B0<=w.heap.size
 wf:∀ b,w.heap.size<=b->L b=0
 nodup:(H.map (·.1)).Nodup
 Bc:∀ p∈H,C.B0<=p.1/\p.1<w.heap.size/\tQ w L p.1 p.2
@[reducible] def keys(H:Heap):List Nat:=H.map (·.1)
structure Fr(K:List Nat)(w:World)(L:Live)(w':World)(L':Live)(H':Heap):Prop where
 os:w'.os=w.os
 tape:w'.tape=w.tape
 output:w'.output=w.output
 ext:Ext w L w' L'
 block:∀ b,b<w.heap.size->b ∉ K->w'.heap[b]? = w.heap[b]?
 fk:∀ b,b<w.heap.size->b ∉ K->L' b=L b
 mD:∀ p∈H',p.1∈K∨w.heap.size<=p.1
theorem Fr.refl(w:World)(L:Live)(H:Heap):Fr (keys H) w L w L H:=
 ⟨rfl,rfl,rfl,.refl _ _,λ_ _ _=>rfl,λ_ _ _=>rfl,λ_ hp=>.inl (List.mem_map_of_mem hp)⟩
theorem Fr.trans{K:List Nat}{w1 w2 w3:World}{L1 L2 L3:Live}{H2 H3:Heap}(h:Fr K w1 L1 w2 L2 H2)(k:Fr (keys H2) w2 L2 w3 L3 H3):Fr K w1 L1 w3 L3 H3:=by
 have out:∀ b,b<w1.heap.size->b ∉ K->b ∉ keys H2:=λb hb hn hm=>by obtain⟨p,hp,rfl⟩:=Ni hm;rcases h.mD p hp with h1|h1;exact hn h1;omega
 refine⟨k.os.trans h.os,k.tape.trans h.tape,k.output.trans h.output,h.ext.trans k.ext,λb hb hn=>?_,λb hb hn=>?_,λp hp=>?_⟩;exact(k.block b (Nat.lt_of_lt_of_le hb h.ext.size) (out b hb hn)).trans (h.block b hb hn);exact(k.fk b (Nat.lt_of_lt_of_le hb h.ext.size) (out b hb hn)).trans (h.fk b hb hn);rcases k.mD p hp with h1|h1;obtain⟨q,hq,he⟩:=Ni h1;rw[<-he];exact h.mD q hq;exact .inr (Xf h.ext.size h1)
theorem Fr.sub{H':Heap}(h:Fr K w L w' L' H)(hs:∀ p∈H',p∈H):Fr K w L w' L' H':=
 ⟨h.os,h.tape,h.output,h.ext,h.block,h.fk,λp hp=>h.mD p (hs p hp)⟩
theorem QI(h:w'.heap[b]? = w.heap[b]?):w'.shape? b=w.shape? b:=by simp only[World.shape?,h]
theorem cell_of_heap(h:w'.heap[b]? = w.heap[b]?)(o:Nat):w'.cell? ⟨b,o,none⟩=w.cell? ⟨b,o,none⟩:=by simp only[World.cell?,h]
theorem tQ.IL{o:ja}(h:Ext w L w' L')(hb:w'.heap[b]? = w.heap[b]?)(hl:L' b=L b)(r:tQ w L b o):tQ w' L' b o:=by
 cases o with
 |cells ty cs=>obtain⟨r1,xs,r2,r3⟩:=r;exact⟨hl.trans r1,xs,hb.trans r2,r3.mono h _ _⟩
 |row n=>obtain⟨r1,xs,ty,fr,r2,r3,r4⟩:=r;exact⟨hl.trans r1,xs,ty,fr,hb.trans r2,r3,r4⟩
 |frz ty cs=>obtain⟨r1,xs,fr,r2,r3,r4⟩:=r;exact⟨hl.trans r1,xs,fr,hb.trans r2,r3,r4.mono h _ _⟩
 |map es ka=>obtain⟨r1,Sc,r2,r3,r4,r5⟩:=r;exact⟨hl.trans r1,Sc,hb.trans r2,r3,r4.mono h _ _,r5⟩
 |obj o=>obtain⟨r1,r2,r3⟩:=r;exact⟨hl.trans r1,hb.trans r2,by rw[QI hb];exact r3⟩
theorem Ta.perm(h:Ta C w L H)(p:H.Perm H'):Ta C w L H':=
 ⟨h.base,h.sj,h.b0,h.wf,((p.map _).nodup_iff).1 h.nodup,λq hq=>h.Bc q (p.mem_iff.2 hq)⟩
theorem Ta.left(h:Ta C w L (H++F)):Ta C w L H:=
 ⟨h.base,h.sj,h.b0,h.wf,(On (by simpa using h.nodup)).1,λq hq=>h.Bc q (List.mem_append_left _ hq)⟩
theorem Ta.sub(h:Ta C w L H)(s:H'.Sublist H):Ta C w L H':=
 ⟨h.base,h.sj,h.b0,h.wf,h.nodup.sublist (s.map _),λq hq=>h.Bc q (s.subset hq)⟩
theorem Ta.frame(h:Ta C w L (H++F))(f:Fr (keys H) w L w' L' H')(h':Ta C w' L' H') :
  Ta C w' L' (H'++F)/\Fr (keys (H++F)) w L w' L' (H'++F):=by
 have hn:(keys H++keys F).Nodup:=by simpa [keys] using h.nodup
 have Ix:∀ q∈F,q.1 ∉ keys H:=λq hq hm=>(On hn).2.2 _ hm _ (List.mem_map_of_mem hq) rfl;refine⟨⟨h'.base,h'.sj,h'.b0,h'.wf,?_,λp hp=>?_⟩,⟨f.os,f.tape,f.output,f.ext,λb hb hk=>?_,λb hb hk=>?_,λp hp=>?_⟩⟩;rw[Te];refine List.nodup_append.2 ⟨h'.nodup,(On hn).2.1,λa ha b hb he=>?_⟩;subst he;obtain⟨p,hp,rfl⟩:=Ni ha;obtain⟨q,hq,he⟩:=Ni hb;have hqs:=(h.Bc q (List.mem_append_right _ hq)).2.1;rcases f.mD p hp with h1|h1;exact Ix q hq (he▸h1);omega;rcases xj hp with hp|hp;exact h'.Bc p hp;obtain⟨r1,r2,r3⟩:=h.Bc p (List.mem_append_right _ hp);exact⟨r1,Nat.lt_of_lt_of_le r2 f.ext.size,r3.IL f.ext (f.block _ r2 (Ix p hp)) (f.fk _ r2 (Ix p hp))⟩;exact f.block b hb (λhm=>hk (by simp only[keys,Te,List.mem_append];exact .inl hm));exact f.fk b hb (λhm=>hk (by simp only[keys,Te,List.mem_append];exact .inl hm));rcases xj hp with hp|hp;rcases f.mD p hp with h1|h1;exact .inl (by simp only[keys,Te,List.mem_append];exact .inl h1);exact .inr h1;exact .inl (by simp only[keys,Te,List.mem_append];exact .inr (List.mem_map_of_mem hp))
def xd(p:Nat×ja)(H F:Heap):Prop:=H.Perm (p::F)
theorem pH{p:Nat×ja}:xd p (p::F) F:=List.Perm.refl _
theorem pT{p q:Nat×ja}(h:xd p H F):xd p (q::H) (q::F):=
 (au q h).trans (yq p q F)
def HSub(H' H:Heap):Prop:=∃ G,H.Perm (H'++G)
theorem bc(H:Heap):HSub H H:=⟨[],by simp⟩
theorem HSub.nil(H:Heap):HSub [] H:=⟨H,by simp⟩
theorem Yg{p:Nat×ja}(h:HSub H' H):HSub H' (p::H):=
 let ⟨G,hG⟩:=h
 ⟨p::G,(au p hG).trans List.perm_middle.symm⟩
theorem Fc{p:Nat×ja}(hp:xd p H F)(h:HSub H' F):HSub (p::H') H:=
 let ⟨G,hG⟩:=h
 ⟨G,List.Perm.trans hp (au p hG)⟩
theorem Ta.Yb(h:Ta C w L H)(s:HSub H' H):Ta C w L H':=
 let ⟨_,hG⟩:=s
 (h.perm hG).left
theorem Fr.Yb(h:Fr K w L w' L' H)(s:HSub H' H):Fr K w L w' L' H':=
 let ⟨_,hG⟩:=s
 h.sub λ_ hp=>hG.mem_iff.2 (List.mem_append_left _ hp)
structure Env where
 s:Nat->LV
 ds:List Deferred
variable{e:Env}
def Env.Rd(e:Env)(d:Nat)(v:LV):Env:=⟨λi=>bif Nat.beq i d then v else e.s i,e.ds⟩
def Env.put(e:Env):Option Nat->LV->Env
 |some d,v=>e.Rd d v
 |none,_=>e
def Env.ev(e:Env):Operand->LV
 |.tmp t=>e.s t
 |.const v=>.atom v
 |.global g=>.atom (.pointer (some ⟨g,0,none⟩))
 |.func f=>.atom (.func (.func f) #[] #[])
structure Ec(n:Nat)(a:Act)(e:Env)(w:World)(L:Live):Prop where
 size:a.tmps.size=n
 ds:a.defers=e.ds
 zj:∀ i,Fb w L (e.s i) (a.tmps.getD i undef)
theorem Ec.ev{n:Nat}{a:Act}{e:Env}{w:World}{L:Live}(h:Ec n a e w L):∀ x,Fb w L (e.ev x) (a.eval x):=λx=>by
 cases x with
 |tmp t=>exact h.zj t
 |const v=>simp only[Env.ev,Fb,Act.eval]
 |global g=>simp only[Env.ev,Fb,Act.eval]
 |func f=>simp only[Env.ev,Fb,Act.eval]
theorem Ec.mono{n:Nat}{a:Act}{e:Env}{w w':World}{L L':Live}(h:Ec n a e w L)(x:Ext w L w' L'):Ec n a e w' L':=
 ⟨h.size,h.ds,λi=>(h.zj i).mono x _ _⟩
def mE(n:Nat):Option Nat->Bool
 |some d=>Nat.blt d n
 |none=>true
@[reducible] def Im(n:Nat)(d:Option Nat):Prop:=mE n d=true
theorem Ec.put{n:Nat}{a:Act}{e:Env}{w:World}{L:Live}(h:Ec n a e w L){dst:Option Nat}{lv:LV}{v:Value}(hd:Im n dst)(hv:Fb w L lv v) :
  Ec n (a.put dst v) (e.put dst lv) w L:=by
 cases dst with
 |none=>exact h
 |some d=>
  refine⟨by simp[Act.put,h.size],h.ds,λi=>?_⟩;simp only[Env.put,Env.Rd,Act.put];have hs:=h.size;have hd:d<n:=by simpa [Im,mE] using hd
  by_cases hi:i=d;subst hi;simp[Array.getD,hs,hd];exact hv;have hb:Nat.beq i d=false:=by
   cases hb:Nat.beq i d with
   |true=>exact absurd (Nat.eq_of_beq_eq_true hb) hi
   |false=>rfl
  rw[hb];have jx:=h.zj i;rw[Array.getD_eq_getD_getElem?] at jx ⊢;rw[Array.getElem?_setIfInBounds,zn (Ne.symm hi)];exact jx
abbrev Vc:=Exit->Env->Heap->Prop
variable{Q':Vc}
def RH(n:Nat):Exit->Act->Env->World->Live->Prop
 |.panic _,a,e,_,_=>a.defers=e.ds
 |_,a,e,w,L=>Ec n a e w L
def lift(C:Ctx)(n:Nat)(w:World)(L:Live)(K:List Nat)(Q:Vc):Exit->Act->World->Prop:=
 λx a' w'=>∃ e' H' L',Fr K w L w' L' H'/\Ta C w' L' H'/\RH n x a' e' w' L'/\Q x e' H'
theorem Z2{Q:Vc}(h:∀ x e H,Q x e H->Q' x e H){x:Exit}{a:Act}
  (k:lift C n w L K Q x a w'):lift C n w L K Q' x a w':=
 let ⟨e',H',L',h1,h2,h3,h4⟩:=k
 ⟨e',H',L',h1,h2,h3,h _ _ _ h4⟩
theorem cO{w1:World}{L1:Live}{Q:Vc}(f:Fr K w L w1 L1 H1){x:Exit}{a:Act}
  (k:lift C n w1 L1 (keys H1) Q x a w'):lift C n w L K Q x a w':=
 let ⟨e',H',L',h1,h2,h3,h4⟩:=k
 ⟨e',H',L',f.trans h1,h2,h3,h4⟩
def Ps(w:World)(L:Live)(H:Heap)(w':World):Prop:=
 (∀ p∈H,w'.heap[p.1]? = w.heap[p.1]?)/\(∀ b i,i<L b->w'.cell? ⟨b,i,none⟩=w.cell? ⟨b,i,none⟩)
def Pure(C:Ctx)(o:Oper)(e:Env)(H:Heap)(lv:LV):Prop:=
 ∀ (ρ:Operand->Value) w L,(∀ x,Fb w L (e.ev x) (ρ x))->Ta C w L H ->
  ∃ v,Fb w L lv v/\∀ w',Ps w L H w'->(execOp ρ o).run C.P w'=.ok (.value v) w'
def Left(C:Ctx)(w:World)(L:Live)(H:Heap)(w':World)(v:Value)(K:LV->Heap->Prop):Prop:=
 ∃ lv H' L',Fr (keys H) w L w' L' H'/\Ta C w' L' H'/\Fb w' L' lv v/\K lv H'
def Js(C:Ctx)(w:World)(L:Live)(H:Heap)(w':World)(X:Heap->Prop):Prop:=
 ∃ H' L',Fr (keys H) w L w' L' H'/\Ta C w' L' H'/\X H'
def AB(C:Ctx)(w:World)(L:Live)(H:Heap)(K:LV->Heap->Prop)(X:List PanicEntry->Heap->Prop):Ending->World->Prop
 |.returned v,w'=>Left C w L H w' v K
 |.panicked ch,w'=>Js C w L H w' (X ch)
 |.outgrown,_=>False
def rG(C:Ctx)(w:World)(L:Live)(H:Heap)(K:LV->Heap->Prop)(X:List PanicEntry->Heap->Prop):Result Next->Prop
 |.ok (.value v) w'=>Left C w L H w' v K
 |.ok .skip w'=>Left C w L H w' undef K
 |.ok (.enter f args) w'=>w'=w/\Calls C.P f args w (AB C w L H K X)
 |.halt (.panic v) w'=>Js C w L H w' (X [{ v,recovered:=false }])
 |_=>False
def ab(C:Ctx)(o:Oper)(e:Env)(H:Heap)(K:LV->Heap->Prop)(X:List PanicEntry->Heap->Prop):Prop:=
 ∀ (ρ:Operand->Value) w L,(∀ x,Fb w L (e.ev x) (ρ x))->Ta C w L H->rG C w L H K X ((execOp ρ o).run C.P w)
def Ea(C:Ctx)(n:Nat)(Sa:Array Oper)(Q:Vc)(rest:List Oper)(e:Env)(H:Heap):Prop:=
 ∀ a w L,Ec n a e w L->Ta C w L H->wpList C.P Sa (lift C n w L (keys H) Q) rest a w
def kb(C:Ctx)(n:Nat)(c:Code)(Q:Vc)(e:Env)(H:Heap):Prop:=
 ∀ a w L,Ec n a e w L->Ta C w L H->c.wp C.P (lift C n w L (keys H) Q) a w
inductive Pe where
 |ret (v:LV)
 |panic (ch:List PanicEntry)
def ca(C:Ctx)(f:FuncId)(args:List LV)(H:Heap)(R:Pe->Heap->Prop):Prop:=
 ∀ (vs:List Value) w L,oa w L args vs->Ta C w L H ->
  Calls C.P f vs.toArray w (AB C w L H (λv=>R (.ret v)) λch=>R (.panic ch))
theorem Left.mono{H:Heap}{K K':LV->Heap->Prop}(h:Left C w L H w' v K)(hk:∀ lv H,K lv H->K' lv H):Left C w L H w' v K':=
 let ⟨lv,H',L',h1,h2,h3,h4⟩:=h
 ⟨lv,H',L',h1,h2,h3,hk _ _ h4⟩
theorem Js.mono{H:Heap}{X X':Heap->Prop}(h:Js C w L H w' X)(hk:∀ H,X H->X' H):Js C w L H w' X':=
 let ⟨H',L',h1,h2,h3⟩:=h
 ⟨H',L',h1,h2,hk _ h3⟩
theorem AB.mono{C:Ctx}{w:World}{L:Live}{H:Heap}{K K':LV->Heap->Prop}{X X':List PanicEntry->Heap->Prop}(hk:∀ lv H,K lv H->K' lv H)(hx:∀ ch H,X ch H->X' ch H)
  (e:Ending) (w':World) (h:AB C w L H K X e w'):AB C w L H K' X' e w':=by
 cases e with
 |returned v=>exact Left.mono h hk
 |panicked ch=>exact Js.mono h (hx ch)
 |outgrown=>exact h
theorem ca.mono{C:Ctx}{f:FuncId}{args:List LV}{H:Heap}{R R':Pe->Heap->Prop}(h:ca C f args H R)(hr:∀ r H,R r H->R' r H):ca C f args H R':=
 λvs w L h1 h2=>(h vs w L h1 h2).mono (AB.mono (λ_ _=>hr _ _) λ_ _=>hr _ _)
theorem Left.frame{C:Ctx}{w:World}{L:Live}{H F:Heap}{w':World}{v:Value}{K:LV->Heap->Prop}(hH:Ta C w L (H++F))(h:Left C w L H w' v λlv H'=>K lv (H'++F)) :
  Left C w L (H++F) w' v K:=
 let ⟨lv,H',L',h1,h2,h3,h4⟩:=h
 let f:=hH.frame h1 h2
 ⟨lv,H'++F,L',f.2,f.1,h3,h4⟩
theorem Js.frame{C:Ctx}{w:World}{L:Live}{H F:Heap}{w':World}{X:Heap->Prop}(hH:Ta C w L (H++F))(h:Js C w L H w' λH'=>X (H'++F)) :
  Js C w L (H++F) w' X:=
 let ⟨H',L',h1,h2,h3⟩:=h
 let f:=hH.frame h1 h2
 ⟨H'++F,L',f.2,f.1,h3⟩
theorem Fr.perm{H2:Heap}(p:H1.Perm H2)(h:Fr (keys H1) w L w' L' H'):Fr (keys H2) w L w' L' H':=by have hm:∀ b,b∈keys H1 ↔ b∈keys H2:=λb=>(p.map _).mem_iff;exact⟨h.os,h.tape,h.output,h.ext,λb hb hn=>h.block b hb λk=>hn ((hm b).1 k),λb hb hn=>h.fk b hb λk=>hn ((hm b).1 k),λq hq=>(h.mD q hq).imp (hm _).1 id⟩
theorem rG.frame{C:Ctx}{w:World}{L:Live}{H F G:Heap}{K:LV->Heap->Prop}{X:List PanicEntry->Heap->Prop}(p:G.Perm (H++F))(hH:Ta C w L G){r:Result Next}
  (h:rG C w L H (λlv H'=>K lv (H'++F)) (λch H'=>X ch (H'++F)) r):rG C w L G K X r:=by
 have kF:=hH.perm p;have lf:∀ {w' v},Left C w L H w' v (λlv H'=>K lv (H'++F))->Left C w L G w' v K:=λh=>by obtain⟨lv,H',L',h1,h2,h3,h4⟩:=Left.frame kF h;exact⟨lv,H',L',h1.perm p.symm,h2,h3,h4⟩
 have lx:∀ {w' ch},Js C w L H w' (λH'=>X ch (H'++F))->Js C w L G w' (X ch):=λh=>by obtain⟨H',L',h1,h2,h3⟩:=Js.frame kF h;exact⟨H',L',h1.perm p.symm,h2,h3⟩
 unfold rG at h ⊢;split at h;exact lf h;exact lf h;refine⟨h.1,h.2.mono λe w' he=>?_⟩
 cases e with
 |returned v=>exact lf he
 |panicked ch=>exact lx he
 |outgrown=>exact he
 exact lx h;exact h.elim
theorem ab.frame{C:Ctx}{o:Oper}{e:Env}{G H F:Heap}{K:LV->Heap->Prop}{X:List PanicEntry->Heap->Prop}(p:G.Perm (H++F))
  (h:ab C o e H (λlv H'=>K lv (H'++F)) λch H'=>X ch (H'++F)):ab C o e G K X:=
 λρ w L h1 h2=>rG.frame p h2 (h ρ w L h1 (h2.perm p).left)
theorem Pure.step{K:LV->Heap->Prop}{X:List PanicEntry->Heap->Prop}(h:Pure C o e H lv)(k:K lv H):ab C o e H K X:=λρ w L h1 h2=>by obtain⟨v,hv,hr⟩:=h ρ w L h1 h2;rw[hr w ⟨λ_ _=>rfl,λ_ _ _=>rfl⟩];exact⟨lv,H,L,Fr.refl _ _ _,h2,hv,k⟩
theorem NC{P:Program}{Sa:Array Oper}{Q Q':Exit->Act->World->Prop}(h:∀ e a w,Q e a w->Q' e a w):∀ (l:List Oper) (a:Act) (w:World),wpList P Sa Q l a w->wpList P Sa Q' l a w
 |[],_,_,k=>h _ _ _ k
 |o::l,a,w,k=>by
  unfold wpList at k ⊢;split at k;rename_i hw;rw[zp hw];rcases k with k|⟨k1,a0,w0,k2⟩;refine .inl ?_;unfold Oper.wp at k ⊢;generalize (execOp a.eval o).run P w=r at k ⊢;cases r with
  |ok x w'=>
   cases x <;> simp only[Oper.upon] at k ⊢ <;> first
    |exact NC h l _ _ k
    |(refine Calls.mono k λe EP he=>?_;cases e with
      |returned v=>exact NC h l _ _ he
      |panicked ch=>exact h _ _ _ he
      |outgrown=>obtain⟨a0,w0,he⟩:=he;exact⟨a0,w0,h _ _ _ he⟩)
    |exact Rows.mono k λ_ _ he=>NC h l _ _ he
  |halt x w'=>cases x <;> simp only[Oper.upon] at k ⊢ <;> exact h _ _ _ k
  exact .inr ⟨k1,a0,w0,h _ _ _ k2⟩;rename_i hw;rw[zn hw];exact NC h l _ _ k
theorem quT{K:LV->Heap->Prop}{X:List PanicEntry->Heap->Prop}(h:ab C o e H K X)(hd:Im n o.dst)
  {a:Act} {w:World} {L:Live} (hE:Ec n a e w L) (hH:Ta C w L H) {K':Act->World->Prop} {Q':Exit->Act->World->Prop}
  (hK:∀ lv H' L' w' a',Fr (keys H) w L w' L' H'->Ta C w' L' H'->Ec n a' (e.put o.dst lv) w' L'->K lv H'->K' a' w')
  (hX:∀ ch H' L' w',Fr (keys H) w L w' L' H'->Ta C w' L' H'->X ch H'->Q' (.panic ch) a w'):o.wp C.P a w K' Q':=by
 have hs:=h a.eval w L hE.ev hH;unfold Oper.wp;have left:∀ {w' v},Left C w L H w' v K->K' (a.put o.dst v) w':=λh=>by obtain⟨lv,H',L',h1,h2,h3,h4⟩:=h;exact hK lv H' L' _ _ h1 h2 ((hE.mono h1.ext).put hd h3) h4
 have Lu:∀ {w' ch},Js C w L H w' (X ch)->Q' (.panic ch) a w':=λh=>by obtain⟨H',L',h1,h2,h3⟩:=h;exact hX _ H' L' _ h1 h2 h3
 generalize (execOp a.eval o).run C.P w=r at hs ⊢;unfold rG at hs;split at hs;exact left hs;exact left hs;obtain⟨rfl,hs⟩:=hs;refine Calls.mono hs λe w' he=>?_
 cases e with
 |returned v=>exact left he
 |panicked ch=>exact Lu he
 |outgrown=>exact he.elim
 exact Lu hs;exact hs.elim
section Sa
variable{C:Ctx}{n:Nat}{Sa:Array Oper}{Q:Vc}{e:Env}{H:Heap}
theorem Ea.nil(h:Q .normal e H):Ea C n Sa Q [] e H:=λ_ _ L hE hH=>⟨e,H,L,Fr.refl _ _ _,hH,hE,h⟩
theorem oS{op:Op}
  (h:ab C ⟨dst,op,ty,ra,ua,none⟩ e H (λlv H'=>Ea C n Sa Q rest (e.put dst lv) H') λch H'=>∀ e',e'.ds=e.ds->Q (.panic ch) e' H')
  (hd:Im n dst:=by rfl):Ea C n Sa Q (⟨dst,op,ty,ra,ua,none⟩::rest) e H:=λa w L hE hH=>by
 unfold wpList;rw[zp (by simp[Region.wanted])];refine .inl (quT h hd hE hH (λlv H' L' w' a' h1 h2 h3 h4=>?_) λch H' L' w' h1 h2 h3=>?_);exact NC (λ_ _ _=>cO h1) _ _ _ (h4 a' w' L' h3 h2);exact⟨e,H',L',h1,h2,hE.ds,h3 e rfl⟩
theorem oP{op:Op}
  (h:Pure C ⟨dst,op,ty,ra,ua,none⟩ e H lv) (hd:Im n dst) (k:Ea C n Sa Q rest (e.put dst lv) H):Ea C n Sa Q (⟨dst,op,ty,ra,ua,none⟩::rest) e H:=
 oS (h.step k) hd
theorem qa{op:Op}(h:Pure C ⟨dst,op,ty,ra,ua,none⟩ e H lv)(k:Ea C n Sa Q rest (e.put dst lv) H)(hd:Im n dst:=by rfl):Ea C n Sa Q (⟨dst,op,ty,ra,ua,none⟩::rest) e H:=oP h hd k
theorem bL{a:Act}(hE:Ec n a e w L){b:Bool}(hj:(Sa[j]?).bind (·.dst)=some d)(hb:e.s d=.atom (.bool b)):yielded Sa a.tmps j=some b:=by
 have h:=hE.zj d;rw[hb] at h;simp only[Fb] at h;unfold yielded;rw[hj];simp only[Option.bind_some];rw[Array.getD_eq_getD_getElem?] at h;cases hx:a.tmps[d]? with
 |none=>rw[hx] at h;simp[undef] at h
 |some x=>rw[hx] at h;simp only[Option.getD_some] at h;subst h;rfl
theorem Ea.want{op:Op}{b:Bool}
  (hj:(Sa[j]?).bind (·.dst)=some d) (hb:e.s d=.atom (.bool b))
  (k:Ea C n Sa Q (⟨dst,op,ty,ra,ua,none⟩::rest) e H):Ea C n Sa Q (⟨dst,op,ty,ra,ua,some (j,b)⟩::rest) e H:=λa w L hE hH=>by
 have:=k a w L hE hH;unfold wpList at this ⊢;rw[zp (by simp[Region.wanted])] at this;rw[zp (by simp[Region.wanted,bL hE hj hb])];exact this
theorem Ea.skip{op:Op}{b c:Bool}
  (hj:(Sa[j]?).bind (·.dst)=some d) (hb:e.s d=.atom (.bool b)) (xb:b=!c) (hd:Im n dst)
  (k:Ea C n Sa Q rest (e.put dst (.atom undef)) H):Ea C n Sa Q (⟨dst,op,ty,ra,ua,some (j,c)⟩::rest) e H:=λa w L hE hH=>by
 unfold wpList;rw[zn (by subst xb;cases c <;> simp[Region.wanted,bL hE hj hb])];exact k _ w L (hE.put hd (by simp only[Fb])) hH
theorem Ea.qd(h:Ea C n Sa Q rest e H)(hq:∀ x e H,Q x e H->Q' x e H):Ea C n Sa Q' rest e H:=
 λa w L hE hH=>NC (λ_ _ _=>Z2 hq) _ _ _ (h a w L hE hH)
end Sa
section code
variable{C:Ctx}{n:Nat}{Q:Vc}{e:Env}{H:Heap}
def Ie(k:Env->Heap->Prop)(Q:Vc):Vc
 |.normal,e,H=>k e H
 |x,e,H=>Q x e H
def pf(id:Nat)(Q:Vc):Vc
 |.exit dJ,e,H=>if dJ=id then Q .normal e H else Q (.exit dJ) e H
 |x,e,H=>Q x e H
theorem kb.qd(h:kb C n c Q e H)(hq:∀ x e H,Q x e H->Q' x e H):kb C n c Q' e H:=
 λa w L hE hH=>Go.wp_mono (h a w L hE hH) λ_ _ _=>Z2 hq
theorem kb.seq{x y:Code}(h:kb C n x (Ie (λe H=>kb C n y Q e H) Q) e H):kb C n (.seq x y) Q e H:=λa w L hE hH=>by
 refine wp_seq (Go.wp_mono (h a w L hE hH) λex a' w' hq=>?_);obtain⟨e',H',L',h1,h2,h3,h4⟩:=hq
 cases ex with
 |normal=>exact Go.wp_mono (h4 a' w' L' h3 h2) λ_ _ _=>cO h1
 |exit id=>exact⟨e',H',L',h1,h2,h3,h4⟩
 |goto id=>exact⟨e',H',L',h1,h2,h3,h4⟩
 |ret=>exact⟨e',H',L',h1,h2,h3,h4⟩
 |panic ch=>exact⟨e',H',L',h1,h2,h3,h4⟩
 |outgrown=>exact⟨e',H',L',h1,h2,h3,h4⟩
theorem kb.block{id:Nat}{c:Code}(h:kb C n c (pf id Q) e H):kb C n (.block id c) Q e H:=λa w L hE hH=>by
 refine wp_block (Go.wp_mono (h a w L hE hH) λex a' w' hq=>?_);obtain⟨e',H',L',h1,h2,h3,h4⟩:=hq
 cases ex with
 |exit dJ=>simp only[Exit.inBlock,pf] at h4 ⊢;split;rename_i hid;rw[zp hid] at h4;exact⟨e',H',L',h1,h2,h3,h4⟩;rename_i hid;rw[zn hid] at h4;exact⟨e',H',L',h1,h2,h3,h4⟩
 |normal=>exact⟨e',H',L',h1,h2,h3,h4⟩
 |goto id=>exact⟨e',H',L',h1,h2,h3,h4⟩
 |ret=>exact⟨e',H',L',h1,h2,h3,h4⟩
 |panic ch=>exact⟨e',H',L',h1,h2,h3,h4⟩
 |outgrown=>exact⟨e',H',L',h1,h2,h3,h4⟩
theorem kb.skip(h:Q .normal e H):kb C n .skip Q e H:=λ_ _ L hE hH=>wp_skip ⟨e,H,L,Fr.refl _ _ _,hH,hE,h⟩
theorem kb.exit{id:Nat}(h:Q (.exit id) e H):kb C n (.exit id) Q e H:=λ_ _ L hE hH=>wp_exit ⟨e,H,L,Fr.refl _ _ _,hH,hE,h⟩
theorem kb.ret(h:Q .ret e H):kb C n .ret Q e H:=λ_ _ L hE hH=>wp_ret ⟨e,H,L,Fr.refl _ _ _,hH,hE,h⟩
theorem oC{c:Operand}{x y:Code}{t:Bool}(hc:e.ev c=.atom (.bool t))(ht:t=true->kb C n x Q e H)(hf:t=false->kb C n y Q e H):kb C n (.cond c x y) Q e H:=
 λa w L hE hH=>by have hv:=hE.ev c;rw[hc] at hv;simp only[Fb] at hv;exact wp_cond_split hv (λh=>ht h a w L hE hH) λh=>hf h a w L hE hH
theorem Oa{c:Operand}{x y:Code}{t:Bool}(ht:t=true->kb C n x Q e H)(hf:t=false->kb C n y Q e H)(hc:e.ev c=.atom (.bool t):=by rfl):kb C n (.cond c x y) Q e H:=oC hc ht hf
theorem kb.region{id:Nat}{l:List Oper}(h:Ea C n l.toArray Q l e H):kb C n (.region id l.toArray false) Q e H:=λa w L hE hH=>wp_region_lit (h a w L hE hH)
theorem qjB{Q:Exit->Act->World->Prop}(I:Nat->Act->World->Prop)
  (round:∀ n a w,I n a w->c.wp P (Exit.then (λa' w'=>∃ m,m<n/\I m a' w') Q) a w) {n:Nat} {a:Act} {w:World} (h₀:I n a w):(Code.loop c).wp P Q a w:=by
 intro b k cs;have key:∀ n a w,I n a w ->
   ∃ e a' w',Q e a' w'/\Arrives P (lone (b.at a (.code c::.inLoop c::k)) cs w) b k cs e a' w':=by
  intro n;induction n using Nat.strongRecOn with
  |_ n ih=>
   intro a w hI;obtain⟨e,a₁,w₁,hq,jv⟩:=round n a w hI b (.inLoop c::k) cs;cases e with
   |normal=>obtain⟨m,Ka,hI₁⟩:=hq;obtain⟨e₂,a₂,w₂,hq₂,CT⟩:=ih m Ka a₁ w₁ hI₁;exact⟨e₂,a₂,w₂,hq₂,.of_steps (Steps.trans jv (.one step_inLoop)) CT⟩
   |exit id=>exact⟨_,a₁,w₁,hq,.pass (x:=.inLoop c) rfl (λ_ _=>.inl (by simp)) jv⟩
   |goto l=>exact⟨_,a₁,w₁,hq,.pass (x:=.inLoop c) rfl (λ_ _=>.inl (by simp)) jv⟩
   |ret=>exact⟨_,a₁,w₁,hq,.pass (x:=.inLoop c) rfl (λ_ _=>.inl (by simp)) jv⟩
   |panic ch=>exact⟨_,a₁,w₁,hq,.pass (x:=.inLoop c) rfl (λ_ _=>.inl (by simp)) jv⟩
   |outgrown=>exact⟨_,a₁,w₁,hq,.pass (x:=.inLoop c) rfl (λ_ _=>.inl (by simp)) jv⟩
 obtain⟨e,a',w',hq,jv⟩:=key n a w h₀;exact⟨e,a',w',hq,.of_steps (.one step_loop) jv⟩
theorem kb.loop{c:Code}(I:Nat->Env->Heap->Prop)(k:Nat)(h0:I k e H)
  (round:∀ k e H,I k e H->kb C n c (Ie (λe' H'=>∃ m,m<k/\I m e' H') Q) e H):kb C n (.loop c) Q e H:=λa w L hE hH=>by
 refine qjB (I:=λk a' w'=>∃ e' H' L',Fr (keys H) w L w' L' H'/\Ta C w' L' H'/\Ec n a' e' w' L'/\I k e' H') (n:=k) ?_ ⟨e,H,L,Fr.refl _ _ _,hH,hE,h0⟩;rintro k a1 w1 ⟨e1,H1,L1,h1,h2,h3,h4⟩;refine Go.wp_mono (round k e1 H1 h4 a1 w1 L1 h3 h2) λex a' w' hq=>?_;obtain⟨e',H',L',g1,g2,g3,g4⟩:=hq
 cases ex with
 |normal=>obtain⟨m,hm,g4⟩:=g4;exact⟨m,hm,e',H',L',h1.trans g1,g2,g3,g4⟩
 |exit id=>exact⟨e',H',L',h1.trans g1,g2,g3,g4⟩
 |goto id=>exact⟨e',H',L',h1.trans g1,g2,g3,g4⟩
 |ret=>exact⟨e',H',L',h1.trans g1,g2,g3,g4⟩
 |panic ch=>exact⟨e',H',L',h1.trans g1,g2,g3,g4⟩
 |outgrown=>exact⟨e',H',L',h1.trans g1,g2,g3,g4⟩
def Env.Tj(j:Env):List (Nat×LV)->Env
 |[]=>j
 |(d,v)::r=>(Env.Tj j r).Rd d v
theorem Env.Qj{v:LV}(h:e.s d=v):e.Rd d v=e:=by
 obtain⟨s,ds⟩:=e;simp only[Env.Rd,Env.mk.injEq,and_true];funext i;cases hb:Nat.beq i d with
 |false=>rfl
 |true=>have:=Nat.eq_of_beq_eq_true hb;subst this;exact h.symm
theorem Env.Ce{e:Env}:∀ {l:List (Nat×LV)},(∀ p∈l,e.s p.1=p.2)->Env.Tj e l=e
 |[],_=>rfl
 |(d,v)::r,h=>by simp only[Env.Tj];rw[Env.Ce (l:=r) (λp hp=>h p (Oc _ hp))];exact Env.Qj (h (d,v) List.mem_cons_self)
end code
section UT
variable{C:Ctx}{n:Nat}{Q:Vc}{e:Env}{H:Heap}{k:Env->Heap->Prop}{id dJ:Nat}
theorem qN(h:k e H):Ie k Q .normal e H:=h
theorem Ie.exit(h:Q (.exit id) e H):Ie k Q (.exit id) e H:=h
theorem Ie.ret(h:Q .ret e H):Ie k Q .ret e H:=h
theorem Ie.panic{ch:List PanicEntry}(h:Q (.panic ch) e H):Ie k Q (.panic ch) e H:=h
theorem pf.hit(h:Q .normal e H):pf id Q (.exit id) e H:=by simp only[pf,if_true];exact h
theorem pf.RR(hn:dJ≠id)(h:Q (.exit dJ) e H):pf id Q (.exit dJ) e H:=by simp only[pf,zn hn];exact h
theorem pf.normal(h:Q .normal e H):pf id Q .normal e H:=h
theorem pf.ret(h:Q .ret e H):pf id Q .ret e H:=h
theorem pf.panic{ch:List PanicEntry}(h:Q (.panic ch) e H):pf id Q (.panic ch) e H:=h
theorem oB{Sa:Array Oper}(d:Nat){b:Bool}(hb:e.s d=bool b)(ht:b=true->Ea C n Sa Q rest (e.Rd d (bool true)) H)(hf:b=false->Ea C n Sa Q rest (e.Rd d (bool false)) H):Ea C n Sa Q rest e H:=by cases b;have:=hf rfl;rwa [Env.Qj hb] at this;have:=ht rfl;rwa [Env.Qj hb] at this
theorem kb.sub{v v':LV}(hv:e.s d=v)(hs:v.Sub v')(h:kb C n c Q (e.Rd d v') H):kb C n c Q e H:=λa w L hE hH=>by
 refine h a w L ⟨hE.size,hE.ds,λi=>?_⟩ hH;simp only[Env.Rd]
 cases hb:Nat.beq i d with
 |false=>exact hE.zj i
 |true=>have hi:=Nat.eq_of_beq_eq_true hb;subst hi;have:=hE.zj i;rw[hv] at this;exact hs _ _ _ this
theorem Ea.sub{Sa:Array Oper}(d:Nat){v v':LV}(hv:e.s d=v)(hs:v.Sub v')(h:Ea C n Sa Q rest (e.Rd d v') H):Ea C n Sa Q rest e H:=λa w L hE hH=>by
 refine h a w L ⟨hE.size,hE.ds,λi=>?_⟩ hH;simp only[Env.Rd]
 cases hb:Nat.beq i d with
 |false=>exact hE.zj i
 |true=>have hi:=Nat.eq_of_beq_eq_true hb;subst hi;have:=hE.zj i;rw[hv] at this;exact hs _ _ _ this
theorem tW{K:List Nat}(hK:∀ b∈K,b∈keys H1){x:Exit}{a:Act}(h:lift C n w L K Q x a w'):lift C n w L (keys H1) Q x a w':=
 let ⟨e',H',L',h1,h2,h3,h4⟩:=h
 ⟨e',H',L',⟨h1.os,h1.tape,h1.output,h1.ext,λb hb hn=>h1.block b hb λk=>hn (hK b k),λb hb hn=>h1.fk b hb λk=>hn (hK b k),λp hp=>(h1.mD p hp).imp (hK _) id⟩,h2,h3,h4⟩
theorem HSub.keys{H' H:Heap}(s:HSub H' H):∀ b∈keys H',b∈GL.keys H:=λb hb=>by obtain⟨p,hp,rfl⟩:=Ni hb;obtain⟨G,hG⟩:=s;exact List.mem_map_of_mem (hG.mem_iff.2 (List.mem_append_left _ hp))
theorem cW(s:HSub H' H)(h:kb C n c Q e H'):kb C n c Q e H:=λa w L hE hH=>Go.wp_mono (h a w L hE (hH.Yb s)) λ_ _ _=>tW s.keys
theorem Ea.Yb{Sa:Array Oper}{rest:List Oper}{H':Heap}(s:HSub H' H)(h:Ea C n Sa Q rest e H'):Ea C n Sa Q rest e H:=λa w L hE hH=>NC (λ_ _ _=>tW s.keys) _ _ _ (h a w L hE (hH.Yb s))
theorem kb.perm(s:H.Perm H')(h:kb C n c Q e H'):kb C n c Q e H:=cW ⟨[],by simpa using s⟩ h
end UT
def rn(tmps:Array Value):ResultVar->Sem Value
 |.tmp t=>Pure.pure (tmps.getD t undef)
 |.cell a t=>do loadVar t (<-asAddr (tmps.getD a undef))
def pn(C:Ctx)(n:Nat)(e:Env)(H:Heap)(r:ResultVar)(lv:LV):Prop:=
 ∀ a w L,Ec n a e w L->Ta C w L H->∃ v,(rn a.tmps r).run C.P w=.ok v w/\Fb w L lv v
def tn(C:Ctx)(n:Nat)(e:Env)(H:Heap):List ResultVar->List LV->Prop
 |[],[]=>True
 |r::rs,v::vs=>pn C n e H r v/\tn C n e H rs vs
 |_,_=>False
def Oh:List LV->LV
 |[v]=>v
 |vs=>.tuple vs
def ke(C:Ctx)(n:Nat)(rs:List ResultVar)(R:Pe->Heap->Prop):Vc
 |.normal,e,H|.ret,e,H=>e.ds=[]/\∃ vs H',tn C n e H rs vs/\HSub H' H/\R (.ret (Oh vs)) H'
 |.panic ch,e,H=>e.ds=[]/\∃ H',HSub H' H/\R (.panic ch) H'
 |_,_,_=>False
def tI(args:List LV):Env:=⟨λi=>(args[i]?).getD (.atom undef),[]⟩
theorem oa.length{w:World}{L:Live}:∀ {cs:List LV} {xs:List Value},oa w L cs xs->xs.length=cs.length
 |[],xs,h=>by simp only[oa] at h;subst h;rfl
 |c::cs,xs,h=>by simp only[oa] at h;obtain⟨y,ys,rfl,_,h⟩:=h;simp[oa.length h]
theorem oa.get{w:World}{L:Live}:∀ {cs:List LV} {xs:List Value},oa w L cs xs->∀ {i:Nat} {c:LV},cs[i]? = some c->∃ x,xs[i]? = some x/\Fb w L c x
 |[],_,_,i,c,hc=>by simp at hc
 |c::cs,xs,h,i,c',hc=>by
  simp only[oa] at h;obtain⟨y,ys,rfl,h1,h⟩:=h;cases i with
  |zero=>simp at hc;subst hc;exact⟨y,rfl,h1⟩
  |succ i=>simpa using oa.get h (i:=i) (by simpa using hc)
theorem zG{α β:Type}{s:Sem α}{f:α->Sem β}{v:α}(h:s.run P w=.ok v w'):(s >>= f).run P w=(f v).run P w':=by rw[Lc,h];try rfl
theorem qqy{fn:Func}(h:fn.results=#[])(tmps:Array Value)(w:World):(results fn tmps).run P w=.ok (.tuple #[]) w:=by simp[results,h]
theorem qwp{fn:Func}{r:ResultVar}(h:fn.results=#[r])(h1:(rn tmps r).run P w=.ok v w):(results fn tmps).run P w=.ok v w:=by
 have:results fn tmps=rn tmps r:=by cases r <;> simp[results,h,rn]
 rw[this,h1]
theorem qwE{fn:Func}{r s:ResultVar}(h:fn.results=#[r,s]){u:Value}(h1:(rn tmps r).run P w=.ok v w)(h2:(rn tmps s).run P w=.ok u w) :
  (results fn tmps).run P w=.ok (.tuple #[v,u]) w:=by
 have:results fn tmps=(do let v <-rn tmps r;let u <-rn tmps s;Pure.pure (.tuple #[v,u])):=by cases r <;> cases s <;> simp[results,h,rn]
 rw[this,zG h1,zG h2];try rfl
theorem qvX{fn:Func}{r s t:ResultVar}(h:fn.results=#[r,s,t]){u x:Value}(h1:(rn tmps r).run P w=.ok v w)(h2:(rn tmps s).run P w=.ok u w)(h3:(rn tmps t).run P w=.ok x w) :
  (results fn tmps).run P w=.ok (.tuple #[v,u,x]) w:=by
 have:results fn tmps=(do let v <-rn tmps r;let u <-rn tmps s;let x <-rn tmps t;Pure.pure (.tuple #[v,u,x])):=by cases r <;> cases s <;> cases t <;> simp[results,h,rn]
 rw[this,zG h1,zG h2,zG h3];try rfl
theorem J3{fn:Func}{a:Act}(hE:Ec n a e w L)(hH:Ta C w L H){vs:List LV}
  (h:tn C n e H fn.results.toList vs) (h3:fn.results.size<=3):∃ v,(results fn a.tmps).run C.P w=.ok v w/\Fb w L (Oh vs) v:=by
 obtain⟨rs,Pq⟩:∃ rs,fn.results=List.toArray rs:=⟨fn.results.toList,by simp⟩;rw[Pq] at h h3;simp only[List.size_toArray] at h h3;match rs,vs,h,h3,Pq with
 |[],[],_,_,Pq=>exact⟨_,qqy Pq _ _,by simp only[Oh,Fb];exact⟨[],rfl,by simp only[oa]⟩⟩
 |[r],[x],h,_,Pq=>obtain⟨v,hv,hr⟩:=h.1 a w L hE hH;exact⟨v,qwp Pq hv,hr⟩
 |[r,s],[x,y],h,_,Pq=>obtain⟨v,hv,hr⟩:=h.1 a w L hE hH;obtain⟨u,hu,hs⟩:=h.2.1 a w L hE hH;exact⟨_,qwE Pq hv hu,by simp only[Oh,Fb];exact⟨[v,u],rfl,by simp only[oa];exact⟨v,_,rfl,hr,u,_,rfl,hs,rfl⟩⟩⟩
 |[r,s,t],[x,y,z],h,_,Pq=>obtain⟨v,hv,hr⟩:=h.1 a w L hE hH;obtain⟨u,hu,hs⟩:=h.2.1 a w L hE hH;obtain⟨q,hq,ht⟩:=h.2.2.1 a w L hE hH;exact⟨_,qvX Pq hv hu hq,by simp only[Oh,Fb];exact⟨[v,u,q],rfl,by simp only[oa];exact⟨v,_,rfl,hr,u,_,rfl,hs,q,_,rfl,ht,rfl⟩⟩⟩
 |_::_::_::_::_,_,_,h3,_=>simp at h3
 |[],_::_,h,_,_=>exact h.elim
 |[_],[],h,_,_=>exact h.elim
 |[_],_::_::_,h,_,_=>exact h.2.elim
 |[_,_],[],h,_,_=>exact h.elim
 |[_,_],[_],h,_,_=>exact h.2.elim
 |[_,_],_::_::_::_,h,_,_=>exact h.2.2.elim
 |[_,_,_],[],h,_,_=>exact h.elim
 |[_,_,_],[_],h,_,_=>exact h.2.elim
 |[_,_,_],[_,_],h,_,_=>exact h.2.2.elim
 |[_,_,_],_::_::_::_::_,h,_,_=>exact h.2.2.2.elim
theorem jb{f:FuncId}{fn:Func}{args:List LV}{R:Pe->Heap->Prop}(hf:C.P.funcs[f]? = some fn)(hb:fn.body=some c)(hn:fn.ntmps=n)(h3:Nat.ble fn.results.size 3=true)
  (hl:Nat.ble args.length n=true) (h:kb C n c (ke C n fn.results.toList R) (tI args) H):ca C f args H R:=λvs w L hv hH=>by
 subst hn;have az:args.length<=fn.ntmps:=by simpa using hl
 have Nt:fn.results.size<=3:=by simpa using h3
 have ma:=hv.length;refine calls_of_wp hf hb (Go.wp_mono (h _ w L ⟨?_,rfl,λi=>?_⟩ hH) λex a' w' hq=>?_)
 simp;omega;exact kP;obtain⟨e',H',L',g1,g2,g3,g4⟩:=hq;have ret:Ec fn.ntmps a' e' w' L'->(e'.ds=[]/\∃ vs Kh,tn C fn.ntmps e' H' fn.results.toList vs/\HSub Kh H'/\R (.ret (Oh vs)) Kh) ->
   a'.defers=[]/\∃ v,(results fn a'.tmps).run C.P w'=.ok v w'/\AB C w L H (λv=>R (.ret v)) (λch=>R (.panic ch)) (.returned v) w':=λhE hr=>by
  obtain⟨h1,EE,Kh,h2,h4,h5⟩:=hr;obtain⟨v,r1,r2⟩:=J3 hE g2 h2 Nt;exact⟨hE.ds.trans h1,v,r1,Oh EE,Kh,L',g1.Yb h4,g2.Yb h4,r2,h5⟩
 cases ex with
 |normal=>exact ret g3 g4
 |ret=>exact ret g3 g4
 |panic ch=>obtain⟨h1,Kh,h4,h5⟩:=g4;exact⟨g3.trans h1,Kh,L',g1.Yb h4,g2.Yb h4,h5⟩
 |exit id=>exact g4.elim
 |goto id=>exact g4.elim
 |outgrown=>exact g4.elim
theorem rT{t:Nat}{v:LV}(hv:e.s t=v)(h:v.Sub lv):pn C n e H (.tmp t) lv:=λa w L hE _=>by have:=hE.zj t;rw[hv] at this;exact⟨_,rfl,h _ _ _ this⟩
class lr (P:Program) (t:TypeId):Prop where
 af:∃ d,P.underlying t=some d/\(match d with|.struct _|.array _ _=>False|_=>True)
 size:∃ i,P.info? t=some i/\i.size=1
def qx0(P:Program)(t:TypeId):Bool:=
 (match P.underlying t with|some (.struct _)|some (.array _ _)|none=>false|_=>true) && (match P.info? t with|some i=>i.size == 1|none=>false)
theorem lr.of(h:qx0 P t=true):lr P t:=by
 unfold qx0 at h;simp only[Ed] at h;obtain⟨h1,h2⟩:=h;refine⟨?_,?_⟩;cases hu:P.underlying t with
 |none=>rw[hu] at h1;simp at h1
 |some d=>rw[hu] at h1;refine⟨d,rfl,?_⟩;cases d <;> simp_all
 cases hi:P.info? t with
 |none=>rw[hi] at h2;simp at h2
 |some i=>rw[hi] at h2;exact⟨i,rfl,by simpa using h2⟩
class ep (P:Program) (t:TypeId) (k:outParam Nat):Prop where
 af:∃ d,P.underlying t=some d/\(match d with|.struct _|.array _ _=>True|_=>False)
 size:∃ i,P.info? t=some i/\i.size=k
def qx6(P:Program)(t k:Nat):Bool:=
 (match P.underlying t with|some (.struct _)|some (.array _ _)=>true|_=>false) && (match P.info? t with|some i=>i.size == k|none=>false)
theorem ep.of(h:qx6 P t k=true):ep P t k:=by
 unfold qx6 at h;simp only[Ed] at h;obtain⟨h1,h2⟩:=h;refine⟨?_,?_⟩;cases hu:P.underlying t with
 |none=>rw[hu] at h1;simp at h1
 |some d=>rw[hu] at h1;refine⟨d,rfl,?_⟩;cases d <;> simp_all
 cases hi:P.info? t with
 |none=>rw[hi] at h2;simp at h2
 |some i=>rw[hi] at h2;exact⟨i,rfl,by simpa using h2⟩
class Qa (P:Program) (t:TypeId) (e s:outParam Nat):Prop where
 af:P.underlying t=some (.slice e)
 size:∃ i,P.info? e=some i/\i.size=s
def qp5(P:Program)(t e s:Nat):Bool:=
 (match P.underlying t with|some (.slice e')=>e' == e|_=>false) && (match P.info? e with|some i=>i.size == s|none=>false)
theorem Qa.of{t e:Nat}(h:qp5 P t e s=true):Qa P t e s:=by
 unfold qp5 at h;simp only[Ed] at h;obtain⟨h1,h2⟩:=h;refine⟨?_,?_⟩;cases hu:P.underlying t with
 |none=>rw[hu] at h1;simp at h1
 |some d=>rw[hu] at h1;cases d <;> simp_all
 cases hi:P.info? e with
 |none=>rw[hi] at h2;simp at h2
 |some i=>rw[hi] at h2;exact⟨i,rfl,by simpa using h2⟩
class Fl (P:Program) (s f:Nat) (k:outParam Nat):Prop where
 out:∃ fs gz,P.underlying s=some (.struct fs)/\fs[f]? = some gz/\gz.offset=k/\∃ i,P.info? gz.type=some i/\i.size≠0
def qqq(P:Program)(s f k:Nat):Bool:=
 match P.underlying s with
 |some (.struct fs)=>(match fs[f]? with|some gz=>gz.offset == k && (match P.info? gz.type with|some i=>i.size != 0|none=>false)|none=>false)
 |_=>false
theorem Fl.of(h:qqq P s f k=true):Fl P s f k:=by
 unfold qqq at h;cases hu:P.underlying s with
 |none=>rw[hu] at h;simp at h
 |some d=>
  rw[hu] at h;cases d <;> simp only[Il] at h
  rename_i fs;cases hf:fs[f]? with
  |none=>rw[hf] at h;simp at h
  |some gz=>
   rw[hf] at h;simp only[Ed,beq_iff_eq] at h;cases hi:P.info? gz.type with
   |none=>rw[hi] at h;simp at h
   |some i=>rw[hi] at h;exact⟨fs,gz,hu,hf,h.1,i,hi,by simpa using h.2⟩
class cp (P:Program) (t:TypeId):Prop where
 af:P.underlying t=some .string
def qxX(P:Program)(t:Nat):Bool:=match P.underlying t with|some .string=>true|_=>false
theorem cp.of{t:Nat}(h:qxX P t=true):cp P t:=by
 unfold qxX at h;refine⟨?_⟩;cases hu:P.underlying t with
 |none=>rw[hu] at h;simp at h
 |some d=>rw[hu] at h;cases d <;> simp_all
class uj (P:Program) (t:TypeId) (k:outParam IntKind):Prop where
 af:P.underlying t=some (.int k)
def qu5(P:Program)(t:Nat)(k:IntKind):Bool:=match P.underlying t with|some (.int k')=>k' == k|_=>false
theorem uj.of{t:Nat}{k:IntKind}(h:qu5 P t k=true):uj P t k:=by
 unfold qu5 at h;refine⟨?_⟩;cases hu:P.underlying t with
 |none=>rw[hu] at h;simp at h
 |some d=>rw[hu] at h;cases d <;> simp_all
class Mi (P:Program) (t:TypeId) (zs:outParam (List Value)):Prop where
 out:∃ i v,P.info? t=some i/\i.zero=some v/\v.cells=zs.toArray/\i.size=zs.length
theorem Mi.of{zs:List Value}(h:(P.info? t).map (λi=>(i.zero,i.size))=some (some v,n))(hc:v.cells=zs.toArray)(hn:n=zs.length):Mi P t zs:=by
 cases hi:P.info? t with
 |none=>rw[hi] at h;cases h
 |some i=>rw[hi] at h;simp only[Option.map_some,Ym,Prod.mk.injEq] at h;exact⟨i,v,hi,h.1,hc,h.2.trans hn⟩
class Fm (P:Program) (t:TypeId) (pl:outParam (List (Nat×Nat))):Prop where
 out:∃ fs,P.underlying t=some (.struct fs)/\(fs.toList.map λf=>(f.offset,P.cellsOf f.type))=pl/\∀ f∈fs,(P.info? f.type).isSome
def qnf(P:Program)(t:Nat)(pl:List (Nat×Nat)):Bool:=
 match P.underlying t with
 |some (.struct fs)=>(fs.toList.map λf=>(f.offset,P.cellsOf f.type)) == pl && fs.toList.all λf=>(P.info? f.type).isSome
 |_=>false
theorem Fm.of{t:Nat}{pl:List (Nat×Nat)}(h:qnf P t pl=true):Fm P t pl:=by
 unfold qnf at h;cases hu:P.underlying t with
 |none=>rw[hu] at h;simp at h
 |some d=>
  rw[hu] at h;cases d <;> simp only[Il] at h
  rename_i fs;simp only[Ed,beq_iff_eq,List.all_eq_true] at h;exact⟨fs,hu,h.1,λf hf=>h.2 f (by simpa using hf)⟩
class ef (P:Program) (t:TypeId):Prop where
 out:∃ d,P.underlying t=some d/\(match d with|.interface _=>False|_=>True)
def qjP(P:Program)(t:Nat):Bool:=match P.underlying t with|some (.interface _)|none=>false|_=>true
theorem ef.of{t:Nat}(h:qjP P t=true):ef P t:=by
 unfold qjP at h;cases hu:P.underlying t with
 |none=>rw[hu] at h;simp at h
 |some d=>rw[hu] at h;exact⟨d,hu,by cases d <;> simp_all⟩
theorem Fe{d:TypeDesc}(h:P.underlying t=some d)(w:World):(underlying t).run P w=.ok d w:=by simp[underlying,program,Sem.run,h,bind,Sem.bind,Pure.pure]
theorem YW{i:TypeInfo}(h:P.info? t=some i)(w:World):(typeInfo t).run P w=.ok i w:=by simp[typeInfo,program,Sem.run,h,bind,Sem.bind,Pure.pure]
theorem MC{i:TypeInfo}(h:P.info? t=some i)(w:World):(sizeOf t).run P w=.ok i.size w:=by simp[sizeOf,YW h]
theorem lr.isAgg{P:Program}{t:TypeId} [h:lr P t](w:World):(isAgg t).run P w=.ok false w:=by obtain⟨d,hd,hm⟩:=h.af;simp only[Go.isAgg,Lc,Fe hd,jd];cases d <;> simp_all
theorem ep.isAgg{P:Program}{t k:Nat} [h:ep P t k](w:World):(isAgg t).run P w=.ok true w:=by obtain⟨d,hd,hm⟩:=h.af;simp only[Go.isAgg,Lc,Fe hd,jd];cases d <;> simp_all
theorem Ld:Fb w L (.atom v) v:=by simp only[Fb]
theorem uN(l:List UInt8):(ByteArray.mk l.toArray).size=l.length:=by simp[ByteArray.size]
section pure
variable{C:Ctx}{e:Env}{H:Heap}{dst:Option Nat}{ty:TypeId}{ra:String}{ua:Array Edge}{g:Option (Nat×Bool)}
theorem Pure.Xa(h:∀ (ρ:Operand->Value) w L,(∀ x,Fb w L (e.ev x) (ρ x))->∃ v,Fb w L lv v/\∀ w',(execOp ρ o).run C.P w'=.ok (.value v) w'):Pure C o e H lv:=
 λρ w L h1 _=>
  let ⟨v,h2,h3⟩:=h ρ w L h1
  ⟨v,h2,λw' _=>h3 w'⟩
theorem nc(h:∀ x,Fb w L (e.ev x) (ρ x))(hx:e.ev x=.atom v):ρ x=v:=by have:=h x;rw[hx] at this;simpa only[Fb] using this
theorem Pure.move{x:Operand}:Pure C ⟨dst,.move x,ty,ra,ua,g⟩ e H (e.ev x):=.Xa λρ _ _ h=>⟨ρ x,h x,λ_=>rfl⟩
theorem Pure.assign{x:Operand}:Pure C ⟨dst,.assign x,ty,ra,ua,g⟩ e H (e.ev x):=.Xa λρ _ _ h=>⟨ρ x,h x,λ_=>rfl⟩
theorem Pure.pick{c a b:Operand}{t:Bool}(hc:e.ev c=bool t):Pure C ⟨dst,.pick c a b,ty,ra,ua,g⟩ e H (if t then e.ev a else e.ev b):=.Xa λρ w L h=>by have h1:=nc h hc;refine⟨if t then ρ a else ρ b,by cases t <;> simp[h],λw'=>?_⟩;cases t <;> simp[execOp,h1,asBool]
theorem qG{op:BinOp}{xT yT:TypeId}{y:Operand}{k:IntKind}{a b:Int}(hx:ρ x=.int k a)(hy:ρ y=.int k b)(hs:op≠.shl)(hr:op≠.shr){s:Sem Value}
  (h:(binOp op xT (.int k a) (.int k b))=s) {v:Value} (hv:∀ w,s.run P w=.ok v w) (w:World):(execOp ρ ⟨dst,.binOp op xT x y yT,ty,ra,ua,g⟩).run P w=.ok (.value v) w:=by
 subst h;have he:eqGuard op xT x y (.int k a) (.int k b)=Pure.pure ():=by unfold eqGuard;cases op <;> rfl
 simp only[execOp,hx,hy,he,Lc,Xd,jd,hv]
variable{xT yT:TypeId}{x y:Operand}{k:IntKind}{a b:Int}
theorem Pure.CE(hx:e.ev x=int k a)(hy:e.ev y=int k b):Pure C ⟨dst,.binOp .add xT x y yT,ty,ra,ua,g⟩ e H (int k (k.wrap (a+b))):=
 .Xa λ_ _ _ h=>⟨_,Ld,qG (nc h hx) (nc h hy) (by simp) (by simp) (s:=Op.intArith .add k a b) (by simp only[binOp,ne_eq,not_true_eq_false,if_false]) λ_=>rfl⟩
theorem Pure.kC(hx:e.ev x=int k a)(hy:e.ev y=int k b):Pure C ⟨dst,.binOp .sub xT x y yT,ty,ra,ua,g⟩ e H (int k (k.wrap (a-b))):=
 .Xa λ_ _ _ h=>⟨_,Ld,qG (nc h hx) (nc h hy) (by simp) (by simp) (s:=Op.intArith .sub k a b) (by simp only[binOp,ne_eq,not_true_eq_false,if_false]) λ_=>rfl⟩
theorem Pure.xL(hx:e.ev x=int k a)(hy:e.ev y=int k b):Pure C ⟨dst,.binOp .mul xT x y yT,ty,ra,ua,g⟩ e H (int k (k.wrap (a * b))):=
 .Xa λ_ _ _ h=>⟨_,Ld,qG (nc h hx) (nc h hy) (by simp) (by simp) (s:=Op.intArith .mul k a b) (by simp only[binOp,ne_eq,not_true_eq_false,if_false]) λ_=>rfl⟩
theorem cA{n:Int}(h : -9223372036854775808<=n/\n<=9223372036854775807):IntKind.i64.wrap n=n:=by simp only[IntKind.wrap,IntKind.bits,IntKind.signed,Bool.true_and];split <;> rename_i h <;> simp at h <;> omega
theorem Pure.add(hx:e.ev x=int .i64 a)(hy:e.ev y=int .i64 b)(h : -9223372036854775808<=a+b/\a+b<=9223372036854775807):Pure C ⟨dst,.binOp .add xT x y yT,ty,ra,ua,g⟩ e H (int .i64 (a+b)):=by have:=Pure.CE (C:=C) (H:=H) (dst:=dst) (ty:=ty) (ra:=ra) (ua:=ua) (g:=g) (xT:=xT) (yT:=yT) hx hy;rwa [cA h] at this
theorem Pure.sub(hx:e.ev x=int .i64 a)(hy:e.ev y=int .i64 b)(h : -9223372036854775808<=a-b/\a-b<=9223372036854775807):Pure C ⟨dst,.binOp .sub xT x y yT,ty,ra,ua,g⟩ e H (int .i64 (a-b)):=by have:=Pure.kC (C:=C) (H:=H) (dst:=dst) (ty:=ty) (ra:=ra) (ua:=ua) (g:=g) (xT:=xT) (yT:=yT) hx hy;rwa [cA h] at this
theorem Pure.eql(hx:e.ev x=int k a)(hy:e.ev y=int k b):Pure C ⟨dst,.binOp .eql xT x y yT,ty,ra,ua,g⟩ e H (bool (decide (a=b))):=
 .Xa λ_ _ _ h=>⟨_,Ld,qG (nc h hx) (nc h hy) (by simp) (by simp) (s:=Op.intCmp .eql a b) (by simp only[binOp,ne_eq,not_true_eq_false,if_false]) λ_=>rfl⟩
theorem Pure.neq(hx:e.ev x=int k a)(hy:e.ev y=int k b):Pure C ⟨dst,.binOp .neq xT x y yT,ty,ra,ua,g⟩ e H (bool (!decide (a=b))):=
 .Xa λ_ _ _ h=>⟨_,Ld,qG (nc h hx) (nc h hy) (by simp) (by simp) (s:=Op.intCmp .neq a b) (by simp only[binOp,ne_eq,not_true_eq_false,if_false]) λ_=>rfl⟩
theorem Pure.lss(hx:e.ev x=int k a)(hy:e.ev y=int k b):Pure C ⟨dst,.binOp .lss xT x y yT,ty,ra,ua,g⟩ e H (bool (decide (a<b))):=
 .Xa λ_ _ _ h=>⟨_,Ld,qG (nc h hx) (nc h hy) (by simp) (by simp) (s:=Op.intCmp .lss a b) (by simp only[binOp,ne_eq,not_true_eq_false,if_false]) λ_=>rfl⟩
theorem Pure.leq(hx:e.ev x=int k a)(hy:e.ev y=int k b):Pure C ⟨dst,.binOp .leq xT x y yT,ty,ra,ua,g⟩ e H (bool (decide (a<=b))):=
 .Xa λ_ _ _ h=>⟨_,Ld,qG (nc h hx) (nc h hy) (by simp) (by simp) (s:=Op.intCmp .leq a b) (by simp only[binOp,ne_eq,not_true_eq_false,if_false]) λ_=>rfl⟩
theorem Pure.gtr(hx:e.ev x=int k a)(hy:e.ev y=int k b):Pure C ⟨dst,.binOp .gtr xT x y yT,ty,ra,ua,g⟩ e H (bool (decide (b<a))):=
 .Xa λ_ _ _ h=>⟨_,Ld,qG (nc h hx) (nc h hy) (by simp) (by simp) (s:=Op.intCmp .gtr a b) (by simp only[binOp,ne_eq,not_true_eq_false,if_false]) λ_=>rfl⟩
theorem Pure.geq(hx:e.ev x=int k a)(hy:e.ev y=int k b):Pure C ⟨dst,.binOp .geq xT x y yT,ty,ra,ua,g⟩ e H (bool (decide (b<=a))):=
 .Xa λ_ _ _ h=>⟨_,Ld,qG (nc h hx) (nc h hy) (by simp) (by simp) (s:=Op.intCmp .geq a b) (by simp only[binOp,ne_eq,not_true_eq_false,if_false]) λ_=>rfl⟩
theorem Pure.not{t:Bool}(hx:e.ev x=bool t):Pure C ⟨dst,.unOp .not xT x,ty,ra,ua,g⟩ e H (bool (!t)):=
 .Xa λρ _ _ h=>⟨_,Ld,λw'=>by simp only[execOp,nc h hx,Op.unary];rfl⟩
theorem Xs(ρ:Operand->Value)(b:Builtin)(xs:Array Operand)(nh:Array TypeId) :
  execOp ρ ⟨dst,.call { callee:=.builtin b,args:=xs,argTypes:=nh },ty,ra,ua,g⟩=builtin b nh ty (xs.map fun|.const _=>true|_=>false) (xs.map ρ):=rfl
theorem SW(nh:Array TypeId)(cs:Array Bool)(args:Array Value):builtin .len nh ty cs args=(do Pure.pure (.value (<-Builtin.len_ nh ty args))):=rfl
theorem iZ{op:BinOp}{xT yT:TypeId}{y:Operand}{a b:ByteArray}(hx:ρ x=.string a)(hy:ρ y=.string b)
  {v:Value} (hv:∀ w,(Op.stringOp op a b).run P w=.ok v w) (w:World):(execOp ρ ⟨dst,.binOp op xT x y yT,ty,ra,ua,g⟩).run P w=.ok (.value v) w:=by
 have he:eqGuard op xT x y (.string a) (.string b)=Pure.pure ():=by unfold eqGuard;cases op <;> rfl
 have hb:binOp op xT (.string a) (.string b)=Op.stringOp op a b:=by cases op <;> rfl
 simp only[execOp,hx,hy,he,hb,Lc,Xd,jd,hv]
variable{l m:List UInt8}
theorem Pure.seq(hx:e.ev x=str l)(hy:e.ev y=str m):Pure C ⟨dst,.binOp .eql xT x y yT,ty,ra,ua,g⟩ e H (bool (decide (l=m))):=
 .Xa λ_ _ _ h=>⟨_,Ld,iZ (nc h hx) (nc h hy) λw=>by
  simp only[Op.stringOp,ByteArray.toList_mk,Xd];congr 2;rw[Bool.eq_iff_iff];simp⟩
theorem Pure.TF(hx:e.ev x=str l)(hy:e.ev y=str m):Pure C ⟨dst,.binOp .neq xT x y yT,ty,ra,ua,g⟩ e H (bool (!decide (l=m))):=
 .Xa λ_ _ _ h=>⟨_,Ld,iZ (nc h hx) (nc h hy) λw=>by
  simp only[Op.stringOp,ByteArray.toList_mk,Xd];congr 3;rw[Bool.eq_iff_iff];simp⟩
theorem qs2(l m:List UInt8):(ByteArray.mk l.toArray++ByteArray.mk m.toArray)=ByteArray.mk (l++m).toArray:=by apply ByteArray.ext;simp
theorem Pure.Gz(hx:e.ev x=str l)(hy:e.ev y=str m)(hl:l.length+m.length<=9223372036854775807):Pure C ⟨dst,.binOp .add xT x y yT,ty,ra,ua,g⟩ e H (str (l++m)):=
 .Xa λ_ _ _ h=>⟨_,Ld,iZ (nc h hx) (nc h hy) λw=>by
  have h1:¬ ((((ByteArray.mk l.toArray).size+(ByteArray.mk m.toArray).size:Nat):Int) > IntKind.i64.max):=by rw[uN,uN];simp only[IntKind.max,IntKind.signed,IntKind.bits];omega
  simp only[Op.stringOp,zn h1,Xd,qs2]⟩
theorem pI{n:Int}{c:UInt8} [cp C.P xT](hx:e.ev x=str l)(hy:e.ev y=int k n)(h0:0<=n)(hc:l[n.toNat]? = some c):Pure C ⟨dst,.index xT x y,ty,ra,ua,g⟩ e H (int .u8 c.toNat):=
 .Xa λρ _ _ h=>⟨_,Ld,λw'=>by
  have hu:=Fe (P:=C.P) (cp.af (t:=xT)) w';have hg:(ByteArray.mk l.toArray)[n.toNat]? = some c:=by
   have Ka:n.toNat<l.length:=(List.getElem?_eq_some_iff.1 hc).1;have ae:n.toNat<(ByteArray.mk l.toArray).size:=by simp[ByteArray.size];exact Ka
   have:=(List.getElem?_eq_some_iff.1 hc).2;rw[getElem?_pos (ByteArray.mk l.toArray) n.toNat ae];exact congrArg some this
  simp only[execOp,nc h hx,nc h hy,Instr.index,asIntOf,Lc,Xd,jd,hu,zp h0,hg]⟩
theorem Pure.fK(hx:e.ev x=str l) [cp C.P xT]:Pure C ⟨dst,.call { callee:=.builtin .len,args:=#[x],argTypes:=#[xT] },ty,ra,ua,g⟩ e H (int .i64 l.length):=
 .Xa λρ _ _ h=>⟨_,Ld,λw'=>by
  have hu:=Fe (P:=C.P) (cp.af (t:=xT)) w';rw[Xs,SW];simp[Builtin.len_,hu,goInt,nc h hx];rw[uN]⟩
end pure
theorem Pg(b off i:Nat):(Addr.mk b off none).add i=⟨b,off+i,none⟩:=by unfold Addr.add;split;rename_i h;subst h;rfl;rfl
theorem Tb.get{w:World}{L:Live}{b:Nat}:∀ {off:Nat} {cs:List LV},Tb w L b off cs->∀ {i:Nat} {c:LV},cs[i]? = some c->off+i<L b/\∃ x,w.cell? ⟨b,off+i,none⟩=some x/\Fb w L c x
 |_,[],_,i,c,hc=>by simp at hc
 |off,c::cs,h,i,c',hc=>by
  simp only[Tb] at h;obtain⟨h1,⟨x,h2,h3⟩,h4⟩:=h;cases i with
  |zero=>simp at hc;subst hc;exact⟨h1,x,h2,h3⟩
  |succ i=>have:=Tb.get h4 (i:=i) (by simpa using hc);rwa [show off+1+i=off+(i+1) by omega] at this
theorem Tb.drop{w:World}{L:Live}{b:Nat}:∀ {off:Nat} {cs:List LV} (n:Nat),Tb w L b off cs->Tb w L b (off+n) (cs.drop n)
 |_,cs,0,h=>by simpa using h
 |_,[],n+1,_=>by simp[Tb]
 |off,c::cs,n+1,h=>by simp only[Tb] at h;have:=Tb.drop n h.2.2;rwa [show off+1+n=off+(n+1) by omega] at this
theorem Zc.cell{e:LV}(h:Zc w L b k off (e::es)):e.cells.length=k/\Tb w L b off e.cells:=by
 cases e <;> simp only[Zc] at h <;> first
  |exact h.1
  |(obtain⟨⟨r1,r2,r3⟩,_⟩:=h;exact⟨r1,by simp only[LV.cells,Tb];exact⟨r2,r3,trivial⟩⟩)
theorem Zc.tail{e:LV}(h:Zc w L b k off (e::es)):Zc w L b k (off+k) es:=by cases e <;> simp only[Zc] at h <;> exact h.2
theorem Zc.cons{e:LV}(h1:e.cells.length=k)(h2:Tb w L b off e.cells)(h3:Zc w L b k (off+k) es):Zc w L b k off (e::es):=by
 cases e <;> simp only[Zc] <;> refine⟨?_,h3⟩ <;> first
  |exact⟨h1,h2⟩
  |(simp only[LV.cells,Tb] at h1 h2;exact⟨h1,h2.1,h2.2.1⟩)
theorem Zc.get{w:World}{L:Live}{b k:Nat}:∀ {off:Nat} {es:List LV},Zc w L b k off es->∀ {i:Nat} {e:LV},es[i]? = some e->e.cells.length=k/\Tb w L b (off+i * k) e.cells
 |_,[],_,i,c,hc=>by simp at hc
 |off,e::es,h,i,e',hc=>by
  cases i with
  |zero=>simp at hc;subst hc;simpa using h.cell
  |succ i=>have:=Zc.get h.tail (i:=i) (by simpa using hc);rwa [show off+k+i * k=off+(i+1) * k by rw[Nat.add_mul];omega] at this
theorem Zc.drop{w:World}{L:Live}{b k:Nat}:∀ {off:Nat} {es:List LV} (n:Nat),Zc w L b k off es->Zc w L b k (off+n * k) (es.drop n)
 |_,es,0,h=>by simpa using h
 |_,[],n+1,_=>by simp[Zc]
 |off,c::cs,n+1,h=>by have:=Zc.drop n h.tail;rwa [show off+k+n * k=off+(n+1) * k by rw[Nat.add_mul];omega] at this
theorem Zc.take{w:World}{L:Live}{b k:Nat}:∀ {off:Nat} {es:List LV} (n:Nat),Zc w L b k off es->Zc w L b k off (es.take n)
 |_,es,0,_=>by simp[Zc]
 |_,[],n+1,_=>by simp[Zc]
 |off,c::cs,n+1,h=>.cons h.cell.1 h.cell.2 (Zc.take n h.tail)
theorem kO{P:Program}{w:World}{b off:Nat}:∀ (n i:Nat) (acc:Array Value) (xs:List Value),xs.length=n->(∀ j x,xs[j]? = some x->w.cell? ⟨b,off+i+j,none⟩=some x) ->
  (loadCellsFrom ⟨b,off,none⟩ i n acc).run P w=.ok (acc++xs.toArray) w
 |0,i,acc,xs,hl,_=>by have:xs=[]:=List.eq_nil_of_length_eq_zero hl;subst this;simp[loadCellsFrom]
 |n+1,i,acc,[],hl,_=>by simp at hl
 |n+1,i,acc,x::xs,hl,h=>by
  have h0:=h 0 x rfl;have ih:=kO (P:=P) (w:=w) (b:=b) (off:=off) n (i+1) (acc.push x) xs (by simpa using hl) (λj y hy=>by
   have:=h (j+1) y (by simpa using hy);rwa [show off+i+(j+1)=off+(i+1)+j by omega] at this)
  simp only[loadCellsFrom,Lc,run_load,Pg];rw[show off+i=off+i+0 by omega,h0];simp only[jd];rw[ih];simp
theorem Tb.values{w:World}{L:Live}{b:Nat}:∀ {off:Nat} {cs:List LV},Tb w L b off cs->∃ xs:List Value,oa w L cs xs/\∀ j x,xs[j]? = some x->off+j<L b/\w.cell? ⟨b,off+j,none⟩=some x
 |_,[],_=>⟨[],by simp only[oa],by simp⟩
 |off,c::cs,h=>by
  simp only[Tb] at h;obtain⟨h1,⟨x,h2,h3⟩,h4⟩:=h;obtain⟨xs,h5,h6⟩:=Tb.values h4;refine⟨x::xs,by simp only[oa];exact⟨x,xs,rfl,h3,h5⟩,λj y hy=>?_⟩
  cases j with
  |zero=>simp at hy;subst hy;exact⟨h1,h2⟩
  |succ j=>have:=h6 j y (by simpa using hy);rwa [show off+1+j=off+(j+1) by omega] at this
theorem Tb.take{w:World}{L:Live}{b:Nat}:∀ {off:Nat} {cs:List LV} (n:Nat),Tb w L b off cs->Tb w L b off (cs.take n)
 |_,cs,0,_=>by simp[Tb]
 |_,[],n+1,_=>by simp[Tb]
 |off,c::cs,n+1,h=>by simp only[Tb,List.take_succ_cons] at h ⊢;exact⟨h.1,h.2.1,Tb.take n h.2.2⟩
theorem D4 [lr P t]{a:Addr}{x:Value}(h:w.cell? a=some x):(loadVar t a).run P w=.ok x w:=by simp[loadVar,lr.isAgg,h]
theorem Z3{t:Nat} [ht:ep P t k]{xs:List Value}(hl:xs.length=k)(h:∀ j x,xs[j]? = some x->w.cell? ⟨b,off+j,none⟩=some x) :
  (loadVar t ⟨b,off,none⟩).run P w=.ok (.agg xs.toArray) w:=by
 obtain⟨i,hi,hk⟩:=ht.size;have:=kO (P:=P) (w:=w) (b:=b) (off:=off) k 0 #[] xs hl (by simpa using h);simp only[loadVar,Lc,ep.isAgg,jd,if_true,MC hi,hk,loadCells,this];simp
section reading
variable{C:Ctx}{e:Env}{H:Heap}{dst:Option Nat}{ty:TypeId}{ra:String}{ua:Array Edge}{g:Option (Nat×Bool)}{x y:Operand}{xT:TypeId}{k:IntKind}
theorem pO [lr C.P t]{c:LV}(hx:e.ev x=.ref cs)(hc:cs[0]? = some c):Pure C ⟨dst,.load t x,ty,ra,ua,g⟩ e H c:=λρ w L h _=>by
 have hv:=h x;rw[hx] at hv;simp only[Fb] at hv;obtain⟨b,off,hv,hr⟩:=hv;obtain⟨h1,v,h2,h3⟩:=hr.get hc;refine⟨v,h3,λw' ha=>?_⟩;have RB:w'.cell? ⟨b,off,none⟩=some v:=by rw[ha.2 b off h1];exact h2
 have h0:execOp ρ ⟨dst,.load t x,ty,ra,ua,g⟩=(do Pure.pure (.value (<-Instr.loadAt t (ρ x)))):=rfl;rw[h0,hv];simp[Instr.loadAt,Instr.sureAddr,D4 RB]
theorem Pure.Zw{t:Nat} [ep C.P t n](hx:e.ev x=.ref cs)(hn:n<=cs.length):Pure C ⟨dst,.load t x,ty,ra,ua,g⟩ e H (.agg (cs.take n)):=λρ w L h _=>by
 have hv:=h x;rw[hx] at hv;simp only[Fb] at hv;obtain⟨b,off,hv,hr⟩:=hv;obtain⟨xs,h1,h2⟩:=(hr.take n).values;refine⟨.agg xs.toArray,by simp only[Fb];exact⟨xs,rfl,h1⟩,λw' ha=>?_⟩;have h0:execOp ρ ⟨dst,.load t x,ty,ra,ua,g⟩=(do Pure.pure (.value (<-Instr.loadAt t (ρ x)))):=rfl;rw[h0,hv];have ma:xs.length=n:=by rw[h1.length];simp;omega
 simp[Instr.loadAt,Instr.sureAddr,Z3 (t:=t) ma (λj y hy=>by rw[ha.2 b _ (h2 j y hy).1];exact(h2 j y hy).2)]
theorem Ta.cells{w:World}{L:Live}{b Aq:Nat}{cs:List LV}(h:Ta C w L H)(hm:(b,ja.cells Aq cs)∈H):∃ xs:List Value,w.heap[b]? = some (.cells xs.toArray Aq (0,0))/\oa w L cs xs:=
 (h.Bc _ hm).2.2.2
theorem pL [lr C.P t]{Aq:Nat}{c:LV}(hx:e.ev x=ptr b off)(hm:(b,ja.cells Aq cs)∈H)(hc:cs[off]? = some c) :
  Pure C ⟨dst,.load t x,ty,ra,ua,g⟩ e H c:=λρ w L h hH=>by
 obtain⟨xs,h1,h2⟩:=hH.cells hm;obtain⟨v,h3,h4⟩:=h2.get hc;refine⟨v,h4,λw' ha=>?_⟩;have hb:w'.heap[b]? = some (.cells xs.toArray Aq (0,0)):=(ha.1 _ hm).trans h1;have Xo:w'.cell? ⟨b,off,none⟩=some v:=by simp[World.cell?,hb,h3]
 have h0:execOp ρ ⟨dst,.load t x,ty,ra,ua,g⟩=(do Pure.pure (.value (<-Instr.loadAt t (ρ x)))):=rfl;rw[h0,nc h hx];simp[Instr.loadAt,Instr.sureAddr,D4 Xo]
theorem oa.drop{w:World}{L:Live}:∀ (n:Nat) {cs:List LV} {xs:List Value},oa w L cs xs->oa w L (cs.drop n) (xs.drop n)
 |0,_,_,h=>by simpa using h
 |n+1,[],xs,h=>by simp only[oa] at h;subst h;simp[oa]
 |n+1,c::cs,xs,h=>by simp only[oa] at h;obtain⟨y,ys,rfl,_,h⟩:=h;simpa using oa.drop n h
theorem oa.take{w:World}{L:Live}:∀ (n:Nat) {cs:List LV} {xs:List Value},oa w L cs xs->oa w L (cs.take n) (xs.take n)
 |0,_,_,_=>by simp[oa]
 |n+1,[],xs,h=>by simp only[oa] at h;subst h;simp[oa]
 |n+1,c::cs,xs,h=>by simp only[oa] at h;obtain⟨y,ys,rfl,h1,h⟩:=h;simp only[List.take_succ_cons,oa];exact⟨y,_,rfl,h1,oa.take n h⟩
theorem Pure.fD{t:Nat} [ep C.P t n]{Aq:Nat}(hx:e.ev x=ptr b off)(hm:(b,ja.cells Aq cs)∈H)(hn:off+n<=cs.length) :
  Pure C ⟨dst,.load t x,ty,ra,ua,g⟩ e H (.agg ((cs.drop off).take n)):=λρ w L h hH=>by
 obtain⟨xs,h1,h2⟩:=hH.cells hm;have hl:=h2.length;refine⟨.agg ((xs.drop off).take n).toArray,by simp only[Fb];exact⟨_,rfl,(h2.drop off).take n⟩,λw' ha=>?_⟩;have hb:w'.heap[b]? = some (.cells xs.toArray Aq (0,0)):=(ha.1 _ hm).trans h1;have h0:execOp ρ ⟨dst,.load t x,ty,ra,ua,g⟩=(do Pure.pure (.value (<-Instr.loadAt t (ρ x)))):=rfl;rw[h0,nc h hx];have ma:((xs.drop off).take n).length=n:=by simp;omega
 simp[Instr.loadAt,Instr.sureAddr,Z3 (t:=t) (w:=w') (b:=b) (off:=off) ma (λj y hy=>by
  rw[List.getElem?_take] at hy;split at hy;simpa [World.cell?,hb,List.getElem?_drop] using hy;cases hy)]
theorem qkS{gz:Field}{i:TypeInfo}(hi:P.info? gz.type=some i)(h0:i.size≠0)(b off:Nat)(w:World):(fieldPlace ⟨b,off,none⟩ gz).run P w=.ok ⟨b,off+gz.offset,none⟩ w:=by simp[fieldPlace,MC hi,h0,Pg]
theorem qkp [hf:Fl P s f n](b off:Nat)(w:World):(Instr.fieldAt s (.pointer (some ⟨b,off,none⟩)) f).run P w=.ok (.pointer (some ⟨b,off+n,none⟩)) w:=by obtain⟨fs,gz,hu,hg,rfl,i,hi,h0⟩:=hf.out;simp[Instr.fieldAt,Fe hu,hg,Instr.sureAddr,qkS hi h0]
theorem pF [Fl C.P s f n](hx:e.ev x=ptr b off):Pure C ⟨dst,.fieldAddr s x f,ty,ra,ua,g⟩ e H (ptr b (off+n)):=
 .Xa λρ _ _ h=>⟨_,Ld,λw'=>by
  have h0:execOp ρ ⟨dst,.fieldAddr s x f,ty,ra,ua,g⟩=(do Pure.pure (.value (<-Instr.fieldAt s (ρ x) f))):=rfl;rw[h0,nc h hx];simp[qkp]⟩
theorem Pure.dE [Fl C.P s f n](hx:e.ev x=.ref cs):Pure C ⟨dst,.fieldAddr s x f,ty,ra,ua,g⟩ e H (.ref (cs.drop n)):=
 .Xa λρ w L h=>by have hv:=h x;rw[hx] at hv;simp only[Fb] at hv;obtain⟨b,off,hv,hr⟩:=hv;refine⟨.pointer (some ⟨b,off+n,none⟩),by simp only[Fb];exact⟨b,off+n,rfl,hr.drop n⟩,λw'=>?_⟩;have h0:execOp ρ ⟨dst,.fieldAddr s x f,ty,ra,ua,g⟩=(do Pure.pure (.value (<-Instr.fieldAt s (ρ x) f))):=rfl;rw[h0,hv];simp[qkp]
def elems:LV->Option (List LV)
 |.list es=>some es
 |.app _ _ _ es=>some es
 |.atom (.slice none 0 0)=>some []
 |_=>none
theorem Fb.elems{w:World}{L:Live}:∀ {lv:LV} {v:Value} {es:List LV},Fb w L lv v->GL.elems lv=some es ->
  ∃ a cap,v=.slice a es.length cap/\es.length<=cap/\(es≠[]->∃ b off k,a=some ⟨b,off,none⟩/\Zc w L b k off es)
 |.list es,v,Am,h,he=>by simp only[GL.elems,Ym] at he;subst he;simpa only[Fb] using h
 |.app b cap k es,v,Am,h,he=>by simp only[GL.elems,Ym] at he;subst he;simp only[Fb] at h;obtain⟨rfl,hl,h,_⟩:=h;exact⟨_,_,rfl,hl,λ_=>⟨b,0,k,rfl,h⟩⟩
 |.atom u,v,es,h,he=>by simp only[Fb] at h;subst h;unfold GL.elems at he;split at he <;> simp_all
 |.agg _,_,_,_,he=>by simp[GL.elems] at he
 |.tuple _,_,_,_,he=>by simp[GL.elems] at he
 |.ref _,_,_,_,he=>by simp[GL.elems] at he
theorem Pure.Ro{t el:Nat} [Qa C.P t el s](hx:elems (e.ev x)=some es):Pure C ⟨dst,.call { callee:=.builtin .len,args:=#[x],argTypes:=#[t] },ty,ra,ua,g⟩ e H (int .i64 es.length):=
 .Xa λρ _ _ h=>⟨_,Ld,λw'=>by
  obtain⟨a,cap,hv,_⟩:=(h x).elems hx;have hu:=Fe (P:=C.P) (Qa.af (t:=t)) w';rw[Xs,SW];simp[Builtin.len_,hu,goInt,hv]⟩
theorem Pure.indexAddr{t el s:Nat} [ht:Qa C.P t el s]{es:List LV}{n:Int}{Ud:LV}(hx:elems (e.ev x)=some es)(hy:e.ev y=int k n)(h0:0<=n)(hn:es[n.toNat]? = some Ud)(hs:Ud.cells.length=s) :
  Pure C ⟨dst,.indexAddr t x y,ty,ra,ua,g⟩ e H (.ref Ud.cells):=.Xa λρ w L h=>by
 obtain⟨a,cap,hv,ri,hr⟩:=(h x).elems hx;have Ka:n.toNat<es.length:=(List.getElem?_eq_some_iff.1 hn).1;obtain⟨b,off,k',rfl,mH⟩:=hr (by intro h;subst h;simp at Ka);obtain⟨h1,h2⟩:=mH.get hn;obtain⟨i,hi,ae⟩:=ht.size;refine⟨.pointer (some ⟨b,off+n.toNat * k',none⟩),by simp only[Fb];exact⟨b,_,rfl,h2⟩,λw'=>?_⟩;have h3:execOp ρ ⟨dst,.indexAddr t x y,ty,ra,ua,g⟩=(do Pure.pure (.value (<-Instr.indexAt t (ρ x) (ρ y)))):=rfl;rw[h3,hv,nc h hy];have hk:k'=i.size:=by omega
 have hc:0<=n/\n<(es.length:Int):=⟨h0,by omega⟩;simp[Instr.indexAt,asIntOf,Fe ht.af,hc,MC hi,Pg,hk]
def tG(e:Env)(o:Option Operand)(O8 n:Int):Prop:=
 match o with
 |some x=>∃ k,e.ev x=int k n
 |none=>n=O8
theorem U4(h:∀ x,Fb w L (e.ev x) (ρ x)){j:Int}{len cap:Nat}(sl:Bool)
  (Dt:tG e lo 0 i) (LD:tG e hi len j) (h0:0<=i) (h1:i<=j) (h2:j<=cap) :
  (Instr.sliceBounds sl len cap (lo.map ρ) (hi.map ρ) none).run P w'=.ok (i.toNat,j.toNat,cap) w':=by
 have hj:0<=j:=by omega
 have hm:i<=max j 0:=by omega
 cases lo <;> cases hi <;> simp only[tG] at Dt LD;subst Dt LD;simp[Instr.sliceBounds];obtain⟨k2,fi⟩:=LD;subst Dt;simp[Instr.sliceBounds,Instr.sliceBound,nc h fi,asIntOf,hj,h2];obtain⟨k1,ju⟩:=Dt;subst LD;simp[Instr.sliceBounds,Instr.sliceBound,nc h ju,asIntOf,h0,h1];obtain⟨k1,ju⟩:=Dt;obtain⟨k2,fi⟩:=LD;simp[Instr.sliceBounds,Instr.sliceBound,nc h ju,nc h fi,asIntOf,h0,hj,h2,hm]
theorem qr7(l:List UInt8)(i j:Nat):(ByteArray.mk l.toArray).extract i j=ByteArray.mk ((l.take j).drop i).toArray:=by apply ByteArray.ext;simp[List.extract_eq_take_drop,List.drop_take]
theorem Pure.kl{l:List UInt8}{j:Int} [hT:cp C.P xT](hx:e.ev x=str l)
  (Dt:tG e lo 0 i) (LD:tG e hi l.length j) (h0:0<=i) (h1:i<=j) (h2:j<=l.length) :
  Pure C ⟨dst,.slice xT x lo hi none,ty,ra,ua,g⟩ e H (str ((l.take j.toNat).drop i.toNat)):=.Xa λρ w L h=>by
 refine⟨_,Ld,λw'=>?_⟩;have h3:execOp ρ ⟨dst,.slice xT x lo hi none,ty,ra,ua,g⟩=(do Pure.pure (.value (<-Instr.sliceAt xT (ρ x) (lo.map ρ) (hi.map ρ) none))):=rfl;rw[h3,nc h hx]
 simp only[Instr.sliceAt,Instr.slice,Lc,Fe (P:=C.P) hT.af w',jd,Option.isSome_none,Il,if_false,Xd,uN,
  U4 h false Dt LD h0 h1 h2,qr7]
theorem Pure.ft{t el:Nat}{es:List LV}{j:Int} [ht:Qa C.P t el s](hx:elems (e.ev x)=some es)
  (Dt:tG e lo 0 i) (LD:tG e hi es.length j) (h0:0<=i) (h1:i<=j) (h2:j<=es.length) (hs:∀ v∈es,v.cells.length=s) :
  Pure C ⟨dst,.slice t x lo hi none,ty,ra,ua,g⟩ e H (.list ((es.take j.toNat).drop i.toNat)):=.Xa λρ w L h=>by
 obtain⟨a,cap,hv,ri,hr⟩:=(h x).elems hx;obtain⟨ti,A6,ae⟩:=ht.size;have hb:=λw'=>U4 (P:=C.P) (w':=w') (cap:=cap) h true Dt LD h0 h1 ga;have h3:execOp ρ ⟨dst,.slice t x lo hi none,ty,ra,ua,g⟩=(do Pure.pure (.value (<-Instr.sliceAt t (ρ x) (lo.map ρ) (hi.map ρ) none))):=rfl;have ma:((es.take j.toNat).drop i.toNat).length=j.toNat-i.toNat:=by simp;omega
 refine⟨.slice (if cap=i.toNat then a else a.map (·.add (i.toNat * s))) (j.toNat-i.toNat) (cap-i.toNat),?_,λw'=>?_⟩;simp only[Fb];refine⟨_,cap-i.toNat,by rw[ma],by omega,λxb=>?_⟩;have tH:es≠[]:=by intro h;subst h;simp at xb
 obtain⟨b,off,k,rfl,mH⟩:=hr tH;have Ka:i.toNat<j.toNat:=by rcases Nat.lt_or_ge i.toNat j.toNat with hh|hh;exact hh;exact absurd (List.eq_nil_of_length_eq_zero ga) xb
 have hk:k=s:=by obtain⟨e0,rest,he⟩:=List.exists_cons_of_ne_nil tH;subst he;exact mH.cell.1.symm.trans (hs e0 (by simp))
 subst hk;refine⟨b,off+i.toNat * k,k,?_,(mH.take j.toNat).drop i.toNat⟩;rw[zn (by omega)];simp[Pg];rw[h3,hv];simp only[Instr.sliceAt,Instr.slice,Lc,Fe (P:=C.P) ht.af w',jd,Xd,hb,MC A6,ae]
theorem Pure.extract{vs:List LV}{i:Nat}{c:LV}(hx:e.ev x=.tuple vs)(hc:vs[i]? = some c):Pure C ⟨dst,.extract x i,ty,ra,ua,g⟩ e H c:=.Xa λρ w L h=>by have hv:=h x;rw[hx] at hv;simp only[Fb] at hv;obtain⟨xs,hv,hr⟩:=hv;obtain⟨v,h1,h2⟩:=hr.get hc;refine⟨v,h2,λw'=>?_⟩;have h3:execOp ρ ⟨dst,.extract x i,ty,ra,ua,g⟩=(do Pure.pure (.value (<-Instr.extract (ρ x) i))):=rfl;rw[h3,hv];simp[Instr.extract,h1]
theorem pN(hx:e.ev x=ptr b off):Pure C ⟨dst,.nilCheck x,ty,ra,ua,g⟩ e H (ptr b off):=.Xa λρ _ _ h=>⟨_,Ld,λw'=>by
 simp[execOp,nc h hx]⟩
theorem Pure.I5{a b:Int}(hx:e.ev x=int k a)(hy:e.ev y=int k b){u:TypeId}:Pure C ⟨dst,.call { callee:=.builtin .min,args:=#[x,y],argTypes:=#[t,u] },ty,ra,ua,g⟩ e H (int k (if b<a then b else a)):=
 .Xa λρ _ _ h=>⟨_,Ld,λw'=>by
  have h0:∀ (cs:Array Bool) (args:Array Value),builtin .min #[t,u] ty cs args=(do Pure.pure (.value (<-Builtin.min_ #[t,u] ty args))):=λ_ _=>rfl;rw[Xs,h0]
  simp[Builtin.min_,Builtin.min2,nc h hx,nc h hy]⟩
theorem Pure.KH{k':IntKind}{s d:TypeId}{n:Int}(hs:∃ ds,C.P.underlying s=some ds) [hd:uj C.P d k'](hx:e.ev x=int k n):Pure C ⟨dst,.convert s d x,ty,ra,ua,g⟩ e H (int k' (k'.wrap n)):=
 .Xa λρ _ _ h=>⟨_,Ld,λw'=>by
  obtain⟨ds,hs⟩:=hs;have h3:execOp ρ ⟨dst,.convert s d x,ty,ra,ua,g⟩=(do Pure.pure (.value (<-convert s d (ρ x)))):=rfl;rw[h3,nc h hx];simp[convert,Fe hs,Fe hd.af,Conv.intToInt]⟩
theorem oa.atoms{w:World}{L:Live}:∀ {vs xs:List Value},oa w L (vs.map .atom) xs->xs=vs
 |[],xs,h=>by simpa [oa] using h
 |v::vs,xs,h=>by simp only[yd,oa,Fb] at h;obtain⟨y,ys,rfl,rfl,h⟩:=h;rw[oa.atoms h]
theorem Pure.Ji [ht:ef C.P t]{vs:List Value}(hx:e.ev x=.agg (vs.map .atom)):Pure C ⟨dst,.makeInterface t x,ty,ra,ua,g⟩ e H (.atom (.iface t (.agg vs.toArray))):=
 .Xa λρ w L h=>⟨_,Ld,λw'=>by
  obtain⟨d,hd,hm⟩:=ht.out;have hv:=h x;rw[hx] at hv;simp only[Fb] at hv;obtain⟨xs,hv,hr⟩:=hv;rw[hr.atoms] at hv;have h3:execOp ρ ⟨dst,.makeInterface t x,ty,ra,ua,g⟩=(do Pure.pure (.value (<-Instr.makeInterface t (ρ x)))):=rfl;rw[h3,hv];simp only[Instr.makeInterface,Lc,Fe hd,jd];cases d <;> simp_all⟩
def lN(e:Env):List Operand->Option (List Value)
 |[]=>some []
 |x::xs=>match e.ev x,lN e xs with
  |.atom v,some vs=>some (v::vs)
  |_,_=>none
theorem K4{ρ:Operand->Value}{w:World}{L:Live}(h:∀ x,Fb w L (e.ev x) (ρ x)):∀ {xs:List Operand} {vs:List Value},lN e xs=some vs->xs.map ρ=vs
 |[],vs,hv=>by simpa [lN] using hv
 |x::xs,vs,hv=>by simp only[lN] at hv;split at hv;rename_i v EE h1 h2;simp only[Ym] at hv;subst hv;rw[yd,nc h h1,K4 h h2];cases hv
theorem Pure.makeFunc{fn:Fn}{first captured:List Operand}{fs cs:List Value}(h1:lN e first=some fs)(h2:lN e captured=some cs) :
  Pure C ⟨dst,.makeFunc fn first.toArray captured.toArray,ty,ra,ua,g⟩ e H (.atom (.func fn fs.toArray cs.toArray)):=.Xa λρ _ _ h=>⟨_,Ld,λw'=>by
 have h3:execOp ρ ⟨dst,.makeFunc fn first.toArray captured.toArray,ty,ra,ua,g⟩=(do Pure.pure (.value (<-Instr.makeFunc fn (first.toArray.map ρ) (captured.toArray.map ρ)))):=rfl;rw[h3];simp[Instr.makeFunc,K4 h h1,K4 h h2]⟩
def LV.cells? : LV->Option (List LV)
 |.agg cs=>some cs
 |.atom (.agg _)=>none
 |v=>some [v]
theorem Fb.cells{w:World}{L:Live}:∀ {lv:LV} {v:Value} {cs:List LV},Fb w L lv v->lv.cells? = some cs->oa w L cs v.cells.toList
 |.agg cs,v,Zb,h,hc=>by simp only[LV.cells?,Ym] at hc;subst hc;simp only[Fb] at h;obtain⟨xs,rfl,h⟩:=h;simpa [Value.cells] using h
 |.atom u,v,cs,h,hc=>by simp only[Fb] at h;subst h;cases v <;> simp only[LV.cells?,Ym,reduceCtorEq] at hc <;> subst hc <;> simp[Value.cells,oa,Fb]
 |.list es,v,cs,h,hc=>by simp only[LV.cells?,Ym] at hc;subst hc;have h':=h;simp only[Fb] at h;obtain⟨a,cap,rfl,_⟩:=h;simpa [Value.cells,oa] using h'
 |.app b cap k es,v,cs,h,hc=>by simp only[LV.cells?,Ym] at hc;subst hc;have h':=h;simp only[Fb] at h;obtain⟨rfl,_⟩:=h;simpa [Value.cells,oa] using h'
 |.tuple vs,v,cs,h,hc=>by simp only[LV.cells?,Ym] at hc;subst hc;have h':=h;simp only[Fb] at h;obtain⟨xs,rfl,_⟩:=h;simpa [Value.cells,oa] using h'
 |.ref vs,v,cs,h,hc=>by simp only[LV.cells?,Ym] at hc;subst hc;have h':=h;simp only[Fb] at h;obtain⟨b,off,rfl,_⟩:=h;simpa [Value.cells,oa] using h'
def Mh:List LV->Nat->List LV->List LV
 |xs,0,[]=>xs
 |[],_,_=>[]
 |_::xs,0,v::vs=>v::Mh xs 0 vs
 |x::xs,n+1,vs=>x::Mh xs n vs
def RM(pl:List (Nat×Nat))(cells:List LV):List (Nat×LV)->Option (List LV)
 |[]=>some cells
 |(i,v)::rest=>
  match pl[i]?,v.cells? with
  |some (off,size),some cs=>if cs.length=size/\off+cs.length<=cells.length then RM pl (Mh cells off cs) rest else none
  |_,_=>none
theorem oa.append{w:World}{L:Live}:∀ {Sc bs:List LV} {xs ys:List Value},oa w L Sc xs->oa w L bs ys->oa w L (Sc++bs) (xs++ys)
 |[],_,xs,_,h,k=>by simp only[oa] at h;subst h;simpa using k
 |a::Sc,_,xs,_,h,k=>by simp only[oa] at h;obtain⟨y,iY,rfl,h1,h2⟩:=h;simp only[List.cons_append,oa];exact⟨y,_,rfl,h1,oa.append h2 k⟩
theorem CV:∀ (cells:List LV) (off:Nat) (vs:List LV),off+vs.length<=cells.length->Mh cells off vs=cells.take off++vs++cells.drop (off+vs.length)
 |xs,0,[],_=>by cases xs <;> simp[Mh]
 |[],n+1,vs,h=>by simp at h
 |[],0,v::vs,h=>by simp at h
 |x::xs,0,v::vs,h=>by have:=CV xs 0 vs (by simpa using h);simp[Mh,this]
 |x::xs,n+1,vs,h=>by have:=CV xs n vs (by simp at h;omega);simp[Mh,this,show n+1+vs.length=(n+vs.length)+1 by omega]
theorem Y2(off:Nat):∀ (ys:List Value) (j:Nat) (xs:List Value),off+j+ys.length<=xs.length ->
  ((ys.zipIdx j).foldl (λcs p=>cs.setIfInBounds (off+p.2) p.1) xs.toArray)=(xs.take (off+j)++ys++xs.drop (off+j+ys.length)).toArray
 |[],j,xs,_=>by simp
 |y::ys,j,xs,h=>by
  simp only[Ma] at h;simp only[List.zipIdx_cons,List.foldl_cons,List.setIfInBounds_toArray];rw[Y2 off ys (j+1) (xs.set (off+j) y) (by simp;omega)];congr 1;have h1:(xs.set (off+j) y).take (off+(j+1))=xs.take (off+j)++[y]:=by rw[show off+(j+1)=off+j+1 by omega,List.take_succ_eq_append_getElem (by simp;omega)];simp[List.take_set_of_le]
  have h2:(xs.set (off+j) y).drop (off+(j+1)+ys.length)=xs.drop (off+j+(ys.length+1)):=by rw[List.drop_set_of_lt (by omega),show off+(j+1)+ys.length=off+j+(ys.length+1) by omega]
  rw[h1,h2];simp
theorem qqC{w:World}{L:Live}{pl:List (Nat×Nat)}{place:Nat->Option (Nat×Nat)}(hp:∀ i,place i=pl[i]?):∀ {parts:List (Nat×LV)} {vs:List (Nat×Value)} {cells:List LV} {xs:List Value} {cs:List LV},
  oa w L cells xs->parts.map (·.1)=vs.map (·.1)->oa w L (parts.map (·.2)) (vs.map (·.2))->RM pl cells parts=some cs->∃ ys:List Value,Instr.fill place xs.toArray vs=some ys.toArray/\oa w L cs ys
 |[],[],cells,xs,cs,h,_,_,hf=>by simp only[RM,Ym] at hf;subst hf;exact⟨xs,rfl,h⟩
 |[],_::_,_,_,_,_,h,_,_=>by simp at h
 |_::_,[],_,_,_,_,h,_,_=>by simp at h
 |(i,lv)::parts,(i',v)::vs,cells,xs,cs,h,h1,h2,hf=>by
  simp only[yd,List.cons.injEq] at h1;obtain⟨rfl,h1⟩:=h1;simp only[yd,oa] at h2;obtain⟨y,ys,he,h2,h3⟩:=h2;simp only[List.cons.injEq] at he;obtain⟨rfl,rfl⟩:=he;simp only[RM] at hf;split at hf;rename_i off size E9 Ct hvc;split at hf;rename_i hc;have hr:=h2.cells hvc;have hl:=hr.length;have pJ:=h.length;simp only[Instr.fill,hp,Ct];have ae:v.cells.size=E9.length:=by simpa using hl
  rw[zn (by simp[ae,pJ];omega)];have he:(v.cells.zipIdx.foldl (λcs (c,j)=>cs.setIfInBounds (off+j) c) xs.toArray)=(xs.take off++v.cells.toList++xs.drop (off+E9.length)).toArray:=by rw[<-Array.foldl_toList,Array.toList_zipIdx];have:=Y2 off v.cells.toList 0 xs (by simp[ae,pJ];omega);rw[Nat.add_zero] at this;rw[this];simp[ae]
  rw[he];refine qqC hp ?_ h1 h3 hf;rw[CV _ _ _ hc.2];exact((h.take off).append hr).append (h.drop _);cases hf;cases hf
theorem qfP{P:Program}{w:World}:∀ {fs:List Field},(∀ f∈fs,(P.info? f.type).isSome) ->
  (fs.mapM λf=>(do Pure.pure (f.offset,<-sizeOf f.type):Sem (Nat×Nat))).run P w=.ok (fs.map λf=>(f.offset,P.cellsOf f.type)) w
 |[],_=>by simp
 |f::fs,h=>by obtain⟨i,hi⟩:=zR (h f (by simp));have ih:=qfP (P:=P) (w:=w) (fs:=fs) λg hg=>h g (Oc _ hg);simp only[List.mapM_cons,Lc,MC hi,jd,Xd,ih,yd,Program.cellsOf,hi,Option.map_some,Option.getD_some]
theorem E0{zs:List Value} [h:Mi P t zs](w:World):∃ v,(zeroValue t).run P w=.ok v w/\v.cells=zs.toArray:=by obtain⟨i,v,hi,hz,hc,_⟩:=h.out;exact⟨v,by simp[zeroValue,YW hi,hz],hc⟩
theorem Ys{w:World}{L:Live}:∀ (zs:List Value),oa w L (zs.map .atom) zs
 |[]=>by simp[oa]
 |z::zs=>by simp only[yd,oa,Fb];exact⟨z,zs,rfl,rfl,Ys zs⟩
theorem JQ{ρ:Operand->Value}{w:World}{L:Live}(h:∀ x,Fb w L (e.ev x) (ρ x)):∀ (xs:List Operand),oa w L (xs.map e.ev) (xs.map ρ)
 |[]=>by simp[oa]
 |x::xs=>by simp only[yd,oa];exact⟨_,_,rfl,h x,JQ h xs⟩
theorem Pure.build{t:TypeId}{pl:List (Nat×Nat)}{zs:List Value} [hs:Fm C.P t pl] [hz:Mi C.P t zs]{parts:List (Nat×Operand)}{cs:List LV}
  (h:RM pl (zs.map .atom) (parts.map λp=>(p.1,e.ev p.2))=some cs):Pure C ⟨dst,.build t parts.toArray,ty,ra,ua,g⟩ e H (.agg cs):=.Xa λρ w L hρ=>by
 obtain⟨fs,hu,Ct,Tf⟩:=hs.out;have hp:∀ i:Nat,((fs.toList.map λf=>(f.offset,C.P.cellsOf f.type)).toArray)[i]? = pl[i]? := λi=>by rw[Ct];simp
 have hre:=JQ hρ (parts.map (·.2));have:=qqC hp (w:=w) (L:=L) (parts:=parts.map λp=>(p.1,e.ev p.2)) (vs:=parts.map λp=>(p.1,ρ p.2)) (Ys zs) (by simp[Function.comp_def]) (by simpa [Function.comp_def] using hre) h;obtain⟨ys,h1,h2⟩:=this;refine⟨.agg ys.toArray,by simp only[Fb];exact⟨ys,rfl,h2⟩,λw'=>?_⟩;obtain⟨v,hv,hc⟩:=E0 (P:=C.P) (t:=t) w';have h3:execOp ρ ⟨dst,.build t parts.toArray,ty,ra,ua,g⟩=(do Pure.pure (.value (<-Instr.build t (parts.toArray.map λ(i,x)=>(i,ρ x))))):=rfl
 have hm:(fs.mapM λf=>(do Pure.pure (f.offset,<-sizeOf f.type):Sem (Nat×Nat))).run C.P w'=.ok (fs.toList.map λf=>(f.offset,C.P.cellsOf f.type)).toArray w':=by
  rw[Array.mapM_eq_mapM_toList];rw[Sem.run_map,qfP (P:=C.P) (w:=w') (fs:=fs.toList) (λf hf=>Tf f (by simpa using hf))]
  try rfl
 rw[h3];simp only[Instr.build,Lc,hv,jd,Fe hu w',hm,hc,List.map_toArray];rw[h1];try rfl
