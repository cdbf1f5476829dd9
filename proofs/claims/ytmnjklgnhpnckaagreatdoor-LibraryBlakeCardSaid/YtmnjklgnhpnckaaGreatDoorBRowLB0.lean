import Derived.Below
import Derived.OrdersHeld
import Derived.Deep.Quiet
set_option linter.unusedVariables false
set_option linter.unusedSimpArgs false
set_option maxRecDepth 100000
set_option maxHeartbeats 4000000
theorem zn{c:Prop}{h:Decidable c}(k:¬c){α:Sort _}{t e:α}:@ite α c h t e=e:=if_neg k
theorem zp{c:Prop}{h:Decidable c}(k:c){α:Sort _}{t e:α}:@ite α c h t e=t:=if_pos k
theorem zR{α:Type _}{o:Option α}(h:o.isSome=true):∃ a,o=some a:=Option.isSome_iff_exists.1 h
theorem cj{α:Type _}{a b:α}(h:a∈[b]):a=b:=List.mem_singleton.1 h
theorem Cp{α:Type _}{a b:α}(h:a=b):a∈[b]:=List.mem_singleton.2 h
theorem Dm{α:Type _}{s t:List α}(h:(s++t).Nodup):s.Nodup/\t.Nodup/\∀ a∈s,∀ b∈t,a≠b:=List.nodup_append.1 h
theorem vj{α:Type _}{a:α}{s t:List α}(h:a∈s++t):a∈s∨a∈t:=List.mem_append.1 h
theorem ap{α:Type _}{a:α}{s t:List α}(h:a∈s∨a∈t):a∈s++t:=List.mem_append.2 h
theorem Ei{α β:Type _}{f:α->β}{b:β}{l:List α}(h:b∈l.map f):∃ a,a∈l/\f a=b:=List.mem_map.1 h
theorem El{α β:Type _}{f:α->β}{b:β}{l:List α}(h:∃ a,a∈l/\f a=b):b∈l.map f:=List.mem_map.2 h
theorem Cm{α:Type _}(a b:α):(some a=some b)=(a=b):=Option.some.injEq a b
theorem Hg{p:Prop}[Decidable p](h:decide p=true):p:=of_decide_eq_true h
theorem Ql{α:Type _}{a:α}{l:List α}:(a::l)[0]?=some a:=List.getElem?_cons_zero
theorem Ls{α:Type _}{a:α}{l:List α}{i:Nat}:(a::l)[i+1]?=l[i]?:=List.getElem?_cons_succ
theorem di{α:Type _}{l:List α}{i:Nat}(h:i<l.length):l[i]?=some l[i]:=List.getElem?_eq_getElem h
theorem zg{α:Type _}{a:α}{l:List α}:a∈a::l:=List.Mem.head _
theorem gk:(false=true)=False:=Bool.false_eq_true
theorem Hu{α:Type _}{l:List α}(h:l.length=1):∃ a,l=[a]:=List.length_eq_one_iff.1 h
theorem Vg{p:Prop}[Decidable p](h:p):decide p=true:=decide_eq_true h
theorem Sr{α:Type _}(a:α){s t:List α}(h:s.Perm t):(a::s).Perm (a::t):=.cons a h
theorem Vp{α:Type _}(a b:α)(l:List α):(b::a::l).Perm (a::b::l):=.swap a b l
theorem Di(b:Bool):(false&&b)=false:=Bool.false_and b
theorem wc{α β:Type}(P:Go.Program)(w:Go.World)(x:Go.Sem α)(f:α->Go.Sem β):Go.Sem.run P (x>>=f) w=(Go.Sem.run P x w).andThen λa w'=>Go.Sem.run P (f a) w':=Go.Sem.run_bind ..
theorem Ed{α:Type}(P:Go.Program)(w:Go.World)(a:α):Go.Sem.run P (pure a) w=.ok a w:=Go.Sem.run_pure ..
theorem Sc{α β:Type}(a:α)(w:Go.World)(f:α->Go.World->Go.Result β):(Go.Result.ok a w).andThen f=f a w:=rfl
theorem ya{α : Type _}{a b : List α} : (a ++ b).length = a.length + b.length := List.length_append
theorem Ba{α : Type _}{a : α}{l : List α} : (a :: l).length = l.length + 1 := rfl
theorem dc{α : Type _} : ([] : List α).length = 0 := rfl
theorem ab{α β : Type _}{l : List α}(f : α -> β) : (l.map f).length = l.length := List.length_map f
theorem Jd{α : Type _}(l : List α) : l ++ [] = l := List.append_nil l
theorem Pc{α : Type _}(a b c : List α) : a ++ b ++ c = a ++ (b ++ c) := List.append_assoc a b c
theorem Ce{α : Type _}{a : α}{l : List α} : a ∈ a :: l := List.mem_cons_self ..
theorem Gc{α : Type _}(b : α){a : α}{l : List α}(h : a ∈ l) : a ∈ b :: l := List.mem_cons_of_mem b h
theorem lc{α : Type _}{a b : α}{l : List α} : a ∈ b :: l ↔ a = b ∨ a ∈ l := List.mem_cons
theorem C7{α : Type _}(l : List α) : l <+: l := List.prefix_refl l
theorem Lf{α β : Type _}{f : α -> β}{l₁ l₂ : List α} : (l₁ ++ l₂).map f = l₁.map f ++ l₂.map f := List.map_append
theorem jd{α β : Type _}{f : α -> β}{a : α}{l : List α} : (a :: l).map f = f a :: l.map f := rfl
theorem Nh{α : Type _}{l₁ l₂ : List α} : (l₁ ++ l₂).Perm (l₂ ++ l₁) := List.perm_append_comm
theorem Mf{p : Prop} [Decidable p] : (decide p = true) = p := decide_eq_true_eq
theorem Yc(a b : Bool) : ((a && b) = true) = (a = true /\ b = true) := Bool.and_eq_true a b
theorem Nb(n : Nat) : n <= n := Nat.le_refl n
theorem Se{a b c : Nat}(h : a <= b)(k : b <= c) : a <= c := Nat.le_trans h k
theorem zCs{α : Type _}{a b : α}(h : a = b := by kernel_rfl) : some a = some b := congrArg some h
theorem da{P : Prop}(h : P := by decide) : P := h
theorem Ui{P Q:Prop}(h:Q)(t:(Unit->Q)->P:=by intro zu;(refine oS (sL [_] rfl (Hd rfl rfl Ek) rfl rfl rfl ?_));exact zu ()):P:=t λ_=>h
theorem fA{P Q:Prop}(h:Q)(t:(Unit->Q)->P:=by intro zu;(refine qa ?_;refine rR rfl (Oa rfl) Vc ⟨?_,rfl⟩);exact zu ()):P:=t λ_=>h
theorem jW{P Q:Prop}(h:Q)(t:(Unit->Q)->P:=by intro zu;(refine lO 24 (lS (H1:=[]) rfl (.inl rfl) rfl Kb hF (sF [_,_,_,_,_,_,_] rfl iF ?_));refine lO 25 (lS (H1:=[(bv,.cells 142 (w.map u32))]) (F:=[(be,.cells 144 [int .i64 (ag k:Nat),int .i64 (Zf k:Nat),int .i64 (Yf k:Nat),int .i64 (Xf k:Nat)]),(bi,.cells 82 (xp.map u32)),(bm,.cells 142 (m.map u32)),(br,.cells 82 ((List.replicate 8 0).map u32)),(bh,.cells 82 (h.map u32))]) rfl (.inl rfl) rfl (Vp _ _ _) hF2 (sS (Ab:=w2.map u32) (vs:=w2.map u32) rfl pH rfl (by rw[ab];exact l2) (Nat.ble_eq_true_of_le V0) (GO w2) (dP _ _ (by rw[ab,ab,XA,l2])) ?_));refine lD zk ?_;refine xe.normal (qN ?_);refine oa ?_);exact zu ()):P:=t λ_=>h
theorem gW{P Q:Prop}(h:Q)(t:(Unit->Q)->P:=by intro zu;(refine Cj (i:=4) zk ?_;refine lW rfl (.inl rfl) rfl (sS (Ab:=[_]) rfl Bj rfl rfl rfl rfl rfl ?_);refine Cj (i:=5) zk ?_;refine lW rfl (.inl rfl) rfl (sS (Ab:=[_]) rfl Bj rfl rfl rfl rfl rfl ?_);refine lD zk ?_;refine qa ?_);exact zu ()):P:=t λ_=>h
theorem zQ4{P Q:Prop}(h:Q)(t:(Unit->Q)->P:=by intro zu;(refine oS (S.wi (kt:=54) (el:=136) (kd:=.u32) zk zk rfl rfl rfl pH rfl rfl ?_);refine oS (S.wi (kt:=54) (el:=136) (kd:=.u32) zk zk rfl rfl rfl pH rfl rfl ?_);refine oS (S.wi (kt:=54) (el:=136) (kd:=.u32) zk zk rfl rfl rfl pH rfl rfl ?_);refine oS (S.wi (kt:=54) (el:=136) (kd:=.u32) zk zk rfl rfl rfl pH rfl rfl ?_));exact zu ()):P:=t λ_=>h
theorem dW{P Q:Prop}(h:Q)(t:(Unit->Q)->P:=by intro zu;(refine Cj (i:=10) zk ?_;refine lH rfl rfl (pN rfl) ?_;refine Cj (i:=11) zk ?_;refine lH rfl rfl (pF rfl) ?_;refine Cj (i:=12) zk ?_;refine lW rfl (.inl rfl) rfl (sS (n:=1) (vs:=[v']) (Ab:=[_,_,_,_,_,v',_,_,_,_]) rfl pH (AX qb).1 rfl rfl (AX qb).2 rfl ?_);refine lD zk ?_;refine qa ?_);exact zu ()):P:=t λ_=>h
theorem yq{P Q:Prop}(h:Q)(t:(Unit->Q)->P:=by intro zu;(refine oS (sL [_,_] rfl (bt [_,_]) rfl rfl rfl ?_));exact zu ()):P:=t λ_=>h
theorem CS{P Q:Prop}(h:Q)(t:(Unit->Q)->P:=by intro zu;(refine Ln ?_;refine oS (sF [] rfl h1 ?_);refine oS (sF [] rfl h2 ?_);refine ia (Pure.Vx rfl rfl (by first|omega|(simp only[ya];omega))) ?_;refine oS (sF [] rfl h3 ?_);refine ia (Pure.Vx rfl rfl (by first|omega|(simp only[ya];omega))) ?_);exact zu ()):P:=t λ_=>h
theorem BS{P Q:Prop}(h:Q)(t:(Unit->Q)->P:=by intro zu;(refine aT 0 rfl rfl (pM (lv:=.atom _) rfl) ?_;refine aT 1 rfl rfl (pM (lv:=.atom _) rfl) ?_;refine aT 2 rfl rfl (pN rfl) ?_;refine aT 3 rfl rfl (pF rfl) ?_);exact zu ()):P:=t λ_=>h
theorem zQ9{P Q:Prop}(h:Q)(t:(Unit->Q)->P:=by intro zu;(refine Cj (i:=11) zk ?_;refine lH rfl rfl (pN rfl) ?_;refine Cj (i:=12) zk ?_;refine lH rfl rfl (pF rfl) ?_;refine Cj (i:=13) zk ?_;refine lW rfl (.inl rfl) rfl (sS (n:=1) (vs:=[LV.atom v']) (Ab:=[_,_,_,_,_,_,_,_,_,_]) rfl pH (WT XC).1 rfl rfl (WT XC).2 rfl ?_);refine lD zk ?_;refine ja ?_);exact zu ()):P:=t λ_=>h
theorem Mx{P Q:Prop}(h:Q)(t:(Unit->Q)->P:=by intro zu;(refine aT 0 rfl rfl (pM (lv:=.atom _) rfl) ?_;refine aT 1 rfl rfl (pN rfl) ?_;refine aT 2 rfl rfl (pF rfl) ?_);exact zu ()):P:=t λ_=>h
theorem Lu{P Q:Prop}(h:Q)(t:(Unit->Q)->P:=by intro zu;(refine ja ?_;refine ia (xR (ve:=eb x) (cs:=[_,_,_,_]) rfl rfl da rfl rfl rfl) ?_;refine Ga ?_);exact zu ()):P:=t λ_=>h
theorem Rl{P Q:Prop}(h:Q)(t:(Unit->Q)->P:=by intro zu;(refine oS (sL [_] rfl (bt [_]) rfl rfl rfl ?_));exact zu ()):P:=t λ_=>h
theorem kW{P Q:Prop}(h:Q)(t:(Unit->Q)->P:=by intro zu;(refine bj (m:=7) rfl [(b1,.cells 193 [.list (v.map str),.atom (.map (some m))])] ?_;refine aT 0 rfl rfl (pM (lv:=.atom _) rfl) ?_;refine aT 1 rfl rfl (pF rfl) ?_;refine aT 2 rfl rfl (pL (c:=.list _) rfl Bb rfl) ?_;refine aT 3 rfl rfl (pM (lv:=.atom _) rfl) ?_;refine Eb.take (i:=4) Ya rfl zk zk zk rfl (Pure.Zq (es:=v.map str) (i:=0) (j:=(n:Int)) rfl rfl ⟨_,rfl⟩ zo zo (by rw[BB];omega) (JG v)) ?_;refine aT 5 rfl rfl (pA (lv:=.atom _) rfl) ?_;refine aT 6 rfl rfl (pA (lv:=.list _) rfl) ?_);exact zu ()):P:=t λ_=>h
theorem KN{P Q:Prop}(h:Q)(t:(Unit->Q)->P:=by intro zu;(refine bj (m:=11) rfl [(b3,.cells 217 [int .i64 kind,str name,.list (([]:List Ex).map eb),.list ([x0].map eb),.list (Ka.map Yb),.list (fb.map Yb)])] ?_;refine aT 0 rfl rfl (pM (lv:=.atom _) rfl) ?_;refine aT 1 rfl rfl (pM (lv:=.atom _) rfl) ?_;refine aT 2 rfl rfl (pF rfl) ?_;refine aT 3 rfl rfl (pL (c:=.list _) rfl Bb rfl) ?_;refine aT 5 rfl rfl (pM (lv:=.atom _) rfl) ?_;refine aT 6 rfl rfl (pF rfl) ?_;refine aT 7 rfl rfl (pL (c:=.list _) rfl Bb rfl) ?_);exact zu ()):P:=t λ_=>h
theorem Zm{P Q:Prop}(h:Q)(t:(Unit->Q)->P:=by intro zu;(refine ia (pM (lv:=v) rfl) ?_);exact zu ()):P:=t λ_=>h
theorem uI{P Q:Prop}(h:Q)(t:(Unit->Q)->P:=by intro zu;(refine aT 9 rfl rfl (pM (lv:=.atom _) rfl) ?_;refine aT 10 rfl rfl (pN rfl) ?_;refine aT 11 rfl rfl (pF rfl) ?_;refine aT 12 rfl rfl (pL (c:=.atom _) rfl xf rfl) ?_;refine aL ?_ (Pb pH Xc));exact zu ()):P:=t λ_=>h
theorem tI{P Q:Prop}(h:Q)(t:(Unit->Q)->P:=by intro zu;(refine lO 6 (lH rfl rfl (pF rfl) ?_);refine lO 7 (lW rfl (.inl rfl) rfl (sS (Ab:=[v1,v',v3]) rfl Fc (Acc.cell Zn).1 rfl rfl (Acc.cell Zn).2 rfl ?_));refine lD zk ?_;refine qa ?_);exact zu ()):P:=t λ_=>h
theorem rI{P Q:Prop}(h:Q)(t:(Unit->Q)->P:=by intro zu;(refine lO 6 (lH rfl rfl (pF rfl) ?_);refine lO 7 (lW rfl (.inl rfl) rfl (sS (Ab:=[v1,v2,v']) rfl Fc (Acc.cell Zn).1 rfl rfl (Acc.cell Zn).2 rfl ?_));refine lD zk ?_;refine qa ?_);exact zu ()):P:=t λ_=>h
theorem ID{P Q:Prop}(h:Q)(t:(Unit->Q)->P:=by intro zu;(refine Zi ?_;refine ia (xR (ve:=Vi l[i]) (cs:=[_,_]) rfl rfl zo (rn _ _ _ za) rfl rfl) ?_;refine Ga ?_);exact zu ()):P:=t λ_=>h
theorem ik{P Q:Prop}(h:Q)(t:(Unit->Q)->P:=by intro zu;(refine ia (pA (lv:=v') rfl) ?_);exact zu ()):P:=t λ_=>h
theorem JN{P Q:Prop}(h:Q)(t:(Unit->Q)->P:=by intro zu;(refine Cj (i:=8) zk ?_;refine lW rfl (.inl rfl) rfl (sL (es:=[int .u8 (IntKind.u8.wrap (v:Int))]) [_] rfl (Hd rfl rfl Ek) rfl rfl rfl ?_);refine Cj (i:=9) zk ?_);exact zu ()):P:=t λ_=>h
theorem HN{P Q:Prop}(h:Q)(t:(Unit->Q)->P:=by intro zu;(refine lO 9 (lH rfl rfl (Pure.mq (tf c x0) (Wk c Ka) (Wk c fb) rfl rfl rfl rfl rfl rfl) ?_);refine lO 10 (lH rfl rfl (pA (lv:=.atom _) rfl) ?_);refine lD zk ?_;refine oa ?_;refine ia (Pure.pj 2 (max (max (tf c x0) (Wk c Ka)) (Wk c fb)) rfl rfl rfl rfl) ?_;refine Qc ?_);exact zu ()):P:=t λ_=>h
theorem iW{P Q:Prop}(h:Q)(t:(Unit->Q)->P:=by intro zu;(refine lW rfl (.inl rfl) rfl (sS (Ab:=[_]) rfl Bj rfl rfl rfl rfl rfl ?_);refine Cj (i:=2) zk ?_;refine lH rfl rfl (pL (c:=.atom _) rfl Vz rfl) ?_;refine Cj (i:=5) zk ?_;refine lW rfl (.inl rfl) rfl (sS (Ab:=[_]) rfl Bj rfl rfl rfl rfl rfl ?_);refine lD zk ?_;refine qa ?_);exact zu ()):P:=t λ_=>h
theorem Lx{P Q:Prop}(h:Q)(t:(Unit->Q)->P:=by intro zu;(refine fv.seq (fv.recover rfl rfl ?_);refine fv.of ?_);exact zu ()):P:=t λ_=>h
theorem GD{P Q:Prop}(h:Q)(t:(Unit->Q)->P:=by intro zu;(refine lW rfl (.inl rfl) rfl (sS (Ab:=[_,_,_]) rfl Bj rfl rfl rfl rfl rfl ?_));exact zu ()):P:=t λ_=>h
theorem Wg{P Q:Prop}(h:Q)(t:(Unit->Q)->P:=by intro zu;(refine lP (pM rfl) rfl ?_);exact zu ()):P:=t λ_=>h
theorem GN{P Q:Prop}(h:Q)(t:(Unit->Q)->P:=by intro zu;(refine bj (m:=11) rfl [] ?_;refine aT 0 rfl rfl (pM rfl) ?_;refine aT 1 rfl rfl (pM rfl) ?_);exact zu ()):P:=t λ_=>h
theorem dA{P Q:Prop}(h:Q)(t:(Unit->Q)->P:=by intro zu;(refine lW rfl (.inl rfl) rfl (sL [_] rfl (Hd rfl rfl Ek) rfl rfl rfl ?_));exact zu ()):P:=t λ_=>h
theorem Ku{P Q:Prop}(h:Q)(t:(Unit->Q)->P:=by intro zu;(refine ng.seq (ng.region ?_);refine Ga ?_);exact zu ()):P:=t λ_=>h
theorem FD{P Q:Prop}(h:Q)(t:(Unit->Q)->P:=by intro zu;(refine ia (Pure.Vx rfl rfl (by first|omega|(simp only[ya];omega))) ?_;refine Qc ?_);exact zu ()):P:=t λ_=>h
theorem FN{P Q:Prop}(h:Q)(t:(Unit->Q)->P:=by intro zu;(refine Eb.Oh (i:=3) rfl rfl rfl rfl zk zk zk rfl ?_;refine Eb.Oh (i:=4) rfl rfl rfl rfl zk zk zk rfl ?_;refine Eb.Oh (i:=5) rfl rfl rfl rfl zk zk zk rfl ?_;refine Eb.Oh (i:=6) rfl rfl rfl rfl zk zk zk rfl ?_);exact zu ()):P:=t λ_=>h
theorem Aq{P Q:Prop}(h:Q)(t:(Unit->Q)->P:=by intro zu;(refine Qa.quiet zk ?_;refine Ga ?_);exact zu ()):P:=t λ_=>h
theorem bA{P Q:Prop}(h:Q)(t:(Unit->Q)->P:=by intro zu;(refine Zm ?_;refine ia (pA (lv:=v) rfl) ?_;refine Qc ?_);exact zu ()):P:=t λ_=>h
theorem EN{P Q:Prop}(h:Q)(t:(Unit->Q)->P:=by intro zu;(refine bj (m:=6) rfl [(b2,.cells 118 [ptr k.tb 0]),WM b3 op num name [x,y]] ?_;refine aT 0 rfl rfl (pL (c:=.atom _) rfl Bb rfl) ?_;refine aT 1 rfl rfl (pF rfl) ?_;refine aT 2 rfl rfl (pL (c:=.list _) rfl xf rfl) ?_);exact zu ()):P:=t λ_=>h
theorem Ym{P Q:Prop}(h:Q)(t:(Unit->Q)->P:=by intro zu;(refine ng.seq (ng.of ?_));exact zu ()):P:=t λ_=>h
theorem ED{P Q:Prop}(h:Q)(t:(Unit->Q)->P:=by intro zu;(refine lO 4 (lW rfl (.inl rfl) rfl (sL [_] rfl (Hd rfl rfl Ek) rfl rfl rfl ?_)));exact zu ()):P:=t λ_=>h
theorem Xm{P Q:Prop}(h:Q)(t:(Unit->Q)->P:=by intro zu;(refine lD zk ?_;refine qN ?_);exact zu ()):P:=t λ_=>h
theorem DN{P Q:Prop}(h:Q)(t:(Unit->Q)->P:=by intro zu;(refine ia (xR (ve:=cg f) (n:=((fs.map cg).length:Int)-1) (cs:=[str f.name,.list (f.params.map str),.list (f.locals.map str),.list (f.body.map Yb)]) rfl rfl Mt wm rfl rfl) ?_;refine Ga ?_);exact zu ()):P:=t λ_=>h
theorem Ju{P Q:Prop}(h:Q)(t:(Unit->Q)->P:=by intro zu;(refine aT 2 rfl rfl (pM (lv:=.atom _) rfl) ?_);exact zu ()):P:=t λ_=>h
theorem qI{P Q:Prop}(h:Q)(t:(Unit->Q)->P:=by intro zu;(refine ja ?_;refine ia (xR (ve:=eb v) (cs:=[_,_,_,_]) rfl rfl da rfl rfl rfl) ?_;refine Ga ?_);exact zu ()):P:=t λ_=>h
theorem oI{P Q:Prop}(h:Q)(t:(Unit->Q)->P:=by intro zu;(refine Zm ?_;refine ia (xR (ve:=iv n0) (cs:=[iv n0]) Ot rfl zo rfl rfl rfl) ?_;refine Ga ?_);exact zu ()):P:=t λ_=>h
theorem nI{P Q:Prop}(h:Q)(t:(Unit->Q)->P:=by intro zu;(refine BS ?_;refine aT 5 rfl rfl (pF rfl) ?_;refine aT 6 rfl rfl (pL (c:=.atom _) rfl Bb rfl) ?_);exact zu ()):P:=t λ_=>h
theorem CN{P Q:Prop}(h:Q)(t:(Unit->Q)->P:=by intro zu;(refine lO 5 (lH rfl rfl (pF rfl) ?_);refine lO 6 (lW rfl (.inl rfl) rfl (sS (Ab:=[v',v2,v3]) rfl Fc (Acc.cell Zn).1 rfl rfl (Acc.cell Zn).2 rfl ?_));refine lD zk ?_;refine qa ?_);exact zu ()):P:=t λ_=>h
theorem aA{P Q:Prop}(h:Q)(t:(Unit->Q)->P:=by intro zu;(refine PW.once h hw ?_ (by rw[GY da];exact Nb 1));exact zu ()):P:=t λ_=>h
theorem zq{P Q:Prop}(h:Q)(t:(Unit->Q)->P:=by intro zu;(refine Ii.nil ?_;refine qN ?_);exact zu ()):P:=t λ_=>h
theorem Kx{P Q:Prop}(h:Q)(t:(Unit->Q)->P:=by intro zu;(refine Zi ?_;refine Zm ?_;refine qa ?_);exact zu ()):P:=t λ_=>h
theorem BN{P Q:Prop}(h:Q)(t:(Unit->Q)->P:=by intro zu;(refine bj (m:=8) rfl [(b1,.cells 193 [.list (v.map str),.atom (.map (some m))])] ?_;refine aT 0 rfl rfl (pM (lv:=.atom _) rfl) ?_;refine aT 1 rfl rfl (pM (lv:=.atom _) rfl) ?_);exact zu ()):P:=t λ_=>h
theorem fW{P Q:Prop}(h:Q)(t:(Unit->Q)->P:=by intro zu;(refine Cj (i:=7) zk ?_;refine lH rfl rfl (pA (lv:=.atom _) rfl) ?_;refine lD zk ?_;refine Qc ?_;refine⟨⟨mb,mm,bm⟩,trivial,jb,?_,rfl⟩);exact zu ()):P:=t λ_=>h
theorem eW{P Q:Prop}(h:Q)(t:(Unit->Q)->P:=by intro zu;(refine oS (S.wi (kt:=54) (el:=136) (kd:=.u32) zk zk rfl rfl rfl pH rfl rfl ?_);refine oS (S.wi (kt:=54) (el:=136) (kd:=.u32) zk zk rfl rfl rfl pH rfl rfl ?_));exact zu ()):P:=t λ_=>h
theorem CD{P Q:Prop}(h:Q)(t:(Unit->Q)->P:=by intro zu;(refine lO 7 (lH rfl rfl (Pure.Cf (o:=a) rfl rfl zo zo zo) ?_));exact zu ()):P:=t λ_=>h
theorem mI{P Q:Prop}(h:Q)(t:(Unit->Q)->P:=by intro zu;(refine aL ?_ Ya;refine lO 1 (lS (H1:=[]) rfl (.inl rfl) rfl Kb Ya (sF [_,_] rfl k0 ?_)));exact zu ()):P:=t λ_=>h
theorem AN{P Q:Prop}(h:Q)(t:(Unit->Q)->P:=by intro zu;(refine GN ?_;refine aT 2 rfl rfl (Pure.Ug rfl rfl rfl hd) ?_;refine aT 4 rfl rfl (pM rfl) ?_;refine aT 5 rfl rfl (Pure.Ug rfl rfl rfl ha) ?_;refine aL ?_ Vc);exact zu ()):P:=t λ_=>h
theorem zN{P Q:Prop}(h:Q)(t:(Unit->Q)->P:=by intro zu;(refine GN ?_;refine aT 2 rfl rfl (Pure.Ug rfl rfl rfl hb) ?_;refine aT 4 rfl rfl (pM rfl) ?_;refine aT 5 rfl rfl (Pure.Ug rfl rfl rfl hc) ?_;refine aL ?_ Vc);exact zu ()):P:=t λ_=>h
theorem Iu{P Q:Prop}(h:Q)(t:(Unit->Q)->P:=by intro zu;(refine aL ?_ Ya;refine lD zk ?_);exact zu ()):P:=t λ_=>h
theorem yN{P Q:Prop}(h:Q)(t:(Unit->Q)->P:=by intro zu;(refine Zi ?_;refine ia (xR (ve:=bc s) (cs:=[str s.1,int .i64 s.2]) rfl rfl zo (by rw[Mb];exact xd bc pre s l2) rfl rfl) ?_;refine Ga ?_);exact zu ()):P:=t λ_=>h
theorem BD{P Q:Prop}(h:Q)(t:(Unit->Q)->P:=by intro zu;(refine lH rfl rfl (pL (c:=.atom _) rfl xf rfl) ?_);exact zu ()):P:=t λ_=>h
theorem xN{P Q:Prop}(h:Q)(t:(Unit->Q)->P:=by intro zu;(refine Mx ?_;refine aT 3 rfl rfl (pL (c:=.atom _) rfl xf rfl) ?_;refine aT 4 rfl rfl (pF rfl) ?_;refine aT 5 rfl rfl (pL (c:=.atom _) rfl Bb rfl) ?_);exact zu ()):P:=t λ_=>h
theorem lI{P Q:Prop}(h:Q)(t:(Unit->Q)->P:=by intro zu;(refine aT 0 rfl rfl (pF rfl) ?_;refine aT 1 rfl rfl (pL (c:=.atom _) rfl Bb rfl) ?_);exact zu ()):P:=t λ_=>h
theorem AD{P Q:Prop}(h:Q)(t:(Unit->Q)->P:=by intro zu;(refine qa ?_;refine ia (pI (c:=c1) rfl rfl da rfl) ?_);exact zu ()):P:=t λ_=>h
theorem zD{P Q:Prop}(h:Q)(t:(Unit->Q)->P:=by intro zu;(refine ia (pI (c:=a) rfl rfl zo wm) ?_;refine Ga ?_);exact zu ()):P:=t λ_=>h
theorem kI{P Q:Prop}(h:Q)(t:(Unit->Q)->P:=by intro zu;(refine oa ?_;refine oS (sL [_,_,_] rfl (bt [_,_,_]) rfl rfl rfl ?_));exact zu ()):P:=t λ_=>h
theorem uN{P : Prop}(h : P := by
  simp only[yG];rw[Array.getD_eq_getD_getElem?];rcases Nat.lt_or_ge i args.length with hi|hi
  ·rw[di hi]
   obtain⟨x,hx,hr⟩:=hv.get (di hi);have D1:(vs.toArray++Array.replicate (fn.ntmps-vs.toArray.size) undef)[i]? = some x:=by rw[Array.getElem?_append_left (by simp;omega)];simpa using hx
   rw[D1];exact hr
  ·rw[List.getElem?_eq_none hi]
   have D1:((vs.toArray++Array.replicate (fn.ntmps-vs.toArray.size) undef)[i]?).getD undef=undef:=by rw[Array.getElem?_append_right (by simp;omega)];rw[Array.getElem?_replicate];try split <;> rfl
   rw[D1];simp only[Option.getD_none,wb]) : P := h
theorem bW{P : Prop}(h : P := by
  refine Cj (i:=10) zk ?_;refine lW rfl (.inl rfl) rfl (S.NF (HM:=HC) (F:=_::(Ol++(k.Og s.mem::k.Pg::HO))) rfl P7 hC rfl (by simp;rfl) rfl (by simp;omega) λv' H' XC=>?_)
  refine zQ9 ?_;have hm3:jf 54 1 v' (us (s.pc::s.calls).reverse) H':=by rw[List.reverse_cons,aE];exact XC
  exact rO Ci rN ⟨[],by rw[Jd];exact Nh.trans P7.symm⟩ ⟨rfl,v',H',vo,HO,_::Ol,hm3,hO,⟨Ms,Ol,Cu,rfl⟩,rfl⟩) : P := h
theorem vD{P : Prop}(h : P := by
  refine qa ?_;exact⟨⟨rfl,rfl,rfl,Ae (hc.trans (WR (zt hc) da)),trivial⟩,rfl,rfl⟩) : P := h
theorem B7{P : Prop}(h : P := by
  rw[Vd,h3,kh] at hI;refine qd ?_;exact od.panic (Aa.trans (tc.trans hj)) (qvH (A:=[(b5,ga.cells 220 [str (Zh ex),int .u32 (Mq ex),str (Pq ex),.list (Ip ex)]),(b,ga.cells 220 [str [],int .u32 0,str [],Ob])]) (B:=[(bo,ga.cells 249 [.atom (.func (.func fn) first Ua)]),(bs,ga.cells 104 [ptr sb 0]),(bp,ga.cells 30 [.list ((fi k).map str)]),(bn,ga.cells 4 [bool (decide ((k:Int)=2))])])) (by cases hI;exact⟨rfl,i3,pg,rfl⟩)) : P := h
theorem PK{P : Prop}(h : P := by
  rw[Vd,h3,kh] at hI;refine qd ?_;exact oc (Aa.trans (tc.trans hj)) (by cases hI;rfl) Xc) : P := h
theorem A7{P : Prop}(h : P := by
  refine Cj (i:=1) zk ?_;refine lH rfl rfl (pL (c:=.atom _) rfl Vz rfl) ?_;refine gW ?_;have hp:su s=(rk,l,er):=by rw[su,hL]
  rw[hp];exact⟨[Tu rk,int .i64 l,int .i64 er],[],rC (rA (k:=3) (cs:=[Ob,Ob,Ob]) rfl yn rfl (vA (bs:=[.list [],.list [],.list []]) ⟨vN,vN,vN,trivial⟩)) (rC (Xl.ic (cs:=[int .i64 l]) rfl yn rfl ld) (rC (Xl.ic (cs:=[int .i64 er]) rfl yn rfl ld) rN)),HSub.nil _,rfl,rfl⟩) : P := h
theorem iI{P : Prop}(h : P := by
  refine fA ?_;simp only[q1,q2,Di,Bool.and_false,Bool.true_and];rfl) : P := h
theorem z7{P : Prop}(h : P := by
  refine Cj (i:=3) zk ?_;refine GD ?_;refine gW ?_;have hp:su s=(rk,l,er):=by rw[su,hL]
  rw[hp];exact⟨[Tu rk,int .i64 l,int .i64 er],[],rC (rA (k:=3) (cs:=[Ob,Ob,Ob]) rfl yn rfl (vA (bs:=[.list [],.list [],.list []]) ⟨vN,vN,vN,trivial⟩)) (rC (Xl.ic (cs:=[int .i64 l]) rfl yn rfl ld) (rC (Xl.ic (cs:=[int .i64 er]) rfl yn rfl ld) rN)),HSub.nil _,rfl,rfl⟩) : P := h
theorem fI{P : Prop}(h : P := by
  refine fA ?_;simp only[q1,Di,Bool.and_false,Bool.true_and];rfl) : P := h
theorem y7{P : Prop}(h : P := by
  rw[Vd,h4,ke] at hI;obtain⟨g1,g2,g3,rfl⟩:=(Pw T k).1 0 _ _ _ (Vd.trans (congrArg some h4));have g5:=g3 zo;have g6:=g2 rfl;refine Ui ?_;refine oS (S.nw rfl kb rfl (by simp;rfl) rfl (by simp;omega) λv' H' qb=>?_)
  refine ik ?_;refine qa ?_;exact⟨k,_,_,by omega,⟨v',l++[e2],i4,H',by omega,rfl,rfl,by rw[Lf];exact qb,by omega,by simp;omega,hI⟩,jb,Tb _,hj⟩) : P := h
theorem tN{P : Prop}(h : P := by
  refine Cj (i:=7) zk ?_;refine lH rfl rfl (Pure.xx rfl) ?_;refine JN ?_;refine lW rfl (.inl rfl) rfl (sG (A:=_::(Ol++(k.Og s.mem::k.Pg::HC))) cL rfl hO rfl (λv hv=>by rw[cj hv];rfl) rfl mr λv' H' qb=>?_)
  rw[e1] at qb;refine dW ?_;exact rO Ci rN ⟨[],by rw[Jd];exact Nh.trans cL.symm⟩ ⟨rfl,vc,HC,v',H',_::Ol,hC,qb,⟨Ms,Ol,Cu,rfl⟩,rfl⟩) : P := h
theorem sN{P : Prop}(h : P := by
  refine BD ?_;refine gW ?_;have hp:su s=(rk,l,er):=by rw[su,hL]
  rw[hp];exact⟨[Tu rk,int .i64 l,int .i64 er],[],rC (rA (k:=3) (cs:=[Ob,Ob,Ob]) rfl yn rfl (vA (bs:=[.list [],.list [],.list []]) ⟨vN,vN,vN,trivial⟩)) (rC (Xl.ic (cs:=[int .i64 l]) rfl yn rfl ld) (rC (Xl.ic (cs:=[int .i64 er]) rfl yn rfl ld) rN)),HSub.nil _,rfl,rfl⟩) : P := h
theorem Jx{P : Prop}(h : P := by
  refine fA ?_;simp only[q1,q2,q3,Di,Bool.and_false,Bool.true_and];rfl) : P := h
theorem oN{P : Prop}(h : P := by
  refine iW ?_;have hp:su s=(rk,l,er):=by rw[su,hL]
  rw[hp];exact⟨[Tu rk,int .i64 l,int .i64 er],[],rC (rA (k:=3) (cs:=[Ob,Ob,Ob]) rfl yn rfl (vA (bs:=[.list [],.list [],.list []]) ⟨vN,vN,vN,trivial⟩)) (rC (Xl.ic (cs:=[int .i64 l]) rfl yn rfl ld) (rC (Xl.ic (cs:=[int .i64 er]) rfl yn rfl ld) rN)),HSub.nil _,rfl,rfl⟩) : P := h
theorem yD{P : Prop}(h : P := by
  intro h;have h':_:=zt h;obtain⟨a1,a2,a3,a4,a5⟩:=h';exact⟨⟨⟨⟨by simpa using a1,by omega⟩,by omega⟩,by omega⟩,by omega⟩) : P := h
theorem Yz{P : Prop}(h : P := by
  refine fA ?_;simp only[q1,q2,q3,q4,Di,Bool.and_false,Bool.true_and];rfl) : P := h
theorem nN{P : Prop}(h : P := by
  have e3:n<i:=by have:=zf h3;omega
  rw[zp e3] at hD;refine qa ?_;refine kW ?_;refine Iu ?_;refine Qc ?_;exact Wa (tc.trans (Vf.trans hj)) (rC (Ic rfl) (rC (Gd (v:=.list _) rfl ld) rN)) (by rw[hD];exact congrArg (λx=>LV.tuple [int .i64 (i:Nat),.list x]) List.map_take.symm)) : P := h
theorem xD{P : Prop}(h : P := by
  rintro⟨⟨⟨⟨a1,a2⟩,a3⟩,a4⟩,a5⟩;exact Vg ⟨by simpa using a1,by omega,by omega,by omega,by omega⟩) : P := h
theorem mN{P : Prop}(h : P := by
  refine Cj (i:=5) zk ?_;refine lH rfl rfl (pB _ (cs:=[_,_,_,_,_,_,_,_,_,_]) rfl) ?_;refine Cj (i:=6) zk ?_;refine lW rfl (.inl rfl) rfl (sB rfl λmb=>?_);refine fW ?_;first
   |exact Pb pH (Pb pH (Pb pH Ya))
   |exact Pb pH (Pb Fc (Pb pH Ya))) : P := h
theorem wD{P : Prop}(h : P := by
  rw[Ld,h2,kh] at hr;refine qd ?_;exact oc (Aa.trans hj) (by cases hr;rfl) Xc) : P := h
theorem uD{P : Prop}(h : P := by
  rw[h1,kh] at hr;refine oi ?_;exact oc (Aa.trans rfl) (by cases hr;rfl) Xc) : P := h
theorem lN{P : Prop}(h : P := by
  have hk:¬ k=2:=by have:=zf Ah;omega
  rw[zn hk] at hI;refine qa ?_;exact⟨q,_,_,by omega,⟨.mk (rG T i2) 0 [] [ex,e2],i3,by omega,rfl,rfl,q4,hI⟩,jb,(by rw[qkd];exact Tb _),tc.trans hj⟩) : P := h
theorem kN{P : Prop}(h : P := by
  rw[h,Bool.true_and] at r1;refine qa ?_;refine oS (sF [_] rfl (qne _ hlen) ?_);refine qa ?_;exact Ow rfl (rC (Gd (v:=.atom _) rfl (vR _)) (rC (Gd (v:=.atom _) rfl (vR _)) rN)) (Xk.mk r1 r2)) : P := h
theorem tD{P : Prop}(h : P := by
  rw[Ld,h1,kh] at hr;refine qd ?_;exact oc Rn (by cases hr;rfl) Xc) : P := h
theorem sD{P : Prop}(h : P := by
  right;cases h:cq v with
  |none=>rfl
  |some s=>exact absurd ⟨hc,s,h⟩ h3) : P := h
theorem jN{P : Prop}(h : P := by
  have ym:R=.Td s:=by
   rw[<-vg];unfold kH;cases hd:s.data with
   |nil=>rfl
   |cons x r=>simp only;rw[zn (hb x r hd)]
  subst ym;refine qd ?_;exact od.panic (Aa.trans Ci) Ya (lq _ _ eh)) : P := h
theorem rD{P : Prop}(h : P := by
  rw[h1,kh] at hr;refine qd ?_;exact oc Rn (by cases hr;rfl) Xc) : P := h
theorem qD{P : Prop}(h : P := by
  rw[h3,kh] at hr;refine qd ?_;exact oc Rn (by cases hr;rfl) Xc) : P := h
theorem iN{P : Prop}(h : P := by
  have hk:k=2:=by have:=zt Ah;omega
  rw[zp hk] at hI;refine ja ?_;exact rR (tc.trans hj) (rC (rA rfl Bb rfl ld) rN) (Gg (Gg Ya)) (by cases hI;exact⟨by rw[BA];rfl,rfl⟩)) : P := h
theorem jI{P : Prop}(h : P := by
  refine oa ?_;exact Wa rfl (rC (Ic rfl) (rC (Gd (v:=Ob) rfl vN) rN)) (by rw[hF];rfl)) : P := h
theorem gN{P : Prop}(h : P := by
  have e3:¬ n<i:=by have:=zt h3;omega
  rw[zn e3] at hD;refine Qj ?_;exact Wa (tc.trans (Vf.trans hj)) (rC (Ic rfl) (rC (Gd (v:=Ob) rfl vN) rN)) (by rw[hD];rfl)) : P := h
theorem Is{P : Prop}(h : P := by
  injection h with h;subst h;simp) : P := h
theorem fN{P : Prop}(h : P := by
  rw[h,Bool.true_and] at r1;refine qa ?_;refine oS (sF [_] rfl (ZU _ hlen) ?_);refine qa ?_;exact Ow rfl (rC (Ic rfl) (Oa rfl)) (Xk.mk r1 r2)) : P := h
namespace Go.GL
variable{P Q:Prop}
theorem Mc{α:Type _}{a b:α}{l:List α}(h:a∈l):a∈b::l:=List.Mem.tail _ h
theorem zo(h:P:=by omega):P:=h
theorem zk(h:P:=by kernel_rfl):P:=h
theorem Kb{α:Type _}{l:List α}:l.Perm l:=List.Perm.refl _
theorem Bb{α:Type _}{a:α}{l:List α}:a∈a::l:=(zg)
theorem xf{α:Type _}{a b:α}{l:List α}:b∈a::b::l:=(Mc (zg))
theorem Vz{α:Type _}{a b c:α}{l:List α}:c∈a::b::c::l:=(Mc (Mc (zg)))
theorem dN{α:Type _}{a b c d:α}{l:List α}:d∈a::b::c::d::l:=(Mc (Mc (Mc (zg))))
theorem cN{α:Type _}{a b c d e:α}{l:List α}:e∈a::b::c::d::e::l:=(Mc (Mc (Mc (Mc (zg)))))
theorem yS{α:Type _}{a b c d e f:α}{l:List α}:f∈a::b::c::d::e::f::l:=(Mc (Mc (Mc (Mc (Mc (zg))))))
theorem x7{α:Type _}{a b c d e f g:α}{l:List α}:g∈a::b::c::d::e::f::g::l:=(Mc (Mc (Mc (Mc (Mc (Mc (zg)))))))
theorem zm7{α:Type _}{a b c d e f g h:α}{l:List α}:h∈a::b::c::d::e::f::g::h::l:=(Mc (Mc (Mc (Mc (Mc (Mc (Mc (zg))))))))
theorem zm8{α:Type _}{a b c d e f g h i:α}{l:List α}:i∈a::b::c::d::e::f::g::h::i::l:=(Mc (Mc (Mc (Mc (Mc (Mc (Mc (Mc (zg)))))))))
theorem Rn(h:P:=by first|exact Li.trans rfl|exact Li.trans hj|exact Li.trans (tc.trans hj)):P:=h
theorem dI(h:P:=by first|exact pH|exact fc pH|exact fc (fc (pH))|exact fc (fc (fc (pH)))|exact fc (fc (fc (fc (pH))))|exact fc (fc (fc (fc (fc (pH)))))|exact fc (fc (fc (fc (fc (fc (pH))))))|exact fc (fc (fc (fc (fc (fc (fc (pH)))))))):P:=h
theorem zt{p:Prop} [Decidable p](h:decide p=true):p:=Hg h
theorem zf{p:Prop} [Decidable p](h:decide p=false):¬p:=of_decide_eq_false h
theorem qa(h:Q)(t:(Unit->Q)->P:=by intro h;(repeat first|refine qN ?_|refine wa.nil ?_|refine Qa.seq ?_|refine ia (pM (lv:=.atom _) rfl) ?_|refine ia (pA (lv:=.atom _) rfl) ?_|refine Qa.ret ?_|refine Qa.skip ?_|refine ia (pF rfl) ?_|refine wa.want rfl rfl ?_|refine Ud.ret ?_|refine Qa.block ?_|refine xe.normal ?_|refine Ud.panic ?_|refine ia (Pure.Km (lv:=.atom _) rfl rfl) ?_|refine ia (Pure.Jm (lv:=.atom _) rfl rfl) ?_|refine ia (pL (c:=.atom _) rfl (zg) rfl) ?_|refine ia (Pure.add rfl rfl (by omega)) ?_|refine wa.skip rfl rfl rfl rfl ?_|refine xe.ret ?_|refine ia (Pure.eql rfl rfl) ?_|refine xe.panic ?_|refine ia (Pure.extract (c:=.atom _) rfl rfl) ?_|refine ia (Pure.lss rfl rfl) ?_|refine ia (pN rfl) ?_|refine xe.hit ?_|refine Ud.exit ?_|refine Qa.exit ?_|refine ia (pM (lv:=.tuple _) rfl) ?_|refine ia (pM (lv:=.list _) rfl) ?_|refine ia (Pure.seq rfl rfl) ?_);exact h ()):P:=t λ_=>h
theorem ja(h:Q)(t:(Unit->Q)->P:=by intro h;(repeat first|refine qN ?_|refine wa.nil ?_|refine Qa.region ?_|refine Qa.seq ?_|refine ia (pM (lv:=.atom _) rfl) ?_|refine ia (pA (lv:=.atom _) rfl) ?_|refine Qa.ret ?_|refine Qa.skip ?_|refine ia (pF rfl) ?_|refine wa.want rfl rfl ?_|refine Ud.ret ?_|refine Qa.block ?_|refine xe.normal ?_|refine ia (Pure.Km (lv:=.atom _) rfl rfl) ?_|refine ia (Pure.Jm (lv:=.atom _) rfl rfl) ?_|refine ia (pL (c:=.atom _) rfl (zg) rfl) ?_|refine ia (Pure.add rfl rfl (by omega)) ?_|refine wa.skip rfl rfl rfl rfl ?_|refine xe.ret ?_|refine ia (Pure.eql rfl rfl) ?_|refine ia (Pure.extract (c:=.atom _) rfl rfl) ?_|refine ia (Pure.lss rfl rfl) ?_|refine ia (pN rfl) ?_|refine xe.hit ?_|refine Ud.exit ?_|refine Qa.exit ?_|refine ia (pM (lv:=.tuple _) rfl) ?_|refine ia (pM (lv:=.list _) rfl) ?_|refine ia (Pure.seq rfl rfl) ?_|refine ia (Pure.pt rfl) ?_|refine ia (pL (c:=.list _) rfl (zg) rfl) ?_|refine ia (Pure.not rfl) ?_|refine ia (pA (lv:=.list _) rfl) ?_|refine oS (sS (Ab:=[_,_,_]) rfl pH rfl rfl rfl rfl rfl ?_) rfl|refine ia (Pure.iO rfl) ?_|refine ia (pG (Ab:=[_,_]) rfl (zg) rfl rfl) ?_|refine ia (Pure.gtr rfl rfl) ?_|refine ia (pL (c:=.atom _) rfl (Mc (zg)) rfl) ?_|refine ia (pO (c:=.atom _) rfl rfl) ?_|refine ia (Pure.neq rfl rfl) ?_|refine ia (Pure.sub rfl rfl (by omega)) ?_|refine oS (sS (Ab:=[_,_]) rfl pH rfl rfl rfl rfl rfl ?_) rfl|refine ia (Pure.extract (c:=.list _) rfl rfl) ?_|refine ia (Pure.geq rfl rfl) ?_|refine ia (Pure.leq rfl rfl) ?_|refine ia (pB _ (cs:=[_,_,_]) rfl) ?_|refine ia (Pure.Vx rfl rfl (by first|omega|(simp only[ya,Ba,dc];omega))) ?_|refine oS (sS (Ab:=[_,_,_,_]) rfl pH rfl rfl rfl rfl rfl ?_) rfl|refine LQ.nil ?_|refine ia (Pure.wI rfl rfl) ?_|refine wa.aG rfl rfl rfl ?_|refine qP (pF rfl) rfl ?_|refine qP (pL (c:=.atom _) rfl (zg) rfl) rfl ?_|refine qP (pL (c:=.list _) rfl (zg) rfl) rfl ?_|refine ia (pB _ (cs:=[_,_]) rfl) ?_|refine oS (sS (Ab:=[_,_,_,_,_,_,_,_,_,_]) rfl pH rfl rfl rfl rfl rfl ?_) rfl|refine ia (pB _ (cs:=[_,_,_,_]) rfl) ?_|refine oS (sS (Ab:=[_,_,_,_,_,_]) rfl (fc pH) rfl rfl rfl rfl rfl ?_) rfl|refine qP (pA (lv:=.atom _) rfl) rfl ?_|refine ia (pB _ (cs:=[_,_,_,_,_,_]) rfl) ?_|refine ia (Pure.xx rfl) ?_|refine ia (pG (Ab:=[_,_,_,_,_,_]) rfl (zg) rfl rfl) ?_|refine ia (pG (Ab:=[_,_,_]) rfl (zg) rfl rfl) ?_|refine oS (sS (Ab:=[_,_,_,_,_,_]) rfl (fc (fc pH)) rfl rfl rfl rfl rfl ?_) rfl|refine oS (sS (Ab:=[_,_,_,_,_,_]) rfl pH rfl rfl rfl rfl rfl ?_) rfl|refine oS (sS (Ab:=[_,_,_,_]) rfl (fc pH) rfl rfl rfl rfl rfl ?_) rfl|refine qP (pO (c:=.atom _) rfl rfl) rfl ?_|refine ia (pG (Ab:=[_,_,_,_]) rfl (zg) rfl rfl) ?_|refine ia (pG (Ab:=[_,_,_,_]) rfl (Mc (zg)) rfl rfl) ?_|refine oS (sS (Ab:=[_,_,_,_]) rfl (fc (fc pH)) rfl rfl rfl rfl rfl ?_) rfl|refine ia (pG (Ab:=[_,_,_]) rfl (Mc (zg)) rfl rfl) ?_|refine ia (Pure.makeFunc rfl rfl) ?_|refine ia (Pure.Gy rfl) ?_|refine qP (Pure.pt rfl) rfl ?_|refine xe.gQ da ?_|refine ia (pA (lv:=.app _ _ _ _) rfl) ?_|refine ia (Pure.It rfl) ?_|refine ia (pG (Ab:=[_,_,_]) rfl (Mc (Mc (Mc (Mc (zg))))) rfl rfl) ?_|refine ia (pL (c:=.atom _) rfl (Mc (Mc (Mc (Mc (zg))))) rfl) ?_|refine ia (pO (c:=.list _) rfl rfl) ?_|refine oS (sS (Ab:=[_,_,_,_,_,_,_,_,_,_]) rfl (fc pH) rfl rfl rfl rfl rfl ?_) rfl|refine oS (sS (Ab:=[_,_,_]) rfl (fc pH) rfl rfl rfl rfl rfl ?_) rfl|refine oS (sS (Ab:=[_]) rfl (fc pH) rfl rfl rfl rfl rfl ?_) rfl|refine oS (sS (Ab:=[_]) rfl pH rfl rfl rfl rfl rfl ?_) rfl|refine ia (pG (Ab:=[_,_,_,_,_,_]) rfl (Mc (zg)) rfl rfl) ?_|refine ia (pG (Ab:=[_,_]) rfl (Mc (zg)) rfl rfl) ?_|refine ia (pL (c:=.atom _) rfl (Mc (Mc (zg))) rfl) ?_|refine ia (pL (c:=.atom _) rfl (Mc (Mc (Mc (Mc (Mc (Mc (zg))))))) rfl) ?_|refine ia (pL (c:=.list _) rfl (Mc (zg)) rfl) ?_|refine ia (Pure.Vh (vs:=[_,_]) rfl) ?_|refine oS (sS (Ab:=[]) rfl pH rfl rfl rfl rfl rfl ?_) rfl|refine oS (sS (Ab:=[_,_,_,_]) rfl (fc (fc (fc (fc pH)))) rfl rfl rfl rfl rfl ?_) rfl|refine qP (Pure.extract (c:=.atom _) rfl rfl) rfl ?_|refine qP (pM (lv:=.tuple _) rfl) rfl ?_|refine ia (pB _ (cs:=[]) rfl) ?_|refine ia (pL (c:=.list _) rfl (Mc (Mc (zg))) rfl) ?_|refine ia (pL (c:=.list _) rfl (Mc (Mc (Mc (Mc (Mc (zg)))))) rfl) ?_|refine ia (Pure.Vh (vs:=[]) rfl) ?_|refine ia (pM (lv:=.app _ _ _ _) rfl) ?_|refine oS (sS (Ab:=[_,_,_,_,_,_,_]) rfl (fc (fc pH)) rfl rfl rfl rfl rfl ?_) rfl|refine oS (sS (Ab:=[_,_,_,_,_,_,_]) rfl pH rfl rfl rfl rfl rfl ?_) rfl|refine oS (sS (Ab:=[_,_,_]) rfl (fc (fc pH)) rfl rfl rfl rfl rfl ?_) rfl|refine oS (sS (Ab:=[_,_]) rfl (fc (fc pH)) rfl rfl rfl rfl rfl ?_) rfl|refine oS (sS (Ab:=[_,_]) rfl (fc pH) rfl rfl rfl rfl rfl ?_) rfl|refine qP (Pure.wI rfl rfl) rfl ?_);exact h ()):P:=t λ_=>h
theorem oa(h:Q)(t:(Unit->Q)->P:=by intro h;(repeat first|refine qN ?_|refine wa.nil ?_|refine Qa.region ?_|refine Qa.seq ?_|refine ia (pM (lv:=.atom _) rfl) ?_|refine ia (pA (lv:=.atom _) rfl) ?_|refine Qa.ret ?_|refine Qa.skip ?_|refine ia (pF rfl) ?_|refine wa.want rfl rfl ?_|refine Ud.ret ?_|refine Qa.block ?_|refine xe.normal ?_|refine Ud.panic ?_|refine ia (Pure.Km (lv:=.atom _) rfl rfl) ?_|refine ia (Pure.Jm (lv:=.atom _) rfl rfl) ?_|refine ia (pL (c:=.atom _) rfl (zg) rfl) ?_|refine ia (Pure.add rfl rfl (by omega)) ?_|refine wa.skip rfl rfl rfl rfl ?_|refine xe.ret ?_|refine ia (Pure.eql rfl rfl) ?_|refine xe.panic ?_|refine ia (Pure.extract (c:=.atom _) rfl rfl) ?_|refine ia (Pure.lss rfl rfl) ?_|refine ia (pN rfl) ?_|refine xe.hit ?_|refine Ud.exit ?_|refine Qa.exit ?_|refine ia (pM (lv:=.tuple _) rfl) ?_|refine ia (pM (lv:=.list _) rfl) ?_|refine ia (Pure.seq rfl rfl) ?_);exact h ()):P:=t λ_=>h
theorem Ga(h:Q)(t:(Unit->Q)->P:=by intro h;(repeat first|refine qN ?_|refine wa.nil ?_|refine Qa.seq ?_|refine ia (pM (lv:=.atom _) rfl) ?_|refine ia (pA (lv:=.atom _) rfl) ?_|refine Qa.ret ?_|refine ia (pF rfl) ?_|refine wa.want rfl rfl ?_|refine Ud.ret ?_|refine Qa.block ?_|refine xe.normal ?_|refine ia (Pure.Km (lv:=.atom _) rfl rfl) ?_|refine ia (Pure.Jm (lv:=.atom _) rfl rfl) ?_|refine ia (pL (c:=.atom _) rfl (zg) rfl) ?_|refine ia (Pure.add rfl rfl (by omega)) ?_|refine wa.skip rfl rfl rfl rfl ?_|refine xe.ret ?_|refine ia (Pure.eql rfl rfl) ?_|refine ia (Pure.extract (c:=.atom _) rfl rfl) ?_|refine ia (Pure.lss rfl rfl) ?_|refine ia (pN rfl) ?_|refine xe.hit ?_|refine Ud.exit ?_|refine Qa.exit ?_|refine ia (pM (lv:=.tuple _) rfl) ?_|refine ia (pM (lv:=.list _) rfl) ?_|refine ia (Pure.seq rfl rfl) ?_|refine ia (Pure.pt rfl) ?_|refine ia (pL (c:=.list _) rfl (zg) rfl) ?_|refine ia (Pure.not rfl) ?_|refine ia (pA (lv:=.list _) rfl) ?_|refine oS (sS (Ab:=[_,_,_]) rfl pH rfl rfl rfl rfl rfl ?_) rfl|refine ia (Pure.iO rfl) ?_|refine ia (pG (Ab:=[_,_]) rfl (zg) rfl rfl) ?_|refine ia (Pure.gtr rfl rfl) ?_|refine ia (pL (c:=.atom _) rfl (Mc (zg)) rfl) ?_|refine ia (pO (c:=.atom _) rfl rfl) ?_|refine ia (Pure.neq rfl rfl) ?_|refine ia (Pure.sub rfl rfl (by omega)) ?_|refine oS (sS (Ab:=[_,_]) rfl pH rfl rfl rfl rfl rfl ?_) rfl|refine ia (pR (Ab:=[_,_,_,_]) rfl rfl rfl) ?_|refine ia (Pure.extract (c:=.list _) rfl rfl) ?_|refine ia (Pure.geq rfl rfl) ?_|refine ia (Pure.leq rfl rfl) ?_|refine ia (pB _ (cs:=[_,_,_]) rfl) ?_|refine ia (pR (Ab:=[_,_]) rfl rfl rfl) ?_|refine ia (Pure.Vx rfl rfl (by first|omega|(simp only[ya,Ba,dc];omega))) ?_|refine oS (sS (Ab:=[_,_,_,_]) rfl pH rfl rfl rfl rfl rfl ?_) rfl|refine LQ.nil ?_|refine ia (Pure.extract (c:=.agg _) rfl rfl) ?_|refine ia (Pure.wI rfl rfl) ?_|refine wa.aG rfl rfl rfl ?_|refine qP (pF rfl) rfl ?_|refine qP (pL (c:=.atom _) rfl (zg) rfl) rfl ?_|refine qP (pM (lv:=.atom _) rfl) rfl ?_|refine qP (pN rfl) rfl ?_|refine qP (pL (c:=.list _) rfl (zg) rfl) rfl ?_|refine ia (pB _ (cs:=[_,_]) rfl) ?_|refine oS (sS (Ab:=[_,_,_,_,_,_,_,_,_,_]) rfl pH rfl rfl rfl rfl rfl ?_) rfl|refine ia (pB _ (cs:=[_,_,_,_]) rfl) ?_|refine oS (sS (Ab:=[_,_,_,_,_,_]) rfl (fc pH) rfl rfl rfl rfl rfl ?_) rfl|refine qP (pA (lv:=.atom _) rfl) rfl ?_|refine ia (pB _ (cs:=[_,_,_,_,_,_]) rfl) ?_|refine ia (pG (Ab:=[_,_,_]) rfl (zg) rfl rfl) ?_|refine oS (sS (Ab:=[_,_,_,_,_,_]) rfl (fc (fc pH)) rfl rfl rfl rfl rfl ?_) rfl|refine oS (sS (Ab:=[_,_,_,_]) rfl (fc pH) rfl rfl rfl rfl rfl ?_) rfl|refine qP (pO (c:=.atom _) rfl rfl) rfl ?_|refine ia (pG (Ab:=[_,_,_,_]) rfl (zg) rfl rfl) ?_|refine qP (Pure.WB rfl rfl) rfl ?_|refine qP (Pure.pt rfl) rfl ?_|refine ia (Pure.WB rfl rfl) ?_|refine Ii.pure (pM (lv:=.atom _) rfl) rfl ?_|refine LQ.want rfl rfl ?_|refine lP (pF rfl) rfl ?_|refine lP (pM (lv:=.atom _) rfl) rfl ?_|refine lP (pN rfl) rfl ?_|refine xe.gQ da ?_|refine ia (pA (lv:=.app _ _ _ _) rfl) ?_|refine ia (pL (c:=.atom _) rfl (Mc (Mc (Mc (Mc (zg))))) rfl) ?_|refine ia (pO (c:=.list _) rfl rfl) ?_|refine oS (sS (Ab:=[_,_,_,_,_,_,_,_,_,_]) rfl (fc pH) rfl rfl rfl rfl rfl ?_) rfl|refine oS (sS (Ab:=[_,_,_]) rfl (fc pH) rfl rfl rfl rfl rfl ?_) rfl|refine oS (sS (Ab:=[_]) rfl (fc pH) rfl rfl rfl rfl rfl ?_) rfl|refine Ii.pure (Pure.makeFunc rfl rfl) rfl ?_|refine lP (pL (c:=.atom _) rfl (Mc (zg)) rfl) rfl ?_|refine ia (pR (Ab:=[_,_,_,_,_,_]) rfl rfl rfl) ?_|refine ia (pL (c:=.atom _) rfl (Mc (Mc (zg))) rfl) ?_|refine oS (sS (Ab:=[_,_,_,_]) rfl (fc (fc (fc pH))) rfl rfl rfl rfl rfl ?_) rfl|refine qP (Pure.geq rfl rfl) rfl ?_|refine qP (Pure.lss rfl rfl) rfl ?_|refine qP (Pure.Km (lv:=.atom _) rfl rfl) rfl ?_|refine qP (Pure.Jm (lv:=.atom _) rfl rfl) rfl ?_|refine qP (Pure.sub rfl rfl (by omega)) rfl ?_|refine LQ.skip rfl rfl rfl rfl ?_|refine LS.nil ?_|refine lP (pB _ (cs:=[_,_,_]) rfl) rfl ?_|refine ia (pB _ (cs:=[_,_,_,_,_,_,_]) rfl) ?_|refine oS (sS (Ab:=[_,_,_,_,_,_,_,_]) rfl pH rfl rfl rfl rfl rfl ?_) rfl|refine oS (sS (Ab:=[_]) rfl (fc (fc (fc (fc (fc (fc pH)))))) rfl rfl rfl rfl rfl ?_) rfl|refine Ii.pure (pF rfl) rfl ?_|refine Ii.pure (pG (Ab:=[_,_,_]) rfl (Mc (Mc (Mc (Mc (Mc (Mc (Mc (zg)))))))) rfl rfl) rfl ?_|refine Ii.pure (pL (c:=.atom _) rfl (Mc (zg)) rfl) rfl ?_|refine Ii.pure (Pure.lss rfl rfl) rfl ?_|refine Ii.pure (pN rfl) rfl ?_|refine Ss.pure (pL (c:=.list _) rfl (zg) rfl) rfl ?_|refine Ss.pure (pO (c:=.list _) rfl rfl) rfl ?_|refine Ss.pure (pM (lv:=.atom _) rfl) rfl ?_|refine Ss.pure (Pure.not rfl) rfl ?_|refine qP (Pure.eql rfl rfl) rfl ?_|refine qP (pL (c:=.atom _) rfl (Mc (zg)) rfl) rfl ?_|refine qP (pL (c:=.atom _) rfl (Mc (Mc (Mc (Mc (zg))))) rfl) rfl ?_|refine qP (Pure.I0 rfl rfl) rfl ?_|refine qP (Pure.neq rfl rfl) rfl ?_|refine qP (Pure.Vx rfl rfl (by first|omega|(simp only[ya,Ba,dc];omega))) rfl ?_|refine lP (Pure.add rfl rfl (by omega)) rfl ?_|refine lP (Pure.pt rfl) rfl ?_|refine lP (pL (c:=.atom _) rfl (zg) rfl) rfl ?_|refine lP (pL (c:=.list _) rfl (zg) rfl) rfl ?_);exact h ()):P:=t λ_=>h
theorem Qc(h:Q)(t:(Unit->Q)->P:=by intro h;(repeat first|refine qN ?_|refine wa.nil ?_|refine ia (pA (lv:=.atom _) rfl) ?_|refine Qa.ret ?_);exact h ()):P:=t λ_=>h
theorem qd(h:Q)(t:(Unit->Q)->P:=by intro h;(repeat first|refine Ud.panic ?_|refine xe.panic ?_);exact h ()):P:=t λ_=>h
theorem Bd(h:Q)(t:(Unit->Q)->P:=by intro h;(repeat first|refine Qa.region ?_|refine Qa.seq ?_|refine ia (pM (lv:=.atom _) rfl) ?_);exact h ()):P:=t λ_=>h
theorem Xd(h:Q)(t:(Unit->Q)->P:=by intro h;(repeat first|refine Qa.region ?_|refine Qa.seq ?_);exact h ()):P:=t λ_=>h
theorem wg(h:Q)(t:(Unit->Q)->P:=by intro h;(repeat first|refine qN ?_|refine wa.nil ?_|refine Qa.region ?_|refine Qa.seq ?_|refine ia (Pure.lss rfl rfl) ?_);exact h ()):P:=t λ_=>h
theorem Zi(h:Q)(t:(Unit->Q)->P:=by intro h;(repeat first|refine qN ?_|refine Qa.region ?_|refine Qa.seq ?_|refine Qa.skip ?_|refine Qa.block ?_);exact h ()):P:=t λ_=>h
theorem Ch(h:Q)(t:(Unit->Q)->P:=by intro h;(repeat first|refine qN ?_|refine wa.nil ?_|refine Qa.region ?_|refine Qa.seq ?_|refine ia (pA (lv:=.atom _) rfl) ?_|refine ia (Pure.eql rfl rfl) ?_);exact h ()):P:=t λ_=>h
theorem oi(h:Q)(t:(Unit->Q)->P:=by intro h;(repeat first|refine Ud.panic ?_);exact h ()):P:=t λ_=>h
theorem Xh(h:Q)(t:(Unit->Q)->P:=by intro h;(repeat first|refine qN ?_|refine wa.nil ?_|refine Qa.region ?_|refine Qa.seq ?_|refine ia (pM (lv:=.atom _) rfl) ?_);exact h ()):P:=t λ_=>h
theorem Qj(h:Q)(t:(Unit->Q)->P:=by intro h;(repeat first|refine qN ?_|refine wa.nil ?_|refine Qa.region ?_|refine Qa.seq ?_|refine ia (pA (lv:=.atom _) rfl) ?_|refine Qa.ret ?_|refine Ud.ret ?_);exact h ()):P:=t λ_=>h
theorem Pj(h:Q)(t:(Unit->Q)->P:=by intro h;(repeat first|refine qN ?_|refine wa.nil ?_|refine Qa.region ?_|refine Qa.seq ?_|refine ia (pM (lv:=.atom _) rfl) ?_|refine ia (pA (lv:=.atom _) rfl) ?_);exact h ()):P:=t λ_=>h
theorem rl(h:Q)(t:(Unit->Q)->P:=by intro h;(repeat first|refine qN ?_|refine wa.nil ?_|refine Qa.region ?_|refine ia (pM (lv:=.atom _) rfl) ?_|refine xe.normal ?_|refine ia (Pure.add rfl rfl (by omega)) ?_);exact h ()):P:=t λ_=>h
theorem Ln(h:Q)(t:(Unit->Q)->P:=by intro h;(repeat first|refine qN ?_|refine wa.nil ?_|refine Qa.region ?_|refine Qa.seq ?_|refine ia (pA (lv:=.atom _) rfl) ?_);exact h ()):P:=t λ_=>h
theorem Am(h:Q)(t:(Unit->Q)->P:=by intro h;(repeat first|refine qN ?_|refine wa.nil ?_|refine Qa.region ?_|refine Qa.seq ?_|refine ia (pA (lv:=.atom _) rfl) ?_|refine ia (Pure.seq rfl rfl) ?_);exact h ()):P:=t λ_=>h
theorem zm(h:Q)(t:(Unit->Q)->P:=by intro h;(repeat first|refine qN ?_|refine wa.nil ?_|refine Qa.region ?_|refine Qa.seq ?_|refine ia (pA (lv:=.atom _) rfl) ?_|refine Qa.ret ?_);exact h ()):P:=t λ_=>h
open Go.RowKit
variable{K:List Nat}{ka:Array Edge}{b d j n:Nat}{c:Code}{dst:Option Nat}{pos:String}{rest:List Oper}{tmps:Array Value}{ty:TypeId}{v:Value}{w w':World}
inductive LV where
 |atom (v:Value)
 |list (es:List LV)
 |app (b cap k:Nat) (es:List LV)
 |agg (cs:List LV)
 |tuple (vs:List LV)
 |ref (cs:List LV)
 deriving Inhabited
variable{lv:LV}
def LV.cells:LV->List LV
 |.agg cs=>cs
 |v=>[v]
@[reducible] def int(k:IntKind)(n:Int):LV:=.atom (.int k n)
@[reducible] def bool(b:Bool):LV:=.atom (.bool b)
@[reducible] def str(l:List UInt8):LV:=.atom (.string ⟨l.toArray⟩)
@[reducible] def ptr(b off:Nat):LV:=.atom (.pointer (some ⟨b,off,none⟩))
@[reducible] def Ob:LV:=.atom (.slice none 0 0)
inductive ga where
 |cells (ty:TypeId) (cs:List LV)
 |row (n:Nat)
 |frz (ty:TypeId) (cs:List LV)
 |map (es:List (Value×LV)) (clock:Nat)
 |obj (o:Obj)
 deriving Inhabited
abbrev Heap:=List (Nat×ga)
variable{F H H' H1:Heap}
abbrev Live:=Nat->Nat
variable{L L':Live}
mutual
def wb(w:World)(L:Live):LV->Value->Prop
 |.atom v,x=>x=v
 |.agg cs,x=>∃ xs:List Value,x=.agg xs.toArray/\la w L cs xs
 |.tuple vs,x=>∃ xs:List Value,x=.tuple xs.toArray/\la w L vs xs
 |.list es,x=>∃ a cap,x=.slice a es.length cap/\es.length<=cap/\(es≠[]->∃ b off k,a=some ⟨b,off,none⟩/\cd w L b k off es)
 |.app b cap k es,x=>x=.slice (some ⟨b,0,none⟩) es.length cap/\es.length<=cap/\cd w L b k 0 es/\∃ e s,w.shape? b=some (e,s)/\cap * k<=s
 |.ref cs,x=>∃ b off,x=.pointer (some ⟨b,off,none⟩)/\Jb w L b off cs
def la(w:World)(L:Live):List LV->List Value->Prop
 |[],xs=>xs=[]
 |c::cs,xs=>∃ y ys,xs=y::ys/\wb w L c y/\la w L cs ys
def Jb(w:World)(L:Live)(b:Nat):Nat->List LV->Prop
 |_,[]=>True
 |off,c::cs=>off<L b/\(∃ x,w.cell? ⟨b,off,none⟩=some x/\wb w L c x)/\Jb w L b (off+1) cs
def cd(w:World)(L:Live)(b k:Nat):Nat->List LV->Prop
 |_,[]=>True
 |off,.agg cs::es=>(cs.length=k/\Jb w L b off cs)/\cd w L b k (off+k) es
 |off,.atom v::es=>(1=k/\off<L b/\∃ x,w.cell? ⟨b,off,none⟩=some x/\wb w L (.atom v) x)/\cd w L b k (off+k) es
 |off,.list v::es=>(1=k/\off<L b/\∃ x,w.cell? ⟨b,off,none⟩=some x/\wb w L (.list v) x)/\cd w L b k (off+k) es
 |off,.app b2 c k2 v::es=>(1=k/\off<L b/\∃ x,w.cell? ⟨b,off,none⟩=some x/\wb w L (.app b2 c k2 v) x)/\cd w L b k (off+k) es
 |off,.tuple v::es=>(1=k/\off<L b/\∃ x,w.cell? ⟨b,off,none⟩=some x/\wb w L (.tuple v) x)/\cd w L b k (off+k) es
 |off,.ref v::es=>(1=k/\off<L b/\∃ x,w.cell? ⟨b,off,none⟩=some x/\wb w L (.ref v) x)/\cd w L b k (off+k) es
end
structure Ext(w:World)(L:Live)(w':World)(L':Live):Prop where
 size:w.heap.size<=w'.heap.size
 shape:∀ b,b<w.heap.size->w'.shape? b=w.shape? b
 live:∀ b i,i<L b->w'.cell? ⟨b,i,none⟩=w.cell? ⟨b,i,none⟩
 mono:∀ b,L b<=L' b
theorem Ext.refl(w:World)(L:Live):Ext w L w L:=⟨Nb _,λ_ _=>rfl,λ_ _ _=>rfl,λ_=>Nb _⟩
theorem Ext.trans{w1 w2 w3:World}{L1 L2 L3:Live}(h:Ext w1 L1 w2 L2)(k:Ext w2 L2 w3 L3):Ext w1 L1 w3 L3:=
 ⟨Se h.size k.size,λb hb=>(k.shape b (Nat.lt_of_lt_of_le hb h.size)).trans (h.shape b hb),
  λb i hi=>(k.live b i (Nat.lt_of_lt_of_le hi (h.mono b))).trans (h.live b i hi),λb=>Se (h.mono b) (k.mono b)⟩
theorem qvn{p:TypeId×Nat}(h:w.shape? b=some p):b<w.heap.size:=by rcases Nat.lt_or_ge b w.heap.size with h1|h1;exact h1;simp[World.shape?,Array.getElem?_eq_none h1] at h
mutual
theorem wb.mono{w w':World}{L L':Live}(h:Ext w L w' L'):∀ (lv:LV) (x:Value),wb w L lv x->wb w' L' lv x
 |.atom v,x,r=>by simp only[wb] at r ⊢;exact r
 |.agg cs,x,r=>by simp only[wb] at r ⊢;obtain⟨xs,rfl,r⟩:=r;exact⟨xs,rfl,la.mono h cs xs r⟩
 |.tuple cs,x,r=>by simp only[wb] at r ⊢;obtain⟨xs,rfl,r⟩:=r;exact⟨xs,rfl,la.mono h cs xs r⟩
 |.list es,x,r=>by
  simp only[wb] at r ⊢;obtain⟨a,cap,rfl,hl,r⟩:=r;refine⟨a,cap,rfl,hl,λub=>?_⟩;obtain⟨b,off,k,ha,r⟩:=r ub
  exact⟨b,off,k,ha,cd.mono h b k off es r⟩
 |.app b cap k es,x,r=>by simp only[wb] at r ⊢;obtain⟨rfl,hl,r,e,s,hs,hc⟩:=r;exact⟨rfl,hl,cd.mono h b k 0 es r,e,s,by rw[h.shape b (qvn hs)];exact hs,hc⟩
 |.ref cs,x,r=>by simp only[wb] at r ⊢;obtain⟨b,off,rfl,r⟩:=r;exact⟨b,off,rfl,Jb.mono h b off cs r⟩
 termination_by lv=>SizeOf.sizeOf lv
theorem la.mono{w w':World}{L L':Live}(h:Ext w L w' L'):∀ (cs:List LV) (xs:List Value),la w L cs xs->la w' L' cs xs
 |[],xs,r=>by simp only[la] at r ⊢;exact r
 |c::cs,xs,r=>by simp only[la] at r ⊢;obtain⟨y,ys,rfl,r1,r2⟩:=r;exact⟨y,ys,rfl,wb.mono h c y r1,la.mono h cs ys r2⟩
 termination_by cs=>SizeOf.sizeOf cs
theorem Jb.mono{w w':World}{L L':Live}(h:Ext w L w' L')(b:Nat):∀ (off:Nat) (cs:List LV),Jb w L b off cs->Jb w' L' b off cs
 |_,[],r=>by simp only[Jb]
 |off,c::cs,r=>by simp only[Jb] at r ⊢;obtain⟨r1,⟨x,hx,r2⟩,r3⟩:=r;exact⟨Nat.lt_of_lt_of_le r1 (h.mono b),⟨x,by rw[h.live b off r1];exact hx,wb.mono h c x r2⟩,Jb.mono h b (off+1) cs r3⟩
 termination_by _ cs=>SizeOf.sizeOf cs
theorem cd.mono{w w':World}{L L':Live}(h:Ext w L w' L')(b k:Nat):∀ (off:Nat) (es:List LV),cd w L b k off es->cd w' L' b k off es
 |_,[],r=>by simp only[cd]
 |off,.agg cs::es,r=>by simp only[cd] at r ⊢;exact⟨⟨r.1.1,Jb.mono h b off cs r.1.2⟩,cd.mono h b k (off+k) es r.2⟩
 |off,.atom v::es,r=>by simp only[cd] at r ⊢;obtain⟨⟨h1,h2,x,h3,h4⟩,r2⟩:=r;exact⟨⟨h1,Nat.lt_of_lt_of_le h2 (h.mono b),x,by rw[h.live b off h2];exact h3,wb.mono h (.atom v) x h4⟩,cd.mono h b k (off+k) es r2⟩
 |off,.list v::es,r=>by simp only[cd] at r ⊢;obtain⟨⟨h1,h2,x,h3,h4⟩,r2⟩:=r;exact⟨⟨h1,Nat.lt_of_lt_of_le h2 (h.mono b),x,by rw[h.live b off h2];exact h3,wb.mono h (.list v) x h4⟩,cd.mono h b k (off+k) es r2⟩
 |off,.app b2 c k2 v::es,r=>by simp only[cd] at r ⊢;obtain⟨⟨h1,h2,x,h3,h4⟩,r2⟩:=r;exact⟨⟨h1,Nat.lt_of_lt_of_le h2 (h.mono b),x,by rw[h.live b off h2];exact h3,wb.mono h (.app b2 c k2 v) x h4⟩,cd.mono h b k (off+k) es r2⟩
 |off,.tuple v::es,r=>by simp only[cd] at r ⊢;obtain⟨⟨h1,h2,x,h3,h4⟩,r2⟩:=r;exact⟨⟨h1,Nat.lt_of_lt_of_le h2 (h.mono b),x,by rw[h.live b off h2];exact h3,wb.mono h (.tuple v) x h4⟩,cd.mono h b k (off+k) es r2⟩
 |off,.ref v::es,r=>by simp only[cd] at r ⊢;obtain⟨⟨h1,h2,x,h3,h4⟩,r2⟩:=r;exact⟨⟨h1,Nat.lt_of_lt_of_le h2 (h.mono b),x,by rw[h.live b off h2];exact h3,wb.mono h (.ref v) x h4⟩,cd.mono h b k (off+k) es r2⟩
 termination_by _ es=>SizeOf.sizeOf es
end
def LV.Sub(a b:LV):Prop:=∀ w L x,wb w L a x->wb w L b x
theorem vR(a:LV):a.Sub a:=λ_ _ _ h=>h
theorem vN:Ob.Sub (.list []):=λw L x r=>by simp only[wb] at r ⊢;subst r;exact⟨none,0,rfl,Nb _,λh=>absurd rfl h⟩
theorem LV.Sub.app(b cap k:Nat)(es:List LV):(LV.app b cap k es).Sub (.list es):=λw L x r=>by simp only[wb] at r ⊢;obtain⟨rfl,hl,r,_⟩:=r;exact⟨some ⟨b,0,none⟩,cap,rfl,hl,λ_=>⟨b,0,k,rfl,r⟩⟩
def pw:List LV->List LV->Prop
 |[],[]=>True
 |a::zc,b::bs=>a.Sub b/\pw zc bs
 |_,_=>False
theorem pw.zI{w:World}{L:Live}:∀ {zc bs:List LV} {xs:List Value},pw zc bs->la w L zc xs->la w L bs xs
 |[],[],xs,_,r=>r
 |a::zc,b::bs,xs,h,r=>by simp only[la] at r ⊢;obtain⟨y,ys,rfl,r1,r2⟩:=r;exact⟨y,ys,rfl,h.1 _ _ _ r1,pw.zI h.2 r2⟩
 |[],_::_,_,h,_=>h.elim
 |_::_,[],_,h,_=>h.elim
theorem vA{zc bs:List LV}(h:pw zc bs):(LV.agg zc).Sub (.agg bs):=λw L x r=>by simp only[wb] at r ⊢;obtain⟨xs,rfl,r⟩:=r;exact⟨xs,rfl,h.zI r⟩
def PO(w:World)(L:Live)(b:Nat):ga->Prop
 |.cells ty cs=>L b=0/\∃ xs:List Value,w.heap[b]? = some (.cells xs.toArray ty (0,0))/\la w L cs xs
 |.row n=>L b=n/\∃ (xs:Array Value) (ty:TypeId) (fr:Nat×Nat),w.heap[b]? = some (.cells xs ty fr)/\n<=xs.size/\fr.2<=n
 |.frz ty cs=>L b=0/\∃ (xs:List Value) (fr:Nat×Nat),w.heap[b]? = some (.cells xs.toArray ty fr)/\xs.length<=fr.1/\la w L cs xs
 |.map es clock=>L b=0/\∃ zc:List MapEntry,w.heap[b]? = some (.map zc.toArray clock)/\zc.map (·.key)=es.map (·.1)/\la w L (es.map (·.2)) (zc.map (·.val))
   /\ (∀ e∈zc,e.born<clock)/\(zc.map (·.born)).Nodup
 |.obj o=>L b=0/\w.heap[b]? = some o/\w.shape? b=none
structure Ctx where
 P:Program
 B0:Nat
 w0:World
variable{C:Ctx}
structure Ma(C:Ctx)(w:World)(L:Live)(H:Heap):Prop where
 base:Below C.B0 C.w0 w
 Bi:True
 b0:C.B0<=w.heap.size
 wf:∀ b,w.heap.size<=b->L b=0
 nodup:(H.map (·.1)).Nodup
 qc:∀ p∈H,C.B0<=p.1/\p.1<w.heap.size/\PO w L p.1 p.2
@[reducible] def keys(H:Heap):List Nat:=H.map (·.1)
structure Fr(K:List Nat)(w:World)(L:Live)(w':World)(L':Live)(H':Heap):Prop where
 os:w'.os=w.os
 tape:w'.tape=w.tape
 output:w'.output=w.output
 ext:Ext w L w' L'
 block:∀ b,b<w.heap.size->b ∉ K->w'.heap[b]? = w.heap[b]?
 ck:∀ b,b<w.heap.size->b ∉ K->L' b=L b
 OC:∀ p∈H',p.1∈K∨w.heap.size<=p.1
theorem Fr.refl(w:World)(L:Live)(H:Heap):Fr (keys H) w L w L H:=
 ⟨rfl,rfl,rfl,.refl _ _,λ_ _ _=>rfl,λ_ _ _=>rfl,λ_ hp=>.inl (List.mem_map_of_mem hp)⟩
theorem Fr.trans{K:List Nat}{w1 w2 w3:World}{L1 L2 L3:Live}{H2 H3:Heap}(h:Fr K w1 L1 w2 L2 H2)(k:Fr (keys H2) w2 L2 w3 L3 H3):Fr K w1 L1 w3 L3 H3:=by
 have out:∀ b,b<w1.heap.size->b ∉ K->b ∉ keys H2:=λb hb hn hm=>by obtain⟨p,hp,rfl⟩:=Ei hm;rcases h.OC p hp with h1|h1;exact hn h1;omega
 refine⟨k.os.trans h.os,k.tape.trans h.tape,k.output.trans h.output,h.ext.trans k.ext,λb hb hn=>?_,λb hb hn=>?_,λp hp=>?_⟩;exact(k.block b (Nat.lt_of_lt_of_le hb h.ext.size) (out b hb hn)).trans (h.block b hb hn);exact(k.ck b (Nat.lt_of_lt_of_le hb h.ext.size) (out b hb hn)).trans (h.ck b hb hn);rcases k.OC p hp with h1|h1;obtain⟨q,hq,he⟩:=Ei h1;rw[<-he];exact h.OC q hq;exact .inr (Se h.ext.size h1)
theorem Fr.sub{H':Heap}(h:Fr K w L w' L' H)(hs:∀ p∈H',p∈H):Fr K w L w' L' H':=
 ⟨h.os,h.tape,h.output,h.ext,h.block,h.ck,λp hp=>h.OC p (hs p hp)⟩
theorem bH(h:w'.heap[b]? = w.heap[b]?):w'.shape? b=w.shape? b:=by simp only[World.shape?,h]
theorem cell_of_heap(h:w'.heap[b]? = w.heap[b]?)(o:Nat):w'.cell? ⟨b,o,none⟩=w.cell? ⟨b,o,none⟩:=by simp only[World.cell?,h]
theorem PO.mQ{o:ga}(h:Ext w L w' L')(hb:w'.heap[b]? = w.heap[b]?)(hl:L' b=L b)(r:PO w L b o):PO w' L' b o:=by
 cases o with
 |cells ty cs=>obtain⟨r1,xs,r2,r3⟩:=r;exact⟨hl.trans r1,xs,hb.trans r2,r3.mono h _ _⟩
 |row n=>obtain⟨r1,xs,ty,fr,r2,r3,r4⟩:=r;exact⟨hl.trans r1,xs,ty,fr,hb.trans r2,r3,r4⟩
 |frz ty cs=>obtain⟨r1,xs,fr,r2,r3,r4⟩:=r;exact⟨hl.trans r1,xs,fr,hb.trans r2,r3,r4.mono h _ _⟩
 |map es clock=>obtain⟨r1,zc,r2,r3,r4,r5⟩:=r;exact⟨hl.trans r1,zc,hb.trans r2,r3,r4.mono h _ _,r5⟩
 |obj o=>obtain⟨r1,r2,r3⟩:=r;exact⟨hl.trans r1,hb.trans r2,by rw[bH hb];exact r3⟩
theorem Ma.perm(h:Ma C w L H)(p:H.Perm H'):Ma C w L H':=
 ⟨h.base,h.Bi,h.b0,h.wf,((p.map _).nodup_iff).1 h.nodup,λq hq=>h.qc q (p.mem_iff.2 hq)⟩
theorem Ma.left(h:Ma C w L (H++F)):Ma C w L H:=
 ⟨h.base,h.Bi,h.b0,h.wf,(Dm (by simpa using h.nodup)).1,λq hq=>h.qc q (List.mem_append_left _ hq)⟩
theorem Ma.sub(h:Ma C w L H)(s:H'.Sublist H):Ma C w L H':=
 ⟨h.base,h.Bi,h.b0,h.wf,h.nodup.sublist (s.map _),λq hq=>h.qc q (s.subset hq)⟩
theorem Ma.frame(h:Ma C w L (H++F))(f:Fr (keys H) w L w' L' H')(h':Ma C w' L' H') :
  Ma C w' L' (H'++F)/\Fr (keys (H++F)) w L w' L' (H'++F):=by
 have hn:(keys H++keys F).Nodup:=by simpa [keys] using h.nodup
 have EB:∀ q∈F,q.1 ∉ keys H:=λq hq hm=>(Dm hn).2.2 _ hm _ (List.mem_map_of_mem hq) rfl;refine⟨⟨h'.base,h'.Bi,h'.b0,h'.wf,?_,λp hp=>?_⟩,⟨f.os,f.tape,f.output,f.ext,λb hb hk=>?_,λb hb hk=>?_,λp hp=>?_⟩⟩;rw[Lf];refine List.nodup_append.2 ⟨h'.nodup,(Dm hn).2.1,λa ha b hb he=>?_⟩;subst he;obtain⟨p,hp,rfl⟩:=Ei ha;obtain⟨q,hq,he⟩:=Ei hb;have hqs:=(h.qc q (List.mem_append_right _ hq)).2.1;rcases f.OC p hp with h1|h1;exact EB q hq (he▸h1);omega;rcases vj hp with hp|hp;exact h'.qc p hp;obtain⟨r1,r2,r3⟩:=h.qc p (List.mem_append_right _ hp);exact⟨r1,Nat.lt_of_lt_of_le r2 f.ext.size,r3.mQ f.ext (f.block _ r2 (EB p hp)) (f.ck _ r2 (EB p hp))⟩;exact f.block b hb (λhm=>hk (by simp only[keys,Lf,List.mem_append];exact .inl hm));exact f.ck b hb (λhm=>hk (by simp only[keys,Lf,List.mem_append];exact .inl hm));rcases vj hp with hp|hp;rcases f.OC p hp with h1|h1;exact .inl (by simp only[keys,Lf,List.mem_append];exact .inl h1);exact .inr h1;exact .inl (by simp only[keys,Lf,List.mem_append];exact .inr (List.mem_map_of_mem hp))
def zd(p:Nat×ga)(H F:Heap):Prop:=H.Perm (p::F)
theorem pH{p:Nat×ga}:zd p (p::F) F:=List.Perm.refl _
theorem fc{p q:Nat×ga}(h:zd p H F):zd p (q::H) (q::F):=
 (Sr q h).trans (Vp p q F)
def HSub(H' H:Heap):Prop:=∃ G,H.Perm (H'++G)
theorem Tb(H:Heap):HSub H H:=⟨[],by simp⟩
theorem HSub.nil(H:Heap):HSub [] H:=⟨H,by simp⟩
theorem Gg{p:Nat×ga}(h:HSub H' H):HSub H' (p::H):=
 let ⟨G,hG⟩:=h
 ⟨p::G,(Sr p hG).trans List.perm_middle.symm⟩
theorem Pb{p:Nat×ga}(hp:zd p H F)(h:HSub H' F):HSub (p::H') H:=
 let ⟨G,hG⟩:=h
 ⟨G,List.Perm.trans hp (Sr p hG)⟩
theorem Ma.Zb(h:Ma C w L H)(s:HSub H' H):Ma C w L H':=
 let ⟨_,hG⟩:=s
 (h.perm hG).left
theorem Fr.Zb(h:Fr K w L w' L' H)(s:HSub H' H):Fr K w L w' L' H':=
 let ⟨_,hG⟩:=s
 h.sub λ_ hp=>hG.mem_iff.2 (List.mem_append_left _ hp)
structure Env where
 s:Nat->LV
 ds:List Deferred
variable{e:Env}
def Env.Sd(e:Env)(d:Nat)(v:LV):Env:=⟨λi=>bif Nat.beq i d then v else e.s i,e.ds⟩
def Env.put(e:Env):Option Nat->LV->Env
 |some d,v=>e.Sd d v
 |none,_=>e
def Env.ev(e:Env):Operand->LV
 |.tmp t=>e.s t
 |.const v=>.atom v
 |.global g=>.atom (.pointer (some ⟨g,0,none⟩))
 |.func f=>.atom (.func (.func f) #[] #[])
structure nc(n:Nat)(a:Act)(e:Env)(w:World)(L:Live):Prop where
 size:a.tmps.size=n
 ds:a.defers=e.ds
 dj:∀ i,wb w L (e.s i) (a.tmps.getD i undef)
theorem nc.ev{n:Nat}{a:Act}{e:Env}{w:World}{L:Live}(h:nc n a e w L):∀ x,wb w L (e.ev x) (a.eval x):=λx=>by
 cases x with
 |tmp t=>exact h.dj t
 |const v=>simp only[Env.ev,wb,Act.eval]
 |global g=>simp only[Env.ev,wb,Act.eval]
 |func f=>simp only[Env.ev,wb,Act.eval]
theorem nc.mono{n:Nat}{a:Act}{e:Env}{w w':World}{L L':Live}(h:nc n a e w L)(x:Ext w L w' L'):nc n a e w' L':=
 ⟨h.size,h.ds,λi=>(h.dj i).mono x _ _⟩
def aC(n:Nat):Option Nat->Bool
 |some d=>Nat.blt d n
 |none=>true
@[reducible] def Fl(n:Nat)(d:Option Nat):Prop:=aC n d=true
theorem nc.put{n:Nat}{a:Act}{e:Env}{w:World}{L:Live}(h:nc n a e w L){dst:Option Nat}{lv:LV}{v:Value}(hd:Fl n dst)(hv:wb w L lv v) :
  nc n (a.put dst v) (e.put dst lv) w L:=by
 cases dst with
 |none=>exact h
 |some d=>
  refine⟨by simp[Act.put,h.size],h.ds,λi=>?_⟩;simp only[Env.put,Env.Sd,Act.put];have hs:=h.size;have hd:d<n:=by simpa [Fl,aC] using hd
  by_cases hi:i=d;subst hi;simp[Array.getD,hs,hd];exact hv;have hb:Nat.beq i d=false:=by
   cases hb:Nat.beq i d with
   |true=>exact absurd (Nat.eq_of_beq_eq_true hb) hi
   |false=>rfl
  rw[hb];have Hz:=h.dj i;rw[Array.getD_eq_getD_getElem?] at Hz ⊢;rw[Array.getElem?_setIfInBounds,zn (Ne.symm hi)];exact Hz
abbrev uc:=Exit->Env->Heap->Prop
variable{Q':uc}
def TF(n:Nat):Exit->Act->Env->World->Live->Prop
 |.panic _,a,e,_,_=>a.defers=e.ds
 |_,a,e,w,L=>nc n a e w L
def lift(C:Ctx)(n:Nat)(w:World)(L:Live)(K:List Nat)(Q:uc):Exit->Act->World->Prop:=
 λx a' w'=>∃ e' H' L',Fr K w L w' L' H'/\Ma C w' L' H'/\TF n x a' e' w' L'/\Q x e' H'
theorem FY{Q:uc}(h:∀ x e H,Q x e H->Q' x e H){x:Exit}{a:Act}
  (k:lift C n w L K Q x a w'):lift C n w L K Q' x a w':=
 let ⟨e',H',L',h1,h2,h3,h4⟩:=k
 ⟨e',H',L',h1,h2,h3,h _ _ _ h4⟩
theorem rM{w1:World}{L1:Live}{Q:uc}(f:Fr K w L w1 L1 H1){x:Exit}{a:Act}
  (k:lift C n w1 L1 (keys H1) Q x a w'):lift C n w L K Q x a w':=
 let ⟨e',H',L',h1,h2,h3,h4⟩:=k
 ⟨e',H',L',f.trans h1,h2,h3,h4⟩
def Zp(w:World)(L:Live)(H:Heap)(w':World):Prop:=
 (∀ p∈H,w'.heap[p.1]? = w.heap[p.1]?)/\(∀ b i,i<L b->w'.cell? ⟨b,i,none⟩=w.cell? ⟨b,i,none⟩)
def Pure(C:Ctx)(o:Oper)(e:Env)(H:Heap)(lv:LV):Prop:=
 ∀ (ρ:Operand->Value) w L,(∀ x,wb w L (e.ev x) (ρ x))->Ma C w L H ->
  ∃ v,wb w L lv v/\∀ w',Zp w L H w'->(execOp ρ o).run C.P w'=.ok (.value v) w'
def Left(C:Ctx)(w:World)(L:Live)(H:Heap)(w':World)(v:Value)(K:LV->Heap->Prop):Prop:=
 ∃ lv H' L',Fr (keys H) w L w' L' H'/\Ma C w' L' H'/\wb w' L' lv v/\K lv H'
def Iq(C:Ctx)(w:World)(L:Live)(H:Heap)(w':World)(X:Heap->Prop):Prop:=
 ∃ H' L',Fr (keys H) w L w' L' H'/\Ma C w' L' H'/\X H'
def Bz(C:Ctx)(w:World)(L:Live)(H:Heap)(K:LV->Heap->Prop)(X:List PanicEntry->Heap->Prop):Ending->World->Prop
 |.returned v,w'=>Left C w L H w' v K
 |.panicked ch,w'=>Iq C w L H w' (X ch)
 |.outgrown,_=>False
def jE(C:Ctx)(w:World)(L:Live)(H:Heap)(K:LV->Heap->Prop)(X:List PanicEntry->Heap->Prop):Result Next->Prop
 |.ok (.value v) w'=>Left C w L H w' v K
 |.ok .skip w'=>Left C w L H w' undef K
 |.ok (.enter f args) w'=>w'=w/\Calls C.P f args w (Bz C w L H K X)
 |.halt (.panic v) w'=>Iq C w L H w' (X [{ v,recovered:=false }])
 |_=>False
def Ra(C:Ctx)(o:Oper)(e:Env)(H:Heap)(K:LV->Heap->Prop)(X:List PanicEntry->Heap->Prop):Prop:=
 ∀ (ρ:Operand->Value) w L,(∀ x,wb w L (e.ev x) (ρ x))->Ma C w L H->jE C w L H K X ((execOp ρ o).run C.P w)
def wa(C:Ctx)(n:Nat)(ops:Array Oper)(Q:uc)(rest:List Oper)(e:Env)(H:Heap):Prop:=
 ∀ a w L,nc n a e w L->Ma C w L H->wpList C.P ops (lift C n w L (keys H) Q) rest a w
def Qa(C:Ctx)(n:Nat)(c:Code)(Q:uc)(e:Env)(H:Heap):Prop:=
 ∀ a w L,nc n a e w L->Ma C w L H->c.wp C.P (lift C n w L (keys H) Q) a w
inductive re where
 |ret (v:LV)
 |panic (ch:List PanicEntry)
def ca(C:Ctx)(f:FuncId)(args:List LV)(H:Heap)(R:re->Heap->Prop):Prop:=
 ∀ (vs:List Value) w L,la w L args vs->Ma C w L H ->
  Calls C.P f vs.toArray w (Bz C w L H (λv=>R (.ret v)) λch=>R (.panic ch))
theorem Left.mono{H:Heap}{K K':LV->Heap->Prop}(h:Left C w L H w' v K)(hk:∀ lv H,K lv H->K' lv H):Left C w L H w' v K':=
 let ⟨lv,H',L',h1,h2,h3,h4⟩:=h
 ⟨lv,H',L',h1,h2,h3,hk _ _ h4⟩
theorem Iq.mono{H:Heap}{X X':Heap->Prop}(h:Iq C w L H w' X)(hk:∀ H,X H->X' H):Iq C w L H w' X':=
 let ⟨H',L',h1,h2,h3⟩:=h
 ⟨H',L',h1,h2,hk _ h3⟩
theorem Bz.mono{C:Ctx}{w:World}{L:Live}{H:Heap}{K K':LV->Heap->Prop}{X X':List PanicEntry->Heap->Prop}(hk:∀ lv H,K lv H->K' lv H)(hx:∀ ch H,X ch H->X' ch H)
  (e:Ending) (w':World) (h:Bz C w L H K X e w'):Bz C w L H K' X' e w':=by
 cases e with
 |returned v=>exact Left.mono h hk
 |panicked ch=>exact Iq.mono h (hx ch)
 |outgrown=>exact h
theorem ca.mono{C:Ctx}{f:FuncId}{args:List LV}{H:Heap}{R R':re->Heap->Prop}(h:ca C f args H R)(hr:∀ r H,R r H->R' r H):ca C f args H R':=
 λvs w L h1 h2=>(h vs w L h1 h2).mono (Bz.mono (λ_ _=>hr _ _) λ_ _=>hr _ _)
theorem Left.frame{C:Ctx}{w:World}{L:Live}{H F:Heap}{w':World}{v:Value}{K:LV->Heap->Prop}(hH:Ma C w L (H++F))(h:Left C w L H w' v λlv H'=>K lv (H'++F)) :
  Left C w L (H++F) w' v K:=
 let ⟨lv,H',L',h1,h2,h3,h4⟩:=h
 let f:=hH.frame h1 h2
 ⟨lv,H'++F,L',f.2,f.1,h3,h4⟩
theorem Iq.frame{C:Ctx}{w:World}{L:Live}{H F:Heap}{w':World}{X:Heap->Prop}(hH:Ma C w L (H++F))(h:Iq C w L H w' λH'=>X (H'++F)) :
  Iq C w L (H++F) w' X:=
 let ⟨H',L',h1,h2,h3⟩:=h
 let f:=hH.frame h1 h2
 ⟨H'++F,L',f.2,f.1,h3⟩
theorem Fr.perm{H2:Heap}(p:H1.Perm H2)(h:Fr (keys H1) w L w' L' H'):Fr (keys H2) w L w' L' H':=by have hm:∀ b,b∈keys H1 ↔ b∈keys H2:=λb=>(p.map _).mem_iff;exact⟨h.os,h.tape,h.output,h.ext,λb hb hn=>h.block b hb λk=>hn ((hm b).1 k),λb hb hn=>h.ck b hb λk=>hn ((hm b).1 k),λq hq=>(h.OC q hq).imp (hm _).1 id⟩
theorem jE.frame{C:Ctx}{w:World}{L:Live}{H F G:Heap}{K:LV->Heap->Prop}{X:List PanicEntry->Heap->Prop}(p:G.Perm (H++F))(hH:Ma C w L G){r:Result Next}
  (h:jE C w L H (λlv H'=>K lv (H'++F)) (λch H'=>X ch (H'++F)) r):jE C w L G K X r:=by
 have gD:=hH.perm p;have lf:∀ {w' v},Left C w L H w' v (λlv H'=>K lv (H'++F))->Left C w L G w' v K:=λh=>by obtain⟨lv,H',L',h1,h2,h3,h4⟩:=Left.frame gD h;exact⟨lv,H',L',h1.perm p.symm,h2,h3,h4⟩
 have lx:∀ {w' ch},Iq C w L H w' (λH'=>X ch (H'++F))->Iq C w L G w' (X ch):=λh=>by obtain⟨H',L',h1,h2,h3⟩:=Iq.frame gD h;exact⟨H',L',h1.perm p.symm,h2,h3⟩
 unfold jE at h ⊢;split at h;exact lf h;exact lf h;refine⟨h.1,h.2.mono λe w' he=>?_⟩
 cases e with
 |returned v=>exact lf he
 |panicked ch=>exact lx he
 |outgrown=>exact he
 exact lx h;exact h.elim
theorem Ra.frame{C:Ctx}{o:Oper}{e:Env}{G H F:Heap}{K:LV->Heap->Prop}{X:List PanicEntry->Heap->Prop}(p:G.Perm (H++F))
  (h:Ra C o e H (λlv H'=>K lv (H'++F)) λch H'=>X ch (H'++F)):Ra C o e G K X:=
 λρ w L h1 h2=>jE.frame p h2 (h ρ w L h1 (h2.perm p).left)
theorem Pure.step{o:Oper}{K:LV->Heap->Prop}{X:List PanicEntry->Heap->Prop}(h:Pure C o e H lv)(k:K lv H):Ra C o e H K X:=λρ w L h1 h2=>by obtain⟨v,hv,hr⟩:=h ρ w L h1 h2;rw[hr w ⟨λ_ _=>rfl,λ_ _ _=>rfl⟩];exact⟨lv,H,L,Fr.refl _ _ _,h2,hv,k⟩
theorem GA{P:Program}{ops:Array Oper}{Q Q':Exit->Act->World->Prop}(h:∀ e a w,Q e a w->Q' e a w):∀ (l:List Oper) (a:Act) (w:World),wpList P ops Q l a w->wpList P ops Q' l a w
 |[],_,_,k=>h _ _ _ k
 |o::l,a,w,k=>by
  unfold wpList at k ⊢;split at k;rename_i hw;rw[zp hw];rcases k with k|⟨k1,a0,w0,k2⟩;refine .inl ?_;unfold Oper.wp at k ⊢;generalize (execOp a.eval o).run P w=r at k ⊢;cases r with
  |ok x w'=>
   cases x <;> simp only[Oper.upon] at k ⊢ <;> first
    |exact GA h l _ _ k
    |(refine Calls.mono k λe TN he=>?_;cases e with
      |returned v=>exact GA h l _ _ he
      |panicked ch=>exact h _ _ _ he
      |outgrown=>obtain⟨a0,w0,he⟩:=he;exact⟨a0,w0,h _ _ _ he⟩)
    |exact Rows.mono k λ_ _ he=>GA h l _ _ he
  |halt x w'=>cases x <;> simp only[Oper.upon] at k ⊢ <;> exact h _ _ _ k
  exact .inr ⟨k1,a0,w0,h _ _ _ k2⟩;rename_i hw;rw[zn hw];exact GA h l _ _ k
theorem N9{o:Oper}{K:LV->Heap->Prop}{X:List PanicEntry->Heap->Prop}(h:Ra C o e H K X)(hd:Fl n o.dst)
  {a:Act} {w:World} {L:Live} (hE:nc n a e w L) (hH:Ma C w L H) {K':Act->World->Prop} {Q':Exit->Act->World->Prop}
  (hK:∀ lv H' L' w' a',Fr (keys H) w L w' L' H'->Ma C w' L' H'->nc n a' (e.put o.dst lv) w' L'->K lv H'->K' a' w')
  (hX:∀ ch H' L' w',Fr (keys H) w L w' L' H'->Ma C w' L' H'->X ch H'->Q' (.panic ch) a w'):o.wp C.P a w K' Q':=by
 have hs:=h a.eval w L hE.ev hH;unfold Oper.wp;have left:∀ {w' v},Left C w L H w' v K->K' (a.put o.dst v) w':=λh=>by obtain⟨lv,H',L',h1,h2,h3,h4⟩:=h;exact hK lv H' L' _ _ h1 h2 ((hE.mono h1.ext).put hd h3) h4
 have qt:∀ {w' ch},Iq C w L H w' (X ch)->Q' (.panic ch) a w':=λh=>by obtain⟨H',L',h1,h2,h3⟩:=h;exact hX _ H' L' _ h1 h2 h3
 generalize (execOp a.eval o).run C.P w=r at hs ⊢;unfold jE at hs;split at hs;exact left hs;exact left hs;obtain⟨rfl,hs⟩:=hs;refine Calls.mono hs λe w' he=>?_
 cases e with
 |returned v=>exact left he
 |panicked ch=>exact qt he
 |outgrown=>exact he.elim
 exact qt hs;exact hs.elim
section ops
variable{C:Ctx}{n:Nat}{ops:Array Oper}{Q:uc}{e:Env}{H:Heap}
theorem wa.nil(h:Q .normal e H):wa C n ops Q [] e H:=λ_ _ L hE hH=>⟨e,H,L,Fr.refl _ _ _,hH,hE,h⟩
theorem oS{op:Op}
  (h:Ra C ⟨dst,op,ty,pos,ka,none⟩ e H (λlv H'=>wa C n ops Q rest (e.put dst lv) H') λch H'=>∀ e',e'.ds=e.ds->Q (.panic ch) e' H')
  (hd:Fl n dst:=by rfl):wa C n ops Q (⟨dst,op,ty,pos,ka,none⟩::rest) e H:=λa w L hE hH=>by
 unfold wpList;rw[zp (by simp[Region.wanted])];refine .inl (N9 h hd hE hH (λlv H' L' w' a' h1 h2 h3 h4=>?_) λch H' L' w' h1 h2 h3=>?_);exact GA (λ_ _ _=>rM h1) _ _ _ (h4 a' w' L' h3 h2);exact⟨e,H',L',h1,h2,hE.ds,h3 e rfl⟩
theorem oP{op:Op}
  (h:Pure C ⟨dst,op,ty,pos,ka,none⟩ e H lv) (hd:Fl n dst) (k:wa C n ops Q rest (e.put dst lv) H):wa C n ops Q (⟨dst,op,ty,pos,ka,none⟩::rest) e H:=
 oS (h.step k) hd
theorem ia{op:Op}(h:Pure C ⟨dst,op,ty,pos,ka,none⟩ e H lv)(k:wa C n ops Q rest (e.put dst lv) H)(hd:Fl n dst:=by rfl):wa C n ops Q (⟨dst,op,ty,pos,ka,none⟩::rest) e H:=oP h hd k
theorem VG{a:Act}(hE:nc n a e w L){b:Bool}(hj:(ops[j]?).bind (·.dst)=some d)(hb:e.s d=.atom (.bool b)):yielded ops a.tmps j=some b:=by
 have h:=hE.dj d;rw[hb] at h;simp only[wb] at h;unfold yielded;rw[hj];simp only[Option.bind_some];rw[Array.getD_eq_getD_getElem?] at h;cases hx:a.tmps[d]? with
 |none=>rw[hx] at h;simp[undef] at h
 |some x=>rw[hx] at h;simp only[Option.getD_some] at h;subst h;rfl
theorem wa.want{op:Op}{b:Bool}
  (hj:(ops[j]?).bind (·.dst)=some d) (hb:e.s d=.atom (.bool b))
  (k:wa C n ops Q (⟨dst,op,ty,pos,ka,none⟩::rest) e H):wa C n ops Q (⟨dst,op,ty,pos,ka,some (j,b)⟩::rest) e H:=λa w L hE hH=>by
 have:=k a w L hE hH;unfold wpList at this ⊢;rw[zp (by simp[Region.wanted])] at this;rw[zp (by simp[Region.wanted,VG hE hj hb])];exact this
theorem wa.skip{op:Op}{b c:Bool}
  (hj:(ops[j]?).bind (·.dst)=some d) (hb:e.s d=.atom (.bool b)) (ub:b=!c) (hd:Fl n dst)
  (k:wa C n ops Q rest (e.put dst (.atom undef)) H):wa C n ops Q (⟨dst,op,ty,pos,ka,some (j,c)⟩::rest) e H:=λa w L hE hH=>by
 unfold wpList;rw[zn (by subst ub;cases c <;> simp[Region.wanted,VG hE hj hb])];exact k _ w L (hE.put hd (by simp only[wb])) hH
theorem wa.Oc(h:wa C n ops Q rest e H)(hq:∀ x e H,Q x e H->Q' x e H):wa C n ops Q' rest e H:=
 λa w L hE hH=>GA (λ_ _ _=>FY hq) _ _ _ (h a w L hE hH)
end ops
section code
variable{C:Ctx}{n:Nat}{Q:uc}{e:Env}{H:Heap}
def Ud(k:Env->Heap->Prop)(Q:uc):uc
 |.normal,e,H=>k e H
 |x,e,H=>Q x e H
def xe(id:Nat)(Q:uc):uc
 |.exit qH,e,H=>if qH=id then Q .normal e H else Q (.exit qH) e H
 |x,e,H=>Q x e H
theorem Qa.Oc(h:Qa C n c Q e H)(hq:∀ x e H,Q x e H->Q' x e H):Qa C n c Q' e H:=
 λa w L hE hH=>Go.wp_mono (h a w L hE hH) λ_ _ _=>FY hq
theorem Qa.seq{x y:Code}(h:Qa C n x (Ud (λe H=>Qa C n y Q e H) Q) e H):Qa C n (.seq x y) Q e H:=λa w L hE hH=>by
 refine wp_seq (Go.wp_mono (h a w L hE hH) λex a' w' hq=>?_);obtain⟨e',H',L',h1,h2,h3,h4⟩:=hq
 cases ex with
 |normal=>exact Go.wp_mono (h4 a' w' L' h3 h2) λ_ _ _=>rM h1
 |exit id=>exact⟨e',H',L',h1,h2,h3,h4⟩
 |goto id=>exact⟨e',H',L',h1,h2,h3,h4⟩
 |ret=>exact⟨e',H',L',h1,h2,h3,h4⟩
 |panic ch=>exact⟨e',H',L',h1,h2,h3,h4⟩
 |outgrown=>exact⟨e',H',L',h1,h2,h3,h4⟩
theorem Qa.block{id:Nat}{c:Code}(h:Qa C n c (xe id Q) e H):Qa C n (.block id c) Q e H:=λa w L hE hH=>by
 refine wp_block (Go.wp_mono (h a w L hE hH) λex a' w' hq=>?_);obtain⟨e',H',L',h1,h2,h3,h4⟩:=hq
 cases ex with
 |exit qH=>simp only[Exit.inBlock,xe] at h4 ⊢;split;rename_i hid;rw[zp hid] at h4;exact⟨e',H',L',h1,h2,h3,h4⟩;rename_i hid;rw[zn hid] at h4;exact⟨e',H',L',h1,h2,h3,h4⟩
 |normal=>exact⟨e',H',L',h1,h2,h3,h4⟩
 |goto id=>exact⟨e',H',L',h1,h2,h3,h4⟩
 |ret=>exact⟨e',H',L',h1,h2,h3,h4⟩
 |panic ch=>exact⟨e',H',L',h1,h2,h3,h4⟩
 |outgrown=>exact⟨e',H',L',h1,h2,h3,h4⟩
theorem Qa.skip(h:Q .normal e H):Qa C n .skip Q e H:=λ_ _ L hE hH=>wp_skip ⟨e,H,L,Fr.refl _ _ _,hH,hE,h⟩
theorem Qa.exit{id:Nat}(h:Q (.exit id) e H):Qa C n (.exit id) Q e H:=λ_ _ L hE hH=>wp_exit ⟨e,H,L,Fr.refl _ _ _,hH,hE,h⟩
theorem Qa.ret(h:Q .ret e H):Qa C n .ret Q e H:=λ_ _ L hE hH=>wp_ret ⟨e,H,L,Fr.refl _ _ _,hH,hE,h⟩
theorem oC{c:Operand}{x y:Code}{t:Bool}(hc:e.ev c=.atom (.bool t))(ht:t=true->Qa C n x Q e H)(hf:t=false->Qa C n y Q e H):Qa C n (.cond c x y) Q e H:=
 λa w L hE hH=>by have hv:=hE.ev c;rw[hc] at hv;simp only[wb] at hv;exact wp_cond_split hv (λh=>ht h a w L hE hH) λh=>hf h a w L hE hH
theorem Ca{c:Operand}{x y:Code}{t:Bool}(ht:t=true->Qa C n x Q e H)(hf:t=false->Qa C n y Q e H)(hc:e.ev c=.atom (.bool t):=by rfl):Qa C n (.cond c x y) Q e H:=oC hc ht hf
theorem Qa.region{id:Nat}{l:List Oper}(h:wa C n l.toArray Q l e H):Qa C n (.region id l.toArray false) Q e H:=λa w L hE hH=>wp_region_lit (h a w L hE hH)
theorem qjM{P:Program}{Q:Exit->Act->World->Prop}(I:Nat->Act->World->Prop)
  (round:∀ n a w,I n a w->c.wp P (Exit.then (λa' w'=>∃ m,m<n/\I m a' w') Q) a w) {n:Nat} {a:Act} {w:World} (h₀:I n a w):(Code.loop c).wp P Q a w:=by
 intro b k cs;have key:∀ n a w,I n a w ->
   ∃ e a' w',Q e a' w'/\Arrives P (lone (b.at a (.code c::.inLoop c::k)) cs w) b k cs e a' w':=by
  intro n;induction n using Nat.strongRecOn with
  |_ n ih=>
   intro a w hI;obtain⟨e,a₁,w₁,hq,Rt⟩:=round n a w hI b (.inLoop c::k) cs;cases e with
   |normal=>obtain⟨m,za,hI₁⟩:=hq;obtain⟨e₂,a₂,w₂,hq₂,wR⟩:=ih m za a₁ w₁ hI₁;exact⟨e₂,a₂,w₂,hq₂,.of_steps (Steps.trans Rt (.one step_inLoop)) wR⟩
   |exit id=>exact⟨_,a₁,w₁,hq,.pass (x:=.inLoop c) rfl (λ_ _=>.inl (by simp)) Rt⟩
   |goto l=>exact⟨_,a₁,w₁,hq,.pass (x:=.inLoop c) rfl (λ_ _=>.inl (by simp)) Rt⟩
   |ret=>exact⟨_,a₁,w₁,hq,.pass (x:=.inLoop c) rfl (λ_ _=>.inl (by simp)) Rt⟩
   |panic ch=>exact⟨_,a₁,w₁,hq,.pass (x:=.inLoop c) rfl (λ_ _=>.inl (by simp)) Rt⟩
   |outgrown=>exact⟨_,a₁,w₁,hq,.pass (x:=.inLoop c) rfl (λ_ _=>.inl (by simp)) Rt⟩
 obtain⟨e,a',w',hq,Rt⟩:=key n a w h₀;exact⟨e,a',w',hq,.of_steps (.one step_loop) Rt⟩
theorem Qa.loop{c:Code}(I:Nat->Env->Heap->Prop)(k:Nat)(h0:I k e H)
  (round:∀ k e H,I k e H->Qa C n c (Ud (λe' H'=>∃ m,m<k/\I m e' H') Q) e H):Qa C n (.loop c) Q e H:=λa w L hE hH=>by
 refine qjM (I:=λk a' w'=>∃ e' H' L',Fr (keys H) w L w' L' H'/\Ma C w' L' H'/\nc n a' e' w' L'/\I k e' H') (n:=k) ?_ ⟨e,H,L,Fr.refl _ _ _,hH,hE,h0⟩;rintro k a1 w1 ⟨e1,H1,L1,h1,h2,h3,h4⟩;refine Go.wp_mono (round k e1 H1 h4 a1 w1 L1 h3 h2) λex a' w' hq=>?_;obtain⟨e',H',L',g1,g2,g3,g4⟩:=hq
 cases ex with
 |normal=>obtain⟨m,hm,g4⟩:=g4;exact⟨m,hm,e',H',L',h1.trans g1,g2,g3,g4⟩
 |exit id=>exact⟨e',H',L',h1.trans g1,g2,g3,g4⟩
 |goto id=>exact⟨e',H',L',h1.trans g1,g2,g3,g4⟩
 |ret=>exact⟨e',H',L',h1.trans g1,g2,g3,g4⟩
 |panic ch=>exact⟨e',H',L',h1.trans g1,g2,g3,g4⟩
 |outgrown=>exact⟨e',H',L',h1.trans g1,g2,g3,g4⟩
def Env.Nf(j:Env):List (Nat×LV)->Env
 |[]=>j
 |(d,v)::r=>(Env.Nf j r).Sd d v
theorem Env.ej{v:LV}(h:e.s d=v):e.Sd d v=e:=by
 obtain⟨s,ds⟩:=e;simp only[Env.Sd,Env.mk.injEq,and_true];funext i;cases hb:Nat.beq i d with
 |false=>rfl
 |true=>have:=Nat.eq_of_beq_eq_true hb;subst this;exact h.symm
theorem Env.sd{e:Env}:∀ {l:List (Nat×LV)},(∀ p∈l,e.s p.1=p.2)->Env.Nf e l=e
 |[],_=>rfl
 |(d,v)::r,h=>by simp only[Env.Nf];rw[Env.sd (l:=r) (λp hp=>h p (Gc _ hp))];exact Env.ej (h (d,v) List.mem_cons_self)
end code
section NR
variable{C:Ctx}{n:Nat}{Q:uc}{e:Env}{H:Heap}{k:Env->Heap->Prop}{id qH:Nat}
theorem qN(h:k e H):Ud k Q .normal e H:=h
theorem Ud.exit(h:Q (.exit id) e H):Ud k Q (.exit id) e H:=h
theorem Ud.ret(h:Q .ret e H):Ud k Q .ret e H:=h
theorem Ud.panic{ch:List PanicEntry}(h:Q (.panic ch) e H):Ud k Q (.panic ch) e H:=h
theorem xe.hit(h:Q .normal e H):xe id Q (.exit id) e H:=by simp only[xe,if_true];exact h
theorem xe.gQ(hn:qH≠id)(h:Q (.exit qH) e H):xe id Q (.exit qH) e H:=by simp only[xe,zn hn];exact h
theorem xe.normal(h:Q .normal e H):xe id Q .normal e H:=h
theorem xe.ret(h:Q .ret e H):xe id Q .ret e H:=h
theorem xe.panic{ch:List PanicEntry}(h:Q (.panic ch) e H):xe id Q (.panic ch) e H:=h
theorem oB{ops:Array Oper}(d:Nat){b:Bool}(hb:e.s d=bool b)(ht:b=true->wa C n ops Q rest (e.Sd d (bool true)) H)(hf:b=false->wa C n ops Q rest (e.Sd d (bool false)) H):wa C n ops Q rest e H:=by cases b;have:=hf rfl;rwa [Env.ej hb] at this;have:=ht rfl;rwa [Env.ej hb] at this
theorem Qa.Nf{c:Code}(l:List (Nat×LV))(h:∀ p∈l,e.s p.1=p.2)(k:∀ j:Env,j.ds=e.ds->Qa C n c Q (Env.Nf j l) H):Qa C n c Q e H:=by have:=k e rfl;rwa [Env.sd h] at this
theorem Qa.sub{v v':LV}(hv:e.s d=v)(hs:v.Sub v')(h:Qa C n c Q (e.Sd d v') H):Qa C n c Q e H:=λa w L hE hH=>by
 refine h a w L ⟨hE.size,hE.ds,λi=>?_⟩ hH;simp only[Env.Sd]
 cases hb:Nat.beq i d with
 |false=>exact hE.dj i
 |true=>have hi:=Nat.eq_of_beq_eq_true hb;subst hi;have:=hE.dj i;rw[hv] at this;exact hs _ _ _ this
theorem wa.sub{ops:Array Oper}(d:Nat){v v':LV}(hv:e.s d=v)(hs:v.Sub v')(h:wa C n ops Q rest (e.Sd d v') H):wa C n ops Q rest e H:=λa w L hE hH=>by
 refine h a w L ⟨hE.size,hE.ds,λi=>?_⟩ hH;simp only[Env.Sd]
 cases hb:Nat.beq i d with
 |false=>exact hE.dj i
 |true=>have hi:=Nat.eq_of_beq_eq_true hb;subst hi;have:=hE.dj i;rw[hv] at this;exact hs _ _ _ this
theorem NU{K:List Nat}(hK:∀ b∈K,b∈keys H1){x:Exit}{a:Act}(h:lift C n w L K Q x a w'):lift C n w L (keys H1) Q x a w':=
 let ⟨e',H',L',h1,h2,h3,h4⟩:=h
 ⟨e',H',L',⟨h1.os,h1.tape,h1.output,h1.ext,λb hb hn=>h1.block b hb λk=>hn (hK b k),λb hb hn=>h1.ck b hb λk=>hn (hK b k),λp hp=>(h1.OC p hp).imp (hK _) id⟩,h2,h3,h4⟩
theorem HSub.keys{H' H:Heap}(s:HSub H' H):∀ b∈keys H',b∈GL.keys H:=λb hb=>by obtain⟨p,hp,rfl⟩:=Ei hb;obtain⟨G,hG⟩:=s;exact List.mem_map_of_mem (hG.mem_iff.2 (List.mem_append_left _ hp))
theorem cW(s:HSub H' H)(h:Qa C n c Q e H'):Qa C n c Q e H:=λa w L hE hH=>Go.wp_mono (h a w L hE (hH.Zb s)) λ_ _ _=>NU s.keys
theorem wa.Zb{ops:Array Oper}{rest:List Oper}{H':Heap}(s:HSub H' H)(h:wa C n ops Q rest e H'):wa C n ops Q rest e H:=λa w L hE hH=>GA (λ_ _ _=>NU s.keys) _ _ _ (h a w L hE (hH.Zb s))
theorem Qa.perm(s:H.Perm H')(h:Qa C n c Q e H'):Qa C n c Q e H:=cW ⟨[],by simpa using s⟩ h
end NR
def Yl(tmps:Array Value):ResultVar->Sem Value
 |.tmp t=>Pure.pure (tmps.getD t undef)
 |.cell a t=>do loadVar t (<-asAddr (tmps.getD a undef))
def Xl(C:Ctx)(n:Nat)(e:Env)(H:Heap)(r:ResultVar)(lv:LV):Prop:=
 ∀ a w L,nc n a e w L->Ma C w L H->∃ v,(Yl a.tmps r).run C.P w=.ok v w/\wb w L lv v
def Zl(C:Ctx)(n:Nat)(e:Env)(H:Heap):List ResultVar->List LV->Prop
 |[],[]=>True
 |r::rs,v::vs=>Xl C n e H r v/\Zl C n e H rs vs
 |_,_=>False
def qh:List LV->LV
 |[v]=>v
 |vs=>.tuple vs
def od(C:Ctx)(n:Nat)(rs:List ResultVar)(R:re->Heap->Prop):uc
 |.normal,e,H|.ret,e,H=>e.ds=[]/\∃ vs H',Zl C n e H rs vs/\HSub H' H/\R (.ret (qh vs)) H'
 |.panic ch,e,H=>e.ds=[]/\∃ H',HSub H' H/\R (.panic ch) H'
 |_,_,_=>False
def yG(args:List LV):Env:=⟨λi=>(args[i]?).getD (.atom undef),[]⟩
theorem la.length{w:World}{L:Live}:∀ {cs:List LV} {xs:List Value},la w L cs xs->xs.length=cs.length
 |[],xs,h=>by simp only[la] at h;subst h;rfl
 |c::cs,xs,h=>by simp only[la] at h;obtain⟨y,ys,rfl,_,h⟩:=h;simp[la.length h]
theorem la.get{w:World}{L:Live}:∀ {cs:List LV} {xs:List Value},la w L cs xs->∀ {i:Nat} {c:LV},cs[i]? = some c->∃ x,xs[i]? = some x/\wb w L c x
 |[],_,_,i,c,hc=>by simp at hc
 |c::cs,xs,h,i,c',hc=>by
  simp only[la] at h;obtain⟨y,ys,rfl,h1,h⟩:=h;cases i with
  |zero=>simp at hc;subst hc;exact⟨y,rfl,h1⟩
  |succ i=>simpa using la.get h (i:=i) (by simpa using hc)
theorem rE{P:Program}{α β:Type}{s:Sem α}{f:α->Sem β}{v:α}(h:s.run P w=.ok v w'):(s >>= f).run P w=(f v).run P w':=by rw[wc,h];try rfl
theorem qqn{P:Program}{fn:Func}(h:fn.results=#[])(tmps:Array Value)(w:World):(results fn tmps).run P w=.ok (.tuple #[]) w:=by simp[results,h]
theorem qvD{P:Program}{fn:Func}{r:ResultVar}(h:fn.results=#[r])(h1:(Yl tmps r).run P w=.ok v w):(results fn tmps).run P w=.ok v w:=by
 have:results fn tmps=Yl tmps r:=by cases r <;> simp[results,h,Yl]
 rw[this,h1]
theorem qvT{P:Program}{fn:Func}{r s:ResultVar}(h:fn.results=#[r,s]){u:Value}(h1:(Yl tmps r).run P w=.ok v w)(h2:(Yl tmps s).run P w=.ok u w) :
  (results fn tmps).run P w=.ok (.tuple #[v,u]) w:=by
 have:results fn tmps=(do let v <-Yl tmps r;let u <-Yl tmps s;Pure.pure (.tuple #[v,u])):=by cases r <;> cases s <;> simp[results,h,Yl]
 rw[this,rE h1,rE h2];try rfl
theorem qvh{P:Program}{fn:Func}{r s t:ResultVar}(h:fn.results=#[r,s,t]){u x:Value}(h1:(Yl tmps r).run P w=.ok v w)(h2:(Yl tmps s).run P w=.ok u w)(h3:(Yl tmps t).run P w=.ok x w) :
  (results fn tmps).run P w=.ok (.tuple #[v,u,x]) w:=by
 have:results fn tmps=(do let v <-Yl tmps r;let u <-Yl tmps s;let x <-Yl tmps t;Pure.pure (.tuple #[v,u,x])):=by cases r <;> cases s <;> cases t <;> simp[results,h,Yl]
 rw[this,rE h1,rE h2,rE h3];try rfl
theorem jZ{fn:Func}{a:Act}(hE:nc n a e w L)(hH:Ma C w L H){vs:List LV}
  (h:Zl C n e H fn.results.toList vs) (h3:fn.results.size<=3):∃ v,(results fn a.tmps).run C.P w=.ok v w/\wb w L (qh vs) v:=by
 obtain⟨rs,vk⟩:∃ rs,fn.results=List.toArray rs:=⟨fn.results.toList,by simp⟩;rw[vk] at h h3;simp only[List.size_toArray] at h h3;match rs,vs,h,h3,vk with
 |[],[],_,_,vk=>exact⟨_,qqn vk _ _,by simp only[qh,wb];exact⟨[],rfl,by simp only[la]⟩⟩
 |[r],[x],h,_,vk=>obtain⟨v,hv,hr⟩:=h.1 a w L hE hH;exact⟨v,qvD vk hv,hr⟩
 |[r,s],[x,y],h,_,vk=>obtain⟨v,hv,hr⟩:=h.1 a w L hE hH;obtain⟨u,hu,hs⟩:=h.2.1 a w L hE hH;exact⟨_,qvT vk hv hu,by simp only[qh,wb];exact⟨[v,u],rfl,by simp only[la];exact⟨v,_,rfl,hr,u,_,rfl,hs,rfl⟩⟩⟩
 |[r,s,t],[x,y,z],h,_,vk=>obtain⟨v,hv,hr⟩:=h.1 a w L hE hH;obtain⟨u,hu,hs⟩:=h.2.1 a w L hE hH;obtain⟨q,hq,ht⟩:=h.2.2.1 a w L hE hH;exact⟨_,qvh vk hv hu hq,by simp only[qh,wb];exact⟨[v,u,q],rfl,by simp only[la];exact⟨v,_,rfl,hr,u,_,rfl,hs,q,_,rfl,ht,rfl⟩⟩⟩
 |_::_::_::_::_,_,_,h3,_=>simp at h3
 |[],_::_,h,_,_=>exact h.elim
 |[_],[],h,_,_=>exact h.elim
 |[_],_::_::_,h,_,_=>exact h.2.elim
 |[_,_],[],h,_,_=>exact h.elim
 |[_,_],[_],h,_,_=>exact h.2.elim
 |[_,_],_::_::_::_,h,_,_=>exact h.2.2.elim
 |[_,_,_],[],h,_,_=>exact h.elim
 |[_,_,_],[_],h,_,_=>exact h.2.elim
 |[_,_,_],[_,_],h,_,_=>exact h.2.2.elim
 |[_,_,_],_::_::_::_::_,h,_,_=>exact h.2.2.2.elim
theorem Xa{f:FuncId}{fn:Func}{args:List LV}{R:re->Heap->Prop}(hf:C.P.funcs[f]? = some fn)(hb:fn.body=some c)(hn:fn.ntmps=n)(h3:Nat.ble fn.results.size 3=true)
  (hl:Nat.ble args.length n=true) (h:Qa C n c (od C n fn.results.toList R) (yG args) H):ca C f args H R:=λvs w L hv hH=>by
 subst hn;have kx:args.length<=fn.ntmps:=by simpa using hl
 have Gr:fn.results.size<=3:=by simpa using h3
 have hlen:=hv.length;refine calls_of_wp hf hb (Go.wp_mono (h _ w L ⟨?_,rfl,λi=>?_⟩ hH) λex a' w' hq=>?_)
 simp;omega;exact uN;obtain⟨e',H',L',g1,g2,g3,g4⟩:=hq;have ret:nc fn.ntmps a' e' w' L'->(e'.ds=[]/\∃ vs ph,Zl C fn.ntmps e' H' fn.results.toList vs/\HSub ph H'/\R (.ret (qh vs)) ph) ->
   a'.defers=[]/\∃ v,(results fn a'.tmps).run C.P w'=.ok v w'/\Bz C w L H (λv=>R (.ret v)) (λch=>R (.panic ch)) (.returned v) w':=λhE hr=>by
  obtain⟨h1,lC,ph,h2,h4,h5⟩:=hr;obtain⟨v,r1,r2⟩:=jZ hE g2 h2 Gr;exact⟨hE.ds.trans h1,v,r1,qh lC,ph,L',g1.Zb h4,g2.Zb h4,r2,h5⟩
 cases ex with
 |normal=>exact ret g3 g4
 |ret=>exact ret g3 g4
 |panic ch=>obtain⟨h1,ph,h4,h5⟩:=g4;exact⟨g3.trans h1,ph,L',g1.Zb h4,g2.Zb h4,h5⟩
 |exit id=>exact g4.elim
 |goto id=>exact g4.elim
 |outgrown=>exact g4.elim
theorem Gd{t:Nat}{v:LV}(hv:e.s t=v)(h:v.Sub lv):Xl C n e H (.tmp t) lv:=λa w L hE _=>by have:=hE.dj t;rw[hv] at this;exact⟨_,rfl,h _ _ _ this⟩
end Go.GL
