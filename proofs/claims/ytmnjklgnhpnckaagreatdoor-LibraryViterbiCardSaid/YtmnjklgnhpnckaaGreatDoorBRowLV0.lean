import Derived.Below
import Derived.OrdersHeld
import Derived.Deep.Quiet
set_option linter.unusedVariables false
set_option linter.unusedSimpArgs false
set_option maxRecDepth 100000
set_option maxHeartbeats 4000000
theorem ga{P:Prop}(h:P:=by omega):P:=h
theorem zn{c:Prop}{h:Decidable c}(k:¬c){α:Sort _}{t e:α}:@ite α c h t e=e:=if_neg k
theorem zp{c:Prop}{h:Decidable c}(k:c){α:Sort _}{t e:α}:@ite α c h t e=t:=if_pos k
theorem zR{α:Type _}{o:Option α}(h:o.isSome=true):∃ a,o=some a:=Option.isSome_iff_exists.1 h
theorem Vi{α:Type _}{a b:α}(h:a∈[b]):a=b:=List.mem_singleton.1 h
theorem Mo{α:Type _}{a b:α}(h:a=b):a∈[b]:=List.mem_singleton.2 h
theorem Xm{α:Type _}{s t:List α}(h:(s++t).Nodup):s.Nodup/\t.Nodup/\∀ a∈s,∀ b∈t,a≠b:=List.nodup_append.1 h
theorem xj{α:Type _}{a:α}{s t:List α}(h:a∈s++t):a∈s∨a∈t:=List.mem_append.1 h
theorem Ip{α:Type _}{a:α}{s t:List α}(h:a∈s∨a∈t):a∈s++t:=List.mem_append.2 h
theorem Qh{α β:Type _}{f:α->β}{b:β}{l:List α}(h:b∈l.map f):∃ a,a∈l/\f a=b:=List.mem_map.1 h
theorem qk{α β:Type _}{f:α->β}{b:β}{l:List α}(h:∃ a,a∈l/\f a=b):b∈l.map f:=List.mem_map.2 h
theorem jm{α:Type _}(a b:α):(some a=some b)=(a=b):=Option.some.injEq a b
theorem ag{p:Prop}[Decidable p](h:decide p=true):p:=of_decide_eq_true h
theorem al{α:Type _}{a:α}{l:List α}:(a::l)[0]?=some a:=List.getElem?_cons_zero
theorem dr{α:Type _}{a:α}{l:List α}{i:Nat}:(a::l)[i+1]?=l[i]?:=List.getElem?_cons_succ
theorem jh{α:Type _}{l:List α}{i:Nat}(h:i<l.length):l[i]?=some l[i]:=List.getElem?_eq_getElem h
theorem Fg{α:Type _}{a:α}{l:List α}:a∈a::l:=List.Mem.head _
theorem Uk:(false=true)=False:=Bool.false_eq_true
theorem gv{α:Type _}{l:List α}(h:l.length=1):∃ a,l=[a]:=List.length_eq_one_iff.1 h
theorem Nf{p:Prop}[Decidable p](h:p):decide p=true:=decide_eq_true h
theorem Vs{α:Type _}(a:α){s t:List α}(h:s.Perm t):(a::s).Perm (a::t):=.cons a h
theorem cr{α:Type _}(a b:α)(l:List α):(b::a::l).Perm (a::b::l):=.swap a b l
theorem Ui(b:Bool):(false&&b)=false:=Bool.false_and b
theorem Ac{α β:Type}(P:Go.Program)(w:Go.World)(x:Go.Sem α)(f:α->Go.Sem β):Go.Sem.run P (x>>=f) w=(Go.Sem.run P x w).andThen λa w'=>Go.Sem.run P (f a) w':=Go.Sem.run_bind ..
theorem Yd{α:Type}(P:Go.Program)(w:Go.World)(a:α):Go.Sem.run P (pure a) w=.ok a w:=Go.Sem.run_pure ..
theorem ad{α β:Type}(a:α)(w:Go.World)(f:α->Go.World->Go.Result β):(Go.Result.ok a w).andThen f=f a w:=rfl
theorem Ga{α : Type _}{a b : List α} : (a ++ b).length = a.length + b.length := List.length_append
theorem La{α : Type _}{a : α}{l : List α} : (a :: l).length = l.length + 1 := rfl
theorem oc{α : Type _} : ([] : List α).length = 0 := rfl
theorem Db{α β : Type _}{l : List α}(f : α -> β) : (l.map f).length = l.length := List.length_map f
theorem de{α : Type _}(l : List α) : l ++ [] = l := List.append_nil l
theorem Sc{α : Type _}(a b c : List α) : a ++ b ++ c = a ++ (b ++ c) := List.append_assoc a b c
theorem We{α : Type _}{a : α}{l : List α} : a ∈ a :: l := List.mem_cons_self ..
theorem Pc{α : Type _}(b : α){a : α}{l : List α}(h : a ∈ l) : a ∈ b :: l := List.mem_cons_of_mem b h
theorem zc{α : Type _}{a b : α}{l : List α} : a ∈ b :: l ↔ a = b ∨ a ∈ l := List.mem_cons
theorem Z6{α : Type _}(l : List α) : l <+: l := List.prefix_refl l
theorem Je{α β : Type _}{f : α -> β}{l₁ l₂ : List α} : (l₁ ++ l₂).map f = l₁.map f ++ l₂.map f := List.map_append
theorem jd{α β : Type _}{f : α -> β}{a : α}{l : List α} : (a :: l).map f = f a :: l.map f := rfl
theorem gi{α : Type _}{l₁ l₂ : List α} : (l₁ ++ l₂).Perm (l₂ ++ l₁) := List.perm_append_comm
theorem Gg{p : Prop} [Decidable p] : (decide p = true) = p := decide_eq_true_eq
theorem sd(a b : Bool) : ((a && b) = true) = (a = true /\ b = true) := Bool.and_eq_true a b
theorem Jb(n : Nat) : n <= n := Nat.le_refl n
theorem Qf{a b c : Nat}(h : a <= b)(k : b <= c) : a <= c := Nat.le_trans h k
theorem zCs{α : Type _}{a b : α}(h : a = b := by kernel_rfl) : some a = some b := congrArg some h
theorem fa{P : Prop}(h : P := by decide) : P := h
theorem tj{P Q:Prop}(h:Q)(t:(Unit->Q)->P:=by intro zu;(refine oS (sL [_] rfl (gd rfl rfl Ch) rfl rfl rfl ?_));exact zu ()):P:=t λ_=>h
theorem NA{P Q:Prop}(h:Q)(t:(Unit->Q)->P:=by intro zu;(refine Da ?_;refine rR rfl (eb rfl) yd ⟨?_,rfl⟩);exact zu ()):P:=t λ_=>h
theorem KW{P Q:Prop}(h:Q)(t:(Unit->Q)->P:=by intro zu;(refine Rj (i:=4) zk ?_;refine lW rfl (.inl rfl) rfl (sS (Ob:=[_]) rfl Fi rfl rfl rfl rfl rfl ?_);refine Rj (i:=5) zk ?_;refine lW rfl (.inl rfl) rfl (sS (Ob:=[_]) rfl Fi rfl rfl rfl rfl rfl ?_);refine lD zk ?_;refine Da ?_);exact zu ()):P:=t λ_=>h
theorem zQ3{P Q:Prop}(h:Q)(t:(Unit->Q)->P:=by intro zu;(refine oS (S.Ki (kt:=54) (el:=136) (kd:=.u32) zk zk rfl rfl rfl pH rfl rfl ?_);refine oS (S.Ki (kt:=54) (el:=136) (kd:=.u32) zk zk rfl rfl rfl pH rfl rfl ?_);refine oS (S.Ki (kt:=54) (el:=136) (kd:=.u32) zk zk rfl rfl rfl pH rfl rfl ?_);refine oS (S.Ki (kt:=54) (el:=136) (kd:=.u32) zk zk rfl rfl rfl pH rfl rfl ?_));exact zu ()):P:=t λ_=>h
theorem IW{P Q:Prop}(h:Q)(t:(Unit->Q)->P:=by intro zu;(refine Rj (i:=10) zk ?_;refine lH rfl rfl (pN rfl) ?_;refine Rj (i:=11) zk ?_;refine lH rfl rfl (pF rfl) ?_;refine Rj (i:=12) zk ?_;refine lW rfl (.inl rfl) rfl (sS (n:=1) (vs:=[v']) (Ob:=[_,_,_,_,_,v',_,_,_,_]) rfl pH (iY ab).1 rfl rfl (iY ab).2 rfl ?_);refine lD zk ?_;refine Da ?_);exact zu ()):P:=t λ_=>h
theorem ir{P Q:Prop}(h:Q)(t:(Unit->Q)->P:=by intro zu;(refine oS (sL [_,_] rfl (Wu [_,_]) rfl rfl rfl ?_));exact zu ()):P:=t λ_=>h
theorem lT{P Q:Prop}(h:Q)(t:(Unit->Q)->P:=by intro zu;(refine Yn ?_;refine oS (sF [] rfl h1 ?_);refine oS (sF [] rfl h2 ?_);refine la (Pure.Ey rfl rfl (by first|omega|(simp only[Ga];omega))) ?_;refine oS (sF [] rfl h3 ?_);refine la (Pure.Ey rfl rfl (by first|omega|(simp only[Ga];omega))) ?_);exact zu ()):P:=t λ_=>h
theorem kT{P Q:Prop}(h:Q)(t:(Unit->Q)->P:=by intro zu;(refine aT 0 rfl rfl (pM (lv:=.atom _) rfl) ?_;refine aT 1 rfl rfl (pM (lv:=.atom _) rfl) ?_;refine aT 2 rfl rfl (pN rfl) ?_;refine aT 3 rfl rfl (pF rfl) ?_);exact zu ()):P:=t λ_=>h
theorem zQ8{P Q:Prop}(h:Q)(t:(Unit->Q)->P:=by intro zu;(refine Rj (i:=11) zk ?_;refine lH rfl rfl (pN rfl) ?_;refine Rj (i:=12) zk ?_;refine lH rfl rfl (pF rfl) ?_;refine Rj (i:=13) zk ?_;refine lW rfl (.inl rfl) rfl (sS (n:=1) (vs:=[LV.atom v']) (Ob:=[_,_,_,_,_,_,_,_,_,_]) rfl pH (nU ZD).1 rfl rfl (nU ZD).2 rfl ?_);refine lD zk ?_;refine wa ?_);exact zu ()):P:=t λ_=>h
theorem NL{P Q:Prop}(h:Q)(t:(Unit->Q)->P:=by intro zu;(refine aT 0 rfl rfl (pM (lv:=.atom _) rfl) ?_;refine aT 1 rfl rfl (pN rfl) ?_;refine aT 2 rfl rfl (pF rfl) ?_);exact zu ()):P:=t λ_=>h
theorem qv{P Q:Prop}(h:Q)(t:(Unit->Q)->P:=by intro zu;(refine wa ?_;refine la (xR (ke:=Ab x) (cs:=[_,_,_,_]) rfl rfl fa rfl rfl rfl) ?_;refine Na ?_);exact zu ()):P:=t λ_=>h
theorem tm{P Q:Prop}(h:Q)(t:(Unit->Q)->P:=by intro zu;(refine oS (sL [_] rfl (Wu [_]) rfl rfl rfl ?_));exact zu ()):P:=t λ_=>h
theorem Xi{P Q:Prop}(h:Q)(t:(Unit->Q)->P:=by intro zu;(refine la (pM (lv:=v) rfl) ?_);exact zu ()):P:=t λ_=>h
theorem LW{P Q:Prop}(h:Q)(t:(Unit->Q)->P:=by intro zu;(refine cD (m:=7) rfl [(b1,.cells 193 [.list (v.map str),.atom (.map (some m))])] ?_;refine aT 0 rfl rfl (pM (lv:=.atom _) rfl) ?_;refine aT 1 rfl rfl (pF rfl) ?_;refine aT 2 rfl rfl (pL (c:=.list _) rfl nc rfl) ?_;refine aT 3 rfl rfl (pM (lv:=.atom _) rfl) ?_;refine yb.take (i:=4) ob rfl zk zk zk rfl (Pure.Tr (es:=v.map str) (i:=0) (j:=(n:Int)) rfl rfl ⟨_,rfl⟩ zo zo (by rw[zC];omega) (zH v)) ?_;refine aT 5 rfl rfl (pA (lv:=.atom _) rfl) ?_;refine aT 6 rfl rfl (pA (lv:=.list _) rfl) ?_);exact zu ()):P:=t λ_=>h
theorem BO{P Q:Prop}(h:Q)(t:(Unit->Q)->P:=by intro zu;(refine cD (m:=11) rfl [(b3,.cells 217 [int .i64 kind,str name,.list (([]:List Ex).map Ab),.list ([x0].map Ab),.list (Ua.map lc),.list (Cb.map lc)])] ?_;refine aT 0 rfl rfl (pM (lv:=.atom _) rfl) ?_;refine aT 1 rfl rfl (pM (lv:=.atom _) rfl) ?_;refine aT 2 rfl rfl (pF rfl) ?_;refine aT 3 rfl rfl (pL (c:=.list _) rfl nc rfl) ?_;refine aT 5 rfl rfl (pM (lv:=.atom _) rfl) ?_;refine aT 6 rfl rfl (pF rfl) ?_;refine aT 7 rfl rfl (pL (c:=.list _) rfl nc rfl) ?_);exact zu ()):P:=t λ_=>h
theorem vt{P Q:Prop}(h:Q)(t:(Unit->Q)->P:=by intro zu;(refine la (pI rfl rfl zo Vh) ?_);exact zu ()):P:=t λ_=>h
theorem rm{P Q:Prop}(h:Q)(t:(Unit->Q)->P:=by intro zu;(refine la (pA (lv:=v') rfl) ?_);exact zu ()):P:=t λ_=>h
theorem kJ{P Q:Prop}(h:Q)(t:(Unit->Q)->P:=by intro zu;(refine aT 9 rfl rfl (pM (lv:=.atom _) rfl) ?_;refine aT 10 rfl rfl (pN rfl) ?_;refine aT 11 rfl rfl (pF rfl) ?_;refine aT 12 rfl rfl (pL (c:=.atom _) rfl Oh rfl) ?_;refine aL ?_ (tc pH qd));exact zu ()):P:=t λ_=>h
theorem jJ{P Q:Prop}(h:Q)(t:(Unit->Q)->P:=by intro zu;(refine lO 6 (lH rfl rfl (pF rfl) ?_);refine lO 7 (lW rfl (.inl rfl) rfl (sS (Ob:=[v1,v',v3]) rfl Od (Acc.cell Fo).1 rfl rfl (Acc.cell Fo).2 rfl ?_));refine lD zk ?_;refine Da ?_);exact zu ()):P:=t λ_=>h
theorem iJ{P Q:Prop}(h:Q)(t:(Unit->Q)->P:=by intro zu;(refine lO 6 (lH rfl rfl (pF rfl) ?_);refine lO 7 (lW rfl (.inl rfl) rfl (sS (Ob:=[v1,v2,v']) rfl Od (Acc.cell Fo).1 rfl rfl (Acc.cell Fo).2 rfl ?_));refine lD zk ?_;refine Da ?_);exact zu ()):P:=t λ_=>h
theorem qm{P Q:Prop}(h:Q)(t:(Unit->Q)->P:=by intro zu;(refine fb.quiet zk ?_;refine Na ?_);exact zu ()):P:=t λ_=>h
theorem NE{P Q:Prop}(h:Q)(t:(Unit->Q)->P:=by intro zu;(refine Ti ?_;refine la (xR (ke:=uj l[i]) (cs:=[_,_]) rfl rfl zo (Ln _ _ _ Ja) rfl rfl) ?_;refine Na ?_);exact zu ()):P:=t λ_=>h
theorem AO{P Q:Prop}(h:Q)(t:(Unit->Q)->P:=by intro zu;(refine Rj (i:=8) zk ?_;refine lW rfl (.inl rfl) rfl (sL (es:=[int .u8 (IntKind.u8.wrap (v:Int))]) [_] rfl (gd rfl rfl Ch) rfl rfl rfl ?_);refine Rj (i:=9) zk ?_);exact zu ()):P:=t λ_=>h
theorem zO{P Q:Prop}(h:Q)(t:(Unit->Q)->P:=by intro zu;(refine lO 9 (lH rfl rfl (Pure.Lq (Kf c x0) (ql c Ua) (ql c Cb) rfl rfl rfl rfl rfl rfl) ?_);refine lO 10 (lH rfl rfl (pA (lv:=.atom _) rfl) ?_);refine lD zk ?_;refine xa ?_;refine la (Pure.Ej 2 (max (max (Kf c x0) (ql c Ua)) (ql c Cb)) rfl rfl rfl rfl) ?_;refine dd ?_);exact zu ()):P:=t λ_=>h
theorem JW{P Q:Prop}(h:Q)(t:(Unit->Q)->P:=by intro zu;(refine lW rfl (.inl rfl) rfl (sS (Ob:=[_]) rfl Fi rfl rfl rfl rfl rfl ?_);refine Rj (i:=2) zk ?_;refine lH rfl rfl (pL (c:=.atom _) rfl sy rfl) ?_;refine Rj (i:=5) zk ?_;refine lW rfl (.inl rfl) rfl (sS (Ob:=[_]) rfl Fi rfl rfl rfl rfl rfl ?_);refine lD zk ?_;refine Da ?_);exact zu ()):P:=t λ_=>h
theorem gJ{P Q:Prop}(h:Q)(t:(Unit->Q)->P:=by intro zu;(refine qP (Pure.to (Pure.Tv rfl rfl) (congrArg (int .i64) (Nt (n:=2 * (k:Int)) zo))) rfl ?_;refine Na ?_;refine qP (pI rfl rfl zo hg) rfl ?_);exact zu ()):P:=t λ_=>h
theorem xy{P Q:Prop}(h:Q)(t:(Unit->Q)->P:=by intro zu;(refine Gv.seq (Gv.recover rfl rfl ?_);refine Gv.of ?_);exact zu ()):P:=t λ_=>h
theorem ME{P Q:Prop}(h:Q)(t:(Unit->Q)->P:=by intro zu;(refine lW rfl (.inl rfl) rfl (sS (Ob:=[_,_,_]) rfl Fi rfl rfl rfl rfl rfl ?_));exact zu ()):P:=t λ_=>h
theorem wy{P Q:Prop}(h:Q)(t:(Unit->Q)->P:=by intro zu;(refine la (Pure.FV (i:=s) (q:=2 * s) rfl rfl rfl iw zo) ?_);exact zu ()):P:=t λ_=>h
theorem MA{P Q:Prop}(h:Q)(t:(Unit->Q)->P:=by intro zu;(refine lW rfl (.inl rfl) rfl (sL [_] rfl (gd rfl rfl Ch) rfl rfl rfl ?_));exact zu ()):P:=t λ_=>h
theorem ov{P Q:Prop}(h:Q)(t:(Unit->Q)->P:=by intro zu;(refine xg.seq (xg.region ?_);refine Na ?_);exact zu ()):P:=t λ_=>h
theorem KE{P Q:Prop}(h:Q)(t:(Unit->Q)->P:=by intro zu;(refine la (Pure.Ey rfl rfl (by first|omega|(simp only[Ga];omega))) ?_;refine dd ?_);exact zu ()):P:=t λ_=>h
theorem yO{P Q:Prop}(h:Q)(t:(Unit->Q)->P:=by intro zu;(refine yb.mi (i:=3) rfl rfl rfl rfl zk zk zk rfl ?_;refine yb.mi (i:=4) rfl rfl rfl rfl zk zk zk rfl ?_;refine yb.mi (i:=5) rfl rfl rfl rfl zk zk zk rfl ?_;refine yb.mi (i:=6) rfl rfl rfl rfl zk zk zk rfl ?_);exact zu ()):P:=t λ_=>h
theorem LA{P Q:Prop}(h:Q)(t:(Unit->Q)->P:=by intro zu;(refine Xi ?_;refine la (pA (lv:=v) rfl) ?_;refine dd ?_);exact zu ()):P:=t λ_=>h
theorem xO{P Q:Prop}(h:Q)(t:(Unit->Q)->P:=by intro zu;(refine qP (pM (lv:=.list es) rfl) rfl ?_;refine qP (xR (es:=es) (ke:=Bk (R 0)) (cs:=(R 0).map iz) rfl rfl zo r0 rfl l0) rfl ?_;refine qP (Pure.YF (i:=0) rfl rfl rfl fa) rfl ?_;refine qP (Pure.Tm rfl rfl) rfl ?_);exact zu ()):P:=t λ_=>h
theorem wO{P Q:Prop}(h:Q)(t:(Unit->Q)->P:=by intro zu;(refine cD (m:=6) rfl [(b2,.cells 118 [ptr k.tb 0]),Ez b3 op num name [x,y]] ?_;refine aT 0 rfl rfl (pL (c:=.atom _) rfl nc rfl) ?_;refine aT 1 rfl rfl (pF rfl) ?_;refine aT 2 rfl rfl (pL (c:=.list _) rfl Oh rfl) ?_);exact zu ()):P:=t λ_=>h
theorem An{P Q:Prop}(h:Q)(t:(Unit->Q)->P:=by intro zu;(refine xg.seq (xg.of ?_));exact zu ()):P:=t λ_=>h
theorem JE{P Q:Prop}(h:Q)(t:(Unit->Q)->P:=by intro zu;(refine lO 4 (lW rfl (.inl rfl) rfl (sL [_] rfl (gd rfl rfl Ch) rfl rfl rfl ?_)));exact zu ()):P:=t λ_=>h
theorem yn{P Q:Prop}(h:Q)(t:(Unit->Q)->P:=by intro zu;(refine xa ?_;refine vt ?_);exact zu ()):P:=t λ_=>h
theorem vO{P Q:Prop}(h:Q)(t:(Unit->Q)->P:=by intro zu;(refine la (xR (ke:=pg f) (n:=((fs.map pg).length:Int)-1) (cs:=[str f.name,.list (f.params.map str),.list (f.locals.map str),.list (f.body.map lc)]) rfl rfl Co Vh rfl rfl) ?_;refine Na ?_);exact zu ()):P:=t λ_=>h
theorem mv{P Q:Prop}(h:Q)(t:(Unit->Q)->P:=by intro zu;(refine aT 2 rfl rfl (pM (lv:=.atom _) rfl) ?_);exact zu ()):P:=t λ_=>h
theorem fJ{P Q:Prop}(h:Q)(t:(Unit->Q)->P:=by intro zu;(refine wa ?_;refine la (xR (ke:=Ab v) (cs:=[_,_,_,_]) rfl rfl fa rfl rfl rfl) ?_;refine Na ?_);exact zu ()):P:=t λ_=>h
theorem eJ{P Q:Prop}(h:Q)(t:(Unit->Q)->P:=by intro zu;(refine Xi ?_;refine la (xR (ke:=iv n0) (cs:=[iv n0]) Mm rfl zo rfl rfl rfl) ?_;refine Na ?_);exact zu ()):P:=t λ_=>h
theorem dJ{P Q:Prop}(h:Q)(t:(Unit->Q)->P:=by intro zu;(refine kT ?_;refine aT 5 rfl rfl (pF rfl) ?_;refine aT 6 rfl rfl (pL (c:=.atom _) rfl nc rfl) ?_);exact zu ()):P:=t λ_=>h
theorem uO{P Q:Prop}(h:Q)(t:(Unit->Q)->P:=by intro zu;(refine lO 5 (lH rfl rfl (pF rfl) ?_);refine lO 6 (lW rfl (.inl rfl) rfl (sS (Ob:=[v',v2,v3]) rfl Od (Acc.cell Fo).1 rfl rfl (Acc.cell Fo).2 rfl ?_));refine lD zk ?_;refine Da ?_);exact zu ()):P:=t λ_=>h
theorem KA{P Q:Prop}(h:Q)(t:(Unit->Q)->P:=by intro zu;(refine PW.once h hw ?_ (by rw[yZ fa];exact Jb 1));exact zu ()):P:=t λ_=>h
theorem jr{P Q:Prop}(h:Q)(t:(Unit->Q)->P:=by intro zu;(refine dj.nil ?_;refine qN ?_);exact zu ()):P:=t λ_=>h
theorem vy{P Q:Prop}(h:Q)(t:(Unit->Q)->P:=by intro zu;(refine Ti ?_;refine Xi ?_;refine fi ?_);exact zu ()):P:=t λ_=>h
theorem HW{P Q:Prop}(h:Q)(t:(Unit->Q)->P:=by intro zu;(refine Rj (i:=7) zk ?_;refine lH rfl rfl (pA (lv:=.atom _) rfl) ?_;refine lD zk ?_;refine dd ?_;refine⟨⟨mb,mm,bm⟩,trivial,lb,?_,rfl⟩);exact zu ()):P:=t λ_=>h
theorem tO{P Q:Prop}(h:Q)(t:(Unit->Q)->P:=by intro zu;(refine cD (m:=8) rfl [(b1,.cells 193 [.list (v.map str),.atom (.map (some m))])] ?_;refine aT 0 rfl rfl (pM (lv:=.atom _) rfl) ?_;refine aT 1 rfl rfl (pM (lv:=.atom _) rfl) ?_);exact zu ()):P:=t λ_=>h
theorem FW{P Q:Prop}(h:Q)(t:(Unit->Q)->P:=by intro zu;(refine oS (S.Ki (kt:=54) (el:=136) (kd:=.u32) zk zk rfl rfl rfl pH rfl rfl ?_);refine oS (S.Ki (kt:=54) (el:=136) (kd:=.u32) zk zk rfl rfl rfl pH rfl rfl ?_));exact zu ()):P:=t λ_=>h
theorem IE{P Q:Prop}(h:Q)(t:(Unit->Q)->P:=by intro zu;(refine lO 7 (lH rfl rfl (Pure.Vf (o:=a) rfl rfl zo zo zo) ?_));exact zu ()):P:=t λ_=>h
theorem fq{P Q:Prop}(h:Q)(t:(Unit->Q)->P:=by intro zu;(refine lD zk ?_;refine qN ?_);exact zu ()):P:=t λ_=>h
theorem bJ{P Q:Prop}(h:Q)(t:(Unit->Q)->P:=by intro zu;(refine aL ?_ ob;refine lO 1 (lS (H1:=[]) rfl (.inl rfl) rfl mc ob (sF [_,_] rfl k0 ?_)));exact zu ()):P:=t λ_=>h
theorem sO{P Q:Prop}(h:Q)(t:(Unit->Q)->P:=by intro zu;(refine xa ?_;refine la (Pure.to (Pure.Tv rfl rfl) (congrArg (int .i64) (Nt (n:=(m1:Int) * 2) zo))) ?_;refine di ?_;refine vt ?_;refine Da ?_);exact zu ()):P:=t λ_=>h
theorem jv{P Q:Prop}(h:Q)(t:(Unit->Q)->P:=by intro zu;(refine aL ?_ ob;refine lD zk ?_);exact zu ()):P:=t λ_=>h
theorem qO{P Q:Prop}(h:Q)(t:(Unit->Q)->P:=by intro zu;(refine Ti ?_;refine la (xR (ke:=rc s) (cs:=[str s.1,int .i64 s.2]) rfl rfl zo (by rw[Xb];exact Td rc pre s l2) rfl rfl) ?_;refine Na ?_);exact zu ()):P:=t λ_=>h
theorem HE{P Q:Prop}(h:Q)(t:(Unit->Q)->P:=by intro zu;(refine lH rfl rfl (pL (c:=.atom _) rfl Oh rfl) ?_);exact zu ()):P:=t λ_=>h
theorem FE{P Q:Prop}(h:Q)(t:(Unit->Q)->P:=by intro zu;(refine fi ?_;refine la (pI (c:=c1) rfl rfl fa rfl) ?_);exact zu ()):P:=t λ_=>h
theorem oO{P Q:Prop}(h:Q)(t:(Unit->Q)->P:=by intro zu;(refine NL ?_;refine aT 3 rfl rfl (pL (c:=.atom _) rfl Oh rfl) ?_;refine aT 4 rfl rfl (pF rfl) ?_;refine aT 5 rfl rfl (pL (c:=.atom _) rfl nc rfl) ?_);exact zu ()):P:=t λ_=>h
theorem EE{P Q:Prop}(h:Q)(t:(Unit->Q)->P:=by intro zu;(refine la (pI (c:=a) rfl rfl zo Vh) ?_;refine Na ?_);exact zu ()):P:=t λ_=>h
theorem gr{P Q:Prop}(h:Q)(t:(Unit->Q)->P:=by intro zu;(refine rm ?_;refine xa ?_);exact zu ()):P:=t λ_=>h
theorem aJ{P Q:Prop}(h:Q)(t:(Unit->Q)->P:=by intro zu;(refine xa ?_;refine oS (sL [_,_,_] rfl (Wu [_,_,_]) rfl rfl rfl ?_));exact zu ()):P:=t λ_=>h
theorem nO{P : Prop}(h : P := by
  simp only[vH];rw[Array.getD_eq_getD_getElem?];rcases Nat.lt_or_ge i args.length with hi|hi
  ·rw[jh hi]
   obtain⟨x,hx,hr⟩:=hv.get (jh hi);have R2:(vs.toArray++Array.replicate (fn.ntmps-vs.toArray.size) undef)[i]? = some x:=by rw[Array.getElem?_append_left (by simp;omega)];simpa using hx
   rw[R2];exact hr
  ·rw[List.getElem?_eq_none hi]
   have R2:((vs.toArray++Array.replicate (fn.ntmps-vs.toArray.size) undef)[i]?).getD undef=undef:=by rw[Array.getElem?_append_right (by simp;omega)];rw[Array.getElem?_replicate];try split <;> rfl
   rw[R2];simp only[Option.getD_none,xb]) : P := h
theorem EW{P : Prop}(h : P := by
  refine Rj (i:=10) zk ?_;refine lW rfl (.inl rfl) rfl (S.LG (HM:=HC) (F:=_::(im++(k.Xg s.mem::k.ah::HO))) rfl D7 hC rfl (by simp;rfl) rfl (by simp;omega) λv' H' ZD=>?_)
  refine zQ8 ?_;have hm3:Ae 54 1 v' (us (s.pc::s.calls).reverse) H':=by rw[List.reverse_cons,dF];exact ZD
  exact rO Ri rN ⟨[],by rw[de];exact gi.trans D7.symm⟩ ⟨rfl,v',H',vo,HO,_::im,hm3,hO,⟨yt,im,Yu,rfl⟩,rfl⟩) : P := h
theorem AE{P : Prop}(h : P := by
  refine Da ?_;exact⟨⟨rfl,rfl,rfl,xe (hc.trans (KS (zt hc) fa)),trivial⟩,rfl,rfl⟩) : P := h
theorem Y6{P : Prop}(h : P := by
  rw[ae,h3,zh] at hI;refine Qd ?_;exact Kd.panic (Ka.trans (wc.trans hj)) (qvF (A:=[(b5,ma.cells 220 [str (vi ex),int .u32 (Hr ex),str (Lr ex),.list (jq ex)]),(b,ma.cells 220 [str [],int .u32 0,str [],Yb])]) (B:=[(bo,ma.cells 249 [.atom (.func (.func fn) first ib)]),(bs,ma.cells 104 [ptr sb 0]),(bp,ma.cells 30 [.list ((yi k).map str)]),(bn,ma.cells 4 [bool (decide ((k:Int)=2))])])) (by cases hI;exact⟨rfl,i3,yg,rfl⟩)) : P := h
theorem ML{P : Prop}(h : P := by
  rw[ae,h3,zh] at hI;refine Qd ?_;exact Gc (Ka.trans (wc.trans hj)) (by cases hI;rfl) qd) : P := h
theorem X6{P : Prop}(h : P := by
  refine Rj (i:=1) zk ?_;refine lH rfl rfl (pL (c:=.atom _) rfl sy rfl) ?_;refine KW ?_;have hp:Ru s=(Fk,l,er):=by rw[Ru,hL]
  rw[hp];exact⟨[Av Fk,int .i64 l,int .i64 er],[],rC (rA (k:=3) (cs:=[Yb,Yb,Yb]) rfl Pn rfl (vA (bs:=[.list [],.list [],.list []]) ⟨vN,vN,vN,trivial⟩)) (rC (Am.Bc (cs:=[int .i64 l]) rfl Pn rfl Nd) (rC (Am.Bc (cs:=[int .i64 er]) rfl Pn rfl Nd) rN)),HSub.nil _,rfl,rfl⟩) : P := h
theorem YI{P : Prop}(h : P := by
  refine NA ?_;simp only[q1,q2,Ui,Bool.and_false,Bool.true_and];rfl) : P := h
theorem W6{P : Prop}(h : P := by
  refine Rj (i:=3) zk ?_;refine ME ?_;refine KW ?_;have hp:Ru s=(Fk,l,er):=by rw[Ru,hL]
  rw[hp];exact⟨[Av Fk,int .i64 l,int .i64 er],[],rC (rA (k:=3) (cs:=[Yb,Yb,Yb]) rfl Pn rfl (vA (bs:=[.list [],.list [],.list []]) ⟨vN,vN,vN,trivial⟩)) (rC (Am.Bc (cs:=[int .i64 l]) rfl Pn rfl Nd) (rC (Am.Bc (cs:=[int .i64 er]) rfl Pn rfl Nd) rN)),HSub.nil _,rfl,rfl⟩) : P := h
theorem XI{P : Prop}(h : P := by
  refine NA ?_;simp only[q1,Ui,Bool.and_false,Bool.true_and];rfl) : P := h
theorem V6{P : Prop}(h : P := by
  rw[ae,h4,Ee] at hI;obtain⟨g1,g2,g3,rfl⟩:=(ux T k).1 0 _ _ _ (ae.trans (congrArg some h4));have g5:=g3 zo;have g6:=g2 rfl;refine tj ?_;refine oS (S.Jw rfl Ra rfl (by simp;rfl) rfl (by simp;omega) λv' H' ab=>?_)
  refine rm ?_;refine Da ?_;exact⟨k,_,_,by omega,⟨v',l++[e2],i4,H',by omega,rfl,rfl,by rw[Je];exact ab,by omega,by simp;omega,hI⟩,lb,Kb _,hj⟩) : P := h
theorem mO{P : Prop}(h : P := by
  refine Rj (i:=7) zk ?_;refine lH rfl rfl (Pure.Hz rfl) ?_;refine AO ?_;refine lW rfl (.inl rfl) rfl (sG (A:=_::(im++(k.Xg s.mem::k.ah::HC))) XL rfl hO rfl (λv hv=>by rw[Vi hv];rfl) rfl Zr λv' H' ab=>?_)
  rw[e1] at ab;refine IW ?_;exact rO Ri rN ⟨[],by rw[de];exact gi.trans XL.symm⟩ ⟨rfl,vc,HC,v',H',_::im,hC,ab,⟨yt,im,Yu,rfl⟩,rfl⟩) : P := h
theorem kO{P : Prop}(h : P := by
  refine HE ?_;refine KW ?_;have hp:Ru s=(Fk,l,er):=by rw[Ru,hL]
  rw[hp];exact⟨[Av Fk,int .i64 l,int .i64 er],[],rC (rA (k:=3) (cs:=[Yb,Yb,Yb]) rfl Pn rfl (vA (bs:=[.list [],.list [],.list []]) ⟨vN,vN,vN,trivial⟩)) (rC (Am.Bc (cs:=[int .i64 l]) rfl Pn rfl Nd) (rC (Am.Bc (cs:=[int .i64 er]) rfl Pn rfl Nd) rN)),HSub.nil _,rfl,rfl⟩) : P := h
theorem uy{P : Prop}(h : P := by
  refine NA ?_;simp only[q1,q2,q3,Ui,Bool.and_false,Bool.true_and];rfl) : P := h
theorem jO{P : Prop}(h : P := by
  refine JW ?_;have hp:Ru s=(Fk,l,er):=by rw[Ru,hL]
  rw[hp];exact⟨[Av Fk,int .i64 l,int .i64 er],[],rC (rA (k:=3) (cs:=[Yb,Yb,Yb]) rfl Pn rfl (vA (bs:=[.list [],.list [],.list []]) ⟨vN,vN,vN,trivial⟩)) (rC (Am.Bc (cs:=[int .i64 l]) rfl Pn rfl Nd) (rC (Am.Bc (cs:=[int .i64 er]) rfl Pn rfl Nd) rN)),HSub.nil _,rfl,rfl⟩) : P := h
theorem DE{P : Prop}(h : P := by
  intro h;have h':_:=zt h;obtain⟨a1,a2,a3,a4,a5⟩:=h';exact⟨⟨⟨⟨by simpa using a1,by omega⟩,by omega⟩,by omega⟩,by omega⟩) : P := h
theorem JA{P : Prop}(h : P := by
  refine NA ?_;simp only[q1,q2,q3,q4,Ui,Bool.and_false,Bool.true_and];rfl) : P := h
theorem iO{P : Prop}(h : P := by
  have e3:n<i:=by have:=zf h3;omega
  rw[zp e3] at hD;refine Da ?_;refine LW ?_;refine jv ?_;refine dd ?_;exact qb (wc.trans (pd.trans hj)) (rC (Fc rfl) (rC (rT (v:=.list _) rfl Nd) rN)) (by rw[hD];exact congrArg (λx=>LV.tuple [int .i64 (i:Nat),.list x]) List.map_take.symm)) : P := h
theorem CE{P : Prop}(h : P := by
  rintro⟨⟨⟨⟨a1,a2⟩,a3⟩,a4⟩,a5⟩;exact Nf ⟨by simpa using a1,by omega,by omega,by omega,by omega⟩) : P := h
theorem fO{P : Prop}(h : P := by
  refine Rj (i:=5) zk ?_;refine lH rfl rfl (pB _ (cs:=[_,_,_,_,_,_,_,_,_,_]) rfl) ?_;refine Rj (i:=6) zk ?_;refine lW rfl (.inl rfl) rfl (sB rfl λmb=>?_);refine HW ?_;first
   |exact tc pH (tc pH (tc pH ob))
   |exact tc pH (tc Od (tc pH ob))) : P := h
theorem BE{P : Prop}(h : P := by
  rw[oe,h2,zh] at hr;refine Qd ?_;exact Gc (Ka.trans hj) (by cases hr;rfl) qd) : P := h
theorem zE{P : Prop}(h : P := by
  rw[h1,zh] at hr;refine Ei ?_;exact Gc (Ka.trans rfl) (by cases hr;rfl) qd) : P := h
theorem dO{P : Prop}(h : P := by
  have hk:¬ k=2:=by have:=zf Ng;omega
  rw[zn hk] at hI;refine Da ?_;exact⟨q,_,_,by omega,⟨.mk (bH T i2) 0 [] [ex,e2],i3,by omega,rfl,rfl,q4,hI⟩,lb,(by rw[qj7];exact Kb _),wc.trans hj⟩) : P := h
theorem yE{P : Prop}(h : P := by
  rw[oe,h1,zh] at hr;refine Qd ?_;exact Gc po (by cases hr;rfl) qd) : P := h
theorem cO{P : Prop}(h : P := by
  rw[h,Bool.true_and] at r1;refine fi ?_;refine oS (sF [_] rfl (qm3 _ na) ?_);refine Da ?_;exact Nr rfl (rC (rT (v:=.atom _) rfl (vR _)) (rC (rT (v:=.atom _) rfl (vR _)) rN)) (rl.mk r1 r2)) : P := h
theorem uE{P : Prop}(h : P := by
  by_cases he:c=b
  ·subst he;rw[hl] at hi;omega
  ·exact cell_of_heap (h5 c he) i) : P := h
theorem tE{P : Prop}(h : P := by
  right;cases h:Aq v with
  |none=>rfl
  |some s=>exact absurd ⟨hc,s,h⟩ h3) : P := h
theorem bO{P : Prop}(h : P := by
  have Pm:R=.re s:=by
   rw[<-Yg];unfold UH;cases hd:s.data with
   |nil=>rfl
   |cons x r=>simp only;rw[zn (hb x r hd)]
  subst Pm;refine Qd ?_;exact Kd.panic (Ka.trans Ri) ob (Kq _ _ uh)) : P := h
theorem rE{P : Prop}(h : P := by
  rw[h1,zh] at hr;refine Qd ?_;exact Gc po (by cases hr;rfl) qd) : P := h
theorem qE{P : Prop}(h : P := by
  rw[h3,zh] at hr;refine Qd ?_;exact Gc po (by cases hr;rfl) qd) : P := h
theorem aO{P : Prop}(h : P := by
  have hk:k=2:=by have:=zt Ng;omega
  rw[zp hk] at hI;refine wa ?_;exact rR (wc.trans hj) (rC (rA rfl nc rfl Nd) rN) (Pg (Pg ob)) (by cases hI;exact⟨by rw[uB];rfl,rfl⟩)) : P := h
theorem ZI{P : Prop}(h : P := by
  refine xa ?_;exact qb rfl (rC (Fc rfl) (rC (rT (v:=Yb) rfl vN) rN)) (by rw[hF];rfl)) : P := h
theorem ZN{P : Prop}(h : P := by
  have e3:¬ n<i:=by have:=zt h3;omega
  rw[zn e3] at hD;refine Gj ?_;exact qb (wc.trans (pd.trans hj)) (rC (Fc rfl) (rC (rT (v:=Yb) rfl vN) rN)) (by rw[hD];rfl)) : P := h
theorem qt{P : Prop}(h : P := by
  injection h with h;subst h;simp) : P := h
theorem YN{P : Prop}(h : P := by
  rw[h,Bool.true_and] at r1;refine fi ?_;refine oS (sF [_] rfl (vV _ na) ?_);refine Da ?_;exact Nr rfl (rC (Fc rfl) (eb rfl)) (rl.mk r1 r2)) : P := h
namespace Go.GL
variable{P Q:Prop}
theorem Yc{α:Type _}{a b:α}{l:List α}(h:a∈l):a∈b::l:=List.Mem.tail _ h
theorem zo(h:P:=by omega):P:=h
theorem zk(h:P:=by kernel_rfl):P:=h
theorem mc{α:Type _}{l:List α}:l.Perm l:=List.Perm.refl _
theorem nc{α:Type _}{a:α}{l:List α}:a∈a::l:=(Fg)
theorem Oh{α:Type _}{a b:α}{l:List α}:b∈a::b::l:=(Yc (Fg))
theorem sy{α:Type _}{a b c:α}{l:List α}:c∈a::b::c::l:=(Yc (Yc (Fg)))
theorem XN{α:Type _}{a b c d:α}{l:List α}:d∈a::b::c::d::l:=(Yc (Yc (Yc (Fg))))
theorem jT{α:Type _}{a b c d e:α}{l:List α}:e∈a::b::c::d::e::l:=(Yc (Yc (Yc (Yc (Fg)))))
theorem iT{α:Type _}{a b c d e f:α}{l:List α}:f∈a::b::c::d::e::f::l:=(Yc (Yc (Yc (Yc (Yc (Fg))))))
theorem U6{α:Type _}{a b c d e f g:α}{l:List α}:g∈a::b::c::d::e::f::g::l:=(Yc (Yc (Yc (Yc (Yc (Yc (Fg)))))))
theorem zm7{α:Type _}{a b c d e f g h:α}{l:List α}:h∈a::b::c::d::e::f::g::h::l:=(Yc (Yc (Yc (Yc (Yc (Yc (Yc (Fg))))))))
theorem zm8{α:Type _}{a b c d e f g h i:α}{l:List α}:i∈a::b::c::d::e::f::g::h::i::l:=(Yc (Yc (Yc (Yc (Yc (Yc (Yc (Yc (Fg)))))))))
theorem po(h:P:=by first|exact lj.trans rfl|exact lj.trans hj|exact lj.trans (wc.trans hj)):P:=h
theorem WI(h:P:=by first|exact pH|exact pT pH|exact pT (pT (pH))|exact pT (pT (pT (pH)))|exact pT (pT (pT (pT (pH))))|exact pT (pT (pT (pT (pT (pH)))))|exact pT (pT (pT (pT (pT (pT (pH))))))|exact pT (pT (pT (pT (pT (pT (pT (pH)))))))):P:=h
theorem zt{p:Prop} [Decidable p](h:decide p=true):p:=ag h
theorem zf{p:Prop} [Decidable p](h:decide p=false):¬p:=of_decide_eq_false h
theorem xa(h:Q)(t:(Unit->Q)->P:=by intro h;(repeat first|refine qN ?_|refine Ea.nil ?_|refine fb.region ?_|refine fb.seq ?_|refine la (pM (lv:=.atom _) rfl) ?_|refine la (pA (lv:=.atom _) rfl) ?_|refine fb.ret ?_|refine fb.skip ?_|refine la (pF rfl) ?_|refine Ea.want rfl rfl ?_|refine fb.block ?_|refine Oe.normal ?_|refine ve.ret ?_|refine ve.panic ?_|refine la (Pure.vl (lv:=.atom _) rfl rfl) ?_|refine la (Pure.cp (lv:=.atom _) rfl rfl) ?_|refine la (Pure.add rfl rfl ga) ?_|refine la (pL (c:=.atom _) rfl (Fg) rfl) ?_|refine Ea.skip rfl rfl rfl rfl ?_|refine la (Pure.eql rfl rfl) ?_|refine Oe.panic ?_|refine Oe.ret ?_|refine la (Pure.lss rfl rfl) ?_|refine la (Pure.extract (c:=.atom _) rfl rfl) ?_|refine Oe.hit ?_|refine ve.exit ?_|refine fb.exit ?_|refine la (pM (lv:=.tuple _) rfl) ?_|refine la (pN rfl) ?_|refine la (pM (lv:=.list _) rfl) ?_|refine la (Pure.seq rfl rfl) ?_|refine la (Pure.kp rfl) ?_);exact h ()):P:=t λ_=>h
theorem wa(h:Q)(t:(Unit->Q)->P:=by intro h;(repeat first|refine qN ?_|refine Ea.nil ?_|refine fb.region ?_|refine fb.seq ?_|refine la (pM (lv:=.atom _) rfl) ?_|refine la (pA (lv:=.atom _) rfl) ?_|refine fb.ret ?_|refine fb.skip ?_|refine la (pF rfl) ?_|refine Ea.want rfl rfl ?_|refine fb.block ?_|refine Oe.normal ?_|refine ve.ret ?_|refine la (Pure.vl (lv:=.atom _) rfl rfl) ?_|refine la (Pure.cp (lv:=.atom _) rfl rfl) ?_|refine la (Pure.add rfl rfl ga) ?_|refine la (pL (c:=.atom _) rfl (Fg) rfl) ?_|refine Ea.skip rfl rfl rfl rfl ?_|refine la (Pure.eql rfl rfl) ?_|refine Oe.ret ?_|refine la (Pure.lss rfl rfl) ?_|refine la (Pure.extract (c:=.atom _) rfl rfl) ?_|refine Oe.hit ?_|refine ve.exit ?_|refine fb.exit ?_|refine la (pM (lv:=.tuple _) rfl) ?_|refine la (pN rfl) ?_|refine la (pM (lv:=.list _) rfl) ?_|refine la (Pure.seq rfl rfl) ?_|refine la (Pure.kp rfl) ?_|refine la (pA (lv:=.list _) rfl) ?_|refine la (pL (c:=.list _) rfl (Fg) rfl) ?_|refine la (Pure.not rfl) ?_|refine la (Pure.UO rfl) ?_|refine la (Pure.neq rfl rfl) ?_|refine oS (sS (Ob:=[_,_,_]) rfl pH rfl rfl rfl rfl rfl ?_) rfl|refine la (pG (Ob:=[_,_]) rfl (Fg) rfl rfl) ?_|refine la (Pure.gtr rfl rfl) ?_|refine la (pL (c:=.atom _) rfl (Yc (Fg)) rfl) ?_|refine la (pO (c:=.atom _) rfl rfl) ?_|refine la (Pure.sub rfl rfl ga) ?_|refine oS (sS (Ob:=[_,_]) rfl pH rfl rfl rfl rfl rfl ?_) rfl|refine la (Pure.extract (c:=.list _) rfl rfl) ?_|refine LQ.nil ?_|refine la (Pure.leq rfl rfl) ?_|refine la (pB _ (cs:=[_,_,_]) rfl) ?_|refine la (Pure.geq rfl rfl) ?_|refine la (Pure.Ey rfl rfl (by first|omega|(simp only[Ga,La,oc];omega))) ?_|refine la (Pure.pJ rfl rfl) ?_|refine Ea.VG rfl rfl rfl ?_|refine oS (sS (Ob:=[_,_,_,_]) rfl pH rfl rfl rfl rfl rfl ?_) rfl|refine qP (pF rfl) rfl ?_|refine la (pB _ (cs:=[_,_]) rfl) ?_|refine qP (pL (c:=.atom _) rfl (Fg) rfl) rfl ?_|refine qP (pA (lv:=.atom _) rfl) rfl ?_|refine qP (pL (c:=.list _) rfl (Fg) rfl) rfl ?_|refine la (pA (lv:=.app _ _ _ _) rfl) ?_|refine oS (sS (Ob:=[_,_,_,_,_,_,_,_,_,_]) rfl pH rfl rfl rfl rfl rfl ?_) rfl|refine la (pB _ (cs:=[_,_,_,_]) rfl) ?_|refine oS (sS (Ob:=[_,_,_,_,_,_]) rfl (pT pH) rfl rfl rfl rfl rfl ?_) rfl|refine la (pB _ (cs:=[_,_,_,_,_,_]) rfl) ?_|refine la (pG (Ob:=[_,_,_,_,_,_]) rfl (Fg) rfl rfl) ?_|refine la (pG (Ob:=[_,_,_]) rfl (Fg) rfl rfl) ?_|refine oS (sS (Ob:=[_,_,_,_,_,_]) rfl (pT (pT pH)) rfl rfl rfl rfl rfl ?_) rfl|refine oS (sS (Ob:=[_,_,_,_,_,_]) rfl pH rfl rfl rfl rfl rfl ?_) rfl|refine oS (sS (Ob:=[_,_,_,_]) rfl (pT pH) rfl rfl rfl rfl rfl ?_) rfl|refine qP (pO (c:=.atom _) rfl rfl) rfl ?_|refine la (pG (Ob:=[_,_,_,_]) rfl (Fg) rfl rfl) ?_|refine la (pG (Ob:=[_,_,_,_]) rfl (Yc (Fg)) rfl rfl) ?_|refine oS (sS (Ob:=[_,_,_,_]) rfl (pT (pT pH)) rfl rfl rfl rfl rfl ?_) rfl|refine la (Pure.Hz rfl) ?_|refine la (pG (Ob:=[_,_,_]) rfl (Yc (Fg)) rfl rfl) ?_|refine la (Pure.makeFunc rfl rfl) ?_|refine la (Pure.fz rfl) ?_|refine qP (Pure.kp rfl) rfl ?_|refine la (pL (c:=.list _) rfl (Yc (Fg)) rfl) ?_|refine Oe.HQ fa ?_|refine la (Pure.lu rfl) ?_|refine la (pG (Ob:=[_,_,_]) rfl (Yc (Yc (Yc (Yc (Fg))))) rfl rfl) ?_|refine la (pL (c:=.atom _) rfl (Yc (Yc (Yc (Yc (Fg))))) rfl) ?_|refine la (pO (c:=.list _) rfl rfl) ?_|refine oS (sS (Ob:=[_,_,_,_,_,_,_,_,_,_]) rfl (pT pH) rfl rfl rfl rfl rfl ?_) rfl|refine oS (sS (Ob:=[_,_,_]) rfl (pT pH) rfl rfl rfl rfl rfl ?_) rfl|refine oS (sS (Ob:=[_]) rfl (pT pH) rfl rfl rfl rfl rfl ?_) rfl|refine oS (sS (Ob:=[_]) rfl pH rfl rfl rfl rfl rfl ?_) rfl|refine la (pG (Ob:=[_,_,_,_,_,_]) rfl (Yc (Fg)) rfl rfl) ?_|refine la (pG (Ob:=[_,_]) rfl (Yc (Fg)) rfl rfl) ?_|refine la (pL (c:=.atom _) rfl (Yc (Yc (Fg))) rfl) ?_|refine la (pL (c:=.atom _) rfl (Yc (Yc (Yc (Yc (Yc (Yc (Fg))))))) rfl) ?_|refine la (Pure.ri (vs:=[_,_]) rfl) ?_|refine oS (sS (Ob:=[]) rfl pH rfl rfl rfl rfl rfl ?_) rfl|refine oS (sS (Ob:=[_,_,_,_]) rfl (pT (pT (pT (pT pH)))) rfl rfl rfl rfl rfl ?_) rfl|refine qP (Pure.extract (c:=.atom _) rfl rfl) rfl ?_|refine qP (pM (lv:=.tuple _) rfl) rfl ?_|refine la (pB _ (cs:=[]) rfl) ?_|refine la (pL (c:=.list _) rfl (Yc (Yc (Fg))) rfl) ?_|refine la (pL (c:=.list _) rfl (Yc (Yc (Yc (Yc (Yc (Fg)))))) rfl) ?_|refine la (Pure.ri (vs:=[]) rfl) ?_|refine la (pM (lv:=.app _ _ _ _) rfl) ?_|refine oS (sS (Ob:=[_,_,_,_,_,_,_]) rfl (pT (pT pH)) rfl rfl rfl rfl rfl ?_) rfl|refine oS (sS (Ob:=[_,_,_,_,_,_,_]) rfl pH rfl rfl rfl rfl rfl ?_) rfl|refine oS (sS (Ob:=[_,_,_]) rfl (pT (pT pH)) rfl rfl rfl rfl rfl ?_) rfl|refine oS (sS (Ob:=[_,_]) rfl (pT (pT pH)) rfl rfl rfl rfl rfl ?_) rfl|refine oS (sS (Ob:=[_,_]) rfl (pT pH) rfl rfl rfl rfl rfl ?_) rfl|refine qP (Pure.pJ rfl rfl) rfl ?_);exact h ()):P:=t λ_=>h
theorem Da(h:Q)(t:(Unit->Q)->P:=by intro h;(repeat first|refine qN ?_|refine Ea.nil ?_|refine fb.seq ?_|refine la (pM (lv:=.atom _) rfl) ?_|refine la (pA (lv:=.atom _) rfl) ?_|refine fb.ret ?_|refine fb.skip ?_|refine la (pF rfl) ?_|refine Ea.want rfl rfl ?_|refine fb.block ?_|refine Oe.normal ?_|refine ve.ret ?_|refine ve.panic ?_|refine la (Pure.vl (lv:=.atom _) rfl rfl) ?_|refine la (Pure.cp (lv:=.atom _) rfl rfl) ?_|refine la (Pure.add rfl rfl ga) ?_|refine la (pL (c:=.atom _) rfl (Fg) rfl) ?_|refine Ea.skip rfl rfl rfl rfl ?_|refine la (Pure.eql rfl rfl) ?_|refine Oe.panic ?_|refine Oe.ret ?_|refine la (Pure.lss rfl rfl) ?_|refine la (Pure.extract (c:=.atom _) rfl rfl) ?_|refine Oe.hit ?_|refine ve.exit ?_|refine fb.exit ?_|refine la (pM (lv:=.tuple _) rfl) ?_|refine la (pN rfl) ?_|refine la (pM (lv:=.list _) rfl) ?_|refine la (Pure.seq rfl rfl) ?_|refine la (Pure.kp rfl) ?_);exact h ()):P:=t λ_=>h
theorem Na(h:Q)(t:(Unit->Q)->P:=by intro h;(repeat first|refine qN ?_|refine Ea.nil ?_|refine fb.seq ?_|refine la (pM (lv:=.atom _) rfl) ?_|refine la (pA (lv:=.atom _) rfl) ?_|refine fb.ret ?_|refine la (pF rfl) ?_|refine Ea.want rfl rfl ?_|refine fb.block ?_|refine Oe.normal ?_|refine ve.ret ?_|refine la (Pure.vl (lv:=.atom _) rfl rfl) ?_|refine la (Pure.cp (lv:=.atom _) rfl rfl) ?_|refine la (Pure.add rfl rfl ga) ?_|refine la (pL (c:=.atom _) rfl (Fg) rfl) ?_|refine Ea.skip rfl rfl rfl rfl ?_|refine la (Pure.eql rfl rfl) ?_|refine Oe.ret ?_|refine la (Pure.lss rfl rfl) ?_|refine la (Pure.extract (c:=.atom _) rfl rfl) ?_|refine Oe.hit ?_|refine ve.exit ?_|refine fb.exit ?_|refine la (pM (lv:=.tuple _) rfl) ?_|refine la (pN rfl) ?_|refine la (pM (lv:=.list _) rfl) ?_|refine la (Pure.seq rfl rfl) ?_|refine la (Pure.kp rfl) ?_|refine la (pA (lv:=.list _) rfl) ?_|refine la (pL (c:=.list _) rfl (Fg) rfl) ?_|refine la (Pure.not rfl) ?_|refine la (Pure.UO rfl) ?_|refine la (Pure.neq rfl rfl) ?_|refine oS (sS (Ob:=[_,_,_]) rfl pH rfl rfl rfl rfl rfl ?_) rfl|refine la (pG (Ob:=[_,_]) rfl (Fg) rfl rfl) ?_|refine la (Pure.gtr rfl rfl) ?_|refine la (pL (c:=.atom _) rfl (Yc (Fg)) rfl) ?_|refine la (pO (c:=.atom _) rfl rfl) ?_|refine la (Pure.sub rfl rfl ga) ?_|refine oS (sS (Ob:=[_,_]) rfl pH rfl rfl rfl rfl rfl ?_) rfl|refine qP (pM (lv:=.atom _) rfl) rfl ?_|refine la (pR (Ob:=[_,_,_,_]) rfl rfl rfl) ?_|refine la (Pure.extract (c:=.list _) rfl rfl) ?_|refine LQ.nil ?_|refine la (Pure.leq rfl rfl) ?_|refine la (pB _ (cs:=[_,_,_]) rfl) ?_|refine la (Pure.geq rfl rfl) ?_|refine la (pR (Ob:=[_,_]) rfl rfl rfl) ?_|refine la (Pure.Ey rfl rfl (by first|omega|(simp only[Ga,La,oc];omega))) ?_|refine la (Pure.pJ rfl rfl) ?_|refine la (Pure.extract (c:=.agg _) rfl rfl) ?_|refine Ea.VG rfl rfl rfl ?_|refine oS (sS (Ob:=[_,_,_,_]) rfl pH rfl rfl rfl rfl rfl ?_) rfl|refine qP (pF rfl) rfl ?_|refine la (pB _ (cs:=[_,_]) rfl) ?_|refine qP (pL (c:=.atom _) rfl (Fg) rfl) rfl ?_|refine qP (pN rfl) rfl ?_|refine qP (pA (lv:=.atom _) rfl) rfl ?_|refine qP (pL (c:=.list _) rfl (Fg) rfl) rfl ?_|refine la (pA (lv:=.app _ _ _ _) rfl) ?_|refine oS (sS (Ob:=[_,_,_,_,_,_,_,_,_,_]) rfl pH rfl rfl rfl rfl rfl ?_) rfl|refine la (pB _ (cs:=[_,_,_,_]) rfl) ?_|refine oS (sS (Ob:=[_,_,_,_,_,_]) rfl (pT pH) rfl rfl rfl rfl rfl ?_) rfl|refine LQ.want rfl rfl ?_|refine la (pB _ (cs:=[_,_,_,_,_,_]) rfl) ?_|refine la (pG (Ob:=[_,_,_]) rfl (Fg) rfl rfl) ?_|refine oS (sS (Ob:=[_,_,_,_,_,_]) rfl (pT (pT pH)) rfl rfl rfl rfl rfl ?_) rfl|refine oS (sS (Ob:=[_,_,_,_]) rfl (pT pH) rfl rfl rfl rfl rfl ?_) rfl|refine qP (pO (c:=.atom _) rfl rfl) rfl ?_|refine la (pG (Ob:=[_,_,_,_]) rfl (Fg) rfl rfl) ?_|refine qP (Pure.Tm rfl rfl) rfl ?_|refine qP (Pure.kp rfl) rfl ?_|refine la (Pure.Tm rfl rfl) ?_|refine dj.pure (pM (lv:=.atom _) rfl) rfl ?_|refine qP (Pure.sub rfl rfl ga) rfl ?_|refine Wm (pF rfl) rfl ?_|refine Wm (pM (lv:=.atom _) rfl) rfl ?_|refine Wm (pN rfl) rfl ?_|refine Oe.HQ fa ?_|refine la (pL (c:=.atom _) rfl (Yc (Yc (Yc (Yc (Fg))))) rfl) ?_|refine la (pO (c:=.list _) rfl rfl) ?_|refine oS (sS (Ob:=[_,_,_,_,_,_,_,_,_,_]) rfl (pT pH) rfl rfl rfl rfl rfl ?_) rfl|refine oS (sS (Ob:=[_,_,_]) rfl (pT pH) rfl rfl rfl rfl rfl ?_) rfl|refine oS (sS (Ob:=[_]) rfl (pT pH) rfl rfl rfl rfl rfl ?_) rfl|refine dj.pure (Pure.makeFunc rfl rfl) rfl ?_|refine qP (Pure.add rfl rfl ga) rfl ?_|refine qP (Pure.neq rfl rfl) rfl ?_|refine qP (Pure.vl (lv:=.atom _) rfl rfl) rfl ?_|refine qP (Pure.cp (lv:=.atom _) rfl rfl) rfl ?_|refine LQ.skip rfl rfl rfl rfl ?_|refine Wm (pL (c:=.atom _) rfl (Yc (Fg)) rfl) rfl ?_|refine la (pR (Ob:=[_,_,_,_,_,_]) rfl rfl rfl) ?_|refine la (pL (c:=.atom _) rfl (Yc (Yc (Fg))) rfl) ?_|refine oS (sS (Ob:=[_,_,_,_]) rfl (pT (pT (pT pH))) rfl rfl rfl rfl rfl ?_) rfl|refine qP (Pure.eql rfl rfl) rfl ?_|refine qP (Pure.geq rfl rfl) rfl ?_|refine qP (Pure.lss rfl rfl) rfl ?_|refine LS.nil ?_|refine Wm (pB _ (cs:=[_,_,_]) rfl) rfl ?_|refine la (pB _ (cs:=[_,_,_,_,_,_,_]) rfl) ?_|refine oS (sS (Ob:=[_]) rfl (pT (pT (pT (pT (pT (pT pH)))))) rfl rfl rfl rfl rfl ?_) rfl|refine dj.pure (pF rfl) rfl ?_|refine dj.pure (pG (Ob:=[_,_,_]) rfl (Yc (Yc (Yc (Yc (Yc (Yc (Yc (Fg)))))))) rfl rfl) rfl ?_|refine dj.pure (pL (c:=.atom _) rfl (Yc (Fg)) rfl) rfl ?_|refine dj.pure (Pure.lss rfl rfl) rfl ?_|refine dj.pure (pN rfl) rfl ?_|refine Dt.pure (pL (c:=.list _) rfl (Fg) rfl) rfl ?_|refine Dt.pure (pO (c:=.list _) rfl rfl) rfl ?_|refine Dt.pure (pM (lv:=.atom _) rfl) rfl ?_|refine Dt.pure (Pure.not rfl) rfl ?_|refine qP (pL (c:=.atom _) rfl (Yc (Fg)) rfl) rfl ?_|refine qP (pL (c:=.atom _) rfl (Yc (Yc (Yc (Yc (Fg))))) rfl) rfl ?_|refine qP (Pure.U1 rfl rfl) rfl ?_|refine qP (pM (lv:=.list _) rfl) rfl ?_|refine qP (Pure.Ey rfl rfl (by first|omega|(simp only[Ga,La,oc];omega))) rfl ?_|refine Wm (Pure.add rfl rfl ga) rfl ?_|refine Wm (Pure.kp rfl) rfl ?_|refine Wm (pL (c:=.atom _) rfl (Fg) rfl) rfl ?_|refine Wm (pL (c:=.list _) rfl (Fg) rfl) rfl ?_);exact h ()):P:=t λ_=>h
theorem dd(h:Q)(t:(Unit->Q)->P:=by intro h;(repeat first|refine qN ?_|refine Ea.nil ?_|refine la (pA (lv:=.atom _) rfl) ?_|refine fb.ret ?_);exact h ()):P:=t λ_=>h
theorem Qd(h:Q)(t:(Unit->Q)->P:=by intro h;(repeat first|refine ve.panic ?_|refine Oe.panic ?_);exact h ()):P:=t λ_=>h
theorem Bd(h:Q)(t:(Unit->Q)->P:=by intro h;(repeat first|refine fb.region ?_|refine fb.seq ?_|refine la (pM (lv:=.atom _) rfl) ?_);exact h ()):P:=t λ_=>h
theorem qe(h:Q)(t:(Unit->Q)->P:=by intro h;(repeat first|refine fb.region ?_|refine fb.seq ?_);exact h ()):P:=t λ_=>h
theorem fi(h:Q)(t:(Unit->Q)->P:=by intro h;(repeat first|refine la (pM (lv:=.atom _) rfl) ?_|refine Ea.want rfl rfl ?_);exact h ()):P:=t λ_=>h
theorem Zg(h:Q)(t:(Unit->Q)->P:=by intro h;(repeat first|refine qN ?_|refine Ea.nil ?_|refine fb.region ?_|refine fb.seq ?_|refine la (Pure.lss rfl rfl) ?_);exact h ()):P:=t λ_=>h
theorem Ti(h:Q)(t:(Unit->Q)->P:=by intro h;(repeat first|refine qN ?_|refine fb.region ?_|refine fb.seq ?_|refine fb.skip ?_|refine fb.block ?_);exact h ()):P:=t λ_=>h
theorem di(h:Q)(t:(Unit->Q)->P:=by intro h;(repeat first|refine qN ?_|refine Ea.nil ?_|refine fb.region ?_|refine fb.seq ?_|refine la (pM (lv:=.atom _) rfl) ?_|refine la (pA (lv:=.atom _) rfl) ?_);exact h ()):P:=t λ_=>h
theorem Ei(h:Q)(t:(Unit->Q)->P:=by intro h;(repeat first|refine ve.panic ?_);exact h ()):P:=t λ_=>h
theorem Di(h:Q)(t:(Unit->Q)->P:=by intro h;(repeat first|refine qN ?_|refine Ea.nil ?_|refine fb.region ?_|refine fb.seq ?_|refine la (pM (lv:=.atom _) rfl) ?_);exact h ()):P:=t λ_=>h
theorem Si(h:Q)(t:(Unit->Q)->P:=by intro h;(repeat first|refine qN ?_|refine Ea.nil ?_|refine fb.region ?_|refine fb.seq ?_|refine la (pA (lv:=.atom _) rfl) ?_|refine la (Pure.eql rfl rfl) ?_);exact h ()):P:=t λ_=>h
theorem Gj(h:Q)(t:(Unit->Q)->P:=by intro h;(repeat first|refine qN ?_|refine Ea.nil ?_|refine fb.region ?_|refine fb.seq ?_|refine la (pA (lv:=.atom _) rfl) ?_|refine fb.ret ?_|refine ve.ret ?_);exact h ()):P:=t λ_=>h
theorem Zk(h:Q)(t:(Unit->Q)->P:=by intro h;(repeat first|refine qN ?_|refine Ea.nil ?_|refine fb.region ?_|refine la (pM (lv:=.atom _) rfl) ?_|refine Oe.normal ?_|refine la (Pure.add rfl rfl ga) ?_);exact h ()):P:=t λ_=>h
theorem Yn(h:Q)(t:(Unit->Q)->P:=by intro h;(repeat first|refine qN ?_|refine Ea.nil ?_|refine fb.region ?_|refine fb.seq ?_|refine la (pA (lv:=.atom _) rfl) ?_);exact h ()):P:=t λ_=>h
theorem Rm(h:Q)(t:(Unit->Q)->P:=by intro h;(repeat first|refine qN ?_|refine Ea.nil ?_|refine fb.region ?_|refine fb.seq ?_|refine la (pA (lv:=.atom _) rfl) ?_|refine la (Pure.seq rfl rfl) ?_);exact h ()):P:=t λ_=>h
theorem Qm(h:Q)(t:(Unit->Q)->P:=by intro h;(repeat first|refine qN ?_|refine Ea.nil ?_|refine fb.region ?_|refine fb.seq ?_|refine la (pA (lv:=.atom _) rfl) ?_|refine fb.ret ?_);exact h ()):P:=t λ_=>h
open Go.RowKit
variable{K:List Nat}{ua:Array Edge}{b d j n:Nat}{c:Code}{dst:Option Nat}{ra:String}{da:List Oper}{tmps:Array Value}{ty:TypeId}{v:Value}{w w':World}
inductive LV where
 |atom (v:Value)
 |list (es:List LV)
 |app (b cap k:Nat) (es:List LV)
 |agg (cs:List LV)
 |tuple (vs:List LV)
 |ref (cs:List LV)
 deriving Inhabited
variable{lv:LV}
def LV.cells:LV->List LV
 |.agg cs=>cs
 |v=>[v]
@[reducible] def int(k:IntKind)(n:Int):LV:=.atom (.int k n)
@[reducible] def bool(b:Bool):LV:=.atom (.bool b)
@[reducible] def str(l:List UInt8):LV:=.atom (.string ⟨l.toArray⟩)
@[reducible] def ptr(b off:Nat):LV:=.atom (.pointer (some ⟨b,off,none⟩))
@[reducible] def Yb:LV:=.atom (.slice none 0 0)
inductive ma where
 |cells (ty:TypeId) (cs:List LV)
 |row (n:Nat)
 |Bz (ty:TypeId) (cs:List LV)
 |map (es:List (Value×LV)) (qa:Nat)
 |obj (o:Obj)
 deriving Inhabited
abbrev Heap:=List (Nat×ma)
variable{F H H' H1:Heap}
abbrev Live:=Nat->Nat
variable{L L':Live}
mutual
def xb(w:World)(L:Live):LV->Value->Prop
 |.atom v,x=>x=v
 |.agg cs,x=>∃ xs:List Value,x=.agg xs.toArray/\oa w L cs xs
 |.tuple vs,x=>∃ xs:List Value,x=.tuple xs.toArray/\oa w L vs xs
 |.list es,x=>∃ a cap,x=.slice a es.length cap/\es.length<=cap/\(es≠[]->∃ b off k,a=some ⟨b,off,none⟩/\Qc w L b k off es)
 |.app b cap k es,x=>x=.slice (some ⟨b,0,none⟩) es.length cap/\es.length<=cap/\Qc w L b k 0 es/\∃ e s,w.shape? b=some (e,s)/\cap * k<=s
 |.ref cs,x=>∃ b off,x=.pointer (some ⟨b,off,none⟩)/\Rb w L b off cs
def oa(w:World)(L:Live):List LV->List Value->Prop
 |[],xs=>xs=[]
 |c::cs,xs=>∃ y ys,xs=y::ys/\xb w L c y/\oa w L cs ys
def Rb(w:World)(L:Live)(b:Nat):Nat->List LV->Prop
 |_,[]=>True
 |off,c::cs=>off<L b/\(∃ x,w.cell? ⟨b,off,none⟩=some x/\xb w L c x)/\Rb w L b (off+1) cs
def Qc(w:World)(L:Live)(b k:Nat):Nat->List LV->Prop
 |_,[]=>True
 |off,.agg cs::es=>(cs.length=k/\Rb w L b off cs)/\Qc w L b k (off+k) es
 |off,.atom v::es=>(1=k/\off<L b/\∃ x,w.cell? ⟨b,off,none⟩=some x/\xb w L (.atom v) x)/\Qc w L b k (off+k) es
 |off,.list v::es=>(1=k/\off<L b/\∃ x,w.cell? ⟨b,off,none⟩=some x/\xb w L (.list v) x)/\Qc w L b k (off+k) es
 |off,.app b2 c k2 v::es=>(1=k/\off<L b/\∃ x,w.cell? ⟨b,off,none⟩=some x/\xb w L (.app b2 c k2 v) x)/\Qc w L b k (off+k) es
 |off,.tuple v::es=>(1=k/\off<L b/\∃ x,w.cell? ⟨b,off,none⟩=some x/\xb w L (.tuple v) x)/\Qc w L b k (off+k) es
 |off,.ref v::es=>(1=k/\off<L b/\∃ x,w.cell? ⟨b,off,none⟩=some x/\xb w L (.ref v) x)/\Qc w L b k (off+k) es
end
structure Ext(w:World)(L:Live)(w':World)(L':Live):Prop where
 size:w.heap.size<=w'.heap.size
 shape:∀ b,b<w.heap.size->w'.shape? b=w.shape? b
 live:∀ b i,i<L b->w'.cell? ⟨b,i,none⟩=w.cell? ⟨b,i,none⟩
 mono:∀ b,L b<=L' b
theorem Ext.refl(w:World)(L:Live):Ext w L w L:=⟨Jb _,λ_ _=>rfl,λ_ _ _=>rfl,λ_=>Jb _⟩
theorem Ext.trans{w1 w2 w3:World}{L1 L2 L3:Live}(h:Ext w1 L1 w2 L2)(k:Ext w2 L2 w3 L3):Ext w1 L1 w3 L3:=
 ⟨Qf h.size k.size,λb hb=>(k.shape b (Nat.lt_of_lt_of_le hb h.size)).trans (h.shape b hb),
  λb i hi=>(k.live b i (Nat.lt_of_lt_of_le hi (h.mono b))).trans (h.live b i hi),λb=>Qf (h.mono b) (k.mono b)⟩
theorem qvi{p:TypeId×Nat}(h:w.shape? b=some p):b<w.heap.size:=by rcases Nat.lt_or_ge b w.heap.size with h1|h1;exact h1;simp[World.shape?,Array.getElem?_eq_none h1] at h
mutual
theorem xb.mono{w w':World}{L L':Live}(h:Ext w L w' L'):∀ (lv:LV) (x:Value),xb w L lv x->xb w' L' lv x
 |.atom v,x,r=>by simp only[xb] at r ⊢;exact r
 |.agg cs,x,r=>by simp only[xb] at r ⊢;obtain⟨xs,rfl,r⟩:=r;exact⟨xs,rfl,oa.mono h cs xs r⟩
 |.tuple cs,x,r=>by simp only[xb] at r ⊢;obtain⟨xs,rfl,r⟩:=r;exact⟨xs,rfl,oa.mono h cs xs r⟩
 |.list es,x,r=>by
  simp only[xb] at r ⊢;obtain⟨a,cap,rfl,hl,r⟩:=r;refine⟨a,cap,rfl,hl,λFb=>?_⟩;obtain⟨b,off,k,ha,r⟩:=r Fb
  exact⟨b,off,k,ha,Qc.mono h b k off es r⟩
 |.app b cap k es,x,r=>by simp only[xb] at r ⊢;obtain⟨rfl,hl,r,e,s,hs,hc⟩:=r;exact⟨rfl,hl,Qc.mono h b k 0 es r,e,s,by rw[h.shape b (qvi hs)];exact hs,hc⟩
 |.ref cs,x,r=>by simp only[xb] at r ⊢;obtain⟨b,off,rfl,r⟩:=r;exact⟨b,off,rfl,Rb.mono h b off cs r⟩
 termination_by lv=>SizeOf.sizeOf lv
theorem oa.mono{w w':World}{L L':Live}(h:Ext w L w' L'):∀ (cs:List LV) (xs:List Value),oa w L cs xs->oa w' L' cs xs
 |[],xs,r=>by simp only[oa] at r ⊢;exact r
 |c::cs,xs,r=>by simp only[oa] at r ⊢;obtain⟨y,ys,rfl,r1,r2⟩:=r;exact⟨y,ys,rfl,xb.mono h c y r1,oa.mono h cs ys r2⟩
 termination_by cs=>SizeOf.sizeOf cs
theorem Rb.mono{w w':World}{L L':Live}(h:Ext w L w' L')(b:Nat):∀ (off:Nat) (cs:List LV),Rb w L b off cs->Rb w' L' b off cs
 |_,[],r=>by simp only[Rb]
 |off,c::cs,r=>by simp only[Rb] at r ⊢;obtain⟨r1,⟨x,hx,r2⟩,r3⟩:=r;exact⟨Nat.lt_of_lt_of_le r1 (h.mono b),⟨x,by rw[h.live b off r1];exact hx,xb.mono h c x r2⟩,Rb.mono h b (off+1) cs r3⟩
 termination_by _ cs=>SizeOf.sizeOf cs
theorem Qc.mono{w w':World}{L L':Live}(h:Ext w L w' L')(b k:Nat):∀ (off:Nat) (es:List LV),Qc w L b k off es->Qc w' L' b k off es
 |_,[],r=>by simp only[Qc]
 |off,.agg cs::es,r=>by simp only[Qc] at r ⊢;exact⟨⟨r.1.1,Rb.mono h b off cs r.1.2⟩,Qc.mono h b k (off+k) es r.2⟩
 |off,.atom v::es,r=>by simp only[Qc] at r ⊢;obtain⟨⟨h1,h2,x,h3,h4⟩,r2⟩:=r;exact⟨⟨h1,Nat.lt_of_lt_of_le h2 (h.mono b),x,by rw[h.live b off h2];exact h3,xb.mono h (.atom v) x h4⟩,Qc.mono h b k (off+k) es r2⟩
 |off,.list v::es,r=>by simp only[Qc] at r ⊢;obtain⟨⟨h1,h2,x,h3,h4⟩,r2⟩:=r;exact⟨⟨h1,Nat.lt_of_lt_of_le h2 (h.mono b),x,by rw[h.live b off h2];exact h3,xb.mono h (.list v) x h4⟩,Qc.mono h b k (off+k) es r2⟩
 |off,.app b2 c k2 v::es,r=>by simp only[Qc] at r ⊢;obtain⟨⟨h1,h2,x,h3,h4⟩,r2⟩:=r;exact⟨⟨h1,Nat.lt_of_lt_of_le h2 (h.mono b),x,by rw[h.live b off h2];exact h3,xb.mono h (.app b2 c k2 v) x h4⟩,Qc.mono h b k (off+k) es r2⟩
 |off,.tuple v::es,r=>by simp only[Qc] at r ⊢;obtain⟨⟨h1,h2,x,h3,h4⟩,r2⟩:=r;exact⟨⟨h1,Nat.lt_of_lt_of_le h2 (h.mono b),x,by rw[h.live b off h2];exact h3,xb.mono h (.tuple v) x h4⟩,Qc.mono h b k (off+k) es r2⟩
 |off,.ref v::es,r=>by simp only[Qc] at r ⊢;obtain⟨⟨h1,h2,x,h3,h4⟩,r2⟩:=r;exact⟨⟨h1,Nat.lt_of_lt_of_le h2 (h.mono b),x,by rw[h.live b off h2];exact h3,xb.mono h (.ref v) x h4⟩,Qc.mono h b k (off+k) es r2⟩
 termination_by _ es=>SizeOf.sizeOf es
end
def LV.Sub(a b:LV):Prop:=∀ w L x,xb w L a x->xb w L b x
theorem vR(a:LV):a.Sub a:=λ_ _ _ h=>h
theorem vN:Yb.Sub (.list []):=λw L x r=>by simp only[xb] at r ⊢;subst r;exact⟨none,0,rfl,Jb _,λh=>absurd rfl h⟩
theorem LV.Sub.app(b cap k:Nat)(es:List LV):(LV.app b cap k es).Sub (.list es):=λw L x r=>by simp only[xb] at r ⊢;obtain⟨rfl,hl,r,_⟩:=r;exact⟨some ⟨b,0,none⟩,cap,rfl,hl,λ_=>⟨b,0,k,rfl,r⟩⟩
def Mw:List LV->List LV->Prop
 |[],[]=>True
 |a::Mc,b::bs=>a.Sub b/\Mw Mc bs
 |_,_=>False
theorem Mw.sJ{w:World}{L:Live}:∀ {Mc bs:List LV} {xs:List Value},Mw Mc bs->oa w L Mc xs->oa w L bs xs
 |[],[],xs,_,r=>r
 |a::Mc,b::bs,xs,h,r=>by simp only[oa] at r ⊢;obtain⟨y,ys,rfl,r1,r2⟩:=r;exact⟨y,ys,rfl,h.1 _ _ _ r1,Mw.sJ h.2 r2⟩
 |[],_::_,_,h,_=>h.elim
 |_::_,[],_,h,_=>h.elim
theorem vA{Mc bs:List LV}(h:Mw Mc bs):(LV.agg Mc).Sub (.agg bs):=λw L x r=>by simp only[xb] at r ⊢;obtain⟨xs,rfl,r⟩:=r;exact⟨xs,rfl,h.sJ r⟩
def rP(w:World)(L:Live)(b:Nat):ma->Prop
 |.cells ty cs=>L b=0/\∃ xs:List Value,w.heap[b]? = some (.cells xs.toArray ty (0,0))/\oa w L cs xs
 |.row n=>L b=n/\∃ (xs:Array Value) (ty:TypeId) (fr:Nat×Nat),w.heap[b]? = some (.cells xs ty fr)/\n<=xs.size/\fr.2<=n
 |.Bz ty cs=>L b=0/\∃ (xs:List Value) (fr:Nat×Nat),w.heap[b]? = some (.cells xs.toArray ty fr)/\xs.length<=fr.1/\oa w L cs xs
 |.map es qa=>L b=0/\∃ Mc:List MapEntry,w.heap[b]? = some (.map Mc.toArray qa)/\Mc.map (·.key)=es.map (·.1)/\oa w L (es.map (·.2)) (Mc.map (·.val))
   /\ (∀ e∈Mc,e.born<qa)/\(Mc.map (·.born)).Nodup
 |.obj o=>L b=0/\w.heap[b]? = some o/\w.shape? b=none
structure Ctx where
 P:Program
 B0:Nat
 w0:World
variable{C:Ctx}
structure Ta(C:Ctx)(w:World)(L:Live)(H:Heap):Prop where
 base:Below C.B0 C.w0 w
 ui:True
 b0:C.B0<=w.heap.size
 wf:∀ b,w.heap.size<=b->L b=0
 nodup:(H.map (·.1)).Nodup
 uc:∀ p∈H,C.B0<=p.1/\p.1<w.heap.size/\rP w L p.1 p.2
@[reducible] def keys(H:Heap):List Nat:=H.map (·.1)
structure Fr(K:List Nat)(w:World)(L:Live)(w':World)(L':Live)(H':Heap):Prop where
 os:w'.os=w.os
 tape:w'.tape=w.tape
 output:w'.output=w.output
 ext:Ext w L w' L'
 block:∀ b,b<w.heap.size->b ∉ K->w'.heap[b]? = w.heap[b]?
 Qi:∀ b,b<w.heap.size->b ∉ K->L' b=L b
 oA:∀ p∈H',p.1∈K∨w.heap.size<=p.1
theorem Fr.refl(w:World)(L:Live)(H:Heap):Fr (keys H) w L w L H:=
 ⟨rfl,rfl,rfl,.refl _ _,λ_ _ _=>rfl,λ_ _ _=>rfl,λ_ hp=>.inl (List.mem_map_of_mem hp)⟩
theorem Fr.trans{K:List Nat}{w1 w2 w3:World}{L1 L2 L3:Live}{H2 H3:Heap}(h:Fr K w1 L1 w2 L2 H2)(k:Fr (keys H2) w2 L2 w3 L3 H3):Fr K w1 L1 w3 L3 H3:=by
 have out:∀ b,b<w1.heap.size->b ∉ K->b ∉ keys H2:=λb hb hn hm=>by obtain⟨p,hp,rfl⟩:=Qh hm;rcases h.oA p hp with h1|h1;exact hn h1;omega
 refine⟨k.os.trans h.os,k.tape.trans h.tape,k.output.trans h.output,h.ext.trans k.ext,λb hb hn=>?_,λb hb hn=>?_,λp hp=>?_⟩;exact(k.block b (Nat.lt_of_lt_of_le hb h.ext.size) (out b hb hn)).trans (h.block b hb hn);exact(k.Qi b (Nat.lt_of_lt_of_le hb h.ext.size) (out b hb hn)).trans (h.Qi b hb hn);rcases k.oA p hp with h1|h1;obtain⟨q,hq,he⟩:=Qh h1;rw[<-he];exact h.oA q hq;exact .inr (Qf h.ext.size h1)
theorem Fr.sub{H':Heap}(h:Fr K w L w' L' H)(hs:∀ p∈H',p∈H):Fr K w L w' L' H':=
 ⟨h.os,h.tape,h.output,h.ext,h.block,h.Qi,λp hp=>h.oA p (hs p hp)⟩
theorem BF(h:w'.heap[b]? = w.heap[b]?):w'.shape? b=w.shape? b:=by simp only[World.shape?,h]
theorem cell_of_heap(h:w'.heap[b]? = w.heap[b]?)(o:Nat):w'.cell? ⟨b,o,none⟩=w.cell? ⟨b,o,none⟩:=by simp only[World.cell?,h]
theorem rP.XF{o:ma}(h:Ext w L w' L')(hb:w'.heap[b]? = w.heap[b]?)(hl:L' b=L b)(r:rP w L b o):rP w' L' b o:=by
 cases o with
 |cells ty cs=>obtain⟨r1,xs,r2,r3⟩:=r;exact⟨hl.trans r1,xs,hb.trans r2,r3.mono h _ _⟩
 |row n=>obtain⟨r1,xs,ty,fr,r2,r3,r4⟩:=r;exact⟨hl.trans r1,xs,ty,fr,hb.trans r2,r3,r4⟩
 |Bz ty cs=>obtain⟨r1,xs,fr,r2,r3,r4⟩:=r;exact⟨hl.trans r1,xs,fr,hb.trans r2,r3,r4.mono h _ _⟩
 |map es qa=>obtain⟨r1,Mc,r2,r3,r4,r5⟩:=r;exact⟨hl.trans r1,Mc,hb.trans r2,r3,r4.mono h _ _,r5⟩
 |obj o=>obtain⟨r1,r2,r3⟩:=r;exact⟨hl.trans r1,hb.trans r2,by rw[BF hb];exact r3⟩
theorem Ta.perm(h:Ta C w L H)(p:H.Perm H'):Ta C w L H':=
 ⟨h.base,h.ui,h.b0,h.wf,((p.map _).nodup_iff).1 h.nodup,λq hq=>h.uc q (p.mem_iff.2 hq)⟩
theorem Ta.left(h:Ta C w L (H++F)):Ta C w L H:=
 ⟨h.base,h.ui,h.b0,h.wf,(Xm (by simpa using h.nodup)).1,λq hq=>h.uc q (List.mem_append_left _ hq)⟩
theorem Ta.sub(h:Ta C w L H)(s:H'.Sublist H):Ta C w L H':=
 ⟨h.base,h.ui,h.b0,h.wf,h.nodup.sublist (s.map _),λq hq=>h.uc q (s.subset hq)⟩
theorem Ta.frame(h:Ta C w L (H++F))(f:Fr (keys H) w L w' L' H')(h':Ta C w' L' H') :
  Ta C w' L' (H'++F)/\Fr (keys (H++F)) w L w' L' (H'++F):=by
 have hn:(keys H++keys F).Nodup:=by simpa [keys] using h.nodup
 have LC:∀ q∈F,q.1 ∉ keys H:=λq hq hm=>(Xm hn).2.2 _ hm _ (List.mem_map_of_mem hq) rfl;refine⟨⟨h'.base,h'.ui,h'.b0,h'.wf,?_,λp hp=>?_⟩,⟨f.os,f.tape,f.output,f.ext,λb hb hk=>?_,λb hb hk=>?_,λp hp=>?_⟩⟩;rw[Je];refine List.nodup_append.2 ⟨h'.nodup,(Xm hn).2.1,λa ha b hb he=>?_⟩;subst he;obtain⟨p,hp,rfl⟩:=Qh ha;obtain⟨q,hq,he⟩:=Qh hb;have hqs:=(h.uc q (List.mem_append_right _ hq)).2.1;rcases f.oA p hp with h1|h1;exact LC q hq (he▸h1);omega;rcases xj hp with hp|hp;exact h'.uc p hp;obtain⟨r1,r2,r3⟩:=h.uc p (List.mem_append_right _ hp);exact⟨r1,Nat.lt_of_lt_of_le r2 f.ext.size,r3.XF f.ext (f.block _ r2 (LC p hp)) (f.Qi _ r2 (LC p hp))⟩;exact f.block b hb (λhm=>hk (by simp only[keys,Je,List.mem_append];exact .inl hm));exact f.Qi b hb (λhm=>hk (by simp only[keys,Je,List.mem_append];exact .inl hm));rcases xj hp with hp|hp;rcases f.oA p hp with h1|h1;exact .inl (by simp only[keys,Je,List.mem_append];exact .inl h1);exact .inr h1;exact .inl (by simp only[keys,Je,List.mem_append];exact .inr (List.mem_map_of_mem hp))
def xd(p:Nat×ma)(H F:Heap):Prop:=H.Perm (p::F)
theorem pH{p:Nat×ma}:xd p (p::F) F:=List.Perm.refl _
theorem pT{p q:Nat×ma}(h:xd p H F):xd p (q::H) (q::F):=
 (Vs q h).trans (cr p q F)
def HSub(H' H:Heap):Prop:=∃ G,H.Perm (H'++G)
theorem Kb(H:Heap):HSub H H:=⟨[],by simp⟩
theorem HSub.nil(H:Heap):HSub [] H:=⟨H,by simp⟩
theorem Pg{p:Nat×ma}(h:HSub H' H):HSub H' (p::H):=
 let ⟨G,hG⟩:=h
 ⟨p::G,(Vs p hG).trans List.perm_middle.symm⟩
theorem tc{p:Nat×ma}(hp:xd p H F)(h:HSub H' F):HSub (p::H') H:=
 let ⟨G,hG⟩:=h
 ⟨G,List.Perm.trans hp (Vs p hG)⟩
theorem Ta.qc(h:Ta C w L H)(s:HSub H' H):Ta C w L H':=
 let ⟨_,hG⟩:=s
 (h.perm hG).left
theorem Fr.qc(h:Fr K w L w' L' H)(s:HSub H' H):Fr K w L w' L' H':=
 let ⟨_,hG⟩:=s
 h.sub λ_ hp=>hG.mem_iff.2 (List.mem_append_left _ hp)
structure Env where
 s:Nat->LV
 ds:List Deferred
variable{e:Env}
def Env.Kc(e:Env)(d:Nat)(v:LV):Env:=⟨λi=>bif Nat.beq i d then v else e.s i,e.ds⟩
def Env.put(e:Env):Option Nat->LV->Env
 |some d,v=>e.Kc d v
 |none,_=>e
def Env.ev(e:Env):Operand->LV
 |.tmp t=>e.s t
 |.const v=>.atom v
 |.global g=>.atom (.pointer (some ⟨g,0,none⟩))
 |.func f=>.atom (.func (.func f) #[] #[])
structure yc(n:Nat)(a:Act)(e:Env)(w:World)(L:Live):Prop where
 size:a.tmps.size=n
 ds:a.defers=e.ds
 Gi:∀ i,xb w L (e.s i) (a.tmps.getD i undef)
theorem yc.ev{n:Nat}{a:Act}{e:Env}{w:World}{L:Live}(h:yc n a e w L):∀ x,xb w L (e.ev x) (a.eval x):=λx=>by
 cases x with
 |tmp t=>exact h.Gi t
 |const v=>simp only[Env.ev,xb,Act.eval]
 |global g=>simp only[Env.ev,xb,Act.eval]
 |func f=>simp only[Env.ev,xb,Act.eval]
theorem yc.mono{n:Nat}{a:Act}{e:Env}{w w':World}{L L':Live}(h:yc n a e w L)(x:Ext w L w' L'):yc n a e w' L':=
 ⟨h.size,h.ds,λi=>(h.Gi i).mono x _ _⟩
def mD(n:Nat):Option Nat->Bool
 |some d=>Nat.blt d n
 |none=>true
@[reducible] def Sl(n:Nat)(d:Option Nat):Prop:=mD n d=true
theorem yc.put{n:Nat}{a:Act}{e:Env}{w:World}{L:Live}(h:yc n a e w L){dst:Option Nat}{lv:LV}{v:Value}(hd:Sl n dst)(hv:xb w L lv v) :
  yc n (a.put dst v) (e.put dst lv) w L:=by
 cases dst with
 |none=>exact h
 |some d=>
  refine⟨by simp[Act.put,h.size],h.ds,λi=>?_⟩;simp only[Env.put,Env.Kc,Act.put];have hs:=h.size;have hd:d<n:=by simpa [Sl,mD] using hd
  by_cases hi:i=d;subst hi;simp[Array.getD,hs,hd];exact hv;have hb:Nat.beq i d=false:=by
   cases hb:Nat.beq i d with
   |true=>exact absurd (Nat.eq_of_beq_eq_true hb) hi
   |false=>rfl
  rw[hb];have tA:=h.Gi i;rw[Array.getD_eq_getD_getElem?] at tA ⊢;rw[Array.getElem?_setIfInBounds,zn (Ne.symm hi)];exact tA
abbrev Jc:=Exit->Env->Heap->Prop
variable{Q':Jc}
def QG(n:Nat):Exit->Act->Env->World->Live->Prop
 |.panic _,a,e,_,_=>a.defers=e.ds
 |_,a,e,w,L=>yc n a e w L
def lift(C:Ctx)(n:Nat)(w:World)(L:Live)(K:List Nat)(Q:Jc):Exit->Act->World->Prop:=
 λx a' w'=>∃ e' H' L',Fr K w L w' L' H'/\Ta C w' L' H'/\QG n x a' e' w' L'/\Q x e' H'
theorem iZ{Q:Jc}(h:∀ x e H,Q x e H->Q' x e H){x:Exit}{a:Act}
  (k:lift C n w L K Q x a w'):lift C n w L K Q' x a w':=
 let ⟨e',H',L',h1,h2,h3,h4⟩:=k
 ⟨e',H',L',h1,h2,h3,h _ _ _ h4⟩
theorem dN{w1:World}{L1:Live}{Q:Jc}(f:Fr K w L w1 L1 H1){x:Exit}{a:Act}
  (k:lift C n w1 L1 (keys H1) Q x a w'):lift C n w L K Q x a w':=
 let ⟨e',H',L',h1,h2,h3,h4⟩:=k
 ⟨e',H',L',f.trans h1,h2,h3,h4⟩
def uq(w:World)(L:Live)(H:Heap)(w':World):Prop:=
 (∀ p∈H,w'.heap[p.1]? = w.heap[p.1]?)/\(∀ b i,i<L b->w'.cell? ⟨b,i,none⟩=w.cell? ⟨b,i,none⟩)
def Pure(C:Ctx)(o:Oper)(e:Env)(H:Heap)(lv:LV):Prop:=
 ∀ (ρ:Operand->Value) w L,(∀ x,xb w L (e.ev x) (ρ x))->Ta C w L H ->
  ∃ v,xb w L lv v/\∀ w',uq w L H w'->(execOp ρ o).run C.P w'=.ok (.value v) w'
def Left(C:Ctx)(w:World)(L:Live)(H:Heap)(w':World)(v:Value)(K:LV->Heap->Prop):Prop:=
 ∃ lv H' L',Fr (keys H) w L w' L' H'/\Ta C w' L' H'/\xb w' L' lv v/\K lv H'
def ur(C:Ctx)(w:World)(L:Live)(H:Heap)(w':World)(X:Heap->Prop):Prop:=
 ∃ H' L',Fr (keys H) w L w' L' H'/\Ta C w' L' H'/\X H'
def kA(C:Ctx)(w:World)(L:Live)(H:Heap)(K:LV->Heap->Prop)(X:List PanicEntry->Heap->Prop):Ending->World->Prop
 |.returned v,w'=>Left C w L H w' v K
 |.panicked ch,w'=>ur C w L H w' (X ch)
 |.outgrown,_=>False
def mF(C:Ctx)(w:World)(L:Live)(H:Heap)(K:LV->Heap->Prop)(X:List PanicEntry->Heap->Prop):Result Next->Prop
 |.ok (.value v) w'=>Left C w L H w' v K
 |.ok .skip w'=>Left C w L H w' undef K
 |.ok (.enter f args) w'=>w'=w/\Calls C.P f args w (kA C w L H K X)
 |.halt (.panic v) w'=>ur C w L H w' (X [{ v,recovered:=false }])
 |_=>False
def Ya(C:Ctx)(o:Oper)(e:Env)(H:Heap)(K:LV->Heap->Prop)(X:List PanicEntry->Heap->Prop):Prop:=
 ∀ (ρ:Operand->Value) w L,(∀ x,xb w L (e.ev x) (ρ x))->Ta C w L H->mF C w L H K X ((execOp ρ o).run C.P w)
def Ea(C:Ctx)(n:Nat)(Sa:Array Oper)(Q:Jc)(da:List Oper)(e:Env)(H:Heap):Prop:=
 ∀ a w L,yc n a e w L->Ta C w L H->wpList C.P Sa (lift C n w L (keys H) Q) da a w
def fb(C:Ctx)(n:Nat)(c:Code)(Q:Jc)(e:Env)(H:Heap):Prop:=
 ∀ a w L,yc n a e w L->Ta C w L H->c.wp C.P (lift C n w L (keys H) Q) a w
inductive Ie where
 |ret (v:LV)
 |panic (ch:List PanicEntry)
def ca(C:Ctx)(f:FuncId)(args:List LV)(H:Heap)(R:Ie->Heap->Prop):Prop:=
 ∀ (vs:List Value) w L,oa w L args vs->Ta C w L H ->
  Calls C.P f vs.toArray w (kA C w L H (λv=>R (.ret v)) λch=>R (.panic ch))
theorem Left.mono{H:Heap}{K K':LV->Heap->Prop}(h:Left C w L H w' v K)(hk:∀ lv H,K lv H->K' lv H):Left C w L H w' v K':=
 let ⟨lv,H',L',h1,h2,h3,h4⟩:=h
 ⟨lv,H',L',h1,h2,h3,hk _ _ h4⟩
theorem ur.mono{H:Heap}{X X':Heap->Prop}(h:ur C w L H w' X)(hk:∀ H,X H->X' H):ur C w L H w' X':=
 let ⟨H',L',h1,h2,h3⟩:=h
 ⟨H',L',h1,h2,hk _ h3⟩
theorem kA.mono{C:Ctx}{w:World}{L:Live}{H:Heap}{K K':LV->Heap->Prop}{X X':List PanicEntry->Heap->Prop}(hk:∀ lv H,K lv H->K' lv H)(hx:∀ ch H,X ch H->X' ch H)
  (e:Ending) (w':World) (h:kA C w L H K X e w'):kA C w L H K' X' e w':=by
 cases e with
 |returned v=>exact Left.mono h hk
 |panicked ch=>exact ur.mono h (hx ch)
 |outgrown=>exact h
theorem ca.mono{C:Ctx}{f:FuncId}{args:List LV}{H:Heap}{R R':Ie->Heap->Prop}(h:ca C f args H R)(hr:∀ r H,R r H->R' r H):ca C f args H R':=
 λvs w L h1 h2=>(h vs w L h1 h2).mono (kA.mono (λ_ _=>hr _ _) λ_ _=>hr _ _)
theorem Left.frame{C:Ctx}{w:World}{L:Live}{H F:Heap}{w':World}{v:Value}{K:LV->Heap->Prop}(hH:Ta C w L (H++F))(h:Left C w L H w' v λlv H'=>K lv (H'++F)) :
  Left C w L (H++F) w' v K:=
 let ⟨lv,H',L',h1,h2,h3,h4⟩:=h
 let f:=hH.frame h1 h2
 ⟨lv,H'++F,L',f.2,f.1,h3,h4⟩
theorem ur.frame{C:Ctx}{w:World}{L:Live}{H F:Heap}{w':World}{X:Heap->Prop}(hH:Ta C w L (H++F))(h:ur C w L H w' λH'=>X (H'++F)) :
  ur C w L (H++F) w' X:=
 let ⟨H',L',h1,h2,h3⟩:=h
 let f:=hH.frame h1 h2
 ⟨H'++F,L',f.2,f.1,h3⟩
theorem Fr.perm{H2:Heap}(p:H1.Perm H2)(h:Fr (keys H1) w L w' L' H'):Fr (keys H2) w L w' L' H':=by have hm:∀ b,b∈keys H1 ↔ b∈keys H2:=λb=>(p.map _).mem_iff;exact⟨h.os,h.tape,h.output,h.ext,λb hb hn=>h.block b hb λk=>hn ((hm b).1 k),λb hb hn=>h.Qi b hb λk=>hn ((hm b).1 k),λq hq=>(h.oA q hq).imp (hm _).1 id⟩
theorem mF.frame{C:Ctx}{w:World}{L:Live}{H F G:Heap}{K:LV->Heap->Prop}{X:List PanicEntry->Heap->Prop}(p:G.Perm (H++F))(hH:Ta C w L G){r:Result Next}
  (h:mF C w L H (λlv H'=>K lv (H'++F)) (λch H'=>X ch (H'++F)) r):mF C w L G K X r:=by
 have gE:=hH.perm p;have lf:∀ {w' v},Left C w L H w' v (λlv H'=>K lv (H'++F))->Left C w L G w' v K:=λh=>by obtain⟨lv,H',L',h1,h2,h3,h4⟩:=Left.frame gE h;exact⟨lv,H',L',h1.perm p.symm,h2,h3,h4⟩
 have lx:∀ {w' ch},ur C w L H w' (λH'=>X ch (H'++F))->ur C w L G w' (X ch):=λh=>by obtain⟨H',L',h1,h2,h3⟩:=ur.frame gE h;exact⟨H',L',h1.perm p.symm,h2,h3⟩
 unfold mF at h ⊢;split at h;exact lf h;exact lf h;refine⟨h.1,h.2.mono λe w' he=>?_⟩
 cases e with
 |returned v=>exact lf he
 |panicked ch=>exact lx he
 |outgrown=>exact he
 exact lx h;exact h.elim
theorem Ya.frame{C:Ctx}{o:Oper}{e:Env}{G H F:Heap}{K:LV->Heap->Prop}{X:List PanicEntry->Heap->Prop}(p:G.Perm (H++F))
  (h:Ya C o e H (λlv H'=>K lv (H'++F)) λch H'=>X ch (H'++F)):Ya C o e G K X:=
 λρ w L h1 h2=>mF.frame p h2 (h ρ w L h1 (h2.perm p).left)
theorem Pure.step{o:Oper}{K:LV->Heap->Prop}{X:List PanicEntry->Heap->Prop}(h:Pure C o e H lv)(k:K lv H):Ya C o e H K X:=λρ w L h1 h2=>by obtain⟨v,hv,hr⟩:=h ρ w L h1 h2;rw[hr w ⟨λ_ _=>rfl,λ_ _ _=>rfl⟩];exact⟨lv,H,L,Fr.refl _ _ _,h2,hv,k⟩
theorem BB{P:Program}{Sa:Array Oper}{Q Q':Exit->Act->World->Prop}(h:∀ e a w,Q e a w->Q' e a w):∀ (l:List Oper) (a:Act) (w:World),wpList P Sa Q l a w->wpList P Sa Q' l a w
 |[],_,_,k=>h _ _ _ k
 |o::l,a,w,k=>by
  unfold wpList at k ⊢;split at k;rename_i hw;rw[zp hw];rcases k with k|⟨k1,a0,w0,k2⟩;refine .inl ?_;unfold Oper.wp at k ⊢;generalize (execOp a.eval o).run P w=r at k ⊢;cases r with
  |ok x w'=>
   cases x <;> simp only[Oper.upon] at k ⊢ <;> first
    |exact BB h l _ _ k
    |(refine Calls.mono k λe GO he=>?_;cases e with
      |returned v=>exact BB h l _ _ he
      |panicked ch=>exact h _ _ _ he
      |outgrown=>obtain⟨a0,w0,he⟩:=he;exact⟨a0,w0,h _ _ _ he⟩)
    |exact Rows.mono k λ_ _ he=>BB h l _ _ he
  |halt x w'=>cases x <;> simp only[Oper.upon] at k ⊢ <;> exact h _ _ _ k
  exact .inr ⟨k1,a0,w0,h _ _ _ k2⟩;rename_i hw;rw[zn hw];exact BB h l _ _ k
theorem A9{o:Oper}{K:LV->Heap->Prop}{X:List PanicEntry->Heap->Prop}(h:Ya C o e H K X)(hd:Sl n o.dst)
  {a:Act} {w:World} {L:Live} (hE:yc n a e w L) (hH:Ta C w L H) {K':Act->World->Prop} {Q':Exit->Act->World->Prop}
  (hK:∀ lv H' L' w' a',Fr (keys H) w L w' L' H'->Ta C w' L' H'->yc n a' (e.put o.dst lv) w' L'->K lv H'->K' a' w')
  (hX:∀ ch H' L' w',Fr (keys H) w L w' L' H'->Ta C w' L' H'->X ch H'->Q' (.panic ch) a w'):o.wp C.P a w K' Q':=by
 have hs:=h a.eval w L hE.ev hH;unfold Oper.wp;have left:∀ {w' v},Left C w L H w' v K->K' (a.put o.dst v) w':=λh=>by obtain⟨lv,H',L',h1,h2,h3,h4⟩:=h;exact hK lv H' L' _ _ h1 h2 ((hE.mono h1.ext).put hd h3) h4
 have Xt:∀ {w' ch},ur C w L H w' (X ch)->Q' (.panic ch) a w':=λh=>by obtain⟨H',L',h1,h2,h3⟩:=h;exact hX _ H' L' _ h1 h2 h3
 generalize (execOp a.eval o).run C.P w=r at hs ⊢;unfold mF at hs;split at hs;exact left hs;exact left hs;obtain⟨rfl,hs⟩:=hs;refine Calls.mono hs λe w' he=>?_
 cases e with
 |returned v=>exact left he
 |panicked ch=>exact Xt he
 |outgrown=>exact he.elim
 exact Xt hs;exact hs.elim
section Sa
variable{C:Ctx}{n:Nat}{Sa:Array Oper}{Q:Jc}{e:Env}{H:Heap}
theorem Ea.nil(h:Q .normal e H):Ea C n Sa Q [] e H:=λ_ _ L hE hH=>⟨e,H,L,Fr.refl _ _ _,hH,hE,h⟩
theorem oS{op:Op}
  (h:Ya C ⟨dst,op,ty,ra,ua,none⟩ e H (λlv H'=>Ea C n Sa Q da (e.put dst lv) H') λch H'=>∀ e',e'.ds=e.ds->Q (.panic ch) e' H')
  (hd:Sl n dst:=by rfl):Ea C n Sa Q (⟨dst,op,ty,ra,ua,none⟩::da) e H:=λa w L hE hH=>by
 unfold wpList;rw[zp (by simp[Region.wanted])];refine .inl (A9 h hd hE hH (λlv H' L' w' a' h1 h2 h3 h4=>?_) λch H' L' w' h1 h2 h3=>?_);exact BB (λ_ _ _=>dN h1) _ _ _ (h4 a' w' L' h3 h2);exact⟨e,H',L',h1,h2,hE.ds,h3 e rfl⟩
theorem oP{op:Op}
  (h:Pure C ⟨dst,op,ty,ra,ua,none⟩ e H lv) (hd:Sl n dst) (k:Ea C n Sa Q da (e.put dst lv) H):Ea C n Sa Q (⟨dst,op,ty,ra,ua,none⟩::da) e H:=
 oS (h.step k) hd
theorem la{op:Op}(h:Pure C ⟨dst,op,ty,ra,ua,none⟩ e H lv)(k:Ea C n Sa Q da (e.put dst lv) H)(hd:Sl n dst:=by rfl):Ea C n Sa Q (⟨dst,op,ty,ra,ua,none⟩::da) e H:=oP h hd k
theorem LH{a:Act}(hE:yc n a e w L){b:Bool}(hj:(Sa[j]?).bind (·.dst)=some d)(hb:e.s d=.atom (.bool b)):yielded Sa a.tmps j=some b:=by
 have h:=hE.Gi d;rw[hb] at h;simp only[xb] at h;unfold yielded;rw[hj];simp only[Option.bind_some];rw[Array.getD_eq_getD_getElem?] at h;cases hx:a.tmps[d]? with
 |none=>rw[hx] at h;simp[undef] at h
 |some x=>rw[hx] at h;simp only[Option.getD_some] at h;subst h;rfl
theorem Ea.want{op:Op}{b:Bool}
  (hj:(Sa[j]?).bind (·.dst)=some d) (hb:e.s d=.atom (.bool b))
  (k:Ea C n Sa Q (⟨dst,op,ty,ra,ua,none⟩::da) e H):Ea C n Sa Q (⟨dst,op,ty,ra,ua,some (j,b)⟩::da) e H:=λa w L hE hH=>by
 have:=k a w L hE hH;unfold wpList at this ⊢;rw[zp (by simp[Region.wanted])] at this;rw[zp (by simp[Region.wanted,LH hE hj hb])];exact this
theorem Ea.skip{op:Op}{b c:Bool}
  (hj:(Sa[j]?).bind (·.dst)=some d) (hb:e.s d=.atom (.bool b)) (Fb:b=!c) (hd:Sl n dst)
  (k:Ea C n Sa Q da (e.put dst (.atom undef)) H):Ea C n Sa Q (⟨dst,op,ty,ra,ua,some (j,c)⟩::da) e H:=λa w L hE hH=>by
 unfold wpList;rw[zn (by subst Fb;cases c <;> simp[Region.wanted,LH hE hj hb])];exact k _ w L (hE.put hd (by simp only[xb])) hH
theorem Ea.Zc(h:Ea C n Sa Q da e H)(hq:∀ x e H,Q x e H->Q' x e H):Ea C n Sa Q' da e H:=
 λa w L hE hH=>BB (λ_ _ _=>iZ hq) _ _ _ (h a w L hE hH)
end Sa
section code
variable{C:Ctx}{n:Nat}{Q:Jc}{e:Env}{H:Heap}
def ve(k:Env->Heap->Prop)(Q:Jc):Jc
 |.normal,e,H=>k e H
 |x,e,H=>Q x e H
def Oe(id:Nat)(Q:Jc):Jc
 |.exit YH,e,H=>if YH=id then Q .normal e H else Q (.exit YH) e H
 |x,e,H=>Q x e H
theorem fb.Zc(h:fb C n c Q e H)(hq:∀ x e H,Q x e H->Q' x e H):fb C n c Q' e H:=
 λa w L hE hH=>Go.wp_mono (h a w L hE hH) λ_ _ _=>iZ hq
theorem fb.seq{x y:Code}(h:fb C n x (ve (λe H=>fb C n y Q e H) Q) e H):fb C n (.seq x y) Q e H:=λa w L hE hH=>by
 refine wp_seq (Go.wp_mono (h a w L hE hH) λex a' w' hq=>?_);obtain⟨e',H',L',h1,h2,h3,h4⟩:=hq
 cases ex with
 |normal=>exact Go.wp_mono (h4 a' w' L' h3 h2) λ_ _ _=>dN h1
 |exit id=>exact⟨e',H',L',h1,h2,h3,h4⟩
 |goto id=>exact⟨e',H',L',h1,h2,h3,h4⟩
 |ret=>exact⟨e',H',L',h1,h2,h3,h4⟩
 |panic ch=>exact⟨e',H',L',h1,h2,h3,h4⟩
 |outgrown=>exact⟨e',H',L',h1,h2,h3,h4⟩
theorem fb.block{id:Nat}{c:Code}(h:fb C n c (Oe id Q) e H):fb C n (.block id c) Q e H:=λa w L hE hH=>by
 refine wp_block (Go.wp_mono (h a w L hE hH) λex a' w' hq=>?_);obtain⟨e',H',L',h1,h2,h3,h4⟩:=hq
 cases ex with
 |exit YH=>simp only[Exit.inBlock,Oe] at h4 ⊢;split;rename_i hid;rw[zp hid] at h4;exact⟨e',H',L',h1,h2,h3,h4⟩;rename_i hid;rw[zn hid] at h4;exact⟨e',H',L',h1,h2,h3,h4⟩
 |normal=>exact⟨e',H',L',h1,h2,h3,h4⟩
 |goto id=>exact⟨e',H',L',h1,h2,h3,h4⟩
 |ret=>exact⟨e',H',L',h1,h2,h3,h4⟩
 |panic ch=>exact⟨e',H',L',h1,h2,h3,h4⟩
 |outgrown=>exact⟨e',H',L',h1,h2,h3,h4⟩
theorem fb.skip(h:Q .normal e H):fb C n .skip Q e H:=λ_ _ L hE hH=>wp_skip ⟨e,H,L,Fr.refl _ _ _,hH,hE,h⟩
theorem fb.exit{id:Nat}(h:Q (.exit id) e H):fb C n (.exit id) Q e H:=λ_ _ L hE hH=>wp_exit ⟨e,H,L,Fr.refl _ _ _,hH,hE,h⟩
theorem fb.ret(h:Q .ret e H):fb C n .ret Q e H:=λ_ _ L hE hH=>wp_ret ⟨e,H,L,Fr.refl _ _ _,hH,hE,h⟩
theorem oC{c:Operand}{x y:Code}{t:Bool}(hc:e.ev c=.atom (.bool t))(ht:t=true->fb C n x Q e H)(hf:t=false->fb C n y Q e H):fb C n (.cond c x y) Q e H:=
 λa w L hE hH=>by have hv:=hE.ev c;rw[hc] at hv;simp only[xb] at hv;exact wp_cond_split hv (λh=>ht h a w L hE hH) λh=>hf h a w L hE hH
theorem Ma{c:Operand}{x y:Code}{t:Bool}(ht:t=true->fb C n x Q e H)(hf:t=false->fb C n y Q e H)(hc:e.ev c=.atom (.bool t):=by rfl):fb C n (.cond c x y) Q e H:=oC hc ht hf
theorem fb.region{id:Nat}{l:List Oper}(h:Ea C n l.toArray Q l e H):fb C n (.region id l.toArray false) Q e H:=λa w L hE hH=>wp_region_lit (h a w L hE hH)
theorem qjA{P:Program}{Q:Exit->Act->World->Prop}(I:Nat->Act->World->Prop)
  (round:∀ n a w,I n a w->c.wp P (Exit.then (λa' w'=>∃ m,m<n/\I m a' w') Q) a w) {n:Nat} {a:Act} {w:World} (h₀:I n a w):(Code.loop c).wp P Q a w:=by
 intro b k cs;have key:∀ n a w,I n a w ->
   ∃ e a' w',Q e a' w'/\Arrives P (lone (b.at a (.code c::.inLoop c::k)) cs w) b k cs e a' w':=by
  intro n;induction n using Nat.strongRecOn with
  |_ n ih=>
   intro a w hI;obtain⟨e,a₁,w₁,hq,su⟩:=round n a w hI b (.inLoop c::k) cs;cases e with
   |normal=>obtain⟨m,Ja,hI₁⟩:=hq;obtain⟨e₂,a₂,w₂,hq₂,gS⟩:=ih m Ja a₁ w₁ hI₁;exact⟨e₂,a₂,w₂,hq₂,.of_steps (Steps.trans su (.one step_inLoop)) gS⟩
   |exit id=>exact⟨_,a₁,w₁,hq,.pass (x:=.inLoop c) rfl (λ_ _=>.inl (by simp)) su⟩
   |goto l=>exact⟨_,a₁,w₁,hq,.pass (x:=.inLoop c) rfl (λ_ _=>.inl (by simp)) su⟩
   |ret=>exact⟨_,a₁,w₁,hq,.pass (x:=.inLoop c) rfl (λ_ _=>.inl (by simp)) su⟩
   |panic ch=>exact⟨_,a₁,w₁,hq,.pass (x:=.inLoop c) rfl (λ_ _=>.inl (by simp)) su⟩
   |outgrown=>exact⟨_,a₁,w₁,hq,.pass (x:=.inLoop c) rfl (λ_ _=>.inl (by simp)) su⟩
 obtain⟨e,a',w',hq,su⟩:=key n a w h₀;exact⟨e,a',w',hq,.of_steps (.one step_loop) su⟩
theorem fb.loop{c:Code}(I:Nat->Env->Heap->Prop)(k:Nat)(h0:I k e H)
  (round:∀ k e H,I k e H->fb C n c (ve (λe' H'=>∃ m,m<k/\I m e' H') Q) e H):fb C n (.loop c) Q e H:=λa w L hE hH=>by
 refine qjA (I:=λk a' w'=>∃ e' H' L',Fr (keys H) w L w' L' H'/\Ta C w' L' H'/\yc n a' e' w' L'/\I k e' H') (n:=k) ?_ ⟨e,H,L,Fr.refl _ _ _,hH,hE,h0⟩;rintro k a1 w1 ⟨e1,H1,L1,h1,h2,h3,h4⟩;refine Go.wp_mono (round k e1 H1 h4 a1 w1 L1 h3 h2) λex a' w' hq=>?_;obtain⟨e',H',L',g1,g2,g3,g4⟩:=hq
 cases ex with
 |normal=>obtain⟨m,hm,g4⟩:=g4;exact⟨m,hm,e',H',L',h1.trans g1,g2,g3,g4⟩
 |exit id=>exact⟨e',H',L',h1.trans g1,g2,g3,g4⟩
 |goto id=>exact⟨e',H',L',h1.trans g1,g2,g3,g4⟩
 |ret=>exact⟨e',H',L',h1.trans g1,g2,g3,g4⟩
 |panic ch=>exact⟨e',H',L',h1.trans g1,g2,g3,g4⟩
 |outgrown=>exact⟨e',H',L',h1.trans g1,g2,g3,g4⟩
def Env.Aj(j:Env):List (Nat×LV)->Env
 |[]=>j
 |(d,v)::r=>(Env.Aj j r).Kc d v
theorem Env.ji{v:LV}(h:e.s d=v):e.Kc d v=e:=by
 obtain⟨s,ds⟩:=e;simp only[Env.Kc,Env.mk.injEq,and_true];funext i;cases hb:Nat.beq i d with
 |false=>rfl
 |true=>have:=Nat.eq_of_beq_eq_true hb;subst this;exact h.symm
theorem Env.ue{e:Env}:∀ {l:List (Nat×LV)},(∀ p∈l,e.s p.1=p.2)->Env.Aj e l=e
 |[],_=>rfl
 |(d,v)::r,h=>by simp only[Env.Aj];rw[Env.ue (l:=r) (λp hp=>h p (Pc _ hp))];exact Env.ji (h (d,v) List.mem_cons_self)
end code
section vS
variable{C:Ctx}{n:Nat}{Q:Jc}{e:Env}{H:Heap}{k:Env->Heap->Prop}{id YH:Nat}
theorem qN(h:k e H):ve k Q .normal e H:=h
theorem ve.exit(h:Q (.exit id) e H):ve k Q (.exit id) e H:=h
theorem ve.ret(h:Q .ret e H):ve k Q .ret e H:=h
theorem ve.panic{ch:List PanicEntry}(h:Q (.panic ch) e H):ve k Q (.panic ch) e H:=h
theorem Oe.hit(h:Q .normal e H):Oe id Q (.exit id) e H:=by simp only[Oe,if_true];exact h
theorem Oe.HQ(hn:YH≠id)(h:Q (.exit YH) e H):Oe id Q (.exit YH) e H:=by simp only[Oe,zn hn];exact h
theorem Oe.normal(h:Q .normal e H):Oe id Q .normal e H:=h
theorem Oe.ret(h:Q .ret e H):Oe id Q .ret e H:=h
theorem Oe.panic{ch:List PanicEntry}(h:Q (.panic ch) e H):Oe id Q (.panic ch) e H:=h
theorem oB{Sa:Array Oper}(d:Nat){b:Bool}(hb:e.s d=bool b)(ht:b=true->Ea C n Sa Q da (e.Kc d (bool true)) H)(hf:b=false->Ea C n Sa Q da (e.Kc d (bool false)) H):Ea C n Sa Q da e H:=by cases b;have:=hf rfl;rwa [Env.ji hb] at this;have:=ht rfl;rwa [Env.ji hb] at this
theorem fb.sub{v v':LV}(hv:e.s d=v)(hs:v.Sub v')(h:fb C n c Q (e.Kc d v') H):fb C n c Q e H:=λa w L hE hH=>by
 refine h a w L ⟨hE.size,hE.ds,λi=>?_⟩ hH;simp only[Env.Kc]
 cases hb:Nat.beq i d with
 |false=>exact hE.Gi i
 |true=>have hi:=Nat.eq_of_beq_eq_true hb;subst hi;have:=hE.Gi i;rw[hv] at this;exact hs _ _ _ this
theorem Ea.sub{Sa:Array Oper}(d:Nat){v v':LV}(hv:e.s d=v)(hs:v.Sub v')(h:Ea C n Sa Q da (e.Kc d v') H):Ea C n Sa Q da e H:=λa w L hE hH=>by
 refine h a w L ⟨hE.size,hE.ds,λi=>?_⟩ hH;simp only[Env.Kc]
 cases hb:Nat.beq i d with
 |false=>exact hE.Gi i
 |true=>have hi:=Nat.eq_of_beq_eq_true hb;subst hi;have:=hE.Gi i;rw[hv] at this;exact hs _ _ _ this
theorem VU{K:List Nat}(hK:∀ b∈K,b∈keys H1){x:Exit}{a:Act}(h:lift C n w L K Q x a w'):lift C n w L (keys H1) Q x a w':=
 let ⟨e',H',L',h1,h2,h3,h4⟩:=h
 ⟨e',H',L',⟨h1.os,h1.tape,h1.output,h1.ext,λb hb hn=>h1.block b hb λk=>hn (hK b k),λb hb hn=>h1.Qi b hb λk=>hn (hK b k),λp hp=>(h1.oA p hp).imp (hK _) id⟩,h2,h3,h4⟩
theorem HSub.keys{H' H:Heap}(s:HSub H' H):∀ b∈keys H',b∈GL.keys H:=λb hb=>by obtain⟨p,hp,rfl⟩:=Qh hb;obtain⟨G,hG⟩:=s;exact List.mem_map_of_mem (hG.mem_iff.2 (List.mem_append_left _ hp))
theorem cW(s:HSub H' H)(h:fb C n c Q e H'):fb C n c Q e H:=λa w L hE hH=>Go.wp_mono (h a w L hE (hH.qc s)) λ_ _ _=>VU s.keys
theorem Ea.qc{Sa:Array Oper}{da:List Oper}{H':Heap}(s:HSub H' H)(h:Ea C n Sa Q da e H'):Ea C n Sa Q da e H:=λa w L hE hH=>BB (λ_ _ _=>VU s.keys) _ _ _ (h a w L hE (hH.qc s))
theorem fb.perm(s:H.Perm H')(h:fb C n c Q e H'):fb C n c Q e H:=cW ⟨[],by simpa using s⟩ h
end vS
def Bm(tmps:Array Value):ResultVar->Sem Value
 |.tmp t=>Pure.pure (tmps.getD t undef)
 |.cell a t=>do loadVar t (<-asAddr (tmps.getD a undef))
def Am(C:Ctx)(n:Nat)(e:Env)(H:Heap)(r:ResultVar)(lv:LV):Prop:=
 ∀ a w L,yc n a e w L->Ta C w L H->∃ v,(Bm a.tmps r).run C.P w=.ok v w/\xb w L lv v
def Dm(C:Ctx)(n:Nat)(e:Env)(H:Heap):List ResultVar->List LV->Prop
 |[],[]=>True
 |r::rs,v::vs=>Am C n e H r v/\Dm C n e H rs vs
 |_,_=>False
def Dh:List LV->LV
 |[v]=>v
 |vs=>.tuple vs
def Kd(C:Ctx)(n:Nat)(rs:List ResultVar)(R:Ie->Heap->Prop):Jc
 |.normal,e,H|.ret,e,H=>e.ds=[]/\∃ vs H',Dm C n e H rs vs/\HSub H' H/\R (.ret (Dh vs)) H'
 |.panic ch,e,H=>e.ds=[]/\∃ H',HSub H' H/\R (.panic ch) H'
 |_,_,_=>False
def vH(args:List LV):Env:=⟨λi=>(args[i]?).getD (.atom undef),[]⟩
theorem oa.length{w:World}{L:Live}:∀ {cs:List LV} {xs:List Value},oa w L cs xs->xs.length=cs.length
 |[],xs,h=>by simp only[oa] at h;subst h;rfl
 |c::cs,xs,h=>by simp only[oa] at h;obtain⟨y,ys,rfl,_,h⟩:=h;simp[oa.length h]
theorem oa.get{w:World}{L:Live}:∀ {cs:List LV} {xs:List Value},oa w L cs xs->∀ {i:Nat} {c:LV},cs[i]? = some c->∃ x,xs[i]? = some x/\xb w L c x
 |[],_,_,i,c,hc=>by simp at hc
 |c::cs,xs,h,i,c',hc=>by
  simp only[oa] at h;obtain⟨y,ys,rfl,h1,h⟩:=h;cases i with
  |zero=>simp at hc;subst hc;exact⟨y,rfl,h1⟩
  |succ i=>simpa using oa.get h (i:=i) (by simpa using hc)
theorem uF{P:Program}{α β:Type}{s:Sem α}{f:α->Sem β}{v:α}(h:s.run P w=.ok v w'):(s >>= f).run P w=(f v).run P w':=by rw[Ac,h];try rfl
theorem qqq{P:Program}{fn:Func}(h:fn.results=#[])(tmps:Array Value)(w:World):(results fn tmps).run P w=.ok (.tuple #[]) w:=by simp[results,h]
theorem qvC{P:Program}{fn:Func}{r:ResultVar}(h:fn.results=#[r])(h1:(Bm tmps r).run P w=.ok v w):(results fn tmps).run P w=.ok v w:=by
 have:results fn tmps=Bm tmps r:=by cases r <;> simp[results,h,Bm]
 rw[this,h1]
theorem qvQ{P:Program}{fn:Func}{r s:ResultVar}(h:fn.results=#[r,s]){u:Value}(h1:(Bm tmps r).run P w=.ok v w)(h2:(Bm tmps s).run P w=.ok u w) :
  (results fn tmps).run P w=.ok (.tuple #[v,u]) w:=by
 have:results fn tmps=(do let v <-Bm tmps r;let u <-Bm tmps s;Pure.pure (.tuple #[v,u])):=by cases r <;> cases s <;> simp[results,h,Bm]
 rw[this,uF h1,uF h2];try rfl
theorem qve{P:Program}{fn:Func}{r s t:ResultVar}(h:fn.results=#[r,s,t]){u x:Value}(h1:(Bm tmps r).run P w=.ok v w)(h2:(Bm tmps s).run P w=.ok u w)(h3:(Bm tmps t).run P w=.ok x w) :
  (results fn tmps).run P w=.ok (.tuple #[v,u,x]) w:=by
 have:results fn tmps=(do let v <-Bm tmps r;let u <-Bm tmps s;let x <-Bm tmps t;Pure.pure (.tuple #[v,u,x])):=by cases r <;> cases s <;> cases t <;> simp[results,h,Bm]
 rw[this,uF h1,uF h2,uF h3];try rfl
theorem JZ{fn:Func}{a:Act}(hE:yc n a e w L)(hH:Ta C w L H){vs:List LV}
  (h:Dm C n e H fn.results.toList vs) (h3:fn.results.size<=3):∃ v,(results fn a.tmps).run C.P w=.ok v w/\xb w L (Dh vs) v:=by
 obtain⟨rs,aq⟩:∃ rs,fn.results=List.toArray rs:=⟨fn.results.toList,by simp⟩;rw[aq] at h h3;simp only[List.size_toArray] at h h3;match rs,vs,h,h3,aq with
 |[],[],_,_,aq=>exact⟨_,qqq aq _ _,by simp only[Dh,xb];exact⟨[],rfl,by simp only[oa]⟩⟩
 |[r],[x],h,_,aq=>obtain⟨v,hv,hr⟩:=h.1 a w L hE hH;exact⟨v,qvC aq hv,hr⟩
 |[r,s],[x,y],h,_,aq=>obtain⟨v,hv,hr⟩:=h.1 a w L hE hH;obtain⟨u,hu,hs⟩:=h.2.1 a w L hE hH;exact⟨_,qvQ aq hv hu,by simp only[Dh,xb];exact⟨[v,u],rfl,by simp only[oa];exact⟨v,_,rfl,hr,u,_,rfl,hs,rfl⟩⟩⟩
 |[r,s,t],[x,y,z],h,_,aq=>obtain⟨v,hv,hr⟩:=h.1 a w L hE hH;obtain⟨u,hu,hs⟩:=h.2.1 a w L hE hH;obtain⟨q,hq,ht⟩:=h.2.2.1 a w L hE hH;exact⟨_,qve aq hv hu hq,by simp only[Dh,xb];exact⟨[v,u,q],rfl,by simp only[oa];exact⟨v,_,rfl,hr,u,_,rfl,hs,q,_,rfl,ht,rfl⟩⟩⟩
 |_::_::_::_::_,_,_,h3,_=>simp at h3
 |[],_::_,h,_,_=>exact h.elim
 |[_],[],h,_,_=>exact h.elim
 |[_],_::_::_,h,_,_=>exact h.2.elim
 |[_,_],[],h,_,_=>exact h.elim
 |[_,_],[_],h,_,_=>exact h.2.elim
 |[_,_],_::_::_::_,h,_,_=>exact h.2.2.elim
 |[_,_,_],[],h,_,_=>exact h.elim
 |[_,_,_],[_],h,_,_=>exact h.2.elim
 |[_,_,_],[_,_],h,_,_=>exact h.2.2.elim
 |[_,_,_],_::_::_::_::_,h,_,_=>exact h.2.2.2.elim
theorem kb{f:FuncId}{fn:Func}{args:List LV}{R:Ie->Heap->Prop}(hf:C.P.funcs[f]? = some fn)(hb:fn.body=some c)(hn:fn.ntmps=n)(h3:Nat.ble fn.results.size 3=true)
  (hl:Nat.ble args.length n=true) (h:fb C n c (Kd C n fn.results.toList R) (vH args) H):ca C f args H R:=λvs w L hv hH=>by
 subst hn;have Rx:args.length<=fn.ntmps:=by simpa using hl
 have Hs:fn.results.size<=3:=by simpa using h3
 have na:=hv.length;refine calls_of_wp hf hb (Go.wp_mono (h _ w L ⟨?_,rfl,λi=>?_⟩ hH) λex a' w' hq=>?_)
 simp;omega;exact nO;obtain⟨e',H',L',g1,g2,g3,g4⟩:=hq;have ret:yc fn.ntmps a' e' w' L'->(e'.ds=[]/\∃ vs Bh,Dm C fn.ntmps e' H' fn.results.toList vs/\HSub Bh H'/\R (.ret (Dh vs)) Bh) ->
   a'.defers=[]/\∃ v,(results fn a'.tmps).run C.P w'=.ok v w'/\kA C w L H (λv=>R (.ret v)) (λch=>R (.panic ch)) (.returned v) w':=λhE hr=>by
  obtain⟨h1,wD,Bh,h2,h4,h5⟩:=hr;obtain⟨v,r1,r2⟩:=JZ hE g2 h2 Hs;exact⟨hE.ds.trans h1,v,r1,Dh wD,Bh,L',g1.qc h4,g2.qc h4,r2,h5⟩
 cases ex with
 |normal=>exact ret g3 g4
 |ret=>exact ret g3 g4
 |panic ch=>obtain⟨h1,Bh,h4,h5⟩:=g4;exact⟨g3.trans h1,Bh,L',g1.qc h4,g2.qc h4,h5⟩
 |exit id=>exact g4.elim
 |goto id=>exact g4.elim
 |outgrown=>exact g4.elim
theorem rT{t:Nat}{v:LV}(hv:e.s t=v)(h:v.Sub lv):Am C n e H (.tmp t) lv:=λa w L hE _=>by have:=hE.Gi t;rw[hv] at this;exact⟨_,rfl,h _ _ _ this⟩
end Go.GL
