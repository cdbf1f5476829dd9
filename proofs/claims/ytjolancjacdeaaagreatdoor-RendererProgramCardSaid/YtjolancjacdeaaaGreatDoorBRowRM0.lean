import Derived.Below
import Derived.OrdersHeld
import Derived.Deep.Quiet
set_option linter.unusedVariables false
set_option linter.unusedSimpArgs false
set_option maxRecDepth 100000
set_option maxHeartbeats 4000000
theorem Ia{P:Prop}(h:P:=by omega):P:=h
theorem zn{c:Prop}{h:Decidable c}(k:¬c){α:Sort _}{t e:α}:@ite α c h t e=e:=if_neg k
theorem zp{c:Prop}{h:Decidable c}(k:c){α:Sort _}{t e:α}:@ite α c h t e=t:=if_pos k
theorem zR{α:Type _}{o:Option α}(h:o.isSome=true):∃ a,o=some a:=Option.isSome_iff_exists.1 h
theorem wh{α:Type _}{a b:α}(h:a∈[b]):a=b:=List.mem_singleton.1 h
theorem Ll{α:Type _}{a b:α}(h:a=b):a∈[b]:=List.mem_singleton.2 h
theorem ct{α:Type _}{s t:List α}(h:(s++t).Nodup):s.Nodup/\t.Nodup/\∀ a∈s,∀ b∈t,a≠b:=List.nodup_append.1 h
theorem Kj{α:Type _}{a:α}{s t:List α}(h:a∈s++t):a∈s∨a∈t:=List.mem_append.1 h
theorem vi{α β:Type _}{f:α->β}{b:β}{l:List α}(h:b∈l.map f):∃ a,a∈l/\f a=b:=List.mem_map.1 h
theorem bt{α:Type _}(a b:α):(some a=some b)=(a=b):=Option.some.injEq a b
theorem Ck{p:Prop}[Decidable p](h:decide p=true):p:=of_decide_eq_true h
theorem dh{α:Type _}{l:List α}{i:Nat}(h:i<l.length):l[i]?=some l[i]:=List.getElem?_eq_getElem h
theorem je{α:Type _}{a:α}{l:List α}:a∈a::l:=List.Mem.head _
theorem Vh:(false=true)=False:=Bool.false_eq_true
theorem Eg{p:Prop}[Decidable p](h:p):decide p=true:=decide_eq_true h
theorem dm{α:Type _}(a:α){s t:List α}(h:s.Perm t):(a::s).Perm (a::t):=.cons a h
theorem Km{α:Type _}(a b:α)(l:List α):(b::a::l).Perm (a::b::l):=.swap a b l
theorem Pg(b:Bool):(false&&b)=false:=Bool.false_and b
theorem Sb{α β:Type}(P:Go.Program)(w:Go.World)(x:Go.Sem α)(f:α->Go.Sem β):Go.Sem.run P (x>>=f) w=(Go.Sem.run P x w).andThen λa w'=>Go.Sem.run P (f a) w':=Go.Sem.run_bind ..
theorem Qc{α:Type}(P:Go.Program)(w:Go.World)(a:α):Go.Sem.run P (pure a) w=.ok a w:=Go.Sem.run_pure ..
theorem lc{α β:Type}(a:α)(w:Go.World)(f:α->Go.World->Go.Result β):(Go.Result.ok a w).andThen f=f a w:=rfl
theorem ua{α : Type _}{a b : List α} : (a ++ b).length = a.length + b.length := List.length_append
theorem Oa{α : Type _}{a : α}{l : List α} : (a :: l).length = l.length + 1 := rfl
theorem Eb{α : Type _} : ([] : List α).length = 0 := rfl
theorem Ua{α β : Type _}{l : List α}(f : α -> β) : (l.map f).length = l.length := List.length_map f
theorem Qb{α : Type _}(l : List α) : l ++ [] = l := List.append_nil l
theorem Xc{α : Type _}(a b c : List α) : a ++ b ++ c = a ++ (b ++ c) := List.append_assoc a b c
theorem rf{α : Type _}{a : α}{l : List α} : a ∈ a :: l := List.mem_cons_self ..
theorem Sc{α : Type _}(b : α){a : α}{l : List α}(h : a ∈ l) : a ∈ b :: l := List.mem_cons_of_mem b h
theorem Mc{α : Type _}{a b : α}{l : List α} : a ∈ b :: l ↔ a = b ∨ a ∈ l := List.mem_cons
theorem zPf{α : Type _}(l : List α) : l <+: l := List.prefix_refl l
theorem Od{α β : Type _}{f : α -> β}{l₁ l₂ : List α} : (l₁ ++ l₂).map f = l₁.map f ++ l₂.map f := List.map_append
theorem Tb{α β : Type _}{f : α -> β}{a : α}{l : List α} : (a :: l).map f = f a :: l.map f := rfl
theorem dd{α : Type _}{l₁ l₂ : List α} : (l₁ ++ l₂).Perm (l₂ ++ l₁) := List.perm_append_comm
theorem sf{p : Prop} [Decidable p] : (decide p = true) = p := decide_eq_true_eq
theorem Le(a b : Bool) : ((a && b) = true) = (a = true /\ b = true) := Bool.and_eq_true a b
theorem mc(n : Nat) : n <= n := Nat.le_refl n
theorem Uf{a b c : Nat}(h : a <= b)(k : b <= c) : a <= c := Nat.le_trans h k
theorem zCs{α : Type _}{a b : α}(h : a = b := by kernel_rfl) : some a = some b := congrArg some h
theorem ra{P : Prop}(h : P := by decide) : P := h
theorem fh{P Q:Prop}(h:Q)(t:(Unit->Q)->P:=by intro zu;(refine oS (sL [_] rfl (rc rfl rfl Tf) rfl rfl rfl ?_));exact zu ()):P:=t λ_=>h
theorem Wu{P Q:Prop}(h:Q)(t:(Unit->Q)->P:=by intro zu;(refine oa ?_;refine rR rfl (va rfl) Fc ⟨?_,rfl⟩);exact zu ()):P:=t λ_=>h
theorem uN{P Q:Prop}(h:Q)(t:(Unit->Q)->P:=by intro zu;(refine Dh (i:=4) zk ?_;refine lW rfl (.inl rfl) rfl (sS (Ya:=[_]) rfl Ig rfl rfl rfl rfl rfl ?_);refine Dh (i:=5) zk ?_;refine lW rfl (.inl rfl) rfl (sS (Ya:=[_]) rfl Ig rfl rfl rfl rfl rfl ?_);refine lD zk ?_;refine oa ?_);exact zu ()):P:=t λ_=>h
theorem mU{P Q:Prop}(h:Q)(t:(Unit->Q)->P:=by intro zu;(refine Td.Xu (H':=(b3,.cells 120 [int .i64 3,Ea,.list (l.map str),str [],int .i64 0])::(p,.cells 3 [int .i64 3])::(o,.cells 64 [.atom (.slice (some ⟨b,0,none⟩) (es.length+1) cap)])::(b,.cells 74 ((es++[LV.agg [int .i64 3,Ea,w,str [],int .i64 0]]).flatMap LV.cells++spare))::H') ⟨[],by rw[Qb];exact dd (l₁:=H') (l₂:=[_,_,_,_])⟩ ?_;refine lO 9 (lH rfl rfl (pN rfl) ?_);refine lO 10 (lH rfl rfl (pF rfl) ?_);refine lO 11 (lS (H1:=[(b,.cells 74 ((es++[LV.agg [int .i64 3,Ea,w,str [],int .i64 0]]).flatMap LV.cells++spare))]) (F:=(b3,.cells 120 [int .i64 3,Ea,.list (l.map str),str [],int .i64 0])::(p,.cells 3 [int .i64 3])::(o,.cells 64 [.atom (.slice (some ⟨b,0,none⟩) (es.length+1) cap)])::H') rfl (.inl rfl) rfl (show Ec _ _ _ from pT Ig) dc (sS (off:=es.length * 5+2) (Ya:=(es++[LV.agg [int .i64 3,Ea,w',str [],int .i64 0]]).flatMap LV.cells++spare) rfl pH Ah.flat.1 rfl (Nat.ble_eq_true_of_le (show es.length * 5+2+1<=_ by rw[ua,zh];omega)) (by simp[Ah.flat.2]) (xX Nk (show 2+1<=5 by decide) rfl) ?_));refine lD zk ?_;refine ja ?_);exact zu ()):P:=t λ_=>h
theorem Sz{P Q:Prop}(h:Q)(t:(Unit->Q)->P:=by intro zu;(refine aT 0 rfl rfl (pM (lv:=.atom _) rfl) ?_;refine aT 1 rfl rfl (pM (lv:=.atom _) rfl) ?_;refine aT 2 rfl rfl (pN rfl) ?_;refine aT 3 rfl rfl (pF rfl) ?_);exact zu ()):P:=t λ_=>h
theorem C3{P Q:Prop}(h:Q)(t:(Unit->Q)->P:=by intro zu;(refine oS (S.Pf (kt:=33) (el:=113) (kd:=.u32) zk zk rfl rfl rfl pH rfl rfl ?_);refine oS (S.Pf (kt:=33) (el:=113) (kd:=.u32) zk zk rfl rfl rfl pH rfl rfl ?_);refine oS (S.Pf (kt:=33) (el:=113) (kd:=.u32) zk zk rfl rfl rfl pH rfl rfl ?_);refine oS (S.Pf (kt:=33) (el:=113) (kd:=.u32) zk zk rfl rfl rfl pH rfl rfl ?_));exact zu ()):P:=t λ_=>h
theorem nN{P Q:Prop}(h:Q)(t:(Unit->Q)->P:=by intro zu;(refine Dh (i:=10) zk ?_;refine lH rfl rfl (pN rfl) ?_;refine Dh (i:=11) zk ?_;refine lH rfl rfl (pF rfl) ?_;refine Dh (i:=12) zk ?_;refine lW rfl (.inl rfl) rfl (sS (n:=1) (vs:=[v']) (Ya:=[_,_,_,_,_,v',_,_,_,_]) rfl pH (xO Ra).1 rfl rfl (xO Ra).2 rfl ?_);refine lD zk ?_;refine oa ?_);exact zu ()):P:=t λ_=>h
theorem Lm{P Q:Prop}(h:Q)(t:(Unit->Q)->P:=by intro zu;(refine oS (sL [_,_] rfl (Lq [_,_]) rfl rfl rfl ?_));exact zu ()):P:=t λ_=>h
theorem xK{P Q:Prop}(h:Q)(t:(Unit->Q)->P:=by intro zu;(refine Xj ?_;refine oS (sF [] rfl h1 ?_);refine oS (sF [] rfl h2 ?_);refine ca (Pure.Fo rfl rfl (by first|omega|(simp only[ua];omega))) ?_;refine oS (sF [] rfl h3 ?_);refine ca (Pure.Fo rfl rfl (by first|omega|(simp only[ua];omega))) ?_);exact zu ()):P:=t λ_=>h
theorem B3{P Q:Prop}(h:Q)(t:(Unit->Q)->P:=by intro zu;(refine Dh (i:=11) zk ?_;refine lH rfl rfl (pN rfl) ?_;refine Dh (i:=12) zk ?_;refine lH rfl rfl (pF rfl) ?_;refine Dh (i:=13) zk ?_;refine lW rfl (.inl rfl) rfl (sS (n:=1) (vs:=[LV.atom v']) (Ya:=[_,_,_,_,_,_,_,_,_,_]) rfl pH (TK Wg).1 rfl rfl (TK Wg).2 rfl ?_);refine lD zk ?_;refine ja ?_);exact zu ()):P:=t λ_=>h
theorem ft{P Q:Prop}(h:Q)(t:(Unit->Q)->P:=by intro zu;(refine aT 0 rfl rfl (pM (lv:=.atom _) rfl) ?_;refine aT 1 rfl rfl (pN rfl) ?_;refine aT 2 rfl rfl (pF rfl) ?_);exact zu ()):P:=t λ_=>h
theorem ky{P Q:Prop}(h:Q)(t:(Unit->Q)->P:=by intro zu;(refine ca (Pure.az (kt:=3) (el:=76) (kd:=.i64) zk zk rfl rfl Ff rfl) ?_;refine za ?_);exact zu ()):P:=t λ_=>h
theorem VB{P Q:Prop}(h:Q)(t:(Unit->Q)->P:=by intro zu;(refine Td.Xu (H':=(b3,.cells 120 [int .i64 3,Ea,.list (l.map str),str [],int .i64 0])::(p,.cells 3 [int .i64 3])::(o,.cells 64 [.atom (.slice (some ⟨b,0,none⟩) (es.length+1) cap)])::(b,.cells 74 ((es++[LV.agg [int .i64 3,Ea,w,str [],int .i64 0]]).flatMap LV.cells++spare))::HW) Ma ?_);exact zu ()):P:=t λ_=>h
theorem sq{P Q:Prop}(h:Q)(t:(Unit->Q)->P:=by intro zu;(refine ja ?_;refine ca (xR (ad:=Va x) (cs:=[_,_,_,_]) rfl rfl ra rfl rfl rfl) ?_;refine za ?_);exact zu ()):P:=t λ_=>h
theorem ij{P Q:Prop}(h:Q)(t:(Unit->Q)->P:=by intro zu;(refine oS (sL [_] rfl (Lq [_]) rfl rfl rfl ?_));exact zu ()):P:=t λ_=>h
theorem wN{P Q:Prop}(h:Q)(t:(Unit->Q)->P:=by intro zu;(refine cD (m:=7) rfl [(b1,.cells 179 [.list (v.map str),.atom (.map (some m))])] ?_;refine aT 0 rfl rfl (pM (lv:=.atom _) rfl) ?_;refine aT 1 rfl rfl (pF rfl) ?_;refine aT 2 rfl rfl (pL (c:=.list _) rfl yb rfl) ?_;refine aT 3 rfl rfl (pM (lv:=.atom _) rfl) ?_;refine Pa.take (i:=4) Ma rfl zk zk zk rfl (Pure.sn (es:=v.map str) (i:=0) (j:=(n:Int)) rfl rfl ⟨_,rfl⟩ zo zo (by rw[Kn];omega) (Ro v)) ?_;refine aT 5 rfl rfl (pA (lv:=.atom _) rfl) ?_;refine aT 6 rfl rfl (pA (lv:=.list _) rfl) ?_);exact zu ()):P:=t λ_=>h
theorem PG{P Q:Prop}(h:Q)(t:(Unit->Q)->P:=by intro zu;(refine cD (m:=11) rfl [(b3,.cells 214 [int .i64 kind,str name,.list (([]:List Ex).map Va),.list ([x0].map Va),.list (lb.map Hb),.list (Db.map Hb)])] ?_;refine aT 0 rfl rfl (pM (lv:=.atom _) rfl) ?_;refine aT 1 rfl rfl (pM (lv:=.atom _) rfl) ?_;refine aT 2 rfl rfl (pF rfl) ?_;refine aT 3 rfl rfl (pL (c:=.list _) rfl yb rfl) ?_;refine aT 5 rfl rfl (pM (lv:=.atom _) rfl) ?_;refine aT 6 rfl rfl (pF rfl) ?_;refine aT 7 rfl rfl (pL (c:=.list _) rfl yb rfl) ?_);exact zu ()):P:=t λ_=>h
theorem UB{P Q:Prop}(h:Q)(t:(Unit->Q)->P:=by intro zu;(refine Pa.Ic (i:=3) rfl rfl rfl rfl zk zk zk rfl ?_;refine Pa.Ic (i:=4) rfl rfl rfl rfl zk zk zk rfl ?_;refine Pa.Ic (i:=5) rfl rfl rfl rfl zk zk zk rfl ?_;refine Pa.Ic (i:=6) rfl rfl rfl rfl zk zk zk rfl ?_);exact zu ()):P:=t λ_=>h
theorem eh{P Q:Prop}(h:Q)(t:(Unit->Q)->P:=by intro zu;(refine ca (pM (lv:=v) rfl) ?_);exact zu ()):P:=t λ_=>h
theorem OG{P Q:Prop}(h:Q)(t:(Unit->Q)->P:=by intro zu;(refine aT 0 rfl rfl (pL (c:=.atom _) rfl Hr rfl) ?_;refine aT 1 rfl rfl (pM (lv:=.atom _) rfl) ?_;refine aT 2 rfl rfl (pL (c:=.atom _) rfl Hr rfl) ?_;refine aT 3 rfl rfl (pM (lv:=.atom _) rfl) ?_;refine aT 4 rfl rfl (Pure.vb (o:=x) rfl rfl zo zo zo) ?_;refine aT 6 rfl rfl (pM (lv:=.atom _) rfl) ?_;refine aT 7 rfl rfl (Pure.jv rfl) ?_;refine aL ?_ ⟨[_],List.Perm.refl _⟩);exact zu ()):P:=t λ_=>h
theorem SB{P Q:Prop}(h:Q)(t:(Unit->Q)->P:=by intro zu;(refine aT 9 rfl rfl (pM (lv:=.atom _) rfl) ?_;refine aT 10 rfl rfl (pN rfl) ?_;refine aT 11 rfl rfl (pF rfl) ?_;refine aT 12 rfl rfl (pL (c:=.atom _) rfl Ff rfl) ?_;refine aL ?_ (Ab pH dc));exact zu ()):P:=t λ_=>h
theorem RB{P Q:Prop}(h:Q)(t:(Unit->Q)->P:=by intro zu;(refine lO 6 (lH rfl rfl (pF rfl) ?_);refine lO 7 (lW rfl (.inl rfl) rfl (sS (Ya:=[v1,v',v3]) rfl uc (Acc.cell Ah).1 rfl rfl (Acc.cell Ah).2 rfl ?_));refine lD zk ?_;refine oa ?_);exact zu ()):P:=t λ_=>h
theorem QB{P Q:Prop}(h:Q)(t:(Unit->Q)->P:=by intro zu;(refine lO 6 (lH rfl rfl (pF rfl) ?_);refine lO 7 (lW rfl (.inl rfl) rfl (sS (Ya:=[v1,v2,v']) rfl uc (Acc.cell Ah).1 rfl rfl (Acc.cell Ah).2 rfl ?_));refine lD zk ?_;refine oa ?_);exact zu ()):P:=t λ_=>h
theorem jy{P Q:Prop}(h:Q)(t:(Unit->Q)->P:=by intro zu;(refine Af ?_;refine ca (xR (ad:=Rg l[i]) (cs:=[_,_]) rfl rfl zo (Hh _ _ _ wa) rfl rfl) ?_;refine za ?_);exact zu ()):P:=t λ_=>h
theorem Wh{P Q:Prop}(h:Q)(t:(Unit->Q)->P:=by intro zu;(refine ca (pA (lv:=v') rfl) ?_);exact zu ()):P:=t λ_=>h
theorem NG{P Q:Prop}(h:Q)(t:(Unit->Q)->P:=by intro zu;(refine Dh (i:=8) zk ?_;refine lW rfl (.inl rfl) rfl (sL (es:=[int .u8 (IntKind.u8.wrap (v:Int))]) [_] rfl (rc rfl rfl Tf) rfl rfl rfl ?_);refine Dh (i:=9) zk ?_);exact zu ()):P:=t λ_=>h
theorem MG{P Q:Prop}(h:Q)(t:(Unit->Q)->P:=by intro zu;(refine lO 9 (lH rfl rfl (Pure.Bm (gk c x0) (Nl c lb) (Nl c Db) rfl rfl rfl rfl rfl rfl) ?_);refine lO 10 (lH rfl rfl (pA (lv:=.atom _) rfl) ?_);refine lD zk ?_;refine ia ?_;refine ca (Pure.vf 2 (max (max (gk c x0) (Nl c lb)) (Nl c Db)) rfl rfl rfl rfl) ?_;refine qh ?_);exact zu ()):P:=t λ_=>h
theorem tN{P Q:Prop}(h:Q)(t:(Unit->Q)->P:=by intro zu;(refine lW rfl (.inl rfl) rfl (sS (Ya:=[_]) rfl Ig rfl rfl rfl rfl rfl ?_);refine Dh (i:=2) zk ?_;refine lH rfl rfl (pL (c:=.atom _) rfl Hr rfl) ?_;refine Dh (i:=5) zk ?_;refine lW rfl (.inl rfl) rfl (sS (Ya:=[_]) rfl Ig rfl rfl rfl rfl rfl ?_);refine lD zk ?_;refine oa ?_);exact zu ()):P:=t λ_=>h
theorem dt{P Q:Prop}(h:Q)(t:(Unit->Q)->P:=by intro zu;(refine Dq.seq (Dq.recover rfl rfl ?_);refine Dq.of ?_);exact zu ()):P:=t λ_=>h
theorem iy{P Q:Prop}(h:Q)(t:(Unit->Q)->P:=by intro zu;(refine lW rfl (.inl rfl) rfl (sS (Ya:=[_,_,_]) rfl Ig rfl rfl rfl rfl rfl ?_));exact zu ()):P:=t λ_=>h
theorem Qm{P Q:Prop}(h:Q)(t:(Unit->Q)->P:=by intro zu;(refine aT 2 rfl rfl (pM (lv:=.atom _) rfl) ?_);exact zu ()):P:=t λ_=>h
theorem LG{P Q:Prop}(h:Q)(t:(Unit->Q)->P:=by intro zu;(refine ea.db (H':=(m,.obj (.map (fq b1) 4))::(b1,.cells 3 [int .i64 n])::HB) (fe Ma) ?_);exact zu ()):P:=t λ_=>h
theorem Vu{P Q:Prop}(h:Q)(t:(Unit->Q)->P:=by intro zu;(refine lW rfl (.inl rfl) rfl (sL [_] rfl (rc rfl rfl Tf) rfl rfl rfl ?_));exact zu ()):P:=t λ_=>h
theorem rq{P Q:Prop}(h:Q)(t:(Unit->Q)->P:=by intro zu;(refine Re.seq (Re.region ?_);refine za ?_);exact zu ()):P:=t λ_=>h
theorem gy{P Q:Prop}(h:Q)(t:(Unit->Q)->P:=by intro zu;(refine ca (xR (ad:=str l[i]) (cs:=[str l[i]]) rfl rfl zo (Hh _ _ _ wa) rfl rfl) ?_);exact zu ()):P:=t λ_=>h
theorem fy{P Q:Prop}(h:Q)(t:(Unit->Q)->P:=by intro zu;(refine ca (Pure.Fo rfl rfl (by first|omega|(simp only[ua];omega))) ?_;refine qh ?_);exact zu ()):P:=t λ_=>h
theorem Pm{P Q:Prop}(h:Q)(t:(Unit->Q)->P:=by intro zu;(refine Ga.quiet zk ?_;refine za ?_);exact zu ()):P:=t λ_=>h
theorem dy{P Q:Prop}(h:Q)(t:(Unit->Q)->P:=by intro zu;(refine aT 5 rfl rfl (pF rfl) ?_;refine aT 6 rfl rfl (pL (c:=.atom _) rfl yb rfl) ?_);exact zu ()):P:=t λ_=>h
theorem Uu{P Q:Prop}(h:Q)(t:(Unit->Q)->P:=by intro zu;(refine eh ?_;refine ca (pA (lv:=v) rfl) ?_;refine qh ?_);exact zu ()):P:=t λ_=>h
theorem xo{P Q:Prop}(h:Q)(t:(Unit->Q)->P:=by intro zu;(refine qf.region rfl ?_;refine za ?_);exact zu ()):P:=t λ_=>h
theorem Zx{P Q:Prop}(h:Q)(t:(Unit->Q)->P:=by intro zu;(refine oS (S.Pf (kt:=3) (el:=76) (kd:=.i64) zk zk rfl rfl rfl pH rfl rfl ?_));exact zu ()):P:=t λ_=>h
theorem KG{P Q:Prop}(h:Q)(t:(Unit->Q)->P:=by intro zu;(refine cD (m:=6) rfl [(b2,.cells 94 [ptr k.tb 0]),fG b3 op num name [x,y]] ?_;refine aT 0 rfl rfl (pL (c:=.atom _) rfl yb rfl) ?_;refine aT 1 rfl rfl (pF rfl) ?_;refine aT 2 rfl rfl (pL (c:=.list _) rfl Ff rfl) ?_);exact zu ()):P:=t λ_=>h
theorem ak{P Q:Prop}(h:Q)(t:(Unit->Q)->P:=by intro zu;(refine Re.seq (Re.of ?_));exact zu ()):P:=t λ_=>h
theorem Yx{P Q:Prop}(h:Q)(t:(Unit->Q)->P:=by intro zu;(refine lO 4 (lW rfl (.inl rfl) rfl (sL [_] rfl (rc rfl rfl Tf) rfl rfl rfl ?_)));exact zu ()):P:=t λ_=>h
theorem JG{P Q:Prop}(h:Q)(t:(Unit->Q)->P:=by intro zu;(refine Lib.run_unsafeString_row w.drew (ρ.t 127) (ρ.t 3) (ρ.t 9) (ρ.t 5) L.t127 X.cellsByte g cur.size (by have Cz:w.drew.heap[g]? = some (.cells cur (ρ.t 5) (0,0)):=hg;simp[World.shape?,Cz]) l h0 hn OJ ?_);exact zu ()):P:=t λ_=>h
theorem Zj{P Q:Prop}(h:Q)(t:(Unit->Q)->P:=by intro zu;(refine lD zk ?_;refine qN ?_);exact zu ()):P:=t λ_=>h
theorem IG{P Q:Prop}(h:Q)(t:(Unit->Q)->P:=by intro zu;(refine ca (xR (ad:=Me f) (n:=((fs.map Me).length:Int)-1) (cs:=[str f.name,.list (f.params.map str),.list (f.locals.map str),.list (f.body.map Hb)]) rfl rfl Gn rl rfl rfl) ?_;refine za ?_);exact zu ()):P:=t λ_=>h
theorem PB{P Q:Prop}(h:Q)(t:(Unit->Q)->P:=by intro zu;(refine ja ?_;refine ca (xR (ad:=Va v) (cs:=[_,_,_,_]) rfl rfl ra rfl rfl rfl) ?_;refine za ?_);exact zu ()):P:=t λ_=>h
theorem OB{P Q:Prop}(h:Q)(t:(Unit->Q)->P:=by intro zu;(refine eh ?_;refine ca (xR (ad:=iv n0) (cs:=[iv n0]) nr rfl zo rfl rfl rfl) ?_;refine za ?_);exact zu ()):P:=t λ_=>h
theorem HG{P Q:Prop}(h:Q)(t:(Unit->Q)->P:=by intro zu;(refine za ?_;refine rj.nil ?_;refine qN ?_;refine cW (H':=(b,.cells 41 [.list (l.map str)])::(c,.cells 3 [int .i64 w])::H1) ⟨[],by rw[Qb];exact dd (l₁:=H1) (l₂:=[_,_])⟩ ?_);exact zu ()):P:=t λ_=>h
theorem GG{P Q:Prop}(h:Q)(t:(Unit->Q)->P:=by intro zu;(refine lO 5 (lH rfl rfl (pF rfl) ?_);refine lO 6 (lW rfl (.inl rfl) rfl (sS (Ya:=[v',v2,v3]) rfl uc (Acc.cell Ah).1 rfl rfl (Acc.cell Ah).2 rfl ?_));refine lD zk ?_;refine oa ?_);exact zu ()):P:=t λ_=>h
theorem Om{P Q:Prop}(h:Q)(t:(Unit->Q)->P:=by intro zu;(refine Lg.nil ?_;refine qN ?_);exact zu ()):P:=t λ_=>h
theorem sN{P Q:Prop}(h:Q)(t:(Unit->Q)->P:=by intro zu;(refine Dh (i:=7) zk ?_;refine lH rfl rfl (pA (lv:=.atom _) rfl) ?_;refine lD zk ?_;refine ig ?_;refine⟨⟨mb,mm,bm⟩,trivial,Qa,?_,rfl⟩);exact zu ()):P:=t λ_=>h
theorem Mm{P Q:Prop}(h:Q)(t:(Unit->Q)->P:=by intro zu;(refine ca (Pure.xq rfl) ?_);exact zu ()):P:=t λ_=>h
theorem FG{P Q:Prop}(h:Q)(t:(Unit->Q)->P:=by intro zu;(refine cD (m:=8) rfl [(b1,.cells 179 [.list (v.map str),.atom (.map (some m))])] ?_;refine aT 0 rfl rfl (pM (lv:=.atom _) rfl) ?_;refine aT 1 rfl rfl (pM (lv:=.atom _) rfl) ?_);exact zu ()):P:=t λ_=>h
theorem oN{P Q:Prop}(h:Q)(t:(Unit->Q)->P:=by intro zu;(refine oS (S.Pf (kt:=33) (el:=113) (kd:=.u32) zk zk rfl rfl rfl pH rfl rfl ?_);refine oS (S.Pf (kt:=33) (el:=113) (kd:=.u32) zk zk rfl rfl rfl pH rfl rfl ?_));exact zu ()):P:=t λ_=>h
theorem Xx{P Q:Prop}(h:Q)(t:(Unit->Q)->P:=by intro zu;(refine lO 7 (lH rfl rfl (Pure.vb (o:=a) rfl rfl zo zo zo) ?_));exact zu ()):P:=t λ_=>h
theorem NB{P Q:Prop}(h:Q)(t:(Unit->Q)->P:=by intro zu;(refine aL ?_ Ma;refine lO 1 (lS (H1:=[]) rfl (.inl rfl) rfl qb Ma (sF [_,_] rfl k0 ?_)));exact zu ()):P:=t λ_=>h
theorem MB{P Q:Prop}(h:Q)(t:(Unit->Q)->P:=by intro zu;(refine oS (sS (Ya:=[.atom v']) rfl Ig Wg.flat.1 rfl rfl (by simp[Wg.flat.2]) rfl ?_));exact zu ()):P:=t λ_=>h
theorem qq{P Q:Prop}(h:Q)(t:(Unit->Q)->P:=by intro zu;(refine aL ?_ Ma;refine lD zk ?_);exact zu ()):P:=t λ_=>h
theorem EG{P Q:Prop}(h:Q)(t:(Unit->Q)->P:=by intro zu;(refine Af ?_;refine ca (xR (ad:=Kb s) (cs:=[str s.1,int .i64 s.2]) rfl rfl zo (by rw[xb];exact Wc Kb pre s l2) rfl rfl) ?_;refine za ?_);exact zu ()):P:=t λ_=>h
theorem Wx{P Q:Prop}(h:Q)(t:(Unit->Q)->P:=by intro zu;(refine lH rfl rfl (pL (c:=.atom _) rfl Ff rfl) ?_);exact zu ()):P:=t λ_=>h
theorem DG{P Q:Prop}(h:Q)(t:(Unit->Q)->P:=by intro zu;(refine ft ?_;refine aT 3 rfl rfl (pL (c:=.atom _) rfl Ff rfl) ?_;refine aT 4 rfl rfl (pF rfl) ?_;refine aT 5 rfl rfl (pL (c:=.atom _) rfl yb rfl) ?_);exact zu ()):P:=t λ_=>h
theorem LB{P Q:Prop}(h:Q)(t:(Unit->Q)->P:=by intro zu;(refine aT 0 rfl rfl (pF rfl) ?_;refine aT 1 rfl rfl (pL (c:=.atom _) rfl yb rfl) ?_);exact zu ()):P:=t λ_=>h
theorem Vx{P Q:Prop}(h:Q)(t:(Unit->Q)->P:=by intro zu;(refine Dg ?_;refine ca (pI (c:=c1) rfl rfl ra rfl) ?_);exact zu ()):P:=t λ_=>h
theorem Ux{P Q:Prop}(h:Q)(t:(Unit->Q)->P:=by intro zu;(refine Dg ?_;refine ca (pI (c:=a) rfl rfl zo rl) ?_);exact zu ()):P:=t λ_=>h
theorem JB{P Q:Prop}(h:Q)(t:(Unit->Q)->P:=by intro zu;(refine ia ?_;refine oS (sL [_,_,_] rfl (Lq [_,_,_]) rfl rfl rfl ?_));exact zu ()):P:=t λ_=>h
theorem IE{P : Prop}(h : P := by
  simp only[Oy];rw[Array.getD_eq_getD_getElem?];rcases Nat.lt_or_ge i args.length with hi|hi
  ·rw[dh hi]
   obtain⟨x,hx,hr⟩:=hv.get (dh hi);have GR:(vs.toArray++Array.replicate (fn.ntmps-vs.toArray.size) undef)[i]? = some x:=by rw[Array.getElem?_append_left (by simp;omega)];simpa using hx
   rw[GR];exact hr
  ·rw[List.getElem?_eq_none hi]
   have GR:((vs.toArray++Array.replicate (fn.ntmps-vs.toArray.size) undef)[i]?).getD undef=undef:=by rw[Array.getElem?_append_right (by simp;omega)];rw[Array.getElem?_replicate];try split <;> rfl
   rw[GR];simp only[Option.getD_none,Wa]) : P := h
theorem lU{P : Prop}(h : P := by
  rcases hkd with rfl|rfl|rfl|rfl
  ·refine ky ?_
   refine oS (S.Rf (f:=53) (H1:=[(b1,.cells 3 [int .i64 n])]) (F:=(iN,.cells 74 [int .i64 (1:Nat),.list (words.map str),.list (Oh.map λr=>.list (r.map str)),str runs,int .i64 width])::(m,.obj (.map (fq b1) 4))::HB) [_] rfl rfl (by exact List.perm_append_comm_assoc [_,_] [_] HB) (x7 b1 n _ Rd ⟨by omega,by omega⟩ rfl) (λv H' hh=>?_) (by rintro ch H' ⟨h,_⟩;cases h))
   obtain⟨hv,rfl⟩:=hh;cases hv;refine ea.db (H':=(m,.obj (.map (fq b1) 4))::(b1,.cells 3 [int .i64 n])::HB) ⟨[(iN,.cells 74 [int .i64 (1:Nat),.list (words.map str),.list (Oh.map λr=>.list (r.map str)),str runs,int .i64 width])],by
    exact(List.perm_append_comm_assoc [_,_] [_] HB).trans (zU _ _ _ HB)⟩ ?_
   rw[hr];unfold wy;refine za ?_;exact⟨Qa,rfl,rfl⟩
  ·refine ky ?_
   refine oS (S.Rf (f:=55) (H1:=[(b1,.cells 3 [int .i64 n])]) (F:=(iN,.cells 74 [int .i64 (2:Nat),.list (words.map str),.list (Oh.map λr=>.list (r.map str)),str runs,int .i64 width])::(m,.obj (.map (fq b1) 4))::HB) [_] rfl rfl (by exact List.perm_append_comm_assoc [_,_] [_] HB) (B8 b1 n _ Rd ⟨by omega,by omega⟩ rfl) (λv H' hh=>?_) (by rintro ch H' ⟨h,_⟩;cases h))
   obtain⟨hv,rfl⟩:=hh;cases hv;refine ea.db (H':=(m,.obj (.map (fq b1) 4))::(b1,.cells 3 [int .i64 n])::HB) ⟨[(iN,.cells 74 [int .i64 (2:Nat),.list (words.map str),.list (Oh.map λr=>.list (r.map str)),str runs,int .i64 width])],by
    exact(List.perm_append_comm_assoc [_,_] [_] HB).trans (zU _ _ _ HB)⟩ ?_
   rw[hr];unfold wy;refine za ?_;exact⟨Qa,rfl,rfl⟩
  ·refine ky ?_
   refine oS (S.Qs (f:=57) [_] rfl rfl (E7 n _ Rd rfl) ?_);refine LG ?_;rw[hr];unfold wy;refine za ?_;exact⟨Qa,rfl,rfl⟩
  ·refine ky ?_
   refine oS (S.Qs (f:=59) [_] rfl rfl (x8 hG n _ Rd rfl) ?_);refine LG ?_;rw[hr];unfold wy;refine za ?_;exact⟨Qa,rfl,rfl⟩) : P := h
theorem mN{P : Prop}(h : P := by
  refine Dh (i:=10) zk ?_;refine lW rfl (.inl rfl) rfl (S.Xl (HM:=HC) (F:=_::(gj++(k.cf s.mem::k.kf::HO))) rfl VU hC rfl (by simp;rfl) rfl (by simp;omega) λv' H' Wg=>?_)
  refine B3 ?_;have hm3:jb 33 1 v' (us (s.pc::s.calls).reverse) H':=by rw[List.reverse_cons,Hy];exact Wg
  exact rO Gg rN ⟨[],by rw[Qb];exact dd.trans VU.symm⟩ ⟨rfl,v',H',vo,HO,_::gj,hm3,hO,⟨yo,gj,Dm,rfl⟩,rfl⟩) : P := h
theorem kU{P : Prop}(h : P := by
  simp only[Wa] at ha;subst ha;have h0:w.cell? ⟨b,0,none⟩=some (.pointer none):=by simp[World.cell?,tc]
  have XI:w.shape? b=some (71,2):=by simp[World.shape?,tc]
  have T1:w.frozen? ⟨b,0,none⟩=false:=Go.Lib.frozen_of_heap tc 0;refine(Any.Builder_copyCheck_fresh (P:=Tryz.prog) LO Tryz.ub.toX72 b w h0 XI T1).mono λe w' he=>?_
  obtain⟨rfl,rfl⟩:=he;refine vF (w:=w) (w':=w.setCell ⟨b,0,none⟩ (.pointer (some ⟨b,0,none⟩))) (RG:=[.pointer (some ⟨b,0,none⟩),c]) (Ya:=[ptr b 0,v]) (lv:=.atom (.tuple #[])) hH rfl rfl rfl (by simp[World.setCell]) (λd hd=>by simp[World.setCell,Array.getElem?_modify,Ne.symm hd]) (by rw[uZ (xs:=[.pointer none,c]) tc];rfl) rfl ?_ xc ⟨⟨_,rfl⟩,rfl⟩;simp only[na] at zc ⊢;exact⟨_,_,rfl,xc,c,[],rfl,hc,rfl⟩) : P := h
theorem Mx{P : Prop}(h : P := by
  refine oa ?_;exact⟨⟨rfl,rfl,rfl,Ed (hc.trans (jK (zt hc) ra)),trivial⟩,rfl,rfl⟩) : P := h
theorem jU{P : Prop}(h : P := by
  obtain⟨⟨x',Kh⟩,rfl⟩:=h;cases Kh;refine ia ?_;refine oS (S.oK (q:=(b,.cells 71 [ptr b 0,.atom v])) (l:=l) (m:=m) rfl Ta rfl zo λv' H' Ra=>?_)
  refine oa ?_;have Ac:=Ra;generalize l++m=lm at Ra Ac ⊢;cases Ra with
  |nil=>refine ja ?_;exact rR rfl (rC (ib rfl) (va rfl)) Ma ⟨⟨_,rfl⟩,ptr b 0,_,_,.inr rfl,Ac,rfl⟩
  |row h0 h1 h2=>
   refine ja ?_;exact rR rfl (rC (ib rfl) (va rfl)) Ma ⟨⟨_,rfl⟩,ptr b 0,_,_,.inr rfl,Ac,rfl⟩) : P := h
theorem iU{P : Prop}(h : P := by
  rw[sd,h3,Hf] at hI;refine Rc ?_;exact oc.panic (ya.trans (Ub.trans hj)) (P7 (A:=[(b5,da.cells 217 [str (ug ex),int .u32 (Ym ex),str (jn ex),.list (Ml ex)]),(b,da.cells 217 [str [],int .u32 0,str [],Ea])]) (B:=[(bo,da.cells 264 [.atom (.func (.func fn) first La)]),(bs,da.cells 88 [ptr sb 0]),(bp,da.cells 41 [.list ((yg k).map str)]),(bn,da.cells 4 [bool (decide ((k:Int)=2))])])) (by cases hI;exact⟨rfl,i3,Se,rfl⟩)) : P := h
theorem HE{P : Prop}(h : P := by
  rw[sd,h3,Hf] at hI;refine Rc ?_;exact Yb (ya.trans (Ub.trans hj)) (by cases hI;rfl) dc) : P := h
theorem fU{P : Prop}(h : P := by
  refine Dh (i:=1) zk ?_;refine lH rfl rfl (pL (c:=.atom _) rfl Hr rfl) ?_;refine uN ?_;have hp:Gt s=(bi,l,er):=by rw[Gt,hL]
  rw[hp];exact⟨[Bt bi,int .i64 l,int .i64 er],[],rC (rA (k:=3) (cs:=[Ea,Ea,Ea]) rfl qk rfl (vA (bs:=[.list [],.list [],.list []]) ⟨vN,vN,vN,trivial⟩)) (rC (qj.Rb (cs:=[int .i64 l]) rfl qk rfl fc) (rC (qj.Rb (cs:=[int .i64 er]) rfl qk rfl fc) rN)),HSub.nil _,rfl,rfl⟩) : P := h
theorem FB{P : Prop}(h : P := by
  refine Wu ?_;simp only[q1,q2,Pg,Bool.and_false,Bool.true_and];rfl) : P := h
theorem CG{P : Prop}(h : P := by
  refine Dh (i:=3) zk ?_;refine iy ?_;refine uN ?_;have hp:Gt s=(bi,l,er):=by rw[Gt,hL]
  rw[hp];exact⟨[Bt bi,int .i64 l,int .i64 er],[],rC (rA (k:=3) (cs:=[Ea,Ea,Ea]) rfl qk rfl (vA (bs:=[.list [],.list [],.list []]) ⟨vN,vN,vN,trivial⟩)) (rC (qj.Rb (cs:=[int .i64 l]) rfl qk rfl fc) (rC (qj.Rb (cs:=[int .i64 er]) rfl qk rfl fc) rN)),HSub.nil _,rfl,rfl⟩) : P := h
theorem pq{P : Prop}(h : P := by
  refine Wu ?_;simp only[q1,Pg,Bool.and_false,Bool.true_and];rfl) : P := h
theorem BG{P : Prop}(h : P := by
  rw[sd,h4,Bd] at hI;obtain⟨g1,g2,g3,rfl⟩:=(Xr T k).1 0 _ _ _ (sd.trans (congrArg some h4));have g5:=g3 zo;have g6:=g2 rfl;refine fh ?_;refine oS (S.Cr rfl Ta rfl (by simp;rfl) rfl (by simp;omega) λv' H' Ra=>?_)
  refine Wh ?_;refine oa ?_;exact⟨k,_,_,by omega,⟨v',l++[e2],i4,H',by omega,rfl,rfl,by rw[Od];exact Ra,by omega,by simp;omega,hI⟩,Qa,kb _,hj⟩) : P := h
theorem AG{P : Prop}(h : P := by
  refine Dh (i:=7) zk ?_;refine lH rfl rfl (Pure.yE rfl) ?_;refine NG ?_;refine lW rfl (.inl rfl) rfl (sG (A:=_::(gj++(k.cf s.mem::k.kf::HC))) OE rfl hO rfl (λv hv=>by rw[wh hv];rfl) rfl Cn λv' H' Ra=>?_)
  rw[e1] at Ra;refine nN ?_;exact rO Gg rN ⟨[],by rw[Qb];exact dd.trans OE.symm⟩ ⟨rfl,vc,HC,v',H',_::gj,hC,Ra,⟨yo,gj,Dm,rfl⟩,rfl⟩) : P := h
theorem zG{P : Prop}(h : P := by
  refine Wx ?_;refine uN ?_;have hp:Gt s=(bi,l,er):=by rw[Gt,hL]
  rw[hp];exact⟨[Bt bi,int .i64 l,int .i64 er],[],rC (rA (k:=3) (cs:=[Ea,Ea,Ea]) rfl qk rfl (vA (bs:=[.list [],.list [],.list []]) ⟨vN,vN,vN,trivial⟩)) (rC (qj.Rb (cs:=[int .i64 l]) rfl qk rfl fc) (rC (qj.Rb (cs:=[int .i64 er]) rfl qk rfl fc) rN)),HSub.nil _,rfl,rfl⟩) : P := h
theorem Ys{P : Prop}(h : P := by
  refine Wu ?_;simp only[q1,q2,q3,Pg,Bool.and_false,Bool.true_and];rfl) : P := h
theorem yG{P : Prop}(h : P := by
  refine tN ?_;have hp:Gt s=(bi,l,er):=by rw[Gt,hL]
  rw[hp];exact⟨[Bt bi,int .i64 l,int .i64 er],[],rC (rA (k:=3) (cs:=[Ea,Ea,Ea]) rfl qk rfl (vA (bs:=[.list [],.list [],.list []]) ⟨vN,vN,vN,trivial⟩)) (rC (qj.Rb (cs:=[int .i64 l]) rfl qk rfl fc) (rC (qj.Rb (cs:=[int .i64 er]) rfl qk rfl fc) rN)),HSub.nil _,rfl,rfl⟩) : P := h
theorem Tx{P : Prop}(h : P := by
  intro h;have h':_:=zt h;obtain⟨a1,a2,a3,a4,a5⟩:=h';exact⟨⟨⟨⟨by simpa using a1,by omega⟩,by omega⟩,by omega⟩,by omega⟩) : P := h
theorem xG{P : Prop}(h : P := by
  simp only[Wa] at ha;subst ha;have h0:w.cell? ⟨b,0,none⟩=some (.pointer (some ⟨b,0,none⟩)):=by simp[World.cell?,tc]
  refine(Any.Builder_copyCheck_used (P:=Tryz.prog) LO Tryz.ub.toX72 b w h0).mono λe w' he=>?_
  obtain⟨rfl,rfl⟩:=he;exact⟨.atom (.tuple #[]),_,L,Fr.refl _ _ _,hH,xc,⟨_,rfl⟩,rfl⟩) : P := h
theorem Tu{P : Prop}(h : P := by
  refine Wu ?_;simp only[q1,q2,q3,q4,Pg,Bool.and_false,Bool.true_and];rfl) : P := h
theorem wG{P : Prop}(h : P := by
  have e3:n<i:=by have:=zf h3;omega
  rw[zp e3] at hD;refine oa ?_;refine wN ?_;refine qq ?_;refine qh ?_;exact Na (Ub.trans (Pb.trans hj)) (rC (ib rfl) (rC (rT (v:=.list _) rfl fc) rN)) (by rw[hD];exact congrArg (λx=>LV.tuple [int .i64 (i:Nat),.list x]) List.map_take.symm)) : P := h
theorem Sx{P : Prop}(h : P := by
  rintro⟨⟨⟨⟨a1,a2⟩,a3⟩,a4⟩,a5⟩;exact Eg ⟨by simpa using a1,by omega,by omega,by omega,by omega⟩) : P := h
theorem vG{P : Prop}(h : P := by
  refine Dh (i:=5) zk ?_;refine lH rfl rfl (pB _ (cs:=[_,_,_,_,_,_,_,_,_,_]) rfl) ?_;refine Dh (i:=6) zk ?_;refine lW rfl (.inl rfl) rfl (sB rfl λmb=>?_);refine sN ?_;first
   |exact Ab pH (Ab pH (Ab pH Ma))
   |exact Ab pH (Ab uc (Ab pH Ma))) : P := h
theorem uG{P : Prop}(h : P := by
  subst hc;unfold World.freeze;split
  ·rfl
  ·simp only[World.shape?,Array.getElem?_modify,if_true]
   show(match Option.map _ w.heap[c]? with|some (Obj.cells c e _)=>some (e,c.size)|_=>none)=_
   cases w.heap[c]? with
   |none=>rfl
   |some o=>cases o <;> rfl) : P := h
theorem Rx{P : Prop}(h : P := by
  rw[xd,h2,Hf] at hr;refine Rc ?_;exact Yb (ya.trans hj) (by cases hr;rfl) dc) : P := h
theorem tG{P : Prop}(h : P := by
  subst hc;unfold World.freeze;split
  ·rfl
  ·simp only[World.cell?,Array.getElem?_modify,if_true]
   show(match Option.map _ w.heap[c]? with|some (Obj.cells c e _)=>_|_=>none)=_
   cases w.heap[c]? with
   |none=>rfl
   |some o=>cases o <;> rfl) : P := h
theorem rG{P : Prop}(h : P := by
  show LeavesInM _ _ _ _ _ _ a'.defers _ _;rw[show a'.defers=[{ target:=.collected D,args:=#[] }] from(show a'.defers=e'.ds from g3).trans h1];obtain⟨t1,t2,t3,t4⟩:=turn hp;exact⟨by simp,.inl ⟨D,_,rfl,t1,⟨se,L',t2.db h4,t3.db h4,h5⟩⟩⟩) : P := h
theorem Qx{P : Prop}(h : P := by
  rw[h1,Hf] at hr;refine zg ?_;exact Yb (ya.trans rfl) (by cases hr;rfl) dc) : P := h
theorem qG{P : Prop}(h : P := by
  have hk:¬ k=2:=by have:=zf Em;omega
  rw[zn hk] at hI;refine oa ?_;exact⟨q,_,_,by omega,⟨.mk (tA T i2) 0 [] [ex,e2],i3,by omega,rfl,rfl,q4,hI⟩,Qa,(by rw[lZ];exact kb _),Ub.trans hj⟩) : P := h
theorem Px{P : Prop}(h : P := by
  rw[xd,h1,Hf] at hr;refine Rc ?_;exact Yb Ak (by cases hr;rfl) dc) : P := h
theorem oG{P : Prop}(h : P := by
  rw[h,Bool.true_and] at r1;refine Dg ?_;refine oS (sF [_] rfl (qly _ fa) ?_);refine oa ?_;exact tj rfl (rC (rT (v:=.atom _) rfl (vR _)) (rC (rT (v:=.atom _) rfl (vR _)) rN)) (Ei.mk r1 r2)) : P := h
theorem nG{P : Prop}(h : P := by
  have Ej:R=.Pd s:=by
   rw[<-ef];unfold tD;cases hd:s.data with
   |nil=>rfl
   |cons x r=>simp only;rw[zn (hb x r hd)]
  subst Ej;refine Rc ?_;exact oc.panic (ya.trans Gg) Ma (Am _ _ yf)) : P := h
theorem IB{P : Prop}(h : P := by
  rw[h2];exact⟨rfl,rfl,rfl,by rw[Go.Lib.bytesWorld_size];omega,λk hk=>Go.Lib.bytesWorld_at_old w 5 _ k hk⟩) : P := h
theorem Ox{P : Prop}(h : P := by
  rw[h1,Hf] at hr;refine Rc ?_;exact Yb Ak (by cases hr;rfl) dc) : P := h
theorem Nx{P : Prop}(h : P := by
  rw[h3,Hf] at hr;refine Rc ?_;exact Yb Ak (by cases hr;rfl) dc) : P := h
theorem mG{P : Prop}(h : P := by
  have hk:k=2:=by have:=zt Em;omega
  rw[zp hk] at hI;refine ja ?_;exact rR (Ub.trans hj) (rC (rA rfl yb rfl fc) rN) (fe (fe Ma)) (by cases hI;exact⟨by rw[Av];rfl,rfl⟩)) : P := h
theorem GB{P : Prop}(h : P := by
  refine ia ?_;exact Na rfl (rC (ib rfl) (rC (rT (v:=Ea) rfl vN) rN)) (by rw[hF];rfl)) : P := h
theorem lG{P : Prop}(h : P := by
  have e3:¬ n<i:=by have:=zt h3;omega
  rw[zn e3] at hD;refine Oe ?_;exact Na (Ub.trans (Pb.trans hj)) (rC (ib rfl) (rC (rT (v:=Ea) rfl vN) rN)) (by rw[hD];rfl)) : P := h
theorem uo{P : Prop}(h : P := by
  injection h with h;subst h;simp) : P := h
theorem kG{P : Prop}(h : P := by
  rw[h,Bool.true_and] at r1;refine Dg ?_;refine oS (sF [_] rfl (jM _ fa) ?_);refine oa ?_;exact tj rfl (rC (ib rfl) (va rfl)) (Ei.mk r1 r2)) : P := h
namespace Go.GL
variable{P Q:Prop}
theorem ic{α:Type _}{a b:α}{l:List α}(h:a∈l):a∈b::l:=List.Mem.tail _ h
theorem zo(h:P:=by omega):P:=h
theorem zk(h:P:=by kernel_rfl):P:=h
theorem qb{α:Type _}{l:List α}:l.Perm l:=List.Perm.refl _
theorem yb{α:Type _}{a:α}{l:List α}:a∈a::l:=(je)
theorem Ff{α:Type _}{a b:α}{l:List α}:b∈a::b::l:=(ic (je))
theorem Hr{α:Type _}{a b c:α}{l:List α}:c∈a::b::c::l:=(ic (ic (je)))
theorem Ru{α:Type _}{a b c d:α}{l:List α}:d∈a::b::c::d::l:=(ic (ic (ic (je))))
theorem FE{α:Type _}{a b c d e:α}{l:List α}:e∈a::b::c::d::e::l:=(ic (ic (ic (ic (je)))))
theorem wK{α:Type _}{a b c d e f:α}{l:List α}:f∈a::b::c::d::e::f::l:=(ic (ic (ic (ic (ic (je))))))
theorem eU{α:Type _}{a b c d e f g:α}{l:List α}:g∈a::b::c::d::e::f::g::l:=(ic (ic (ic (ic (ic (ic (je)))))))
theorem zm7{α:Type _}{a b c d e f g h:α}{l:List α}:h∈a::b::c::d::e::f::g::h::l:=(ic (ic (ic (ic (ic (ic (ic (je))))))))
theorem zm8{α:Type _}{a b c d e f g h i:α}{l:List α}:i∈a::b::c::d::e::f::g::h::i::l:=(ic (ic (ic (ic (ic (ic (ic (ic (je)))))))))
theorem Ak(h:P:=by first|exact Ng.trans rfl|exact Ng.trans hj|exact Ng.trans (Ub.trans hj)):P:=h
theorem EB(h:P:=by first|exact pH|exact pT pH|exact pT (pT (pH))|exact pT (pT (pT (pH)))|exact pT (pT (pT (pT (pH))))|exact pT (pT (pT (pT (pT (pH)))))|exact pT (pT (pT (pT (pT (pT (pH))))))|exact pT (pT (pT (pT (pT (pT (pT (pH)))))))):P:=h
theorem zt{p:Prop} [Decidable p](h:decide p=true):p:=Ck h
theorem zf{p:Prop} [Decidable p](h:decide p=false):¬p:=of_decide_eq_false h
theorem oa(h:Q)(t:(Unit->Q)->P:=by intro h;(repeat first|refine qN ?_|refine ea.nil ?_|refine Ga.seq ?_|refine ca (pM (lv:=.atom _) rfl) ?_|refine ca (pA (lv:=.atom _) rfl) ?_|refine Ga.ret ?_|refine Ga.skip ?_|refine ca (pF rfl) ?_|refine Bc.ret ?_|refine ea.want rfl rfl ?_|refine Ga.block ?_|refine Tc.normal ?_|refine ca (Pure.Gi (lv:=.atom _) rfl rfl) ?_|refine ca (Pure.nh (lv:=.atom _) rfl rfl) ?_|refine ca (pL (c:=.atom _) rfl (je) rfl) ?_|refine Bc.panic ?_|refine ea.skip rfl rfl rfl rfl ?_|refine Tc.ret ?_|refine ca (Pure.eql rfl rfl) ?_|refine ca (Pure.add rfl rfl Ia) ?_|refine ca (Pure.extract (c:=.atom _) rfl rfl) ?_|refine Tc.panic ?_|refine ca (Pure.lss rfl rfl) ?_|refine ca (pM (lv:=.tuple _) rfl) ?_|refine Tc.hit ?_|refine Bc.exit ?_|refine Ga.exit ?_|refine ca (pN rfl) ?_|refine ca (pM (lv:=.list _) rfl) ?_|refine ca (Pure.jl rfl) ?_|refine ca (pA (lv:=.list _) rfl) ?_|refine ca (Pure.seq rfl rfl) ?_);exact h ()):P:=t λ_=>h
theorem ia(h:Q)(t:(Unit->Q)->P:=by intro h;(repeat first|refine qN ?_|refine ea.nil ?_|refine Ga.region ?_|refine Ga.seq ?_|refine ca (pM (lv:=.atom _) rfl) ?_|refine ca (pA (lv:=.atom _) rfl) ?_|refine Ga.ret ?_|refine Ga.skip ?_|refine ca (pF rfl) ?_|refine Bc.ret ?_|refine ea.want rfl rfl ?_|refine Ga.block ?_|refine Tc.normal ?_|refine ca (Pure.Gi (lv:=.atom _) rfl rfl) ?_|refine ca (Pure.nh (lv:=.atom _) rfl rfl) ?_|refine ca (pL (c:=.atom _) rfl (je) rfl) ?_|refine Bc.panic ?_|refine ea.skip rfl rfl rfl rfl ?_|refine Tc.ret ?_|refine ca (Pure.eql rfl rfl) ?_|refine ca (Pure.add rfl rfl Ia) ?_|refine ca (Pure.extract (c:=.atom _) rfl rfl) ?_|refine Tc.panic ?_|refine ca (Pure.lss rfl rfl) ?_|refine ca (pM (lv:=.tuple _) rfl) ?_|refine Tc.hit ?_|refine Bc.exit ?_|refine Ga.exit ?_|refine ca (pN rfl) ?_|refine ca (pM (lv:=.list _) rfl) ?_|refine ca (Pure.jl rfl) ?_|refine ca (pA (lv:=.list _) rfl) ?_|refine ca (Pure.seq rfl rfl) ?_);exact h ()):P:=t λ_=>h
theorem ja(h:Q)(t:(Unit->Q)->P:=by intro h;(repeat first|refine qN ?_|refine ea.nil ?_|refine Ga.region ?_|refine Ga.seq ?_|refine ca (pM (lv:=.atom _) rfl) ?_|refine ca (pA (lv:=.atom _) rfl) ?_|refine Ga.ret ?_|refine Ga.skip ?_|refine ca (pF rfl) ?_|refine Bc.ret ?_|refine ea.want rfl rfl ?_|refine Ga.block ?_|refine Tc.normal ?_|refine ca (Pure.Gi (lv:=.atom _) rfl rfl) ?_|refine ca (Pure.nh (lv:=.atom _) rfl rfl) ?_|refine ca (pL (c:=.atom _) rfl (je) rfl) ?_|refine ea.skip rfl rfl rfl rfl ?_|refine Tc.ret ?_|refine ca (Pure.eql rfl rfl) ?_|refine ca (Pure.add rfl rfl Ia) ?_|refine ca (Pure.extract (c:=.atom _) rfl rfl) ?_|refine ca (Pure.lss rfl rfl) ?_|refine ca (pM (lv:=.tuple _) rfl) ?_|refine Tc.hit ?_|refine Bc.exit ?_|refine Ga.exit ?_|refine ca (pN rfl) ?_|refine ca (pM (lv:=.list _) rfl) ?_|refine ca (Pure.jl rfl) ?_|refine ca (pA (lv:=.list _) rfl) ?_|refine ca (Pure.seq rfl rfl) ?_|refine ca (pL (c:=.list _) rfl (je) rfl) ?_|refine ca (Pure.not rfl) ?_|refine ca (pL (c:=.atom _) rfl (ic (je)) rfl) ?_|refine ca (Pure.jv rfl) ?_|refine ca (Pure.gtr rfl rfl) ?_|refine ca (Pure.extract (c:=.list _) rfl rfl) ?_|refine ca (pO (c:=.atom _) rfl rfl) ?_|refine oS (sS (Ya:=[_,_,_]) rfl pH rfl rfl rfl rfl rfl ?_) rfl|refine ca (pG (Ya:=[_,_]) rfl (je) rfl rfl) ?_|refine ca (Pure.sub rfl rfl Ia) ?_|refine oS (sS (Ya:=[_,_]) rfl pH rfl rfl rfl rfl rfl ?_) rfl|refine ca (Pure.neq rfl rfl) ?_|refine LQ.nil ?_|refine ca (Pure.leq rfl rfl) ?_|refine ca (Pure.Fo rfl rfl (by first|omega|(simp only[ua,Oa,Eb];omega))) ?_|refine ca (Pure.oy rfl rfl) ?_|refine ca (Pure.geq rfl rfl) ?_|refine ca (pL (c:=.atom _) rfl (ic (ic (je))) rfl) ?_|refine ca (pB _ (cs:=[_,_,_]) rfl) ?_|refine ea.Vz rfl rfl rfl ?_|refine oS (sS (Ya:=[_,_,_,_]) rfl pH rfl rfl rfl rfl rfl ?_) rfl|refine qP (pF rfl) rfl ?_|refine ca (pB _ (cs:=[_,_,_,_,_]) rfl) ?_|refine qP (pL (c:=.atom _) rfl (je) rfl) rfl ?_|refine ca (Pure.makeFunc rfl rfl) ?_|refine qP (pL (c:=.list _) rfl (je) rfl) rfl ?_|refine ca (pB _ (cs:=[_,_]) rfl) ?_|refine oS (sS (Ya:=[_,_,_,_,_,_,_,_,_,_]) rfl pH rfl rfl rfl rfl rfl ?_) rfl|refine ca (pB _ (cs:=[_,_,_,_]) rfl) ?_|refine ca (Pure.yE rfl) ?_|refine oS (sS (Ya:=[_,_,_,_,_,_]) rfl (pT pH) rfl rfl rfl rfl rfl ?_) rfl|refine qP (pA (lv:=.atom _) rfl) rfl ?_|refine ca (pB _ (cs:=[_,_,_,_,_,_]) rfl) ?_|refine ca (pG (Ya:=[_,_,_,_,_,_]) rfl (je) rfl rfl) ?_|refine oS (sS (Ya:=[_,_,_,_,_,_]) rfl (pT (pT pH)) rfl rfl rfl rfl rfl ?_) rfl|refine oS (sS (Ya:=[_,_,_,_,_,_]) rfl pH rfl rfl rfl rfl rfl ?_) rfl|refine oS (sS (Ya:=[_,_,_,_,_]) rfl (pT pH) rfl rfl rfl rfl rfl ?_) rfl|refine oS (sS (Ya:=[_,_,_,_]) rfl (pT pH) rfl rfl rfl rfl rfl ?_) rfl|refine qP (pO (c:=.atom _) rfl rfl) rfl ?_|refine ca (pG (Ya:=[_,_,_,_]) rfl (je) rfl rfl) ?_|refine ca (pG (Ya:=[_,_,_,_]) rfl (ic (je)) rfl rfl) ?_|refine ca (pG (Ya:=[_,_,_]) rfl (ic (je)) rfl rfl) ?_|refine ca (Pure.xj rfl) ?_|refine oS (sS (Ya:=[_,_,_,_]) rfl (pT (pT pH)) rfl rfl rfl rfl rfl ?_) rfl|refine ca (pG (Ya:=[_,_,_]) rfl (je) rfl rfl) ?_|refine ca (pO (c:=.list _) rfl rfl) ?_|refine ca (pM (lv:=.app _ _ _ _) rfl) ?_|refine qP (Pure.jl rfl) rfl ?_|refine ca (Pure.ph rfl) ?_|refine oS (sS (Ya:=[_,_,_,_,_]) rfl pH rfl rfl rfl rfl rfl ?_) rfl|refine oS (sS (Ya:=[_]) rfl (pT (pT pH)) rfl rfl rfl rfl rfl ?_) rfl|refine oS (sS (Ya:=[_]) rfl (pT pH) rfl rfl rfl rfl rfl ?_) rfl|refine oS (sS (Ya:=[_]) rfl pH rfl rfl rfl rfl rfl ?_) rfl|refine Tc.FI ra ?_|refine ca (pA (lv:=.app _ _ _ _) rfl) ?_|refine ca (pG (Ya:=[_,_,_]) rfl (ic (ic (ic (ic (je))))) rfl rfl) ?_|refine ca (pL (c:=.atom _) rfl (ic (ic (ic (ic (je))))) rfl) ?_|refine oS (sS (Ya:=[_,_,_,_,_,_,_,_,_,_]) rfl (pT pH) rfl rfl rfl rfl rfl ?_) rfl|refine ca (pG (Ya:=[_,_,_,_,_,_]) rfl (ic (je)) rfl rfl) ?_|refine ca (pG (Ya:=[_,_]) rfl (ic (je)) rfl rfl) ?_|refine ca (pL (c:=.atom _) rfl (ic (ic (ic (ic (ic (ic (je))))))) rfl) ?_|refine ca (pL (c:=.list _) rfl (ic (je)) rfl) ?_|refine ca (Pure.lg (vs:=[_,_]) rfl) ?_|refine oS (sS (Ya:=[]) rfl pH rfl rfl rfl rfl rfl ?_) rfl|refine oS (sS (Ya:=[_,_,_,_]) rfl (pT (pT (pT (pT pH)))) rfl rfl rfl rfl rfl ?_) rfl|refine oS (sS (Ya:=[_,_,_]) rfl (pT pH) rfl rfl rfl rfl rfl ?_) rfl|refine qP (Pure.extract (c:=.atom _) rfl rfl) rfl ?_|refine qP (pM (lv:=.tuple _) rfl) rfl ?_|refine qP (Pure.oy rfl rfl) rfl ?_|refine ca (pB _ (cs:=[]) rfl) ?_|refine ca (pL (c:=.list _) rfl (ic (ic (je))) rfl) ?_|refine ca (pL (c:=.list _) rfl (ic (ic (ic (ic (ic (je)))))) rfl) ?_|refine ca (Pure.lg (vs:=[]) rfl) ?_|refine oS (sS (Ya:=[_,_,_,_,_,_,_]) rfl (pT (pT pH)) rfl rfl rfl rfl rfl ?_) rfl|refine oS (sS (Ya:=[_,_,_,_,_,_,_]) rfl pH rfl rfl rfl rfl rfl ?_) rfl|refine oS (sS (Ya:=[_,_,_]) rfl (pT (pT pH)) rfl rfl rfl rfl rfl ?_) rfl|refine oS (sS (Ya:=[_,_]) rfl (pT (pT pH)) rfl rfl rfl rfl rfl ?_) rfl|refine oS (sS (Ya:=[_,_]) rfl (pT pH) rfl rfl rfl rfl rfl ?_) rfl|refine oS (sS (Ya:=[_]) rfl (pT (pT (pT pH))) rfl rfl rfl rfl rfl ?_));exact h ()):P:=t λ_=>h
theorem za(h:Q)(t:(Unit->Q)->P:=by intro h;(repeat first|refine qN ?_|refine ea.nil ?_|refine Ga.seq ?_|refine ca (pM (lv:=.atom _) rfl) ?_|refine ca (pA (lv:=.atom _) rfl) ?_|refine Ga.ret ?_|refine ca (pF rfl) ?_|refine Bc.ret ?_|refine ea.want rfl rfl ?_|refine Ga.block ?_|refine Tc.normal ?_|refine ca (Pure.Gi (lv:=.atom _) rfl rfl) ?_|refine ca (Pure.nh (lv:=.atom _) rfl rfl) ?_|refine ca (pL (c:=.atom _) rfl (je) rfl) ?_|refine ea.skip rfl rfl rfl rfl ?_|refine Tc.ret ?_|refine ca (Pure.eql rfl rfl) ?_|refine ca (Pure.add rfl rfl Ia) ?_|refine ca (Pure.extract (c:=.atom _) rfl rfl) ?_|refine ca (pM (lv:=.tuple _) rfl) ?_|refine Tc.hit ?_|refine Bc.exit ?_|refine Ga.exit ?_|refine ca (pN rfl) ?_|refine ca (pM (lv:=.list _) rfl) ?_|refine ca (Pure.jl rfl) ?_|refine ca (pA (lv:=.list _) rfl) ?_|refine ca (Pure.seq rfl rfl) ?_|refine ca (pL (c:=.list _) rfl (je) rfl) ?_|refine ca (Pure.not rfl) ?_|refine ca (pL (c:=.atom _) rfl (ic (je)) rfl) ?_|refine ca (Pure.jv rfl) ?_|refine ca (Pure.gtr rfl rfl) ?_|refine ca (Pure.extract (c:=.list _) rfl rfl) ?_|refine ca (pO (c:=.atom _) rfl rfl) ?_|refine oS (sS (Ya:=[_,_,_]) rfl pH rfl rfl rfl rfl rfl ?_) rfl|refine ca (pG (Ya:=[_,_]) rfl (je) rfl rfl) ?_|refine ca (Pure.sub rfl rfl Ia) ?_|refine oS (sS (Ya:=[_,_]) rfl pH rfl rfl rfl rfl rfl ?_) rfl|refine ca (Pure.neq rfl rfl) ?_|refine qP (pM (lv:=.atom _) rfl) rfl ?_|refine ca (pR (Ya:=[_,_,_,_]) rfl rfl rfl) ?_|refine LQ.nil ?_|refine ca (Pure.leq rfl rfl) ?_|refine ca (Pure.Fo rfl rfl (by first|omega|(simp only[ua,Oa,Eb];omega))) ?_|refine ca (Pure.oy rfl rfl) ?_|refine ca (pR (Ya:=[_,_]) rfl rfl rfl) ?_|refine ca (Pure.geq rfl rfl) ?_|refine ca (pL (c:=.atom _) rfl (ic (ic (je))) rfl) ?_|refine ca (pB _ (cs:=[_,_,_]) rfl) ?_|refine ca (Pure.extract (c:=.agg _) rfl rfl) ?_|refine ea.Vz rfl rfl rfl ?_|refine oS (sS (Ya:=[_,_,_,_]) rfl pH rfl rfl rfl rfl rfl ?_) rfl|refine qP (pF rfl) rfl ?_|refine ca (pB _ (cs:=[_,_,_,_,_]) rfl) ?_|refine qP (pL (c:=.atom _) rfl (je) rfl) rfl ?_|refine qP (pN rfl) rfl ?_|refine LQ.want rfl rfl ?_|refine ca (Pure.makeFunc rfl rfl) ?_|refine qP (pL (c:=.list _) rfl (je) rfl) rfl ?_|refine ca (pB _ (cs:=[_,_]) rfl) ?_|refine oS (sS (Ya:=[_,_,_,_,_,_,_,_,_,_]) rfl pH rfl rfl rfl rfl rfl ?_) rfl|refine ca (pB _ (cs:=[_,_,_,_]) rfl) ?_|refine ca (Pure.yE rfl) ?_|refine ca (pG (Ya:=[_,_,_,_,_]) rfl (je) rfl rfl) ?_|refine oS (sS (Ya:=[_,_,_,_,_,_]) rfl (pT pH) rfl rfl rfl rfl rfl ?_) rfl|refine qP (pA (lv:=.atom _) rfl) rfl ?_|refine ca (pB _ (cs:=[_,_,_,_,_,_]) rfl) ?_|refine oS (sS (Ya:=[_,_,_,_,_,_]) rfl (pT (pT pH)) rfl rfl rfl rfl rfl ?_) rfl|refine oS (sS (Ya:=[_,_,_,_]) rfl (pT pH) rfl rfl rfl rfl rfl ?_) rfl|refine qP (pO (c:=.atom _) rfl rfl) rfl ?_|refine ca (pG (Ya:=[_,_,_,_]) rfl (je) rfl rfl) ?_|refine ca (pG (Ya:=[_,_,_]) rfl (ic (je)) rfl rfl) ?_|refine ca (Pure.xj rfl) ?_|refine qP (Pure.nh (lv:=.atom _) rfl rfl) rfl ?_|refine qP (Pure.Gi (lv:=.atom _) rfl rfl) rfl ?_|refine LQ.skip rfl rfl rfl rfl ?_|refine ca (pG (Ya:=[_,_,_]) rfl (je) rfl rfl) ?_|refine ca (pO (c:=.list _) rfl rfl) ?_|refine qP (Pure.vr rfl rfl) rfl ?_|refine qP (Pure.jl rfl) rfl ?_|refine ca (Pure.vr rfl rfl) ?_|refine oS (sS (Ya:=[_]) rfl (pT pH) rfl rfl rfl rfl rfl ?_) rfl|refine Lg.pure (pM (lv:=.atom _) rfl) rfl ?_|refine rj.pure (pM (lv:=.atom _) rfl) rfl ?_|refine rj.pure (Pure.not rfl) rfl ?_|refine lP (pF rfl) rfl ?_|refine lP (pM (lv:=.atom _) rfl) rfl ?_|refine lP (pN rfl) rfl ?_|refine Tc.FI ra ?_|refine ca (pA (lv:=.app _ _ _ _) rfl) ?_|refine ca (pL (c:=.atom _) rfl (ic (ic (ic (ic (je))))) rfl) ?_|refine Lg.pure (Pure.makeFunc rfl rfl) rfl ?_|refine qP (Pure.lss rfl rfl) rfl ?_|refine lP (pL (c:=.atom _) rfl (ic (je)) rfl) rfl ?_|refine ca (pR (Ya:=[_,_,_,_,_,_]) rfl rfl rfl) ?_|refine oS (sS (Ya:=[_,_,_,_]) rfl (pT (pT (pT pH))) rfl rfl rfl rfl rfl ?_) rfl|refine qP (Pure.eql rfl rfl) rfl ?_|refine qP (Pure.geq rfl rfl) rfl ?_|refine qP (Pure.oy rfl rfl) rfl ?_|refine qP (Pure.sub rfl rfl Ia) rfl ?_|refine LS.nil ?_|refine lP (pB _ (cs:=[_,_,_]) rfl) rfl ?_|refine ca (pB _ (cs:=[_,_,_,_,_,_,_]) rfl) ?_|refine ca (pR (Ya:=[_,_,_,_,_]) rfl rfl rfl) ?_|refine oS (sS (Ya:=[_]) rfl (pT (pT (pT (pT (pT (pT pH)))))) rfl rfl rfl rfl rfl ?_) rfl|refine Lg.pure (pF rfl) rfl ?_|refine Lg.pure (pG (Ya:=[_,_,_]) rfl (ic (ic (ic (ic (ic (ic (ic (je)))))))) rfl rfl) rfl ?_|refine Lg.pure (pL (c:=.atom _) rfl (ic (je)) rfl) rfl ?_|refine Lg.pure (Pure.lss rfl rfl) rfl ?_|refine Lg.pure (pN rfl) rfl ?_|refine rj.pure (pL (c:=.atom _) rfl (ic (je)) rfl) rfl ?_|refine rj.pure (pL (c:=.list _) rfl (je) rfl) rfl ?_|refine rj.pure (pO (c:=.list _) rfl rfl) rfl ?_|refine qP (Pure.gtr rfl rfl) rfl ?_|refine qP (Pure.ph rfl) rfl ?_|refine qP (pL (c:=.atom _) rfl (ic (je)) rfl) rfl ?_|refine qP (pL (c:=.atom _) rfl (ic (ic (ic (ic (je))))) rfl) rfl ?_|refine qP (Pure.xj rfl) rfl ?_|refine qP (Pure.Fo rfl rfl (by first|omega|(simp only[ua,Oa,Eb];omega))) rfl ?_);exact h ()):P:=t λ_=>h
theorem Rc(h:Q)(t:(Unit->Q)->P:=by intro h;(repeat first|refine Bc.panic ?_|refine Tc.panic ?_);exact h ()):P:=t λ_=>h
theorem Dc(h:Q)(t:(Unit->Q)->P:=by intro h;(repeat first|refine Ga.region ?_|refine Ga.seq ?_|refine ca (pM (lv:=.atom _) rfl) ?_);exact h ()):P:=t λ_=>h
theorem Pc(h:Q)(t:(Unit->Q)->P:=by intro h;(repeat first|refine Ga.region ?_|refine Ga.seq ?_);exact h ()):P:=t λ_=>h
theorem Nd(h:Q)(t:(Unit->Q)->P:=by intro h;(repeat first|refine qN ?_|refine ea.nil ?_|refine Ga.region ?_|refine Ga.seq ?_|refine ca (Pure.lss rfl rfl) ?_);exact h ()):P:=t λ_=>h
theorem Oe(h:Q)(t:(Unit->Q)->P:=by intro h;(repeat first|refine qN ?_|refine ea.nil ?_|refine Ga.region ?_|refine Ga.seq ?_|refine ca (pA (lv:=.atom _) rfl) ?_|refine Ga.ret ?_|refine Bc.ret ?_);exact h ()):P:=t λ_=>h
theorem Af(h:Q)(t:(Unit->Q)->P:=by intro h;(repeat first|refine qN ?_|refine Ga.region ?_|refine Ga.seq ?_|refine Ga.skip ?_|refine Ga.block ?_);exact h ()):P:=t λ_=>h
theorem Dg(h:Q)(t:(Unit->Q)->P:=by intro h;(repeat first|refine ca (pM (lv:=.atom _) rfl) ?_|refine ea.want rfl rfl ?_);exact h ()):P:=t λ_=>h
theorem qh(h:Q)(t:(Unit->Q)->P:=by intro h;(repeat first|refine qN ?_|refine ea.nil ?_|refine ca (pA (lv:=.atom _) rfl) ?_|refine Ga.ret ?_);exact h ()):P:=t λ_=>h
theorem ig(h:Q)(t:(Unit->Q)->P:=by intro h;(repeat first|refine qN ?_|refine ea.nil ?_);exact h ()):P:=t λ_=>h
theorem zg(h:Q)(t:(Unit->Q)->P:=by intro h;(repeat first|refine Bc.panic ?_);exact h ()):P:=t λ_=>h
theorem fg(h:Q)(t:(Unit->Q)->P:=by intro h;(repeat first|refine qN ?_|refine ea.nil ?_|refine Ga.region ?_|refine Ga.seq ?_|refine ca (pM (lv:=.atom _) rfl) ?_|refine ca (pA (lv:=.atom _) rfl) ?_);exact h ()):P:=t λ_=>h
theorem qg(h:Q)(t:(Unit->Q)->P:=by intro h;(repeat first|refine qN ?_|refine ea.nil ?_|refine Ga.region ?_|refine Ga.seq ?_|refine ca (pM (lv:=.atom _) rfl) ?_);exact h ()):P:=t λ_=>h
theorem Yg(h:Q)(t:(Unit->Q)->P:=by intro h;(repeat first|refine qN ?_|refine ea.nil ?_|refine Ga.region ?_|refine Ga.seq ?_|refine ca (pA (lv:=.atom _) rfl) ?_|refine ca (Pure.eql rfl rfl) ?_);exact h ()):P:=t λ_=>h
theorem Mh(h:Q)(t:(Unit->Q)->P:=by intro h;(repeat first|refine qN ?_|refine ea.nil ?_|refine Ga.region ?_|refine ca (pM (lv:=.atom _) rfl) ?_|refine Tc.normal ?_|refine ca (Pure.add rfl rfl Ia) ?_);exact h ()):P:=t λ_=>h
theorem Oi(h:Q)(t:(Unit->Q)->P:=by intro h;(repeat first|refine qN ?_|refine ea.nil ?_|refine ca (pM (lv:=.atom _) rfl) ?_|refine ca (pA (lv:=.atom _) rfl) ?_|refine Ga.ret ?_|refine ca (pF rfl) ?_|refine Bc.ret ?_|refine ea.want rfl rfl ?_|refine Tc.normal ?_|refine ca (Pure.Gi (lv:=.atom _) rfl rfl) ?_|refine ca (Pure.nh (lv:=.atom _) rfl rfl) ?_|refine ca (pL (c:=.atom _) rfl (je) rfl) ?_|refine ea.skip rfl rfl rfl rfl ?_|refine Tc.ret ?_|refine ca (Pure.add rfl rfl Ia) ?_|refine ca (Pure.lss rfl rfl) ?_|refine ca (pN rfl) ?_|refine ca (Pure.jl rfl) ?_|refine ca (pL (c:=.list _) rfl (je) rfl) ?_|refine ca (pL (c:=.atom _) rfl (ic (je)) rfl) ?_|refine qP (pM (lv:=.atom _) rfl) rfl ?_|refine LQ.nil ?_|refine ca (Pure.leq rfl rfl) ?_|refine qP (pF rfl) rfl ?_|refine ca (pB _ (cs:=[_,_,_,_,_]) rfl) ?_|refine qP (pL (c:=.atom _) rfl (je) rfl) rfl ?_|refine qP (pN rfl) rfl ?_|refine LQ.want rfl rfl ?_|refine qP (pL (c:=.list _) rfl (je) rfl) rfl ?_|refine oS (sS (Ya:=[_,_,_,_,_]) rfl (pT pH) rfl rfl rfl rfl rfl ?_) rfl|refine qP (pO (c:=.atom _) rfl rfl) rfl ?_|refine qP (Pure.nh (lv:=.atom _) rfl rfl) rfl ?_|refine qP (Pure.vr rfl rfl) rfl ?_|refine ca (Pure.ph rfl) ?_|refine lP (pF rfl) rfl ?_|refine lP (pM (lv:=.atom _) rfl) rfl ?_|refine lP (pN rfl) rfl ?_|refine oS (sS (Ya:=[_,_,_,_,_,_,_,_,_,_]) rfl (pT pH) rfl rfl rfl rfl rfl ?_) rfl|refine lP (pL (c:=.atom _) rfl (ic (je)) rfl) rfl ?_|refine qP (Pure.sub rfl rfl Ia) rfl ?_|refine qP (Pure.GI rfl rfl) rfl ?_|refine qP (Pure.neq rfl rfl) rfl ?_|refine lP (Pure.add rfl rfl Ia) rfl ?_|refine lP (Pure.jl rfl) rfl ?_|refine lP (pL (c:=.atom _) rfl (je) rfl) rfl ?_|refine lP (pL (c:=.list _) rfl (je) rfl) rfl ?_);exact h ()):P:=t λ_=>h
theorem Xj(h:Q)(t:(Unit->Q)->P:=by intro h;(repeat first|refine qN ?_|refine ea.nil ?_|refine Ga.region ?_|refine Ga.seq ?_|refine ca (pA (lv:=.atom _) rfl) ?_);exact h ()):P:=t λ_=>h
theorem fj(h:Q)(t:(Unit->Q)->P:=by intro h;(repeat first|refine qN ?_|refine ea.nil ?_|refine ca (pA (lv:=.atom _) rfl) ?_);exact h ()):P:=t λ_=>h
theorem Hj(h:Q)(t:(Unit->Q)->P:=by intro h;(repeat first|refine qN ?_|refine ea.nil ?_|refine Ga.region ?_|refine Ga.seq ?_|refine ca (pA (lv:=.atom _) rfl) ?_|refine Ga.ret ?_|refine Bc.ret ?_|refine Tc.ret ?_);exact h ()):P:=t λ_=>h
theorem Gj(h:Q)(t:(Unit->Q)->P:=by intro h;(repeat first|refine qN ?_|refine ea.nil ?_|refine Ga.region ?_|refine Ga.seq ?_|refine ca (pA (lv:=.atom _) rfl) ?_|refine ca (Pure.seq rfl rfl) ?_);exact h ()):P:=t λ_=>h
theorem Fj(h:Q)(t:(Unit->Q)->P:=by intro h;(repeat first|refine qN ?_|refine ea.nil ?_|refine Ga.region ?_|refine Ga.seq ?_|refine ca (pA (lv:=.atom _) rfl) ?_|refine Ga.ret ?_);exact h ()):P:=t λ_=>h
open Go.RowKit
variable{K:List Nat}{ma:Array Edge}{b d j n:Nat}{c:Code}{dst:Option Nat}{la:String}{rest:List Oper}{tmps:Array Value}{ty:TypeId}{v:Value}{w w':World}
inductive LV where
 |atom (v:Value)
 |list (es:List LV)
 |app (b cap k:Nat) (es:List LV)
 |agg (cs:List LV)
 |tuple (vs:List LV)
 |ref (cs:List LV)
 deriving Inhabited
variable{lv:LV}
def LV.cells:LV->List LV
 |.agg cs=>cs
 |v=>[v]
@[reducible] def int(k:IntKind)(n:Int):LV:=.atom (.int k n)
@[reducible] def bool(b:Bool):LV:=.atom (.bool b)
@[reducible] def str(l:List UInt8):LV:=.atom (.string ⟨l.toArray⟩)
@[reducible] def ptr(b off:Nat):LV:=.atom (.pointer (some ⟨b,off,none⟩))
@[reducible] def Ea:LV:=.atom (.slice none 0 0)
inductive da where
 |cells (ty:TypeId) (cs:List LV)
 |row (n:Nat)
 |X2 (ty:TypeId) (cs:List LV)
 |map (es:List (Value×LV)) (ga:Nat)
 |obj (o:Obj)
 deriving Inhabited
abbrev Heap:=List (Nat×da)
variable{F H H' H1:Heap}
abbrev Live:=Nat->Nat
variable{L L':Live}
mutual
def Wa(w:World)(L:Live):LV->Value->Prop
 |.atom v,x=>x=v
 |.agg cs,x=>∃ xs:List Value,x=.agg xs.toArray/\na w L cs xs
 |.tuple vs,x=>∃ xs:List Value,x=.tuple xs.toArray/\na w L vs xs
 |.list es,x=>∃ a cap,x=.slice a es.length cap/\es.length<=cap/\(es≠[]->∃ b off k,a=some ⟨b,off,none⟩/\Cc w L b k off es)
 |.app b cap k es,x=>x=.slice (some ⟨b,0,none⟩) es.length cap/\es.length<=cap/\Cc w L b k 0 es/\∃ e s,w.shape? b=some (e,s)/\cap * k<=s
 |.ref cs,x=>∃ b off,x=.pointer (some ⟨b,off,none⟩)/\pb w L b off cs
def na(w:World)(L:Live):List LV->List Value->Prop
 |[],xs=>xs=[]
 |c::cs,xs=>∃ y ys,xs=y::ys/\Wa w L c y/\na w L cs ys
def pb(w:World)(L:Live)(b:Nat):Nat->List LV->Prop
 |_,[]=>True
 |off,c::cs=>off<L b/\(∃ x,w.cell? ⟨b,off,none⟩=some x/\Wa w L c x)/\pb w L b (off+1) cs
def Cc(w:World)(L:Live)(b k:Nat):Nat->List LV->Prop
 |_,[]=>True
 |off,.agg cs::es=>(cs.length=k/\pb w L b off cs)/\Cc w L b k (off+k) es
 |off,.atom v::es=>(1=k/\off<L b/\∃ x,w.cell? ⟨b,off,none⟩=some x/\Wa w L (.atom v) x)/\Cc w L b k (off+k) es
 |off,.list v::es=>(1=k/\off<L b/\∃ x,w.cell? ⟨b,off,none⟩=some x/\Wa w L (.list v) x)/\Cc w L b k (off+k) es
 |off,.app b2 c k2 v::es=>(1=k/\off<L b/\∃ x,w.cell? ⟨b,off,none⟩=some x/\Wa w L (.app b2 c k2 v) x)/\Cc w L b k (off+k) es
 |off,.tuple v::es=>(1=k/\off<L b/\∃ x,w.cell? ⟨b,off,none⟩=some x/\Wa w L (.tuple v) x)/\Cc w L b k (off+k) es
 |off,.ref v::es=>(1=k/\off<L b/\∃ x,w.cell? ⟨b,off,none⟩=some x/\Wa w L (.ref v) x)/\Cc w L b k (off+k) es
end
structure Ext(w:World)(L:Live)(w':World)(L':Live):Prop where
 size:w.heap.size<=w'.heap.size
 shape:∀ b,b<w.heap.size->w'.shape? b=w.shape? b
 live:∀ b i,i<L b->w'.cell? ⟨b,i,none⟩=w.cell? ⟨b,i,none⟩
 mono:∀ b,L b<=L' b
theorem Ext.refl(w:World)(L:Live):Ext w L w L:=⟨mc _,λ_ _=>rfl,λ_ _ _=>rfl,λ_=>mc _⟩
theorem Ext.trans{w1 w2 w3:World}{L1 L2 L3:Live}(h:Ext w1 L1 w2 L2)(k:Ext w2 L2 w3 L3):Ext w1 L1 w3 L3:=
 ⟨Uf h.size k.size,λb hb=>(k.shape b (Nat.lt_of_lt_of_le hb h.size)).trans (h.shape b hb),
  λb i hi=>(k.live b i (Nat.lt_of_lt_of_le hi (h.mono b))).trans (h.live b i hi),λb=>Uf (h.mono b) (k.mono b)⟩
theorem V9{p:TypeId×Nat}(h:w.shape? b=some p):b<w.heap.size:=by rcases Nat.lt_or_ge b w.heap.size with h1|h1;exact h1;simp[World.shape?,Array.getElem?_eq_none h1] at h
mutual
theorem Wa.mono{w w':World}{L L':Live}(h:Ext w L w' L'):∀ (lv:LV) (x:Value),Wa w L lv x->Wa w' L' lv x
 |.atom v,x,r=>by simp only[Wa] at r ⊢;exact r
 |.agg cs,x,r=>by simp only[Wa] at r ⊢;obtain⟨xs,rfl,r⟩:=r;exact⟨xs,rfl,na.mono h cs xs r⟩
 |.tuple cs,x,r=>by simp only[Wa] at r ⊢;obtain⟨xs,rfl,r⟩:=r;exact⟨xs,rfl,na.mono h cs xs r⟩
 |.list es,x,r=>by
  simp only[Wa] at r ⊢;obtain⟨a,cap,rfl,hl,r⟩:=r;refine⟨a,cap,rfl,hl,λeb=>?_⟩;obtain⟨b,off,k,ha,r⟩:=r eb
  exact⟨b,off,k,ha,Cc.mono h b k off es r⟩
 |.app b cap k es,x,r=>by simp only[Wa] at r ⊢;obtain⟨rfl,hl,r,e,s,hs,hc⟩:=r;exact⟨rfl,hl,Cc.mono h b k 0 es r,e,s,by rw[h.shape b (V9 hs)];exact hs,hc⟩
 |.ref cs,x,r=>by simp only[Wa] at r ⊢;obtain⟨b,off,rfl,r⟩:=r;exact⟨b,off,rfl,pb.mono h b off cs r⟩
 termination_by lv=>SizeOf.sizeOf lv
theorem na.mono{w w':World}{L L':Live}(h:Ext w L w' L'):∀ (cs:List LV) (xs:List Value),na w L cs xs->na w' L' cs xs
 |[],xs,r=>by simp only[na] at r ⊢;exact r
 |c::cs,xs,r=>by simp only[na] at r ⊢;obtain⟨y,ys,rfl,r1,r2⟩:=r;exact⟨y,ys,rfl,Wa.mono h c y r1,na.mono h cs ys r2⟩
 termination_by cs=>SizeOf.sizeOf cs
theorem pb.mono{w w':World}{L L':Live}(h:Ext w L w' L')(b:Nat):∀ (off:Nat) (cs:List LV),pb w L b off cs->pb w' L' b off cs
 |_,[],r=>by simp only[pb]
 |off,c::cs,r=>by simp only[pb] at r ⊢;obtain⟨r1,⟨x,hx,r2⟩,r3⟩:=r;exact⟨Nat.lt_of_lt_of_le r1 (h.mono b),⟨x,by rw[h.live b off r1];exact hx,Wa.mono h c x r2⟩,pb.mono h b (off+1) cs r3⟩
 termination_by _ cs=>SizeOf.sizeOf cs
theorem Cc.mono{w w':World}{L L':Live}(h:Ext w L w' L')(b k:Nat):∀ (off:Nat) (es:List LV),Cc w L b k off es->Cc w' L' b k off es
 |_,[],r=>by simp only[Cc]
 |off,.agg cs::es,r=>by simp only[Cc] at r ⊢;exact⟨⟨r.1.1,pb.mono h b off cs r.1.2⟩,Cc.mono h b k (off+k) es r.2⟩
 |off,.atom v::es,r=>by simp only[Cc] at r ⊢;obtain⟨⟨h1,h2,x,h3,h4⟩,r2⟩:=r;exact⟨⟨h1,Nat.lt_of_lt_of_le h2 (h.mono b),x,by rw[h.live b off h2];exact h3,Wa.mono h (.atom v) x h4⟩,Cc.mono h b k (off+k) es r2⟩
 |off,.list v::es,r=>by simp only[Cc] at r ⊢;obtain⟨⟨h1,h2,x,h3,h4⟩,r2⟩:=r;exact⟨⟨h1,Nat.lt_of_lt_of_le h2 (h.mono b),x,by rw[h.live b off h2];exact h3,Wa.mono h (.list v) x h4⟩,Cc.mono h b k (off+k) es r2⟩
 |off,.app b2 c k2 v::es,r=>by simp only[Cc] at r ⊢;obtain⟨⟨h1,h2,x,h3,h4⟩,r2⟩:=r;exact⟨⟨h1,Nat.lt_of_lt_of_le h2 (h.mono b),x,by rw[h.live b off h2];exact h3,Wa.mono h (.app b2 c k2 v) x h4⟩,Cc.mono h b k (off+k) es r2⟩
 |off,.tuple v::es,r=>by simp only[Cc] at r ⊢;obtain⟨⟨h1,h2,x,h3,h4⟩,r2⟩:=r;exact⟨⟨h1,Nat.lt_of_lt_of_le h2 (h.mono b),x,by rw[h.live b off h2];exact h3,Wa.mono h (.tuple v) x h4⟩,Cc.mono h b k (off+k) es r2⟩
 |off,.ref v::es,r=>by simp only[Cc] at r ⊢;obtain⟨⟨h1,h2,x,h3,h4⟩,r2⟩:=r;exact⟨⟨h1,Nat.lt_of_lt_of_le h2 (h.mono b),x,by rw[h.live b off h2];exact h3,Wa.mono h (.ref v) x h4⟩,Cc.mono h b k (off+k) es r2⟩
 termination_by _ es=>SizeOf.sizeOf es
end
def LV.Sub(a b:LV):Prop:=∀ w L x,Wa w L a x->Wa w L b x
theorem vR(a:LV):a.Sub a:=λ_ _ _ h=>h
theorem vN:Ea.Sub (.list []):=λw L x r=>by simp only[Wa] at r ⊢;subst r;exact⟨none,0,rfl,mc _,λh=>absurd rfl h⟩
theorem LV.Sub.app(b cap k:Nat)(es:List LV):(LV.app b cap k es).Sub (.list es):=λw L x r=>by simp only[Wa] at r ⊢;obtain⟨rfl,hl,r,_⟩:=r;exact⟨some ⟨b,0,none⟩,cap,rfl,hl,λ_=>⟨b,0,k,rfl,r⟩⟩
def Ce:List LV->List LV->Prop
 |[],[]=>True
 |a::Wb,b::bs=>a.Sub b/\Ce Wb bs
 |_,_=>False
theorem Ce.vy{w:World}{L:Live}:∀ {Wb bs:List LV} {xs:List Value},Ce Wb bs->na w L Wb xs->na w L bs xs
 |[],[],xs,_,r=>r
 |a::Wb,b::bs,xs,h,r=>by simp only[na] at r ⊢;obtain⟨y,ys,rfl,r1,r2⟩:=r;exact⟨y,ys,rfl,h.1 _ _ _ r1,Ce.vy h.2 r2⟩
 |[],_::_,_,h,_=>h.elim
 |_::_,[],_,h,_=>h.elim
theorem vA{Wb bs:List LV}(h:Ce Wb bs):(LV.agg Wb).Sub (.agg bs):=λw L x r=>by simp only[Wa] at r ⊢;obtain⟨xs,rfl,r⟩:=r;exact⟨xs,rfl,h.vy r⟩
def wH(w:World)(L:Live)(b:Nat):da->Prop
 |.cells ty cs=>L b=0/\∃ xs:List Value,w.heap[b]? = some (.cells xs.toArray ty (0,0))/\na w L cs xs
 |.row n=>L b=n/\∃ (xs:Array Value) (ty:TypeId) (fr:Nat×Nat),w.heap[b]? = some (.cells xs ty fr)/\n<=xs.size/\fr.2<=n
 |.X2 ty cs=>L b=0/\∃ (xs:List Value) (fr:Nat×Nat),w.heap[b]? = some (.cells xs.toArray ty fr)/\xs.length<=fr.1/\na w L cs xs
 |.map es ga=>L b=0/\∃ Wb:List MapEntry,w.heap[b]? = some (.map Wb.toArray ga)/\Wb.map (·.key)=es.map (·.1)/\na w L (es.map (·.2)) (Wb.map (·.val))
   /\ (∀ e∈Wb,e.born<ga)/\(Wb.map (·.born)).Nodup
 |.obj o=>L b=0/\w.heap[b]? = some o/\w.shape? b=none
structure Ctx where
 P:Program
 B0:Nat
 w0:World
variable{C:Ctx}
structure Ca(C:Ctx)(w:World)(L:Live)(H:Heap):Prop where
 base:Below C.B0 C.w0 w
 ng:True
 b0:C.B0<=w.heap.size
 wf:∀ b,w.heap.size<=b->L b=0
 nodup:(H.map (·.1)).Nodup
 Gb:∀ p∈H,C.B0<=p.1/\p.1<w.heap.size/\wH w L p.1 p.2
@[reducible] def keys(H:Heap):List Nat:=H.map (·.1)
structure Fr(K:List Nat)(w:World)(L:Live)(w':World)(L':Live)(H':Heap):Prop where
 os:w'.os=w.os
 tape:w'.tape=w.tape
 output:w'.output=w.output
 ext:Ext w L w' L'
 block:∀ b,b<w.heap.size->b ∉ K->w'.heap[b]? = w.heap[b]?
 oh:∀ b,b<w.heap.size->b ∉ K->L' b=L b
 Vv:∀ p∈H',p.1∈K∨w.heap.size<=p.1
theorem Fr.refl(w:World)(L:Live)(H:Heap):Fr (keys H) w L w L H:=
 ⟨rfl,rfl,rfl,.refl _ _,λ_ _ _=>rfl,λ_ _ _=>rfl,λ_ hp=>.inl (List.mem_map_of_mem hp)⟩
theorem Fr.trans{K:List Nat}{w1 w2 w3:World}{L1 L2 L3:Live}{H2 H3:Heap}(h:Fr K w1 L1 w2 L2 H2)(k:Fr (keys H2) w2 L2 w3 L3 H3):Fr K w1 L1 w3 L3 H3:=by
 have out:∀ b,b<w1.heap.size->b ∉ K->b ∉ keys H2:=λb hb hn hm=>by obtain⟨p,hp,rfl⟩:=vi hm;rcases h.Vv p hp with h1|h1;exact hn h1;omega
 refine⟨k.os.trans h.os,k.tape.trans h.tape,k.output.trans h.output,h.ext.trans k.ext,λb hb hn=>?_,λb hb hn=>?_,λp hp=>?_⟩;exact(k.block b (Nat.lt_of_lt_of_le hb h.ext.size) (out b hb hn)).trans (h.block b hb hn);exact(k.oh b (Nat.lt_of_lt_of_le hb h.ext.size) (out b hb hn)).trans (h.oh b hb hn);rcases k.Vv p hp with h1|h1;obtain⟨q,hq,he⟩:=vi h1;rw[<-he];exact h.Vv q hq;exact .inr (Uf h.ext.size h1)
theorem Fr.sub{H':Heap}(h:Fr K w L w' L' H)(hs:∀ p∈H',p∈H):Fr K w L w' L' H':=
 ⟨h.os,h.tape,h.output,h.ext,h.block,h.oh,λp hp=>h.Vv p (hs p hp)⟩
theorem Wy(h:w'.heap[b]? = w.heap[b]?):w'.shape? b=w.shape? b:=by simp only[World.shape?,h]
theorem cell_of_heap(h:w'.heap[b]? = w.heap[b]?)(o:Nat):w'.cell? ⟨b,o,none⟩=w.cell? ⟨b,o,none⟩:=by simp only[World.cell?,h]
theorem wH.xD{o:da}(h:Ext w L w' L')(hb:w'.heap[b]? = w.heap[b]?)(hl:L' b=L b)(r:wH w L b o):wH w' L' b o:=by
 cases o with
 |cells ty cs=>obtain⟨r1,xs,r2,r3⟩:=r;exact⟨hl.trans r1,xs,hb.trans r2,r3.mono h _ _⟩
 |row n=>obtain⟨r1,xs,ty,fr,r2,r3,r4⟩:=r;exact⟨hl.trans r1,xs,ty,fr,hb.trans r2,r3,r4⟩
 |X2 ty cs=>obtain⟨r1,xs,fr,r2,r3,r4⟩:=r;exact⟨hl.trans r1,xs,fr,hb.trans r2,r3,r4.mono h _ _⟩
 |map es ga=>obtain⟨r1,Wb,r2,r3,r4,r5⟩:=r;exact⟨hl.trans r1,Wb,hb.trans r2,r3,r4.mono h _ _,r5⟩
 |obj o=>obtain⟨r1,r2,r3⟩:=r;exact⟨hl.trans r1,hb.trans r2,by rw[Wy hb];exact r3⟩
theorem Ca.perm(h:Ca C w L H)(p:H.Perm H'):Ca C w L H':=
 ⟨h.base,h.ng,h.b0,h.wf,((p.map _).nodup_iff).1 h.nodup,λq hq=>h.Gb q (p.mem_iff.2 hq)⟩
theorem Ca.left(h:Ca C w L (H++F)):Ca C w L H:=
 ⟨h.base,h.ng,h.b0,h.wf,(ct (by simpa using h.nodup)).1,λq hq=>h.Gb q (List.mem_append_left _ hq)⟩
theorem Ca.sub(h:Ca C w L H)(s:H'.Sublist H):Ca C w L H':=
 ⟨h.base,h.ng,h.b0,h.wf,h.nodup.sublist (s.map _),λq hq=>h.Gb q (s.subset hq)⟩
theorem Ca.frame(h:Ca C w L (H++F))(f:Fr (keys H) w L w' L' H')(h':Ca C w' L' H') :
  Ca C w' L' (H'++F)/\Fr (keys (H++F)) w L w' L' (H'++F):=by
 have hn:(keys H++keys F).Nodup:=by simpa [keys] using h.nodup
 have qw:∀ q∈F,q.1 ∉ keys H:=λq hq hm=>(ct hn).2.2 _ hm _ (List.mem_map_of_mem hq) rfl;refine⟨⟨h'.base,h'.ng,h'.b0,h'.wf,?_,λp hp=>?_⟩,⟨f.os,f.tape,f.output,f.ext,λb hb hk=>?_,λb hb hk=>?_,λp hp=>?_⟩⟩;rw[Od];refine List.nodup_append.2 ⟨h'.nodup,(ct hn).2.1,λa ha b hb he=>?_⟩;subst he;obtain⟨p,hp,rfl⟩:=vi ha;obtain⟨q,hq,he⟩:=vi hb;have hqs:=(h.Gb q (List.mem_append_right _ hq)).2.1;rcases f.Vv p hp with h1|h1;exact qw q hq (he▸h1);omega;rcases Kj hp with hp|hp;exact h'.Gb p hp;obtain⟨r1,r2,r3⟩:=h.Gb p (List.mem_append_right _ hp);exact⟨r1,Nat.lt_of_lt_of_le r2 f.ext.size,r3.xD f.ext (f.block _ r2 (qw p hp)) (f.oh _ r2 (qw p hp))⟩;exact f.block b hb (λhm=>hk (by simp only[keys,Od,List.mem_append];exact .inl hm));exact f.oh b hb (λhm=>hk (by simp only[keys,Od,List.mem_append];exact .inl hm));rcases Kj hp with hp|hp;rcases f.Vv p hp with h1|h1;exact .inl (by simp only[keys,Od,List.mem_append];exact .inl h1);exact .inr h1;exact .inl (by simp only[keys,Od,List.mem_append];exact .inr (List.mem_map_of_mem hp))
def Ec(p:Nat×da)(H F:Heap):Prop:=H.Perm (p::F)
theorem pH{p:Nat×da}:Ec p (p::F) F:=List.Perm.refl _
theorem pT{p q:Nat×da}(h:Ec p H F):Ec p (q::H) (q::F):=
 (dm q h).trans (Km p q F)
def HSub(H' H:Heap):Prop:=∃ G,H.Perm (H'++G)
theorem kb(H:Heap):HSub H H:=⟨[],by simp⟩
theorem HSub.nil(H:Heap):HSub [] H:=⟨H,by simp⟩
theorem fe{p:Nat×da}(h:HSub H' H):HSub H' (p::H):=
 let ⟨G,hG⟩:=h
 ⟨p::G,(dm p hG).trans List.perm_middle.symm⟩
theorem Ab{p:Nat×da}(hp:Ec p H F)(h:HSub H' F):HSub (p::H') H:=
 let ⟨G,hG⟩:=h
 ⟨G,List.Perm.trans hp (dm p hG)⟩
theorem Ca.db(h:Ca C w L H)(s:HSub H' H):Ca C w L H':=
 let ⟨_,hG⟩:=s
 (h.perm hG).left
theorem Fr.db(h:Fr K w L w' L' H)(s:HSub H' H):Fr K w L w' L' H':=
 let ⟨_,hG⟩:=s
 h.sub λ_ hp=>hG.mem_iff.2 (List.mem_append_left _ hp)
structure Env where
 s:Nat->LV
 ds:List Deferred
variable{e:Env}
def Env.jd(e:Env)(d:Nat)(v:LV):Env:=⟨λi=>bif Nat.beq i d then v else e.s i,e.ds⟩
def Env.put(e:Env):Option Nat->LV->Env
 |some d,v=>e.jd d v
 |none,_=>e
def Env.ev(e:Env):Operand->LV
 |.tmp t=>e.s t
 |.const v=>.atom v
 |.global g=>.atom (.pointer (some ⟨g,0,none⟩))
 |.func f=>.atom (.func (.func f) #[] #[])
structure Mb(n:Nat)(a:Act)(e:Env)(w:World)(L:Live):Prop where
 size:a.tmps.size=n
 ds:a.defers=e.ds
 Jg:∀ i,Wa w L (e.s i) (a.tmps.getD i undef)
theorem Mb.ev{n:Nat}{a:Act}{e:Env}{w:World}{L:Live}(h:Mb n a e w L):∀ x,Wa w L (e.ev x) (a.eval x):=λx=>by
 cases x with
 |tmp t=>exact h.Jg t
 |const v=>simp only[Env.ev,Wa,Act.eval]
 |global g=>simp only[Env.ev,Wa,Act.eval]
 |func f=>simp only[Env.ev,Wa,Act.eval]
theorem Mb.mono{n:Nat}{a:Act}{e:Env}{w w':World}{L L':Live}(h:Mb n a e w L)(x:Ext w L w' L'):Mb n a e w' L':=
 ⟨h.size,h.ds,λi=>(h.Jg i).mono x _ _⟩
def Nw(n:Nat):Option Nat->Bool
 |some d=>Nat.blt d n
 |none=>true
@[reducible] def Di(n:Nat)(d:Option Nat):Prop:=Nw n d=true
theorem Mb.put{n:Nat}{a:Act}{e:Env}{w:World}{L:Live}(h:Mb n a e w L){dst:Option Nat}{lv:LV}{v:Value}(hd:Di n dst)(hv:Wa w L lv v) :
  Mb n (a.put dst v) (e.put dst lv) w L:=by
 cases dst with
 |none=>exact h
 |some d=>
  refine⟨by simp[Act.put,h.size],h.ds,λi=>?_⟩;simp only[Env.put,Env.jd,Act.put];have hs:=h.size;have hd:d<n:=by simpa [Di,Nw] using hd
  by_cases hi:i=d;subst hi;simp[Array.getD,hs,hd];exact hv;have hb:Nat.beq i d=false:=by
   cases hb:Nat.beq i d with
   |true=>exact absurd (Nat.eq_of_beq_eq_true hb) hi
   |false=>rfl
  rw[hb];have Gs:=h.Jg i;rw[Array.getD_eq_getD_getElem?] at Gs ⊢;rw[Array.getElem?_setIfInBounds,zn (Ne.symm hi)];exact Gs
abbrev Ob:=Exit->Env->Heap->Prop
variable{Q':Ob}
def Pz(n:Nat):Exit->Act->Env->World->Live->Prop
 |.panic _,a,e,_,_=>a.defers=e.ds
 |_,a,e,w,L=>Mb n a e w L
def lift(C:Ctx)(n:Nat)(w:World)(L:Live)(K:List Nat)(Q:Ob):Exit->Act->World->Prop:=
 λx a' w'=>∃ e' H' L',Fr K w L w' L' H'/\Ca C w' L' H'/\Pz n x a' e' w' L'/\Q x e' H'
theorem lQ{Q:Ob}(h:∀ x e H,Q x e H->Q' x e H){x:Exit}{a:Act}
  (k:lift C n w L K Q x a w'):lift C n w L K Q' x a w':=
 let ⟨e',H',L',h1,h2,h3,h4⟩:=k
 ⟨e',H',L',h1,h2,h3,h _ _ _ h4⟩
theorem BF{w1:World}{L1:Live}{Q:Ob}(f:Fr K w L w1 L1 H1){x:Exit}{a:Act}
  (k:lift C n w1 L1 (keys H1) Q x a w'):lift C n w L K Q x a w':=
 let ⟨e',H',L',h1,h2,h3,h4⟩:=k
 ⟨e',H',L',f.trans h1,h2,h3,h4⟩
def rm(w:World)(L:Live)(H:Heap)(w':World):Prop:=
 (∀ p∈H,w'.heap[p.1]? = w.heap[p.1]?)/\(∀ b i,i<L b->w'.cell? ⟨b,i,none⟩=w.cell? ⟨b,i,none⟩)
def Pure(C:Ctx)(o:Oper)(e:Env)(H:Heap)(lv:LV):Prop:=
 ∀ (ρ:Operand->Value) w L,(∀ x,Wa w L (e.ev x) (ρ x))->Ca C w L H ->
  ∃ v,Wa w L lv v/\∀ w',rm w L H w'->(execOp ρ o).run C.P w'=.ok (.value v) w'
def Left(C:Ctx)(w:World)(L:Live)(H:Heap)(w':World)(v:Value)(K:LV->Heap->Prop):Prop:=
 ∃ lv H' L',Fr (keys H) w L w' L' H'/\Ca C w' L' H'/\Wa w' L' lv v/\K lv H'
def an(C:Ctx)(w:World)(L:Live)(H:Heap)(w':World)(X:Heap->Prop):Prop:=
 ∃ H' L',Fr (keys H) w L w' L' H'/\Ca C w' L' H'/\X H'
def js(C:Ctx)(w:World)(L:Live)(H:Heap)(K:LV->Heap->Prop)(X:List PanicEntry->Heap->Prop):Ending->World->Prop
 |.returned v,w'=>Left C w L H w' v K
 |.panicked ch,w'=>an C w L H w' (X ch)
 |.outgrown,_=>False
def Py(C:Ctx)(w:World)(L:Live)(H:Heap)(K:LV->Heap->Prop)(X:List PanicEntry->Heap->Prop):Result Next->Prop
 |.ok (.value v) w'=>Left C w L H w' v K
 |.ok .skip w'=>Left C w L H w' undef K
 |.ok (.enter f args) w'=>w'=w/\Calls C.P f args w (js C w L H K X)
 |.halt (.panic v) w'=>an C w L H w' (X [{ v,recovered:=false }])
 |_=>False
def Ja(C:Ctx)(o:Oper)(e:Env)(H:Heap)(K:LV->Heap->Prop)(X:List PanicEntry->Heap->Prop):Prop:=
 ∀ (ρ:Operand->Value) w L,(∀ x,Wa w L (e.ev x) (ρ x))->Ca C w L H->Py C w L H K X ((execOp ρ o).run C.P w)
def ea(C:Ctx)(n:Nat)(xa:Array Oper)(Q:Ob)(rest:List Oper)(e:Env)(H:Heap):Prop:=
 ∀ a w L,Mb n a e w L->Ca C w L H->wpList C.P xa (lift C n w L (keys H) Q) rest a w
def Ga(C:Ctx)(n:Nat)(c:Code)(Q:Ob)(e:Env)(H:Heap):Prop:=
 ∀ a w L,Mb n a e w L->Ca C w L H->c.wp C.P (lift C n w L (keys H) Q) a w
inductive Lc where
 |ret (v:LV)
 |panic (ch:List PanicEntry)
def aa(C:Ctx)(f:FuncId)(args:List LV)(H:Heap)(R:Lc->Heap->Prop):Prop:=
 ∀ (vs:List Value) w L,na w L args vs->Ca C w L H ->
  Calls C.P f vs.toArray w (js C w L H (λv=>R (.ret v)) λch=>R (.panic ch))
theorem Left.mono{H:Heap}{K K':LV->Heap->Prop}(h:Left C w L H w' v K)(hk:∀ lv H,K lv H->K' lv H):Left C w L H w' v K':=
 let ⟨lv,H',L',h1,h2,h3,h4⟩:=h
 ⟨lv,H',L',h1,h2,h3,hk _ _ h4⟩
theorem an.mono{H:Heap}{X X':Heap->Prop}(h:an C w L H w' X)(hk:∀ H,X H->X' H):an C w L H w' X':=
 let ⟨H',L',h1,h2,h3⟩:=h
 ⟨H',L',h1,h2,hk _ h3⟩
theorem js.mono{C:Ctx}{w:World}{L:Live}{H:Heap}{K K':LV->Heap->Prop}{X X':List PanicEntry->Heap->Prop}(hk:∀ lv H,K lv H->K' lv H)(hx:∀ ch H,X ch H->X' ch H)
  (e:Ending) (w':World) (h:js C w L H K X e w'):js C w L H K' X' e w':=by
 cases e with
 |returned v=>exact Left.mono h hk
 |panicked ch=>exact an.mono h (hx ch)
 |outgrown=>exact h
theorem aa.mono{C:Ctx}{f:FuncId}{args:List LV}{H:Heap}{R R':Lc->Heap->Prop}(h:aa C f args H R)(hr:∀ r H,R r H->R' r H):aa C f args H R':=
 λvs w L h1 h2=>(h vs w L h1 h2).mono (js.mono (λ_ _=>hr _ _) λ_ _=>hr _ _)
theorem Left.frame{C:Ctx}{w:World}{L:Live}{H F:Heap}{w':World}{v:Value}{K:LV->Heap->Prop}(hH:Ca C w L (H++F))(h:Left C w L H w' v λlv H'=>K lv (H'++F)) :
  Left C w L (H++F) w' v K:=
 let ⟨lv,H',L',h1,h2,h3,h4⟩:=h
 let f:=hH.frame h1 h2
 ⟨lv,H'++F,L',f.2,f.1,h3,h4⟩
theorem an.frame{C:Ctx}{w:World}{L:Live}{H F:Heap}{w':World}{X:Heap->Prop}(hH:Ca C w L (H++F))(h:an C w L H w' λH'=>X (H'++F)) :
  an C w L (H++F) w' X:=
 let ⟨H',L',h1,h2,h3⟩:=h
 let f:=hH.frame h1 h2
 ⟨H'++F,L',f.2,f.1,h3⟩
theorem Fr.perm{H2:Heap}(p:H1.Perm H2)(h:Fr (keys H1) w L w' L' H'):Fr (keys H2) w L w' L' H':=by have hm:∀ b,b∈keys H1 ↔ b∈keys H2:=λb=>(p.map _).mem_iff;exact⟨h.os,h.tape,h.output,h.ext,λb hb hn=>h.block b hb λk=>hn ((hm b).1 k),λb hb hn=>h.oh b hb λk=>hn ((hm b).1 k),λq hq=>(h.Vv q hq).imp (hm _).1 id⟩
theorem Py.frame{C:Ctx}{w:World}{L:Live}{H F G:Heap}{K:LV->Heap->Prop}{X:List PanicEntry->Heap->Prop}(p:G.Perm (H++F))(hH:Ca C w L G){r:Result Next}
  (h:Py C w L H (λlv H'=>K lv (H'++F)) (λch H'=>X ch (H'++F)) r):Py C w L G K X r:=by
 have Fx:=hH.perm p;have lf:∀ {w' v},Left C w L H w' v (λlv H'=>K lv (H'++F))->Left C w L G w' v K:=λh=>by obtain⟨lv,H',L',h1,h2,h3,h4⟩:=Left.frame Fx h;exact⟨lv,H',L',h1.perm p.symm,h2,h3,h4⟩
 have lx:∀ {w' ch},an C w L H w' (λH'=>X ch (H'++F))->an C w L G w' (X ch):=λh=>by obtain⟨H',L',h1,h2,h3⟩:=an.frame Fx h;exact⟨H',L',h1.perm p.symm,h2,h3⟩
 unfold Py at h ⊢;split at h;exact lf h;exact lf h;refine⟨h.1,h.2.mono λe w' he=>?_⟩
 cases e with
 |returned v=>exact lf he
 |panicked ch=>exact lx he
 |outgrown=>exact he
 exact lx h;exact h.elim
theorem Ja.frame{C:Ctx}{o:Oper}{e:Env}{G H F:Heap}{K:LV->Heap->Prop}{X:List PanicEntry->Heap->Prop}(p:G.Perm (H++F))
  (h:Ja C o e H (λlv H'=>K lv (H'++F)) λch H'=>X ch (H'++F)):Ja C o e G K X:=
 λρ w L h1 h2=>Py.frame p h2 (h ρ w L h1 (h2.perm p).left)
theorem Pure.step{o:Oper}{K:LV->Heap->Prop}{X:List PanicEntry->Heap->Prop}(h:Pure C o e H lv)(k:K lv H):Ja C o e H K X:=λρ w L h1 h2=>by obtain⟨v,hv,hr⟩:=h ρ w L h1 h2;rw[hr w ⟨λ_ _=>rfl,λ_ _ _=>rfl⟩];exact⟨lv,H,L,Fr.refl _ _ _,h2,hv,k⟩
theorem Kt{P:Program}{xa:Array Oper}{Q Q':Exit->Act->World->Prop}(h:∀ e a w,Q e a w->Q' e a w):∀ (l:List Oper) (a:Act) (w:World),wpList P xa Q l a w->wpList P xa Q' l a w
 |[],_,_,k=>h _ _ _ k
 |o::l,a,w,k=>by
  unfold wpList at k ⊢;split at k;rename_i hw;rw[zp hw];rcases k with k|⟨k1,a0,w0,k2⟩;refine .inl ?_;unfold Oper.wp at k ⊢;generalize (execOp a.eval o).run P w=r at k ⊢;cases r with
  |ok x w'=>
   cases x <;> simp only[Oper.upon] at k ⊢ <;> first
    |exact Kt h l _ _ k
    |(refine Calls.mono k λe VG he=>?_;cases e with
      |returned v=>exact Kt h l _ _ he
      |panicked ch=>exact h _ _ _ he
      |outgrown=>obtain⟨a0,w0,he⟩:=he;exact⟨a0,w0,h _ _ _ he⟩)
    |exact Rows.mono k λ_ _ he=>Kt h l _ _ he
  |halt x w'=>cases x <;> simp only[Oper.upon] at k ⊢ <;> exact h _ _ _ k
  exact .inr ⟨k1,a0,w0,h _ _ _ k2⟩;rename_i hw;rw[zn hw];exact Kt h l _ _ k
theorem EV{o:Oper}{K:LV->Heap->Prop}{X:List PanicEntry->Heap->Prop}(h:Ja C o e H K X)(hd:Di n o.dst)
  {a:Act} {w:World} {L:Live} (hE:Mb n a e w L) (hH:Ca C w L H) {K':Act->World->Prop} {Q':Exit->Act->World->Prop}
  (hK:∀ lv H' L' w' a',Fr (keys H) w L w' L' H'->Ca C w' L' H'->Mb n a' (e.put o.dst lv) w' L'->K lv H'->K' a' w')
  (hX:∀ ch H' L' w',Fr (keys H) w L w' L' H'->Ca C w' L' H'->X ch H'->Q' (.panic ch) a w'):o.wp C.P a w K' Q':=by
 have hs:=h a.eval w L hE.ev hH;unfold Oper.wp;have left:∀ {w' v},Left C w L H w' v K->K' (a.put o.dst v) w':=λh=>by obtain⟨lv,H',L',h1,h2,h3,h4⟩:=h;exact hK lv H' L' _ _ h1 h2 ((hE.mono h1.ext).put hd h3) h4
 have ap:∀ {w' ch},an C w L H w' (X ch)->Q' (.panic ch) a w':=λh=>by obtain⟨H',L',h1,h2,h3⟩:=h;exact hX _ H' L' _ h1 h2 h3
 generalize (execOp a.eval o).run C.P w=r at hs ⊢;unfold Py at hs;split at hs;exact left hs;exact left hs;obtain⟨rfl,hs⟩:=hs;refine Calls.mono hs λe w' he=>?_
 cases e with
 |returned v=>exact left he
 |panicked ch=>exact ap he
 |outgrown=>exact he.elim
 exact ap hs;exact hs.elim
section xa
variable{C:Ctx}{n:Nat}{xa:Array Oper}{Q:Ob}{e:Env}{H:Heap}
theorem ea.nil(h:Q .normal e H):ea C n xa Q [] e H:=λ_ _ L hE hH=>⟨e,H,L,Fr.refl _ _ _,hH,hE,h⟩
theorem oS{op:Op}
  (h:Ja C ⟨dst,op,ty,la,ma,none⟩ e H (λlv H'=>ea C n xa Q rest (e.put dst lv) H') λch H'=>∀ e',e'.ds=e.ds->Q (.panic ch) e' H')
  (hd:Di n dst:=by rfl):ea C n xa Q (⟨dst,op,ty,la,ma,none⟩::rest) e H:=λa w L hE hH=>by
 unfold wpList;rw[zp (by simp[Region.wanted])];refine .inl (EV h hd hE hH (λlv H' L' w' a' h1 h2 h3 h4=>?_) λch H' L' w' h1 h2 h3=>?_);exact Kt (λ_ _ _=>BF h1) _ _ _ (h4 a' w' L' h3 h2);exact⟨e,H',L',h1,h2,hE.ds,h3 e rfl⟩
theorem oP{op:Op}
  (h:Pure C ⟨dst,op,ty,la,ma,none⟩ e H lv) (hd:Di n dst) (k:ea C n xa Q rest (e.put dst lv) H):ea C n xa Q (⟨dst,op,ty,la,ma,none⟩::rest) e H:=
 oS (h.step k) hd
theorem ca{op:Op}(h:Pure C ⟨dst,op,ty,la,ma,none⟩ e H lv)(k:ea C n xa Q rest (e.put dst lv) H)(hd:Di n dst:=by rfl):ea C n xa Q (⟨dst,op,ty,la,ma,none⟩::rest) e H:=oP h hd k
theorem UC{a:Act}(hE:Mb n a e w L){b:Bool}(hj:(xa[j]?).bind (·.dst)=some d)(hb:e.s d=.atom (.bool b)):yielded xa a.tmps j=some b:=by
 have h:=hE.Jg d;rw[hb] at h;simp only[Wa] at h;unfold yielded;rw[hj];simp only[Option.bind_some];rw[Array.getD_eq_getD_getElem?] at h;cases hx:a.tmps[d]? with
 |none=>rw[hx] at h;simp[undef] at h
 |some x=>rw[hx] at h;simp only[Option.getD_some] at h;subst h;rfl
theorem ea.want{op:Op}{b:Bool}
  (hj:(xa[j]?).bind (·.dst)=some d) (hb:e.s d=.atom (.bool b))
  (k:ea C n xa Q (⟨dst,op,ty,la,ma,none⟩::rest) e H):ea C n xa Q (⟨dst,op,ty,la,ma,some (j,b)⟩::rest) e H:=λa w L hE hH=>by
 have:=k a w L hE hH;unfold wpList at this ⊢;rw[zp (by simp[Region.wanted])] at this;rw[zp (by simp[Region.wanted,UC hE hj hb])];exact this
theorem ea.skip{op:Op}{b c:Bool}
  (hj:(xa[j]?).bind (·.dst)=some d) (hb:e.s d=.atom (.bool b)) (eb:b=!c) (hd:Di n dst)
  (k:ea C n xa Q rest (e.put dst (.atom undef)) H):ea C n xa Q (⟨dst,op,ty,la,ma,some (j,c)⟩::rest) e H:=λa w L hE hH=>by
 unfold wpList;rw[zn (by subst eb;cases c <;> simp[Region.wanted,UC hE hj hb])];exact k _ w L (hE.put hd (by simp only[Wa])) hH
theorem ea.qc(h:ea C n xa Q rest e H)(hq:∀ x e H,Q x e H->Q' x e H):ea C n xa Q' rest e H:=
 λa w L hE hH=>Kt (λ_ _ _=>lQ hq) _ _ _ (h a w L hE hH)
end xa
section code
variable{C:Ctx}{n:Nat}{Q:Ob}{e:Env}{H:Heap}
def Bc(k:Env->Heap->Prop)(Q:Ob):Ob
 |.normal,e,H=>k e H
 |x,e,H=>Q x e H
def Tc(id:Nat)(Q:Ob):Ob
 |.exit XA,e,H=>if XA=id then Q .normal e H else Q (.exit XA) e H
 |x,e,H=>Q x e H
theorem Ga.qc(h:Ga C n c Q e H)(hq:∀ x e H,Q x e H->Q' x e H):Ga C n c Q' e H:=
 λa w L hE hH=>Go.wp_mono (h a w L hE hH) λ_ _ _=>lQ hq
theorem Ga.seq{x y:Code}(h:Ga C n x (Bc (λe H=>Ga C n y Q e H) Q) e H):Ga C n (.seq x y) Q e H:=λa w L hE hH=>by
 refine wp_seq (Go.wp_mono (h a w L hE hH) λex a' w' hq=>?_);obtain⟨e',H',L',h1,h2,h3,h4⟩:=hq
 cases ex with
 |normal=>exact Go.wp_mono (h4 a' w' L' h3 h2) λ_ _ _=>BF h1
 |exit id=>exact⟨e',H',L',h1,h2,h3,h4⟩
 |goto id=>exact⟨e',H',L',h1,h2,h3,h4⟩
 |ret=>exact⟨e',H',L',h1,h2,h3,h4⟩
 |panic ch=>exact⟨e',H',L',h1,h2,h3,h4⟩
 |outgrown=>exact⟨e',H',L',h1,h2,h3,h4⟩
theorem Ga.block{id:Nat}{c:Code}(h:Ga C n c (Tc id Q) e H):Ga C n (.block id c) Q e H:=λa w L hE hH=>by
 refine wp_block (Go.wp_mono (h a w L hE hH) λex a' w' hq=>?_);obtain⟨e',H',L',h1,h2,h3,h4⟩:=hq
 cases ex with
 |exit XA=>simp only[Exit.inBlock,Tc] at h4 ⊢;split;rename_i hid;rw[zp hid] at h4;exact⟨e',H',L',h1,h2,h3,h4⟩;rename_i hid;rw[zn hid] at h4;exact⟨e',H',L',h1,h2,h3,h4⟩
 |normal=>exact⟨e',H',L',h1,h2,h3,h4⟩
 |goto id=>exact⟨e',H',L',h1,h2,h3,h4⟩
 |ret=>exact⟨e',H',L',h1,h2,h3,h4⟩
 |panic ch=>exact⟨e',H',L',h1,h2,h3,h4⟩
 |outgrown=>exact⟨e',H',L',h1,h2,h3,h4⟩
theorem Ga.skip(h:Q .normal e H):Ga C n .skip Q e H:=λ_ _ L hE hH=>wp_skip ⟨e,H,L,Fr.refl _ _ _,hH,hE,h⟩
theorem Ga.exit{id:Nat}(h:Q (.exit id) e H):Ga C n (.exit id) Q e H:=λ_ _ L hE hH=>wp_exit ⟨e,H,L,Fr.refl _ _ _,hH,hE,h⟩
theorem Ga.ret(h:Q .ret e H):Ga C n .ret Q e H:=λ_ _ L hE hH=>wp_ret ⟨e,H,L,Fr.refl _ _ _,hH,hE,h⟩
theorem oC{c:Operand}{x y:Code}{t:Bool}(hc:e.ev c=.atom (.bool t))(ht:t=true->Ga C n x Q e H)(hf:t=false->Ga C n y Q e H):Ga C n (.cond c x y) Q e H:=
 λa w L hE hH=>by have hv:=hE.ev c;rw[hc] at hv;simp only[Wa] at hv;exact wp_cond_split hv (λh=>ht h a w L hE hH) λh=>hf h a w L hE hH
theorem sa{c:Operand}{x y:Code}{t:Bool}(ht:t=true->Ga C n x Q e H)(hf:t=false->Ga C n y Q e H)(hc:e.ev c=.atom (.bool t):=by rfl):Ga C n (.cond c x y) Q e H:=oC hc ht hf
theorem Ga.region{id:Nat}{l:List Oper}(h:ea C n l.toArray Q l e H):Ga C n (.region id l.toArray false) Q e H:=λa w L hE hH=>wp_region_lit (h a w L hE hH)
theorem hZ{P:Program}{Q:Exit->Act->World->Prop}(I:Nat->Act->World->Prop)
  (round:∀ n a w,I n a w->c.wp P (Exit.then (λa' w'=>∃ m,m<n/\I m a' w') Q) a w) {n:Nat} {a:Act} {w:World} (h₀:I n a w):(Code.loop c).wp P Q a w:=by
 intro b k cs;have key:∀ n a w,I n a w ->
   ∃ e a' w',Q e a' w'/\Arrives P (lone (b.at a (.code c::.inLoop c::k)) cs w) b k cs e a' w':=by
  intro n;induction n using Nat.strongRecOn with
  |_ n ih=>
   intro a w hI;obtain⟨e,a₁,w₁,hq,Gp⟩:=round n a w hI b (.inLoop c::k) cs;cases e with
   |normal=>obtain⟨m,wa,hI₁⟩:=hq;obtain⟨e₂,a₂,w₂,hq₂,RJ⟩:=ih m wa a₁ w₁ hI₁;exact⟨e₂,a₂,w₂,hq₂,.of_steps (Steps.trans Gp (.one step_inLoop)) RJ⟩
   |exit id=>exact⟨_,a₁,w₁,hq,.pass (x:=.inLoop c) rfl (λ_ _=>.inl (by simp)) Gp⟩
   |goto l=>exact⟨_,a₁,w₁,hq,.pass (x:=.inLoop c) rfl (λ_ _=>.inl (by simp)) Gp⟩
   |ret=>exact⟨_,a₁,w₁,hq,.pass (x:=.inLoop c) rfl (λ_ _=>.inl (by simp)) Gp⟩
   |panic ch=>exact⟨_,a₁,w₁,hq,.pass (x:=.inLoop c) rfl (λ_ _=>.inl (by simp)) Gp⟩
   |outgrown=>exact⟨_,a₁,w₁,hq,.pass (x:=.inLoop c) rfl (λ_ _=>.inl (by simp)) Gp⟩
 obtain⟨e,a',w',hq,Gp⟩:=key n a w h₀;exact⟨e,a',w',hq,.of_steps (.one step_loop) Gp⟩
theorem Ga.loop{c:Code}(I:Nat->Env->Heap->Prop)(k:Nat)(h0:I k e H)
  (round:∀ k e H,I k e H->Ga C n c (Bc (λe' H'=>∃ m,m<k/\I m e' H') Q) e H):Ga C n (.loop c) Q e H:=λa w L hE hH=>by
 refine hZ (I:=λk a' w'=>∃ e' H' L',Fr (keys H) w L w' L' H'/\Ca C w' L' H'/\Mb n a' e' w' L'/\I k e' H') (n:=k) ?_ ⟨e,H,L,Fr.refl _ _ _,hH,hE,h0⟩;rintro k a1 w1 ⟨e1,H1,L1,h1,h2,h3,h4⟩;refine Go.wp_mono (round k e1 H1 h4 a1 w1 L1 h3 h2) λex a' w' hq=>?_;obtain⟨e',H',L',g1,g2,g3,g4⟩:=hq
 cases ex with
 |normal=>obtain⟨m,hm,g4⟩:=g4;exact⟨m,hm,e',H',L',h1.trans g1,g2,g3,g4⟩
 |exit id=>exact⟨e',H',L',h1.trans g1,g2,g3,g4⟩
 |goto id=>exact⟨e',H',L',h1.trans g1,g2,g3,g4⟩
 |ret=>exact⟨e',H',L',h1.trans g1,g2,g3,g4⟩
 |panic ch=>exact⟨e',H',L',h1.trans g1,g2,g3,g4⟩
 |outgrown=>exact⟨e',H',L',h1.trans g1,g2,g3,g4⟩
def Env.kh(j:Env):List (Nat×LV)->Env
 |[]=>j
 |(d,v)::r=>(Env.kh j r).jd d v
theorem Env.tf{v:LV}(h:e.s d=v):e.jd d v=e:=by
 obtain⟨s,ds⟩:=e;simp only[Env.jd,Env.mk.injEq,and_true];funext i;cases hb:Nat.beq i d with
 |false=>rfl
 |true=>have:=Nat.eq_of_beq_eq_true hb;subst this;exact h.symm
theorem Env.wc{e:Env}:∀ {l:List (Nat×LV)},(∀ p∈l,e.s p.1=p.2)->Env.kh e l=e
 |[],_=>rfl
 |(d,v)::r,h=>by simp only[Env.kh];rw[Env.wc (l:=r) (λp hp=>h p (Sc _ hp))];exact Env.tf (h (d,v) List.mem_cons_self)
end code
section bK
variable{C:Ctx}{n:Nat}{Q:Ob}{e:Env}{H:Heap}{k:Env->Heap->Prop}{id XA:Nat}
theorem qN(h:k e H):Bc k Q .normal e H:=h
theorem Bc.exit(h:Q (.exit id) e H):Bc k Q (.exit id) e H:=h
theorem Bc.ret(h:Q .ret e H):Bc k Q .ret e H:=h
theorem Bc.panic{ch:List PanicEntry}(h:Q (.panic ch) e H):Bc k Q (.panic ch) e H:=h
theorem Tc.hit(h:Q .normal e H):Tc id Q (.exit id) e H:=by simp only[Tc,if_true];exact h
theorem Tc.FI(hn:XA≠id)(h:Q (.exit XA) e H):Tc id Q (.exit XA) e H:=by simp only[Tc,zn hn];exact h
theorem Tc.normal(h:Q .normal e H):Tc id Q .normal e H:=h
theorem Tc.ret(h:Q .ret e H):Tc id Q .ret e H:=h
theorem Tc.panic{ch:List PanicEntry}(h:Q (.panic ch) e H):Tc id Q (.panic ch) e H:=h
theorem oB{xa:Array Oper}(d:Nat){b:Bool}(hb:e.s d=bool b)(ht:b=true->ea C n xa Q rest (e.jd d (bool true)) H)(hf:b=false->ea C n xa Q rest (e.jd d (bool false)) H):ea C n xa Q rest e H:=by cases b;have:=hf rfl;rwa [Env.tf hb] at this;have:=ht rfl;rwa [Env.tf hb] at this
theorem Ga.sub{v v':LV}(hv:e.s d=v)(hs:v.Sub v')(h:Ga C n c Q (e.jd d v') H):Ga C n c Q e H:=λa w L hE hH=>by
 refine h a w L ⟨hE.size,hE.ds,λi=>?_⟩ hH;simp only[Env.jd]
 cases hb:Nat.beq i d with
 |false=>exact hE.Jg i
 |true=>have hi:=Nat.eq_of_beq_eq_true hb;subst hi;have:=hE.Jg i;rw[hv] at this;exact hs _ _ _ this
theorem ea.sub{xa:Array Oper}(d:Nat){v v':LV}(hv:e.s d=v)(hs:v.Sub v')(h:ea C n xa Q rest (e.jd d v') H):ea C n xa Q rest e H:=λa w L hE hH=>by
 refine h a w L ⟨hE.size,hE.ds,λi=>?_⟩ hH;simp only[Env.jd]
 cases hb:Nat.beq i d with
 |false=>exact hE.Jg i
 |true=>have hi:=Nat.eq_of_beq_eq_true hb;subst hi;have:=hE.Jg i;rw[hv] at this;exact hs _ _ _ this
theorem tF{K:List Nat}(hK:∀ b∈K,b∈keys H1){x:Exit}{a:Act}(h:lift C n w L K Q x a w'):lift C n w L (keys H1) Q x a w':=
 let ⟨e',H',L',h1,h2,h3,h4⟩:=h
 ⟨e',H',L',⟨h1.os,h1.tape,h1.output,h1.ext,λb hb hn=>h1.block b hb λk=>hn (hK b k),λb hb hn=>h1.oh b hb λk=>hn (hK b k),λp hp=>(h1.Vv p hp).imp (hK _) id⟩,h2,h3,h4⟩
theorem HSub.keys{H' H:Heap}(s:HSub H' H):∀ b∈keys H',b∈GL.keys H:=λb hb=>by obtain⟨p,hp,rfl⟩:=vi hb;obtain⟨G,hG⟩:=s;exact List.mem_map_of_mem (hG.mem_iff.2 (List.mem_append_left _ hp))
theorem cW(s:HSub H' H)(h:Ga C n c Q e H'):Ga C n c Q e H:=λa w L hE hH=>Go.wp_mono (h a w L hE (hH.db s)) λ_ _ _=>tF s.keys
theorem ea.db{xa:Array Oper}{rest:List Oper}{H':Heap}(s:HSub H' H)(h:ea C n xa Q rest e H'):ea C n xa Q rest e H:=λa w L hE hH=>Kt (λ_ _ _=>tF s.keys) _ _ _ (h a w L hE (hH.db s))
theorem Ga.perm(s:H.Perm H')(h:Ga C n c Q e H'):Ga C n c Q e H:=cW ⟨[],by simpa using s⟩ h
end bK
def uj(tmps:Array Value):ResultVar->Sem Value
 |.tmp t=>Pure.pure (tmps.getD t undef)
 |.cell a t=>do loadVar t (<-asAddr (tmps.getD a undef))
def qj(C:Ctx)(n:Nat)(e:Env)(H:Heap)(r:ResultVar)(lv:LV):Prop:=
 ∀ a w L,Mb n a e w L->Ca C w L H->∃ v,(uj a.tmps r).run C.P w=.ok v w/\Wa w L lv v
def Eh(C:Ctx)(n:Nat)(e:Env)(H:Heap):List ResultVar->List LV->Prop
 |[],[]=>True
 |r::rs,v::vs=>qj C n e H r v/\Eh C n e H rs vs
 |_,_=>False
def Ge:List LV->LV
 |[v]=>v
 |vs=>.tuple vs
def oc(C:Ctx)(n:Nat)(rs:List ResultVar)(R:Lc->Heap->Prop):Ob
 |.normal,e,H|.ret,e,H=>e.ds=[]/\∃ vs H',Eh C n e H rs vs/\HSub H' H/\R (.ret (Ge vs)) H'
 |.panic ch,e,H=>e.ds=[]/\∃ H',HSub H' H/\R (.panic ch) H'
 |_,_,_=>False
def Oy(args:List LV):Env:=⟨λi=>(args[i]?).getD (.atom undef),[]⟩
theorem na.length{w:World}{L:Live}:∀ {cs:List LV} {xs:List Value},na w L cs xs->xs.length=cs.length
 |[],xs,h=>by simp only[na] at h;subst h;rfl
 |c::cs,xs,h=>by simp only[na] at h;obtain⟨y,ys,rfl,_,h⟩:=h;simp[na.length h]
theorem na.get{w:World}{L:Live}:∀ {cs:List LV} {xs:List Value},na w L cs xs->∀ {i:Nat} {c:LV},cs[i]? = some c->∃ x,xs[i]? = some x/\Wa w L c x
 |[],_,_,i,c,hc=>by simp at hc
 |c::cs,xs,h,i,c',hc=>by
  simp only[na] at h;obtain⟨y,ys,rfl,h1,h⟩:=h;cases i with
  |zero=>simp at hc;subst hc;exact⟨y,rfl,h1⟩
  |succ i=>simpa using na.get h (i:=i) (by simpa using hc)
theorem Sy{P:Program}{α β:Type}{s:Sem α}{f:α->Sem β}{v:α}(h:s.run P w=.ok v w'):(s >>= f).run P w=(f v).run P w':=by rw[Sb,h];try rfl
theorem iW{P:Program}{fn:Func}(h:fn.results=#[])(tmps:Array Value)(w:World):(results fn tmps).run P w=.ok (.tuple #[]) w:=by simp[results,h]
theorem S7{P:Program}{fn:Func}{r:ResultVar}(h:fn.results=#[r])(h1:(uj tmps r).run P w=.ok v w):(results fn tmps).run P w=.ok v w:=by
 have:results fn tmps=uj tmps r:=by cases r <;> simp[results,h,uj]
 rw[this,h1]
theorem G7{P:Program}{fn:Func}{r s:ResultVar}(h:fn.results=#[r,s]){u:Value}(h1:(uj tmps r).run P w=.ok v w)(h2:(uj tmps s).run P w=.ok u w) :
  (results fn tmps).run P w=.ok (.tuple #[v,u]) w:=by
 have:results fn tmps=(do let v <-uj tmps r;let u <-uj tmps s;Pure.pure (.tuple #[v,u])):=by cases r <;> cases s <;> simp[results,h,uj]
 rw[this,Sy h1,Sy h2];try rfl
theorem y9{P:Program}{fn:Func}{r s t:ResultVar}(h:fn.results=#[r,s,t]){u x:Value}(h1:(uj tmps r).run P w=.ok v w)(h2:(uj tmps s).run P w=.ok u w)(h3:(uj tmps t).run P w=.ok x w) :
  (results fn tmps).run P w=.ok (.tuple #[v,u,x]) w:=by
 have:results fn tmps=(do let v <-uj tmps r;let u <-uj tmps s;let x <-uj tmps t;Pure.pure (.tuple #[v,u,x])):=by cases r <;> cases s <;> cases t <;> simp[results,h,uj]
 rw[this,Sy h1,Sy h2,Sy h3];try rfl
theorem tI{fn:Func}{a:Act}(hE:Mb n a e w L)(hH:Ca C w L H){vs:List LV}
  (h:Eh C n e H fn.results.toList vs) (h3:fn.results.size<=3):∃ v,(results fn a.tmps).run C.P w=.ok v w/\Wa w L (Ge vs) v:=by
 obtain⟨rs,rk⟩:∃ rs,fn.results=List.toArray rs:=⟨fn.results.toList,by simp⟩;rw[rk] at h h3;simp only[List.size_toArray] at h h3;match rs,vs,h,h3,rk with
 |[],[],_,_,rk=>exact⟨_,iW rk _ _,by simp only[Ge,Wa];exact⟨[],rfl,by simp only[na]⟩⟩
 |[r],[x],h,_,rk=>obtain⟨v,hv,hr⟩:=h.1 a w L hE hH;exact⟨v,S7 rk hv,hr⟩
 |[r,s],[x,y],h,_,rk=>obtain⟨v,hv,hr⟩:=h.1 a w L hE hH;obtain⟨u,hu,hs⟩:=h.2.1 a w L hE hH;exact⟨_,G7 rk hv hu,by simp only[Ge,Wa];exact⟨[v,u],rfl,by simp only[na];exact⟨v,_,rfl,hr,u,_,rfl,hs,rfl⟩⟩⟩
 |[r,s,t],[x,y,z],h,_,rk=>obtain⟨v,hv,hr⟩:=h.1 a w L hE hH;obtain⟨u,hu,hs⟩:=h.2.1 a w L hE hH;obtain⟨q,hq,ht⟩:=h.2.2.1 a w L hE hH;exact⟨_,y9 rk hv hu hq,by simp only[Ge,Wa];exact⟨[v,u,q],rfl,by simp only[na];exact⟨v,_,rfl,hr,u,_,rfl,hs,q,_,rfl,ht,rfl⟩⟩⟩
 |_::_::_::_::_,_,_,h3,_=>simp at h3
 |[],_::_,h,_,_=>exact h.elim
 |[_],[],h,_,_=>exact h.elim
 |[_],_::_::_,h,_,_=>exact h.2.elim
 |[_,_],[],h,_,_=>exact h.elim
 |[_,_],[_],h,_,_=>exact h.2.elim
 |[_,_],_::_::_::_,h,_,_=>exact h.2.2.elim
 |[_,_,_],[],h,_,_=>exact h.elim
 |[_,_,_],[_],h,_,_=>exact h.2.elim
 |[_,_,_],[_,_],h,_,_=>exact h.2.2.elim
 |[_,_,_],_::_::_::_::_,h,_,_=>exact h.2.2.2.elim
theorem cI{f:FuncId}{fn:Func}{args:List LV}{R:Lc->Heap->Prop}(hf:C.P.funcs[f]? = some fn)(hb:fn.body=some c)(hn:fn.ntmps=n)(h3:Nat.ble fn.results.size 3=true)
  (hl:Nat.ble args.length n=true) (h:Ga C n c (oc C n fn.results.toList R) (Oy args) H):aa C f args H R:=λvs w L hv hH=>by
 subst hn;have Wt:args.length<=fn.ntmps:=by simpa using hl
 have Pk:fn.results.size<=3:=by simpa using h3
 have fa:=hv.length;refine calls_of_wp hf hb (Go.wp_mono (h _ w L ⟨?_,rfl,λi=>?_⟩ hH) λex a' w' hq=>?_)
 simp;omega;exact IE;obtain⟨e',H',L',g1,g2,g3,g4⟩:=hq;have ret:Mb fn.ntmps a' e' w' L'->(e'.ds=[]/\∃ vs se,Eh C fn.ntmps e' H' fn.results.toList vs/\HSub se H'/\R (.ret (Ge vs)) se) ->
   a'.defers=[]/\∃ v,(results fn a'.tmps).run C.P w'=.ok v w'/\js C w L H (λv=>R (.ret v)) (λch=>R (.panic ch)) (.returned v) w':=λhE hr=>by
  obtain⟨h1,Uw,se,h2,h4,h5⟩:=hr;obtain⟨v,r1,r2⟩:=tI hE g2 h2 Pk;exact⟨hE.ds.trans h1,v,r1,Ge Uw,se,L',g1.db h4,g2.db h4,r2,h5⟩
 cases ex with
 |normal=>exact ret g3 g4
 |ret=>exact ret g3 g4
 |panic ch=>obtain⟨h1,se,h4,h5⟩:=g4;exact⟨g3.trans h1,se,L',g1.db h4,g2.db h4,h5⟩
 |exit id=>exact g4.elim
 |goto id=>exact g4.elim
 |outgrown=>exact g4.elim
theorem rT{t:Nat}{v:LV}(hv:e.s t=v)(h:v.Sub lv):qj C n e H (.tmp t) lv:=λa w L hE _=>by have:=hE.Jg t;rw[hv] at this;exact⟨_,rfl,h _ _ _ this⟩
end Go.GL
