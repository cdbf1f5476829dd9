/- Texts joined: GlBase. -/
import Derived.Below
import Derived.OrdersHeld
import Derived.Deep.Quiet
set_option linter.unusedVariables false
set_option linter.unusedSimpArgs false
set_option maxRecDepth 100000
set_option maxHeartbeats 4000000
theorem zLa {α : Type _} {a b : List α} : (a ++ b).length = a.length + b.length := List.length_append
theorem zLc {α : Type _} {a : α} {l : List α} : (a :: l).length = l.length + 1 := rfl
theorem zLn {α : Type _} : ([] : List α).length = 0 := rfl
theorem zLm {α β : Type _} {l : List α} (f : α -> β) : (l.map f).length = l.length := List.length_map f
theorem zLz {α : Type _} (l : List α) : l ++ [] = l := List.append_nil l
theorem zAs {α : Type _} (a b c : List α) : a ++ b ++ c = a ++ (b ++ c) := List.append_assoc a b c
theorem zMs {α : Type _} {a : α} {l : List α} : a ∈ a :: l := List.mem_cons_self ..
theorem zMo {α : Type _} (b : α) {a : α} {l : List α} (h : a ∈ l) : a ∈ b :: l := List.mem_cons_of_mem b h
theorem zMi {α : Type _} {a b : α} {l : List α} : a ∈ b :: l ↔ a = b ∨ a ∈ l := List.mem_cons
theorem zPf {α : Type _} (l : List α) : l <+: l := List.prefix_refl l
theorem zMa {α β : Type _} {f : α -> β} {l₁ l₂ : List α} : (l₁ ++ l₂).map f = l₁.map f ++ l₂.map f := List.map_append
theorem zMc {α β : Type _} {f : α -> β} {a : α} {l : List α} : (a :: l).map f = f a :: l.map f := rfl
theorem zPc {α : Type _} {l₁ l₂ : List α} : (l₁ ++ l₂).Perm (l₂ ++ l₁) := List.perm_append_comm
theorem zDe {p : Prop} [Decidable p] : (decide p = true) = p := decide_eq_true_eq
theorem zBa (a b : Bool) : ((a && b) = true) = (a = true /\ b = true) := Bool.and_eq_true a b
theorem zNr (n : Nat) : n <= n := Nat.le_refl n
theorem zNt {a b c : Nat} (h : a <= b) (k : b <= c) : a <= c := Nat.le_trans h k
theorem zCs {α : Type _} {a b : α} (h : a = b := by kernel_rfl) : some a = some b := congrArg some h
theorem zDd {P : Prop} (h : P := by decide) : P := h
theorem zQ0 {P Q:Prop} (h:Q) (t:(Unit->Q)->P:=by intro h;(refine zl1 (i:=16) zk ?_;refine lS (H1:=[]) rfl (.inl rfl) rfl zpr ⟨_,List.Perm.refl _⟩ (sF [_,_,_] rfl p16 ?_);refine zl1 (i:=18) zk ?_;refine lS (H1:=[]) rfl (.inl rfl) rfl zpr ⟨_,List.Perm.refl _⟩ (sF [_,_] rfl p18 ?_);refine zl1 (i:=19) zk ?_;refine lS (H1:=[zR b6]) (F:=[cR b3 vars arrays fs sc ars own,tR b4 ws n,exR b5 op num name [x,y]]) rfl (.inl rfl) rfl (zPc (l₁:=[cR b3 vars arrays fs sc ars own,tR b4 ws n,exR b5 op num name [x,y]]) (l₂:=[_])) zhr (sS (cs':=[_,_]) rfl pH rfl rfl rfl rfl rfl ?_);refine lD zk ?_;refine qN ?_);exact h ()):P:=t fun _=>h
theorem zQ1 {P Q:Prop} (h:Q) (t:(Unit->Q)->P:=by intro h;(refine zl1 (i:=18) zk ?_;refine lS (H1:=[]) rfl (.inl rfl) rfl zpr ⟨_,List.Perm.refl _⟩ (sF [_,_,_] rfl p18 ?_);refine zl1 (i:=24) zk ?_;refine lS (H1:=[]) rfl (.inl rfl) rfl zpr ⟨_,List.Perm.refl _⟩ (sF [_,_] rfl p24 ?_);refine zl1 (i:=25) zk ?_;refine lS (H1:=[zR b6]) (F:=[cR b3 vars arrays fs sc ars own,tR b4 ws (n+2),sR b5 4 name index [x] thn els]) rfl (.inl rfl) rfl (zPc (l₁:=[cR b3 vars arrays fs sc ars own,tR b4 ws (n+2),sR b5 4 name index [x] thn els]) (l₂:=[_])) zhr (sS (cs':=[_,_]) rfl pH rfl rfl rfl rfl rfl ?_);refine lD zk ?_;refine qN ?_);exact h ()):P:=t fun _=>h
theorem zQ2 {P Q:Prop} (h:Q) (t:(Unit->Q)->P:=by intro h;(refine lS (H1:=[]) rfl (.inl rfl) rfl zpr ⟨_,List.Perm.refl _⟩ (sL [_,_] rfl (qaC [_,_]) rfl rfl rfl ?_));exact h ()):P:=t fun _=>h
theorem zQ3 {P Q:Prop} (h:Q) (t:(Unit->Q)->P:=by intro h;(refine zl1 (i:=14) zk ?_;refine lS (H1:=[]) rfl (.inl rfl) rfl zpr ⟨_,List.Perm.refl _⟩ (sF [_,_,_] rfl p14 ?_);refine zl1 (i:=20) zk ?_;refine lS (H1:=[]) rfl (.inl rfl) rfl zpr ⟨_,List.Perm.refl _⟩ (sF [_,_] rfl p20 ?_);refine zl1 (i:=21) zk ?_;refine lS (H1:=[tR b4 ws (n+2)]) (F:=[cR b3 vars arrays fs sc ars own,sR b5 3 name index [x] thn els,zR b6]) rfl (.inl rfl) rfl zp2 ⟨_,List.Perm.refl _⟩ (sS (cs':=[_,_]) rfl pH rfl rfl rfl rfl rfl ?_);refine lD zk ?_;refine qN ?_);exact h ()):P:=t fun _=>h
theorem zQ4 {P Q:Prop} (h:Q) (t:(Unit->Q)->P:=by intro h;(refine zl1 (i:=11) zk ?_;refine lS (H1:=[]) rfl (.inl rfl) rfl zpr ⟨_,List.Perm.refl _⟩ (sF [_,_] rfl p11 ?_));exact h ()):P:=t fun _=>h
theorem zQ5 {P Q:Prop} (h:Q) (t:(Unit->Q)->P:=by intro h;(refine zl1 (i:=18) zk ?_;refine lS (H1:=[]) rfl (.inl rfl) rfl zpr ⟨_,List.Perm.refl _⟩ (sF [_,_] rfl p18 ?_);refine zl1 (i:=19) zk ?_;refine lS (H1:=[zR b6]) (F:=[cR b3 vars arrays fs sc ars own,tR b4 ws (n+1),sR b5 3 name index [x] thn []]) rfl (.inl rfl) rfl (zPc (l₁:=[cR b3 vars arrays fs sc ars own,tR b4 ws (n+1),sR b5 3 name index [x] thn []]) (l₂:=[_])) zhr (sS (cs':=[_,_]) rfl pH rfl rfl rfl rfl rfl ?_);refine lD zk ?_;refine qN ?_);exact h ()):P:=t fun _=>h
theorem zQ6 {P Q:Prop} (h:Q) (t:(Unit->Q)->P:=by intro h;(refine lS (H1:=[]) rfl (.inl rfl) rfl zpr ⟨_,List.Perm.refl _⟩ (sL [_,_,_,_] rfl (qaC [_,_,_,_]) rfl rfl rfl ?_));exact h ()):P:=t fun _=>h
theorem zQ7 {P Q:Prop} (h:Q) (t:(Unit->Q)->P:=by intro h;(refine lS (H1:=[]) rfl (.inl rfl) rfl zpr ⟨_,List.Perm.refl _⟩ (sL [_] rfl (qaC [_]) rfl rfl rfl ?_));exact h ()):P:=t fun _=>h
theorem zQ8 {P Q:Prop} (h:Q) (t:(Unit->Q)->P:=by intro h;(refine lS (H1:=[zR b6]) (F:=[cR b3 vars arrays fs sc ars own,tR b4 ws n,exR b5 op num name [x,y]]) rfl (.inl rfl) rfl (zPc (l₁:=[cR b3 vars arrays fs sc ars own,tR b4 ws n,exR b5 op num name [x,y]]) (l₂:=[_])) zhr (sS (cs':=[_,_]) rfl pH rfl rfl rfl rfl rfl ?_);refine lD zk ?_;refine qN ?_);exact h ()):P:=t fun _=>h
theorem zQ9 {P Q:Prop} (h:Q) (t:(Unit->Q)->P:=by intro h;(refine zl1 (i:=9) zk ?_;refine lS (H1:=[]) rfl (.inl rfl) rfl zpr ⟨_,List.Perm.refl _⟩ (sF [_,_,_] rfl p9 ?_);refine zQ4 ?_;refine zQ0 ?_);exact h ()):P:=t fun _=>h
theorem zQ10 {P Q:Prop} (h:Q) (t:(Unit->Q)->P:=by intro h;(refine lS (H1:=[zR b6]) (F:=[cR b3 vars arrays fs sc ars own,tR b4 ws n,exR b5 op num name [x]]) rfl (.inl rfl) rfl (zPc (l₁:=[cR b3 vars arrays fs sc ars own,tR b4 ws n,exR b5 op num name [x]]) (l₂:=[_])) zhr (sS (cs':=[_,_]) rfl pH rfl rfl rfl rfl rfl ?_);refine lD zk ?_;refine qN ?_);exact h ()):P:=t fun _=>h
theorem zQ11 {P Q:Prop} (h:Q) (t:(Unit->Q)->P:=by intro h;(refine zl1 (i:=11) zk ?_;refine lS (H1:=[]) rfl (.inl rfl) rfl zpr ⟨_,List.Perm.refl _⟩ (sF [_,_,_] rfl p11 ?_);refine zl1 (i:=15) zk ?_;refine lS (H1:=[]) rfl (.inl rfl) rfl zpr ⟨_,List.Perm.refl _⟩ (sF [_,_] rfl p15 ?_);refine zQ1 ?_);exact h ()):P:=t fun _=>h
theorem zQ12 {P Q:Prop} (h:Q) (t:(Unit->Q)->P:=by intro h;(refine lS (H1:=[]) rfl (.inl rfl) rfl zpr ⟨_,List.Perm.refl _⟩ (sL [_,_,_] rfl (qaC [_,_,_]) rfl rfl rfl ?_));exact h ()):P:=t fun _=>h
theorem zQ13 {P Q:Prop} (h:Q) (t:(Unit->Q)->P:=by intro h;(refine zl1 (i:=18) zk ?_;refine lS (H1:=[]) rfl (.inl rfl) rfl zpr ⟨_,List.Perm.refl _⟩ (sF [_,_,_] rfl p18 ?_);refine zl1 (i:=20) zk ?_;refine lS (H1:=[]) rfl (.inl rfl) rfl zpr ⟨_,List.Perm.refl _⟩ (sF [_,_] rfl p20 ?_);refine zl1 (i:=21) zk ?_;refine lS (H1:=[zR b6]) (F:=[cR b3 vars arrays fs sc ars own,tR b4 ws n,sR b5 2 name [y] [x] thn els]) rfl (.inl rfl) rfl (zPc (l₁:=[cR b3 vars arrays fs sc ars own,tR b4 ws n,sR b5 2 name [y] [x] thn els]) (l₂:=[_])) zhr (sS (cs':=[_,_]) rfl pH rfl rfl rfl rfl rfl ?_);refine lD zk ?_;refine qN ?_);exact h ()):P:=t fun _=>h
theorem zQ14 {P Q:Prop} (h:Q) (t:(Unit->Q)->P:=by intro h;(refine gae ?_;refine rR rfl (zra rfl) zhn ⟨?_,rfl⟩);exact h ()):P:=t fun _=>h
theorem zQ15 {P Q:Prop} (h:Q) (t:(Unit->Q)->P:=by intro h;(refine oS (sL [_] rfl (zeC rfl rfl eN) rfl rfl rfl ?_) rfl);exact h ()):P:=t fun _=>h
theorem zQ16 {P Q:Prop} (h:Q) (t:(Unit->Q)->P:=by intro h;(refine lS (H1:=[]) rfl (.inl rfl) rfl zpr ⟨_,List.Perm.refl _⟩ (sF [_,_] rfl p4 ?_));exact h ()):P:=t fun _=>h
theorem zQ17 {P Q:Prop} (h:Q) (t:(Unit->Q)->P:=by intro h;(refine lS (H1:=[]) rfl (.inl rfl) rfl zpr ⟨_,List.Perm.refl _⟩ (sF [_,_,_] rfl p18 ?_);refine zl1 (i:=23) zk ?_;refine zQ6 ?_;refine zl1 (i:=24) zk ?_;refine lS (H1:=[]) rfl (.inl rfl) rfl zpr ⟨_,List.Perm.refl _⟩ (sF [_,_] rfl p24 ?_);refine zl1 (i:=25) zk ?_;refine lS (H1:=[zR b6]) (F:=[cR b3 vars arrays fs sc ars own,tR b4 ws (n+2),sR b5 4 name index [x] thn els]) rfl (.inl rfl) rfl (zPc (l₁:=[cR b3 vars arrays fs sc ars own,tR b4 ws (n+2),sR b5 4 name index [x] thn els]) (l₂:=[_])) zhr (sS (cs':=[_,_]) rfl pH rfl rfl rfl rfl rfl ?_);refine lD zk ?_);exact h ()):P:=t fun _=>h
theorem zQ18 {P Q:Prop} (h:Q) (t:(Unit->Q)->P:=by intro h;(refine lS (H1:=[]) rfl (.inl rfl) rfl zpr ⟨_,List.Perm.refl _⟩ (sF [_,_,_] rfl p14 ?_));exact h ()):P:=t fun _=>h
theorem zQ19 {P Q:Prop} (h:Q) (t:(Unit->Q)->P:=by intro h;(refine lS (H1:=[]) rfl (.inl rfl) rfl zpr ⟨_,List.Perm.refl _⟩ (sF [_,_,_] rfl p9 ?_));exact h ()):P:=t fun _=>h
theorem zQ20 {P Q:Prop} (h:Q) (t:(Unit->Q)->P:=by intro h;(refine lS (H1:=[]) rfl (.inl rfl) rfl zpr ⟨_,List.Perm.refl _⟩ (sF [_,_,_] rfl p7 ?_));exact h ()):P:=t fun _=>h
theorem zQ21 {P Q:Prop} (h:Q) (t:(Unit->Q)->P:=by intro h;(refine zl1 (i:=4) zk ?_;refine lW rfl (.inl rfl) rfl (sS (cs':=[_]) rfl zp2 rfl rfl rfl rfl rfl ?_);refine zl1 (i:=5) zk ?_;refine lW rfl (.inl rfl) rfl (sS (cs':=[_]) rfl zp2 rfl rfl rfl rfl rfl ?_);refine lD zk ?_;refine gae ?_);exact h ()):P:=t fun _=>h
theorem zQ22 {P Q:Prop} (h:Q) (t:(Unit->Q)->P:=by intro h;(refine oS (sL [_,_] rfl (qaC [_,_]) rfl rfl rfl ?_) rfl);exact h ()):P:=t fun _=>h
theorem zQ23 {P Q:Prop} (h:Q) (t:(Unit->Q)->P:=by intro h;(refine aT 0 rfl rfl (pG (cs':=[_,_,_,_,_,_]) rfl zm0 rfl rfl) ?_;refine aT 1 rfl rfl (pG (cs':=[_,_]) rfl zm1 rfl rfl) ?_;refine aT 2 rfl rfl (pF rfl) ?_;refine aT 3 rfl rfl (pL (c:=.list _) rfl zm2 rfl) ?_;refine aT 4 rfl rfl (xR (el':=encE x) (cs:=[_,_,_,_]) rfl rfl zDd rfl rfl rfl) ?_;refine aT 5 rfl rfl (pR (cs':=[_,_,_,_]) rfl rfl rfl) ?_);exact h ()):P:=t fun _=>h
theorem zQ24 {P Q:Prop} (h:Q) (t:(Unit->Q)->P:=by intro h;(refine zl1 (i:=9) zk ?_;refine lS (H1:=[]) rfl (.inl rfl) rfl zpr hsb (sF [_,_] rfl hq2 ?_);refine zl1 (i:=10) zk ?_;refine lS (H1:=[tR b8 vs m]) (F:=[cR b7 vars arrays fs sc (symA oa arrays) f.name,(b10,.cells 84 [str f.name,.list (f.params.map str),.list (f.locals.map str),.list (f.body.map encS)]),(b2,.cells 34 [.list (vars.map str),.list (arrays.map Chk.encArG),.list (fs.map qav)])]) rfl (.inl rfl) rfl zp2 ⟨_,List.Perm.refl _⟩ (sS (cs':=[_,_]) rfl pH rfl rfl rfl rfl rfl ?_);refine lD zk ?_;refine gab ?_);exact h ()):P:=t fun _=>h
theorem zQ25 {P Q:Prop} (h:Q) (t:(Unit->Q)->P:=by intro h;(refine zl1 (i:=18) zk ?_;refine lS (H1:=[]) rfl (.inl rfl) rfl zpr ⟨_,List.Perm.refl _⟩ (sF [_,_] rfl p18 ?_);refine zl1 (i:=19) zk ?_;refine zQ8 ?_);exact h ()):P:=t fun _=>h
theorem zQ26 {P Q:Prop} (h:Q) (t:(Unit->Q)->P:=by intro h;(refine lS (H1:=[]) rfl (.inl rfl) rfl zpr ⟨_,List.Perm.refl _⟩ (sF [_,_] rfl p11 ?_));exact h ()):P:=t fun _=>h
theorem zQ27 {P Q:Prop} (h:Q) (t:(Unit->Q)->P:=by intro h;(refine gac ?_;refine lP (xR (el':=iv (qa9 c x)) (cs:=[_]) rfl rfl zo rfl rfl rfl) rfl ?_;refine gac ?_;refine lP (xR (el':=iv (qa9 c y)) (cs:=[_]) rfl rfl zo rfl rfl rfl) rfl ?_;refine gac ?_);exact h ()):P:=t fun _=>h
theorem zQ28 {P Q:Prop} (h:Q) (t:(Unit->Q)->P:=by intro h;(refine aT 0 rfl rfl (pG (cs':=[_,_,_,_,_,_]) rfl zm0 rfl rfl) ?_;refine aT 1 rfl rfl (pG (cs':=[_,_,_,_,_,_]) rfl zm0 rfl rfl) ?_;refine aT 2 rfl rfl (pG (cs':=[_,_]) rfl zm1 rfl rfl) ?_);exact h ()):P:=t fun _=>h
theorem zQ29 {P Q:Prop} (h:Q) (t:(Unit->Q)->P:=by intro h;(refine lO 6 (lH rfl rfl (pF rfl) ?_);refine lO 7 (lW rfl (.inl rfl) rfl (sS (cs':=[v1,v2,v']) rfl zp1 (Acc.cell ha').1 rfl rfl (Acc.cell ha').2 rfl ?_));refine lD zk ?_;refine gad ?_);exact h ()):P:=t fun _=>h
theorem zQ30 {P Q:Prop} (h:Q) (t:(Unit->Q)->P:=by intro h;(refine zQ18 ?_;refine zl1 (i:=19) zk ?_;refine zQ6 ?_;refine zl1 (i:=20) zk ?_;refine lS (H1:=[]) rfl (.inl rfl) rfl zpr ⟨_,List.Perm.refl _⟩ (sF [_,_] rfl p20 ?_);refine zl1 (i:=21) zk ?_;refine lS (H1:=[tR b4 ws (n+2)]) (F:=[cR b3 vars arrays fs sc ars own,sR b5 3 name index [x] thn els,zR b6]) rfl (.inl rfl) rfl zp2 ⟨_,List.Perm.refl _⟩ (sS (cs':=[_,_]) rfl pH rfl rfl rfl rfl rfl ?_);refine lD zk ?_);exact h ()):P:=t fun _=>h
theorem zQ31 {P Q:Prop} (h:Q) (t:(Unit->Q)->P:=by intro h;(refine zl1 (i:=15) zk ?_;refine lS (H1:=[]) rfl (.inl rfl) rfl zpr ⟨_,List.Perm.refl _⟩ (sF [_,_] rfl p15 ?_);refine zQ1 ?_);exact h ()):P:=t fun _=>h
theorem zQ32 {P Q:Prop} (h:Q) (t:(Unit->Q)->P:=by intro h;(refine zl1 (i:=12) zk ?_;refine lS (H1:=[]) rfl (.inl rfl) rfl zpr ⟨_,List.Perm.refl _⟩ (sF [_,_,_] rfl p12 ?_);refine zl1 (i:=14) zk ?_;refine lS (H1:=[]) rfl (.inl rfl) rfl zpr ⟨_,List.Perm.refl _⟩ (sF [_,_] rfl p14 ?_);refine zl1 (i:=15) zk ?_;refine zQ10 ?_);exact h ()):P:=t fun _=>h
theorem zQ33 {P Q:Prop} (h:Q) (t:(Unit->Q)->P:=by intro h;(refine oS (sL [_] rfl (qaC [_]) rfl rfl rfl ?_) rfl);exact h ()):P:=t fun _=>h
theorem zQ34 {P Q:Prop} (h:Q) (t:(Unit->Q)->P:=by intro h;(refine gao ?_;refine qP (xR (el':=qbJ T[i]) (cs:=[_,_,_]) rfl rfl zo (qa0 _ _ _ hlt) rfl rfl) rfl ?_);exact h ()):P:=t fun _=>h
theorem zQ35 {P Q:Prop} (h:Q) (t:(Unit->Q)->P:=by intro h;(refine lS (H1:=[]) rfl (.inl rfl) rfl zpr ⟨_,List.Perm.refl _⟩ (sF [_,_] rfl p6 ?_));exact h ()):P:=t fun _=>h
theorem zQ36 {P Q:Prop} (h:Q) (t:(Unit->Q)->P:=by intro h;(refine lS (H1:=[]) rfl (.inl rfl) rfl zpr ⟨_,List.Perm.refl _⟩ (sF [_,_,_] rfl p16 ?_);refine zl1 (i:=17) zk ?_);exact h ()):P:=t fun _=>h
theorem zQ37 {P Q:Prop} (h:Q) (t:(Unit->Q)->P:=by intro h;(refine oS (sF [_,_] rfl pt ?_) rfl;refine oS (sS (cs':=[_,_]) rfl zp3 rfl rfl rfl rfl rfl ?_) rfl;refine gae ?_);exact h ()):P:=t fun _=>h
theorem zQ38 {P Q:Prop} (h:Q) (t:(Unit->Q)->P:=by intro h;(refine oP (pM (lv:=v) rfl) rfl ?_;refine oP (pA (lv:=v) rfl) rfl ?_;refine gae ?_);exact h ()):P:=t fun _=>h
theorem zQ39 {P Q:Prop} (h:Q) (t:(Unit->Q)->P:=by intro h;(refine aT 13 rfl rfl (pB _ (cs:=[_,_]) rfl) ?_;refine aL ?_ zhr;refine lO 3 (lS (H1:=[]) rfl (.inl rfl) rfl zpr zhr (sF [_] rfl hS ?_));refine lO 4 (lH rfl rfl (Pure.llen rfl) ?_);refine lO 5 (lH rfl rfl (Pure.add rfl rfl zo) ?_);refine lO 6 (lH rfl rfl (pB _ (cs:=[_,_]) rfl) ?_);refine lO 14 (lS (H1:=[]) rfl (.inl rfl) rfl zpr zhr (sL (es:=[LV.agg [int .i64 o.scalars,int .i64 (3+(((qat vars fs).map str).length:Int))],.agg [int .i64 o.code,int .i64 40000],.agg [int .i64 o.arrays,int .i64 total]]) [_,_,_] rfl (zeC rfl rfl (zeC rfl rfl (zeC rfl rfl eN))) rfl rfl rfl ?_));refine lO 15 (lH rfl rfl (pA (lv:=.list _) rfl) ?_));exact h ()):P:=t fun _=>h
theorem zQ40 {P Q:Prop} (h:Q) (t:(Unit->Q)->P:=by intro h;(refine aT 8 rfl rfl (pL (c:=.list _) rfl zm0 rfl) ?_;refine aT 9 rfl rfl (pM (lv:=.list _) rfl) ?_;refine aT 10 rfl rfl (pM (lv:=.list _) rfl) ?_;refine aL ?_ zhr;refine lO 6 (lS (H1:=[]) rfl (.inl rfl) rfl zpr zhr (sF [_,_,_] rfl (ih thn het zo) ?_));refine lO 11 (lS (H1:=[]) rfl (.inl rfl) rfl zpr zhr (sF [_,_,_] rfl (ih els hee zo) ?_));refine lO 12 (lS (H1:=[]) rfl (.inl rfl) rfl zpr zhr (sL (es:=[m,2,nv,qaW c thn,qaW c els].map iv) [_,_,_,_,_] rfl (qdt _) rfl rfl rfl ?_));refine lO 13 (lS (H1:=[]) rfl (.inl rfl) rfl zpr zhr (sF [_] rfl (qbD m [2,nv,qaW c thn,qaW c els] (by simp)) ?_)));exact h ()):P:=t fun _=>h
theorem zQ41 {P Q:Prop} (h:Q) (t:(Unit->Q)->P:=by intro h;(refine zl1 zk (lS (i:=9) (H1:=[]) (F:=[]) rfl (.inl rfl) rfl zpr zhn (Pure.step (Pure.sadd (l:=Go.Lib.decDigits (n / 10)) (m:=[UInt8.ofNat (48+n % 10)]) rfl rfl hlen) ?_));refine zl1 zk (lS (i:=10) (H1:=[]) (F:=[]) rfl (.inl rfl) rfl zpr zhn (Pure.step (pA (lv:=.atom _) rfl) ?_));refine lD zk ?_;refine gae ?_);exact h ()):P:=t fun _=>h
theorem zQ42 {P Q:Prop} (h:Q) (t:(Unit->Q)->P:=by intro h;(refine zl1 (i:=16) zk ?_;refine lS (H1:=[]) rfl (.inl rfl) rfl zpr ⟨_,List.Perm.refl _⟩ (sF [_,_] rfl p16 ?_);refine zl1 (i:=17) zk ?_;refine zQ8 ?_);exact h ()):P:=t fun _=>h
theorem zQ43 {P Q:Prop} (h:Q) (t:(Unit->Q)->P:=by intro h;(refine zl1 (i:=10) zk ?_;refine zQ2 ?_;refine zQ4 ?_);exact h ()):P:=t fun _=>h
theorem zQ44 {P Q:Prop} (h:Q) (t:(Unit->Q)->P:=by intro h;(refine gaa ?_;refine oP (xR (el':=encE x) (cs:=[_,_,_,_]) rfl rfl zDd rfl rfl rfl) rfl ?_;refine gav ?_);exact h ()):P:=t fun _=>h
theorem zQ45 {P Q:Prop} (h:Q) (t:(Unit->Q)->P:=by intro h;(refine oS (sL (es:=[encE e]) [_] rfl (zeC rfl rfl eN) rfl rfl rfl ?_) rfl);exact h ()):P:=t fun _=>h
theorem zQ46 {P Q:Prop} (h:Q) (t:(Unit->Q)->P:=by intro h;(refine zl1 (i:=8) zk ?_;refine lS (H1:=[]) rfl (.inl rfl) rfl zpr ⟨_,List.Perm.refl _⟩ (sF [_,_,_] rfl p8 ?_);refine zl1 (i:=10) zk ?_;refine lS (H1:=[]) rfl (.inl rfl) rfl zpr ⟨_,List.Perm.refl _⟩ (sF [_,_] rfl p10 ?_);refine zl1 (i:=11) zk ?_;refine zQ10 ?_);exact h ()):P:=t fun _=>h
theorem zQ47 {P Q:Prop} (h:Q) (t:(Unit->Q)->P:=by intro h;(refine aT 0 rfl rfl (pF rfl) ?_;refine aT 2 rfl rfl (pM (lv:=.atom _) rfl) ?_;refine aL ?_ zhn);exact h ()):P:=t fun _=>h
theorem zQ48 {P Q:Prop} (h:Q) (t:(Unit->Q)->P:=by intro h;(refine aT 0 rfl rfl (pM (lv:=.atom _) rfl) ?_;refine aT 1 rfl rfl (pM (lv:=.atom _) rfl) ?_;refine aT 2 rfl rfl (pF rfl) ?_;refine aT 3 rfl rfl (pL (c:=.list _) rfl zm0 rfl) ?_);exact h ()):P:=t fun _=>h
theorem zQ49 {P Q:Prop} (h:Q) (t:(Unit->Q)->P:=by intro h;(refine gak ?_;refine oP (xR (el':=.agg [int .i64 kind,str name,.list (index.map encE),.list (value.map encE),.list (thn.map encS),.list (els.map encS)]) (cs:=[_,_,_,_,_,_]) rfl rfl zo (by rw[hL,<-qbk];exact get_mid encS pre _ l2) rfl rfl) rfl ?_;refine gac ?_);exact h ()):P:=t fun _=>h
theorem zQ50 {P Q:Prop} (h:Q) (t:(Unit->Q)->P:=by intro h;(refine cD (m:=16) rfl [(b3,.cells 23 [int .i64 o.code,int .i64 o.scalars,int .i64 o.arrays]),(b2,.cells 34 [.list (vars.map str),.list (arrays.map Chk.encArG),.list (fs.map qav)])] ?_;refine aT 0 rfl rfl (pF rfl) ?_;refine aT 1 rfl rfl (pL (c:=.atom _) rfl zm0 rfl) ?_;refine aT 2 rfl rfl (pG (cs':=[_,_,_]) rfl zm1 rfl rfl) ?_;refine aT 7 rfl rfl (pF rfl) ?_;refine aT 8 rfl rfl (pL (c:=.atom _) rfl zm0 rfl) ?_;refine aT 9 rfl rfl (pB _ (cs:=[_,_]) rfl) ?_;refine aT 10 rfl rfl (pF rfl) ?_);exact h ()):P:=t fun _=>h
theorem zQ51 {P Q:Prop} (h:Q) (t:(Unit->Q)->P:=by intro h;(refine zl1 (i:=4) zk ?_;refine zQ16 ?_;refine zQ9 ?_);exact h ()):P:=t fun _=>h
theorem zQ52 {P Q:Prop} (h:Q) (t:(Unit->Q)->P:=by intro h;(refine gaa ?_;refine oP (xR (el':=qa1 (w,ln)) (cs:=[_,_]) rfl rfl zo hmi rfl rfl) rfl ?_;refine gac ?_);exact h ()):P:=t fun _=>h
theorem zQ53 {P Q:Prop} (h:Q) (t:(Unit->Q)->P:=by intro h;(refine aT 0 rfl rfl (pM (lv:=.atom _) rfl) ?_;refine aT 1 rfl rfl (pM (lv:=.atom _) rfl) ?_;refine aT 2 rfl rfl (pN rfl) ?_;refine aT 3 rfl rfl (pF rfl) ?_;refine aT 5 rfl rfl (pF rfl) ?_;refine aT 6 rfl rfl (pL (c:=.atom _) rfl zm0 rfl) ?_);exact h ()):P:=t fun _=>h
theorem zQ54 {P Q:Prop} (h:Q) (t:(Unit->Q)->P:=by intro h;(refine gad ?_;refine rR rfl (zra rfl) zhn ⟨?_,rfl⟩);exact h ()):P:=t fun _=>h
theorem zQ55 {P Q:Prop} (h:Q) (t:(Unit->Q)->P:=by intro h;(refine lO 5 (lH rfl rfl (pF rfl) ?_);refine lO 6 (lW rfl (.inl rfl) rfl (sS (cs':=[v',v2,v3]) rfl zp1 (Acc.cell ha').1 rfl rfl (Acc.cell ha').2 rfl ?_));refine lD zk ?_);exact h ()):P:=t fun _=>h
theorem zQ56 {P Q:Prop} (h:Q) (t:(Unit->Q)->P:=by intro h;(refine oP (pI (c:=a) rfl rfl zo hget) rfl ?_;refine gac ?_);exact h ()):P:=t fun _=>h
theorem zQ57 {P Q:Prop} (h:Q) (t:(Unit->Q)->P:=by intro h;(refine zQ28 ?_;refine aT 5 rfl rfl (pF rfl) ?_;refine aT 6 rfl rfl (pL (c:=.list _) rfl zm2 rfl) ?_;refine aT 7 rfl rfl (xR (el':=encE x) (cs:=[_,_,_,_]) rfl rfl zDd rfl rfl rfl) ?_;refine aT 8 rfl rfl (pR (cs':=[_,_,_,_]) rfl rfl rfl) ?_);exact h ()):P:=t fun _=>h
theorem zQ58 {P Q:Prop} (h:Q) (t:(Unit->Q)->P:=by intro h;(refine gac ?_;refine qP (xR (el':=qcl (a,n)) (cs:=[_,_]) rfl rfl zo hix rfl rfl) rfl ?_);exact h ()):P:=t fun _=>h
theorem zQ59 {P Q:Prop} (h:Q) (t:(Unit->Q)->P:=by intro h;(refine lS (H1:=[]) rfl (.inl rfl) rfl zpr ⟨_,List.Perm.refl _⟩ (sF [_,_,_] rfl p11 ?_));exact h ()):P:=t fun _=>h
theorem zQ60 {P Q:Prop} (h:Q) (t:(Unit->Q)->P:=by intro h;(refine oP (pM (lv:=v) rfl) rfl ?_);exact h ()):P:=t fun _=>h
theorem zQ61 {P Q:Prop} (h:Q) (t:(Unit->Q)->P:=by intro h;(refine zl1 (i:=8) zk ?_;refine lS (H1:=[]) rfl (.inl rfl) rfl zpr ⟨_,List.Perm.refl _⟩ (sF [_,_] rfl p8 ?_);refine zl1 (i:=9) zk ?_;refine lS (H1:=[zR b6]) (F:=[cR b3 vars arrays fs sc ars own,tR b4 ws n,sR b5 5 name index [x] thn els]) rfl (.inl rfl) rfl (zPc (l₁:=[cR b3 vars arrays fs sc ars own,tR b4 ws n,sR b5 5 name index [x] thn els]) (l₂:=[_])) zhr (sS (cs':=[_,_]) rfl pH rfl rfl rfl rfl rfl ?_);refine lD zk ?_;refine qN ?_);exact h ()):P:=t fun _=>h
theorem zQ62 {P Q:Prop} (h:Q) (t:(Unit->Q)->P:=by intro h;(refine oP (pA (lv:=v') rfl) rfl ?_);exact h ()):P:=t fun _=>h
theorem zQ63 {P Q:Prop} (h:Q) (t:(Unit->Q)->P:=by intro h;(refine lO 6 (lS (H1:=[]) rfl (.inl rfl) rfl zpr ⟨_,List.Perm.refl _⟩ (sF [_,_] rfl hpt ?_));refine lO 7 (lS (H1:=[zR b6]) (F:=[cR b3 vars arrays fs sc ars own,tR b4 ws n,exR b5 op num name args]) rfl (.inl rfl) rfl (zPc (l₁:=[cR b3 vars arrays fs sc ars own,tR b4 ws n,exR b5 op num name args]) (l₂:=[_])) zhr (sS (cs':=[_,_]) rfl pH rfl rfl rfl rfl rfl ?_));refine lD zk ?_;refine gae ?_);exact h ()):P:=t fun _=>h
theorem zQ64 {P Q:Prop} (h:Q) (t:(Unit->Q)->P:=by intro h;(refine aT 9 rfl rfl (pM (lv:=.atom _) rfl) ?_;refine aT 10 rfl rfl (pN rfl) ?_;refine aT 11 rfl rfl (pF rfl) ?_;refine aT 12 rfl rfl (pL (c:=.atom _) rfl zm1 rfl) ?_;refine aL ?_ (zhP pH zhp));exact h ()):P:=t fun _=>h
theorem zQ65 {P Q:Prop} (h:Q) (t:(Unit->Q)->P:=by intro h;(refine lS (H1:=[]) rfl (.inl rfl) rfl zpr ⟨_,List.Perm.refl _⟩ (sF [_,_,_] rfl p6 ?_));exact h ()):P:=t fun _=>h
theorem zQ66 {P Q:Prop} (h:Q) (t:(Unit->Q)->P:=by intro h;(refine cD (m:=20) rfl [cR b3 vars arrays fs sc ars own,tR b4 ws n,exR b5 op num name [x,y]] ?_;refine zQ57 ?_;refine aT 12 rfl rfl (pF rfl) ?_;refine aT 13 rfl rfl (pL (c:=.list _) rfl zm2 rfl) ?_;refine aT 14 rfl rfl (xR (el':=encE y) (cs:=[_,_,_,_]) rfl rfl zDd rfl rfl rfl) ?_;refine aT 15 rfl rfl (pR (cs':=[_,_,_,_]) rfl rfl rfl) ?_;refine aL ?_ ⟨_,List.Perm.refl _⟩);exact h ()):P:=t fun _=>h
theorem zQ67 {P Q:Prop} (h:Q) (t:(Unit->Q)->P:=by intro h;(refine zl1 (i:=13) zk ?_;refine lS (H1:=[]) rfl (.inl rfl) rfl zpr ⟨_,List.Perm.refl _⟩ (sF [_,_] rfl p13 ?_);refine zQ13 ?_);exact h ()):P:=t fun _=>h
theorem zQ68 {P Q:Prop} (h:Q) (t:(Unit->Q)->P:=by intro h;(refine zl1 (i:=7) zk ?_;refine zQ20 ?_;refine zQ4 ?_);exact h ()):P:=t fun _=>h
theorem zQ69 {P Q:Prop} (h:Q) (t:(Unit->Q)->P:=by intro h;(refine lO 6 (lH rfl rfl (pF rfl) ?_);refine lO 7 (lW rfl (.inl rfl) rfl (sS (cs':=[v1,v',v3]) rfl zp1 (Acc.cell ha').1 rfl rfl (Acc.cell ha').2 rfl ?_));refine lD zk ?_;refine gad ?_);exact h ()):P:=t fun _=>h
theorem zQ70 {P Q:Prop} (h:Q) (t:(Unit->Q)->P:=by intro h;(refine lO 4 (lW rfl (.inl rfl) rfl (sL [_] rfl (zeC rfl rfl eN) rfl rfl rfl ?_)));exact h ()):P:=t fun _=>h
theorem zQ71 {P Q:Prop} (h:Q) (t:(Unit->Q)->P:=by intro h;(refine aT 1 rfl rfl (pF rfl) ?_;refine aT 2 rfl rfl (pL (c:=.list _) rfl zm0 rfl) ?_;refine aT 4 rfl rfl (pF rfl) ?_;refine aT 5 rfl rfl (pL (c:=.list _) rfl zm0 rfl) ?_);exact h ()):P:=t fun _=>h
theorem zQ72 {P Q:Prop} (h:Q) (t:(Unit->Q)->P:=by intro h;(refine cD (m:=11) rfl [(b3,.cells 179 [int .i64 kind,str name,.list (([]:List Ex).map encE),.list ([x0].map encE),.list (thn.map encS),.list (els.map encS)])] ?_;refine zQ48 ?_;refine aT 5 rfl rfl (pM (lv:=.atom _) rfl) ?_;refine aT 6 rfl rfl (pF rfl) ?_;refine aT 7 rfl rfl (pL (c:=.list _) rfl zm0 rfl) ?_;refine aL ?_ zhp);exact h ()):P:=t fun _=>h
theorem zQ73 {P Q:Prop} (h:Q) (t:(Unit->Q)->P:=by intro h;(refine zl1 (i:=14) zk ?_;refine zQ18 ?_;refine zQ5 ?_);exact h ()):P:=t fun _=>h
theorem zQ74 {P Q:Prop} (h:Q) (t:(Unit->Q)->P:=by intro h;(refine lO 9 (lH rfl rfl (Pure.max3e (qa9 c x0) (qaW c thn) (qaW c els) rfl rfl rfl rfl rfl rfl) ?_);refine lO 10 (lH rfl rfl (pA (lv:=.atom _) rfl) ?_);refine lD zk ?_;refine gaa ?_;refine oP (Pure.max2e 2 (max (max (qa9 c x0) (qaW c thn)) (qaW c els)) rfl rfl rfl rfl) rfl ?_;refine gae ?_);exact h ()):P:=t fun _=>h
theorem zQ75 {P Q:Prop} (h:Q) (t:(Unit->Q)->P:=by intro h;(refine aT 5 rfl rfl (xR (el':=encE x) (cs:=[_,_,_,_]) rfl rfl zDd rfl rfl rfl) ?_;refine aT 6 rfl rfl (pR (cs':=[_,_,_,_]) rfl rfl rfl) ?_;refine aT 8 rfl rfl (pM (lv:=.atom _) rfl) ?_;refine aT 9 rfl rfl (Pure.sadd rfl rfl (by first|omega|(simp only[zLa,zLc,zLn];omega))) ?_;refine aT 12 rfl rfl (pF rfl) ?_);exact h ()):P:=t fun _=>h
theorem zQ76 {P Q:Prop} (h:Q) (t:(Unit->Q)->P:=by intro h;(refine aT 0 rfl rfl (pM (lv:=.atom _) rfl) ?_;refine aT 1 rfl rfl (pN rfl) ?_;refine aT 2 rfl rfl (pF rfl) ?_);exact h ()):P:=t fun _=>h
theorem zQ77 {P Q:Prop} (h:Q) (t:(Unit->Q)->P:=by intro h;(refine lO 4 (lH rfl rfl (pB _ (cs:=[_,_,_,_]) rfl) ?_);refine lO 5 (lW rfl (.inl rfl) rfl (sL [_] rfl (zeC rfl rfl eN) rfl rfl rfl ?_));refine lO 6 (lH rfl rfl (pF rfl) ?_);refine lO 7 (lW rfl (.inl rfl) rfl (sS (cs':=[_,_,_,_,_,_]) rfl zp1 rfl rfl rfl rfl rfl ?_));refine lD zk ?_;refine gab ?_);exact h ()):P:=t fun _=>h
theorem zQ78 {P Q:Prop} (h:Q) (t:(Unit->Q)->P:=by intro h;(refine gal ?_;refine oP (pI (c:=c1) rfl rfl zDd rfl) rfl ?_);exact h ()):P:=t fun _=>h
theorem zQ79 {P Q:Prop} (h:Q) (t:(Unit->Q)->P:=by intro h;(refine cD (m:=15) rfl [smH b9 kind name index value thn els] ?_;refine zQ48 ?_;refine aT 4 rfl rfl (pM (lv:=.list _) rfl) ?_;refine aT 5 rfl rfl (pM (lv:=.list _) rfl) ?_;refine aT 7 rfl rfl (pF rfl) ?_;refine zQ40 ?_;refine lO 14 (lH rfl rfl (pA (lv:=.atom _) rfl) ?_);refine lD zk ?_);exact h ()):P:=t fun _=>h
theorem zQ80 {P Q:Prop} (h:Q) (t:(Unit->Q)->P:=by intro h;(refine gaa ?_;refine oP (xR (el':=iv (qa9 c x)) (cs:=[_]) rfl rfl zo rfl rfl rfl) rfl ?_;refine gac ?_);exact h ()):P:=t fun _=>h
theorem zQ81 {P Q:Prop} (h:Q) (t:(Unit->Q)->P:=by intro h;(refine aL ?_ ⟨_,List.Perm.refl _⟩);exact h ()):P:=t fun _=>h
theorem zQ82 {P Q:Prop} (h:Q) (t:(Unit->Q)->P:=by intro h;(refine lH rfl rfl (pG (cs':=[_,_]) rfl zm2 rfl rfl) ?_);exact h ()):P:=t fun _=>h
theorem zQ83 {P Q:Prop} (h:Q) (t:(Unit->Q)->P:=by intro h;(refine lW rfl (.inl rfl) rfl (sS (cs':=[_]) rfl zp2 rfl rfl rfl rfl rfl ?_);refine zl1 (i:=2) zk ?_;refine lH rfl rfl (pL (c:=.atom _) rfl zm2 rfl) ?_;refine zl1 (i:=5) zk ?_;refine lW rfl (.inl rfl) rfl (sS (cs':=[_]) rfl zp2 rfl rfl rfl rfl rfl ?_);refine lD zk ?_;refine gae ?_);exact h ()):P:=t fun _=>h
theorem zQ84 {P Q:Prop} (h:Q) (t:(Unit->Q)->P:=by intro h;(refine oP (pI (c:=s[i]) rfl rfl zo (by simp)) rfl ?_;refine gad ?_);exact h ()):P:=t fun _=>h
theorem zQ85 {P Q:Prop} (h:Q) (t:(Unit->Q)->P:=by intro h;(refine qae.quiet zk ?_);exact h ()):P:=t fun _=>h
theorem zQ86 {P Q:Prop} (h:Q) (t:(Unit->Q)->P:=by intro h;(refine lW rfl (.inl rfl) rfl (sS (cs':=[_,_,_]) rfl zp2 rfl rfl rfl rfl rfl ?_));exact h ()):P:=t fun _=>h
theorem zQ87 {P Q:Prop} (h:Q) (t:(Unit->Q)->P:=by intro h;(refine gak ?_;refine oP (xR (el':=encE a) (cs:=[_,_,_,_]) rfl rfl zo (by rw[hL];exact get_mid encE pre a l2) rfl rfl) rfl ?_;refine gav ?_);exact h ()):P:=t fun _=>h
theorem zQ88 {P Q:Prop} (h:Q) (t:(Unit->Q)->P:=by intro h;(refine gal ?_;refine oP (pI (c:=s[m]) rfl rfl zo (by simp)) rfl ?_;refine LOps.want rfl rfl ?_);exact h ()):P:=t fun _=>h
theorem zQ89 {P Q:Prop} (h:Q) (t:(Unit->Q)->P:=by intro h;(refine oP (xR (el':=Chk.encArG arrays[i]) (cs:=[_,_]) rfl rfl zo (qa0 _ _ _ hlt) rfl rfl) rfl ?_);exact h ()):P:=t fun _=>h
theorem zQ90 {P Q:Prop} (h:Q) (t:(Unit->Q)->P:=by intro h;(refine gak ?_;refine oP (xR (el':=str a) (cs:=[_]) rfl rfl zo (by rw[hL];exact get_mid str pre a l2) rfl rfl) rfl ?_;refine gab ?_);exact h ()):P:=t fun _=>h
theorem zQ91 {P Q:Prop} (h:Q) (t:(Unit->Q)->P:=by intro h;(refine ga1 ?_;refine qae.tail 7 zk ?_;refine zQ27 ?_;refine oS (sL (es:=[3,qa9 c x,1+qa9 c y].map iv) [_,_,_] rfl (qdt _) rfl rfl rfl ?_) rfl;refine oS (sF [_] rfl (qbD 3 [qa9 c x,1+qa9 c y] (by simp)) ?_) rfl;refine gae ?_);exact h ()):P:=t fun _=>h
theorem zQ92 {P Q:Prop} (h:Q) (t:(Unit->Q)->P:=by intro h;(refine oP (Pure.sslice (i:=0) (j:=m) rfl rfl ⟨_,rfl⟩ zo zo zo) rfl ?_);exact h ()):P:=t fun _=>h
theorem zQ93 {P Q:Prop} (h:Q) (t:(Unit->Q)->P:=by intro h;(refine zl1 (i:=7) zk ?_;refine lS (H1:=[]) rfl (.inl rfl) rfl zpr ⟨_,List.Perm.refl _⟩ (sF [_,_] rfl p7 ?_);refine zQ32 ?_);exact h ()):P:=t fun _=>h
theorem zQ94 {P Q:Prop} (h:Q) (t:(Unit->Q)->P:=by intro h;(refine gac ?_;refine qP (xR (el':=qcl (b,m)) (cs:=[_,_]) rfl rfl zo hiy rfl rfl) rfl ?_);exact h ()):P:=t fun _=>h
theorem zQ95 {P Q:Prop} (h:Q) (t:(Unit->Q)->P:=by intro h;(refine LAny.takeSkip (i:=4) rfl rfl rfl rfl zk zk zk rfl ?_;refine LAny.takeSkip (i:=5) rfl rfl rfl rfl zk zk zk rfl ?_;refine LAny.takeSkip (i:=6) rfl rfl rfl rfl zk zk zk rfl ?_;refine LAny.takeSkip (i:=7) rfl rfl rfl rfl zk zk zk rfl ?_);exact h ()):P:=t fun _=>h
theorem zQ96 {P Q:Prop} (h:Q) (t:(Unit->Q)->P:=by intro h;(refine zl1 (i:=6) zk ?_;refine zQ35 ?_;refine zQ11 ?_);exact h ()):P:=t fun _=>h
theorem zQ97 {P Q:Prop} (h:Q) (t:(Unit->Q)->P:=by intro h;(refine lS (H1:=[]) rfl (.inl rfl) rfl zpr ⟨_,List.Perm.refl _⟩ (sF [_,_] rfl p15 ?_));exact h ()):P:=t fun _=>h
theorem zQ98 {P Q:Prop} (h:Q) (t:(Unit->Q)->P:=by intro h;(refine gak ?_;refine oP (xR (el':=qa1 l[i]) (cs:=[_,_]) rfl rfl zo (qa0 _ _ _ hlt) rfl rfl) rfl ?_;refine gac ?_);exact h ()):P:=t fun _=>h
theorem zQ99 {P Q:Prop} (h:Q) (t:(Unit->Q)->P:=by intro h;(refine oS (sL [_,_,_] rfl (qaC [_,_,_]) rfl rfl rfl ?_) rfl);exact h ()):P:=t fun _=>h
theorem qsG {P Q:Prop} (h:Q) (t:(Unit->Q)->P:=by intro h;(refine cD (m:=6) rfl [(b2,.cells 54 [ptr k.tb 0]),exB b3 op num name [x,y]] ?_;refine aT 0 rfl rfl (pL (c:=.atom _) rfl zm0 rfl) ?_;refine aT 1 rfl rfl (pF rfl) ?_;refine aT 2 rfl rfl (pL (c:=.list _) rfl zm1 rfl) ?_);exact h ()):P:=t fun _=>h
theorem qhE {P Q:Prop} (h:Q) (t:(Unit->Q)->P:=by intro h;(refine lD zk ?_;refine qN ?_);exact h ()):P:=t fun _=>h
theorem qsK {P Q:Prop} (h:Q) (t:(Unit->Q)->P:=by intro h;(refine oP (xR (el':=qav f) (n:=((fs.map qav).length:Int)-1) (cs:=[str f.name,.list (f.params.map str),.list (f.locals.map str),.list (f.body.map encS)]) rfl rfl hn0 hget rfl rfl) rfl ?_;refine gac ?_);exact h ()):P:=t fun _=>h
theorem qsw {P Q:Prop} (h:Q) (t:(Unit->Q)->P:=by intro h;(refine gaa ?_;refine oP (xR (el':=encE v) (cs:=[_,_,_,_]) rfl rfl zDd rfl rfl rfl) rfl ?_;refine gav ?_);exact h ()):P:=t fun _=>h
theorem qte {P Q:Prop} (h:Q) (t:(Unit->Q)->P:=by intro h;(refine cD (m:=19) rfl [] ?_;refine aT 0 rfl rfl (pM (lv:=.atom _) rfl) ?_;refine aL ?_ zhn;refine lO 1 (lS (H1:=[rdH rb T i op ln er]) (F:=[]) rfl (.inl rfl) rfl zpr zhr (sH [_,_] rfl pH hks ?_)));exact h ()):P:=t fun _=>h
theorem qsh {P Q:Prop} (h:Q) (t:(Unit->Q)->P:=by intro h;(refine zQ60 ?_;refine oP (xR (el':=iv n0) (cs:=[iv n0]) hel rfl zo rfl rfl rfl) rfl ?_;refine gac ?_);exact h ()):P:=t fun _=>h
theorem qsy {P Q:Prop} (h:Q) (t:(Unit->Q)->P:=by intro h;(refine zl1 (i:=9) zk ?_;refine zQ19 ?_;refine zl1 (i:=14) zk ?_;refine zQ18 ?_;refine zQ42 ?_);exact h ()):P:=t fun _=>h
theorem qse {P Q:Prop} (h:Q) (t:(Unit->Q)->P:=by intro h;(refine gac ?_;refine qP (xR (el':=str qcL[m]) rfl rfl zo (by simp) rfl rfl) rfl ?_;refine gac ?_);exact h ()):P:=t fun _=>h
theorem qiR {P Q:Prop} (h:Q) (t:(Unit->Q)->P:=by intro h;(refine gac ?_;refine zQ15 ?_);exact h ()):P:=t fun _=>h
theorem qih {P Q:Prop} (h:Q) (t:(Unit->Q)->P:=by intro h;(refine zQ60 ?_;refine gax ?_);exact h ()):P:=t fun _=>h
theorem qsi {P Q:Prop} (h:Q) (t:(Unit->Q)->P:=by intro h;(refine zQ19 ?_;refine zQ43 ?_;refine zQ0 ?_);exact h ()):P:=t fun _=>h
theorem qs5 {P Q:Prop} (h:Q) (t:(Unit->Q)->P:=by intro h;(refine lO 5 (lH rfl rfl (pF rfl) ?_);refine lO 6 (lW rfl (.inl rfl) rfl (sS (cs':=[_,_,v',_]) rfl zp1 (Acc.cell ha').1 rfl rfl (Acc.cell ha').2 rfl ?_));refine lD zk ?_;refine gan ?_);exact h ()):P:=t fun _=>h
theorem qsa {P Q:Prop} (h:Q) (t:(Unit->Q)->P:=by intro h;(refine gac ?_;refine qP (xR (el':=str x) (cs:=[_]) rfl rfl zo hmi rfl rfl) rfl ?_;refine gac ?_);exact h ()):P:=t fun _=>h
theorem zT0 {P : Prop} (h : P := by
  simp only[qfl]
  rw[Array.getD_eq_getD_getElem?]
  rcases Nat.lt_or_ge i args.length with hi|hi
  ·rw[List.getElem?_eq_getElem hi]
   obtain ⟨x,hx,hr⟩:=hv.get (List.getElem?_eq_getElem hi)
   have hxi:(vs.toArray++Array.replicate (fn.ntmps-vs.toArray.size) undef)[i]? = some x:=by
    rw[Array.getElem?_append_left (by simp;omega)]
    simpa using hx
   rw[hxi]
   exact hr
  ·rw[List.getElem?_eq_none hi]
   have hxi:((vs.toArray++Array.replicate (fn.ntmps-vs.toArray.size) undef)[i]?).getD undef=undef:=by
    rw[Array.getElem?_append_right (by simp;omega)]
    rw[Array.getElem?_replicate]
    try split <;> rfl
   rw[hxi]
   simp only[Option.getD_none,Rep]) : P := h
theorem zT1 {P : Prop} (h : P := by
  refine zQ14 ?_
  simp only[q1,q2,Bool.false_and,Bool.and_false,Bool.true_and]
  rfl) : P := h
theorem zT2 {P : Prop} (h : P := by
  refine zQ14 ?_
  simp only[q1,Bool.false_and,Bool.and_false,Bool.true_and]
  rfl) : P := h
theorem zT3 {P : Prop} (h : P := by
  refine zQ19 ?_
  refine zl2 (i:=11) (j:=17) zk ?_ ?_
  ·refine zQ26 ?_
   refine zl2 (i:=16) (j:=17) zk ?_ ?_
   ·refine zQ36 ?_
    refine zQ12 ?_
    refine zQ25 ?_
    exact ⟨(),trivial,⟨rfl,trivial⟩,⟨_,List.Perm.refl _⟩,rfl⟩
   ·refine zQ12 ?_
    refine zQ0 ?_
    exact ⟨(),trivial,⟨rfl,trivial⟩,⟨_,List.Perm.refl _⟩,rfl⟩
  ·refine zQ12 ?_
   refine zQ4 ?_
   refine zQ0 ?_
   exact ⟨(),trivial,⟨rfl,trivial⟩,⟨_,List.Perm.refl _⟩,rfl⟩) : P := h
theorem zT4 {P : Prop} (h : P := by
  refine zQ19 ?_
  refine zl2 (i:=11) (j:=17) zk ?_ ?_
  ·refine zQ26 ?_
   refine zl2 (i:=16) (j:=17) zk ?_ ?_
   ·refine zQ36 ?_
    refine zQ2 ?_
    refine zQ25 ?_
    exact ⟨(),trivial,⟨rfl,trivial⟩,⟨_,List.Perm.refl _⟩,rfl⟩
   ·refine zQ2 ?_
    refine zQ0 ?_
    exact ⟨(),trivial,⟨rfl,trivial⟩,⟨_,List.Perm.refl _⟩,rfl⟩
  ·refine zQ2 ?_
   refine zQ4 ?_
   refine zQ0 ?_
   exact ⟨(),trivial,⟨rfl,trivial⟩,⟨_,List.Perm.refl _⟩,rfl⟩) : P := h
theorem zT5 {P : Prop} (h : P := by
  refine zQ14 ?_
  simp only[q1,q2,q3,Bool.false_and,Bool.and_false,Bool.true_and]
  rfl) : P := h
theorem zT6 {P : Prop} (h : P := by
  refine zQ59 ?_
  refine zl2 (i:=15) (j:=23) zk ?_ ?_
  ·refine zQ97 ?_
   refine zl2 (i:=18) (j:=23) zk ?_ ?_
   ·refine zQ17 ?_
    refine qN ?_
    exact ⟨(),trivial,⟨rfl,trivial⟩,⟨_,List.Perm.refl _⟩,rfl⟩
   ·refine zQ6 ?_
    refine zQ1 ?_
    exact ⟨(),trivial,⟨rfl,trivial⟩,⟨_,List.Perm.refl _⟩,rfl⟩
  ·refine zQ6 ?_
   refine zQ31 ?_
   exact ⟨(),trivial,⟨rfl,trivial⟩,⟨_,List.Perm.refl _⟩,rfl⟩) : P := h
theorem zT7 {P : Prop} (h : P := by
  refine zQ14 ?_
  simp only[q1,q2,q3,q4,Bool.false_and,Bool.and_false,Bool.true_and]
  rfl) : P := h
theorem zT8 {P : Prop} (h : P := by
  refine zQ16 ?_
  refine zl2 (i:=9) (j:=10) zk ?_ ?_
  ·refine qsi ?_
   exact ⟨(),trivial,⟨rfl,trivial⟩,⟨_,List.Perm.refl _⟩,rfl⟩
  ·refine zQ2 ?_
   refine zQ9 ?_
   exact ⟨(),trivial,⟨rfl,trivial⟩,⟨_,List.Perm.refl _⟩,rfl⟩) : P := h
theorem zT9 {P : Prop} (h : P := by
  rw[hr2,h3,qay] at hI
  refine gah ?_
  exact qah.panic (he'.trans (hj2.trans hj)) (qq6 (A:=[(b5,LObj.cells 182 [str (exOp ex),int .u32 (qes ex),str (qcX ex),.list (qbL ex)]),(b,LObj.cells 182 [str [],int .u32 0,str [],qaa])]) (B:=[(bo,LObj.cells 224 [.atom (.func (.func fn) first caps)]),(bs,LObj.cells 48 [ptr sb 0]),(bp,LObj.cells 30 [.list ((qbq k).map str)]),(bn,LObj.cells 4 [bool (decide ((k:Int)=2))])])) (by cases hI;exact ⟨rfl,i3,op3,rfl⟩)) : P := h
theorem zT10 {P : Prop} (h : P := by
  refine zQ26 ?_
  refine zl2 (i:=14) (j:=19) zk ?_ ?_
  ·refine zQ30 ?_
   refine qN ?_
   exact ⟨(),trivial,⟨rfl,rfl,rfl,rfl,rfl,trivial⟩,zhR _,rfl⟩
  ·refine zQ6 ?_
   refine zQ3 ?_
   exact ⟨(),trivial,⟨rfl,rfl,rfl,rfl,rfl,trivial⟩,zhR _,rfl⟩) : P := h
theorem zT11 {P : Prop} (h : P := by
  rw[hr2,h3,qay] at hI
  refine gah ?_
  exact panP (he'.trans (hj2.trans hj)) (by cases hI;rfl) zhp) : P := h
theorem zT12 {P : Prop} (h : P := by
  refine zl1 (i:=1) zk ?_
  refine lH rfl rfl (pL (c:=.atom _) rfl zm2 rfl) ?_
  refine zQ21 ?_
  have hp:qbZ s=(noPr,l,er):=by rw[qbZ,hL]
  rw[hp]
  exact ⟨[qgL noPr,int .i64 l,int .i64 er],[],rC (rA (k:=3) (cs:=[qaa,qaa,qaa]) rfl memA rfl (vA (bs:=[.list [],.list [],.list []]) ⟨vN,vN,vN,trivial⟩)) (rC (qdT.cellOne (cs:=[int .i64 l]) rfl memA rfl zsr) (rC (qdT.cellOne (cs:=[int .i64 er]) rfl memA rfl zsr) rN)),HSub.nil _,rfl,rfl⟩) : P := h
theorem zT13 {P : Prop} (h : P := by
  refine lH rfl rfl (pL (c:=.atom _) rfl zm1 rfl) ?_
  refine zQ21 ?_
  have hp:qbZ s=(noPr,l,er):=by rw[qbZ,hL]
  rw[hp]
  exact ⟨[qgL noPr,int .i64 l,int .i64 er],[],rC (rA (k:=3) (cs:=[qaa,qaa,qaa]) rfl memA rfl (vA (bs:=[.list [],.list [],.list []]) ⟨vN,vN,vN,trivial⟩)) (rC (qdT.cellOne (cs:=[int .i64 l]) rfl memA rfl zsr) (rC (qdT.cellOne (cs:=[int .i64 er]) rfl memA rfl zsr) rN)),HSub.nil _,rfl,rfl⟩) : P := h
theorem zT14 {P : Prop} (h : P := by
  refine zl1 (i:=3) zk ?_
  refine zQ86 ?_
  refine zQ21 ?_
  have hp:qbZ s=(noPr,l,er):=by rw[qbZ,hL]
  rw[hp]
  exact ⟨[qgL noPr,int .i64 l,int .i64 er],[],rC (rA (k:=3) (cs:=[qaa,qaa,qaa]) rfl memA rfl (vA (bs:=[.list [],.list [],.list []]) ⟨vN,vN,vN,trivial⟩)) (rC (qdT.cellOne (cs:=[int .i64 l]) rfl memA rfl zsr) (rC (qdT.cellOne (cs:=[int .i64 er]) rfl memA rfl zsr) rN)),HSub.nil _,rfl,rfl⟩) : P := h
theorem zT15 {P : Prop} (h : P := by
  rw[hr2,h4,qau] at hI
  obtain ⟨g1,g2,g3,rfl⟩:=(qcQ T k).1 0 _ _ _ (hr2.trans (congrArg some h4))
  have g5:=g3 zo
  have g6:=g2 rfl
  refine zQ15 ?_
  refine oS (S.acc1 rfl hacc rfl (by simp;rfl) rfl (by simp;omega) fun v' H' hacc'=>?_) rfl
  refine zQ62 ?_
  refine gad ?_
  exact ⟨k,_,_,by omega,⟨v',l++[e2],i4,H',by omega,rfl,rfl,by rw[zMa];exact hacc',by omega,by simp;omega,hI⟩,⟨rfl,rfl,trivial⟩,zhR _,hj⟩) : P := h
theorem zT16 {P : Prop} (h : P := by
  refine zQ2 ?_
  refine zQ51 ?_
  exact ⟨(),trivial,⟨rfl,trivial⟩,⟨_,List.Perm.refl _⟩,rfl⟩) : P := h
theorem zT17 {P : Prop} (h : P := by
  refine zQ83 ?_
  have hp:qbZ s=(noPr,l,er):=by rw[qbZ,hL]
  rw[hp]
  exact ⟨[qgL noPr,int .i64 l,int .i64 er],[],rC (rA (k:=3) (cs:=[qaa,qaa,qaa]) rfl memA rfl (vA (bs:=[.list [],.list [],.list []]) ⟨vN,vN,vN,trivial⟩)) (rC (qdT.cellOne (cs:=[int .i64 l]) rfl memA rfl zsr) (rC (qdT.cellOne (cs:=[int .i64 er]) rfl memA rfl zsr) rN)),HSub.nil _,rfl,rfl⟩) : P := h
theorem zT18 {P : Prop} (h : P := by
  intro h
  have h':_:=zt h
  obtain ⟨a1,a2,a3,a4,a5⟩:=h'
  exact ⟨⟨⟨⟨by simpa using a1,by omega⟩,by omega⟩,by omega⟩,by omega⟩) : P := h
theorem zT19 {P : Prop} (h : P := by
  refine zl1 (i:=14) zk ?_
  refine zQ2 ?_
  refine zQ31 ?_
  exact ⟨(),trivial,⟨rfl,trivial⟩,⟨_,List.Perm.refl _⟩,rfl⟩) : P := h
theorem zT20 {P : Prop} (h : P := by
  refine zQ2 ?_
  refine zQ9 ?_
  exact ⟨(),trivial,⟨rfl,trivial⟩,⟨_,List.Perm.refl _⟩,rfl⟩) : P := h
theorem zT21 {P : Prop} (h : P := by
  refine zQ2 ?_
  refine zl2 (i:=4) (j:=17) zk ?_ ?_
  ·refine zQ16 ?_
   refine zl2 (i:=9) (j:=17) zk ?_ ?_
   ·exact zT3
   ·refine zQ12 ?_
    refine zQ9 ?_
    exact ⟨(),trivial,⟨rfl,trivial⟩,⟨_,List.Perm.refl _⟩,rfl⟩
  ·refine zQ12 ?_
   refine zQ51 ?_
   exact ⟨(),trivial,⟨rfl,trivial⟩,⟨_,List.Perm.refl _⟩,rfl⟩) : P := h
theorem zT22 {P : Prop} (h : P := by
  rintro ⟨⟨⟨⟨a1,a2⟩,a3⟩,a4⟩,a5⟩
  exact decide_eq_true ⟨by simpa using a1,by omega,by omega,by omega,by omega⟩) : P := h
theorem zT23 {P : Prop} (h : P := by
  refine zl1 (i:=8) zk ?_
  refine lS (H1:=[]) rfl (.inl rfl) rfl zpr hsb (sL [_,_] rfl (qaC [_,_]) rfl rfl rfl ?_)
  refine zQ24 ?_
  exact ⟨i2,_,_,Nat.lt_succ_self _,⟨i2,_,by omega,rfl,rfl,rfl,by rw[zAs];exact hV2⟩,⟨rfl,rfl,rfl,rfl,rfl,rfl,qaf zo,trivial⟩,zhP zp1 (zhP zp1 zhr),hj2⟩) : P := h
theorem zT24 {P : Prop} (h : P := by
  refine zQ26 ?_
  refine zl2 (i:=14) (j:=17) zk ?_ ?_
  ·refine zQ18 ?_
   refine zl1 (i:=17) zk ?_
   refine zQ7 ?_
   refine zQ5 ?_
   exact ⟨(),trivial,⟨rfl,trivial⟩,⟨_,List.Perm.refl _⟩,rfl⟩
  ·refine zQ7 ?_
   refine zQ73 ?_
   exact ⟨(),trivial,⟨rfl,trivial⟩,⟨_,List.Perm.refl _⟩,rfl⟩) : P := h
theorem zT25 {P : Prop} (h : P := by
  have he:er1≠0:=by simpa using hd
  rw[qaD he] at hr1
  refine gab ?_
  exact retQ (v:=.mk [] 0 [] []) rfl (rC (rA (k:=4) rfl zm0 rfl (vA (bs:=[_,_,_,.list []]) ⟨vR _,vR _,vR _,vN,trivial⟩)) rN) (qci he) (by rw[qaD he];exact hr1) rfl (zhP zp1 zhn)) : P := h
theorem zT26 {P : Prop} (h : P := by
  rw[hr1,h2,qay] at hr
  refine gah ?_
  exact panP (he'.trans hj) (by cases hr;rfl) zhp) : P := h
theorem zT27 {P : Prop} (h : P := by
  rw[h1,qay] at hr
  refine gas ?_
  exact panP (he'.trans rfl) (by cases hr;rfl) zhp) : P := h
theorem zT28 {P : Prop} (h : P := by
  have hk:¬ k=2:=by have:=zf hk2;omega
  rw[if_neg hk] at hI
  refine gad ?_
  exact ⟨q,_,_,by omega,⟨.mk (qca T i2) 0 [] [ex,e2],i3,by omega,rfl,rfl,q4,hI⟩,⟨rfl,rfl,rfl,rfl,rfl,rfl,trivial⟩,(by rw[qh6];exact zhR _),hj2.trans hj⟩) : P := h
theorem zT29 {P : Prop} (h : P := by
  have hi':i=arrays.length:=by have:=zf hc;omega
  subst hi'
  rw[List.take_length] at hacc
  refine qae.sub (d:=6) (v:=v) rfl hacc.sub ?_
  refine cW zhn ?_
  refine gab ?_
  exact qac hj (rC (rT (v:=.list _) rfl zsr) (zra rfl)) rfl) : P := h
theorem zT30 {P : Prop} (h : P := by
  rw[if_pos hc0] at hC
  subst hC
  refine oC rfl (fun _=>?_) (fun hc=>?_)
  ·refine gaa ?_
   exact qac rfl (rC (zrt rfl) (zra rfl)) rfl
  ·have h2:(!decide (qb1 vars arrays fs=0))=false:=hc
   simp at h2
   exact absurd h2 hc0) : P := h
theorem zT31 {P : Prop} (h : P := by
  rw[if_pos hc0] at hR
  subst hR
  refine oC rfl (fun _=>?_) (fun hc=>?_)
  ·refine gaa ?_
   exact qac rfl (rC (zrt rfl) (rC (zrt rfl) (zra rfl))) rfl
  ·have h2:(!decide (e=0))=false:=hc
   simp at h2
   exact absurd h2 hc0) : P := h
theorem zT32 {P : Prop} (h : P := by
  refine zl1 (i:=12) zk ?_
  refine zQ7 ?_
  refine zQ67 ?_
  exact ⟨(),trivial,⟨rfl,trivial⟩,⟨_,List.Perm.refl _⟩,rfl⟩) : P := h
theorem zT33 {P : Prop} (h : P := by
  rw[hr1,h1,qay] at hr
  refine gah ?_
  exact panP zb0 (by cases hr;rfl) zhp) : P := h
theorem zT34 {P : Prop} (h : P := by
  rw[h,Bool.true_and] at r1
  refine gal ?_
  refine oS (sF [_] rfl (qlf _ hlen) ?_) rfl
  refine gad ?_
  exact qb4 rfl (rC (rT (v:=.atom _) rfl (vR _)) (rC (rT (v:=.atom _) rfl (vR _)) rN)) (qmK.mk r1 r2)) : P := h
theorem zT35 {P : Prop} (h : P := by
  refine zl1 (i:=8) zk ?_
  refine lS (H1:=[]) rfl (.inl rfl) rfl zpr ⟨_,List.Perm.refl _⟩ (sF [_,_] rfl p8 ?_)
  refine zl1 (i:=9) zk ?_
  refine zQ10 ?_
  exact ⟨(),trivial,⟨rfl,trivial⟩,⟨_,List.Perm.refl _⟩,rfl⟩) : P := h
theorem zT36 {P : Prop} (h : P := by
  rw[h1,qay] at hr
  refine gah ?_
  exact panP zb0 (by cases hr;rfl) zhp) : P := h
theorem zT37 {P : Prop} (h : P := by
  rw[h3,qay] at hr
  refine gah ?_
  exact panP zb0 (by cases hr;rfl) zhp) : P := h
theorem zT38 {P : Prop} (h : P := by
  refine zQ6 ?_
  refine zQ4 ?_
  refine zQ3 ?_
  exact ⟨(),trivial,⟨rfl,rfl,rfl,rfl,rfl,trivial⟩,zhR _,rfl⟩) : P := h
theorem zT39 {P : Prop} (h : P := by
  refine gad ?_
  exact ⟨⟨rfl,rfl,qai (by rw[ht];simp),trivial⟩,rfl,rfl⟩) : P := h
theorem zT40 {P : Prop} (h : P := by
  refine gad ?_
  exact qac rfl (zra rfl) (by simp[qbv,qaH,ht,hd])) : P := h
theorem zT41 {P : Prop} (h : P := by
  refine gae ?_
  exact ⟨⟨rfl,rfl,qai (by
   have:=zf h9
   rw[nl hlet (decide_eq_true (show 48<=cv a by omega)).symm (decide_eq_true (show cv a<=57 by omega)).symm rfl]
   rfl),trivial⟩,rfl,rfl⟩) : P := h
theorem zT42 {P : Prop} (h : P := by
  have hk:k=2:=by have:=zt hk2;omega
  rw[if_pos hk] at hI
  refine gab ?_
  exact rR (hj2.trans hj) (rC (rA rfl zm0 rfl zsr) rN) (zhD (zhD zhr)) (by cases hI;exact ⟨by rw[qbW];rfl,rfl⟩)) : P := h
theorem zT43 {P : Prop} (h : P := by
  refine zl1 (i:=3) zk ?_
  refine lS (H1:=[]) rfl (.inl rfl) rfl zpr ⟨_,List.Perm.refl _⟩ (sF [_,_] rfl p3 ?_)
  refine zQ46 ?_
  exact ⟨(),trivial,⟨rfl,trivial⟩,⟨_,List.Perm.refl _⟩,rfl⟩) : P := h
theorem zT44 {P : Prop} (h : P := by
  refine zQ35 ?_
  refine zl2 (i:=11) (j:=14) zk ?_ ?_
  ·refine zQ59 ?_
   exact zT19
  ·refine zQ2 ?_
   refine zQ11 ?_
   exact ⟨(),trivial,⟨rfl,trivial⟩,⟨_,List.Perm.refl _⟩,rfl⟩) : P := h
theorem zT45 {P : Prop} (h : P := by
  refine gad ?_
  refine zQ56 ?_
  exact ⟨⟨rfl,rfl,qai (by
   have:=zt h8
   rw[nl hlet (decide_eq_false (show ¬ 48<=cv a by omega)).symm rfl rfl]
   simp),trivial⟩,rfl,rfl⟩) : P := h
theorem zT46 {P : Prop} (h : P := by
  refine gal ?_
  refine zQ56 ?_
  exact ⟨⟨rfl,rfl,qai (by
   have:=zt h9
   rw[nl hlet rfl (decide_eq_false (show ¬ cv a<=57 by omega)).symm rfl]
   simp),trivial⟩,rfl,rfl⟩) : P := h
namespace Go.GL
theorem zo {P:Prop} (h:P:=by omega):P:=h
theorem zk {P:Prop} (h:P:=by kernel_rfl):P:=h
theorem zpr {α:Type _} {l:List α}:l.Perm l:=List.Perm.refl _
theorem zm0 {α:Type _} {a:α} {l:List α}:a∈a::l:=(List.Mem.head _)
theorem zm1 {α:Type _} {a b:α} {l:List α}:b∈a::b::l:=(List.Mem.tail _ (List.Mem.head _))
theorem zm2 {α:Type _} {a b c:α} {l:List α}:c∈a::b::c::l:=(List.Mem.tail _ (List.Mem.tail _ (List.Mem.head _)))
theorem zm3 {α:Type _} {a b c d:α} {l:List α}:d∈a::b::c::d::l:=(List.Mem.tail _ (List.Mem.tail _ (List.Mem.tail _ (List.Mem.head _))))
theorem zm4 {α:Type _} {a b c d e:α} {l:List α}:e∈a::b::c::d::e::l:=(List.Mem.tail _ (List.Mem.tail _ (List.Mem.tail _ (List.Mem.tail _ (List.Mem.head _)))))
theorem zm5 {α:Type _} {a b c d e f:α} {l:List α}:f∈a::b::c::d::e::f::l:=(List.Mem.tail _ (List.Mem.tail _ (List.Mem.tail _ (List.Mem.tail _ (List.Mem.tail _ (List.Mem.head _))))))
theorem zm6 {α:Type _} {a b c d e f g:α} {l:List α}:g∈a::b::c::d::e::f::g::l:=(List.Mem.tail _ (List.Mem.tail _ (List.Mem.tail _ (List.Mem.tail _ (List.Mem.tail _ (List.Mem.tail _ (List.Mem.head _)))))))
theorem zm7 {α:Type _} {a b c d e f g h:α} {l:List α}:h∈a::b::c::d::e::f::g::h::l:=(List.Mem.tail _ (List.Mem.tail _ (List.Mem.tail _ (List.Mem.tail _ (List.Mem.tail _ (List.Mem.tail _ (List.Mem.tail _ (List.Mem.head _))))))))
theorem zm8 {α:Type _} {a b c d e f g h i:α} {l:List α}:i∈a::b::c::d::e::f::g::h::i::l:=(List.Mem.tail _ (List.Mem.tail _ (List.Mem.tail _ (List.Mem.tail _ (List.Mem.tail _ (List.Mem.tail _ (List.Mem.tail _ (List.Mem.tail _ (List.Mem.head _)))))))))
theorem zb0 {P:Prop} (h:P:=by first|exact he9.trans rfl|exact he9.trans hj|exact he9.trans (hj2.trans hj)):P:=h
theorem zb1 {P:Prop} (h:P:=by first|exact pH|exact pT pH|exact pT (pT (pH))|exact pT (pT (pT (pH)))|exact pT (pT (pT (pT (pH))))|exact pT (pT (pT (pT (pT (pH)))))|exact pT (pT (pT (pT (pT (pT (pH))))))|exact pT (pT (pT (pT (pT (pT (pT (pH)))))))):P:=h
theorem zt {p:Prop} [Decidable p] (h:decide p=true):p:=of_decide_eq_true h
theorem zf {p:Prop} [Decidable p] (h:decide p=false):¬p:=of_decide_eq_false h
theorem gaa {P Q:Prop} (h:Q) (t:(Unit->Q)->P:=by intro h;(repeat first|refine qN ?_|refine LOps.nil ?_|refine qae.region ?_|refine qae.seq ?_|refine oP (pM (lv:=.atom _) rfl) rfl ?_|refine oP (pA (lv:=.atom _) rfl) rfl ?_|refine qae.ret ?_|refine oP (pF rfl) rfl ?_|refine qae.skip ?_|refine qaA.ret ?_|refine LOps.want rfl rfl ?_|refine qae.block ?_|refine qaq.normal ?_|refine qaq.ret ?_|refine oP (Pure.pickT (lv:=.atom _) rfl rfl) rfl ?_|refine oP (Pure.pickF (lv:=.atom _) rfl rfl) rfl ?_|refine oP (Pure.add rfl rfl (by omega)) rfl ?_|refine LOps.skip rfl rfl rfl rfl ?_|refine oP (Pure.eql rfl rfl) rfl ?_|refine oP (pL (c:=.atom _) rfl (List.Mem.head _) rfl) rfl ?_|refine qae.exit ?_|refine qaq.hit ?_|refine qaA.exit ?_|refine oP (Pure.lss rfl rfl) rfl ?_|refine qaA.panic ?_|refine oP (Pure.seq rfl rfl) rfl ?_|refine oP (pM (lv:=.list _) rfl) rfl ?_|refine oP (Pure.llen rfl) rfl ?_|refine oP (pN rfl) rfl ?_|refine qaq.panic ?_|refine oP (Pure.extract (c:=.atom _) rfl rfl) rfl ?_|refine oP (Pure.not rfl) rfl ?_|refine oP (pM (lv:=.tuple _) rfl) rfl ?_|refine oP (pL (c:=.list _) rfl (List.Mem.head _) rfl) rfl ?_|refine oS (sS (cs':=[_,_]) rfl pH rfl rfl rfl rfl rfl ?_) rfl|refine qP (pM (lv:=.atom _) rfl) rfl ?_);exact h ()):P:=t fun _=>h
theorem gab {P Q:Prop} (h:Q) (t:(Unit->Q)->P:=by intro h;(repeat first|refine qN ?_|refine LOps.nil ?_|refine qae.region ?_|refine qae.seq ?_|refine oP (pM (lv:=.atom _) rfl) rfl ?_|refine oP (pA (lv:=.atom _) rfl) rfl ?_|refine qae.ret ?_|refine oP (pF rfl) rfl ?_|refine qae.skip ?_|refine qaA.ret ?_|refine LOps.want rfl rfl ?_|refine qae.block ?_|refine qaq.normal ?_|refine qaq.ret ?_|refine oP (Pure.pickT (lv:=.atom _) rfl rfl) rfl ?_|refine oP (Pure.pickF (lv:=.atom _) rfl rfl) rfl ?_|refine oP (Pure.add rfl rfl (by omega)) rfl ?_|refine LOps.skip rfl rfl rfl rfl ?_|refine oP (Pure.eql rfl rfl) rfl ?_|refine oP (pL (c:=.atom _) rfl (List.Mem.head _) rfl) rfl ?_|refine qae.exit ?_|refine qaq.hit ?_|refine qaA.exit ?_|refine oP (Pure.lss rfl rfl) rfl ?_|refine oP (Pure.seq rfl rfl) rfl ?_|refine oP (pM (lv:=.list _) rfl) rfl ?_|refine oP (Pure.llen rfl) rfl ?_|refine oP (pN rfl) rfl ?_|refine oP (Pure.extract (c:=.atom _) rfl rfl) rfl ?_|refine oP (Pure.not rfl) rfl ?_|refine oP (pM (lv:=.tuple _) rfl) rfl ?_|refine oP (pL (c:=.list _) rfl (List.Mem.head _) rfl) rfl ?_|refine oS (sS (cs':=[_,_]) rfl pH rfl rfl rfl rfl rfl ?_) rfl|refine oP (pA (lv:=.list _) rfl) rfl ?_|refine oP (pL (c:=.atom _) rfl (List.Mem.tail _ (List.Mem.head _)) rfl) rfl ?_|refine oP (pO (c:=.atom _) rfl rfl) rfl ?_|refine oP (Pure.neq rfl rfl) rfl ?_|refine oP (Pure.slen rfl) rfl ?_|refine LQ.nil ?_|refine oP (pB _ (cs:=[_,_]) rfl) rfl ?_|refine oP (Pure.gtr rfl rfl) rfl ?_|refine oS (sS (cs':=[_,_,_,_,_]) rfl pH rfl rfl rfl rfl rfl ?_) rfl|refine oS (sS (cs':=[_,_,_,_]) rfl pH rfl rfl rfl rfl rfl ?_) rfl|refine qP (pF rfl) rfl ?_|refine oP (Pure.sub rfl rfl (by omega)) rfl ?_|refine qP (pL (c:=.atom _) rfl (List.Mem.head _) rfl) rfl ?_|refine qP (pO (c:=.atom _) rfl rfl) rfl ?_|refine oS (sS (cs':=[_,_,_]) rfl pH rfl rfl rfl rfl rfl ?_) rfl|refine oS (sS (cs':=[_,_,_,_,_,_]) rfl (pT pH) rfl rfl rfl rfl rfl ?_) rfl|refine oP (pL (c:=.list _) rfl (List.Mem.tail _ (List.Mem.head _)) rfl) rfl ?_|refine qP (pL (c:=.list _) rfl (List.Mem.head _) rfl) rfl ?_|refine oP (Pure.sadd rfl rfl (by first|omega|(simp only[zLa,zLc,zLn];omega))) rfl ?_|refine qP (pA (lv:=.atom _) rfl) rfl ?_|refine oP (Pure.field1 rfl rfl) rfl ?_|refine oP (Pure.geq rfl rfl) rfl ?_|refine oP (pB _ (cs:=[_,_,_,_]) rfl) rfl ?_|refine oP (Pure.extract (c:=.agg _) rfl rfl) rfl ?_|refine oP (pB _ (cs:=[_,_,_]) rfl) rfl ?_|refine oP (Pure.extract (c:=.list _) rfl rfl) rfl ?_|refine oP (Pure.leq rfl rfl) rfl ?_|refine oP (pG (cs':=[_,_,_]) rfl (List.Mem.head _) rfl rfl) rfl ?_|refine oP (pL (c:=.atom _) rfl (List.Mem.tail _ (List.Mem.tail _ (List.Mem.head _))) rfl) rfl ?_|refine oS (sS (cs':=[_,_,_,_,_,_]) rfl (pT (pT pH)) rfl rfl rfl rfl rfl ?_) rfl|refine oS (sS (cs':=[_,_,_,_]) rfl (pT pH) rfl rfl rfl rfl rfl ?_) rfl|refine oP (pG (cs':=[_,_,_,_]) rfl (List.Mem.tail _ (List.Mem.head _)) rfl rfl) rfl ?_|refine oP (pG (cs':=[_,_]) rfl (List.Mem.head _) rfl rfl) rfl ?_|refine oP (pG (cs':=[_,_]) rfl (List.Mem.tail _ (List.Mem.head _)) rfl rfl) rfl ?_|refine oP (pL (c:=.list _) rfl (List.Mem.tail _ (List.Mem.tail _ (List.Mem.head _))) rfl) rfl ?_|refine oS (sS (cs':=[_,_,_,_]) rfl (pT (pT pH)) rfl rfl rfl rfl rfl ?_) rfl|refine lP (pO (c:=.atom _) rfl rfl) rfl ?_|refine oP (pG (cs':=[_,_,_,_]) rfl (List.Mem.head _) rfl rfl) rfl ?_|refine oP (pG (cs':=[_,_,_]) rfl (List.Mem.tail _ (List.Mem.head _)) rfl rfl) rfl ?_|refine oS (sS (cs':=[_,_,_,_,_,_]) rfl pH rfl rfl rfl rfl rfl ?_) rfl|refine oP (pG (cs':=[_,_,_,_,_,_]) rfl (List.Mem.head _) rfl rfl) rfl ?_|refine LS.nil ?_|refine oP (pB _ (cs:=[_,_,_,_,_]) rfl) rfl ?_|refine qP (Pure.llen rfl) rfl ?_|refine oP (pG (cs':=[_,_,_,_,_,_]) rfl (List.Mem.tail _ (List.Mem.head _)) rfl rfl) rfl ?_|refine oS (sS (cs':=[_,_]) rfl (pT pH) rfl rfl rfl rfl rfl ?_) rfl|refine oP (pA (lv:=.app _ _ _ _) rfl) rfl ?_|refine oP (Pure.sneq rfl rfl) rfl ?_|refine LOps.skipU rfl rfl rfl ?_|refine lP (pF rfl) rfl ?_|refine oP (pB _ (cs:=[_,_,_,_,_,_]) rfl) rfl ?_|refine oP (Pure.cvt rfl) rfl ?_|refine oP (pG (cs':=[_,_,_,_,_,_]) rfl (List.Mem.tail _ (List.Mem.tail _ (List.Mem.tail _ (List.Mem.head _)))) rfl rfl) rfl ?_|refine oP (pO (c:=.list _) rfl rfl) rfl ?_|refine oS (sS (cs':=[_,_]) rfl (pT (pT pH)) rfl rfl rfl rfl rfl ?_) rfl|refine qaq.miss zDd ?_|refine oP (pG (cs':=[_,_,_,_,_,_]) rfl (List.Mem.tail _ (List.Mem.tail _ (List.Mem.head _))) rfl rfl) rfl ?_|refine oP (Pure.makeFunc rfl rfl) rfl ?_|refine oS (sS (cs':=[_,_,_,_,_]) rfl (pT pH) rfl rfl rfl rfl rfl ?_) rfl|refine oP (pG (cs':=[_,_,_]) rfl (List.Mem.tail _ (List.Mem.tail _ (List.Mem.tail _ (List.Mem.tail _ (List.Mem.head _))))) rfl rfl) rfl ?_|refine oP (pL (c:=.atom _) rfl (List.Mem.tail _ (List.Mem.tail _ (List.Mem.tail _ (List.Mem.tail _ (List.Mem.head _))))) rfl) rfl ?_|refine oP (Pure.nilNeqNil rfl) rfl ?_|refine oP (Pure.ifaceNeqNil rfl) rfl ?_|refine oP (pG (cs':=[_,_]) rfl (List.Mem.tail _ (List.Mem.tail _ (List.Mem.head _))) rfl rfl) rfl ?_|refine oP (pL (c:=.atom _) rfl (List.Mem.tail _ (List.Mem.tail _ (List.Mem.tail _ (List.Mem.tail _ (List.Mem.tail _ (List.Mem.tail _ (List.Mem.head _))))))) rfl) rfl ?_|refine oP (Pure.makeInterfaceAgg (vs:=[_,_]) rfl) rfl ?_|refine oP (pM (lv:=.app _ _ _ _) rfl) rfl ?_|refine oS (sS (cs':=[_,_,_,_]) rfl (pT (pT (pT (pT pH)))) rfl rfl rfl rfl rfl ?_) rfl|refine oS (sS (cs':=[_,_,_]) rfl (pT (pT pH)) rfl rfl rfl rfl rfl ?_) rfl|refine oS (sS (cs':=[_,_,_]) rfl (pT pH) rfl rfl rfl rfl rfl ?_) rfl|refine qP (Pure.extract (c:=.atom _) rfl rfl) rfl ?_|refine qP (pM (lv:=.tuple _) rfl) rfl ?_|refine qP (Pure.sneq rfl rfl) rfl ?_|refine oP (pG (cs':=[_,_,_,_]) rfl (List.Mem.tail _ (List.Mem.tail _ (List.Mem.head _))) rfl rfl) rfl ?_|refine oP (pL (c:=.list _) rfl (List.Mem.tail _ (List.Mem.tail _ (List.Mem.tail _ (List.Mem.tail _ (List.Mem.tail _ (List.Mem.head _)))))) rfl) rfl ?_|refine oS (sS (cs':=[_,_,_,_,_,_,_]) rfl (pT (pT pH)) rfl rfl rfl rfl rfl ?_) rfl|refine oS (sS (cs':=[_,_,_,_,_,_,_]) rfl pH rfl rfl rfl rfl rfl ?_) rfl|refine oS (sS (cs':=[_,_,_,_,_]) rfl (pT (pT pH)) rfl rfl rfl rfl rfl ?_) rfl|refine oS (sS (cs':=[_,_]) rfl (pT (pT (pT pH))) rfl rfl rfl rfl rfl ?_) rfl|refine oS (sS (cs':=[_]) rfl pH rfl rfl rfl rfl rfl ?_) rfl|refine lP (Pure.sadd rfl rfl (by first|omega|(simp only[zLa,zLc,zLn];omega))) rfl ?_);exact h ()):P:=t fun _=>h
theorem gac {P Q:Prop} (h:Q) (t:(Unit->Q)->P:=by intro h;(repeat first|refine qN ?_|refine LOps.nil ?_|refine qae.seq ?_|refine oP (pM (lv:=.atom _) rfl) rfl ?_|refine oP (pA (lv:=.atom _) rfl) rfl ?_|refine qae.ret ?_|refine oP (pF rfl) rfl ?_|refine qaA.ret ?_|refine LOps.want rfl rfl ?_|refine qae.block ?_|refine qaq.normal ?_|refine qaq.ret ?_|refine oP (Pure.pickT (lv:=.atom _) rfl rfl) rfl ?_|refine oP (Pure.pickF (lv:=.atom _) rfl rfl) rfl ?_|refine oP (Pure.add rfl rfl (by omega)) rfl ?_|refine LOps.skip rfl rfl rfl rfl ?_|refine oP (Pure.eql rfl rfl) rfl ?_|refine oP (pL (c:=.atom _) rfl (List.Mem.head _) rfl) rfl ?_|refine oP (Pure.lss rfl rfl) rfl ?_|refine oP (Pure.seq rfl rfl) rfl ?_|refine oP (pM (lv:=.list _) rfl) rfl ?_|refine oP (Pure.llen rfl) rfl ?_|refine oP (pN rfl) rfl ?_|refine oP (Pure.extract (c:=.atom _) rfl rfl) rfl ?_|refine oP (Pure.not rfl) rfl ?_|refine oP (pM (lv:=.tuple _) rfl) rfl ?_|refine oP (pL (c:=.list _) rfl (List.Mem.head _) rfl) rfl ?_|refine qP (pM (lv:=.atom _) rfl) rfl ?_|refine oP (pA (lv:=.list _) rfl) rfl ?_|refine oP (pL (c:=.atom _) rfl (List.Mem.tail _ (List.Mem.head _)) rfl) rfl ?_|refine oP (pO (c:=.atom _) rfl rfl) rfl ?_|refine oP (Pure.neq rfl rfl) rfl ?_|refine oP (Pure.slen rfl) rfl ?_|refine LQ.nil ?_|refine LQ.want rfl rfl ?_|refine oP (pB _ (cs:=[_,_]) rfl) rfl ?_|refine oP (Pure.gtr rfl rfl) rfl ?_|refine oS (sS (cs':=[_,_,_,_,_]) rfl pH rfl rfl rfl rfl rfl ?_) rfl|refine oS (sS (cs':=[_,_,_,_]) rfl pH rfl rfl rfl rfl rfl ?_) rfl|refine qP (pF rfl) rfl ?_|refine oP (Pure.sub rfl rfl (by omega)) rfl ?_|refine qP (pL (c:=.atom _) rfl (List.Mem.head _) rfl) rfl ?_|refine qP (pO (c:=.atom _) rfl rfl) rfl ?_|refine oS (sS (cs':=[_,_,_]) rfl pH rfl rfl rfl rfl rfl ?_) rfl|refine oS (sS (cs':=[_,_,_,_,_,_]) rfl (pT pH) rfl rfl rfl rfl rfl ?_) rfl|refine oP (pL (c:=.list _) rfl (List.Mem.tail _ (List.Mem.head _)) rfl) rfl ?_|refine qP (Pure.field1 rfl rfl) rfl ?_|refine qP (pL (c:=.list _) rfl (List.Mem.head _) rfl) rfl ?_|refine qP (pN rfl) rfl ?_|refine oP (Pure.sadd rfl rfl (by first|omega|(simp only[zLa,zLc,zLn];omega))) rfl ?_|refine qP (pA (lv:=.atom _) rfl) rfl ?_|refine oP (Pure.field1 rfl rfl) rfl ?_|refine oP (Pure.geq rfl rfl) rfl ?_|refine oP (pB _ (cs:=[_,_,_,_]) rfl) rfl ?_|refine oP (Pure.extract (c:=.agg _) rfl rfl) rfl ?_|refine oP (pB _ (cs:=[_,_,_]) rfl) rfl ?_|refine oP (Pure.extract (c:=.list _) rfl rfl) rfl ?_|refine oP (Pure.leq rfl rfl) rfl ?_|refine oP (pG (cs':=[_,_,_]) rfl (List.Mem.head _) rfl rfl) rfl ?_|refine oP (pL (c:=.atom _) rfl (List.Mem.tail _ (List.Mem.tail _ (List.Mem.head _))) rfl) rfl ?_|refine oS (sS (cs':=[_,_,_,_,_,_]) rfl (pT (pT pH)) rfl rfl rfl rfl rfl ?_) rfl|refine oS (sS (cs':=[_,_,_,_]) rfl (pT pH) rfl rfl rfl rfl rfl ?_) rfl|refine qP (pM (lv:=.list _) rfl) rfl ?_|refine qP (Pure.pickF (lv:=.atom _) rfl rfl) rfl ?_|refine qP (Pure.pickT (lv:=.atom _) rfl rfl) rfl ?_|refine oP (pG (cs':=[_,_]) rfl (List.Mem.tail _ (List.Mem.head _)) rfl rfl) rfl ?_|refine oP (pL (c:=.list _) rfl (List.Mem.tail _ (List.Mem.tail _ (List.Mem.head _))) rfl) rfl ?_|refine oS (sS (cs':=[_,_,_,_]) rfl (pT (pT pH)) rfl rfl rfl rfl rfl ?_) rfl|refine LQ.skip rfl rfl rfl rfl ?_|refine lP (pO (c:=.atom _) rfl rfl) rfl ?_|refine oP (pG (cs':=[_,_,_,_]) rfl (List.Mem.head _) rfl rfl) rfl ?_|refine oP (pR (cs':=[_,_]) rfl rfl rfl) rfl ?_|refine lP (pM (lv:=.list _) rfl) rfl ?_|refine oS (sS (cs':=[_,_,_,_,_,_]) rfl pH rfl rfl rfl rfl rfl ?_) rfl|refine LS.nil ?_|refine oP (pB _ (cs:=[_,_,_,_,_]) rfl) rfl ?_|refine lP (Pure.add rfl rfl (by omega)) rfl ?_|refine oP (pA (lv:=.app _ _ _ _) rfl) rfl ?_|refine oP (Pure.sneq rfl rfl) rfl ?_|refine LOps.skipU rfl rfl rfl ?_|refine qP (Pure.lss rfl rfl) rfl ?_|refine lP (pF rfl) rfl ?_|refine oP (pB _ (cs:=[_,_,_,_,_,_]) rfl) rfl ?_|refine lP (pM (lv:=.atom _) rfl) rfl ?_|refine oP (Pure.cvt rfl) rfl ?_|refine qP (Pure.eql rfl rfl) rfl ?_|refine qP (Pure.seq rfl rfl) rfl ?_|refine lP (pN rfl) rfl ?_|refine oP (pR (cs':=[_,_,_,_,_,_]) rfl rfl rfl) rfl ?_|refine oP (pO (c:=.list _) rfl rfl) rfl ?_|refine qP (Pure.geq rfl rfl) rfl ?_|refine qP (Pure.sub rfl rfl (by omega)) rfl ?_|refine oP (pL (c:=.atom _) rfl (List.Mem.tail _ (List.Mem.tail _ (List.Mem.tail _ (List.Mem.tail _ (List.Mem.head _))))) rfl) rfl ?_|refine qP (Pure.gtr rfl rfl) rfl ?_|refine qP (Pure.sadd rfl rfl (by first|omega|(simp only[zLa,zLc,zLn];omega))) rfl ?_|refine qP (Pure.slen rfl) rfl ?_|refine lP (pL (c:=.atom _) rfl (List.Mem.head _) rfl) rfl ?_|refine lP (pL (c:=.list _) rfl (List.Mem.head _) rfl) rfl ?_|refine oS (sS (cs':=[_,_,_,_]) rfl (pT (pT (pT pH))) rfl rfl rfl rfl rfl ?_) rfl|refine qcy.pure (Pure.makeFunc rfl rfl) rfl ?_|refine qcy.pure (pM (lv:=.atom _) rfl) rfl ?_|refine lP (Pure.llen rfl) rfl ?_|refine lP (pL (c:=.atom _) rfl (List.Mem.tail _ (List.Mem.head _)) rfl) rfl ?_|refine oP (pB _ (cs:=[_,_,_,_,_,_,_]) rfl) rfl ?_|refine oS (sS (cs':=[_]) rfl (pT (pT (pT (pT (pT (pT pH)))))) rfl rfl rfl rfl rfl ?_) rfl|refine qcy.pure (pG (cs':=[_,_,_]) rfl (List.Mem.tail _ (List.Mem.tail _ (List.Mem.tail _ (List.Mem.tail _ (List.Mem.tail _ (List.Mem.tail _ (List.Mem.tail _ (List.Mem.head _)))))))) rfl rfl) rfl ?_|refine qfa.pure (pL (c:=.list _) rfl (List.Mem.head _) rfl) rfl ?_|refine qfa.pure (pO (c:=.list _) rfl rfl) rfl ?_|refine qfa.pure (pM (lv:=.atom _) rfl) rfl ?_|refine qfa.pure (Pure.not rfl) rfl ?_|refine qP (pL (c:=.atom _) rfl (List.Mem.tail _ (List.Mem.tail _ (List.Mem.tail _ (List.Mem.tail _ (List.Mem.head _))))) rfl) rfl ?_|refine lP (pB _ (cs:=[_,_,_]) rfl) rfl ?_|refine lP (pG (cs':=[_,_,_,_,_,_]) rfl (List.Mem.head _) rfl rfl) rfl ?_|refine lP (pG (cs':=[_,_,_,_,_,_]) rfl (List.Mem.tail _ (List.Mem.head _)) rfl rfl) rfl ?_|refine lP (pG (cs':=[_,_]) rfl (List.Mem.head _) rfl rfl) rfl ?_|refine lP (pG (cs':=[_,_]) rfl (List.Mem.tail _ (List.Mem.head _)) rfl rfl) rfl ?_|refine lP (pR (cs':=[_,_,_,_,_,_]) rfl rfl rfl) rfl ?_|refine lP (pR (cs':=[_,_,_,_]) rfl rfl rfl) rfl ?_|refine lP (pL (c:=.list _) rfl (List.Mem.tail _ (List.Mem.tail _ (List.Mem.head _))) rfl) rfl ?_|refine lP (Pure.sub rfl rfl (by omega)) rfl ?_);exact h ()):P:=t fun _=>h
theorem gad {P Q:Prop} (h:Q) (t:(Unit->Q)->P:=by intro h;(repeat first|refine qN ?_|refine LOps.nil ?_|refine qae.seq ?_|refine oP (pM (lv:=.atom _) rfl) rfl ?_|refine oP (pA (lv:=.atom _) rfl) rfl ?_|refine qae.ret ?_|refine oP (pF rfl) rfl ?_|refine qae.skip ?_|refine qaA.ret ?_|refine LOps.want rfl rfl ?_|refine qae.block ?_|refine qaq.normal ?_|refine qaq.ret ?_|refine oP (Pure.pickT (lv:=.atom _) rfl rfl) rfl ?_|refine oP (Pure.pickF (lv:=.atom _) rfl rfl) rfl ?_|refine oP (Pure.add rfl rfl (by omega)) rfl ?_|refine LOps.skip rfl rfl rfl rfl ?_|refine oP (Pure.eql rfl rfl) rfl ?_|refine oP (pL (c:=.atom _) rfl (List.Mem.head _) rfl) rfl ?_|refine qae.exit ?_|refine qaq.hit ?_|refine qaA.exit ?_|refine oP (Pure.lss rfl rfl) rfl ?_|refine qaA.panic ?_|refine oP (Pure.seq rfl rfl) rfl ?_|refine oP (pM (lv:=.list _) rfl) rfl ?_|refine oP (Pure.llen rfl) rfl ?_|refine oP (pN rfl) rfl ?_|refine qaq.panic ?_|refine oP (Pure.extract (c:=.atom _) rfl rfl) rfl ?_|refine oP (Pure.not rfl) rfl ?_|refine oP (pM (lv:=.tuple _) rfl) rfl ?_|refine oP (pL (c:=.list _) rfl (List.Mem.head _) rfl) rfl ?_|refine oS (sS (cs':=[_,_]) rfl pH rfl rfl rfl rfl rfl ?_) rfl|refine qP (pM (lv:=.atom _) rfl) rfl ?_);exact h ()):P:=t fun _=>h
theorem gae {P Q:Prop} (h:Q) (t:(Unit->Q)->P:=by intro h;(repeat first|refine qN ?_|refine LOps.nil ?_|refine oP (pM (lv:=.atom _) rfl) rfl ?_|refine oP (pA (lv:=.atom _) rfl) rfl ?_|refine qae.ret ?_|refine qaA.ret ?_|refine qaq.ret ?_|refine oP (Pure.pickF (lv:=.atom _) rfl rfl) rfl ?_|refine LOps.skip rfl rfl rfl rfl ?_);exact h ()):P:=t fun _=>h
theorem gaf {P Q:Prop} (h:Q) (t:(Unit->Q)->P:=by intro h;(repeat first|refine qae.region ?_|refine qae.seq ?_|refine oP (pM (lv:=.atom _) rfl) rfl ?_);exact h ()):P:=t fun _=>h
theorem gag {P Q:Prop} (h:Q) (t:(Unit->Q)->P:=by intro h;(repeat first|refine qae.region ?_|refine qae.seq ?_);exact h ()):P:=t fun _=>h
theorem gah {P Q:Prop} (h:Q) (t:(Unit->Q)->P:=by intro h;(repeat first|refine qaA.panic ?_|refine qaq.panic ?_);exact h ()):P:=t fun _=>h
theorem gai {P Q:Prop} (h:Q) (t:(Unit->Q)->P:=by intro h;(repeat first|refine qN ?_|refine LOps.nil ?_|refine qae.region ?_|refine qae.seq ?_|refine oP (Pure.lss rfl rfl) rfl ?_);exact h ()):P:=t fun _=>h
theorem gaj {P Q:Prop} (h:Q) (t:(Unit->Q)->P:=by intro h;(repeat first|refine qN ?_|refine LOps.nil ?_|refine qae.region ?_|refine qae.seq ?_|refine oP (pA (lv:=.atom _) rfl) rfl ?_|refine oP (Pure.seq rfl rfl) rfl ?_);exact h ()):P:=t fun _=>h
theorem gak {P Q:Prop} (h:Q) (t:(Unit->Q)->P:=by intro h;(repeat first|refine qN ?_|refine qae.region ?_|refine qae.seq ?_|refine qae.skip ?_|refine qae.block ?_);exact h ()):P:=t fun _=>h
theorem gal {P Q:Prop} (h:Q) (t:(Unit->Q)->P:=by intro h;(repeat first|refine oP (pM (lv:=.atom _) rfl) rfl ?_|refine LOps.want rfl rfl ?_);exact h ()):P:=t fun _=>h
theorem gam {P Q:Prop} (h:Q) (t:(Unit->Q)->P:=by intro h;(repeat first|refine qN ?_|refine LOps.nil ?_);exact h ()):P:=t fun _=>h
theorem gan {P Q:Prop} (h:Q) (t:(Unit->Q)->P:=by intro h;(repeat first|refine qN ?_|refine LOps.nil ?_|refine qae.region ?_|refine qae.seq ?_|refine oP (pM (lv:=.atom _) rfl) rfl ?_);exact h ()):P:=t fun _=>h
theorem gao {P Q:Prop} (h:Q) (t:(Unit->Q)->P:=by intro h;(repeat first|refine qN ?_|refine LOps.nil ?_|refine qae.seq ?_|refine oP (Pure.extract (c:=.atom _) rfl rfl) rfl ?_|refine oP (pM (lv:=.tuple _) rfl) rfl ?_|refine qP (pM (lv:=.atom _) rfl) rfl ?_|refine oP (pA (lv:=.list _) rfl) rfl ?_|refine LQ.nil ?_|refine LQ.want rfl rfl ?_|refine oS (sS (cs':=[_,_,_,_,_]) rfl pH rfl rfl rfl rfl rfl ?_) rfl|refine qP (pF rfl) rfl ?_|refine qP (pL (c:=.atom _) rfl (List.Mem.head _) rfl) rfl ?_|refine qP (pO (c:=.atom _) rfl rfl) rfl ?_|refine qP (Pure.field1 rfl rfl) rfl ?_|refine qP (pL (c:=.list _) rfl (List.Mem.head _) rfl) rfl ?_|refine qP (pN rfl) rfl ?_|refine qP (pA (lv:=.atom _) rfl) rfl ?_|refine oP (Pure.extract (c:=.list _) rfl rfl) rfl ?_|refine qP (Pure.pickF (lv:=.atom _) rfl rfl) rfl ?_|refine qP (Pure.pickT (lv:=.atom _) rfl rfl) rfl ?_|refine LQ.skip rfl rfl rfl rfl ?_|refine lP (pO (c:=.atom _) rfl rfl) rfl ?_|refine LS.nil ?_|refine qP (Pure.llen rfl) rfl ?_|refine qP (Pure.lss rfl rfl) rfl ?_|refine lP (pF rfl) rfl ?_|refine lP (pN rfl) rfl ?_|refine qP (Pure.geq rfl rfl) rfl ?_|refine qP (Pure.sub rfl rfl (by omega)) rfl ?_|refine oS (sS (cs':=[_]) rfl (pT pH) rfl rfl rfl rfl rfl ?_) rfl|refine qP (Pure.add rfl rfl (by omega)) rfl ?_|refine LQ.skipU rfl rfl rfl ?_|refine lP (Pure.field1 rfl rfl) rfl ?_|refine qP (Pure.minI rfl rfl) rfl ?_|refine qP (Pure.neq rfl rfl) rfl ?_);exact h ()):P:=t fun _=>h
theorem gap {P Q:Prop} (h:Q) (t:(Unit->Q)->P:=by intro h;(repeat first|refine qN ?_|refine LOps.nil ?_|refine qae.region ?_|refine qae.seq ?_|refine oP (pA (lv:=.atom _) rfl) rfl ?_|refine qae.ret ?_|refine qaA.ret ?_);exact h ()):P:=t fun _=>h
theorem gaq {P Q:Prop} (h:Q) (t:(Unit->Q)->P:=by intro h;(repeat first|refine oP (pM (lv:=.atom _) rfl) rfl ?_|refine LOps.want rfl rfl ?_|refine oP (Pure.pickT (lv:=.atom _) rfl rfl) rfl ?_|refine oP (Pure.eql rfl rfl) rfl ?_);exact h ()):P:=t fun _=>h
theorem gar {P Q:Prop} (h:Q) (t:(Unit->Q)->P:=by intro h;(repeat first|refine qN ?_|refine qae.skip ?_);exact h ()):P:=t fun _=>h
theorem gas {P Q:Prop} (h:Q) (t:(Unit->Q)->P:=by intro h;(repeat first|refine qaA.panic ?_);exact h ()):P:=t fun _=>h
theorem gat {P Q:Prop} (h:Q) (t:(Unit->Q)->P:=by intro h;(repeat first|refine qN ?_|refine LOps.nil ?_|refine qae.region ?_|refine oP (pM (lv:=.atom _) rfl) rfl ?_|refine qaq.normal ?_|refine oP (Pure.add rfl rfl (by omega)) rfl ?_);exact h ()):P:=t fun _=>h
theorem gau {P Q:Prop} (h:Q) (t:(Unit->Q)->P:=by intro h;(repeat first|refine qN ?_|refine qae.region ?_|refine qae.seq ?_|refine oP (pM (lv:=.atom _) rfl) rfl ?_|refine qae.skip ?_);exact h ()):P:=t fun _=>h
theorem gav {P Q:Prop} (h:Q) (t:(Unit->Q)->P:=by intro h;(repeat first|refine oP (pR (cs':=[_,_,_,_]) rfl rfl rfl) rfl ?_);exact h ()):P:=t fun _=>h
theorem gaw {P Q:Prop} (h:Q) (t:(Unit->Q)->P:=by intro h;(repeat first|refine qN ?_|refine LOps.nil ?_|refine qae.region ?_|refine qae.seq ?_|refine oP (pM (lv:=.atom _) rfl) rfl ?_|refine oP (pA (lv:=.atom _) rfl) rfl ?_);exact h ()):P:=t fun _=>h
theorem gax {P Q:Prop} (h:Q) (t:(Unit->Q)->P:=by intro h;(repeat first|refine oP (pM (lv:=.atom _) rfl) rfl ?_);exact h ()):P:=t fun _=>h
theorem gay {P Q:Prop} (h:Q) (t:(Unit->Q)->P:=by intro h;(repeat first|refine qN ?_|refine LOps.nil ?_|refine qae.region ?_|refine qae.seq ?_|refine oP (pA (lv:=.atom _) rfl) rfl ?_|refine oP (Pure.eql rfl rfl) rfl ?_);exact h ()):P:=t fun _=>h
theorem gaz {P Q:Prop} (h:Q) (t:(Unit->Q)->P:=by intro h;(repeat first|refine qN ?_|refine LOps.nil ?_|refine qae.region ?_|refine qae.seq ?_|refine oP (pA (lv:=.atom _) rfl) rfl ?_|refine qae.ret ?_|refine qaA.ret ?_|refine qaq.ret ?_);exact h ()):P:=t fun _=>h
theorem ga0 {P Q:Prop} (h:Q) (t:(Unit->Q)->P:=by intro h;(repeat first|refine qN ?_|refine LOps.nil ?_|refine qae.region ?_|refine qae.seq ?_|refine oP (pA (lv:=.atom _) rfl) rfl ?_);exact h ()):P:=t fun _=>h
theorem ga1 {P Q:Prop} (h:Q) (t:(Unit->Q)->P:=by intro h;(repeat first|refine qae.seq ?_);exact h ()):P:=t fun _=>h
theorem ga2 {P Q:Prop} (h:Q) (t:(Unit->Q)->P:=by intro h;(repeat first|refine qN ?_|refine LOps.nil ?_|refine oP (pA (lv:=.atom _) rfl) rfl ?_);exact h ()):P:=t fun _=>h
open Go.RowKit
inductive LV where
 |atom (v:Value)
 |list (es:List LV)
 |app (b cap k:Nat) (es:List LV)
 |agg (cs:List LV)
 |tuple (vs:List LV)
 |ref (cs:List LV)
 deriving Inhabited
def LV.cells:LV->List LV
 |.agg cs=>cs
 |v=>[v]
@[reducible] def int (k:IntKind) (n:Int):LV:=.atom (.int k n)
@[reducible] def bool (b:Bool):LV:=.atom (.bool b)
@[reducible] def str (l:List UInt8):LV:=.atom (.string ⟨l.toArray⟩)
@[reducible] def ptr (b off:Nat):LV:=.atom (.pointer (some ⟨b,off,none⟩))
@[reducible] def qaa:LV:=.atom (.slice none 0 0)
inductive LObj where
 |cells (ty:TypeId) (cs:List LV)
 |row (n:Nat)
 |map (es:List (Value×LV)) (clock:Nat)
 |obj (o:Obj)
 deriving Inhabited
abbrev Heap:=List (Nat×LObj)
abbrev Live:=Nat->Nat
mutual
def Rep (w:World) (L:Live):LV->Value->Prop
 |.atom v,x=>x=v
 |.agg cs,x=>∃ xs:List Value,x=.agg xs.toArray/\RepL w L cs xs
 |.tuple vs,x=>∃ xs:List Value,x=.tuple xs.toArray/\RepL w L vs xs
 |.list es,x=>∃ a cap,x=.slice a es.length cap/\es.length<=cap/\(es≠[]->∃ b off k,a=some ⟨b,off,none⟩/\qas w L b k off es)
 |.app b cap k es,x=>x=.slice (some ⟨b,0,none⟩) es.length cap/\es.length<=cap/\qas w L b k 0 es/\∃ e s,w.shape? b=some (e,s)/\cap * k<=s
 |.ref cs,x=>∃ b off,x=.pointer (some ⟨b,off,none⟩)/\RepC w L b off cs
def RepL (w:World) (L:Live):List LV->List Value->Prop
 |[],xs=>xs=[]
 |c::cs,xs=>∃ y ys,xs=y::ys/\Rep w L c y/\RepL w L cs ys
def RepC (w:World) (L:Live) (b:Nat):Nat->List LV->Prop
 |_,[]=>True
 |off,c::cs=>off<L b/\(∃ x,w.cell? ⟨b,off,none⟩=some x/\Rep w L c x)/\RepC w L b (off+1) cs
def qas (w:World) (L:Live) (b k:Nat):Nat->List LV->Prop
 |_,[]=>True
 |off,.agg cs::es=>(cs.length=k/\RepC w L b off cs)/\qas w L b k (off+k) es
 |off,.atom v::es=>(1=k/\off<L b/\∃ x,w.cell? ⟨b,off,none⟩=some x/\Rep w L (.atom v) x)/\qas w L b k (off+k) es
 |off,.list v::es=>(1=k/\off<L b/\∃ x,w.cell? ⟨b,off,none⟩=some x/\Rep w L (.list v) x)/\qas w L b k (off+k) es
 |off,.app b2 c k2 v::es=>(1=k/\off<L b/\∃ x,w.cell? ⟨b,off,none⟩=some x/\Rep w L (.app b2 c k2 v) x)/\qas w L b k (off+k) es
 |off,.tuple v::es=>(1=k/\off<L b/\∃ x,w.cell? ⟨b,off,none⟩=some x/\Rep w L (.tuple v) x)/\qas w L b k (off+k) es
 |off,.ref v::es=>(1=k/\off<L b/\∃ x,w.cell? ⟨b,off,none⟩=some x/\Rep w L (.ref v) x)/\qas w L b k (off+k) es
end
structure Ext (w:World) (L:Live) (w':World) (L':Live):Prop where
 size:w.heap.size<=w'.heap.size
 shape:∀ b,b<w.heap.size->w'.shape? b=w.shape? b
 live:∀ b i,i<L b->w'.cell? ⟨b,i,none⟩=w.cell? ⟨b,i,none⟩
 mono:∀ b,L b<=L' b
theorem Ext.refl (w:World) (L:Live):Ext w L w L:=⟨zNr _,fun _ _=>rfl,fun _ _ _=>rfl,fun _=>zNr _⟩
theorem Ext.trans {w1 w2 w3:World} {L1 L2 L3:Live} (h:Ext w1 L1 w2 L2) (k:Ext w2 L2 w3 L3):Ext w1 L1 w3 L3:=
 ⟨zNt h.size k.size,fun b hb=>(k.shape b (Nat.lt_of_lt_of_le hb h.size)).trans (h.shape b hb),
  fun b i hi=>(k.live b i (Nat.lt_of_lt_of_le hi (h.mono b))).trans (h.live b i hi),fun b=>zNt (h.mono b) (k.mono b)⟩
theorem qqD {w:World} {b:Nat} {p:TypeId×Nat} (h:w.shape? b=some p):b<w.heap.size:=by
 rcases Nat.lt_or_ge b w.heap.size with h1|h1
 ·exact h1
 ·simp[World.shape?,Array.getElem?_eq_none h1] at h
mutual
theorem Rep.mono {w w':World} {L L':Live} (h:Ext w L w' L'):∀ (lv:LV) (x:Value),Rep w L lv x->Rep w' L' lv x
 |.atom v,x,r=>by simp only[Rep] at r ⊢;exact r
 |.agg cs,x,r=>by
  simp only[Rep] at r ⊢;obtain ⟨xs,rfl,r⟩:=r
  exact ⟨xs,rfl,RepL.mono h cs xs r⟩
 |.tuple cs,x,r=>by
  simp only[Rep] at r ⊢;obtain ⟨xs,rfl,r⟩:=r
  exact ⟨xs,rfl,RepL.mono h cs xs r⟩
 |.list es,x,r=>by
  simp only[Rep] at r ⊢;obtain ⟨a,cap,rfl,hl,r⟩:=r;refine ⟨a,cap,rfl,hl,fun hne=>?_⟩;obtain ⟨b,off,k,ha,r⟩:=r hne
  exact ⟨b,off,k,ha,qas.mono h b k off es r⟩
 |.app b cap k es,x,r=>by
  simp only[Rep] at r ⊢;obtain ⟨rfl,hl,r,e,s,hs,hc⟩:=r
  exact ⟨rfl,hl,qas.mono h b k 0 es r,e,s,by rw[h.shape b (qqD hs)];exact hs,hc⟩
 |.ref cs,x,r=>by
  simp only[Rep] at r ⊢;obtain ⟨b,off,rfl,r⟩:=r;exact ⟨b,off,rfl,RepC.mono h b off cs r⟩
 termination_by lv=>SizeOf.sizeOf lv
theorem RepL.mono {w w':World} {L L':Live} (h:Ext w L w' L'):∀ (cs:List LV) (xs:List Value),RepL w L cs xs->RepL w' L' cs xs
 |[],xs,r=>by simp only[RepL] at r ⊢;exact r
 |c::cs,xs,r=>by
  simp only[RepL] at r ⊢;obtain ⟨y,ys,rfl,r1,r2⟩:=r;exact ⟨y,ys,rfl,Rep.mono h c y r1,RepL.mono h cs ys r2⟩
 termination_by cs=>SizeOf.sizeOf cs
theorem RepC.mono {w w':World} {L L':Live} (h:Ext w L w' L') (b:Nat):∀ (off:Nat) (cs:List LV),RepC w L b off cs->RepC w' L' b off cs
 |_,[],r=>by simp only[RepC]
 |off,c::cs,r=>by
  simp only[RepC] at r ⊢;obtain ⟨r1,⟨x,hx,r2⟩,r3⟩:=r;exact ⟨Nat.lt_of_lt_of_le r1 (h.mono b),⟨x,by rw[h.live b off r1];exact hx,Rep.mono h c x r2⟩,RepC.mono h b (off+1) cs r3⟩
 termination_by _ cs=>SizeOf.sizeOf cs
theorem qas.mono {w w':World} {L L':Live} (h:Ext w L w' L') (b k:Nat):∀ (off:Nat) (es:List LV),qas w L b k off es->qas w' L' b k off es
 |_,[],r=>by simp only[qas]
 |off,.agg cs::es,r=>by
  simp only[qas] at r ⊢
  exact ⟨⟨r.1.1,RepC.mono h b off cs r.1.2⟩,qas.mono h b k (off+k) es r.2⟩
 |off,.atom v::es,r=>by
  simp only[qas] at r ⊢;obtain ⟨⟨h1,h2,x,h3,h4⟩,r2⟩:=r
  exact ⟨⟨h1,Nat.lt_of_lt_of_le h2 (h.mono b),x,by rw[h.live b off h2];exact h3,Rep.mono h (.atom v) x h4⟩,qas.mono h b k (off+k) es r2⟩
 |off,.list v::es,r=>by
  simp only[qas] at r ⊢;obtain ⟨⟨h1,h2,x,h3,h4⟩,r2⟩:=r
  exact ⟨⟨h1,Nat.lt_of_lt_of_le h2 (h.mono b),x,by rw[h.live b off h2];exact h3,Rep.mono h (.list v) x h4⟩,qas.mono h b k (off+k) es r2⟩
 |off,.app b2 c k2 v::es,r=>by
  simp only[qas] at r ⊢;obtain ⟨⟨h1,h2,x,h3,h4⟩,r2⟩:=r
  exact ⟨⟨h1,Nat.lt_of_lt_of_le h2 (h.mono b),x,by rw[h.live b off h2];exact h3,Rep.mono h (.app b2 c k2 v) x h4⟩,qas.mono h b k (off+k) es r2⟩
 |off,.tuple v::es,r=>by
  simp only[qas] at r ⊢;obtain ⟨⟨h1,h2,x,h3,h4⟩,r2⟩:=r
  exact ⟨⟨h1,Nat.lt_of_lt_of_le h2 (h.mono b),x,by rw[h.live b off h2];exact h3,Rep.mono h (.tuple v) x h4⟩,qas.mono h b k (off+k) es r2⟩
 |off,.ref v::es,r=>by
  simp only[qas] at r ⊢;obtain ⟨⟨h1,h2,x,h3,h4⟩,r2⟩:=r;exact ⟨⟨h1,Nat.lt_of_lt_of_le h2 (h.mono b),x,by rw[h.live b off h2];exact h3,Rep.mono h (.ref v) x h4⟩,qas.mono h b k (off+k) es r2⟩
 termination_by _ es=>SizeOf.sizeOf es
end
def LV.Sub (a b:LV):Prop:=∀ w L x,Rep w L a x->Rep w L b x
theorem vR (a:LV):a.Sub a:=fun _ _ _ h=>h
theorem vN:qaa.Sub (.list []):=fun w L x r=>by
 simp only[Rep] at r ⊢;subst r;exact ⟨none,0,rfl,zNr _,fun h=>absurd rfl h⟩
theorem LV.Sub.app (b cap k:Nat) (es:List LV):(LV.app b cap k es).Sub (.list es):=fun w L x r=>by
 simp only[Rep] at r ⊢;obtain ⟨rfl,hl,r,_⟩:=r;exact ⟨some ⟨b,0,none⟩,cap,rfl,hl,fun _=>⟨b,0,k,rfl,r⟩⟩
def SubL:List LV->List LV->Prop
 |[],[]=>True
 |a::avs,b::bs=>a.Sub b/\SubL avs bs
 |_,_=>False
theorem SubL.repL {w:World} {L:Live}:∀ {avs bs:List LV} {xs:List Value},SubL avs bs->RepL w L avs xs->RepL w L bs xs
 |[],[],xs,_,r=>r
 |a::avs,b::bs,xs,h,r=>by
  simp only[RepL] at r ⊢;obtain ⟨y,ys,rfl,r1,r2⟩:=r
  exact ⟨y,ys,rfl,h.1 _ _ _ r1,SubL.repL h.2 r2⟩
 |[],_::_,_,h,_=>h.elim
 |_::_,[],_,h,_=>h.elim
theorem vA {avs bs:List LV} (h:SubL avs bs):(LV.agg avs).Sub (.agg bs):=fun w L x r=>by
 simp only[Rep] at r ⊢;obtain ⟨xs,rfl,r⟩:=r;exact ⟨xs,rfl,h.repL r⟩
/-! ### The heap of owned blocks -/
def qlw (w:World) (L:Live) (b:Nat):LObj->Prop
 |.cells ty cs=>L b=0/\∃ xs:List Value,w.heap[b]? = some (.cells xs.toArray ty (0,0))/\RepL w L cs xs
 |.row n=>L b=n/\∃ (xs:Array Value) (ty:TypeId) (fr:Nat×Nat),w.heap[b]? = some (.cells xs ty fr)/\n<=xs.size/\fr.2<=n
 |.map es clock=>L b=0/\∃ avs:List MapEntry,w.heap[b]? = some (.map avs.toArray clock)/\avs.map (·.key)=es.map (·.1)/\RepL w L (es.map (·.2)) (avs.map (·.val))
   /\ (∀ e∈avs,e.born<clock)/\(avs.map (·.born)).Nodup
 |.obj o=>L b=0/\w.heap[b]? = some o/\w.shape? b=none
structure Ctx where
 P:Program
 B0:Nat
 w0:World
structure RelH (C:Ctx) (w:World) (L:Live) (H:Heap):Prop where
 base:Below C.B0 C.w0 w
 lbase:True
 b0:C.B0<=w.heap.size
 wf:∀ b,w.heap.size<=b->L b=0
 nodup:(H.map (·.1)).Nodup
 objs:∀ p∈H,C.B0<=p.1/\p.1<w.heap.size/\qlw w L p.1 p.2
@[reducible] def keys (H:Heap):List Nat:=H.map (·.1)
structure Fr (K:List Nat) (w:World) (L:Live) (w':World) (L':Live) (H':Heap):Prop where
 os:w'.os=w.os
 tape:w'.tape=w.tape
 output:w'.output=w.output
 ext:Ext w L w' L'
 block:∀ b,b<w.heap.size->b ∉ K->w'.heap[b]? = w.heap[b]?
 lsame:∀ b,b<w.heap.size->b ∉ K->L' b=L b
 kin:∀ p∈H',p.1∈K∨w.heap.size<=p.1
theorem Fr.refl (w:World) (L:Live) (H:Heap):Fr (keys H) w L w L H:=
 ⟨rfl,rfl,rfl,.refl _ _,fun _ _ _=>rfl,fun _ _ _=>rfl,fun _ hp=>.inl (List.mem_map_of_mem hp)⟩
theorem Fr.trans {K:List Nat} {w1 w2 w3:World} {L1 L2 L3:Live} {H2 H3:Heap} (h:Fr K w1 L1 w2 L2 H2) (k:Fr (keys H2) w2 L2 w3 L3 H3):Fr K w1 L1 w3 L3 H3:=by
 have out:∀ b,b<w1.heap.size->b ∉ K->b ∉ keys H2:=fun b hb hn hm=>by
  obtain ⟨p,hp,rfl⟩:=List.mem_map.1 hm;rcases h.kin p hp with h1|h1
  ·exact hn h1
  ·omega
 refine ⟨k.os.trans h.os,k.tape.trans h.tape,k.output.trans h.output,h.ext.trans k.ext,fun b hb hn=>?_,fun b hb hn=>?_,fun p hp=>?_⟩
 ·exact (k.block b (Nat.lt_of_lt_of_le hb h.ext.size) (out b hb hn)).trans (h.block b hb hn)
 ·exact (k.lsame b (Nat.lt_of_lt_of_le hb h.ext.size) (out b hb hn)).trans (h.lsame b hb hn)
 ·rcases k.kin p hp with h1|h1
  ·obtain ⟨q,hq,he⟩:=List.mem_map.1 h1;rw[<-he];exact h.kin q hq
  ·exact .inr (zNt h.ext.size h1)
theorem Fr.sub {K:List Nat} {w w':World} {L L':Live} {H H':Heap} (h:Fr K w L w' L' H) (hs:∀ p∈H',p∈H):Fr K w L w' L' H':=
 ⟨h.os,h.tape,h.output,h.ext,h.block,h.lsame,fun p hp=>h.kin p (hs p hp)⟩
theorem qbO {w w':World} {b:Nat} (h:w'.heap[b]? = w.heap[b]?):w'.shape? b=w.shape? b:=by simp only[World.shape?,h]
theorem cell_of_heap {w w':World} {b:Nat} (h:w'.heap[b]? = w.heap[b]?) (o:Nat):w'.cell? ⟨b,o,none⟩=w.cell? ⟨b,o,none⟩:=by simp only[World.cell?,h]
theorem qlw.keep {w w':World} {L L':Live} {b:Nat} {o:LObj} (h:Ext w L w' L') (hb:w'.heap[b]? = w.heap[b]?) (hl:L' b=L b) (r:qlw w L b o):qlw w' L' b o:=by
 cases o with
 |cells ty cs=>obtain ⟨r1,xs,r2,r3⟩:=r;exact ⟨hl.trans r1,xs,hb.trans r2,r3.mono h _ _⟩
 |row n=>obtain ⟨r1,xs,ty,fr,r2,r3,r4⟩:=r;exact ⟨hl.trans r1,xs,ty,fr,hb.trans r2,r3,r4⟩
 |map es clock=>obtain ⟨r1,avs,r2,r3,r4,r5⟩:=r;exact ⟨hl.trans r1,avs,hb.trans r2,r3,r4.mono h _ _,r5⟩
 |obj o=>obtain ⟨r1,r2,r3⟩:=r;exact ⟨hl.trans r1,hb.trans r2,by rw[qbO hb];exact r3⟩
theorem RelH.perm {C:Ctx} {w:World} {L:Live} {H H':Heap} (h:RelH C w L H) (p:H.Perm H'):RelH C w L H':=
 ⟨h.base,h.lbase,h.b0,h.wf,((p.map _).nodup_iff).1 h.nodup,fun q hq=>h.objs q (p.mem_iff.2 hq)⟩
theorem RelH.left {C:Ctx} {w:World} {L:Live} {H F:Heap} (h:RelH C w L (H++F)):RelH C w L H:=
 ⟨h.base,h.lbase,h.b0,h.wf,(List.nodup_append.1 (by simpa using h.nodup)).1,fun q hq=>h.objs q (List.mem_append_left _ hq)⟩
theorem RelH.sub {C:Ctx} {w:World} {L:Live} {H H':Heap} (h:RelH C w L H) (s:H'.Sublist H):RelH C w L H':=
 ⟨h.base,h.lbase,h.b0,h.wf,h.nodup.sublist (s.map _),fun q hq=>h.objs q (s.subset hq)⟩
theorem RelH.frame {C:Ctx} {w w':World} {L L':Live} {H H' F:Heap} (h:RelH C w L (H++F)) (f:Fr (keys H) w L w' L' H') (h':RelH C w' L' H') :
  RelH C w' L' (H'++F)/\Fr (keys (H++F)) w L w' L' (H'++F):=by
 have hn:(keys H++keys F).Nodup:=by simpa [keys] using h.nodup
 have hdis:∀ q∈F,q.1 ∉ keys H:=fun q hq hm=>(List.nodup_append.1 hn).2.2 _ hm _ (List.mem_map_of_mem hq) rfl;refine ⟨⟨h'.base,h'.lbase,h'.b0,h'.wf,?_,fun p hp=>?_⟩,⟨f.os,f.tape,f.output,f.ext,fun b hb hk=>?_,fun b hb hk=>?_,fun p hp=>?_⟩⟩
 ·rw[zMa];refine List.nodup_append.2 ⟨h'.nodup,(List.nodup_append.1 hn).2.1,fun a ha b hb he=>?_⟩;subst he;obtain ⟨p,hp,rfl⟩:=List.mem_map.1 ha;obtain ⟨q,hq,he⟩:=List.mem_map.1 hb;have hqs:=(h.objs q (List.mem_append_right _ hq)).2.1;rcases f.kin p hp with h1|h1
  ·exact hdis q hq (he▸h1)
  ·omega
 ·rcases List.mem_append.1 hp with hp|hp
  ·exact h'.objs p hp
  ·obtain ⟨r1,r2,r3⟩:=h.objs p (List.mem_append_right _ hp);exact ⟨r1,Nat.lt_of_lt_of_le r2 f.ext.size,r3.keep f.ext (f.block _ r2 (hdis p hp)) (f.lsame _ r2 (hdis p hp))⟩
 ·exact f.block b hb (fun hm=>hk (by simp only[keys,zMa,List.mem_append];exact .inl hm))
 ·exact f.lsame b hb (fun hm=>hk (by simp only[keys,zMa,List.mem_append];exact .inl hm))
 ·rcases List.mem_append.1 hp with hp|hp
  ·rcases f.kin p hp with h1|h1
   ·exact .inl (by simp only[keys,zMa,List.mem_append];exact .inl h1)
   ·exact .inr h1
  ·exact .inl (by simp only[keys,zMa,List.mem_append];exact .inr (List.mem_map_of_mem hp))
def Pick (p:Nat×LObj) (H F:Heap):Prop:=H.Perm (p::F)
theorem pH {p:Nat×LObj} {F:Heap}:Pick p (p::F) F:=List.Perm.refl _
theorem pT {p q:Nat×LObj} {H F:Heap} (h:Pick p H F):Pick p (q::H) (q::F):=
 (List.Perm.cons q h).trans (List.Perm.swap p q F)
def HSub (H' H:Heap):Prop:=∃ G,H.Perm (H'++G)
theorem zhR (H:Heap):HSub H H:=⟨[],by simp⟩
theorem HSub.nil (H:Heap):HSub [] H:=⟨H,by simp⟩
theorem zhD {H' H:Heap} {p:Nat×LObj} (h:HSub H' H):HSub H' (p::H):=
 let ⟨G,hG⟩:=h
 ⟨p::G,(List.Perm.cons p hG).trans List.perm_middle.symm⟩
theorem zhP {H' H F:Heap} {p:Nat×LObj} (hp:Pick p H F) (h:HSub H' F):HSub (p::H') H:=
 let ⟨G,hG⟩:=h
 ⟨G,List.Perm.trans hp (List.Perm.cons p hG)⟩
theorem RelH.weak {C:Ctx} {w:World} {L:Live} {H H':Heap} (h:RelH C w L H) (s:HSub H' H):RelH C w L H':=
 let ⟨_,hG⟩:=s
 (h.perm hG).left
theorem Fr.weak {K:List Nat} {w w':World} {L L':Live} {H H':Heap} (h:Fr K w L w' L' H) (s:HSub H' H):Fr K w L w' L' H':=
 let ⟨_,hG⟩:=s
 h.sub fun _ hp=>hG.mem_iff.2 (List.mem_append_left _ hp)
end Go.GL
