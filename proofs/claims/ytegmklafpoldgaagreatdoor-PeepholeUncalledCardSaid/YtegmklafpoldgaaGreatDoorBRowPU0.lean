/- Texts joined: GlBase. -/
import Derived.Below
import Derived.OrdersHeld
import Derived.Deep.Quiet
set_option linter.unusedVariables false
set_option linter.unusedSimpArgs false
set_option maxRecDepth 100000
set_option maxHeartbeats 4000000
theorem zLa {α : Type _} {a b : List α} : (a ++ b).length = a.length + b.length := List.length_append
theorem zLc {α : Type _} {a : α} {l : List α} : (a :: l).length = l.length + 1 := rfl
theorem zLn {α : Type _} : ([] : List α).length = 0 := rfl
theorem zLm {α β : Type _} {l : List α} (f : α → β) : (l.map f).length = l.length := List.length_map f
theorem zLz {α : Type _} (l : List α) : l ++ [] = l := List.append_nil l
theorem zAs {α : Type _} (a b c : List α) : a ++ b ++ c = a ++ (b ++ c) := List.append_assoc a b c
theorem zMs {α : Type _} {a : α} {l : List α} : a ∈ a :: l := List.mem_cons_self ..
theorem zMo {α : Type _} (b : α) {a : α} {l : List α} (h : a ∈ l) : a ∈ b :: l := List.mem_cons_of_mem b h
theorem zMi {α : Type _} {a b : α} {l : List α} : a ∈ b :: l ↔ a = b ∨ a ∈ l := List.mem_cons
theorem zPf {α : Type _} (l : List α) : l <+: l := List.prefix_refl l
theorem zMa {α β : Type _} {f : α → β} {l₁ l₂ : List α} : (l₁ ++ l₂).map f = l₁.map f ++ l₂.map f := List.map_append
theorem zMc {α β : Type _} {f : α → β} {a : α} {l : List α} : (a :: l).map f = f a :: l.map f := rfl
theorem zPc {α : Type _} {l₁ l₂ : List α} : (l₁ ++ l₂).Perm (l₂ ++ l₁) := List.perm_append_comm
theorem zDe {p : Prop} [Decidable p] : (decide p = true) = p := decide_eq_true_eq
theorem zBa (a b : Bool) : ((a && b) = true) = (a = true ∧ b = true) := Bool.and_eq_true a b
theorem zNr (n : Nat) : n ≤ n := Nat.le_refl n
theorem zNt {a b c : Nat} (h : a ≤ b) (k : b ≤ c) : a ≤ c := Nat.le_trans h k
theorem zCs {α : Type _} {a b : α} (h : a = b := by kernel_rfl) : some a = some b := congrArg some h
theorem zDd {P : Prop} (h : P := by decide) : P := h
theorem zT0 {P : Prop} (h : P := by
  refine zl1 (i:=5) zk ?_
  refine lW rfl (.inl rfl) rfl (sS (cs':=[_]) rfl zp2 rfl rfl rfl rfl rfl ?_)
  refine lD zk ?_
  refine gbd ?_
  have hp:parseP s=(noPr,l,er):=by rw[parseP,hL]
  rw[hp]
  exact ⟨[encPr noPr,int .i64 l,int .i64 er],[],rC (rA (k:=3) (cs:=[nilSlice,nilSlice,nilSlice]) rfl memA rfl (vA (bs:=[.list [],.list [],.list []]) ⟨vN,vN,vN,trivial⟩)) (rC (ResIs.cellOne (cs:=[int .i64 l]) rfl memA rfl zsr) (rC (ResIs.cellOne (cs:=[int .i64 er]) rfl memA rfl zsr) rN)),HSub.nil _,rfl,rfl⟩) : P := h
theorem zT1 {P : Prop} (h : P := by
  simp only[argsEnv]
  rw[Array.getD_eq_getD_getElem?]
  rcases Nat.lt_or_ge i args.length with hi|hi
  ·rw[List.getElem?_eq_getElem hi]
   obtain ⟨x,hx,hr⟩:=hv.get (List.getElem?_eq_getElem hi)
   have hxi:(vs.toArray++Array.replicate (fn.ntmps-vs.toArray.size) undef)[i]? = some x:=by
    rw[Array.getElem?_append_left (by simp;omega)]
    simpa using hx
   rw[hxi]
   exact hr
  ·rw[List.getElem?_eq_none hi]
   have hxi:((vs.toArray++Array.replicate (fn.ntmps-vs.toArray.size) undef)[i]?).getD undef=undef:=by
    rw[Array.getElem?_append_right (by simp;omega)]
    rw[Array.getElem?_replicate]
    try split <;> rfl
   rw[hxi]
   simp only[Option.getD_none,Rep]) : P := h
theorem zT2 {P : Prop} (h : P := by
  have e3:n<i:=by have:=zf h3;omega
  rw[if_pos e3] at hD
  refine gbq ?_
  refine cD (m:=7) rfl [(b1,.cells 158 [.list (v.map str),.atom (.map (some m))])] ?_
  refine aT 0 rfl rfl (pM (lv:=.atom _) rfl) ?_
  refine aT 1 rfl rfl (pF rfl) ?_
  refine aT 2 rfl rfl (pL (c:=.list _) rfl zm0 rfl) ?_
  refine aT 3 rfl rfl (pM (lv:=.atom _) rfl) ?_
  refine LAny.take (i:=4) zhr rfl zk zk zk rfl (Pure.lslice (es:=v.map str) (i:=0) (j:=(n:Int)) rfl rfl ⟨_,rfl⟩ zo zo (by rw[hla];omega) (strs_len v)) ?_
  refine aT 5 rfl rfl (pA (lv:=.atom _) rfl) ?_
  refine aT 6 rfl rfl (pA (lv:=.list _) rfl) ?_
  refine aL ?_ zhr
  refine lD zk ?_
  refine gf1 ?_
  exact retRet (hj2.trans (hj1.trans hj)) (rC (zrt rfl) (rC (rT (v:=.list _) rfl zsr) rN)) (by rw[hD];exact congrArg (fun x=>LV.tuple [int .i64 (i:Nat),.list x]) List.map_take.symm)) : P := h
theorem zT3 {P : Prop} (h : P := by
  refine gao ?_
  refine rR rfl (zra rfl) zhn ⟨?_,rfl⟩
  simp only[q1,Bool.false_and,Bool.and_false,Bool.true_and]
  rfl) : P := h
theorem zT4 {P : Prop} (h : P := by
  refine gao ?_
  refine rR rfl (zra rfl) zhn ⟨?_,rfl⟩
  simp only[q1,q2,Bool.false_and,Bool.and_false,Bool.true_and]
  rfl) : P := h
theorem zT5 {P : Prop} (h : P := by
  refine zl1 (i:=4) zk ?_
  refine lW rfl (.inl rfl) rfl (sS (cs':=[_]) rfl zp2 rfl rfl rfl rfl rfl ?_)
  exact zT0) : P := h
theorem zT6 {P : Prop} (h : P := by
  rw[hr2,h4,obind_ok] at hI
  obtain ⟨g1,g2,g3,rfl⟩:=(ex_good T k).1 0 _ _ _ (hr2.trans (congrArg some h4))
  have g5:=g3 zo
  have g6:=g2 rfl
  refine oS (sL [_] rfl (eC rfl rfl eN) rfl rfl rfl ?_) rfl
  refine oS (S.acc1 rfl hacc rfl (by simp;rfl) rfl (by simp;omega) fun v' H' hacc'=>?_) rfl
  refine oP (pA (lv:=v') rfl) rfl ?_
  refine gb2 ?_
  exact ⟨k,_,_,by omega,⟨v',l++[e2],i4,H',by omega,rfl,rfl,by rw[zMa];exact hacc',by omega,by simp;omega,hI⟩,⟨rfl,rfl,trivial⟩,zhR _,hj⟩) : P := h
theorem zT7 {P : Prop} (h : P := by
  rw[hr2,h3,obind_err] at hI
  refine gaa ?_
  exact RetPost.panic (he'.trans (hj2.trans hj)) (hsub_clo (A:=[(b5,LObj.cells 170 [str (exOp ex),int .u32 (exNum ex),str (exName ex),.list (encArgs ex)]),(b,LObj.cells 170 [str [],int .u32 0,str [],nilSlice])]) (B:=[(bo,LObj.cells 246 [.atom (.func (.func fn) first caps)]),(bs,LObj.cells 58 [ptr sb 0]),(bp,LObj.cells 24 [.list ((lvOps k).map str)]),(bn,LObj.cells 4 [bool (decide ((k:Int)=2))])])) (by cases hI;exact ⟨rfl,i3,op3,rfl⟩)) : P := h
theorem zT8 {P : Prop} (h : P := by
  rw[hr2,h3,obind_err] at hI
  refine gaa ?_
  exact panP (he'.trans (hj2.trans hj)) (by cases hI;rfl) zhp) : P := h
theorem zT9 {P : Prop} (h : P := by
  refine gao ?_
  refine rR rfl (zra rfl) zhn ⟨?_,rfl⟩
  simp only[q1,q2,q3,Bool.false_and,Bool.and_false,Bool.true_and]
  rfl) : P := h
theorem zT10 {P : Prop} (h : P := by
  refine gbk ?_
  refine rR rfl (zra rfl) zhn ⟨?_,rfl⟩
  simp only[q1,q2,q3,q4,Bool.false_and,Bool.and_false,Bool.true_and]
  rfl) : P := h
theorem zT11 {P : Prop} (h : P := by
  intro h
  have h':_:=zt h
  obtain ⟨a1,a2,a3,a4,a5⟩:=h'
  exact ⟨⟨⟨⟨by simpa using a1,by omega⟩,by omega⟩,by omega⟩,by omega⟩) : P := h
theorem zT12 {P : Prop} (h : P := by
  rintro ⟨⟨⟨⟨a1,a2⟩,a3⟩,a4⟩,a5⟩
  exact decide_eq_true ⟨by simpa using a1,by omega,by omega,by omega,by omega⟩) : P := h
theorem zT13 {P : Prop} (h : P := by
  refine zl1 (i:=7) zk ?_
  refine lH rfl rfl (pA (lv:=.atom _) rfl) ?_
  refine lD zk ?_
  refine qN ?_
  exact ⟨⟨rfl,rfl,rfl,rfl,rfl,rfl,trivial⟩,rfl,rfl⟩) : P := h
theorem zT14 {P : Prop} (h : P := by
  refine zl1 (i:=7) zk ?_
  refine lH rfl rfl (pA (lv:=.atom _) rfl) ?_
  refine lD zk ?_
  refine qN ?_
  exact ⟨⟨rfl,rfl,rfl,rfl,rfl,trivial⟩,rfl,rfl⟩) : P := h
theorem zT15 {P : Prop} (h : P := by
  rw[hr1,h2,obind_err] at hr
  refine gaa ?_
  exact panP (he'.trans hj) (by cases hr;rfl) zhp) : P := h
theorem zT16 {P : Prop} (h : P := by
  rw[h1,obind_err] at hr
  refine gad ?_
  exact panP (he'.trans rfl) (by cases hr;rfl) zhp) : P := h
theorem zT17 {P : Prop} (h : P := by
  have hk:¬ k=2:=by have:=zf hk2;omega
  rw[if_neg hk] at hI
  refine gcj ?_
  exact ⟨q,_,_,by omega,⟨.mk (textAt T i2) 0 [] [ex,e2],i3,by omega,rfl,rfl,q4,hI⟩,⟨rfl,rfl,rfl,rfl,rfl,rfl,trivial⟩,(by rw[encArgs_map];exact zhR _),hj2.trans hj⟩) : P := h
theorem zT18 {P : Prop} (h : P := by
  rw[hr1,h1,obind_err] at hr
  refine gaa ?_
  exact panP zb0 (by cases hr;rfl) zhp) : P := h
theorem zT19 {P : Prop} (h : P := by
  rw[h,Bool.true_and] at r1
  refine gaj ?_
  refine oS (sF [_] rfl (asmName_spec _ hlen) ?_) rfl
  refine gbr ?_
  exact retRetIf rfl (rC (rT (v:=.atom _) rfl (vR _)) (rC (rT (v:=.atom _) rfl (vR _)) rN)) (OptLV.mk r1 r2)) : P := h
theorem zT20 {P : Prop} (h : P := by
  rw[h1,obind_err] at hr
  refine gaa ?_
  exact panP zb0 (by cases hr;rfl) zhp) : P := h
theorem zT21 {P : Prop} (h : P := by
  rw[h3,obind_err] at hr
  refine gaa ?_
  exact panP zb0 (by cases hr;rfl) zhp) : P := h
theorem zT22 {P : Prop} (h : P := by
  have hk:k=2:=by have:=zt hk2;omega
  rw[if_pos hk] at hI
  refine ge0 ?_
  exact rR (hj2.trans hj) (rC (rA rfl zm0 rfl zsr) rN) (zhD (zhD zhr)) (by cases hI;exact ⟨by rw[encE_mk];rfl,rfl⟩)) : P := h
theorem zT23 {P : Prop} (h : P := by
  refine ga4 ?_
  exact retRet rfl (rC (zrt rfl) (rC (rT (v:=nilSlice) rfl vN) rN)) (by rw[hF];rfl)) : P := h
theorem zT24 {P : Prop} (h : P := by
  have e3:¬ n<i:=by have:=zt h3;omega
  rw[if_neg e3] at hD
  refine gaf ?_
  exact retRet (hj2.trans (hj1.trans hj)) (rC (zrt rfl) (rC (rT (v:=nilSlice) rfl vN) rN)) (by rw[hD];rfl)) : P := h
theorem zT25 {P : Prop} (h : P := by
  rw[h,Bool.true_and] at r1
  refine gaj ?_
  refine oS (sF [_] rfl (isName_spec _ hlen) ?_) rfl
  refine gbr ?_
  exact retRetIf rfl (rC (zrt rfl) (zra rfl)) (OptLV.mk r1 r2)) : P := h
namespace Go.GL
theorem zo {P:Prop} (h:P:=by omega):P:=h
theorem zk {P:Prop} (h:P:=by kernel_rfl):P:=h
theorem zpr {α:Type _} {l:List α}:l.Perm l:=List.Perm.refl _
theorem zm0 {α:Type _} {a:α} {l:List α}:a∈a::l:=(List.Mem.head _)
theorem zm1 {α:Type _} {a b:α} {l:List α}:b∈a::b::l:=(List.Mem.tail _ (List.Mem.head _))
theorem zm2 {α:Type _} {a b c:α} {l:List α}:c∈a::b::c::l:=(List.Mem.tail _ (List.Mem.tail _ (List.Mem.head _)))
theorem zm3 {α:Type _} {a b c d:α} {l:List α}:d∈a::b::c::d::l:=(List.Mem.tail _ (List.Mem.tail _ (List.Mem.tail _ (List.Mem.head _))))
theorem zm4 {α:Type _} {a b c d e:α} {l:List α}:e∈a::b::c::d::e::l:=(List.Mem.tail _ (List.Mem.tail _ (List.Mem.tail _ (List.Mem.tail _ (List.Mem.head _)))))
theorem zm5 {α:Type _} {a b c d e f:α} {l:List α}:f∈a::b::c::d::e::f::l:=(List.Mem.tail _ (List.Mem.tail _ (List.Mem.tail _ (List.Mem.tail _ (List.Mem.tail _ (List.Mem.head _))))))
theorem zm6 {α:Type _} {a b c d e f g:α} {l:List α}:g∈a::b::c::d::e::f::g::l:=(List.Mem.tail _ (List.Mem.tail _ (List.Mem.tail _ (List.Mem.tail _ (List.Mem.tail _ (List.Mem.tail _ (List.Mem.head _)))))))
theorem zm7 {α:Type _} {a b c d e f g h:α} {l:List α}:h∈a::b::c::d::e::f::g::h::l:=(List.Mem.tail _ (List.Mem.tail _ (List.Mem.tail _ (List.Mem.tail _ (List.Mem.tail _ (List.Mem.tail _ (List.Mem.tail _ (List.Mem.head _))))))))
theorem zm8 {α:Type _} {a b c d e f g h i:α} {l:List α}:i∈a::b::c::d::e::f::g::h::i::l:=(List.Mem.tail _ (List.Mem.tail _ (List.Mem.tail _ (List.Mem.tail _ (List.Mem.tail _ (List.Mem.tail _ (List.Mem.tail _ (List.Mem.tail _ (List.Mem.head _)))))))))
theorem zb0 {P:Prop} (h:P:=by first|exact he9.trans rfl|exact he9.trans hj|exact he9.trans (hj2.trans hj)):P:=h
theorem zb1 {P:Prop} (h:P:=by first|exact pH|exact pT pH|exact pT (pT (pH))|exact pT (pT (pT (pH)))|exact pT (pT (pT (pT (pH))))|exact pT (pT (pT (pT (pT (pH)))))|exact pT (pT (pT (pT (pT (pT (pH))))))|exact pT (pT (pT (pT (pT (pT (pT (pH)))))))):P:=h
theorem zt {p:Prop} [Decidable p] (h:decide p=true):p:=of_decide_eq_true h
theorem zf {p:Prop} [Decidable p] (h:decide p=false):¬p:=of_decide_eq_false h
theorem gaa {P Q:Prop} (h:Q) (t:(Unit→Q)→P:=by intro h;(repeat first|refine QThen.panic ?_|refine QBlock.panic ?_);exact h ()):P:=t fun _=>h
theorem gab {P Q:Prop} (h:Q) (t:(Unit→Q)→P:=by intro h;(repeat first|refine LCode.region ?_|refine LCode.seq ?_|refine oP (pM (lv:=.atom _) rfl) rfl ?_);exact h ()):P:=t fun _=>h
theorem gac {P Q:Prop} (h:Q) (t:(Unit→Q)→P:=by intro h;(repeat first|refine LCode.region ?_|refine LCode.seq ?_);exact h ()):P:=t fun _=>h
theorem gad {P Q:Prop} (h:Q) (t:(Unit→Q)→P:=by intro h;(repeat first|refine QThen.panic ?_);exact h ()):P:=t fun _=>h
theorem gae {P Q:Prop} (h:Q) (t:(Unit→Q)→P:=by intro h;(repeat first|refine qN ?_|refine LOps.nil ?_|refine LCode.region ?_|refine LCode.seq ?_|refine oP (Pure.lss rfl rfl) rfl ?_);exact h ()):P:=t fun _=>h
theorem gaf {P Q:Prop} (h:Q) (t:(Unit→Q)→P:=by intro h;(repeat first|refine qN ?_|refine LOps.nil ?_|refine LCode.region ?_|refine LCode.seq ?_|refine oP (pA (lv:=.atom _) rfl) rfl ?_|refine LCode.ret ?_|refine QThen.ret ?_);exact h ()):P:=t fun _=>h
theorem gag {P Q:Prop} (h:Q) (t:(Unit→Q)→P:=by intro h;(repeat first|refine qN ?_|refine LCode.region ?_|refine LCode.seq ?_|refine LCode.skip ?_|refine LCode.block ?_);exact h ()):P:=t fun _=>h
theorem gah {P Q:Prop} (h:Q) (t:(Unit→Q)→P:=by intro h;(repeat first|refine qN ?_|refine LOps.nil ?_|refine LCode.region ?_|refine oP (pM (lv:=.atom _) rfl) rfl ?_|refine QBlock.normal ?_|refine oP (Pure.add rfl rfl (by omega)) rfl ?_);exact h ()):P:=t fun _=>h
theorem gai {P Q:Prop} (h:Q) (t:(Unit→Q)→P:=by intro h;(repeat first|refine qN ?_|refine LOps.nil ?_|refine LCode.region ?_|refine LCode.seq ?_|refine oP (pA (lv:=.atom _) rfl) rfl ?_|refine oP (Pure.seq rfl rfl) rfl ?_);exact h ()):P:=t fun _=>h
theorem gaj {P Q:Prop} (h:Q) (t:(Unit→Q)→P:=by intro h;(repeat first|refine oP (pM (lv:=.atom _) rfl) rfl ?_|refine LOps.want rfl rfl ?_);exact h ()):P:=t fun _=>h
theorem gak {P Q:Prop} (h:Q) (t:(Unit→Q)→P:=by intro h;(repeat first|refine qN ?_|refine LOps.nil ?_|refine LCode.region ?_|refine LCode.seq ?_|refine oP (pM (lv:=.atom _) rfl) rfl ?_);exact h ()):P:=t fun _=>h
theorem gal {P Q:Prop} (h:Q) (t:(Unit→Q)→P:=by intro h;(repeat first|refine qN ?_|refine LOps.nil ?_|refine LCode.region ?_|refine LCode.seq ?_|refine oP (pM (lv:=.atom _) rfl) rfl ?_|refine oP (pA (lv:=.atom _) rfl) rfl ?_);exact h ()):P:=t fun _=>h
theorem gam {P Q:Prop} (h:Q) (t:(Unit→Q)→P:=by intro h;(repeat first|refine qN ?_|refine LOps.nil ?_|refine LCode.region ?_|refine LCode.seq ?_|refine oP (pM (lv:=.atom _) rfl) rfl ?_|refine oP (pA (lv:=.atom _) rfl) rfl ?_|refine oP (Pure.extract (c:=.atom _) rfl rfl) rfl ?_|refine oP (pM (lv:=.tuple _) rfl) rfl ?_);exact h ()):P:=t fun _=>h
theorem gan {P Q:Prop} (h:Q) (t:(Unit→Q)→P:=by intro h;(repeat first|refine oP (pR (cs':=[_,_,_,_]) rfl rfl rfl) rfl ?_);exact h ()):P:=t fun _=>h
theorem gao {P Q:Prop} (h:Q) (t:(Unit→Q)→P:=by intro h;(repeat first|refine qN ?_|refine LOps.nil ?_|refine oP (pM (lv:=.atom _) rfl) rfl ?_|refine oP (pA (lv:=.atom _) rfl) rfl ?_|refine LCode.ret ?_|refine QThen.ret ?_|refine oP (Pure.pickF (lv:=.atom _) rfl rfl) rfl ?_|refine LOps.skip rfl rfl rfl rfl ?_|refine QBlock.ret ?_);exact h ()):P:=t fun _=>h
theorem gap {P Q:Prop} (h:Q) (t:(Unit→Q)→P:=by intro h;(repeat first|refine oP (pM (lv:=.atom _) rfl) rfl ?_|refine LOps.want rfl rfl ?_|refine oP (Pure.pickT (lv:=.atom _) rfl rfl) rfl ?_|refine oP (Pure.eql rfl rfl) rfl ?_);exact h ()):P:=t fun _=>h
theorem gaq {P Q:Prop} (h:Q) (t:(Unit→Q)→P:=by intro h;(repeat first|refine qN ?_|refine LOps.nil ?_);exact h ()):P:=t fun _=>h
theorem gar {P Q:Prop} (h:Q) (t:(Unit→Q)→P:=by intro h;(repeat first|refine qN ?_|refine LOps.nil ?_|refine oP (pA (lv:=.atom _) rfl) rfl ?_);exact h ()):P:=t fun _=>h
theorem gas {P Q:Prop} (h:Q) (t:(Unit→Q)→P:=by intro h;(repeat first|refine LCode.region ?_|refine oP (pM (lv:=.atom _) rfl) rfl ?_);exact h ()):P:=t fun _=>h
theorem gat {P Q:Prop} (h:Q) (t:(Unit→Q)→P:=by intro h;(repeat first|refine oP (pM (lv:=.atom _) rfl) rfl ?_);exact h ()):P:=t fun _=>h
theorem gau {P Q:Prop} (h:Q) (t:(Unit→Q)→P:=by intro h;(repeat first|refine qN ?_|refine LOps.nil ?_|refine oP (pA (lv:=.atom _) rfl) rfl ?_|refine LCode.ret ?_|refine QThen.ret ?_|refine QBlock.ret ?_);exact h ()):P:=t fun _=>h
theorem gav {P Q:Prop} (h:Q) (t:(Unit→Q)→P:=by intro h;(repeat first|refine qN ?_|refine LOps.nil ?_|refine LCode.region ?_|refine LCode.seq ?_|refine oP (pA (lv:=.atom _) rfl) rfl ?_|refine oP (Pure.eql rfl rfl) rfl ?_);exact h ()):P:=t fun _=>h
theorem gaw {P Q:Prop} (h:Q) (t:(Unit→Q)→P:=by intro h;(repeat first|refine qN ?_|refine LCode.region ?_|refine LCode.seq ?_|refine oP (pM (lv:=.atom _) rfl) rfl ?_|refine LCode.skip ?_);exact h ()):P:=t fun _=>h
theorem gax {P Q:Prop} (h:Q) (t:(Unit→Q)→P:=by intro h;(repeat first|refine qN ?_|refine LOps.nil ?_|refine LCode.region ?_|refine oP (pM (lv:=.atom _) rfl) rfl ?_|refine LCode.skip ?_|refine QBlock.normal ?_|refine oP (Pure.add rfl rfl (by omega)) rfl ?_);exact h ()):P:=t fun _=>h
theorem gay {P Q:Prop} (h:Q) (t:(Unit→Q)→P:=by intro h;(repeat first|refine LOps.nil ?_|refine QBlock.normal ?_);exact h ()):P:=t fun _=>h
theorem gaz {P Q:Prop} (h:Q) (t:(Unit→Q)→P:=by intro h;(repeat first|refine qN ?_|refine LOps.nil ?_|refine oP (pA (lv:=.atom _) rfl) rfl ?_|refine LCode.ret ?_|refine oP (Pure.pickF (lv:=.atom _) rfl rfl) rfl ?_|refine LOps.skip rfl rfl rfl rfl ?_);exact h ()):P:=t fun _=>h
theorem ga0 {P Q:Prop} (h:Q) (t:(Unit→Q)→P:=by intro h;(repeat first|refine qN ?_|refine LOps.nil ?_|refine oP (pA (lv:=.atom _) rfl) rfl ?_|refine LCode.ret ?_);exact h ()):P:=t fun _=>h
theorem ga1 {P Q:Prop} (h:Q) (t:(Unit→Q)→P:=by intro h;(repeat first|refine qN ?_|refine LOps.nil ?_|refine LCode.region ?_|refine LCode.seq ?_|refine oP (pA (lv:=.atom _) rfl) rfl ?_);exact h ()):P:=t fun _=>h
theorem ga2 {P Q:Prop} (h:Q) (t:(Unit→Q)→P:=by intro h;(repeat first|refine qN ?_|refine LOps.nil ?_|refine LCode.region ?_|refine LCode.seq ?_|refine oP (pA (lv:=.atom _) rfl) rfl ?_|refine LCode.ret ?_|refine QThen.ret ?_|refine QBlock.ret ?_);exact h ()):P:=t fun _=>h
theorem ga3 {P Q:Prop} (h:Q) (t:(Unit→Q)→P:=by intro h;(repeat first|refine qN ?_|refine LOps.nil ?_|refine LCode.region ?_|refine oP (pM (lv:=.atom _) rfl) rfl ?_);exact h ()):P:=t fun _=>h
theorem ga4 {P Q:Prop} (h:Q) (t:(Unit→Q)→P:=by intro h;(repeat first|refine qN ?_|refine LOps.nil ?_|refine LCode.region ?_|refine LCode.seq ?_|refine oP (pA (lv:=.atom _) rfl) rfl ?_|refine LCode.ret ?_|refine LCode.skip ?_);exact h ()):P:=t fun _=>h
theorem ga5 {P Q:Prop} (h:Q) (t:(Unit→Q)→P:=by intro h;(repeat first|refine oP (pR (cs':=[_,_]) rfl rfl rfl) rfl ?_);exact h ()):P:=t fun _=>h
theorem ga6 {P Q:Prop} (h:Q) (t:(Unit→Q)→P:=by intro h;(repeat first|refine qN ?_|refine LCode.skip ?_);exact h ()):P:=t fun _=>h
theorem ga7 {P Q:Prop} (h:Q) (t:(Unit→Q)→P:=by intro h;(repeat first|refine LCode.region ?_|refine LCode.seq ?_|refine oP (pM (lv:=.atom _) rfl) rfl ?_|refine oP (pF rfl) rfl ?_|refine oP (pL (c:=.list _) rfl (List.Mem.head _) rfl) rfl ?_);exact h ()):P:=t fun _=>h
theorem ga8 {P Q:Prop} (h:Q) (t:(Unit→Q)→P:=by intro h;(repeat first|refine qN ?_|refine LOps.nil ?_|refine oP (Pure.not rfl) rfl ?_);exact h ()):P:=t fun _=>h
theorem ga9 {P Q:Prop} (h:Q) (t:(Unit→Q)→P:=by intro h;(repeat first|refine qN ?_|refine LOps.nil ?_|refine LCode.region ?_|refine LCode.seq ?_|refine oP (pM (lv:=.atom _) rfl) rfl ?_|refine oP (pA (lv:=.atom _) rfl) rfl ?_|refine LCode.block ?_|refine oP (pM (lv:=.list _) rfl) rfl ?_|refine oP (Pure.llen rfl) rfl ?_);exact h ()):P:=t fun _=>h
theorem gba {P Q:Prop} (h:Q) (t:(Unit→Q)→P:=by intro h;(repeat first|refine LOps.nil ?_);exact h ()):P:=t fun _=>h
theorem gbb {P Q:Prop} (h:Q) (t:(Unit→Q)→P:=by intro h;(repeat first|refine qN ?_|refine LCode.region ?_|refine LCode.seq ?_|refine LCode.exit ?_|refine QBlock.hit ?_|refine QThen.exit ?_);exact h ()):P:=t fun _=>h
theorem gbc {P Q:Prop} (h:Q) (t:(Unit→Q)→P:=by intro h;(repeat first|refine qN ?_|refine LOps.nil ?_|refine oP (pM (lv:=.atom _) rfl) rfl ?_|refine oP (Pure.pickT (lv:=.atom _) rfl rfl) rfl ?_|refine LOps.skip rfl rfl rfl rfl ?_);exact h ()):P:=t fun _=>h
theorem gbd {P Q:Prop} (h:Q) (t:(Unit→Q)→P:=by intro h;(repeat first|refine qN ?_|refine LCode.ret ?_|refine QThen.ret ?_);exact h ()):P:=t fun _=>h
theorem gbe {P Q:Prop} (h:Q) (t:(Unit→Q)→P:=by intro h;(repeat first|refine qN ?_|refine LOps.nil ?_|refine oP (pA (lv:=.atom _) rfl) rfl ?_|refine oP (Pure.extract (c:=.atom _) rfl rfl) rfl ?_|refine oP (pM (lv:=.tuple _) rfl) rfl ?_|refine oP (pA (lv:=.list _) rfl) rfl ?_|refine oP (Pure.extract (c:=.list _) rfl rfl) rfl ?_);exact h ()):P:=t fun _=>h
theorem gbf {P Q:Prop} (h:Q) (t:(Unit→Q)→P:=by intro h;(repeat first|refine qN ?_|refine LOps.nil ?_|refine oP (pM (lv:=.atom _) rfl) rfl ?_|refine LCode.block ?_|refine oP (Pure.llen rfl) rfl ?_);exact h ()):P:=t fun _=>h
theorem gbg {P Q:Prop} (h:Q) (t:(Unit→Q)→P:=by intro h;(repeat first|refine qN ?_|refine LOps.nil ?_|refine oP (Pure.pickT (lv:=.atom _) rfl rfl) rfl ?_|refine LOps.skip rfl rfl rfl rfl ?_);exact h ()):P:=t fun _=>h
theorem gbh {P Q:Prop} (h:Q) (t:(Unit→Q)→P:=by intro h;(repeat first|refine oP (Pure.extract (c:=.atom _) rfl rfl) rfl ?_|refine oP (pM (lv:=.tuple _) rfl) rfl ?_|refine oP (Pure.extract (c:=.agg _) rfl rfl) rfl ?_);exact h ()):P:=t fun _=>h
theorem gbi {P Q:Prop} (h:Q) (t:(Unit→Q)→P:=by intro h;(repeat first|refine qN ?_|refine QBlock.normal ?_);exact h ()):P:=t fun _=>h
theorem gbj {P Q:Prop} (h:Q) (t:(Unit→Q)→P:=by intro h;(repeat first|refine qN ?_|refine LOps.nil ?_|refine LCode.ret ?_);exact h ()):P:=t fun _=>h
theorem gbk {P Q:Prop} (h:Q) (t:(Unit→Q)→P:=by intro h;(repeat first|refine qN ?_|refine LOps.nil ?_|refine oP (pA (lv:=.atom _) rfl) rfl ?_|refine LCode.ret ?_|refine QThen.ret ?_|refine oP (Pure.pickF (lv:=.atom _) rfl rfl) rfl ?_|refine LOps.skip rfl rfl rfl rfl ?_|refine QBlock.ret ?_);exact h ()):P:=t fun _=>h
theorem gbl {P Q:Prop} (h:Q) (t:(Unit→Q)→P:=by intro h;(repeat first|refine qN ?_|refine LOps.nil ?_|refine LCode.region ?_|refine LCode.seq ?_|refine oP (pM (lv:=.atom _) rfl) rfl ?_|refine LCode.block ?_|refine oP (pM (lv:=.list _) rfl) rfl ?_|refine oP (Pure.llen rfl) rfl ?_);exact h ()):P:=t fun _=>h
theorem gbm {P Q:Prop} (h:Q) (t:(Unit→Q)→P:=by intro h;(repeat first|refine qN ?_|refine LOps.nil ?_|refine oP (Pure.pickF (lv:=.atom _) rfl rfl) rfl ?_|refine LOps.skip rfl rfl rfl rfl ?_);exact h ()):P:=t fun _=>h
theorem gbn {P Q:Prop} (h:Q) (t:(Unit→Q)→P:=by intro h;(repeat first|refine LCode.region ?_|refine LCode.seq ?_|refine oP (pM (lv:=.atom _) rfl) rfl ?_|refine oP (Pure.not rfl) rfl ?_);exact h ()):P:=t fun _=>h
theorem gbo {P Q:Prop} (h:Q) (t:(Unit→Q)→P:=by intro h;(repeat first|refine qN ?_|refine LCode.region ?_|refine LCode.seq ?_|refine oP (pM (lv:=.atom _) rfl) rfl ?_|refine LCode.skip ?_|refine LCode.block ?_);exact h ()):P:=t fun _=>h
theorem gbp {P Q:Prop} (h:Q) (t:(Unit→Q)→P:=by intro h;(repeat first|refine qN ?_|refine LOps.nil ?_|refine oP (pM (lv:=.atom _) rfl) rfl ?_|refine oP (pA (lv:=.atom _) rfl) rfl ?_|refine LCode.ret ?_|refine LOps.want rfl rfl ?_|refine QThen.ret ?_|refine oP (Pure.pickT (lv:=.atom _) rfl rfl) rfl ?_|refine QBlock.ret ?_|refine oP (Pure.eql rfl rfl) rfl ?_);exact h ()):P:=t fun _=>h
theorem gbq {P Q:Prop} (h:Q) (t:(Unit→Q)→P:=by intro h;(repeat first|refine qN ?_|refine LCode.seq ?_|refine LCode.skip ?_);exact h ()):P:=t fun _=>h
theorem gbr {P Q:Prop} (h:Q) (t:(Unit→Q)→P:=by intro h;(repeat first|refine qN ?_|refine LOps.nil ?_|refine oP (pA (lv:=.atom _) rfl) rfl ?_|refine LCode.ret ?_|refine oP (Pure.pickT (lv:=.atom _) rfl rfl) rfl ?_);exact h ()):P:=t fun _=>h
theorem gbs {P Q:Prop} (h:Q) (t:(Unit→Q)→P:=by intro h;(repeat first|refine qN ?_|refine LOps.nil ?_|refine LCode.region ?_|refine LCode.seq ?_|refine oP (pM (lv:=.atom _) rfl) rfl ?_|refine oP (pF rfl) rfl ?_|refine oP (pL (c:=.list _) rfl (List.Mem.head _) rfl) rfl ?_);exact h ()):P:=t fun _=>h
theorem gbt {P Q:Prop} (h:Q) (t:(Unit→Q)→P:=by intro h;(repeat first|refine qN ?_|refine LOps.nil ?_|refine oP (pM (lv:=.atom _) rfl) rfl ?_|refine oP (pA (lv:=.atom _) rfl) rfl ?_|refine LCode.ret ?_|refine oP (Pure.pickF (lv:=.atom _) rfl rfl) rfl ?_|refine LOps.skip rfl rfl rfl rfl ?_);exact h ()):P:=t fun _=>h
theorem gbu {P Q:Prop} (h:Q) (t:(Unit→Q)→P:=by intro h;(repeat first|refine qN ?_|refine LOps.nil ?_|refine LCode.region ?_|refine LCode.seq ?_|refine oP (pA (lv:=.atom _) rfl) rfl ?_|refine oP (pG (cs':=[_,_]) rfl (List.Mem.head _) rfl rfl) rfl ?_);exact h ()):P:=t fun _=>h
theorem gbv {P Q:Prop} (h:Q) (t:(Unit→Q)→P:=by intro h;(repeat first|refine qN ?_|refine LCode.region ?_|refine LCode.seq ?_|refine oP (pM (lv:=.atom _) rfl) rfl ?_|refine LCode.exit ?_|refine QBlock.hit ?_|refine QThen.exit ?_);exact h ()):P:=t fun _=>h
theorem gbw {P Q:Prop} (h:Q) (t:(Unit→Q)→P:=by intro h;(repeat first|refine qN ?_|refine LOps.nil ?_|refine LCode.region ?_|refine LCode.seq ?_|refine oP (pA (lv:=.atom _) rfl) rfl ?_|refine LCode.ret ?_|refine LCode.exit ?_|refine QBlock.hit ?_|refine QThen.exit ?_);exact h ()):P:=t fun _=>h
theorem gbx {P Q:Prop} (h:Q) (t:(Unit→Q)→P:=by intro h;(repeat first|refine qN ?_|refine LOps.nil ?_|refine LCode.region ?_|refine LCode.seq ?_|refine oP (pA (lv:=.atom _) rfl) rfl ?_|refine LCode.ret ?_|refine QThen.ret ?_|refine oS (sS (cs':=[_,_,_]) rfl pH rfl rfl rfl rfl rfl ?_) rfl|refine oP (pB _ (cs:=[_,_,_]) rfl) rfl ?_);exact h ()):P:=t fun _=>h
theorem gby {P Q:Prop} (h:Q) (t:(Unit→Q)→P:=by intro h;(repeat first|refine qN ?_|refine LOps.nil ?_|refine LCode.seq ?_|refine oP (pA (lv:=.atom _) rfl) rfl ?_);exact h ()):P:=t fun _=>h
theorem gbz {P Q:Prop} (h:Q) (t:(Unit→Q)→P:=by intro h;(repeat first|refine LCode.region ?_|refine LCode.seq ?_|refine oP (pM (lv:=.atom _) rfl) rfl ?_|refine oP (Pure.add rfl rfl (by omega)) rfl ?_);exact h ()):P:=t fun _=>h
theorem gb0 {P Q:Prop} (h:Q) (t:(Unit→Q)→P:=by intro h;(repeat first|refine qN ?_|refine LCode.region ?_|refine LCode.seq ?_|refine oP (pM (lv:=.atom _) rfl) rfl ?_|refine LCode.skip ?_|refine QBlock.normal ?_);exact h ()):P:=t fun _=>h
theorem gb1 {P Q:Prop} (h:Q) (t:(Unit→Q)→P:=by intro h;(repeat first|refine qN ?_|refine LOps.nil ?_|refine LCode.region ?_|refine LCode.seq ?_|refine oP (pM (lv:=.atom _) rfl) rfl ?_|refine oP (pA (lv:=.atom _) rfl) rfl ?_|refine oP (pO (c:=.atom _) rfl rfl) rfl ?_);exact h ()):P:=t fun _=>h
theorem gb2 {P Q:Prop} (h:Q) (t:(Unit→Q)→P:=by intro h;(repeat first|refine qN ?_|refine LOps.nil ?_|refine QBlock.normal ?_);exact h ()):P:=t fun _=>h
theorem gb3 {P Q:Prop} (h:Q) (t:(Unit→Q)→P:=by intro h;(repeat first|refine LCode.exit ?_|refine QBlock.hit ?_|refine QThen.exit ?_);exact h ()):P:=t fun _=>h
theorem gb4 {P Q:Prop} (h:Q) (t:(Unit→Q)→P:=by intro h;(repeat first|refine LCode.seq ?_);exact h ()):P:=t fun _=>h
theorem gb5 {P Q:Prop} (h:Q) (t:(Unit→Q)→P:=by intro h;(repeat first|refine LCode.region ?_);exact h ()):P:=t fun _=>h
theorem gb6 {P Q:Prop} (h:Q) (t:(Unit→Q)→P:=by intro h;(repeat first|refine LCode.region ?_|refine LCode.seq ?_|refine oP (pG (cs':=[_,_]) rfl (List.Mem.head _) rfl rfl) rfl ?_);exact h ()):P:=t fun _=>h
theorem gb7 {P Q:Prop} (h:Q) (t:(Unit→Q)→P:=by intro h;(repeat first|refine qN ?_|refine LOps.nil ?_|refine LCode.region ?_|refine LCode.seq ?_|refine oP (pM (lv:=.atom _) rfl) rfl ?_|refine oP (Pure.sadd rfl rfl (by first|omega|(simp only[zLa,zLc,zLn];omega))) rfl ?_);exact h ()):P:=t fun _=>h
theorem gb8 {P Q:Prop} (h:Q) (t:(Unit→Q)→P:=by intro h;(repeat first|refine LOps.want rfl rfl ?_|refine oP (pG (cs':=[_,_]) rfl (List.Mem.head _) rfl rfl) rfl ?_);exact h ()):P:=t fun _=>h
theorem gb9 {P Q:Prop} (h:Q) (t:(Unit→Q)→P:=by intro h;(repeat first|refine oP (pM (lv:=.list _) rfl) rfl ?_);exact h ()):P:=t fun _=>h
theorem gca {P Q:Prop} (h:Q) (t:(Unit→Q)→P:=by intro h;(repeat first|refine qN ?_|refine LOps.nil ?_|refine LCode.region ?_|refine LCode.seq ?_|refine oP (pA (lv:=.atom _) rfl) rfl ?_|refine LCode.block ?_);exact h ()):P:=t fun _=>h
theorem gcb {P Q:Prop} (h:Q) (t:(Unit→Q)→P:=by intro h;(repeat first|refine LCode.skip ?_);exact h ()):P:=t fun _=>h
theorem gcc {P Q:Prop} (h:Q) (t:(Unit→Q)→P:=by intro h;(repeat first|refine qN ?_|refine LOps.nil ?_|refine LCode.region ?_|refine LCode.seq ?_|refine oP (pM (lv:=.atom _) rfl) rfl ?_|refine oP (pA (lv:=.atom _) rfl) rfl ?_|refine oP (Pure.extract (c:=.atom _) rfl rfl) rfl ?_|refine oP (pM (lv:=.tuple _) rfl) rfl ?_|refine oP (Pure.not rfl) rfl ?_);exact h ()):P:=t fun _=>h
theorem gcd {P Q:Prop} (h:Q) (t:(Unit→Q)→P:=by intro h;(repeat first|refine oP (pM (lv:=.atom _) rfl) rfl ?_|refine LOps.want rfl rfl ?_|refine oP (Pure.pickF (lv:=.atom _) rfl rfl) rfl ?_|refine oP (Pure.pickT (lv:=.atom _) rfl rfl) rfl ?_|refine oP (Pure.not rfl) rfl ?_);exact h ()):P:=t fun _=>h
theorem gce {P Q:Prop} (h:Q) (t:(Unit→Q)→P:=by intro h;(repeat first|refine qN ?_|refine LOps.nil ?_|refine LCode.region ?_|refine oP (pM (lv:=.atom _) rfl) rfl ?_|refine oP (pA (lv:=.atom _) rfl) rfl ?_|refine QBlock.normal ?_|refine oP (Pure.add rfl rfl (by omega)) rfl ?_);exact h ()):P:=t fun _=>h
theorem gcf {P Q:Prop} (h:Q) (t:(Unit→Q)→P:=by intro h;(repeat first|refine qN ?_|refine LOps.nil ?_|refine LCode.region ?_|refine LCode.seq ?_|refine oP (pA (lv:=.atom _) rfl) rfl ?_|refine oP (pF rfl) rfl ?_|refine oP (pL (c:=.atom _) rfl (List.Mem.head _) rfl) rfl ?_);exact h ()):P:=t fun _=>h
theorem gcg {P Q:Prop} (h:Q) (t:(Unit→Q)→P:=by intro h;(repeat first|refine qN ?_|refine LOps.nil ?_|refine LCode.region ?_|refine LCode.seq ?_);exact h ()):P:=t fun _=>h
theorem gch {P Q:Prop} (h:Q) (t:(Unit→Q)→P:=by intro h;(repeat first|refine oP (pO (c:=.atom _) rfl rfl) rfl ?_);exact h ()):P:=t fun _=>h
theorem gci {P Q:Prop} (h:Q) (t:(Unit→Q)→P:=by intro h;(repeat first|refine oP (pB _ (cs:=[_,_,_,_]) rfl) rfl ?_);exact h ()):P:=t fun _=>h
theorem gcj {P Q:Prop} (h:Q) (t:(Unit→Q)→P:=by intro h;(repeat first|refine qN ?_|refine LCode.skip ?_|refine QBlock.normal ?_);exact h ()):P:=t fun _=>h
theorem gck {P Q:Prop} (h:Q) (t:(Unit→Q)→P:=by intro h;(repeat first|refine qN ?_|refine LOps.nil ?_|refine oP (pM (lv:=.atom _) rfl) rfl ?_|refine LOps.want rfl rfl ?_|refine oP (Pure.pickF (lv:=.atom _) rfl rfl) rfl ?_|refine oP (Pure.sneq rfl rfl) rfl ?_);exact h ()):P:=t fun _=>h
theorem gcl {P Q:Prop} (h:Q) (t:(Unit→Q)→P:=by intro h;(repeat first|refine qN ?_|refine LOps.nil ?_|refine LCode.region ?_|refine LCode.seq ?_|refine oP (pM (lv:=.atom _) rfl) rfl ?_|refine oP (pA (lv:=.atom _) rfl) rfl ?_|refine oP (Pure.geq rfl rfl) rfl ?_);exact h ()):P:=t fun _=>h
theorem gcm {P Q:Prop} (h:Q) (t:(Unit→Q)→P:=by intro h;(repeat first|refine qN ?_|refine LOps.nil ?_|refine oP (pM (lv:=.atom _) rfl) rfl ?_|refine oP (pA (lv:=.atom _) rfl) rfl ?_|refine LCode.ret ?_|refine LOps.want rfl rfl ?_|refine oP (Pure.pickT (lv:=.atom _) rfl rfl) rfl ?_|refine oP (Pure.leq rfl rfl) rfl ?_);exact h ()):P:=t fun _=>h
theorem gcn {P Q:Prop} (h:Q) (t:(Unit→Q)→P:=by intro h;(repeat first|refine qN ?_|refine LOps.nil ?_|refine LCode.region ?_|refine LCode.seq ?_|refine oP (pM (lv:=.atom _) rfl) rfl ?_|refine oP (pA (lv:=.atom _) rfl) rfl ?_|refine LCode.ret ?_|refine LCode.skip ?_);exact h ()):P:=t fun _=>h
theorem gco {P Q:Prop} (h:Q) (t:(Unit→Q)→P:=by intro h;(repeat first|refine qN ?_|refine LOps.nil ?_|refine LCode.region ?_|refine LCode.seq ?_|refine oP (pM (lv:=.atom _) rfl) rfl ?_|refine oP (pF rfl) rfl ?_|refine LCode.block ?_|refine oP (Pure.llen rfl) rfl ?_|refine oP (pL (c:=.list _) rfl (List.Mem.head _) rfl) rfl ?_);exact h ()):P:=t fun _=>h
theorem gcp {P Q:Prop} (h:Q) (t:(Unit→Q)→P:=by intro h;(repeat first|refine qN ?_|refine LOps.nil ?_|refine oP (Pure.pickT (lv:=.atom _) rfl rfl) rfl ?_);exact h ()):P:=t fun _=>h
theorem gcq {P Q:Prop} (h:Q) (t:(Unit→Q)→P:=by intro h;(repeat first|refine qN ?_|refine LOps.nil ?_|refine LCode.ret ?_|refine oP (pA (lv:=.list _) rfl) rfl ?_);exact h ()):P:=t fun _=>h
theorem gcr {P Q:Prop} (h:Q) (t:(Unit→Q)→P:=by intro h;(repeat first|refine qN ?_|refine LOps.nil ?_|refine LCode.region ?_|refine LCode.seq ?_|refine oP (pM (lv:=.atom _) rfl) rfl ?_|refine oP (pA (lv:=.atom _) rfl) rfl ?_|refine LCode.ret ?_|refine QThen.ret ?_|refine QBlock.ret ?_);exact h ()):P:=t fun _=>h
theorem gcs {P Q:Prop} (h:Q) (t:(Unit→Q)→P:=by intro h;(repeat first|refine qN ?_|refine LOps.nil ?_|refine LCode.region ?_|refine LCode.seq ?_|refine oP (pM (lv:=.atom _) rfl) rfl ?_|refine oP (pA (lv:=.atom _) rfl) rfl ?_|refine oP (Pure.slen rfl) rfl ?_|refine oP (Pure.gtr rfl rfl) rfl ?_);exact h ()):P:=t fun _=>h
theorem gct {P Q:Prop} (h:Q) (t:(Unit→Q)→P:=by intro h;(repeat first|refine oP (pM (lv:=.atom _) rfl) rfl ?_|refine LOps.want rfl rfl ?_|refine oP (Pure.pickF (lv:=.atom _) rfl rfl) rfl ?_|refine oP (Pure.seq rfl rfl) rfl ?_);exact h ()):P:=t fun _=>h
theorem gcu {P Q:Prop} (h:Q) (t:(Unit→Q)→P:=by intro h;(repeat first|refine LOps.want rfl rfl ?_);exact h ()):P:=t fun _=>h
theorem gcv {P Q:Prop} (h:Q) (t:(Unit→Q)→P:=by intro h;(repeat first|refine qN ?_|refine LOps.nil ?_|refine LCode.seq ?_);exact h ()):P:=t fun _=>h
theorem gcw {P Q:Prop} (h:Q) (t:(Unit→Q)→P:=by intro h;(repeat first|refine LCode.region ?_|refine LCode.seq ?_|refine oP (pM (lv:=.atom _) rfl) rfl ?_|refine oP (pF rfl) rfl ?_|refine oP (pL (c:=.atom _) rfl (List.Mem.head _) rfl) rfl ?_);exact h ()):P:=t fun _=>h
theorem gcx {P Q:Prop} (h:Q) (t:(Unit→Q)→P:=by intro h;(repeat first|refine qN ?_|refine LOps.nil ?_|refine LCode.region ?_|refine LCode.seq ?_|refine oP (pM (lv:=.atom _) rfl) rfl ?_|refine oP (pF rfl) rfl ?_|refine oP (pL (c:=.atom _) rfl (List.Mem.head _) rfl) rfl ?_|refine oP (pN rfl) rfl ?_);exact h ()):P:=t fun _=>h
theorem gcy {P Q:Prop} (h:Q) (t:(Unit→Q)→P:=by intro h;(repeat first|refine qN ?_|refine LOps.nil ?_|refine LCode.region ?_|refine LCode.seq ?_|refine oP (pM (lv:=.atom _) rfl) rfl ?_|refine oP (pF rfl) rfl ?_|refine LCode.block ?_|refine LCode.exit ?_|refine QBlock.hit ?_|refine QThen.exit ?_|refine oP (Pure.llen rfl) rfl ?_|refine oP (pL (c:=.list _) rfl (List.Mem.head _) rfl) rfl ?_);exact h ()):P:=t fun _=>h
theorem gcz {P Q:Prop} (h:Q) (t:(Unit→Q)→P:=by intro h;(repeat first|refine qN ?_|refine LOps.nil ?_|refine LCode.region ?_|refine LCode.seq ?_|refine oP (pM (lv:=.atom _) rfl) rfl ?_|refine oP (pA (lv:=.atom _) rfl) rfl ?_|refine LCode.block ?_);exact h ()):P:=t fun _=>h
theorem gc0 {P Q:Prop} (h:Q) (t:(Unit→Q)→P:=by intro h;(repeat first|refine qN ?_|refine LOps.nil ?_|refine oP (pA (lv:=.atom _) rfl) rfl ?_|refine LCode.ret ?_|refine QThen.ret ?_|refine QBlock.ret ?_|refine oP (Pure.extract (c:=.atom _) rfl rfl) rfl ?_|refine oS (sS (cs':=[_,_,_]) rfl pH rfl rfl rfl rfl rfl ?_) rfl|refine oP (Pure.extract (c:=.agg _) rfl rfl) rfl ?_);exact h ()):P:=t fun _=>h
theorem gc1 {P Q:Prop} (h:Q) (t:(Unit→Q)→P:=by intro h;(repeat first|refine qN ?_|refine LOps.nil ?_|refine LCode.region ?_|refine LCode.seq ?_|refine oP (pM (lv:=.atom _) rfl) rfl ?_|refine oP (pA (lv:=.atom _) rfl) rfl ?_|refine oS (sS (cs':=[_,_,_]) rfl pH rfl rfl rfl rfl rfl ?_) rfl|refine oP (Pure.neq rfl rfl) rfl ?_);exact h ()):P:=t fun _=>h
theorem gc2 {P Q:Prop} (h:Q) (t:(Unit→Q)→P:=by intro h;(repeat first|refine qN ?_|refine LQ.nil ?_|refine qP (pA (lv:=.atom _) rfl) rfl ?_|refine qP (pO (c:=.atom _) rfl rfl) rfl ?_|refine qP (Pure.field1 rfl rfl) rfl ?_);exact h ()):P:=t fun _=>h
theorem gc3 {P Q:Prop} (h:Q) (t:(Unit→Q)→P:=by intro h;(repeat first|refine qN ?_|refine LOps.nil ?_|refine LCode.region ?_|refine LCode.seq ?_|refine oP (pM (lv:=.atom _) rfl) rfl ?_|refine oS (sS (cs':=[_,_,_,_]) rfl pH rfl rfl rfl rfl rfl ?_) rfl);exact h ()):P:=t fun _=>h
theorem gc4 {P Q:Prop} (h:Q) (t:(Unit→Q)→P:=by intro h;(repeat first|refine qN ?_|refine LOps.nil ?_|refine LCode.seq ?_|refine oP (Pure.extract (c:=.atom _) rfl rfl) rfl ?_);exact h ()):P:=t fun _=>h
theorem gc5 {P Q:Prop} (h:Q) (t:(Unit→Q)→P:=by intro h;(repeat first|refine oP (pB _ (cs:=[_,_,_,_,_,_]) rfl) rfl ?_);exact h ()):P:=t fun _=>h
theorem gc6 {P Q:Prop} (h:Q) (t:(Unit→Q)→P:=by intro h;(repeat first|refine qN ?_|refine LOps.nil ?_|refine LCode.region ?_|refine LCode.seq ?_|refine oP (pM (lv:=.atom _) rfl) rfl ?_|refine oS (sS (cs':=[_,_,_,_,_,_]) rfl pH rfl rfl rfl rfl rfl ?_) rfl);exact h ()):P:=t fun _=>h
theorem gc7 {P Q:Prop} (h:Q) (t:(Unit→Q)→P:=by intro h;(repeat first|refine oP (pF rfl) rfl ?_|refine oP (pN rfl) rfl ?_);exact h ()):P:=t fun _=>h
theorem gc8 {P Q:Prop} (h:Q) (t:(Unit→Q)→P:=by intro h;(repeat first|refine qN ?_|refine LOps.nil ?_|refine LCode.region ?_|refine LCode.seq ?_|refine LCode.ret ?_|refine LCode.exit ?_|refine QBlock.hit ?_|refine QThen.exit ?_|refine oP (pM (lv:=.list _) rfl) rfl ?_|refine oP (pA (lv:=.list _) rfl) rfl ?_);exact h ()):P:=t fun _=>h
theorem gc9 {P Q:Prop} (h:Q) (t:(Unit→Q)→P:=by intro h;(repeat first|refine qN ?_|refine LOps.nil ?_|refine LCode.region ?_|refine LCode.seq ?_|refine oP (pA (lv:=.atom _) rfl) rfl ?_|refine LCode.ret ?_|refine oP (pF rfl) rfl ?_|refine QThen.ret ?_|refine oP (pL (c:=.atom _) rfl (List.Mem.head _) rfl) rfl ?_|refine QBlock.ret ?_);exact h ()):P:=t fun _=>h
theorem gda {P Q:Prop} (h:Q) (t:(Unit→Q)→P:=by intro h;(repeat first|refine qN ?_|refine LOps.nil ?_|refine LCode.region ?_|refine LCode.seq ?_|refine oP (pM (lv:=.atom _) rfl) rfl ?_|refine oP (pA (lv:=.atom _) rfl) rfl ?_|refine LCode.ret ?_|refine QThen.ret ?_);exact h ()):P:=t fun _=>h
theorem gdb {P Q:Prop} (h:Q) (t:(Unit→Q)→P:=by intro h;(repeat first|refine LCode.region ?_|refine LCode.seq ?_|refine oP (pL (c:=.atom _) rfl (List.Mem.head _) rfl) rfl ?_);exact h ()):P:=t fun _=>h
theorem gdc {P Q:Prop} (h:Q) (t:(Unit→Q)→P:=by intro h;(repeat first|refine qN ?_|refine LOps.nil ?_|refine LCode.region ?_|refine LCode.seq ?_|refine oP (pL (c:=.atom _) rfl (List.Mem.head _) rfl) rfl ?_);exact h ()):P:=t fun _=>h
theorem gdd {P Q:Prop} (h:Q) (t:(Unit→Q)→P:=by intro h;(repeat first|refine qN ?_|refine LOps.nil ?_|refine LCode.ret ?_|refine QThen.ret ?_|refine QBlock.ret ?_);exact h ()):P:=t fun _=>h
theorem gde {P Q:Prop} (h:Q) (t:(Unit→Q)→P:=by intro h;(repeat first|refine LCode.region ?_|refine oP (pL (c:=.atom _) rfl (List.Mem.head _) rfl) rfl ?_);exact h ()):P:=t fun _=>h
theorem gdf {P Q:Prop} (h:Q) (t:(Unit→Q)→P:=by intro h;(repeat first|refine qN ?_|refine LOps.nil ?_|refine LCode.region ?_|refine LCode.seq ?_|refine oP (pM (lv:=.atom _) rfl) rfl ?_|refine oP (pA (lv:=.atom _) rfl) rfl ?_|refine oP (Pure.extract (c:=.atom _) rfl rfl) rfl ?_|refine oP (pM (lv:=.tuple _) rfl) rfl ?_|refine oP (pA (lv:=.list _) rfl) rfl ?_|refine oP (Pure.extract (c:=.list _) rfl rfl) rfl ?_|refine oP (Pure.neq rfl rfl) rfl ?_);exact h ()):P:=t fun _=>h
theorem gdg {P Q:Prop} (h:Q) (t:(Unit→Q)→P:=by intro h;(repeat first|refine oP (pM (lv:=.atom _) rfl) rfl ?_|refine LOps.want rfl rfl ?_|refine oP (Pure.seq rfl rfl) rfl ?_);exact h ()):P:=t fun _=>h
theorem gdh {P Q:Prop} (h:Q) (t:(Unit→Q)→P:=by intro h;(repeat first|refine qN ?_|refine LOps.nil ?_|refine LCode.region ?_|refine oP (pM (lv:=.atom _) rfl) rfl ?_|refine oP (pA (lv:=.atom _) rfl) rfl ?_|refine LCode.skip ?_|refine QBlock.normal ?_|refine oP (Pure.add rfl rfl (by omega)) rfl ?_);exact h ()):P:=t fun _=>h
theorem gdi {P Q:Prop} (h:Q) (t:(Unit→Q)→P:=by intro h;(repeat first|refine qN ?_|refine LOps.nil ?_|refine oP (pM (lv:=.atom _) rfl) rfl ?_|refine oP (pA (lv:=.atom _) rfl) rfl ?_|refine LCode.ret ?_|refine oP (Pure.pickT (lv:=.atom _) rfl rfl) rfl ?_|refine LOps.skip rfl rfl rfl rfl ?_);exact h ()):P:=t fun _=>h
theorem gdj {P Q:Prop} (h:Q) (t:(Unit→Q)→P:=by intro h;(repeat first|refine qN ?_|refine LOps.nil ?_|refine oP (pA (lv:=.atom _) rfl) rfl ?_|refine LCode.ret ?_|refine oP (Pure.pickT (lv:=.atom _) rfl rfl) rfl ?_|refine LOps.skip rfl rfl rfl rfl ?_);exact h ()):P:=t fun _=>h
theorem gdk {P Q:Prop} (h:Q) (t:(Unit→Q)→P:=by intro h;(repeat first|refine qN ?_|refine LOps.nil ?_|refine oP (pM (lv:=.atom _) rfl) rfl ?_|refine oP (pA (lv:=.atom _) rfl) rfl ?_|refine LCode.ret ?_|refine LOps.want rfl rfl ?_|refine oP (Pure.pickF (lv:=.atom _) rfl rfl) rfl ?_|refine oP (Pure.eql rfl rfl) rfl ?_);exact h ()):P:=t fun _=>h
theorem gdl {P Q:Prop} (h:Q) (t:(Unit→Q)→P:=by intro h;(repeat first|refine qN ?_|refine LOps.nil ?_|refine LCode.region ?_|refine LCode.seq ?_|refine oP (pM (lv:=.atom _) rfl) rfl ?_|refine oP (pA (lv:=.atom _) rfl) rfl ?_|refine oP (Pure.eql rfl rfl) rfl ?_);exact h ()):P:=t fun _=>h
theorem gdm {P Q:Prop} (h:Q) (t:(Unit→Q)→P:=by intro h;(repeat first|refine oP (pM (lv:=.atom _) rfl) rfl ?_|refine LOps.want rfl rfl ?_|refine oP (Pure.pickF (lv:=.atom _) rfl rfl) rfl ?_|refine oP (Pure.eql rfl rfl) rfl ?_);exact h ()):P:=t fun _=>h
theorem gdn {P Q:Prop} (h:Q) (t:(Unit→Q)→P:=by intro h;(repeat first|refine qN ?_|refine LCode.region ?_|refine LCode.seq ?_|refine LCode.skip ?_);exact h ()):P:=t fun _=>h
theorem gdo {P Q:Prop} (h:Q) (t:(Unit→Q)→P:=by intro h;(repeat first|refine qN ?_|refine LOps.nil ?_|refine LCode.region ?_|refine LCode.seq ?_|refine oP (pM (lv:=.atom _) rfl) rfl ?_|refine oP (pA (lv:=.atom _) rfl) rfl ?_|refine oP (Pure.lss rfl rfl) rfl ?_);exact h ()):P:=t fun _=>h
theorem gdp {P Q:Prop} (h:Q) (t:(Unit→Q)→P:=by intro h;(repeat first|refine qN ?_|refine LOps.nil ?_|refine LCode.region ?_|refine oP (pM (lv:=.atom _) rfl) rfl ?_|refine QBlock.normal ?_|refine oP (Pure.add rfl rfl (by omega)) rfl ?_|refine LCode.exit ?_|refine QBlock.hit ?_|refine QThen.exit ?_);exact h ()):P:=t fun _=>h
theorem gdq {P Q:Prop} (h:Q) (t:(Unit→Q)→P:=by intro h;(repeat first|refine LCode.region ?_|refine oP (pM (lv:=.atom _) rfl) rfl ?_|refine oP (pB _ (cs:=[_,_]) rfl) rfl ?_|refine oP (Pure.makeInterfaceAgg (vs:=[_,_]) rfl) rfl ?_);exact h ()):P:=t fun _=>h
theorem gdr {P Q:Prop} (h:Q) (t:(Unit→Q)→P:=by intro h;(repeat first|refine qN ?_|refine LOps.nil ?_|refine LCode.region ?_|refine LCode.seq ?_|refine oP (pM (lv:=.atom _) rfl) rfl ?_|refine oP (pA (lv:=.atom _) rfl) rfl ?_|refine oP (Pure.seq rfl rfl) rfl ?_);exact h ()):P:=t fun _=>h
theorem gds {P Q:Prop} (h:Q) (t:(Unit→Q)→P:=by intro h;(repeat first|refine oP (pM (lv:=.atom _) rfl) rfl ?_|refine LOps.want rfl rfl ?_|refine oP (Pure.pickF (lv:=.atom _) rfl rfl) rfl ?_|refine oP (Pure.slen rfl) rfl ?_|refine oP (Pure.gtr rfl rfl) rfl ?_);exact h ()):P:=t fun _=>h
theorem gdt {P Q:Prop} (h:Q) (t:(Unit→Q)→P:=by intro h;(repeat first|refine qN ?_|refine LOps.nil ?_|refine LCode.region ?_|refine LCode.seq ?_|refine oP (pM (lv:=.atom _) rfl) rfl ?_|refine oP (pA (lv:=.atom _) rfl) rfl ?_|refine LCode.skip ?_|refine LCode.block ?_);exact h ()):P:=t fun _=>h
theorem gdu {P Q:Prop} (h:Q) (t:(Unit→Q)→P:=by intro h;(repeat first|refine qN ?_|refine LOps.nil ?_|refine oP (Pure.pickF (lv:=.atom _) rfl rfl) rfl ?_|refine LOps.skip rfl rfl rfl rfl ?_|refine LOps.skipU rfl rfl rfl ?_);exact h ()):P:=t fun _=>h
theorem gdv {P Q:Prop} (h:Q) (t:(Unit→Q)→P:=by intro h;(repeat first|refine qN ?_|refine LOps.nil ?_|refine LOps.want rfl rfl ?_|refine oP (Pure.pickF (lv:=.atom _) rfl rfl) rfl ?_|refine oP (Pure.pickT (lv:=.atom _) rfl rfl) rfl ?_|refine LOps.skip rfl rfl rfl rfl ?_);exact h ()):P:=t fun _=>h
theorem gdw {P Q:Prop} (h:Q) (t:(Unit→Q)→P:=by intro h;(repeat first|refine LCode.region ?_|refine LCode.seq ?_|refine oP (pM (lv:=.atom _) rfl) rfl ?_|refine oP (pF rfl) rfl ?_|refine oP (pL (c:=.atom _) rfl (List.Mem.head _) rfl) rfl ?_|refine oP (pN rfl) rfl ?_);exact h ()):P:=t fun _=>h
theorem gdx {P Q:Prop} (h:Q) (t:(Unit→Q)→P:=by intro h;(repeat first|refine oP (pM (lv:=.atom _) rfl) rfl ?_|refine LOps.want rfl rfl ?_|refine oP (Pure.pickF (lv:=.atom _) rfl rfl) rfl ?_|refine oP (Pure.not rfl) rfl ?_);exact h ()):P:=t fun _=>h
theorem gdy {P Q:Prop} (h:Q) (t:(Unit→Q)→P:=by intro h;(repeat first|refine oP (pM (lv:=.atom _) rfl) rfl ?_|refine LOps.want rfl rfl ?_|refine oP (Pure.pickF (lv:=.atom _) rfl rfl) rfl ?_|refine LOps.skip rfl rfl rfl rfl ?_|refine oP (Pure.not rfl) rfl ?_);exact h ()):P:=t fun _=>h
theorem gdz {P Q:Prop} (h:Q) (t:(Unit→Q)→P:=by intro h;(repeat first|refine qN ?_|refine LOps.nil ?_|refine LCode.region ?_|refine LCode.seq ?_|refine oP (pM (lv:=.atom _) rfl) rfl ?_|refine oP (pA (lv:=.atom _) rfl) rfl ?_|refine LCode.block ?_|refine oP (Pure.seq rfl rfl) rfl ?_);exact h ()):P:=t fun _=>h
theorem gd0 {P Q:Prop} (h:Q) (t:(Unit→Q)→P:=by intro h;(repeat first|refine LCode.region ?_|refine LCode.seq ?_|refine oP (pM (lv:=.atom _) rfl) rfl ?_|refine oP (Pure.eql rfl rfl) rfl ?_|refine oP (pM (lv:=.list _) rfl) rfl ?_|refine oP (Pure.llen rfl) rfl ?_);exact h ()):P:=t fun _=>h
theorem gd1 {P Q:Prop} (h:Q) (t:(Unit→Q)→P:=by intro h;(repeat first|refine oP (pM (lv:=.atom _) rfl) rfl ?_|refine LOps.want rfl rfl ?_|refine oP (pF rfl) rfl ?_|refine oP (Pure.not rfl) rfl ?_|refine oP (pN rfl) rfl ?_|refine oP (pL (c:=.atom _) rfl (List.Mem.tail _ (List.Mem.head _)) rfl) rfl ?_);exact h ()):P:=t fun _=>h
theorem gd2 {P Q:Prop} (h:Q) (t:(Unit→Q)→P:=by intro h;(repeat first|refine qN ?_|refine LOps.nil ?_|refine LCode.region ?_|refine LCode.seq ?_|refine oP (pM (lv:=.atom _) rfl) rfl ?_|refine oP (pA (lv:=.atom _) rfl) rfl ?_|refine LCode.ret ?_|refine LCode.exit ?_|refine QBlock.hit ?_|refine QThen.exit ?_);exact h ()):P:=t fun _=>h
theorem gd3 {P Q:Prop} (h:Q) (t:(Unit→Q)→P:=by intro h;(repeat first|refine qN ?_|refine LOps.nil ?_|refine oP (pA (lv:=.atom _) rfl) rfl ?_|refine LCode.ret ?_|refine QThen.ret ?_|refine QBlock.ret ?_|refine oP (Pure.add rfl rfl (by omega)) rfl ?_|refine oP (pO (c:=.atom _) rfl rfl) rfl ?_);exact h ()):P:=t fun _=>h
theorem gd4 {P Q:Prop} (h:Q) (t:(Unit→Q)→P:=by intro h;(repeat first|refine qN ?_|refine LOps.nil ?_|refine LCode.region ?_|refine oP (pA (lv:=.atom _) rfl) rfl ?_|refine oP (Pure.seq rfl rfl) rfl ?_);exact h ()):P:=t fun _=>h
theorem gd5 {P Q:Prop} (h:Q) (t:(Unit→Q)→P:=by intro h;(repeat first|refine qN ?_|refine LOps.nil ?_|refine LCode.region ?_|refine LCode.seq ?_|refine oP (pA (lv:=.atom _) rfl) rfl ?_|refine LCode.ret ?_|refine LCode.skip ?_|refine QBlock.normal ?_);exact h ()):P:=t fun _=>h
theorem gd6 {P Q:Prop} (h:Q) (t:(Unit→Q)→P:=by intro h;(repeat first|refine oP (pR (cs':=[_,_,_,_,_,_]) rfl rfl rfl) rfl ?_);exact h ()):P:=t fun _=>h
theorem gd7 {P Q:Prop} (h:Q) (t:(Unit→Q)→P:=by intro h;(repeat first|refine LCode.region ?_|refine oP (pM (lv:=.atom _) rfl) rfl ?_|refine oP (pF rfl) rfl ?_|refine oP (pL (c:=.atom _) rfl (List.Mem.head _) rfl) rfl ?_);exact h ()):P:=t fun _=>h
theorem gd8 {P Q:Prop} (h:Q) (t:(Unit→Q)→P:=by intro h;(repeat first|refine qN ?_|refine LOps.nil ?_|refine LCode.region ?_|refine LCode.seq ?_|refine oP (pM (lv:=.atom _) rfl) rfl ?_|refine oP (pA (lv:=.atom _) rfl) rfl ?_|refine oP (pF rfl) rfl ?_|refine oP (pL (c:=.atom _) rfl (List.Mem.head _) rfl) rfl ?_);exact h ()):P:=t fun _=>h
theorem gd9 {P Q:Prop} (h:Q) (t:(Unit→Q)→P:=by intro h;(repeat first|refine qN ?_|refine LCode.region ?_|refine LCode.seq ?_|refine oP (pM (lv:=.atom _) rfl) rfl ?_|refine QBlock.normal ?_);exact h ()):P:=t fun _=>h
theorem gea {P Q:Prop} (h:Q) (t:(Unit→Q)→P:=by intro h;(repeat first|refine oP (pM (lv:=.atom _) rfl) rfl ?_|refine oP (Pure.not rfl) rfl ?_);exact h ()):P:=t fun _=>h
theorem geb {P Q:Prop} (h:Q) (t:(Unit→Q)→P:=by intro h;(repeat first|refine qN ?_|refine LOps.nil ?_|refine LCode.region ?_|refine LCode.seq ?_|refine oP (pM (lv:=.atom _) rfl) rfl ?_|refine oP (pF rfl) rfl ?_|refine oP (pN rfl) rfl ?_|refine oP (pL (c:=.atom _) rfl (List.Mem.tail _ (List.Mem.head _)) rfl) rfl ?_);exact h ()):P:=t fun _=>h
theorem gec {P Q:Prop} (h:Q) (t:(Unit→Q)→P:=by intro h;(repeat first|refine oP (pM (lv:=.atom _) rfl) rfl ?_|refine LOps.want rfl rfl ?_|refine oP (Pure.pickT (lv:=.atom _) rfl rfl) rfl ?_|refine oP (Pure.not rfl) rfl ?_);exact h ()):P:=t fun _=>h
theorem ged {P Q:Prop} (h:Q) (t:(Unit→Q)→P:=by intro h;(repeat first|refine qN ?_|refine LOps.nil ?_|refine LCode.region ?_|refine oP (pM (lv:=.atom _) rfl) rfl ?_|refine oP (pF rfl) rfl ?_|refine oP (pN rfl) rfl ?_|refine oP (pL (c:=.atom _) rfl (List.Mem.tail _ (List.Mem.head _)) rfl) rfl ?_);exact h ()):P:=t fun _=>h
theorem gee {P Q:Prop} (h:Q) (t:(Unit→Q)→P:=by intro h;(repeat first|refine qN ?_|refine LCode.region ?_|refine LCode.seq ?_|refine oP (pM (lv:=.atom _) rfl) rfl ?_|refine oP (pF rfl) rfl ?_|refine LCode.exit ?_|refine QBlock.hit ?_|refine QThen.exit ?_|refine oP (pL (c:=.list _) rfl (List.Mem.head _) rfl) rfl ?_);exact h ()):P:=t fun _=>h
theorem gef {P Q:Prop} (h:Q) (t:(Unit→Q)→P:=by intro h;(repeat first|refine qN ?_|refine LOps.nil ?_|refine LCode.region ?_|refine oP (pM (lv:=.atom _) rfl) rfl ?_|refine oP (pA (lv:=.atom _) rfl) rfl ?_|refine oP (pF rfl) rfl ?_|refine QBlock.normal ?_|refine oP (pL (c:=.atom _) rfl (List.Mem.head _) rfl) rfl ?_|refine oP (Pure.add rfl rfl (by omega)) rfl ?_);exact h ()):P:=t fun _=>h
theorem geg {P Q:Prop} (h:Q) (t:(Unit→Q)→P:=by intro h;(repeat first|refine qN ?_|refine LOps.nil ?_|refine LCode.region ?_|refine oP (pM (lv:=.atom _) rfl) rfl ?_|refine oS (sS (cs':=[_,_,_,_]) rfl pH rfl rfl rfl rfl rfl ?_) rfl|refine oP (pG (cs':=[_,_,_,_]) rfl (List.Mem.head _) rfl rfl) rfl ?_);exact h ()):P:=t fun _=>h
theorem geh {P Q:Prop} (h:Q) (t:(Unit→Q)→P:=by intro h;(repeat first|refine oP (pM (lv:=.atom _) rfl) rfl ?_|refine oP (Pure.pickF (lv:=.atom _) rfl rfl) rfl ?_|refine LOps.skip rfl rfl rfl rfl ?_);exact h ()):P:=t fun _=>h
theorem gei {P Q:Prop} (h:Q) (t:(Unit→Q)→P:=by intro h;(repeat first|refine oP (pM (lv:=.atom _) rfl) rfl ?_|refine LOps.want rfl rfl ?_|refine oP (pF rfl) rfl ?_|refine oP (pL (c:=.list _) rfl (List.Mem.head _) rfl) rfl ?_|refine oP (Pure.sub rfl rfl (by omega)) rfl ?_);exact h ()):P:=t fun _=>h
theorem gej {P Q:Prop} (h:Q) (t:(Unit→Q)→P:=by intro h;(repeat first|refine oP (Pure.pickF (lv:=.atom _) rfl rfl) rfl ?_|refine LOps.skip rfl rfl rfl rfl ?_);exact h ()):P:=t fun _=>h
theorem gek {P Q:Prop} (h:Q) (t:(Unit→Q)→P:=by intro h;(repeat first|refine qN ?_|refine LOps.nil ?_|refine LCode.region ?_|refine LCode.seq ?_|refine oP (pM (lv:=.atom _) rfl) rfl ?_|refine oP (pA (lv:=.atom _) rfl) rfl ?_|refine oP (Pure.lss rfl rfl) rfl ?_|refine oP (Pure.slen rfl) rfl ?_);exact h ()):P:=t fun _=>h
theorem gel {P Q:Prop} (h:Q) (t:(Unit→Q)→P:=by intro h;(repeat first|refine oP (pM (lv:=.atom _) rfl) rfl ?_|refine LOps.want rfl rfl ?_|refine oP (Pure.pickF (lv:=.atom _) rfl rfl) rfl ?_|refine oP (Pure.lss rfl rfl) rfl ?_);exact h ()):P:=t fun _=>h
theorem gem {P Q:Prop} (h:Q) (t:(Unit→Q)→P:=by intro h;(repeat first|refine oP (pM (lv:=.atom _) rfl) rfl ?_|refine LOps.want rfl rfl ?_|refine oP (Pure.pickF (lv:=.atom _) rfl rfl) rfl ?_|refine oP (Pure.gtr rfl rfl) rfl ?_);exact h ()):P:=t fun _=>h
theorem gen {P Q:Prop} (h:Q) (t:(Unit→Q)→P:=by intro h;(repeat first|refine qN ?_|refine LOps.nil ?_|refine LCode.region ?_|refine oP (pM (lv:=.atom _) rfl) rfl ?_|refine oP (pA (lv:=.atom _) rfl) rfl ?_|refine oP (Pure.add rfl rfl (by omega)) rfl ?_);exact h ()):P:=t fun _=>h
theorem geo {P Q:Prop} (h:Q) (t:(Unit→Q)→P:=by intro h;(repeat first|refine qN ?_|refine LOps.nil ?_|refine oP (pA (lv:=.atom _) rfl) rfl ?_|refine QBlock.normal ?_);exact h ()):P:=t fun _=>h
theorem gep {P Q:Prop} (h:Q) (t:(Unit→Q)→P:=by intro h;(repeat first|refine qP (pF rfl) rfl ?_|refine qP (pL (c:=.atom _) rfl (List.Mem.head _) rfl) rfl ?_|refine qP (pL (c:=.list _) rfl (List.Mem.head _) rfl) rfl ?_|refine qP (pM (lv:=.atom _) rfl) rfl ?_|refine qP (pN rfl) rfl ?_|refine LQ.want rfl rfl ?_);exact h ()):P:=t fun _=>h
theorem geq {P Q:Prop} (h:Q) (t:(Unit→Q)→P:=by intro h;(repeat first|refine qN ?_|refine LOps.nil ?_|refine LCode.region ?_|refine LCode.seq ?_|refine oP (pM (lv:=.atom _) rfl) rfl ?_|refine LCode.skip ?_|refine oP (pF rfl) rfl ?_|refine oP (pL (c:=.atom _) rfl (List.Mem.head _) rfl) rfl ?_|refine oP (Pure.add rfl rfl (by omega)) rfl ?_|refine oP (pN rfl) rfl ?_|refine oS (sS (cs':=[_,_,_]) rfl pH rfl rfl rfl rfl rfl ?_) rfl);exact h ()):P:=t fun _=>h
theorem ger {P Q:Prop} (h:Q) (t:(Unit→Q)→P:=by intro h;(repeat first|refine qN ?_|refine LCode.region ?_|refine LCode.skip ?_|refine LCode.block ?_);exact h ()):P:=t fun _=>h
theorem ges {P Q:Prop} (h:Q) (t:(Unit→Q)→P:=by intro h;(repeat first|refine qN ?_|refine LOps.nil ?_|refine LCode.region ?_|refine LCode.seq ?_|refine LCode.ret ?_|refine oP (pG (cs':=[_,_,_,_]) rfl (List.Mem.tail _ (List.Mem.head _)) rfl rfl) rfl ?_|refine oS (sS (cs':=[_,_,_,_]) rfl (pT (pT pH)) rfl rfl rfl rfl rfl ?_) rfl);exact h ()):P:=t fun _=>h
theorem get {P Q:Prop} (h:Q) (t:(Unit→Q)→P:=by intro h;(repeat first|refine qN ?_|refine LOps.nil ?_|refine LCode.ret ?_|refine QThen.ret ?_|refine QBlock.ret ?_|refine oP (pB _ (cs:=[_,_,_,_]) rfl) rfl ?_|refine oS (sS (cs':=[_,_,_,_]) rfl (pT pH) rfl rfl rfl rfl rfl ?_) rfl);exact h ()):P:=t fun _=>h
theorem geu {P Q:Prop} (h:Q) (t:(Unit→Q)→P:=by intro h;(repeat first|refine qN ?_|refine LOps.nil ?_|refine LCode.block ?_);exact h ()):P:=t fun _=>h
theorem gev {P Q:Prop} (h:Q) (t:(Unit→Q)→P:=by intro h;(repeat first|refine qN ?_|refine LOps.nil ?_|refine LCode.ret ?_|refine oS (sS (cs':=[_,_,_,_]) rfl (pT (pT (pT pH))) rfl rfl rfl rfl rfl ?_) rfl);exact h ()):P:=t fun _=>h
theorem gew {P Q:Prop} (h:Q) (t:(Unit→Q)→P:=by intro h;(repeat first|refine qN ?_|refine LOps.nil ?_|refine LCode.region ?_|refine LCode.seq ?_|refine oP (pM (lv:=.atom _) rfl) rfl ?_|refine oP (pA (lv:=.atom _) rfl) rfl ?_|refine oP (Pure.extract (c:=.atom _) rfl rfl) rfl ?_);exact h ()):P:=t fun _=>h
theorem gex {P Q:Prop} (h:Q) (t:(Unit→Q)→P:=by intro h;(repeat first|refine qN ?_|refine LOps.nil ?_|refine LCode.region ?_|refine LCode.seq ?_|refine oP (pM (lv:=.atom _) rfl) rfl ?_|refine LCode.ret ?_|refine oP (pF rfl) rfl ?_|refine QThen.ret ?_|refine QBlock.ret ?_|refine oP (pN rfl) rfl ?_|refine oP (pL (c:=.atom _) rfl (List.Mem.tail _ (List.Mem.head _)) rfl) rfl ?_|refine oP (Pure.sub rfl rfl (by omega)) rfl ?_|refine oS (sS (cs':=[_,_,_,_]) rfl pH rfl rfl rfl rfl rfl ?_) rfl|refine oP (pG (cs':=[_,_,_,_]) rfl (List.Mem.tail _ (List.Mem.head _)) rfl rfl) rfl ?_|refine oS (sS (cs':=[_,_,_]) rfl (pT pH) rfl rfl rfl rfl rfl ?_) rfl|refine oS (sS (cs':=[_,_,_,_]) rfl (pT (pT (pT (pT pH)))) rfl rfl rfl rfl rfl ?_) rfl);exact h ()):P:=t fun _=>h
theorem gey {P Q:Prop} (h:Q) (t:(Unit→Q)→P:=by intro h;(repeat first|refine qN ?_|refine LCode.seq ?_|refine LCode.skip ?_|refine LCode.block ?_);exact h ()):P:=t fun _=>h
theorem gez {P Q:Prop} (h:Q) (t:(Unit→Q)→P:=by intro h;(repeat first|refine qN ?_|refine LOps.nil ?_|refine LCode.region ?_|refine LCode.seq ?_|refine oP (pL (c:=.atom _) rfl (List.Mem.tail _ (List.Mem.tail _ (List.Mem.tail _ (List.Mem.tail _ (List.Mem.tail _ (List.Mem.tail _ (List.Mem.head _))))))) rfl) rfl ?_);exact h ()):P:=t fun _=>h
theorem ge0 {P Q:Prop} (h:Q) (t:(Unit→Q)→P:=by intro h;(repeat first|refine qN ?_|refine LOps.nil ?_|refine LCode.region ?_|refine LCode.seq ?_|refine LCode.ret ?_|refine LCode.exit ?_|refine QBlock.hit ?_|refine QThen.exit ?_|refine oP (pG (cs':=[_,_,_,_]) rfl (List.Mem.head _) rfl rfl) rfl ?_|refine oS (sS (cs':=[_,_,_,_]) rfl (pT (pT pH)) rfl rfl rfl rfl rfl ?_) rfl|refine QBlock.miss zDd ?_);exact h ()):P:=t fun _=>h
theorem ge1 {P Q:Prop} (h:Q) (t:(Unit→Q)→P:=by intro h;(repeat first|refine qN ?_|refine LOps.nil ?_|refine LCode.region ?_|refine LCode.seq ?_|refine oP (pA (lv:=.atom _) rfl) rfl ?_|refine LCode.ret ?_|refine oP (Pure.makeFunc rfl rfl) rfl ?_);exact h ()):P:=t fun _=>h
theorem ge2 {P Q:Prop} (h:Q) (t:(Unit→Q)→P:=by intro h;(repeat first|refine qN ?_|refine LOps.nil ?_|refine LCode.region ?_|refine LCode.seq ?_|refine oP (pM (lv:=.atom _) rfl) rfl ?_|refine oP (Pure.geq rfl rfl) rfl ?_);exact h ()):P:=t fun _=>h
theorem ge3 {P Q:Prop} (h:Q) (t:(Unit→Q)→P:=by intro h;(repeat first|refine qN ?_|refine LOps.nil ?_|refine LCode.region ?_|refine LCode.seq ?_|refine oP (pM (lv:=.atom _) rfl) rfl ?_|refine LCode.block ?_);exact h ()):P:=t fun _=>h
theorem ge4 {P Q:Prop} (h:Q) (t:(Unit→Q)→P:=by intro h;(repeat first|refine qN ?_|refine LOps.nil ?_|refine LCode.region ?_|refine LCode.seq ?_|refine LCode.ret ?_|refine oP (pF rfl) rfl ?_|refine oS (sS (cs':=[_,_,_,_,_,_]) rfl (pT pH) rfl rfl rfl rfl rfl ?_) rfl|refine oP (pG (cs':=[_,_,_,_,_,_]) rfl (List.Mem.head _) rfl rfl) rfl ?_|refine oS (sS (cs':=[_,_,_,_,_,_]) rfl (pT (pT pH)) rfl rfl rfl rfl rfl ?_) rfl);exact h ()):P:=t fun _=>h
theorem ge5 {P Q:Prop} (h:Q) (t:(Unit→Q)→P:=by intro h;(repeat first|refine qN ?_|refine LOps.nil ?_|refine LCode.region ?_|refine LCode.seq ?_|refine LCode.ret ?_|refine oP (pF rfl) rfl ?_|refine QThen.ret ?_|refine QBlock.ret ?_|refine oS (sS (cs':=[_,_,_,_,_,_]) rfl (pT pH) rfl rfl rfl rfl rfl ?_) rfl|refine oP (pG (cs':=[_,_,_,_,_,_]) rfl (List.Mem.head _) rfl rfl) rfl ?_|refine oS (sS (cs':=[_,_,_,_,_,_]) rfl (pT (pT pH)) rfl rfl rfl rfl rfl ?_) rfl);exact h ()):P:=t fun _=>h
theorem ge6 {P Q:Prop} (h:Q) (t:(Unit→Q)→P:=by intro h;(repeat first|refine qN ?_|refine LOps.nil ?_|refine LCode.region ?_|refine LCode.seq ?_|refine oP (pM (lv:=.atom _) rfl) rfl ?_|refine oP (pF rfl) rfl ?_|refine oS (sS (cs':=[_,_,_,_]) rfl (pT pH) rfl rfl rfl rfl rfl ?_) rfl);exact h ()):P:=t fun _=>h
theorem ge7 {P Q:Prop} (h:Q) (t:(Unit→Q)→P:=by intro h;(repeat first|refine qN ?_|refine LOps.nil ?_|refine LCode.region ?_|refine LCode.seq ?_|refine oP (pM (lv:=.atom _) rfl) rfl ?_|refine oP (Pure.nilNeqNil rfl) rfl ?_);exact h ()):P:=t fun _=>h
theorem ge8 {P Q:Prop} (h:Q) (t:(Unit→Q)→P:=by intro h;(repeat first|refine qN ?_|refine LOps.nil ?_|refine oP (Pure.extract (c:=.atom _) rfl rfl) rfl ?_|refine oP (pM (lv:=.tuple _) rfl) rfl ?_|refine oP (pA (lv:=.list _) rfl) rfl ?_|refine oP (Pure.extract (c:=.list _) rfl rfl) rfl ?_|refine oS (sS (cs':=[_]) rfl (pT pH) rfl rfl rfl rfl rfl ?_) rfl);exact h ()):P:=t fun _=>h
theorem ge9 {P Q:Prop} (h:Q) (t:(Unit→Q)→P:=by intro h;(repeat first|refine qN ?_|refine LOps.nil ?_|refine LCode.region ?_|refine LCode.seq ?_|refine oP (pL (c:=.atom _) rfl (List.Mem.head _) rfl) rfl ?_|refine oP (Pure.neq rfl rfl) rfl ?_);exact h ()):P:=t fun _=>h
theorem gfa {P Q:Prop} (h:Q) (t:(Unit→Q)→P:=by intro h;(repeat first|refine LOpsP.pure (Pure.makeFunc rfl rfl) rfl ?_);exact h ()):P:=t fun _=>h
theorem gfb {P Q:Prop} (h:Q) (t:(Unit→Q)→P:=by intro h;(repeat first|refine qN ?_|refine LOps.nil ?_|refine LCode.region ?_|refine LCode.seq ?_|refine oP (pM (lv:=.atom _) rfl) rfl ?_|refine oP (pA (lv:=.atom _) rfl) rfl ?_|refine oS (sS (cs':=[_,_]) rfl pH rfl rfl rfl rfl rfl ?_) rfl);exact h ()):P:=t fun _=>h
theorem gfc {P Q:Prop} (h:Q) (t:(Unit→Q)→P:=by intro h;(repeat first|refine qN ?_|refine LOps.nil ?_|refine LCode.region ?_|refine LCode.seq ?_|refine oP (pM (lv:=.atom _) rfl) rfl ?_|refine oP (pA (lv:=.atom _) rfl) rfl ?_|refine LCode.ret ?_|refine oP (Pure.slen rfl) rfl ?_|refine oS (sS (cs':=[_,_]) rfl pH rfl rfl rfl rfl rfl ?_) rfl);exact h ()):P:=t fun _=>h
theorem gfd {P Q:Prop} (h:Q) (t:(Unit→Q)→P:=by intro h;(repeat first|refine qN ?_|refine LOps.nil ?_|refine oP (pA (lv:=.atom _) rfl) rfl ?_|refine LCode.ret ?_|refine oP (Pure.seq rfl rfl) rfl ?_);exact h ()):P:=t fun _=>h
theorem gfe {P Q:Prop} (h:Q) (t:(Unit→Q)→P:=by intro h;(repeat first|refine qN ?_|refine LOps.nil ?_|refine LCode.region ?_|refine LCode.seq ?_|refine oP (pM (lv:=.atom _) rfl) rfl ?_|refine oP (pA (lv:=.atom _) rfl) rfl ?_|refine oP (pF rfl) rfl ?_|refine oP (pL (c:=.atom _) rfl (List.Mem.head _) rfl) rfl ?_|refine oP (pN rfl) rfl ?_);exact h ()):P:=t fun _=>h
theorem gff {P Q:Prop} (h:Q) (t:(Unit→Q)→P:=by intro h;(repeat first|refine qN ?_|refine LOps.nil ?_|refine LCode.region ?_|refine LCode.seq ?_|refine oP (pA (lv:=.atom _) rfl) rfl ?_|refine LCode.ret ?_|refine oS (sS (cs':=[_,_]) rfl pH rfl rfl rfl rfl rfl ?_) rfl);exact h ()):P:=t fun _=>h
theorem gfg {P Q:Prop} (h:Q) (t:(Unit→Q)→P:=by intro h;(repeat first|refine qN ?_|refine LOps.nil ?_|refine LCode.region ?_|refine LCode.seq ?_|refine oP (pG (cs':=[_,_]) rfl (List.Mem.head _) rfl rfl) rfl ?_|refine oS (sS (cs':=[_,_]) rfl pH rfl rfl rfl rfl rfl ?_) rfl);exact h ()):P:=t fun _=>h
theorem gfh {P Q:Prop} (h:Q) (t:(Unit→Q)→P:=by intro h;(repeat first|refine qN ?_|refine LOps.nil ?_|refine LCode.region ?_|refine LCode.seq ?_|refine oP (pM (lv:=.list _) rfl) rfl ?_|refine oP (pA (lv:=.list _) rfl) rfl ?_);exact h ()):P:=t fun _=>h
theorem gfi {P Q:Prop} (h:Q) (t:(Unit→Q)→P:=by intro h;(repeat first|refine qN ?_|refine LOps.nil ?_|refine LCode.region ?_|refine LCode.seq ?_|refine oP (pM (lv:=.atom _) rfl) rfl ?_|refine oP (pA (lv:=.atom _) rfl) rfl ?_|refine oP (Pure.extract (c:=.atom _) rfl rfl) rfl ?_|refine oP (pM (lv:=.tuple _) rfl) rfl ?_|refine oP (Pure.neq rfl rfl) rfl ?_);exact h ()):P:=t fun _=>h
theorem gfj {P Q:Prop} (h:Q) (t:(Unit→Q)→P:=by intro h;(repeat first|refine qN ?_|refine LCode.region ?_|refine LCode.seq ?_|refine oP (pM (lv:=.atom _) rfl) rfl ?_|refine LCode.skip ?_|refine oP (pM (lv:=.list _) rfl) rfl ?_);exact h ()):P:=t fun _=>h
theorem gfk {P Q:Prop} (h:Q) (t:(Unit→Q)→P:=by intro h;(repeat first|refine qN ?_|refine LOps.nil ?_|refine LCode.region ?_|refine LCode.seq ?_|refine oP (pM (lv:=.atom _) rfl) rfl ?_|refine LQ.nil ?_|refine qP (pA (lv:=.atom _) rfl) rfl ?_|refine qP (Pure.extract (c:=.atom _) rfl rfl) rfl ?_|refine qP (pM (lv:=.tuple _) rfl) rfl ?_);exact h ()):P:=t fun _=>h
theorem gfl {P Q:Prop} (h:Q) (t:(Unit→Q)→P:=by intro h;(repeat first|refine qN ?_|refine LOps.nil ?_|refine LCode.region ?_|refine LCode.seq ?_|refine oP (pA (lv:=.atom _) rfl) rfl ?_|refine oP (pF rfl) rfl ?_|refine LCode.block ?_|refine oP (pL (c:=.atom _) rfl (List.Mem.head _) rfl) rfl ?_|refine oP (Pure.seq rfl rfl) rfl ?_);exact h ()):P:=t fun _=>h
theorem gfm {P Q:Prop} (h:Q) (t:(Unit→Q)→P:=by intro h;(repeat first|refine qN ?_|refine LOps.nil ?_|refine LCode.region ?_|refine oP (pM (lv:=.atom _) rfl) rfl ?_|refine oP (Pure.sadd rfl rfl (by first|omega|(simp only[zLa,zLc,zLn];omega))) rfl ?_);exact h ()):P:=t fun _=>h
theorem gfn {P Q:Prop} (h:Q) (t:(Unit→Q)→P:=by intro h;(repeat first|refine LCode.region ?_|refine oP (pM (lv:=.atom _) rfl) rfl ?_|refine oP (pG (cs':=[_,_,_,_,_,_]) rfl (List.Mem.head _) rfl rfl) rfl ?_);exact h ()):P:=t fun _=>h
theorem gfo {P Q:Prop} (h:Q) (t:(Unit→Q)→P:=by intro h;(repeat first|refine qN ?_|refine LCode.region ?_|refine LCode.seq ?_|refine oP (pM (lv:=.atom _) rfl) rfl ?_|refine LCode.skip ?_|refine oP (pF rfl) rfl ?_|refine LCode.block ?_|refine oP (pL (c:=.list _) rfl (List.Mem.head _) rfl) rfl ?_);exact h ()):P:=t fun _=>h
theorem gfp {P Q:Prop} (h:Q) (t:(Unit→Q)→P:=by intro h;(repeat first|refine qN ?_|refine LOps.nil ?_|refine LCode.region ?_|refine LCode.seq ?_|refine LCode.ret ?_|refine LCode.skip ?_|refine QThen.ret ?_|refine LCode.block ?_|refine QBlock.normal ?_|refine QBlock.ret ?_|refine LCode.exit ?_|refine QBlock.hit ?_|refine QThen.exit ?_|refine oS (sS (cs':=[_,_,_]) rfl pH rfl rfl rfl rfl rfl ?_) rfl|refine oP (pB _ (cs:=[_,_,_]) rfl) rfl ?_|refine QBlock.miss zDd ?_|refine oS (sS (cs':=[_,_,_]) rfl (pT pH) rfl rfl rfl rfl rfl ?_) rfl|refine oS (sS (cs':=[_,_,_]) rfl (pT (pT pH)) rfl rfl rfl rfl rfl ?_) rfl|refine oS (sS (cs':=[_,_,_]) rfl (pT (pT (pT (pT pH)))) rfl rfl rfl rfl rfl ?_) rfl|refine oS (sS (cs':=[_,_,_]) rfl (pT (pT (pT pH))) rfl rfl rfl rfl rfl ?_) rfl);exact h ()):P:=t fun _=>h
theorem gfq {P Q:Prop} (h:Q) (t:(Unit→Q)→P:=by intro h;(repeat first|refine qN ?_|refine LOps.nil ?_|refine oP (pA (lv:=.atom _) rfl) rfl ?_|refine LCode.ret ?_|refine LOps.want rfl rfl ?_|refine oP (Pure.pickT (lv:=.atom _) rfl rfl) rfl ?_|refine oP (Pure.seq rfl rfl) rfl ?_);exact h ()):P:=t fun _=>h
theorem gfr {P Q:Prop} (h:Q) (t:(Unit→Q)→P:=by intro h;(repeat first|refine qN ?_|refine LOps.nil ?_|refine LCode.region ?_|refine LCode.seq ?_|refine oP (pM (lv:=.atom _) rfl) rfl ?_|refine oP (Pure.eql rfl rfl) rfl ?_);exact h ()):P:=t fun _=>h
theorem gfs {P Q:Prop} (h:Q) (t:(Unit→Q)→P:=by intro h;(repeat first|refine qN ?_|refine LOps.nil ?_|refine LCode.region ?_|refine LCode.seq ?_|refine oP (pM (lv:=.atom _) rfl) rfl ?_|refine LCode.skip ?_|refine oP (Pure.seq rfl rfl) rfl ?_);exact h ()):P:=t fun _=>h
theorem gft {P Q:Prop} (h:Q) (t:(Unit→Q)→P:=by intro h;(repeat first|refine oP (pM (lv:=.atom _) rfl) rfl ?_|refine LOps.want rfl rfl ?_|refine oP (Pure.pickT (lv:=.atom _) rfl rfl) rfl ?_);exact h ()):P:=t fun _=>h
theorem gfu {P Q:Prop} (h:Q) (t:(Unit→Q)→P:=by intro h;(repeat first|refine qN ?_|refine LOps.nil ?_|refine oP (pA (lv:=.atom _) rfl) rfl ?_|refine LCode.ret ?_|refine QThen.ret ?_|refine oP (pA (lv:=.list _) rfl) rfl ?_);exact h ()):P:=t fun _=>h
theorem gfv {P Q:Prop} (h:Q) (t:(Unit→Q)→P:=by intro h;(repeat first|refine qN ?_|refine LOps.nil ?_|refine oP (pM (lv:=.atom _) rfl) rfl ?_|refine LOps.want rfl rfl ?_|refine oP (Pure.pickT (lv:=.atom _) rfl rfl) rfl ?_|refine LOps.skip rfl rfl rfl rfl ?_|refine LOps.skipU rfl rfl rfl ?_);exact h ()):P:=t fun _=>h
theorem gfw {P Q:Prop} (h:Q) (t:(Unit→Q)→P:=by intro h;(repeat first|refine qN ?_|refine LOps.nil ?_|refine LOps.want rfl rfl ?_|refine oP (Pure.pickF (lv:=.atom _) rfl rfl) rfl ?_|refine LOps.skip rfl rfl rfl rfl ?_|refine LOps.skipU rfl rfl rfl ?_);exact h ()):P:=t fun _=>h
theorem gfx {P Q:Prop} (h:Q) (t:(Unit→Q)→P:=by intro h;(repeat first|refine qN ?_);exact h ()):P:=t fun _=>h
theorem gfy {P Q:Prop} (h:Q) (t:(Unit→Q)→P:=by intro h;(repeat first|refine oP (pM (lv:=.atom _) rfl) rfl ?_|refine LOps.want rfl rfl ?_|refine oP (Pure.pickT (lv:=.atom _) rfl rfl) rfl ?_|refine oP (Pure.sneq rfl rfl) rfl ?_);exact h ()):P:=t fun _=>h
theorem gfz {P Q:Prop} (h:Q) (t:(Unit→Q)→P:=by intro h;(repeat first|refine oP (pM (lv:=.atom _) rfl) rfl ?_|refine LOps.want rfl rfl ?_|refine oP (Pure.pickF (lv:=.atom _) rfl rfl) rfl ?_|refine LOps.skip rfl rfl rfl rfl ?_|refine oP (pG (cs':=[_,_]) rfl (List.Mem.head _) rfl rfl) rfl ?_);exact h ()):P:=t fun _=>h
theorem gf0 {P Q:Prop} (h:Q) (t:(Unit→Q)→P:=by intro h;(repeat first|refine qN ?_|refine LOps.nil ?_|refine LCode.region ?_|refine oP (pA (lv:=.atom _) rfl) rfl ?_);exact h ()):P:=t fun _=>h
theorem gf1 {P Q:Prop} (h:Q) (t:(Unit→Q)→P:=by intro h;(repeat first|refine qN ?_|refine LCode.ret ?_);exact h ()):P:=t fun _=>h
theorem gf2 {P Q:Prop} (h:Q) (t:(Unit→Q)→P:=by intro h;(repeat first|refine qN ?_|refine LOps.nil ?_|refine LCode.region ?_|refine LCode.seq ?_|refine oP (pM (lv:=.atom _) rfl) rfl ?_|refine oP (pA (lv:=.atom _) rfl) rfl ?_|refine LCode.ret ?_|refine LOps.want rfl rfl ?_|refine oP (Pure.pickT (lv:=.atom _) rfl rfl) rfl ?_|refine oP (Pure.eql rfl rfl) rfl ?_|refine oP (Pure.extract (c:=.atom _) rfl rfl) rfl ?_|refine oP (Pure.seq rfl rfl) rfl ?_|refine oP (pM (lv:=.tuple _) rfl) rfl ?_);exact h ()):P:=t fun _=>h
theorem gf3 {P Q:Prop} (h:Q) (t:(Unit→Q)→P:=by intro h;(repeat first|refine qN ?_|refine LOps.nil ?_|refine LCode.region ?_|refine LCode.seq ?_|refine oP (pM (lv:=.atom _) rfl) rfl ?_|refine oP (pA (lv:=.atom _) rfl) rfl ?_|refine LCode.ret ?_|refine oP (Pure.neq rfl rfl) rfl ?_);exact h ()):P:=t fun _=>h
theorem gf4 {P Q:Prop} (h:Q) (t:(Unit→Q)→P:=by intro h;(repeat first|refine oP (pM (lv:=.atom _) rfl) rfl ?_|refine oP (Pure.pickF (lv:=.atom _) rfl rfl) rfl ?_);exact h ()):P:=t fun _=>h
theorem gf5 {P Q:Prop} (h:Q) (t:(Unit→Q)→P:=by intro h;(repeat first|refine qN ?_|refine LOps.nil ?_|refine LCode.region ?_|refine LCode.seq ?_|refine oP (pA (lv:=.atom _) rfl) rfl ?_|refine oP (pM (lv:=.list _) rfl) rfl ?_);exact h ()):P:=t fun _=>h
theorem gf6 {P Q:Prop} (h:Q) (t:(Unit→Q)→P:=by intro h;(repeat first|refine qN ?_|refine LOps.nil ?_|refine LCode.region ?_|refine LCode.seq ?_|refine oP (pM (lv:=.atom _) rfl) rfl ?_|refine oP (pA (lv:=.atom _) rfl) rfl ?_|refine oP (Pure.gtr rfl rfl) rfl ?_|refine oP (Pure.sub rfl rfl (by omega)) rfl ?_);exact h ()):P:=t fun _=>h
theorem gf7 {P Q:Prop} (h:Q) (t:(Unit→Q)→P:=by intro h;(repeat first|refine oP (pM (lv:=.atom _) rfl) rfl ?_|refine oP (Pure.llen rfl) rfl ?_);exact h ()):P:=t fun _=>h
theorem gf8 {P Q:Prop} (h:Q) (t:(Unit→Q)→P:=by intro h;(repeat first|refine qN ?_|refine LOps.nil ?_|refine LCode.region ?_|refine LCode.seq ?_|refine LCode.ret ?_|refine oP (pA (lv:=.app _ _ _ _) rfl) rfl ?_|refine oP (pM (lv:=.app _ _ _ _) rfl) rfl ?_);exact h ()):P:=t fun _=>h
theorem gf9 {P Q:Prop} (h:Q) (t:(Unit→Q)→P:=by intro h;(repeat first|refine qN ?_|refine LOps.nil ?_|refine LCode.region ?_|refine LCode.seq ?_|refine oP (pM (lv:=.atom _) rfl) rfl ?_|refine oP (pA (lv:=.atom _) rfl) rfl ?_|refine oP (Pure.add rfl rfl (by omega)) rfl ?_|refine oP (Pure.lss rfl rfl) rfl ?_|refine oP (pM (lv:=.list _) rfl) rfl ?_|refine oP (Pure.llen rfl) rfl ?_|refine oP (pA (lv:=.list _) rfl) rfl ?_|refine oP (pO (c:=.list _) rfl rfl) rfl ?_);exact h ()):P:=t fun _=>h
theorem gga {P Q:Prop} (h:Q) (t:(Unit→Q)→P:=by intro h;(repeat first|refine qN ?_|refine LOps.nil ?_|refine LCode.region ?_|refine oP (pA (lv:=.list _) rfl) rfl ?_|refine oP (pO (c:=.list _) rfl rfl) rfl ?_);exact h ()):P:=t fun _=>h
theorem ggb {P Q:Prop} (h:Q) (t:(Unit→Q)→P:=by intro h;(repeat first|refine qN ?_|refine LOps.nil ?_|refine LCode.region ?_|refine LCode.seq ?_|refine oP (pA (lv:=.atom _) rfl) rfl ?_|refine oP (pF rfl) rfl ?_|refine oP (pL (c:=.list _) rfl (List.Mem.head _) rfl) rfl ?_);exact h ()):P:=t fun _=>h
theorem ggc {P Q:Prop} (h:Q) (t:(Unit→Q)→P:=by intro h;(repeat first|refine qN ?_|refine LOps.nil ?_|refine LCode.region ?_|refine LCode.seq ?_|refine oP (pF rfl) rfl ?_|refine oP (pL (c:=.list _) rfl (List.Mem.head _) rfl) rfl ?_|refine oS (sS (cs':=[_,_,_,_]) rfl pH rfl rfl rfl rfl rfl ?_) rfl);exact h ()):P:=t fun _=>h
theorem ggd {P Q:Prop} (h:Q) (t:(Unit→Q)→P:=by intro h;(repeat first|refine qN ?_|refine LOps.nil ?_|refine LCode.region ?_|refine oP (pA (lv:=.atom _) rfl) rfl ?_|refine oP (pO (c:=.atom _) rfl rfl) rfl ?_);exact h ()):P:=t fun _=>h
theorem gge {P Q:Prop} (h:Q) (t:(Unit→Q)→P:=by intro h;(repeat first|refine oP (pM (lv:=.atom _) rfl) rfl ?_|refine oP (pF rfl) rfl ?_|refine oP (pL (c:=.atom _) rfl (List.Mem.head _) rfl) rfl ?_|refine oP (Pure.sadd rfl rfl (by first|omega|(simp only[zLa,zLc,zLn];omega))) rfl ?_);exact h ()):P:=t fun _=>h
theorem ggf {P Q:Prop} (h:Q) (t:(Unit→Q)→P:=by intro h;(repeat first|refine LCode.region ?_|refine LCode.seq ?_|refine oP (pM (lv:=.atom _) rfl) rfl ?_|refine oP (Pure.lss rfl rfl) rfl ?_|refine oP (Pure.slen rfl) rfl ?_);exact h ()):P:=t fun _=>h
theorem ggg {P Q:Prop} (h:Q) (t:(Unit→Q)→P:=by intro h;(repeat first|refine qN ?_|refine LOps.nil ?_|refine LCode.region ?_|refine oP (pM (lv:=.atom _) rfl) rfl ?_|refine oP (pA (lv:=.atom _) rfl) rfl ?_|refine LCode.skip ?_|refine LCode.block ?_|refine QBlock.normal ?_|refine oP (Pure.add rfl rfl (by omega)) rfl ?_);exact h ()):P:=t fun _=>h
theorem ggh {P Q:Prop} (h:Q) (t:(Unit→Q)→P:=by intro h;(repeat first|refine qN ?_|refine LOps.nil ?_|refine oP (pA (lv:=.atom _) rfl) rfl ?_|refine LCode.ret ?_|refine QThen.ret ?_|refine oP (Pure.slen rfl) rfl ?_);exact h ()):P:=t fun _=>h
theorem ggi {P Q:Prop} (h:Q) (t:(Unit→Q)→P:=by intro h;(repeat first|refine qN ?_|refine LOps.nil ?_|refine oP (pA (lv:=.atom _) rfl) rfl ?_|refine LCode.ret ?_|refine oP (Pure.slen rfl) rfl ?_);exact h ()):P:=t fun _=>h
theorem ggj {P Q:Prop} (h:Q) (t:(Unit→Q)→P:=by intro h;(repeat first|refine qN ?_|refine LOps.nil ?_|refine LCode.region ?_|refine LCode.seq ?_|refine oP (pM (lv:=.atom _) rfl) rfl ?_|refine oP (pA (lv:=.atom _) rfl) rfl ?_|refine LCode.skip ?_|refine LCode.block ?_|refine oP (pM (lv:=.list _) rfl) rfl ?_);exact h ()):P:=t fun _=>h
theorem ggk {P Q:Prop} (h:Q) (t:(Unit→Q)→P:=by intro h;(repeat first|refine qN ?_|refine LOps.nil ?_|refine oP (Pure.seq rfl rfl) rfl ?_|refine oP (pO (c:=.atom _) rfl rfl) rfl ?_);exact h ()):P:=t fun _=>h
theorem ggl {P Q:Prop} (h:Q) (t:(Unit→Q)→P:=by intro h;(repeat first|refine qN ?_|refine LOps.nil ?_|refine LCode.region ?_|refine LCode.seq ?_|refine oP (pM (lv:=.atom _) rfl) rfl ?_|refine oP (pA (lv:=.atom _) rfl) rfl ?_|refine oP (pM (lv:=.list _) rfl) rfl ?_);exact h ()):P:=t fun _=>h
theorem ggm {P Q:Prop} (h:Q) (t:(Unit→Q)→P:=by intro h;(repeat first|refine qN ?_|refine LOps.nil ?_|refine oP (pA (lv:=.atom _) rfl) rfl ?_|refine LCode.ret ?_|refine oP (Pure.geq rfl rfl) rfl ?_);exact h ()):P:=t fun _=>h
theorem ggn {P Q:Prop} (h:Q) (t:(Unit→Q)→P:=by intro h;(repeat first|refine qN ?_|refine LOps.nil ?_|refine LCode.region ?_|refine LCode.seq ?_|refine oP (pA (lv:=.atom _) rfl) rfl ?_|refine LCode.skip ?_);exact h ()):P:=t fun _=>h
theorem ggo {P Q:Prop} (h:Q) (t:(Unit→Q)→P:=by intro h;(repeat first|refine qN ?_|refine LOps.nil ?_|refine LCode.region ?_|refine LCode.seq ?_|refine oP (pM (lv:=.atom _) rfl) rfl ?_|refine oP (pA (lv:=.atom _) rfl) rfl ?_|refine LCode.ret ?_|refine oS (sS (cs':=[_,_,_]) rfl pH rfl rfl rfl rfl rfl ?_) rfl|refine oP (Pure.slen rfl) rfl ?_|refine oP (pB _ (cs:=[_,_,_]) rfl) rfl ?_);exact h ()):P:=t fun _=>h
theorem ggp {P Q:Prop} (h:Q) (t:(Unit→Q)→P:=by intro h;(repeat first|refine qN ?_|refine LOps.nil ?_|refine LCode.region ?_|refine LCode.seq ?_|refine oP (pM (lv:=.atom _) rfl) rfl ?_|refine oP (pA (lv:=.atom _) rfl) rfl ?_|refine LCode.ret ?_|refine LCode.skip ?_|refine oS (sS (cs':=[_,_,_]) rfl pH rfl rfl rfl rfl rfl ?_) rfl|refine oP (Pure.slen rfl) rfl ?_|refine oP (pB _ (cs:=[_,_,_]) rfl) rfl ?_);exact h ()):P:=t fun _=>h
theorem ggq {P Q:Prop} (h:Q) (t:(Unit→Q)→P:=by intro h;(repeat first|refine qN ?_|refine LOps.nil ?_|refine LCode.region ?_|refine LCode.seq ?_|refine oP (pM (lv:=.atom _) rfl) rfl ?_|refine oP (Pure.not rfl) rfl ?_);exact h ()):P:=t fun _=>h
theorem ggr {P Q:Prop} (h:Q) (t:(Unit→Q)→P:=by intro h;(repeat first|refine qN ?_|refine LOps.nil ?_|refine oP (Pure.pickF (lv:=.atom _) rfl rfl) rfl ?_);exact h ()):P:=t fun _=>h
theorem ggs {P Q:Prop} (h:Q) (t:(Unit→Q)→P:=by intro h;(repeat first|refine qN ?_|refine LOps.nil ?_|refine LCode.region ?_|refine LCode.seq ?_|refine oP (pM (lv:=.atom _) rfl) rfl ?_|refine LCode.skip ?_|refine LCode.block ?_|refine oP (Pure.slen rfl) rfl ?_);exact h ()):P:=t fun _=>h
theorem ggt {P Q:Prop} (h:Q) (t:(Unit→Q)→P:=by intro h;(repeat first|refine oP (pM (lv:=.atom _) rfl) rfl ?_|refine oP (Pure.geq rfl rfl) rfl ?_);exact h ()):P:=t fun _=>h
theorem ggu {P Q:Prop} (h:Q) (t:(Unit→Q)→P:=by intro h;(repeat first|refine qN ?_|refine LOps.nil ?_|refine oP (pA (lv:=.atom _) rfl) rfl ?_|refine LOps.want rfl rfl ?_|refine oP (Pure.pickT (lv:=.atom _) rfl rfl) rfl ?_|refine oP (Pure.leq rfl rfl) rfl ?_);exact h ()):P:=t fun _=>h
theorem ggv {P Q:Prop} (h:Q) (t:(Unit→Q)→P:=by intro h;(repeat first|refine qN ?_|refine LOps.nil ?_|refine oP (pA (lv:=.atom _) rfl) rfl ?_|refine oP (Pure.pickF (lv:=.atom _) rfl rfl) rfl ?_|refine LOps.skip rfl rfl rfl rfl ?_);exact h ()):P:=t fun _=>h
theorem ggw {P Q:Prop} (h:Q) (t:(Unit→Q)→P:=by intro h;(repeat first|refine oP (pM (lv:=.atom _) rfl) rfl ?_|refine LOps.want rfl rfl ?_|refine oP (Pure.eql rfl rfl) rfl ?_);exact h ()):P:=t fun _=>h
theorem ggx {P Q:Prop} (h:Q) (t:(Unit→Q)→P:=by intro h;(repeat first|refine qN ?_|refine LOps.nil ?_|refine LOps.want rfl rfl ?_|refine oP (Pure.pickT (lv:=.atom _) rfl rfl) rfl ?_|refine LOps.skip rfl rfl rfl rfl ?_|refine LOps.skipU rfl rfl rfl ?_);exact h ()):P:=t fun _=>h
theorem ggy {P Q:Prop} (h:Q) (t:(Unit→Q)→P:=by intro h;(repeat first|refine oP (pM (lv:=.atom _) rfl) rfl ?_|refine LOps.want rfl rfl ?_|refine oP (Pure.neq rfl rfl) rfl ?_);exact h ()):P:=t fun _=>h
theorem ggz {P Q:Prop} (h:Q) (t:(Unit→Q)→P:=by intro h;(repeat first|refine qN ?_|refine LOps.nil ?_|refine LOps.want rfl rfl ?_|refine oP (Pure.pickF (lv:=.atom _) rfl rfl) rfl ?_|refine oP (Pure.pickT (lv:=.atom _) rfl rfl) rfl ?_|refine LOps.skip rfl rfl rfl rfl ?_|refine LOps.skipU rfl rfl rfl ?_);exact h ()):P:=t fun _=>h
theorem gg0 {P Q:Prop} (h:Q) (t:(Unit→Q)→P:=by intro h;(repeat first|refine oP (pM (lv:=.atom _) rfl) rfl ?_|refine LOps.want rfl rfl ?_|refine oP (Pure.lss rfl rfl) rfl ?_);exact h ()):P:=t fun _=>h
theorem gg1 {P Q:Prop} (h:Q) (t:(Unit→Q)→P:=by intro h;(repeat first|refine qN ?_|refine LOps.nil ?_|refine LOps.want rfl rfl ?_|refine oP (Pure.pickF (lv:=.atom _) rfl rfl) rfl ?_|refine oP (Pure.pickT (lv:=.atom _) rfl rfl) rfl ?_|refine oP (Pure.gtr rfl rfl) rfl ?_);exact h ()):P:=t fun _=>h
theorem gg2 {P Q:Prop} (h:Q) (t:(Unit→Q)→P:=by intro h;(repeat first|refine qN ?_|refine LOps.nil ?_|refine LCode.region ?_|refine LCode.seq ?_|refine oP (pM (lv:=.atom _) rfl) rfl ?_|refine oP (pA (lv:=.atom _) rfl) rfl ?_|refine oP (Pure.pickT (lv:=.atom _) rfl rfl) rfl ?_|refine LOps.skip rfl rfl rfl rfl ?_);exact h ()):P:=t fun _=>h
theorem gg3 {P Q:Prop} (h:Q) (t:(Unit→Q)→P:=by intro h;(repeat first|refine oP (pM (lv:=.atom _) rfl) rfl ?_|refine LOps.want rfl rfl ?_|refine oP (pF rfl) rfl ?_|refine oP (pL (c:=.atom _) rfl (List.Mem.head _) rfl) rfl ?_|refine oP (pN rfl) rfl ?_);exact h ()):P:=t fun _=>h
theorem gg4 {P Q:Prop} (h:Q) (t:(Unit→Q)→P:=by intro h;(repeat first|refine qN ?_|refine LOps.nil ?_|refine LCode.region ?_|refine LCode.seq ?_|refine oP (pM (lv:=.atom _) rfl) rfl ?_|refine oP (pA (lv:=.atom _) rfl) rfl ?_|refine oP (Pure.pickF (lv:=.atom _) rfl rfl) rfl ?_|refine oP (Pure.pickT (lv:=.atom _) rfl rfl) rfl ?_|refine LOps.skip rfl rfl rfl rfl ?_);exact h ()):P:=t fun _=>h
theorem gg5 {P Q:Prop} (h:Q) (t:(Unit→Q)→P:=by intro h;(repeat first|refine qN ?_|refine LOps.nil ?_|refine LCode.region ?_|refine LCode.seq ?_|refine oP (pM (lv:=.atom _) rfl) rfl ?_|refine oP (pA (lv:=.atom _) rfl) rfl ?_|refine LOps.want rfl rfl ?_|refine oP (pF rfl) rfl ?_|refine oP (Pure.pickF (lv:=.atom _) rfl rfl) rfl ?_|refine oP (pL (c:=.atom _) rfl (List.Mem.head _) rfl) rfl ?_|refine oP (pN rfl) rfl ?_);exact h ()):P:=t fun _=>h
theorem gg6 {P Q:Prop} (h:Q) (t:(Unit→Q)→P:=by intro h;(repeat first|refine qN ?_|refine LOps.nil ?_|refine LCode.region ?_|refine LCode.seq ?_|refine oP (pM (lv:=.atom _) rfl) rfl ?_|refine oP (pA (lv:=.atom _) rfl) rfl ?_|refine oP (Pure.pickT (lv:=.atom _) rfl rfl) rfl ?_|refine LOps.skip rfl rfl rfl rfl ?_|refine LOps.skipU rfl rfl rfl ?_);exact h ()):P:=t fun _=>h
theorem gg7 {P Q:Prop} (h:Q) (t:(Unit→Q)→P:=by intro h;(repeat first|refine qN ?_|refine LOps.nil ?_|refine LCode.region ?_|refine LCode.seq ?_|refine oP (pM (lv:=.atom _) rfl) rfl ?_|refine oP (pA (lv:=.atom _) rfl) rfl ?_|refine LOps.want rfl rfl ?_|refine oP (pF rfl) rfl ?_|refine oP (pL (c:=.atom _) rfl (List.Mem.head _) rfl) rfl ?_|refine oP (pN rfl) rfl ?_);exact h ()):P:=t fun _=>h
theorem gg8 {P Q:Prop} (h:Q) (t:(Unit→Q)→P:=by intro h;(repeat first|refine oP (pM (lv:=.atom _) rfl) rfl ?_|refine LOps.want rfl rfl ?_|refine oP (pF rfl) rfl ?_|refine oP (pL (c:=.atom _) rfl (List.Mem.head _) rfl) rfl ?_|refine oP (Pure.not rfl) rfl ?_|refine oP (pN rfl) rfl ?_);exact h ()):P:=t fun _=>h
theorem gg9 {P Q:Prop} (h:Q) (t:(Unit→Q)→P:=by intro h;(repeat first|refine qN ?_|refine LOps.nil ?_|refine LCode.region ?_|refine LCode.seq ?_|refine oP (pM (lv:=.list _) rfl) rfl ?_);exact h ()):P:=t fun _=>h
theorem gha {P Q:Prop} (h:Q) (t:(Unit→Q)→P:=by intro h;(repeat first|refine qN ?_|refine LOps.nil ?_|refine oP (pA (lv:=.atom _) rfl) rfl ?_|refine LCode.ret ?_|refine QThen.ret ?_|refine QBlock.ret ?_|refine oP (pO (c:=.atom _) rfl rfl) rfl ?_);exact h ()):P:=t fun _=>h
theorem ghb {P Q:Prop} (h:Q) (t:(Unit→Q)→P:=by intro h;(repeat first|refine qN ?_|refine LCode.region ?_|refine LCode.seq ?_|refine oP (pM (lv:=.atom _) rfl) rfl ?_|refine LCode.skip ?_|refine oP (pF rfl) rfl ?_|refine QBlock.normal ?_|refine oP (pL (c:=.atom _) rfl (List.Mem.head _) rfl) rfl ?_|refine oP (pN rfl) rfl ?_);exact h ()):P:=t fun _=>h
theorem ghc {P Q:Prop} (h:Q) (t:(Unit→Q)→P:=by intro h;(repeat first|refine qN ?_|refine LOps.nil ?_|refine LCode.region ?_|refine LCode.seq ?_|refine oP (pM (lv:=.atom _) rfl) rfl ?_|refine oP (pA (lv:=.atom _) rfl) rfl ?_|refine LOps.want rfl rfl ?_|refine oP (pF rfl) rfl ?_|refine oP (pN rfl) rfl ?_|refine oS (sS (cs':=[_,_,_]) rfl pH rfl rfl rfl rfl rfl ?_) rfl|refine oP (pL (c:=.atom _) rfl (List.Mem.tail _ (List.Mem.head _)) rfl) rfl ?_);exact h ()):P:=t fun _=>h
theorem ghd {P Q:Prop} (h:Q) (t:(Unit→Q)→P:=by intro h;(repeat first|refine oP (pM (lv:=.atom _) rfl) rfl ?_|refine LOps.want rfl rfl ?_|refine oP (Pure.pickF (lv:=.atom _) rfl rfl) rfl ?_|refine oP (Pure.pickT (lv:=.atom _) rfl rfl) rfl ?_|refine LOps.skip rfl rfl rfl rfl ?_|refine oP (Pure.not rfl) rfl ?_);exact h ()):P:=t fun _=>h
theorem ghe {P Q:Prop} (h:Q) (t:(Unit→Q)→P:=by intro h;(repeat first|refine oP (pM (lv:=.atom _) rfl) rfl ?_|refine LOps.want rfl rfl ?_|refine oP (pF rfl) rfl ?_|refine oP (Pure.pickT (lv:=.atom _) rfl rfl) rfl ?_|refine oP (Pure.not rfl) rfl ?_|refine oP (pN rfl) rfl ?_|refine oP (pL (c:=.atom _) rfl (List.Mem.tail _ (List.Mem.head _)) rfl) rfl ?_);exact h ()):P:=t fun _=>h
theorem ghf {P Q:Prop} (h:Q) (t:(Unit→Q)→P:=by intro h;(repeat first|refine qN ?_|refine LOps.nil ?_|refine LCode.region ?_|refine LCode.seq ?_|refine oP (pM (lv:=.atom _) rfl) rfl ?_|refine oP (pA (lv:=.atom _) rfl) rfl ?_|refine oP (Pure.pickT (lv:=.atom _) rfl rfl) rfl ?_|refine LOps.skip rfl rfl rfl rfl ?_|refine oS (sS (cs':=[_,_,_]) rfl pH rfl rfl rfl rfl rfl ?_) rfl|refine LOps.skipU rfl rfl rfl ?_);exact h ()):P:=t fun _=>h
theorem ghg {P Q:Prop} (h:Q) (t:(Unit→Q)→P:=by intro h;(repeat first|refine qN ?_|refine LOps.nil ?_|refine LCode.region ?_|refine LCode.seq ?_|refine oP (pM (lv:=.atom _) rfl) rfl ?_|refine oP (pF rfl) rfl ?_|refine oP (pL (c:=.atom _) rfl (List.Mem.head _) rfl) rfl ?_|refine oP (Pure.eql rfl rfl) rfl ?_|refine oP (pM (lv:=.list _) rfl) rfl ?_|refine oP (Pure.llen rfl) rfl ?_);exact h ()):P:=t fun _=>h
theorem ghh {P Q:Prop} (h:Q) (t:(Unit→Q)→P:=by intro h;(repeat first|refine LCode.region ?_|refine LCode.seq ?_|refine oP (pF rfl) rfl ?_|refine oP (pL (c:=.atom _) rfl (List.Mem.head _) rfl) rfl ?_|refine oP (Pure.add rfl rfl (by omega)) rfl ?_);exact h ()):P:=t fun _=>h
theorem ghi {P Q:Prop} (h:Q) (t:(Unit→Q)→P:=by intro h;(repeat first|refine qN ?_|refine LOps.nil ?_|refine LCode.region ?_|refine oP (pM (lv:=.atom _) rfl) rfl ?_|refine oP (pA (lv:=.atom _) rfl) rfl ?_|refine oP (Pure.add rfl rfl (by omega)) rfl ?_|refine oP (pO (c:=.atom _) rfl rfl) rfl ?_);exact h ()):P:=t fun _=>h
theorem ghj {P Q:Prop} (h:Q) (t:(Unit→Q)→P:=by intro h;(repeat first|refine qN ?_|refine LOps.nil ?_|refine LCode.region ?_|refine LCode.seq ?_|refine oP (pM (lv:=.atom _) rfl) rfl ?_|refine oP (pA (lv:=.atom _) rfl) rfl ?_|refine oP (pF rfl) rfl ?_|refine LCode.block ?_|refine oP (Pure.llen rfl) rfl ?_|refine oP (pL (c:=.list _) rfl (List.Mem.head _) rfl) rfl ?_);exact h ()):P:=t fun _=>h
theorem ghk {P Q:Prop} (h:Q) (t:(Unit→Q)→P:=by intro h;(repeat first|refine qN ?_|refine LOps.nil ?_|refine LCode.region ?_|refine oS (sS (cs':=[_,_,_,_]) rfl pH rfl rfl rfl rfl rfl ?_) rfl);exact h ()):P:=t fun _=>h
theorem ghl {P Q:Prop} (h:Q) (t:(Unit→Q)→P:=by intro h;(repeat first|refine oP (pM (lv:=.atom _) rfl) rfl ?_|refine oP (pG (cs':=[_,_,_,_]) rfl (List.Mem.head _) rfl rfl) rfl ?_);exact h ()):P:=t fun _=>h
theorem ghm {P Q:Prop} (h:Q) (t:(Unit→Q)→P:=by intro h;(repeat first|refine qN ?_|refine LOps.nil ?_|refine LCode.region ?_|refine LCode.seq ?_|refine oP (pA (lv:=.atom _) rfl) rfl ?_|refine oP (pF rfl) rfl ?_|refine LCode.block ?_|refine oP (pL (c:=.atom _) rfl (List.Mem.head _) rfl) rfl ?_|refine oP (Pure.seq rfl rfl) rfl ?_|refine LCode.exit ?_|refine QBlock.hit ?_|refine QThen.exit ?_);exact h ()):P:=t fun _=>h
theorem ghn {P Q:Prop} (h:Q) (t:(Unit→Q)→P:=by intro h;(repeat first|refine qN ?_|refine LCode.seq ?_|refine LCode.skip ?_|refine QBlock.normal ?_);exact h ()):P:=t fun _=>h
theorem gho {P Q:Prop} (h:Q) (t:(Unit→Q)→P:=by intro h;(repeat first|refine qP (pO (c:=.atom _) rfl rfl) rfl ?_);exact h ()):P:=t fun _=>h
theorem ghp {P Q:Prop} (h:Q) (t:(Unit→Q)→P:=by intro h;(repeat first|refine qN ?_|refine LOps.nil ?_|refine LCode.region ?_|refine LCode.seq ?_|refine oP (pA (lv:=.atom _) rfl) rfl ?_|refine oP (pF rfl) rfl ?_|refine LCode.block ?_|refine oP (pL (c:=.atom _) rfl (List.Mem.head _) rfl) rfl ?_|refine oP (Pure.seq rfl rfl) rfl ?_|refine LQ.nil ?_|refine qP (pA (lv:=.atom _) rfl) rfl ?_|refine qP (pO (c:=.atom _) rfl rfl) rfl ?_);exact h ()):P:=t fun _=>h
theorem ghq {P Q:Prop} (h:Q) (t:(Unit→Q)→P:=by intro h;(repeat first|refine qN ?_|refine LCode.region ?_|refine LCode.seq ?_|refine oP (pM (lv:=.atom _) rfl) rfl ?_|refine LCode.skip ?_|refine QBlock.normal ?_|refine oP (Pure.add rfl rfl (by omega)) rfl ?_);exact h ()):P:=t fun _=>h
theorem ghr {P Q:Prop} (h:Q) (t:(Unit→Q)→P:=by intro h;(repeat first|refine qN ?_|refine LOps.nil ?_|refine LCode.region ?_|refine LCode.seq ?_|refine oP (pA (lv:=.atom _) rfl) rfl ?_|refine oP (pF rfl) rfl ?_|refine LCode.block ?_|refine oP (pL (c:=.atom _) rfl (List.Mem.head _) rfl) rfl ?_|refine oP (Pure.eql rfl rfl) rfl ?_|refine LQ.nil ?_|refine qP (pF rfl) rfl ?_|refine qP (pL (c:=.atom _) rfl (List.Mem.head _) rfl) rfl ?_|refine qP (pL (c:=.list _) rfl (List.Mem.head _) rfl) rfl ?_|refine qP (pA (lv:=.atom _) rfl) rfl ?_|refine qP (Pure.llen rfl) rfl ?_|refine qP (Pure.sneq rfl rfl) rfl ?_);exact h ()):P:=t fun _=>h
theorem ghs {P Q:Prop} (h:Q) (t:(Unit→Q)→P:=by intro h;(repeat first|refine LOps.want rfl rfl ?_|refine oP (pF rfl) rfl ?_|refine oP (pL (c:=.list _) rfl (List.Mem.head _) rfl) rfl ?_);exact h ()):P:=t fun _=>h
theorem ght {P Q:Prop} (h:Q) (t:(Unit→Q)→P:=by intro h;(repeat first|refine qN ?_|refine LOps.nil ?_|refine oP (pA (lv:=.atom _) rfl) rfl ?_|refine LCode.ret ?_|refine LOps.want rfl rfl ?_|refine QThen.ret ?_|refine oP (Pure.pickT (lv:=.atom _) rfl rfl) rfl ?_|refine QBlock.ret ?_|refine oP (Pure.seq rfl rfl) rfl ?_|refine oP (pO (c:=.atom _) rfl rfl) rfl ?_|refine oP (Pure.field1 rfl rfl) rfl ?_);exact h ()):P:=t fun _=>h
theorem ghu {P Q:Prop} (h:Q) (t:(Unit→Q)→P:=by intro h;(repeat first|refine qN ?_|refine LOps.nil ?_|refine LCode.region ?_|refine oP (pM (lv:=.atom _) rfl) rfl ?_|refine oP (pG (cs':=[_,_,_,_,_,_]) rfl (List.Mem.head _) rfl rfl) rfl ?_|refine oS (sS (cs':=[_,_,_,_,_,_]) rfl pH rfl rfl rfl rfl rfl ?_) rfl);exact h ()):P:=t fun _=>h
theorem ghv {P Q:Prop} (h:Q) (t:(Unit→Q)→P:=by intro h;(repeat first|refine qN ?_|refine LOps.nil ?_|refine LCode.region ?_|refine LCode.seq ?_|refine oP (pF rfl) rfl ?_|refine oP (pL (c:=.atom _) rfl (List.Mem.head _) rfl) rfl ?_|refine oP (Pure.eql rfl rfl) rfl ?_);exact h ()):P:=t fun _=>h
theorem ghw {P Q:Prop} (h:Q) (t:(Unit→Q)→P:=by intro h;(repeat first|refine qN ?_|refine LCode.region ?_|refine LCode.seq ?_|refine oP (pM (lv:=.atom _) rfl) rfl ?_|refine LCode.skip ?_|refine oP (pF rfl) rfl ?_|refine oP (pL (c:=.list _) rfl (List.Mem.head _) rfl) rfl ?_);exact h ()):P:=t fun _=>h
theorem ghx {P Q:Prop} (h:Q) (t:(Unit→Q)→P:=by intro h;(repeat first|refine qN ?_|refine LOps.nil ?_|refine LCode.region ?_|refine LCode.seq ?_|refine oP (pA (lv:=.atom _) rfl) rfl ?_|refine oP (pF rfl) rfl ?_|refine LCode.block ?_|refine oP (pL (c:=.atom _) rfl (List.Mem.head _) rfl) rfl ?_|refine oP (Pure.eql rfl rfl) rfl ?_);exact h ()):P:=t fun _=>h
theorem ghy {P Q:Prop} (h:Q) (t:(Unit→Q)→P:=by intro h;(repeat first|refine qN ?_|refine LOps.nil ?_|refine LCode.region ?_|refine LCode.seq ?_|refine oP (pM (lv:=.atom _) rfl) rfl ?_|refine QBlock.normal ?_);exact h ()):P:=t fun _=>h
theorem ghz {P Q:Prop} (h:Q) (t:(Unit→Q)→P:=by intro h;(repeat first|refine qN ?_|refine LOps.nil ?_|refine LCode.region ?_|refine LCode.seq ?_|refine oP (pM (lv:=.atom _) rfl) rfl ?_|refine oP (Pure.add rfl rfl (by omega)) rfl ?_);exact h ()):P:=t fun _=>h
theorem gh0 {P Q:Prop} (h:Q) (t:(Unit→Q)→P:=by intro h;(repeat first|refine qN ?_|refine LOps.nil ?_|refine LCode.region ?_|refine oP (pA (lv:=.atom _) rfl) rfl ?_|refine oP (Pure.eql rfl rfl) rfl ?_);exact h ()):P:=t fun _=>h
theorem gh1 {P Q:Prop} (h:Q) (t:(Unit→Q)→P:=by intro h;(repeat first|refine qN ?_|refine LOps.nil ?_|refine LCode.region ?_|refine oP (pM (lv:=.atom _) rfl) rfl ?_|refine oP (pF rfl) rfl ?_|refine oP (pL (c:=.atom _) rfl (List.Mem.head _) rfl) rfl ?_|refine oP (pN rfl) rfl ?_);exact h ()):P:=t fun _=>h
theorem gh2 {P Q:Prop} (h:Q) (t:(Unit→Q)→P:=by intro h;(repeat first|refine qN ?_|refine LOps.nil ?_|refine LCode.region ?_|refine LCode.seq ?_|refine oP (pM (lv:=.atom _) rfl) rfl ?_|refine oP (pF rfl) rfl ?_|refine oP (pL (c:=.atom _) rfl (List.Mem.head _) rfl) rfl ?_);exact h ()):P:=t fun _=>h
theorem gh3 {P Q:Prop} (h:Q) (t:(Unit→Q)→P:=by intro h;(repeat first|refine qN ?_|refine LOps.nil ?_|refine LCode.region ?_|refine LCode.seq ?_|refine oP (pF rfl) rfl ?_|refine oP (pN rfl) rfl ?_|refine oP (pL (c:=.list _) rfl (List.Mem.tail _ (List.Mem.tail _ (List.Mem.head _))) rfl) rfl ?_|refine oS (sS (cs':=[_,_,_,_,_,_,_]) rfl (pT (pT pH)) rfl rfl rfl rfl rfl ?_) rfl|refine oS (sS (cs':=[_,_,_,_,_,_,_]) rfl pH rfl rfl rfl rfl rfl ?_) rfl);exact h ()):P:=t fun _=>h
theorem gh4 {P Q:Prop} (h:Q) (t:(Unit→Q)→P:=by intro h;(repeat first|refine oP (pM (lv:=.atom _) rfl) rfl ?_|refine oP (Pure.pickF (lv:=.atom _) rfl rfl) rfl ?_|refine LOps.skip rfl rfl rfl rfl ?_|refine oP (Pure.not rfl) rfl ?_);exact h ()):P:=t fun _=>h
theorem gh5 {P Q:Prop} (h:Q) (t:(Unit→Q)→P:=by intro h;(repeat first|refine lP (pF rfl) rfl ?_|refine lP (pL (c:=.atom _) rfl (List.Mem.tail _ (List.Mem.head _)) rfl) rfl ?_|refine lP (pM (lv:=.atom _) rfl) rfl ?_|refine lP (pN rfl) rfl ?_|refine lP (Pure.add rfl rfl (by omega)) rfl ?_|refine lP (Pure.llen rfl) rfl ?_|refine lP (pL (c:=.atom _) rfl (List.Mem.head _) rfl) rfl ?_|refine lP (pL (c:=.list _) rfl (List.Mem.head _) rfl) rfl ?_);exact h ()):P:=t fun _=>h
theorem gh6 {P Q:Prop} (h:Q) (t:(Unit→Q)→P:=by intro h;(repeat first|refine lP (pF rfl) rfl ?_|refine lP (pL (c:=.atom _) rfl (List.Mem.tail _ (List.Mem.head _)) rfl) rfl ?_|refine lP (pM (lv:=.atom _) rfl) rfl ?_|refine lP (pN rfl) rfl ?_|refine LS.nil ?_|refine lP (pB _ (cs:=[_,_,_]) rfl) rfl ?_);exact h ()):P:=t fun _=>h
theorem gh7 {P Q:Prop} (h:Q) (t:(Unit→Q)→P:=by intro h;(repeat first|refine qN ?_|refine LOps.nil ?_|refine LCode.region ?_|refine LCode.seq ?_|refine oP (pM (lv:=.atom _) rfl) rfl ?_|refine oP (pF rfl) rfl ?_|refine oP (pL (c:=.atom _) rfl (List.Mem.head _) rfl) rfl ?_|refine oS (sS (cs':=[_,_]) rfl pH rfl rfl rfl rfl rfl ?_) rfl);exact h ()):P:=t fun _=>h
theorem gh8 {P Q:Prop} (h:Q) (t:(Unit→Q)→P:=by intro h;(repeat first|refine qN ?_|refine LOps.nil ?_|refine LCode.region ?_|refine oP (pM (lv:=.atom _) rfl) rfl ?_|refine oP (pF rfl) rfl ?_|refine oP (pL (c:=.atom _) rfl (List.Mem.head _) rfl) rfl ?_|refine oS (sS (cs':=[_,_,_,_]) rfl pH rfl rfl rfl rfl rfl ?_) rfl);exact h ()):P:=t fun _=>h
theorem gh9 {P Q:Prop} (h:Q) (t:(Unit→Q)→P:=by intro h;(repeat first|refine qN ?_|refine LOps.nil ?_|refine LCode.region ?_|refine LCode.seq ?_|refine oP (pM (lv:=.atom _) rfl) rfl ?_|refine oP (pA (lv:=.atom _) rfl) rfl ?_|refine oP (pF rfl) rfl ?_|refine LCode.block ?_|refine LCode.exit ?_|refine QBlock.hit ?_|refine QThen.exit ?_|refine oP (Pure.llen rfl) rfl ?_|refine oP (pL (c:=.list _) rfl (List.Mem.head _) rfl) rfl ?_);exact h ()):P:=t fun _=>h
theorem gia {P Q:Prop} (h:Q) (t:(Unit→Q)→P:=by intro h;(repeat first|refine qN ?_|refine LOps.nil ?_|refine LCode.region ?_|refine LCode.seq ?_|refine oP (pF rfl) rfl ?_|refine oP (pL (c:=.atom _) rfl (List.Mem.head _) rfl) rfl ?_|refine oP (Pure.gtr rfl rfl) rfl ?_|refine oS (sS (cs':=[_,_]) rfl pH rfl rfl rfl rfl rfl ?_) rfl);exact h ()):P:=t fun _=>h
theorem gib {P Q:Prop} (h:Q) (t:(Unit→Q)→P:=by intro h;(repeat first|refine qN ?_|refine LOps.nil ?_|refine LCode.region ?_|refine LCode.seq ?_|refine oP (pM (lv:=.atom _) rfl) rfl ?_|refine oP (pF rfl) rfl ?_|refine oP (pL (c:=.atom _) rfl (List.Mem.head _) rfl) rfl ?_|refine oP (Pure.sub rfl rfl (by omega)) rfl ?_|refine oP (Pure.leq rfl rfl) rfl ?_);exact h ()):P:=t fun _=>h
theorem gic {P Q:Prop} (h:Q) (t:(Unit→Q)→P:=by intro h;(repeat first|refine qN ?_|refine LOps.nil ?_|refine LCode.region ?_|refine LCode.seq ?_|refine oP (pM (lv:=.atom _) rfl) rfl ?_|refine oP (pA (lv:=.atom _) rfl) rfl ?_|refine oP (pF rfl) rfl ?_|refine LCode.exit ?_|refine QBlock.hit ?_|refine QThen.exit ?_|refine oP (Pure.llen rfl) rfl ?_|refine oP (pL (c:=.list _) rfl (List.Mem.head _) rfl) rfl ?_|refine oP (Pure.gtr rfl rfl) rfl ?_);exact h ()):P:=t fun _=>h
theorem gid {P Q:Prop} (h:Q) (t:(Unit→Q)→P:=by intro h;(repeat first|refine oP (pM (lv:=.atom _) rfl) rfl ?_|refine LOps.want rfl rfl ?_|refine oP (Pure.pickT (lv:=.atom _) rfl rfl) rfl ?_|refine oP (Pure.seq rfl rfl) rfl ?_|refine oP (pO (c:=.atom _) rfl rfl) rfl ?_|refine oP (Pure.field1 rfl rfl) rfl ?_);exact h ()):P:=t fun _=>h
theorem gie {P Q:Prop} (h:Q) (t:(Unit→Q)→P:=by intro h;(repeat first|refine LOps.want rfl rfl ?_|refine oP (Pure.pickT (lv:=.atom _) rfl rfl) rfl ?_|refine oP (Pure.eql rfl rfl) rfl ?_|refine oP (Pure.llen rfl) rfl ?_|refine oP (Pure.field1 rfl rfl) rfl ?_|refine oP (pO (c:=.list _) rfl rfl) rfl ?_);exact h ()):P:=t fun _=>h
theorem gif {P Q:Prop} (h:Q) (t:(Unit→Q)→P:=by intro h;(repeat first|refine qN ?_|refine LOps.nil ?_|refine LCode.region ?_|refine oS (sS (cs':=[_,_,_]) rfl pH rfl rfl rfl rfl rfl ?_) rfl|refine oP (pG (cs':=[_,_,_]) rfl (List.Mem.tail _ (List.Mem.head _)) rfl rfl) rfl ?_);exact h ()):P:=t fun _=>h
theorem gig {P Q:Prop} (h:Q) (t:(Unit→Q)→P:=by intro h;(repeat first|refine oP (pM (lv:=.atom _) rfl) rfl ?_|refine oP (Pure.llen rfl) rfl ?_|refine oP (Pure.leq rfl rfl) rfl ?_);exact h ()):P:=t fun _=>h
theorem gih {P Q:Prop} (h:Q) (t:(Unit→Q)→P:=by intro h;(repeat first|refine oP (pM (lv:=.atom _) rfl) rfl ?_|refine LOps.want rfl rfl ?_|refine oP (pF rfl) rfl ?_|refine oP (Pure.pickT (lv:=.atom _) rfl rfl) rfl ?_|refine oP (pL (c:=.atom _) rfl (List.Mem.head _) rfl) rfl ?_|refine oP (Pure.leq rfl rfl) rfl ?_);exact h ()):P:=t fun _=>h
theorem gii {P Q:Prop} (h:Q) (t:(Unit→Q)→P:=by intro h;(repeat first|refine LOps.want rfl rfl ?_|refine oP (pF rfl) rfl ?_|refine oP (Pure.pickT (lv:=.atom _) rfl rfl) rfl ?_|refine oP (pL (c:=.atom _) rfl (List.Mem.head _) rfl) rfl ?_|refine oP (Pure.leq rfl rfl) rfl ?_);exact h ()):P:=t fun _=>h
theorem gij {P Q:Prop} (h:Q) (t:(Unit→Q)→P:=by intro h;(repeat first|refine qN ?_|refine LOps.nil ?_|refine LOps.want rfl rfl ?_|refine oP (Pure.pickT (lv:=.atom _) rfl rfl) rfl ?_|refine LOps.skip rfl rfl rfl rfl ?_);exact h ()):P:=t fun _=>h
theorem gik {P Q:Prop} (h:Q) (t:(Unit→Q)→P:=by intro h;(repeat first|refine qN ?_|refine LOps.nil ?_|refine LOps.want rfl rfl ?_|refine oP (Pure.pickF (lv:=.atom _) rfl rfl) rfl ?_|refine oP (Pure.pickT (lv:=.atom _) rfl rfl) rfl ?_|refine oP (Pure.eql rfl rfl) rfl ?_);exact h ()):P:=t fun _=>h
theorem gil {P Q:Prop} (h:Q) (t:(Unit→Q)→P:=by intro h;(repeat first|refine qN ?_|refine LOps.nil ?_|refine LCode.region ?_|refine LCode.seq ?_|refine oP (pM (lv:=.atom _) rfl) rfl ?_|refine oP (pA (lv:=.atom _) rfl) rfl ?_|refine oP (Pure.extract (c:=.atom _) rfl rfl) rfl ?_|refine oP (pM (lv:=.tuple _) rfl) rfl ?_|refine oP (Pure.ifaceNeqNil rfl) rfl ?_);exact h ()):P:=t fun _=>h
theorem gim {P Q:Prop} (h:Q) (t:(Unit→Q)→P:=by intro h;(repeat first|refine qN ?_|refine LOps.nil ?_|refine LCode.region ?_|refine LCode.seq ?_|refine oP (pM (lv:=.atom _) rfl) rfl ?_|refine oP (pA (lv:=.atom _) rfl) rfl ?_|refine oP (Pure.extract (c:=.atom _) rfl rfl) rfl ?_|refine oP (pM (lv:=.tuple _) rfl) rfl ?_|refine oP (Pure.nilNeqNil rfl) rfl ?_);exact h ()):P:=t fun _=>h
theorem gin {P Q:Prop} (h:Q) (t:(Unit→Q)→P:=by intro h;(repeat first|refine qN ?_|refine LOps.nil ?_|refine oP (pM (lv:=.atom _) rfl) rfl ?_|refine oP (pA (lv:=.atom _) rfl) rfl ?_|refine LCode.ret ?_|refine oS (sS (cs':=[_,_,_]) rfl pH rfl rfl rfl rfl rfl ?_) rfl|refine oP (Pure.slen rfl) rfl ?_|refine oP (pB _ (cs:=[_,_,_]) rfl) rfl ?_);exact h ()):P:=t fun _=>h
theorem gio {P Q:Prop} (h:Q) (t:(Unit→Q)→P:=by intro h;(repeat first|refine qN ?_|refine LOps.nil ?_|refine LCode.region ?_|refine LCode.seq ?_|refine oP (pM (lv:=.atom _) rfl) rfl ?_|refine oP (pA (lv:=.atom _) rfl) rfl ?_|refine LOps.want rfl rfl ?_|refine oP (Pure.lss rfl rfl) rfl ?_|refine oP (Pure.slen rfl) rfl ?_);exact h ()):P:=t fun _=>h
theorem gip {P Q:Prop} (h:Q) (t:(Unit→Q)→P:=by intro h;(repeat first|refine oP (pM (lv:=.atom _) rfl) rfl ?_|refine LOps.want rfl rfl ?_|refine oP (Pure.pickF (lv:=.atom _) rfl rfl) rfl ?_|refine oP (Pure.neq rfl rfl) rfl ?_);exact h ()):P:=t fun _=>h
theorem giq {P Q:Prop} (h:Q) (t:(Unit→Q)→P:=by intro h;(repeat first|refine qN ?_|refine LOps.nil ?_|refine LOps.want rfl rfl ?_|refine oP (Pure.pickF (lv:=.atom _) rfl rfl) rfl ?_|refine oP (Pure.eql rfl rfl) rfl ?_);exact h ()):P:=t fun _=>h
theorem gir {P Q:Prop} (h:Q) (t:(Unit→Q)→P:=by intro h;(repeat first|refine qN ?_|refine LOps.nil ?_|refine oP (pA (lv:=.atom _) rfl) rfl ?_|refine LCode.ret ?_|refine oS (sS (cs':=[_,_,_]) rfl pH rfl rfl rfl rfl rfl ?_) rfl|refine oP (pB _ (cs:=[_,_,_]) rfl) rfl ?_);exact h ()):P:=t fun _=>h
theorem gis {P Q:Prop} (h:Q) (t:(Unit→Q)→P:=by intro h;(repeat first|refine qN ?_|refine LOps.nil ?_|refine oP (pA (lv:=.atom _) rfl) rfl ?_|refine oP (Pure.eql rfl rfl) rfl ?_);exact h ()):P:=t fun _=>h
theorem git {P Q:Prop} (h:Q) (t:(Unit→Q)→P:=by intro h;(repeat first|refine qN ?_|refine LCode.region ?_|refine LCode.seq ?_|refine LCode.skip ?_|refine QBlock.normal ?_);exact h ()):P:=t fun _=>h
theorem giu {P Q:Prop} (h:Q) (t:(Unit→Q)→P:=by intro h;(repeat first|refine qN ?_|refine LOps.nil ?_|refine LCode.region ?_|refine LCode.seq ?_|refine oP (pM (lv:=.atom _) rfl) rfl ?_|refine oP (pA (lv:=.atom _) rfl) rfl ?_|refine LCode.ret ?_|refine QThen.ret ?_|refine QBlock.ret ?_|refine oS (sS (cs':=[_,_,_]) rfl pH rfl rfl rfl rfl rfl ?_) rfl|refine oP (Pure.slen rfl) rfl ?_|refine oP (pB _ (cs:=[_,_,_]) rfl) rfl ?_);exact h ()):P:=t fun _=>h
theorem giv {P Q:Prop} (h:Q) (t:(Unit→Q)→P:=by intro h;(repeat first|refine qN ?_|refine LOps.nil ?_|refine LCode.region ?_|refine LCode.seq ?_|refine oP (pA (lv:=.atom _) rfl) rfl ?_|refine LCode.ret ?_|refine LCode.exit ?_|refine QBlock.hit ?_|refine QThen.exit ?_|refine oS (sS (cs':=[_,_,_]) rfl pH rfl rfl rfl rfl rfl ?_) rfl|refine oP (pB _ (cs:=[_,_,_]) rfl) rfl ?_);exact h ()):P:=t fun _=>h
theorem giw {P Q:Prop} (h:Q) (t:(Unit→Q)→P:=by intro h;(repeat first|refine qN ?_|refine LOps.nil ?_|refine LCode.region ?_|refine LCode.seq ?_|refine oP (pM (lv:=.atom _) rfl) rfl ?_|refine oP (Pure.sneq rfl rfl) rfl ?_);exact h ()):P:=t fun _=>h
theorem gix {P Q:Prop} (h:Q) (t:(Unit→Q)→P:=by intro h;(repeat first|refine qN ?_|refine LOps.nil ?_|refine LCode.region ?_|refine LCode.seq ?_|refine oP (pM (lv:=.atom _) rfl) rfl ?_|refine LCode.skip ?_|refine oP (pF rfl) rfl ?_|refine oS (sS (cs':=[_,_,_]) rfl pH rfl rfl rfl rfl rfl ?_) rfl);exact h ()):P:=t fun _=>h
theorem giy {P Q:Prop} (h:Q) (t:(Unit→Q)→P:=by intro h;(repeat first|refine oP (pG (cs':=[_,_,_]) rfl (List.Mem.head _) rfl rfl) rfl ?_);exact h ()):P:=t fun _=>h
theorem giz {P Q:Prop} (h:Q) (t:(Unit→Q)→P:=by intro h;(repeat first|refine qN ?_|refine LQ.nil ?_|refine qP (pF rfl) rfl ?_|refine qP (pL (c:=.atom _) rfl (List.Mem.head _) rfl) rfl ?_|refine qP (pL (c:=.list _) rfl (List.Mem.head _) rfl) rfl ?_|refine qP (pM (lv:=.atom _) rfl) rfl ?_|refine qP (pN rfl) rfl ?_|refine qP (Pure.llen rfl) rfl ?_|refine qP (Pure.geq rfl rfl) rfl ?_);exact h ()):P:=t fun _=>h
theorem gi0 {P Q:Prop} (h:Q) (t:(Unit→Q)→P:=by intro h;(repeat first|refine qN ?_|refine LCode.region ?_|refine LCode.seq ?_|refine oP (pM (lv:=.atom _) rfl) rfl ?_|refine oP (pF rfl) rfl ?_|refine oP (pL (c:=.atom _) rfl (List.Mem.head _) rfl) rfl ?_|refine oP (Pure.eql rfl rfl) rfl ?_);exact h ()):P:=t fun _=>h
theorem gi1 {P Q:Prop} (h:Q) (t:(Unit→Q)→P:=by intro h;(repeat first|refine oP (pM (lv:=.atom _) rfl) rfl ?_|refine LOps.want rfl rfl ?_|refine oP (pF rfl) rfl ?_|refine oP (Pure.pickT (lv:=.atom _) rfl rfl) rfl ?_|refine LOps.skip rfl rfl rfl rfl ?_|refine oP (pL (c:=.atom _) rfl (List.Mem.head _) rfl) rfl ?_|refine oP (pM (lv:=.list _) rfl) rfl ?_);exact h ()):P:=t fun _=>h
theorem gi2 {P Q:Prop} (h:Q) (t:(Unit→Q)→P:=by intro h;(repeat first|refine oP (pM (lv:=.atom _) rfl) rfl ?_|refine LOps.want rfl rfl ?_|refine oP (pF rfl) rfl ?_|refine oP (Pure.pickF (lv:=.atom _) rfl rfl) rfl ?_|refine oP (pL (c:=.atom _) rfl (List.Mem.head _) rfl) rfl ?_|refine oP (Pure.eql rfl rfl) rfl ?_);exact h ()):P:=t fun _=>h
theorem gi3 {P Q:Prop} (h:Q) (t:(Unit→Q)→P:=by intro h;(repeat first|refine LOps.want rfl rfl ?_|refine oP (pF rfl) rfl ?_|refine oP (pL (c:=.atom _) rfl (List.Mem.head _) rfl) rfl ?_|refine oP (pM (lv:=.list _) rfl) rfl ?_);exact h ()):P:=t fun _=>h
theorem gi4 {P Q:Prop} (h:Q) (t:(Unit→Q)→P:=by intro h;(repeat first|refine qN ?_|refine LOps.nil ?_|refine LCode.region ?_|refine LCode.seq ?_|refine oP (pM (lv:=.atom _) rfl) rfl ?_|refine oP (pA (lv:=.atom _) rfl) rfl ?_|refine oP (pF rfl) rfl ?_|refine oP (Pure.llen rfl) rfl ?_|refine oP (pL (c:=.list _) rfl (List.Mem.head _) rfl) rfl ?_|refine oP (pN rfl) rfl ?_|refine oP (Pure.gtr rfl rfl) rfl ?_);exact h ()):P:=t fun _=>h
theorem gi5 {P Q:Prop} (h:Q) (t:(Unit→Q)→P:=by intro h;(repeat first|refine qP (pF rfl) rfl ?_|refine qP (pL (c:=.atom _) rfl (List.Mem.head _) rfl) rfl ?_|refine qP (pL (c:=.list _) rfl (List.Mem.head _) rfl) rfl ?_|refine qP (pM (lv:=.atom _) rfl) rfl ?_|refine qP (pN rfl) rfl ?_|refine qP (Pure.sub rfl rfl (by omega)) rfl ?_|refine qP (Pure.minI rfl rfl) rfl ?_);exact h ()):P:=t fun _=>h
theorem gi6 {P Q:Prop} (h:Q) (t:(Unit→Q)→P:=by intro h;(repeat first|refine qN ?_|refine LOps.nil ?_|refine LCode.region ?_|refine LCode.seq ?_|refine oP (pM (lv:=.atom _) rfl) rfl ?_|refine oP (pA (lv:=.atom _) rfl) rfl ?_|refine LCode.ret ?_|refine LCode.skip ?_|refine oP (pF rfl) rfl ?_|refine oP (pL (c:=.atom _) rfl (List.Mem.head _) rfl) rfl ?_|refine oP (Pure.add rfl rfl (by omega)) rfl ?_|refine oP (pN rfl) rfl ?_|refine oS (sS (cs':=[_,_,_]) rfl pH rfl rfl rfl rfl rfl ?_) rfl);exact h ()):P:=t fun _=>h
theorem gi7 {P Q:Prop} (h:Q) (t:(Unit→Q)→P:=by intro h;(repeat first|refine qP (pF rfl) rfl ?_|refine qP (pL (c:=.atom _) rfl (List.Mem.head _) rfl) rfl ?_|refine qP (pL (c:=.list _) rfl (List.Mem.head _) rfl) rfl ?_|refine qP (pM (lv:=.atom _) rfl) rfl ?_|refine qP (pN rfl) rfl ?_|refine qP (Pure.llen rfl) rfl ?_|refine qP (Pure.geq rfl rfl) rfl ?_);exact h ()):P:=t fun _=>h
theorem gi8 {P Q:Prop} (h:Q) (t:(Unit→Q)→P:=by intro h;(repeat first|refine qN ?_|refine LQ.nil ?_|refine qP (Pure.pickT (lv:=.atom _) rfl rfl) rfl ?_|refine LQ.skip rfl rfl rfl rfl ?_);exact h ()):P:=t fun _=>h
theorem gi9 {P Q:Prop} (h:Q) (t:(Unit→Q)→P:=by intro h;(repeat first|refine qN ?_|refine LQ.nil ?_|refine qP (pM (lv:=.atom _) rfl) rfl ?_|refine qP (pO (c:=.atom _) rfl rfl) rfl ?_|refine qP (Pure.field1 rfl rfl) rfl ?_|refine LQ.want rfl rfl ?_|refine qP (Pure.pickF (lv:=.atom _) rfl rfl) rfl ?_|refine qP (Pure.neq rfl rfl) rfl ?_);exact h ()):P:=t fun _=>h
theorem gja {P Q:Prop} (h:Q) (t:(Unit→Q)→P:=by intro h;(repeat first|refine qP (pF rfl) rfl ?_|refine qP (pL (c:=.atom _) rfl (List.Mem.head _) rfl) rfl ?_|refine qP (pL (c:=.list _) rfl (List.Mem.head _) rfl) rfl ?_|refine qP (pM (lv:=.atom _) rfl) rfl ?_|refine qP (pN rfl) rfl ?_|refine qP (Pure.sub rfl rfl (by omega)) rfl ?_);exact h ()):P:=t fun _=>h
theorem gjb {P Q:Prop} (h:Q) (t:(Unit→Q)→P:=by intro h;(repeat first|refine LCode.ret ?_);exact h ()):P:=t fun _=>h
theorem gjc {P Q:Prop} (h:Q) (t:(Unit→Q)→P:=by intro h;(repeat first|refine qN ?_|refine LOps.nil ?_|refine LCode.region ?_|refine LCode.seq ?_|refine oP (pM (lv:=.atom _) rfl) rfl ?_|refine LCode.skip ?_|refine oP (pF rfl) rfl ?_|refine oP (pL (c:=.atom _) rfl (List.Mem.head _) rfl) rfl ?_|refine oP (pN rfl) rfl ?_|refine oP (Pure.geq rfl rfl) rfl ?_);exact h ()):P:=t fun _=>h
theorem gjd {P Q:Prop} (h:Q) (t:(Unit→Q)→P:=by intro h;(repeat first|refine qN ?_|refine LOps.nil ?_|refine LCode.region ?_|refine oP (pM (lv:=.atom _) rfl) rfl ?_|refine oP (pF rfl) rfl ?_|refine oP (pL (c:=.atom _) rfl (List.Mem.head _) rfl) rfl ?_|refine oP (pN rfl) rfl ?_|refine oS (sS (cs':=[_,_,_]) rfl pH rfl rfl rfl rfl rfl ?_) rfl|refine oP (Pure.sub rfl rfl (by omega)) rfl ?_);exact h ()):P:=t fun _=>h
theorem gje {P Q:Prop} (h:Q) (t:(Unit→Q)→P:=by intro h;(repeat first|refine qN ?_|refine LOps.nil ?_|refine LCode.region ?_|refine LCode.seq ?_|refine oP (pM (lv:=.atom _) rfl) rfl ?_|refine oP (pA (lv:=.atom _) rfl) rfl ?_|refine LCode.ret ?_|refine oP (Pure.extract (c:=.atom _) rfl rfl) rfl ?_|refine oP (pM (lv:=.tuple _) rfl) rfl ?_|refine oP (Pure.cvt rfl) rfl ?_);exact h ()):P:=t fun _=>h
theorem gjf {P Q:Prop} (h:Q) (t:(Unit→Q)→P:=by intro h;(repeat first|refine qN ?_|refine LOps.nil ?_|refine LCode.seq ?_|refine LCode.block ?_|refine oP (pA (lv:=.app _ _ _ _) rfl) rfl ?_);exact h ()):P:=t fun _=>h
theorem gjg {P Q:Prop} (h:Q) (t:(Unit→Q)→P:=by intro h;(repeat first|refine qN ?_|refine LOps.nil ?_|refine oP (Pure.gtr rfl rfl) rfl ?_);exact h ()):P:=t fun _=>h
theorem gjh {P Q:Prop} (h:Q) (t:(Unit→Q)→P:=by intro h;(repeat first|refine qN ?_|refine LOps.nil ?_|refine LCode.region ?_);exact h ()):P:=t fun _=>h
theorem gji {P Q:Prop} (h:Q) (t:(Unit→Q)→P:=by intro h;(repeat first|refine qN ?_|refine LCode.region ?_|refine LCode.skip ?_);exact h ()):P:=t fun _=>h
theorem gjj {P Q:Prop} (h:Q) (t:(Unit→Q)→P:=by intro h;(repeat first|refine qN ?_|refine LOps.nil ?_|refine LCode.region ?_|refine LCode.seq ?_|refine LCode.ret ?_|refine QThen.ret ?_|refine oP (pG (cs':=[_,_,_,_]) rfl (List.Mem.tail _ (List.Mem.head _)) rfl rfl) rfl ?_|refine oS (sS (cs':=[_,_,_,_]) rfl (pT (pT pH)) rfl rfl rfl rfl rfl ?_) rfl);exact h ()):P:=t fun _=>h
theorem gjk {P Q:Prop} (h:Q) (t:(Unit→Q)→P:=by intro h;(repeat first|refine qP (pF rfl) rfl ?_|refine qP (pL (c:=.atom _) rfl (List.Mem.head _) rfl) rfl ?_|refine qP (pL (c:=.list _) rfl (List.Mem.head _) rfl) rfl ?_|refine qP (pM (lv:=.atom _) rfl) rfl ?_|refine qP (pN rfl) rfl ?_|refine qP (Pure.llen rfl) rfl ?_|refine qP (Pure.lss rfl rfl) rfl ?_);exact h ()):P:=t fun _=>h
theorem gjl {P Q:Prop} (h:Q) (t:(Unit→Q)→P:=by intro h;(repeat first|refine qN ?_|refine LQ.nil ?_|refine qP (pO (c:=.atom _) rfl rfl) rfl ?_|refine qP (Pure.field1 rfl rfl) rfl ?_|refine LQ.want rfl rfl ?_|refine qP (Pure.pickT (lv:=.atom _) rfl rfl) rfl ?_|refine qP (Pure.eql rfl rfl) rfl ?_);exact h ()):P:=t fun _=>h
theorem gjm {P Q:Prop} (h:Q) (t:(Unit→Q)→P:=by intro h;(repeat first|refine qN ?_|refine LQ.nil ?_|refine qP (Pure.pickF (lv:=.atom _) rfl rfl) rfl ?_|refine LQ.skip rfl rfl rfl rfl ?_);exact h ()):P:=t fun _=>h
theorem gjn {P Q:Prop} (h:Q) (t:(Unit→Q)→P:=by intro h;(repeat first|refine qN ?_|refine LOps.nil ?_|refine LCode.ret ?_|refine QThen.ret ?_|refine oP (pB _ (cs:=[_,_,_,_]) rfl) rfl ?_|refine oS (sS (cs':=[_,_,_,_]) rfl (pT pH) rfl rfl rfl rfl rfl ?_) rfl);exact h ()):P:=t fun _=>h
theorem gjo {P Q:Prop} (h:Q) (t:(Unit→Q)→P:=by intro h;(repeat first|refine qN ?_|refine LOps.nil ?_|refine LCode.region ?_|refine LCode.seq ?_|refine oP (pM (lv:=.atom _) rfl) rfl ?_|refine LCode.ret ?_|refine LCode.skip ?_|refine QBlock.normal ?_|refine oP (pB _ (cs:=[_,_,_,_]) rfl) rfl ?_|refine oS (sS (cs':=[_,_,_,_]) rfl (pT pH) rfl rfl rfl rfl rfl ?_) rfl);exact h ()):P:=t fun _=>h
theorem gjp {P Q:Prop} (h:Q) (t:(Unit→Q)→P:=by intro h;(repeat first|refine qN ?_|refine LOps.nil ?_|refine LCode.region ?_|refine LCode.seq ?_|refine oP (pL (c:=.atom _) rfl (List.Mem.tail _ (List.Mem.tail _ (List.Mem.head _))) rfl) rfl ?_);exact h ()):P:=t fun _=>h
theorem gjq {P Q:Prop} (h:Q) (t:(Unit→Q)→P:=by intro h;(repeat first|refine qN ?_|refine LOps.nil ?_|refine LCode.seq ?_|refine LCode.block ?_|refine oS (sS (cs':=[_,_,_,_]) rfl pH rfl rfl rfl rfl rfl ?_) rfl);exact h ()):P:=t fun _=>h
theorem gjr {P Q:Prop} (h:Q) (t:(Unit→Q)→P:=by intro h;(repeat first|refine LCode.region ?_|refine LCode.seq ?_|refine oP (pL (c:=.atom _) rfl (List.Mem.tail _ (List.Mem.tail _ (List.Mem.tail _ (List.Mem.tail _ (List.Mem.head _))))) rfl) rfl ?_|refine oP (pL (c:=.list _) rfl (List.Mem.tail _ (List.Mem.tail _ (List.Mem.tail _ (List.Mem.tail _ (List.Mem.tail _ (List.Mem.head _)))))) rfl) rfl ?_);exact h ()):P:=t fun _=>h
theorem gjs {P Q:Prop} (h:Q) (t:(Unit→Q)→P:=by intro h;(repeat first|refine qP (pF rfl) rfl ?_|refine qP (pL (c:=.atom _) rfl (List.Mem.head _) rfl) rfl ?_|refine qP (pL (c:=.list _) rfl (List.Mem.head _) rfl) rfl ?_|refine qP (pN rfl) rfl ?_|refine qP (pL (c:=.atom _) rfl (List.Mem.tail _ (List.Mem.tail _ (List.Mem.tail _ (List.Mem.tail _ (List.Mem.head _))))) rfl) rfl ?_);exact h ()):P:=t fun _=>h
theorem gjt {P Q:Prop} (h:Q) (t:(Unit→Q)→P:=by intro h;(repeat first|refine qN ?_|refine LOps.nil ?_|refine LCode.region ?_|refine LCode.seq ?_|refine oP (pF rfl) rfl ?_|refine oP (pL (c:=.atom _) rfl (List.Mem.head _) rfl) rfl ?_|refine oP (Pure.add rfl rfl (by omega)) rfl ?_|refine oP (pN rfl) rfl ?_|refine oS (sS (cs':=[_,_,_]) rfl pH rfl rfl rfl rfl rfl ?_) rfl|refine oP (pL (c:=.atom _) rfl (List.Mem.tail _ (List.Mem.tail _ (List.Mem.tail _ (List.Mem.tail _ (List.Mem.head _))))) rfl) rfl ?_);exact h ()):P:=t fun _=>h
theorem gju {P Q:Prop} (h:Q) (t:(Unit→Q)→P:=by intro h;(repeat first|refine qN ?_|refine LOps.nil ?_|refine LCode.region ?_|refine LCode.seq ?_|refine LCode.ret ?_|refine LCode.exit ?_|refine QBlock.hit ?_|refine QThen.exit ?_|refine oP (pG (cs':=[_,_,_,_]) rfl (List.Mem.tail _ (List.Mem.head _)) rfl rfl) rfl ?_|refine oS (sS (cs':=[_,_,_,_]) rfl (pT (pT pH)) rfl rfl rfl rfl rfl ?_) rfl);exact h ()):P:=t fun _=>h
theorem gjv {P Q:Prop} (h:Q) (t:(Unit→Q)→P:=by intro h;(repeat first|refine qN ?_|refine LOps.nil ?_|refine LCode.region ?_|refine LCode.seq ?_|refine oP (pA (lv:=.atom _) rfl) rfl ?_|refine LCode.block ?_|refine oP (Pure.llen rfl) rfl ?_|refine oP (pL (c:=.list _) rfl (List.Mem.head _) rfl) rfl ?_|refine oP (Pure.sub rfl rfl (by omega)) rfl ?_);exact h ()):P:=t fun _=>h
theorem gjw {P Q:Prop} (h:Q) (t:(Unit→Q)→P:=by intro h;(repeat first|refine LOpsW.pure (pL (c:=.list _) rfl (List.Mem.head _) rfl) rfl ?_|refine LOpsW.pure (pM (lv:=.atom _) rfl) rfl ?_);exact h ()):P:=t fun _=>h
theorem gjx {P Q:Prop} (h:Q) (t:(Unit→Q)→P:=by intro h;(repeat first|refine LOpsW.pure (pO (c:=.list _) rfl rfl) rfl ?_);exact h ()):P:=t fun _=>h
theorem gjy {P Q:Prop} (h:Q) (t:(Unit→Q)→P:=by intro h;(repeat first|refine LOpsW.pure (Pure.not rfl) rfl ?_);exact h ()):P:=t fun _=>h
theorem gjz {P Q:Prop} (h:Q) (t:(Unit→Q)→P:=by intro h;(repeat first|refine qN ?_|refine LOps.nil ?_|refine LCode.region ?_|refine oP (pM (lv:=.atom _) rfl) rfl ?_|refine oP (pA (lv:=.atom _) rfl) rfl ?_|refine LCode.skip ?_|refine QBlock.normal ?_|refine oP (Pure.sub rfl rfl (by omega)) rfl ?_);exact h ()):P:=t fun _=>h
theorem gj0 {P Q:Prop} (h:Q) (t:(Unit→Q)→P:=by intro h;(repeat first|refine qN ?_|refine LOps.nil ?_|refine LCode.region ?_|refine LCode.seq ?_|refine oP (pL (c:=.atom _) rfl (List.Mem.tail _ (List.Mem.head _)) rfl) rfl ?_|refine oP (Pure.makeFunc rfl rfl) rfl ?_);exact h ()):P:=t fun _=>h
theorem gj1 {P Q:Prop} (h:Q) (t:(Unit→Q)→P:=by intro h;(repeat first|refine qN ?_|refine LOps.nil ?_|refine LCode.region ?_|refine LCode.seq ?_|refine oS (sS (cs':=[_]) rfl pH rfl rfl rfl rfl rfl ?_) rfl);exact h ()):P:=t fun _=>h
theorem gj2 {P Q:Prop} (h:Q) (t:(Unit→Q)→P:=by intro h;(repeat first|refine qN ?_|refine LOps.nil ?_|refine oP (pA (lv:=.list _) rfl) rfl ?_);exact h ()):P:=t fun _=>h
theorem gj3 {P Q:Prop} (h:Q) (t:(Unit→Q)→P:=by intro h;(repeat first|refine oP (pM (lv:=.atom _) rfl) rfl ?_|refine oP (Pure.eql rfl rfl) rfl ?_|refine oP (pM (lv:=.list _) rfl) rfl ?_|refine oP (pL (c:=.atom _) rfl (List.Mem.tail _ (List.Mem.tail _ (List.Mem.tail _ (List.Mem.tail _ (List.Mem.head _))))) rfl) rfl ?_|refine oP (pL (c:=.atom _) rfl (List.Mem.tail _ (List.Mem.tail _ (List.Mem.head _))) rfl) rfl ?_);exact h ()):P:=t fun _=>h
theorem gj4 {P Q:Prop} (h:Q) (t:(Unit→Q)→P:=by intro h;(repeat first|refine qN ?_|refine LOps.nil ?_|refine oS (sS (cs':=[_]) rfl (pT (pT (pT (pT (pT (pT pH)))))) rfl rfl rfl rfl rfl ?_) rfl);exact h ()):P:=t fun _=>h
theorem gj5 {P Q:Prop} (h:Q) (t:(Unit→Q)→P:=by intro h;(repeat first|refine qN ?_|refine LCode.seq ?_|refine QBlock.normal ?_);exact h ()):P:=t fun _=>h
theorem gj6 {P Q:Prop} (h:Q) (t:(Unit→Q)→P:=by intro h;(repeat first|refine LCode.region ?_|refine oP (pL (c:=.atom _) rfl (List.Mem.tail _ (List.Mem.head _)) rfl) rfl ?_);exact h ()):P:=t fun _=>h
theorem gj7 {P Q:Prop} (h:Q) (t:(Unit→Q)→P:=by intro h;(repeat first|refine qN ?_|refine LOps.nil ?_|refine LCode.region ?_|refine LCode.seq ?_|refine oP (pM (lv:=.atom _) rfl) rfl ?_|refine oP (pA (lv:=.list _) rfl) rfl ?_);exact h ()):P:=t fun _=>h
theorem gj8 {P Q:Prop} (h:Q) (t:(Unit→Q)→P:=by intro h;(repeat first|refine qN ?_|refine LOps.nil ?_|refine LCode.region ?_|refine LCode.seq ?_|refine LCode.ret ?_|refine oP (pM (lv:=.list _) rfl) rfl ?_|refine oP (pA (lv:=.list _) rfl) rfl ?_);exact h ()):P:=t fun _=>h
theorem gj9 {P Q:Prop} (h:Q) (t:(Unit→Q)→P:=by intro h;(repeat first|refine qN ?_|refine LOps.nil ?_|refine LCode.ret ?_|refine QThen.ret ?_|refine QBlock.ret ?_|refine oS (sS (cs':=[_,_,_,_,_,_]) rfl (pT pH) rfl rfl rfl rfl rfl ?_) rfl|refine oP (pB _ (cs:=[_,_,_,_,_,_]) rfl) rfl ?_);exact h ()):P:=t fun _=>h
theorem gka {P Q:Prop} (h:Q) (t:(Unit→Q)→P:=by intro h;(repeat first|refine qN ?_|refine LOps.nil ?_|refine LCode.region ?_|refine LCode.seq ?_|refine LCode.ret ?_|refine QThen.ret ?_|refine QBlock.ret ?_|refine oS (sS (cs':=[_,_,_,_,_,_]) rfl (pT pH) rfl rfl rfl rfl rfl ?_) rfl|refine oP (pB _ (cs:=[_,_,_,_,_,_]) rfl) rfl ?_);exact h ()):P:=t fun _=>h
theorem gkb {P Q:Prop} (h:Q) (t:(Unit→Q)→P:=by intro h;(repeat first|refine qN ?_|refine LOps.nil ?_|refine LCode.region ?_|refine LCode.seq ?_|refine oP (pM (lv:=.atom _) rfl) rfl ?_|refine oP (pA (lv:=.atom _) rfl) rfl ?_|refine oP (pB _ (cs:=[_,_,_,_,_,_]) rfl) rfl ?_);exact h ()):P:=t fun _=>h
theorem gkc {P Q:Prop} (h:Q) (t:(Unit→Q)→P:=by intro h;(repeat first|refine qN ?_|refine LOps.nil ?_|refine LCode.region ?_|refine LCode.seq ?_|refine oP (pM (lv:=.atom _) rfl) rfl ?_|refine LCode.block ?_|refine oS (sS (cs':=[_,_,_,_,_,_]) rfl pH rfl rfl rfl rfl rfl ?_) rfl);exact h ()):P:=t fun _=>h
theorem gkd {P Q:Prop} (h:Q) (t:(Unit→Q)→P:=by intro h;(repeat first|refine qN ?_|refine LOps.nil ?_|refine LCode.ret ?_|refine QThen.ret ?_|refine QBlock.ret ?_|refine oP (pB _ (cs:=[_,_,_,_,_,_]) rfl) rfl ?_|refine oS (sS (cs':=[_,_,_,_,_,_]) rfl (pT (pT pH)) rfl rfl rfl rfl rfl ?_) rfl);exact h ()):P:=t fun _=>h
theorem gke {P Q:Prop} (h:Q) (t:(Unit→Q)→P:=by intro h;(repeat first|refine qN ?_|refine LOps.nil ?_|refine LCode.region ?_|refine LCode.seq ?_|refine oP (pM (lv:=.atom _) rfl) rfl ?_|refine oP (pF rfl) rfl ?_|refine QBlock.normal ?_|refine oS (sS (cs':=[_,_,_,_,_,_]) rfl (pT pH) rfl rfl rfl rfl rfl ?_) rfl|refine oS (sS (cs':=[_,_,_,_,_,_]) rfl pH rfl rfl rfl rfl rfl ?_) rfl);exact h ()):P:=t fun _=>h
theorem gkf {P Q:Prop} (h:Q) (t:(Unit→Q)→P:=by intro h;(repeat first|refine qN ?_|refine LOps.nil ?_|refine LCode.region ?_|refine LCode.seq ?_|refine oP (pM (lv:=.atom _) rfl) rfl ?_|refine oP (pF rfl) rfl ?_|refine oS (sS (cs':=[_,_,_,_,_,_]) rfl (pT pH) rfl rfl rfl rfl rfl ?_) rfl);exact h ()):P:=t fun _=>h
theorem gkg {P Q:Prop} (h:Q) (t:(Unit→Q)→P:=by intro h;(repeat first|refine qN ?_|refine LOps.nil ?_|refine LCode.region ?_|refine LCode.seq ?_|refine LCode.ret ?_|refine LCode.skip ?_|refine QThen.ret ?_|refine QBlock.ret ?_|refine oS (sS (cs':=[_,_,_,_,_,_]) rfl (pT (pT pH)) rfl rfl rfl rfl rfl ?_) rfl|refine oP (pG (cs':=[_,_,_,_,_,_]) rfl (List.Mem.tail _ (List.Mem.head _)) rfl rfl) rfl ?_);exact h ()):P:=t fun _=>h
theorem gkh {P Q:Prop} (h:Q) (t:(Unit→Q)→P:=by intro h;(repeat first|refine qN ?_|refine LOps.nil ?_|refine LCode.region ?_|refine LCode.seq ?_|refine LCode.ret ?_|refine oS (sS (cs':=[_,_,_,_,_,_]) rfl (pT (pT pH)) rfl rfl rfl rfl rfl ?_) rfl|refine oP (pG (cs':=[_,_,_,_,_,_]) rfl (List.Mem.tail _ (List.Mem.head _)) rfl rfl) rfl ?_);exact h ()):P:=t fun _=>h
theorem gki {P Q:Prop} (h:Q) (t:(Unit→Q)→P:=by intro h;(repeat first|refine oP (pB _ (cs:=[_,_]) rfl) rfl ?_);exact h ()):P:=t fun _=>h
theorem gkj {P Q:Prop} (h:Q) (t:(Unit→Q)→P:=by intro h;(repeat first|refine qN ?_|refine LOps.nil ?_|refine LCode.region ?_|refine LCode.seq ?_|refine oP (pM (lv:=.atom _) rfl) rfl ?_|refine oS (sS (cs':=[_,_]) rfl pH rfl rfl rfl rfl rfl ?_) rfl);exact h ()):P:=t fun _=>h
theorem gkk {P Q:Prop} (h:Q) (t:(Unit→Q)→P:=by intro h;(repeat first|refine qN ?_|refine LOps.nil ?_|refine LCode.region ?_|refine LCode.seq ?_|refine oP (pM (lv:=.atom _) rfl) rfl ?_|refine oP (pF rfl) rfl ?_|refine oP (Pure.cvt rfl) rfl ?_|refine oS (sS (cs':=[_,_]) rfl (pT pH) rfl rfl rfl rfl rfl ?_) rfl);exact h ()):P:=t fun _=>h
theorem gkl {P Q:Prop} (h:Q) (t:(Unit→Q)→P:=by intro h;(repeat first|refine qN ?_|refine LOps.nil ?_|refine LCode.region ?_|refine LCode.seq ?_|refine LCode.ret ?_|refine oP (pG (cs':=[_,_]) rfl (List.Mem.tail _ (List.Mem.head _)) rfl rfl) rfl ?_|refine oS (sS (cs':=[_,_]) rfl (pT (pT pH)) rfl rfl rfl rfl rfl ?_) rfl);exact h ()):P:=t fun _=>h
theorem gkm {P Q:Prop} (h:Q) (t:(Unit→Q)→P:=by intro h;(repeat first|refine qN ?_|refine LOps.nil ?_|refine oP (pF rfl) rfl ?_|refine oS (sS (cs':=[_,_,_,_]) rfl (pT pH) rfl rfl rfl rfl rfl ?_) rfl);exact h ()):P:=t fun _=>h
theorem gkn {P Q:Prop} (h:Q) (t:(Unit→Q)→P:=by intro h;(repeat first|refine qN ?_|refine LOps.nil ?_|refine LCode.seq ?_|refine LCode.block ?_);exact h ()):P:=t fun _=>h
theorem gko {P Q:Prop} (h:Q) (t:(Unit→Q)→P:=by intro h;(repeat first|refine qN ?_|refine LQ.nil ?_|refine qP (pF rfl) rfl ?_|refine qP (pL (c:=.atom _) rfl (List.Mem.head _) rfl) rfl ?_|refine qP (pL (c:=.list _) rfl (List.Mem.head _) rfl) rfl ?_|refine qP (pM (lv:=.atom _) rfl) rfl ?_|refine qP (pN rfl) rfl ?_|refine qP (Pure.llen rfl) rfl ?_|refine qP (Pure.lss rfl rfl) rfl ?_);exact h ()):P:=t fun _=>h
theorem gkp {P Q:Prop} (h:Q) (t:(Unit→Q)→P:=by intro h;(repeat first|refine qN ?_|refine LOps.nil ?_|refine LCode.region ?_|refine LCode.seq ?_|refine LCode.ret ?_|refine LCode.exit ?_|refine QBlock.hit ?_|refine QThen.exit ?_|refine oP (pG (cs':=[_,_,_]) rfl (List.Mem.head _) rfl rfl) rfl ?_|refine oS (sS (cs':=[_,_,_]) rfl (pT (pT pH)) rfl rfl rfl rfl rfl ?_) rfl);exact h ()):P:=t fun _=>h
theorem gkq {P Q:Prop} (h:Q) (t:(Unit→Q)→P:=by intro h;(repeat first|refine qN ?_|refine LOps.nil ?_|refine LCode.region ?_|refine LCode.seq ?_|refine oP (pM (lv:=.atom _) rfl) rfl ?_|refine oP (Pure.ifaceNeqNil rfl) rfl ?_);exact h ()):P:=t fun _=>h
theorem gkr {P Q:Prop} (h:Q) (t:(Unit→Q)→P:=by intro h;(repeat first|refine qN ?_|refine LOps.nil ?_|refine LCode.region ?_|refine LCode.seq ?_|refine oP (pM (lv:=.atom _) rfl) rfl ?_|refine oP (pA (lv:=.atom _) rfl) rfl ?_|refine oP (Pure.not rfl) rfl ?_|refine oS (sS (cs':=[_,_]) rfl pH rfl rfl rfl rfl rfl ?_) rfl);exact h ()):P:=t fun _=>h
theorem gks {P Q:Prop} (h:Q) (t:(Unit→Q)→P:=by intro h;(repeat first|refine LCode.region ?_|refine oP (pM (lv:=.list _) rfl) rfl ?_|refine oP (pB _ (cs:=[_,_,_]) rfl) rfl ?_);exact h ()):P:=t fun _=>h
theorem gkt {P Q:Prop} (h:Q) (t:(Unit→Q)→P:=by intro h;(repeat first|refine LOpsP.pure (pM (lv:=.atom _) rfl) rfl ?_);exact h ()):P:=t fun _=>h
theorem gku {P Q:Prop} (h:Q) (t:(Unit→Q)→P:=by intro h;(repeat first|refine oP (pB _ (cs:=[_,_,_,_,_,_,_]) rfl) rfl ?_);exact h ()):P:=t fun _=>h
theorem gkv {P Q:Prop} (h:Q) (t:(Unit→Q)→P:=by intro h;(repeat first|refine LOpsP.pure (pM (lv:=.atom _) rfl) rfl ?_|refine LOpsP.pure (pG (cs':=[_,_,_]) rfl (List.Mem.tail _ (List.Mem.tail _ (List.Mem.tail _ (List.Mem.tail _ (List.Mem.tail _ (List.Mem.tail _ (List.Mem.tail _ (List.Mem.head _)))))))) rfl rfl) rfl ?_);exact h ()):P:=t fun _=>h
theorem gkw {P Q:Prop} (h:Q) (t:(Unit→Q)→P:=by intro h;(repeat first|refine qN ?_|refine LOps.nil ?_|refine LOps.want rfl rfl ?_|refine oP (Pure.pickF (lv:=.atom _) rfl rfl) rfl ?_|refine oP (Pure.gtr rfl rfl) rfl ?_);exact h ()):P:=t fun _=>h
theorem gkx {P Q:Prop} (h:Q) (t:(Unit→Q)→P:=by intro h;(repeat first|refine qN ?_|refine LOps.nil ?_|refine LCode.region ?_|refine LCode.seq ?_|refine oP (pM (lv:=.atom _) rfl) rfl ?_|refine oP (pA (lv:=.atom _) rfl) rfl ?_|refine oP (Pure.slen rfl) rfl ?_|refine oP (Pure.sub rfl rfl (by omega)) rfl ?_|refine oP (Pure.sadd rfl rfl (by first|omega|(simp only[zLa,zLc,zLn];omega))) rfl ?_);exact h ()):P:=t fun _=>h
theorem gky {P Q:Prop} (h:Q) (t:(Unit→Q)→P:=by intro h;(repeat first|refine LCode.region ?_|refine LCode.seq ?_|refine oP (pM (lv:=.atom _) rfl) rfl ?_|refine LCode.block ?_);exact h ()):P:=t fun _=>h
theorem gkz {P Q:Prop} (h:Q) (t:(Unit→Q)→P:=by intro h;(repeat first|refine qN ?_|refine LOps.nil ?_|refine LCode.region ?_|refine LCode.seq ?_|refine oP (pM (lv:=.atom _) rfl) rfl ?_|refine oP (pA (lv:=.atom _) rfl) rfl ?_|refine oP (pO (c:=.atom _) rfl rfl) rfl ?_|refine oP (Pure.sneq rfl rfl) rfl ?_);exact h ()):P:=t fun _=>h
theorem gk0 {P Q:Prop} (h:Q) (t:(Unit→Q)→P:=by intro h;(repeat first|refine oP (pM (lv:=.atom _) rfl) rfl ?_|refine oP (Pure.add rfl rfl (by omega)) rfl ?_|refine oP (pB _ (cs:=[_,_]) rfl) rfl ?_);exact h ()):P:=t fun _=>h
theorem gk1 {P Q:Prop} (h:Q) (t:(Unit→Q)→P:=by intro h;(repeat first|refine qN ?_|refine QBlock.normal ?_|refine LCode.exit ?_|refine QBlock.hit ?_|refine QThen.exit ?_);exact h ()):P:=t fun _=>h
theorem gk2 {P Q:Prop} (h:Q) (t:(Unit→Q)→P:=by intro h;(repeat first|refine qN ?_|refine LOps.nil ?_|refine LCode.region ?_|refine oP (pM (lv:=.atom _) rfl) rfl ?_|refine oP (Pure.add rfl rfl (by omega)) rfl ?_);exact h ()):P:=t fun _=>h
theorem gk3 {P Q:Prop} (h:Q) (t:(Unit→Q)→P:=by intro h;(repeat first|refine qN ?_|refine LCode.region ?_|refine oP (pM (lv:=.atom _) rfl) rfl ?_|refine LCode.skip ?_);exact h ()):P:=t fun _=>h
theorem gk4 {P Q:Prop} (h:Q) (t:(Unit→Q)→P:=by intro h;(repeat first|refine qN ?_|refine LOps.nil ?_|refine LCode.region ?_|refine LCode.seq ?_|refine oP (pA (lv:=.atom _) rfl) rfl ?_|refine oP (pF rfl) rfl ?_|refine oP (pL (c:=.atom _) rfl (List.Mem.head _) rfl) rfl ?_|refine oP (pG (cs':=[_,_]) rfl (List.Mem.head _) rfl rfl) rfl ?_|refine oS (sS (cs':=[_,_]) rfl pH rfl rfl rfl rfl rfl ?_) rfl);exact h ()):P:=t fun _=>h
theorem gk5 {P Q:Prop} (h:Q) (t:(Unit→Q)→P:=by intro h;(repeat first|refine oP (Pure.add rfl rfl (by omega)) rfl ?_|refine oP (pB _ (cs:=[_,_]) rfl) rfl ?_);exact h ()):P:=t fun _=>h
theorem gk6 {P Q:Prop} (h:Q) (t:(Unit→Q)→P:=by intro h;(repeat first|refine qN ?_|refine LOps.nil ?_|refine LCode.region ?_|refine oP (pM (lv:=.atom _) rfl) rfl ?_|refine oP (Pure.add rfl rfl (by omega)) rfl ?_|refine LCode.exit ?_|refine QBlock.hit ?_|refine QThen.exit ?_);exact h ()):P:=t fun _=>h
theorem gk7 {P Q:Prop} (h:Q) (t:(Unit→Q)→P:=by intro h;(repeat first|refine qN ?_|refine LOps.nil ?_|refine LCode.region ?_|refine oP (pM (lv:=.atom _) rfl) rfl ?_|refine oP (Pure.slen rfl) rfl ?_|refine oP (Pure.sub rfl rfl (by omega)) rfl ?_);exact h ()):P:=t fun _=>h
theorem gk8 {P Q:Prop} (h:Q) (t:(Unit→Q)→P:=by intro h;(repeat first|refine qN ?_|refine LOps.nil ?_|refine oP (pA (lv:=.atom _) rfl) rfl ?_|refine LCode.ret ?_|refine oP (pM (lv:=.list _) rfl) rfl ?_|refine oP (pA (lv:=.list _) rfl) rfl ?_);exact h ()):P:=t fun _=>h
theorem gk9 {P Q:Prop} (h:Q) (t:(Unit→Q)→P:=by intro h;(repeat first|refine qN ?_|refine LOps.nil ?_|refine oP (pM (lv:=.atom _) rfl) rfl ?_|refine LOps.want rfl rfl ?_|refine oP (Pure.pickF (lv:=.atom _) rfl rfl) rfl ?_|refine oP (Pure.geq rfl rfl) rfl ?_);exact h ()):P:=t fun _=>h
theorem gla {P Q:Prop} (h:Q) (t:(Unit→Q)→P:=by intro h;(repeat first|refine qN ?_|refine LOps.nil ?_|refine LCode.region ?_|refine LCode.seq ?_|refine oP (pA (lv:=.atom _) rfl) rfl ?_|refine oP (Pure.extract (c:=.atom _) rfl rfl) rfl ?_|refine oP (pM (lv:=.tuple _) rfl) rfl ?_|refine oP (pA (lv:=.list _) rfl) rfl ?_|refine oP (Pure.extract (c:=.list _) rfl rfl) rfl ?_);exact h ()):P:=t fun _=>h
theorem glb {P Q:Prop} (h:Q) (t:(Unit→Q)→P:=by intro h;(repeat first|refine qN ?_|refine LOps.nil ?_|refine LCode.region ?_|refine oP (pM (lv:=.atom _) rfl) rfl ?_|refine oP (pF rfl) rfl ?_|refine oP (pL (c:=.atom _) rfl (List.Mem.head _) rfl) rfl ?_|refine oS (sS (cs':=[_,_]) rfl pH rfl rfl rfl rfl rfl ?_) rfl);exact h ()):P:=t fun _=>h
theorem glc {P Q:Prop} (h:Q) (t:(Unit→Q)→P:=by intro h;(repeat first|refine qN ?_|refine LCode.region ?_|refine LCode.seq ?_|refine oP (pM (lv:=.atom _) rfl) rfl ?_|refine LCode.exit ?_|refine QBlock.hit ?_|refine QThen.exit ?_|refine oP (pM (lv:=.list _) rfl) rfl ?_);exact h ()):P:=t fun _=>h
theorem gld {P Q:Prop} (h:Q) (t:(Unit→Q)→P:=by intro h;(repeat first|refine qN ?_|refine LOps.nil ?_|refine LCode.region ?_|refine LCode.seq ?_|refine oP (pM (lv:=.atom _) rfl) rfl ?_|refine oP (pA (lv:=.atom _) rfl) rfl ?_|refine oP (Pure.extract (c:=.atom _) rfl rfl) rfl ?_|refine oP (pM (lv:=.tuple _) rfl) rfl ?_|refine oP (pA (lv:=.list _) rfl) rfl ?_|refine oP (Pure.slen rfl) rfl ?_|refine oP (Pure.gtr rfl rfl) rfl ?_|refine oP (Pure.extract (c:=.list _) rfl rfl) rfl ?_);exact h ()):P:=t fun _=>h
theorem gle {P Q:Prop} (h:Q) (t:(Unit→Q)→P:=by intro h;(repeat first|refine qN ?_|refine LOps.nil ?_|refine LCode.region ?_|refine LCode.seq ?_|refine oP (pM (lv:=.atom _) rfl) rfl ?_|refine oP (pA (lv:=.atom _) rfl) rfl ?_|refine LCode.ret ?_|refine LCode.skip ?_|refine oP (pM (lv:=.list _) rfl) rfl ?_|refine oP (pA (lv:=.list _) rfl) rfl ?_);exact h ()):P:=t fun _=>h
theorem glf {P Q:Prop} (h:Q) (t:(Unit→Q)→P:=by intro h;(repeat first|refine LCode.region ?_|refine oP (pM (lv:=.atom _) rfl) rfl ?_|refine oP (pF rfl) rfl ?_|refine oP (pN rfl) rfl ?_);exact h ()):P:=t fun _=>h
theorem glg {P Q:Prop} (h:Q) (t:(Unit→Q)→P:=by intro h;(repeat first|refine qN ?_|refine LOps.nil ?_|refine LCode.region ?_|refine LCode.seq ?_|refine oP (pM (lv:=.atom _) rfl) rfl ?_|refine oP (pA (lv:=.atom _) rfl) rfl ?_|refine oP (pF rfl) rfl ?_|refine oP (pL (c:=.atom _) rfl (List.Mem.head _) rfl) rfl ?_|refine oP (Pure.add rfl rfl (by omega)) rfl ?_|refine oP (pN rfl) rfl ?_|refine oP (Pure.sadd rfl rfl (by first|omega|(simp only[zLa,zLc,zLn];omega))) rfl ?_);exact h ()):P:=t fun _=>h
theorem glh {P Q:Prop} (h:Q) (t:(Unit→Q)→P:=by intro h;(repeat first|refine qN ?_|refine LOps.nil ?_|refine LCode.region ?_|refine LCode.seq ?_|refine oP (pM (lv:=.atom _) rfl) rfl ?_|refine oP (pA (lv:=.atom _) rfl) rfl ?_|refine LCode.ret ?_);exact h ()):P:=t fun _=>h
theorem gli {P Q:Prop} (h:Q) (t:(Unit→Q)→P:=by intro h;(repeat first|refine qP (pF rfl) rfl ?_|refine qP (pL (c:=.atom _) rfl (List.Mem.head _) rfl) rfl ?_|refine qP (pM (lv:=.atom _) rfl) rfl ?_|refine qP (pN rfl) rfl ?_|refine qP (Pure.sadd rfl rfl (by first|omega|(simp only[zLa,zLc,zLn];omega))) rfl ?_);exact h ()):P:=t fun _=>h
theorem glj {P Q:Prop} (h:Q) (t:(Unit→Q)→P:=by intro h;(repeat first|refine qN ?_|refine LOps.nil ?_|refine oP (pA (lv:=.atom _) rfl) rfl ?_|refine LCode.ret ?_|refine QThen.ret ?_);exact h ()):P:=t fun _=>h
theorem glk {P Q:Prop} (h:Q) (t:(Unit→Q)→P:=by intro h;(repeat first|refine qN ?_|refine LCode.region ?_|refine LCode.seq ?_|refine oP (pM (lv:=.atom _) rfl) rfl ?_|refine LCode.skip ?_|refine oP (pF rfl) rfl ?_|refine oP (pL (c:=.atom _) rfl (List.Mem.head _) rfl) rfl ?_|refine oP (pN rfl) rfl ?_);exact h ()):P:=t fun _=>h
theorem gll {P Q:Prop} (h:Q) (t:(Unit→Q)→P:=by intro h;(repeat first|refine qN ?_|refine LOps.nil ?_|refine LCode.region ?_|refine LCode.seq ?_|refine oP (pM (lv:=.atom _) rfl) rfl ?_|refine oP (pA (lv:=.atom _) rfl) rfl ?_|refine oP (pF rfl) rfl ?_|refine oP (pL (c:=.atom _) rfl (List.Mem.head _) rfl) rfl ?_|refine oP (Pure.add rfl rfl (by omega)) rfl ?_|refine oP (pN rfl) rfl ?_);exact h ()):P:=t fun _=>h
theorem glm {P Q:Prop} (h:Q) (t:(Unit→Q)→P:=by intro h;(repeat first|refine qN ?_|refine LOps.nil ?_|refine LCode.region ?_|refine oP (pM (lv:=.atom _) rfl) rfl ?_|refine oP (pA (lv:=.atom _) rfl) rfl ?_);exact h ()):P:=t fun _=>h
theorem gln {P Q:Prop} (h:Q) (t:(Unit→Q)→P:=by intro h;(repeat first|refine qN ?_|refine LOps.nil ?_|refine LCode.region ?_|refine LCode.seq ?_|refine oP (pA (lv:=.atom _) rfl) rfl ?_|refine oP (pF rfl) rfl ?_|refine LCode.block ?_|refine oP (Pure.seq rfl rfl) rfl ?_|refine oP (pL (c:=.atom _) rfl (List.Mem.tail _ (List.Mem.head _)) rfl) rfl ?_|refine oP (Pure.makeFunc rfl rfl) rfl ?_);exact h ()):P:=t fun _=>h
theorem glo {P Q:Prop} (h:Q) (t:(Unit→Q)→P:=by intro h;(repeat first|refine qN ?_|refine LOps.nil ?_|refine LCode.region ?_|refine LCode.seq ?_|refine oP (pA (lv:=.atom _) rfl) rfl ?_|refine oP (pF rfl) rfl ?_|refine LCode.block ?_|refine oP (Pure.seq rfl rfl) rfl ?_|refine oP (pL (c:=.atom _) rfl (List.Mem.tail _ (List.Mem.head _)) rfl) rfl ?_);exact h ()):P:=t fun _=>h
theorem glp {P Q:Prop} (h:Q) (t:(Unit→Q)→P:=by intro h;(repeat first|refine qN ?_|refine LOps.nil ?_|refine LCode.region ?_|refine oP (pL (c:=.atom _) rfl (List.Mem.head _) rfl) rfl ?_);exact h ()):P:=t fun _=>h
theorem glq {P Q:Prop} (h:Q) (t:(Unit→Q)→P:=by intro h;(repeat first|refine LCode.region ?_|refine oP (pF rfl) rfl ?_|refine oP (pL (c:=.atom _) rfl (List.Mem.head _) rfl) rfl ?_|refine oP (pL (c:=.atom _) rfl (List.Mem.tail _ (List.Mem.head _)) rfl) rfl ?_);exact h ()):P:=t fun _=>h
theorem glr {P Q:Prop} (h:Q) (t:(Unit→Q)→P:=by intro h;(repeat first|refine LCode.region ?_|refine oP (pM (lv:=.atom _) rfl) rfl ?_|refine oP (pF rfl) rfl ?_|refine oP (pL (c:=.atom _) rfl (List.Mem.head _) rfl) rfl ?_|refine oP (Pure.cvt rfl) rfl ?_);exact h ()):P:=t fun _=>h
theorem gls {P Q:Prop} (h:Q) (t:(Unit→Q)→P:=by intro h;(repeat first|refine LCode.region ?_|refine oP (pM (lv:=.atom _) rfl) rfl ?_|refine oP (pF rfl) rfl ?_|refine oP (pL (c:=.atom _) rfl (List.Mem.head _) rfl) rfl ?_|refine oP (Pure.sadd rfl rfl (by first|omega|(simp only[zLa,zLc,zLn];omega))) rfl ?_);exact h ()):P:=t fun _=>h
theorem glt {P Q:Prop} (h:Q) (t:(Unit→Q)→P:=by intro h;(repeat first|refine LCode.region ?_|refine oP (pM (lv:=.atom _) rfl) rfl ?_|refine oP (pG (cs':=[_,_,_,_]) rfl (List.Mem.head _) rfl rfl) rfl ?_);exact h ()):P:=t fun _=>h
theorem glu {P Q:Prop} (h:Q) (t:(Unit→Q)→P:=by intro h;(repeat first|refine qN ?_|refine LOps.nil ?_|refine LCode.region ?_|refine LCode.seq ?_|refine oP (pA (lv:=.atom _) rfl) rfl ?_|refine oP (pF rfl) rfl ?_|refine oP (Pure.eql rfl rfl) rfl ?_|refine oP (Pure.llen rfl) rfl ?_|refine oP (pL (c:=.list _) rfl (List.Mem.head _) rfl) rfl ?_);exact h ()):P:=t fun _=>h
theorem glv {P Q:Prop} (h:Q) (t:(Unit→Q)→P:=by intro h;(repeat first|refine qN ?_|refine LOps.nil ?_|refine LCode.ret ?_|refine QThen.ret ?_);exact h ()):P:=t fun _=>h
theorem glw {P Q:Prop} (h:Q) (t:(Unit→Q)→P:=by intro h;(repeat first|refine qN ?_|refine LOps.nil ?_|refine LCode.region ?_|refine LCode.seq ?_|refine oP (pM (lv:=.atom _) rfl) rfl ?_|refine oP (pA (lv:=.atom _) rfl) rfl ?_|refine oP (pF rfl) rfl ?_|refine oP (pL (c:=.list _) rfl (List.Mem.head _) rfl) rfl ?_);exact h ()):P:=t fun _=>h
theorem glx {P Q:Prop} (h:Q) (t:(Unit→Q)→P:=by intro h;(repeat first|refine qN ?_|refine LOps.nil ?_|refine LCode.region ?_|refine LCode.seq ?_|refine oP (pM (lv:=.atom _) rfl) rfl ?_|refine oP (pA (lv:=.atom _) rfl) rfl ?_|refine oP (Pure.sadd rfl rfl (by first|omega|(simp only[zLa,zLc,zLn];omega))) rfl ?_);exact h ()):P:=t fun _=>h
theorem gly {P Q:Prop} (h:Q) (t:(Unit→Q)→P:=by intro h;(repeat first|refine qN ?_|refine LOps.nil ?_|refine LCode.region ?_|refine LCode.seq ?_|refine oP (pA (lv:=.atom _) rfl) rfl ?_|refine oP (pF rfl) rfl ?_|refine LCode.block ?_|refine oP (pL (c:=.atom _) rfl (List.Mem.head _) rfl) rfl ?_|refine oP (Pure.eql rfl rfl) rfl ?_|refine oS (sS (cs':=[_,_,_,_,_,_]) rfl pH rfl rfl rfl rfl rfl ?_) rfl);exact h ()):P:=t fun _=>h
theorem glz {P Q:Prop} (h:Q) (t:(Unit→Q)→P:=by intro h;(repeat first|refine qN ?_|refine LOps.nil ?_|refine LCode.region ?_|refine oP (pM (lv:=.atom _) rfl) rfl ?_|refine oP (pF rfl) rfl ?_|refine oP (pL (c:=.atom _) rfl (List.Mem.head _) rfl) rfl ?_);exact h ()):P:=t fun _=>h
theorem gl0 {P Q:Prop} (h:Q) (t:(Unit→Q)→P:=by intro h;(repeat first|refine qN ?_|refine LOps.nil ?_|refine LCode.region ?_|refine LCode.seq ?_|refine oP (pM (lv:=.atom _) rfl) rfl ?_|refine oP (pF rfl) rfl ?_|refine oP (pL (c:=.atom _) rfl (List.Mem.head _) rfl) rfl ?_|refine oP (pN rfl) rfl ?_|refine oS (sS (cs':=[_,_,_,_]) rfl pH rfl rfl rfl rfl rfl ?_) rfl);exact h ()):P:=t fun _=>h
theorem gl1 {P Q:Prop} (h:Q) (t:(Unit→Q)→P:=by intro h;(repeat first|refine qN ?_|refine LOps.nil ?_|refine LCode.region ?_|refine LCode.seq ?_|refine oP (pM (lv:=.atom _) rfl) rfl ?_|refine oP (pF rfl) rfl ?_|refine oP (pL (c:=.atom _) rfl (List.Mem.tail _ (List.Mem.head _)) rfl) rfl ?_|refine oP (Pure.sadd rfl rfl (by first|omega|(simp only[zLa,zLc,zLn];omega))) rfl ?_);exact h ()):P:=t fun _=>h
theorem gl2 {P Q:Prop} (h:Q) (t:(Unit→Q)→P:=by intro h;(repeat first|refine qN ?_|refine LOps.nil ?_|refine LCode.region ?_|refine LCode.seq ?_|refine oP (pA (lv:=.atom _) rfl) rfl ?_|refine oP (pF rfl) rfl ?_|refine LCode.block ?_|refine oP (Pure.llen rfl) rfl ?_|refine oP (pL (c:=.list _) rfl (List.Mem.head _) rfl) rfl ?_|refine oP (Pure.sub rfl rfl (by omega)) rfl ?_);exact h ()):P:=t fun _=>h
theorem gl3 {P Q:Prop} (h:Q) (t:(Unit→Q)→P:=by intro h;(repeat first|refine qN ?_|refine LOps.nil ?_|refine LCode.region ?_|refine oP (pM (lv:=.atom _) rfl) rfl ?_|refine oP (pA (lv:=.atom _) rfl) rfl ?_|refine QBlock.normal ?_|refine oP (Pure.sub rfl rfl (by omega)) rfl ?_);exact h ()):P:=t fun _=>h
theorem gl4 {P Q:Prop} (h:Q) (t:(Unit→Q)→P:=by intro h;(repeat first|refine qN ?_|refine LOps.nil ?_|refine LCode.region ?_|refine LCode.seq ?_|refine oP (pM (lv:=.atom _) rfl) rfl ?_|refine oP (pA (lv:=.atom _) rfl) rfl ?_|refine oP (pF rfl) rfl ?_|refine oP (pL (c:=.atom _) rfl (List.Mem.head _) rfl) rfl ?_|refine oP (Pure.geq rfl rfl) rfl ?_);exact h ()):P:=t fun _=>h
theorem gl5 {P Q:Prop} (h:Q) (t:(Unit→Q)→P:=by intro h;(repeat first|refine qN ?_|refine LOps.nil ?_|refine oP (pA (lv:=.atom _) rfl) rfl ?_|refine LCode.ret ?_|refine LOps.want rfl rfl ?_|refine oP (pF rfl) rfl ?_|refine oP (Pure.pickT (lv:=.atom _) rfl rfl) rfl ?_|refine oP (pL (c:=.atom _) rfl (List.Mem.head _) rfl) rfl ?_|refine oP (Pure.sub rfl rfl (by omega)) rfl ?_|refine oP (Pure.leq rfl rfl) rfl ?_);exact h ()):P:=t fun _=>h
theorem gl6 {P Q:Prop} (h:Q) (t:(Unit→Q)→P:=by intro h;(repeat first|refine qN ?_|refine LOps.nil ?_|refine LCode.region ?_|refine LCode.seq ?_|refine oP (pM (lv:=.atom _) rfl) rfl ?_|refine oP (pA (lv:=.atom _) rfl) rfl ?_|refine oP (pF rfl) rfl ?_|refine oP (Pure.gtr rfl rfl) rfl ?_|refine oP (pL (c:=.atom _) rfl (List.Mem.tail _ (List.Mem.head _)) rfl) rfl ?_);exact h ()):P:=t fun _=>h
theorem gl7 {P Q:Prop} (h:Q) (t:(Unit→Q)→P:=by intro h;(repeat first|refine oP (pM (lv:=.atom _) rfl) rfl ?_|refine LOps.want rfl rfl ?_|refine oP (pF rfl) rfl ?_|refine oP (Pure.pickT (lv:=.atom _) rfl rfl) rfl ?_|refine oP (pL (c:=.atom _) rfl (List.Mem.head _) rfl) rfl ?_|refine oP (Pure.gtr rfl rfl) rfl ?_);exact h ()):P:=t fun _=>h
theorem gl8 {P Q:Prop} (h:Q) (t:(Unit→Q)→P:=by intro h;(repeat first|refine oP (pM (lv:=.atom _) rfl) rfl ?_|refine LOps.want rfl rfl ?_|refine oP (pF rfl) rfl ?_|refine oP (Pure.pickT (lv:=.atom _) rfl rfl) rfl ?_|refine oP (pL (c:=.atom _) rfl (List.Mem.head _) rfl) rfl ?_|refine oP (Pure.add rfl rfl (by omega)) rfl ?_|refine oP (Pure.lss rfl rfl) rfl ?_|refine oP (pL (c:=.atom _) rfl (List.Mem.tail _ (List.Mem.head _)) rfl) rfl ?_);exact h ()):P:=t fun _=>h
theorem gl9 {P Q:Prop} (h:Q) (t:(Unit→Q)→P:=by intro h;(repeat first|refine qN ?_|refine LOps.nil ?_|refine oP (pA (lv:=.atom _) rfl) rfl ?_|refine LCode.ret ?_|refine LOps.want rfl rfl ?_|refine oP (pF rfl) rfl ?_|refine oP (Pure.pickT (lv:=.atom _) rfl rfl) rfl ?_|refine oP (pL (c:=.atom _) rfl (List.Mem.head _) rfl) rfl ?_|refine oP (Pure.add rfl rfl (by omega)) rfl ?_|refine oP (Pure.lss rfl rfl) rfl ?_|refine oP (pL (c:=.atom _) rfl (List.Mem.tail _ (List.Mem.head _)) rfl) rfl ?_);exact h ()):P:=t fun _=>h
theorem gma {P Q:Prop} (h:Q) (t:(Unit→Q)→P:=by intro h;(repeat first|refine qN ?_|refine LOps.nil ?_|refine LCode.region ?_|refine LCode.seq ?_|refine oP (pM (lv:=.atom _) rfl) rfl ?_|refine oP (pA (lv:=.atom _) rfl) rfl ?_|refine oP (pF rfl) rfl ?_|refine LCode.block ?_|refine oP (pL (c:=.atom _) rfl (List.Mem.head _) rfl) rfl ?_|refine oP (Pure.llen rfl) rfl ?_|refine oP (pL (c:=.list _) rfl (List.Mem.tail _ (List.Mem.head _)) rfl) rfl ?_);exact h ()):P:=t fun _=>h
theorem gmb {P Q:Prop} (h:Q) (t:(Unit→Q)→P:=by intro h;(repeat first|refine qN ?_|refine LOps.nil ?_|refine LCode.region ?_|refine LCode.seq ?_|refine oP (pM (lv:=.atom _) rfl) rfl ?_|refine oP (Pure.lss rfl rfl) rfl ?_|refine oS (sS (cs':=[_,_]) rfl pH rfl rfl rfl rfl rfl ?_) rfl);exact h ()):P:=t fun _=>h
theorem gmc {P Q:Prop} (h:Q) (t:(Unit→Q)→P:=by intro h;(repeat first|refine oP (pM (lv:=.atom _) rfl) rfl ?_|refine LOps.want rfl rfl ?_|refine oP (pF rfl) rfl ?_|refine oP (Pure.pickF (lv:=.atom _) rfl rfl) rfl ?_|refine oP (pL (c:=.atom _) rfl (List.Mem.head _) rfl) rfl ?_|refine oP (Pure.leq rfl rfl) rfl ?_);exact h ()):P:=t fun _=>h
theorem gmd {P Q:Prop} (h:Q) (t:(Unit→Q)→P:=by intro h;(repeat first|refine qN ?_|refine LOps.nil ?_|refine oP (pM (lv:=.atom _) rfl) rfl ?_|refine LOps.want rfl rfl ?_|refine oP (pF rfl) rfl ?_|refine oP (Pure.pickF (lv:=.atom _) rfl rfl) rfl ?_|refine oP (pL (c:=.atom _) rfl (List.Mem.head _) rfl) rfl ?_|refine oP (Pure.gtr rfl rfl) rfl ?_|refine oP (Pure.sub rfl rfl (by omega)) rfl ?_);exact h ()):P:=t fun _=>h
theorem gme {P Q:Prop} (h:Q) (t:(Unit→Q)→P:=by intro h;(repeat first|refine oP (pM (lv:=.atom _) rfl) rfl ?_|refine oP (pF rfl) rfl ?_|refine oP (pL (c:=.atom _) rfl (List.Mem.head _) rfl) rfl ?_|refine oP (pB _ (cs:=[_,_]) rfl) rfl ?_);exact h ()):P:=t fun _=>h
theorem gmf {P Q:Prop} (h:Q) (t:(Unit→Q)→P:=by intro h;(repeat first|refine qN ?_|refine LOps.nil ?_|refine LCode.region ?_|refine LCode.seq ?_|refine oP (pA (lv:=.atom _) rfl) rfl ?_|refine LCode.ret ?_|refine LCode.exit ?_|refine QBlock.hit ?_|refine QThen.exit ?_|refine oP (pM (lv:=.list _) rfl) rfl ?_|refine oP (pA (lv:=.list _) rfl) rfl ?_);exact h ()):P:=t fun _=>h
theorem gmg {P Q:Prop} (h:Q) (t:(Unit→Q)→P:=by intro h;(repeat first|refine qN ?_|refine LOps.nil ?_|refine LCode.region ?_|refine LCode.seq ?_|refine oP (pM (lv:=.atom _) rfl) rfl ?_|refine oP (pA (lv:=.atom _) rfl) rfl ?_|refine oP (pF rfl) rfl ?_|refine LCode.block ?_|refine oP (Pure.llen rfl) rfl ?_|refine oP (pL (c:=.list _) rfl (List.Mem.tail _ (List.Mem.head _)) rfl) rfl ?_);exact h ()):P:=t fun _=>h
theorem gmh {P Q:Prop} (h:Q) (t:(Unit→Q)→P:=by intro h;(repeat first|refine qN ?_|refine LOps.nil ?_|refine LCode.region ?_|refine oP (pM (lv:=.atom _) rfl) rfl ?_|refine oP (pA (lv:=.atom _) rfl) rfl ?_|refine oP (pF rfl) rfl ?_|refine QBlock.normal ?_|refine oP (pL (c:=.atom _) rfl (List.Mem.head _) rfl) rfl ?_|refine oP (Pure.add rfl rfl (by omega)) rfl ?_|refine oS (sS (cs':=[_,_]) rfl pH rfl rfl rfl rfl rfl ?_) rfl);exact h ()):P:=t fun _=>h
theorem gmi {P Q:Prop} (h:Q) (t:(Unit→Q)→P:=by intro h;(repeat first|refine qN ?_|refine LCode.seq ?_|refine LCode.exit ?_|refine QBlock.hit ?_|refine QThen.exit ?_);exact h ()):P:=t fun _=>h
theorem gmj {P Q:Prop} (h:Q) (t:(Unit→Q)→P:=by intro h;(repeat first|refine qN ?_|refine LOps.nil ?_|refine LCode.region ?_|refine LCode.seq ?_|refine oP (pA (lv:=.atom _) rfl) rfl ?_|refine oP (pG (cs':=[_,_]) rfl (List.Mem.head _) rfl rfl) rfl ?_|refine oS (sS (cs':=[_,_]) rfl pH rfl rfl rfl rfl rfl ?_) rfl);exact h ()):P:=t fun _=>h
theorem gmk {P Q:Prop} (h:Q) (t:(Unit→Q)→P:=by intro h;(repeat first|refine qN ?_|refine LOps.nil ?_|refine LCode.region ?_|refine LCode.seq ?_|refine oP (pG (cs':=[_,_]) rfl (List.Mem.head _) rfl rfl) rfl ?_|refine oS (sS (cs':=[_,_]) rfl pH rfl rfl rfl rfl rfl ?_) rfl|refine oP (pG (cs':=[_,_]) rfl (List.Mem.tail _ (List.Mem.head _)) rfl rfl) rfl ?_);exact h ()):P:=t fun _=>h
theorem gml {P Q:Prop} (h:Q) (t:(Unit→Q)→P:=by intro h;(repeat first|refine qN ?_|refine LOps.nil ?_|refine LCode.region ?_|refine LCode.seq ?_|refine oP (pA (lv:=.atom _) rfl) rfl ?_|refine oP (pG (cs':=[_,_,_]) rfl (List.Mem.tail _ (List.Mem.head _)) rfl rfl) rfl ?_);exact h ()):P:=t fun _=>h
theorem gmm {P Q:Prop} (h:Q) (t:(Unit→Q)→P:=by intro h;(repeat first|refine qN ?_|refine LCode.region ?_|refine LCode.seq ?_|refine LCode.skip ?_|refine oP (pG (cs':=[_,_,_]) rfl (List.Mem.tail _ (List.Mem.head _)) rfl rfl) rfl ?_|refine oP (pG (cs':=[_,_,_]) rfl (List.Mem.head _) rfl rfl) rfl ?_);exact h ()):P:=t fun _=>h
theorem gmn {P Q:Prop} (h:Q) (t:(Unit→Q)→P:=by intro h;(repeat first|refine qN ?_|refine LCode.region ?_|refine LCode.seq ?_|refine LCode.skip ?_|refine oP (pF rfl) rfl ?_|refine oP (pL (c:=.atom _) rfl (List.Mem.head _) rfl) rfl ?_);exact h ()):P:=t fun _=>h
theorem gmo {P Q:Prop} (h:Q) (t:(Unit→Q)→P:=by intro h;(repeat first|refine qN ?_|refine LOps.nil ?_|refine LCode.region ?_|refine LCode.seq ?_|refine oP (pA (lv:=.atom _) rfl) rfl ?_|refine oP (pG (cs':=[_,_,_]) rfl (List.Mem.tail _ (List.Mem.tail _ (List.Mem.tail _ (List.Mem.tail _ (List.Mem.head _))))) rfl rfl) rfl ?_);exact h ()):P:=t fun _=>h
theorem gmp {P Q:Prop} (h:Q) (t:(Unit→Q)→P:=by intro h;(repeat first|refine qN ?_|refine LOps.nil ?_|refine oP (pA (lv:=.atom _) rfl) rfl ?_|refine oP (pO (c:=.atom _) rfl rfl) rfl ?_);exact h ()):P:=t fun _=>h
theorem gmq {P Q:Prop} (h:Q) (t:(Unit→Q)→P:=by intro h;(repeat first|refine qN ?_|refine LCode.region ?_|refine LCode.seq ?_|refine LCode.exit ?_|refine QBlock.hit ?_|refine QThen.exit ?_|refine oP (pG (cs':=[_,_,_]) rfl (List.Mem.tail _ (List.Mem.head _)) rfl rfl) rfl ?_|refine oP (pG (cs':=[_,_,_]) rfl (List.Mem.tail _ (List.Mem.tail _ (List.Mem.tail _ (List.Mem.tail _ (List.Mem.head _))))) rfl rfl) rfl ?_);exact h ()):P:=t fun _=>h
theorem gmr {P Q:Prop} (h:Q) (t:(Unit→Q)→P:=by intro h;(repeat first|refine qN ?_|refine LOps.nil ?_|refine LCode.region ?_|refine LCode.seq ?_|refine oP (pM (lv:=.atom _) rfl) rfl ?_|refine LCode.skip ?_|refine LCode.block ?_|refine oP (pM (lv:=.list _) rfl) rfl ?_|refine oP (Pure.llen rfl) rfl ?_);exact h ()):P:=t fun _=>h
theorem gms {P Q:Prop} (h:Q) (t:(Unit→Q)→P:=by intro h;(repeat first|refine qN ?_|refine LOps.nil ?_|refine oS (sS (cs':=[_,_]) rfl pH rfl rfl rfl rfl rfl ?_) rfl);exact h ()):P:=t fun _=>h
theorem gmt {P Q:Prop} (h:Q) (t:(Unit→Q)→P:=by intro h;(repeat first|refine qN ?_|refine LCode.region ?_|refine LCode.seq ?_|refine oP (pM (lv:=.atom _) rfl) rfl ?_|refine LCode.exit ?_|refine QBlock.hit ?_|refine QThen.exit ?_|refine oP (pG (cs':=[_,_,_]) rfl (List.Mem.tail _ (List.Mem.tail _ (List.Mem.tail _ (List.Mem.tail _ (List.Mem.head _))))) rfl rfl) rfl ?_);exact h ()):P:=t fun _=>h
theorem gmu {P Q:Prop} (h:Q) (t:(Unit→Q)→P:=by intro h;(repeat first|refine qN ?_|refine LOps.nil ?_|refine LCode.region ?_|refine LCode.seq ?_|refine oP (pM (lv:=.atom _) rfl) rfl ?_|refine oP (pF rfl) rfl ?_|refine oP (pN rfl) rfl ?_);exact h ()):P:=t fun _=>h
theorem gmv {P Q:Prop} (h:Q) (t:(Unit→Q)→P:=by intro h;(repeat first|refine qN ?_|refine LOps.nil ?_|refine LCode.region ?_|refine LCode.seq ?_|refine oP (pM (lv:=.atom _) rfl) rfl ?_|refine oP (pA (lv:=.atom _) rfl) rfl ?_|refine LCode.ret ?_|refine oP (Pure.pickF (lv:=.atom _) rfl rfl) rfl ?_|refine LOps.skip rfl rfl rfl rfl ?_|refine oP (Pure.sneq rfl rfl) rfl ?_);exact h ()):P:=t fun _=>h
theorem gmw {P Q:Prop} (h:Q) (t:(Unit→Q)→P:=by intro h;(repeat first|refine qN ?_|refine LOps.nil ?_|refine LCode.region ?_|refine LCode.seq ?_|refine oP (pM (lv:=.atom _) rfl) rfl ?_|refine oP (pA (lv:=.atom _) rfl) rfl ?_|refine LOps.want rfl rfl ?_|refine oP (Pure.pickT (lv:=.atom _) rfl rfl) rfl ?_|refine oP (Pure.slen rfl) rfl ?_|refine oP (Pure.leq rfl rfl) rfl ?_|refine oP (Pure.sneq rfl rfl) rfl ?_);exact h ()):P:=t fun _=>h
theorem gmx {P Q:Prop} (h:Q) (t:(Unit→Q)→P:=by intro h;(repeat first|refine oP (pM (lv:=.atom _) rfl) rfl ?_|refine LOps.want rfl rfl ?_|refine oP (Pure.pickT (lv:=.atom _) rfl rfl) rfl ?_|refine oP (Pure.geq rfl rfl) rfl ?_);exact h ()):P:=t fun _=>h
theorem gmy {P Q:Prop} (h:Q) (t:(Unit→Q)→P:=by intro h;(repeat first|refine oP (pM (lv:=.atom _) rfl) rfl ?_|refine LOps.want rfl rfl ?_|refine oP (Pure.pickT (lv:=.atom _) rfl rfl) rfl ?_|refine oP (Pure.leq rfl rfl) rfl ?_);exact h ()):P:=t fun _=>h
theorem gmz {P Q:Prop} (h:Q) (t:(Unit→Q)→P:=by intro h;(repeat first|refine qN ?_|refine LOps.nil ?_|refine LCode.region ?_|refine LCode.seq ?_|refine oP (pM (lv:=.atom _) rfl) rfl ?_|refine oP (pA (lv:=.atom _) rfl) rfl ?_|refine LOps.want rfl rfl ?_|refine oP (Pure.extract (c:=.atom _) rfl rfl) rfl ?_|refine oP (pM (lv:=.tuple _) rfl) rfl ?_|refine oP (Pure.nilNeqNil rfl) rfl ?_);exact h ()):P:=t fun _=>h
theorem gm0 {P Q:Prop} (h:Q) (t:(Unit→Q)→P:=by intro h;(repeat first|refine qN ?_|refine LOps.nil ?_|refine LCode.region ?_|refine LCode.seq ?_|refine oP (pM (lv:=.atom _) rfl) rfl ?_|refine oP (pA (lv:=.atom _) rfl) rfl ?_|refine LCode.ret ?_|refine LCode.skip ?_|refine oP (Pure.cvt rfl) rfl ?_);exact h ()):P:=t fun _=>h
theorem gm1 {P Q:Prop} (h:Q) (t:(Unit→Q)→P:=by intro h;(repeat first|refine qN ?_|refine LOps.nil ?_|refine LCode.region ?_|refine LCode.seq ?_|refine oP (pM (lv:=.atom _) rfl) rfl ?_|refine oP (pA (lv:=.atom _) rfl) rfl ?_|refine oP (Pure.pickT (lv:=.atom _) rfl rfl) rfl ?_|refine LOps.skip rfl rfl rfl rfl ?_|refine oP (Pure.extract (c:=.atom _) rfl rfl) rfl ?_|refine oP (pM (lv:=.tuple _) rfl) rfl ?_|refine oP (Pure.ifaceNeqNil rfl) rfl ?_);exact h ()):P:=t fun _=>h
theorem gm2 {P Q:Prop} (h:Q) (t:(Unit→Q)→P:=by intro h;(repeat first|refine qN ?_|refine LOps.nil ?_|refine LCode.region ?_|refine LCode.seq ?_|refine oP (pM (lv:=.atom _) rfl) rfl ?_|refine oP (pA (lv:=.atom _) rfl) rfl ?_|refine oP (pF rfl) rfl ?_|refine oP (Pure.lss rfl rfl) rfl ?_|refine oP (Pure.llen rfl) rfl ?_|refine oP (pL (c:=.list _) rfl (List.Mem.head _) rfl) rfl ?_);exact h ()):P:=t fun _=>h
theorem gm3 {P Q:Prop} (h:Q) (t:(Unit→Q)→P:=by intro h;(repeat first|refine qN ?_|refine LOps.nil ?_|refine oP (pA (lv:=.atom _) rfl) rfl ?_|refine LCode.ret ?_|refine QThen.ret ?_|refine oP (pO (c:=.atom _) rfl rfl) rfl ?_);exact h ()):P:=t fun _=>h
theorem gm4 {P Q:Prop} (h:Q) (t:(Unit→Q)→P:=by intro h;(repeat first|refine qN ?_|refine LOps.nil ?_|refine LCode.region ?_|refine LCode.seq ?_|refine oP (pM (lv:=.atom _) rfl) rfl ?_|refine oP (pA (lv:=.atom _) rfl) rfl ?_|refine oP (pG (cs':=[_,_]) rfl (List.Mem.head _) rfl rfl) rfl ?_);exact h ()):P:=t fun _=>h
theorem gm5 {P Q:Prop} (h:Q) (t:(Unit→Q)→P:=by intro h;(repeat first|refine oP (pM (lv:=.atom _) rfl) rfl ?_|refine LOps.want rfl rfl ?_|refine oP (Pure.add rfl rfl (by omega)) rfl ?_|refine oP (pG (cs':=[_,_]) rfl (List.Mem.head _) rfl rfl) rfl ?_);exact h ()):P:=t fun _=>h
theorem gm6 {P Q:Prop} (h:Q) (t:(Unit→Q)→P:=by intro h;(repeat first|refine qN ?_|refine LOps.nil ?_|refine LCode.region ?_|refine LCode.seq ?_|refine oP (pM (lv:=.atom _) rfl) rfl ?_|refine oP (Pure.lss rfl rfl) rfl ?_);exact h ()):P:=t fun _=>h
theorem gm7 {P Q:Prop} (h:Q) (t:(Unit→Q)→P:=by intro h;(repeat first|refine qN ?_|refine LOps.nil ?_|refine LCode.region ?_|refine LCode.seq ?_|refine oP (pA (lv:=.atom _) rfl) rfl ?_|refine LCode.ret ?_|refine LCode.skip ?_|refine QThen.ret ?_|refine QBlock.ret ?_);exact h ()):P:=t fun _=>h
theorem gm8 {P Q:Prop} (h:Q) (t:(Unit→Q)→P:=by intro h;(repeat first|refine qN ?_|refine LOps.nil ?_|refine LCode.region ?_|refine LCode.seq ?_|refine oP (pM (lv:=.atom _) rfl) rfl ?_|refine oP (pA (lv:=.atom _) rfl) rfl ?_|refine oP (Pure.extract (c:=.atom _) rfl rfl) rfl ?_|refine oP (pM (lv:=.tuple _) rfl) rfl ?_|refine oP (Pure.cvt rfl) rfl ?_);exact h ()):P:=t fun _=>h
theorem gm9 {P Q:Prop} (h:Q) (t:(Unit→Q)→P:=by intro h;(repeat first|refine qN ?_|refine LOps.nil ?_|refine oP (pM (lv:=.atom _) rfl) rfl ?_|refine oP (pA (lv:=.atom _) rfl) rfl ?_|refine LCode.ret ?_|refine LOps.want rfl rfl ?_|refine oP (Pure.pickT (lv:=.atom _) rfl rfl) rfl ?_|refine oP (Pure.add rfl rfl (by omega)) rfl ?_|refine oP (Pure.slen rfl) rfl ?_|refine oP (Pure.leq rfl rfl) rfl ?_);exact h ()):P:=t fun _=>h
theorem gna {P Q:Prop} (h:Q) (t:(Unit→Q)→P:=by intro h;(repeat first|refine qN ?_|refine LOps.nil ?_|refine LCode.region ?_|refine LCode.seq ?_|refine oP (pA (lv:=.atom _) rfl) rfl ?_|refine oP (Pure.extract (c:=.atom _) rfl rfl) rfl ?_|refine oP (pM (lv:=.tuple _) rfl) rfl ?_|refine oP (pG (cs':=[_,_]) rfl (List.Mem.head _) rfl rfl) rfl ?_);exact h ()):P:=t fun _=>h
theorem gnb {P Q:Prop} (h:Q) (t:(Unit→Q)→P:=by intro h;(repeat first|refine qN ?_|refine LOps.nil ?_|refine oP (pM (lv:=.atom _) rfl) rfl ?_|refine LOps.want rfl rfl ?_|refine oP (Pure.pickF (lv:=.atom _) rfl rfl) rfl ?_|refine oP (Pure.pickT (lv:=.atom _) rfl rfl) rfl ?_|refine LOps.skip rfl rfl rfl rfl ?_);exact h ()):P:=t fun _=>h
theorem gnc {P Q:Prop} (h:Q) (t:(Unit→Q)→P:=by intro h;(repeat first|refine qN ?_|refine LOps.nil ?_|refine oP (pM (lv:=.atom _) rfl) rfl ?_|refine LOps.want rfl rfl ?_|refine oP (Pure.pickT (lv:=.atom _) rfl rfl) rfl ?_|refine oP (Pure.neq rfl rfl) rfl ?_);exact h ()):P:=t fun _=>h
theorem gnd {P Q:Prop} (h:Q) (t:(Unit→Q)→P:=by intro h;(repeat first|refine qN ?_|refine LOps.nil ?_|refine oP (pM (lv:=.atom _) rfl) rfl ?_|refine oP (Pure.pickF (lv:=.atom _) rfl rfl) rfl ?_|refine LOps.skip rfl rfl rfl rfl ?_);exact h ()):P:=t fun _=>h
theorem gne {P Q:Prop} (h:Q) (t:(Unit→Q)→P:=by intro h;(repeat first|refine oP (pM (lv:=.atom _) rfl) rfl ?_|refine LOps.want rfl rfl ?_|refine oP (pF rfl) rfl ?_|refine oP (pL (c:=.atom _) rfl (List.Mem.head _) rfl) rfl ?_);exact h ()):P:=t fun _=>h
theorem gnf {P Q:Prop} (h:Q) (t:(Unit→Q)→P:=by intro h;(repeat first|refine qN ?_|refine LOps.nil ?_|refine LOps.want rfl rfl ?_|refine oP (Pure.pickT (lv:=.atom _) rfl rfl) rfl ?_|refine oP (Pure.not rfl) rfl ?_);exact h ()):P:=t fun _=>h
theorem gng {P Q:Prop} (h:Q) (t:(Unit→Q)→P:=by intro h;(repeat first|refine qN ?_|refine LOps.nil ?_|refine LCode.region ?_|refine LCode.seq ?_|refine oP (pM (lv:=.atom _) rfl) rfl ?_|refine oP (pA (lv:=.atom _) rfl) rfl ?_|refine oP (Pure.add rfl rfl (by omega)) rfl ?_|refine oP (pG (cs':=[_,_]) rfl (List.Mem.head _) rfl rfl) rfl ?_|refine oP (pO (c:=.atom _) rfl rfl) rfl ?_);exact h ()):P:=t fun _=>h
theorem gnh {P Q:Prop} (h:Q) (t:(Unit→Q)→P:=by intro h;(repeat first|refine qN ?_|refine LOps.nil ?_|refine oP (pM (lv:=.atom _) rfl) rfl ?_|refine oP (Pure.sneq rfl rfl) rfl ?_);exact h ()):P:=t fun _=>h
theorem gni {P Q:Prop} (h:Q) (t:(Unit→Q)→P:=by intro h;(repeat first|refine qN ?_|refine LCode.region ?_|refine LCode.seq ?_|refine oP (pM (lv:=.atom _) rfl) rfl ?_|refine oP (Pure.seq rfl rfl) rfl ?_);exact h ()):P:=t fun _=>h
theorem gnj {P Q:Prop} (h:Q) (t:(Unit→Q)→P:=by intro h;(repeat first|refine oP (pM (lv:=.atom _) rfl) rfl ?_|refine LOps.want rfl rfl ?_|refine oP (Pure.pickF (lv:=.atom _) rfl rfl) rfl ?_|refine oP (Pure.pickT (lv:=.atom _) rfl rfl) rfl ?_|refine oP (Pure.seq rfl rfl) rfl ?_);exact h ()):P:=t fun _=>h
theorem gnk {P Q:Prop} (h:Q) (t:(Unit→Q)→P:=by intro h;(repeat first|refine qN ?_|refine LOps.nil ?_|refine oP (Pure.pickT (lv:=.atom _) rfl rfl) rfl ?_|refine LOps.skip rfl rfl rfl rfl ?_|refine LOps.skipU rfl rfl rfl ?_);exact h ()):P:=t fun _=>h
theorem gnl {P Q:Prop} (h:Q) (t:(Unit→Q)→P:=by intro h;(repeat first|refine oP (pM (lv:=.atom _) rfl) rfl ?_|refine LOps.want rfl rfl ?_|refine oP (Pure.pickF (lv:=.atom _) rfl rfl) rfl ?_|refine LOps.skip rfl rfl rfl rfl ?_|refine oP (Pure.seq rfl rfl) rfl ?_|refine LOps.skipU rfl rfl rfl ?_);exact h ()):P:=t fun _=>h
theorem gnm {P Q:Prop} (h:Q) (t:(Unit→Q)→P:=by intro h;(repeat first|refine qN ?_|refine LOps.nil ?_|refine oP (pM (lv:=.atom _) rfl) rfl ?_|refine LOps.want rfl rfl ?_|refine oP (Pure.pickF (lv:=.atom _) rfl rfl) rfl ?_|refine oP (Pure.pickT (lv:=.atom _) rfl rfl) rfl ?_|refine oP (Pure.seq rfl rfl) rfl ?_);exact h ()):P:=t fun _=>h
theorem gnn {P Q:Prop} (h:Q) (t:(Unit→Q)→P:=by intro h;(repeat first|refine qN ?_|refine LOps.nil ?_|refine LOps.want rfl rfl ?_|refine oP (Pure.pickF (lv:=.atom _) rfl rfl) rfl ?_|refine oP (Pure.sneq rfl rfl) rfl ?_);exact h ()):P:=t fun _=>h
theorem gno {P Q:Prop} (h:Q) (t:(Unit→Q)→P:=by intro h;(repeat first|refine qN ?_|refine LOps.nil ?_|refine LCode.region ?_|refine LCode.seq ?_|refine oP (pA (lv:=.atom _) rfl) rfl ?_|refine LCode.skip ?_|refine LCode.block ?_);exact h ()):P:=t fun _=>h
theorem gnp {P Q:Prop} (h:Q) (t:(Unit→Q)→P:=by intro h;(repeat first|refine LCode.region ?_|refine LCode.seq ?_|refine oP (pM (lv:=.atom _) rfl) rfl ?_|refine LCode.block ?_|refine oP (pG (cs':=[_,_]) rfl (List.Mem.head _) rfl rfl) rfl ?_);exact h ()):P:=t fun _=>h
theorem gnq {P Q:Prop} (h:Q) (t:(Unit→Q)→P:=by intro h;(repeat first|refine qN ?_|refine LOps.nil ?_|refine LCode.seq ?_|refine oP (pA (lv:=.atom _) rfl) rfl ?_|refine oP (Pure.extract (c:=.atom _) rfl rfl) rfl ?_|refine oP (pM (lv:=.tuple _) rfl) rfl ?_);exact h ()):P:=t fun _=>h
theorem gnr {P Q:Prop} (h:Q) (t:(Unit→Q)→P:=by intro h;(repeat first|refine qN ?_|refine LOps.nil ?_|refine LCode.region ?_|refine LCode.seq ?_|refine oP (pM (lv:=.atom _) rfl) rfl ?_|refine oP (pA (lv:=.atom _) rfl) rfl ?_|refine oP (Pure.sneq rfl rfl) rfl ?_);exact h ()):P:=t fun _=>h
theorem gns {P Q:Prop} (h:Q) (t:(Unit→Q)→P:=by intro h;(repeat first|refine qN ?_|refine LOps.nil ?_|refine LOps.want rfl rfl ?_|refine oP (Pure.pickT (lv:=.atom _) rfl rfl) rfl ?_|refine oP (Pure.seq rfl rfl) rfl ?_);exact h ()):P:=t fun _=>h
theorem gnt {P Q:Prop} (h:Q) (t:(Unit→Q)→P:=by intro h;(repeat first|refine oP (pM (lv:=.atom _) rfl) rfl ?_|refine oP (Pure.seq rfl rfl) rfl ?_);exact h ()):P:=t fun _=>h
theorem gnu {P Q:Prop} (h:Q) (t:(Unit→Q)→P:=by intro h;(repeat first|refine qN ?_|refine LOps.nil ?_|refine LOps.want rfl rfl ?_|refine oP (Pure.pickF (lv:=.atom _) rfl rfl) rfl ?_|refine oP (Pure.seq rfl rfl) rfl ?_);exact h ()):P:=t fun _=>h
theorem gnv {P Q:Prop} (h:Q) (t:(Unit→Q)→P:=by intro h;(repeat first|refine LCode.region ?_|refine LCode.seq ?_|refine oP (pM (lv:=.atom _) rfl) rfl ?_|refine oP (Pure.gtr rfl rfl) rfl ?_);exact h ()):P:=t fun _=>h
theorem gnw {P Q:Prop} (h:Q) (t:(Unit→Q)→P:=by intro h;(repeat first|refine qN ?_|refine LOps.nil ?_|refine oP (pM (lv:=.atom _) rfl) rfl ?_|refine LOps.want rfl rfl ?_|refine oP (pF rfl) rfl ?_|refine oP (Pure.pickT (lv:=.atom _) rfl rfl) rfl ?_|refine oP (Pure.lss rfl rfl) rfl ?_|refine oP (Pure.llen rfl) rfl ?_|refine oP (pL (c:=.list _) rfl (List.Mem.head _) rfl) rfl ?_);exact h ()):P:=t fun _=>h
theorem gnx {P Q:Prop} (h:Q) (t:(Unit→Q)→P:=by intro h;(repeat first|refine qN ?_|refine LOps.nil ?_|refine LCode.region ?_|refine LCode.seq ?_|refine oP (pM (lv:=.atom _) rfl) rfl ?_|refine oP (Pure.eql rfl rfl) rfl ?_|refine LCode.exit ?_|refine QBlock.hit ?_|refine QThen.exit ?_|refine QBlock.miss zDd ?_);exact h ()):P:=t fun _=>h
theorem gny {P Q:Prop} (h:Q) (t:(Unit→Q)→P:=by intro h;(repeat first|refine qN ?_|refine LOps.nil ?_|refine LCode.region ?_|refine LCode.seq ?_|refine oP (pM (lv:=.atom _) rfl) rfl ?_|refine oP (Pure.eql rfl rfl) rfl ?_|refine LCode.exit ?_|refine QBlock.hit ?_|refine QThen.exit ?_);exact h ()):P:=t fun _=>h
theorem gnz {P Q:Prop} (h:Q) (t:(Unit→Q)→P:=by intro h;(repeat first|refine qN ?_|refine LOps.nil ?_|refine LCode.region ?_|refine LCode.seq ?_|refine oP (pA (lv:=.atom _) rfl) rfl ?_|refine LCode.block ?_|refine oP (pA (lv:=.list _) rfl) rfl ?_);exact h ()):P:=t fun _=>h
theorem gn0 {P Q:Prop} (h:Q) (t:(Unit→Q)→P:=by intro h;(repeat first|refine qN ?_|refine LOps.nil ?_|refine LCode.region ?_|refine LCode.seq ?_|refine oP (pM (lv:=.atom _) rfl) rfl ?_|refine oP (Pure.lss rfl rfl) rfl ?_|refine oP (pM (lv:=.list _) rfl) rfl ?_|refine oP (Pure.llen rfl) rfl ?_);exact h ()):P:=t fun _=>h
theorem gn1 {P Q:Prop} (h:Q) (t:(Unit→Q)→P:=by intro h;(repeat first|refine qN ?_|refine LOps.nil ?_|refine LCode.region ?_|refine LCode.seq ?_|refine oP (pM (lv:=.atom _) rfl) rfl ?_|refine oP (pA (lv:=.atom _) rfl) rfl ?_|refine oP (pM (lv:=.list _) rfl) rfl ?_|refine oP (pO (c:=.atom _) rfl rfl) rfl ?_);exact h ()):P:=t fun _=>h
theorem gn2 {P Q:Prop} (h:Q) (t:(Unit→Q)→P:=by intro h;(repeat first|refine oP (pM (lv:=.atom _) rfl) rfl ?_|refine oP (pB _ (cs:=[_,_]) rfl) rfl ?_);exact h ()):P:=t fun _=>h
theorem gn3 {P Q:Prop} (h:Q) (t:(Unit→Q)→P:=by intro h;(repeat first|refine qN ?_|refine LOps.nil ?_|refine LCode.region ?_|refine LCode.seq ?_|refine oP (pM (lv:=.atom _) rfl) rfl ?_|refine oP (Pure.gtr rfl rfl) rfl ?_);exact h ()):P:=t fun _=>h
theorem gn4 {P Q:Prop} (h:Q) (t:(Unit→Q)→P:=by intro h;(repeat first|refine qN ?_|refine LOps.nil ?_|refine LCode.exit ?_|refine QBlock.hit ?_|refine QThen.exit ?_|refine QBlock.miss zDd ?_);exact h ()):P:=t fun _=>h
theorem gn5 {P Q:Prop} (h:Q) (t:(Unit→Q)→P:=by intro h;(repeat first|refine qN ?_|refine LCode.exit ?_|refine QBlock.hit ?_|refine QThen.exit ?_);exact h ()):P:=t fun _=>h
theorem gn6 {P Q:Prop} (h:Q) (t:(Unit→Q)→P:=by intro h;(repeat first|refine oP (pM (lv:=.atom _) rfl) rfl ?_|refine oP (pM (lv:=.list _) rfl) rfl ?_);exact h ()):P:=t fun _=>h
theorem gn7 {P Q:Prop} (h:Q) (t:(Unit→Q)→P:=by intro h;(repeat first|refine qN ?_|refine LOps.nil ?_|refine LCode.region ?_|refine oS (sS (cs':=[_,_]) rfl pH rfl rfl rfl rfl rfl ?_) rfl);exact h ()):P:=t fun _=>h
theorem gn8 {P Q:Prop} (h:Q) (t:(Unit→Q)→P:=by intro h;(repeat first|refine oP (pF rfl) rfl ?_|refine oP (pL (c:=.atom _) rfl (List.Mem.head _) rfl) rfl ?_);exact h ()):P:=t fun _=>h
theorem gn9 {P Q:Prop} (h:Q) (t:(Unit→Q)→P:=by intro h;(repeat first|refine qN ?_|refine LOps.nil ?_|refine LCode.block ?_|refine oP (pA (lv:=.list _) rfl) rfl ?_);exact h ()):P:=t fun _=>h
theorem goa {P Q:Prop} (h:Q) (t:(Unit→Q)→P:=by intro h;(repeat first|refine LCode.region ?_|refine LCode.seq ?_|refine LCode.block ?_|refine oP (pM (lv:=.list _) rfl) rfl ?_);exact h ()):P:=t fun _=>h
theorem gob {P Q:Prop} (h:Q) (t:(Unit→Q)→P:=by intro h;(repeat first|refine qN ?_|refine LOps.nil ?_|refine oP (Pure.seq rfl rfl) rfl ?_);exact h ()):P:=t fun _=>h
theorem goc {P Q:Prop} (h:Q) (t:(Unit→Q)→P:=by intro h;(repeat first|refine LCode.region ?_|refine LCode.seq ?_|refine oP (pM (lv:=.list _) rfl) rfl ?_);exact h ()):P:=t fun _=>h
theorem god {P Q:Prop} (h:Q) (t:(Unit→Q)→P:=by intro h;(repeat first|refine qN ?_|refine LOps.nil ?_|refine LCode.region ?_|refine LCode.skip ?_|refine QBlock.normal ?_|refine oP (pM (lv:=.list _) rfl) rfl ?_|refine oP (pA (lv:=.list _) rfl) rfl ?_);exact h ()):P:=t fun _=>h
theorem goe {P Q:Prop} (h:Q) (t:(Unit→Q)→P:=by intro h;(repeat first|refine qN ?_|refine LOps.nil ?_|refine LCode.region ?_|refine LCode.seq ?_|refine oP (pA (lv:=.atom _) rfl) rfl ?_|refine oP (Pure.extract (c:=.atom _) rfl rfl) rfl ?_|refine oP (pM (lv:=.tuple _) rfl) rfl ?_);exact h ()):P:=t fun _=>h
theorem gof {P Q:Prop} (h:Q) (t:(Unit→Q)→P:=by intro h;(repeat first|refine qN ?_|refine LOps.nil ?_|refine LCode.region ?_|refine LCode.seq ?_|refine oP (pM (lv:=.atom _) rfl) rfl ?_|refine LCode.skip ?_|refine oP (Pure.slen rfl) rfl ?_|refine oP (Pure.gtr rfl rfl) rfl ?_);exact h ()):P:=t fun _=>h
theorem gog {P Q:Prop} (h:Q) (t:(Unit→Q)→P:=by intro h;(repeat first|refine qN ?_|refine LCode.region ?_|refine LCode.seq ?_|refine oP (pM (lv:=.atom _) rfl) rfl ?_|refine LCode.skip ?_|refine oP (Pure.cvt rfl) rfl ?_);exact h ()):P:=t fun _=>h
theorem goh {P Q:Prop} (h:Q) (t:(Unit→Q)→P:=by intro h;(repeat first|refine LCode.region ?_|refine LCode.seq ?_|refine oP (pM (lv:=.atom _) rfl) rfl ?_|refine oP (Pure.neq rfl rfl) rfl ?_);exact h ()):P:=t fun _=>h
theorem goi {P Q:Prop} (h:Q) (t:(Unit→Q)→P:=by intro h;(repeat first|refine qN ?_|refine LOps.nil ?_|refine oP (pM (lv:=.atom _) rfl) rfl ?_|refine LOps.want rfl rfl ?_|refine oP (Pure.pickF (lv:=.atom _) rfl rfl) rfl ?_|refine oP (Pure.neq rfl rfl) rfl ?_);exact h ()):P:=t fun _=>h
open Go.RowKit
inductive LV where
 |atom (v:Value)
 |list (es:List LV)
 |app (b cap k:Nat) (es:List LV)
 |agg (cs:List LV)
 |tuple (vs:List LV)
 |ref (cs:List LV)
 deriving Inhabited
def LV.cells:LV→List LV
 |.agg cs=>cs
 |v=>[v]
@[reducible] def int (k:IntKind) (n:Int):LV:=.atom (.int k n)
@[reducible] def bool (b:Bool):LV:=.atom (.bool b)
@[reducible] def str (l:List UInt8):LV:=.atom (.string ⟨l.toArray⟩)
@[reducible] def ptr (b off:Nat):LV:=.atom (.pointer (some ⟨b,off,none⟩))
@[reducible] def nilSlice:LV:=.atom (.slice none 0 0)
inductive LObj where
 |cells (ty:TypeId) (cs:List LV)
 |row (n:Nat)
 |map (es:List (Value×LV)) (clock:Nat)
 |obj (o:Obj)
 deriving Inhabited
abbrev Heap:=List (Nat×LObj)
abbrev Live:=Nat→Nat
mutual
def Rep (w:World) (L:Live):LV→Value→Prop
 |.atom v,x=>x=v
 |.agg cs,x=>∃ xs:List Value,x=.agg xs.toArray∧RepL w L cs xs
 |.tuple vs,x=>∃ xs:List Value,x=.tuple xs.toArray∧RepL w L vs xs
 |.list es,x=>∃ a cap,x=.slice a es.length cap∧es.length≤cap∧(es≠[]→∃ b off k,a=some ⟨b,off,none⟩∧RepRows w L b k off es)
 |.app b cap k es,x=>x=.slice (some ⟨b,0,none⟩) es.length cap∧es.length≤cap∧RepRows w L b k 0 es∧∃ e s,w.shape? b=some (e,s)∧cap * k≤s
 |.ref cs,x=>∃ b off,x=.pointer (some ⟨b,off,none⟩)∧RepC w L b off cs
def RepL (w:World) (L:Live):List LV→List Value→Prop
 |[],xs=>xs=[]
 |c::cs,xs=>∃ y ys,xs=y::ys∧Rep w L c y∧RepL w L cs ys
def RepC (w:World) (L:Live) (b:Nat):Nat→List LV→Prop
 |_,[]=>True
 |off,c::cs=>off<L b∧(∃ x,w.cell? ⟨b,off,none⟩=some x∧Rep w L c x)∧RepC w L b (off+1) cs
def RepRows (w:World) (L:Live) (b k:Nat):Nat→List LV→Prop
 |_,[]=>True
 |off,.agg cs::es=>(cs.length=k∧RepC w L b off cs)∧RepRows w L b k (off+k) es
 |off,.atom v::es=>(1=k∧off<L b∧∃ x,w.cell? ⟨b,off,none⟩=some x∧Rep w L (.atom v) x)∧RepRows w L b k (off+k) es
 |off,.list v::es=>(1=k∧off<L b∧∃ x,w.cell? ⟨b,off,none⟩=some x∧Rep w L (.list v) x)∧RepRows w L b k (off+k) es
 |off,.app b2 c k2 v::es=>(1=k∧off<L b∧∃ x,w.cell? ⟨b,off,none⟩=some x∧Rep w L (.app b2 c k2 v) x)∧RepRows w L b k (off+k) es
 |off,.tuple v::es=>(1=k∧off<L b∧∃ x,w.cell? ⟨b,off,none⟩=some x∧Rep w L (.tuple v) x)∧RepRows w L b k (off+k) es
 |off,.ref v::es=>(1=k∧off<L b∧∃ x,w.cell? ⟨b,off,none⟩=some x∧Rep w L (.ref v) x)∧RepRows w L b k (off+k) es
end
structure Ext (w:World) (L:Live) (w':World) (L':Live):Prop where
 size:w.heap.size≤w'.heap.size
 shape:∀ b,b<w.heap.size→w'.shape? b=w.shape? b
 live:∀ b i,i<L b→w'.cell? ⟨b,i,none⟩=w.cell? ⟨b,i,none⟩
 mono:∀ b,L b≤L' b
theorem Ext.refl (w:World) (L:Live):Ext w L w L:=⟨zNr _,fun _ _=>rfl,fun _ _ _=>rfl,fun _=>zNr _⟩
theorem Ext.trans {w1 w2 w3:World} {L1 L2 L3:Live} (h:Ext w1 L1 w2 L2) (k:Ext w2 L2 w3 L3):Ext w1 L1 w3 L3:=
 ⟨zNt h.size k.size,fun b hb=>(k.shape b (Nat.lt_of_lt_of_le hb h.size)).trans (h.shape b hb),
  fun b i hi=>(k.live b i (Nat.lt_of_lt_of_le hi (h.mono b))).trans (h.live b i hi),fun b=>zNt (h.mono b) (k.mono b)⟩
theorem shape_lt {w:World} {b:Nat} {p:TypeId×Nat} (h:w.shape? b=some p):b<w.heap.size:=by
 rcases Nat.lt_or_ge b w.heap.size with h1|h1
 ·exact h1
 ·simp[World.shape?,Array.getElem?_eq_none h1] at h
mutual
theorem Rep.mono {w w':World} {L L':Live} (h:Ext w L w' L'):∀ (lv:LV) (x:Value),Rep w L lv x→Rep w' L' lv x
 |.atom v,x,r=>by simp only[Rep] at r ⊢;exact r
 |.agg cs,x,r=>by
  simp only[Rep] at r ⊢
  obtain ⟨xs,rfl,r⟩:=r
  exact ⟨xs,rfl,RepL.mono h cs xs r⟩
 |.tuple cs,x,r=>by
  simp only[Rep] at r ⊢
  obtain ⟨xs,rfl,r⟩:=r
  exact ⟨xs,rfl,RepL.mono h cs xs r⟩
 |.list es,x,r=>by
  simp only[Rep] at r ⊢
  obtain ⟨a,cap,rfl,hl,r⟩:=r
  refine ⟨a,cap,rfl,hl,fun hne=>?_⟩
  obtain ⟨b,off,k,ha,r⟩:=r hne
  exact ⟨b,off,k,ha,RepRows.mono h b k off es r⟩
 |.app b cap k es,x,r=>by
  simp only[Rep] at r ⊢
  obtain ⟨rfl,hl,r,e,s,hs,hc⟩:=r
  exact ⟨rfl,hl,RepRows.mono h b k 0 es r,e,s,by rw[h.shape b (shape_lt hs)];exact hs,hc⟩
 |.ref cs,x,r=>by
  simp only[Rep] at r ⊢
  obtain ⟨b,off,rfl,r⟩:=r
  exact ⟨b,off,rfl,RepC.mono h b off cs r⟩
 termination_by lv=>SizeOf.sizeOf lv
theorem RepL.mono {w w':World} {L L':Live} (h:Ext w L w' L'):∀ (cs:List LV) (xs:List Value),RepL w L cs xs→RepL w' L' cs xs
 |[],xs,r=>by simp only[RepL] at r ⊢;exact r
 |c::cs,xs,r=>by
  simp only[RepL] at r ⊢
  obtain ⟨y,ys,rfl,r1,r2⟩:=r
  exact ⟨y,ys,rfl,Rep.mono h c y r1,RepL.mono h cs ys r2⟩
 termination_by cs=>SizeOf.sizeOf cs
theorem RepC.mono {w w':World} {L L':Live} (h:Ext w L w' L') (b:Nat):∀ (off:Nat) (cs:List LV),RepC w L b off cs→RepC w' L' b off cs
 |_,[],r=>by simp only[RepC]
 |off,c::cs,r=>by
  simp only[RepC] at r ⊢
  obtain ⟨r1,⟨x,hx,r2⟩,r3⟩:=r
  exact ⟨Nat.lt_of_lt_of_le r1 (h.mono b),⟨x,by rw[h.live b off r1];exact hx,Rep.mono h c x r2⟩,RepC.mono h b (off+1) cs r3⟩
 termination_by _ cs=>SizeOf.sizeOf cs
theorem RepRows.mono {w w':World} {L L':Live} (h:Ext w L w' L') (b k:Nat):∀ (off:Nat) (es:List LV),RepRows w L b k off es→RepRows w' L' b k off es
 |_,[],r=>by simp only[RepRows]
 |off,.agg cs::es,r=>by
  simp only[RepRows] at r ⊢
  exact ⟨⟨r.1.1,RepC.mono h b off cs r.1.2⟩,RepRows.mono h b k (off+k) es r.2⟩
 |off,.atom v::es,r=>by
  simp only[RepRows] at r ⊢
  obtain ⟨⟨h1,h2,x,h3,h4⟩,r2⟩:=r
  exact ⟨⟨h1,Nat.lt_of_lt_of_le h2 (h.mono b),x,by rw[h.live b off h2];exact h3,Rep.mono h (.atom v) x h4⟩,RepRows.mono h b k (off+k) es r2⟩
 |off,.list v::es,r=>by
  simp only[RepRows] at r ⊢
  obtain ⟨⟨h1,h2,x,h3,h4⟩,r2⟩:=r
  exact ⟨⟨h1,Nat.lt_of_lt_of_le h2 (h.mono b),x,by rw[h.live b off h2];exact h3,Rep.mono h (.list v) x h4⟩,RepRows.mono h b k (off+k) es r2⟩
 |off,.app b2 c k2 v::es,r=>by
  simp only[RepRows] at r ⊢
  obtain ⟨⟨h1,h2,x,h3,h4⟩,r2⟩:=r
  exact ⟨⟨h1,Nat.lt_of_lt_of_le h2 (h.mono b),x,by rw[h.live b off h2];exact h3,Rep.mono h (.app b2 c k2 v) x h4⟩,RepRows.mono h b k (off+k) es r2⟩
 |off,.tuple v::es,r=>by
  simp only[RepRows] at r ⊢
  obtain ⟨⟨h1,h2,x,h3,h4⟩,r2⟩:=r
  exact ⟨⟨h1,Nat.lt_of_lt_of_le h2 (h.mono b),x,by rw[h.live b off h2];exact h3,Rep.mono h (.tuple v) x h4⟩,RepRows.mono h b k (off+k) es r2⟩
 |off,.ref v::es,r=>by
  simp only[RepRows] at r ⊢
  obtain ⟨⟨h1,h2,x,h3,h4⟩,r2⟩:=r
  exact ⟨⟨h1,Nat.lt_of_lt_of_le h2 (h.mono b),x,by rw[h.live b off h2];exact h3,Rep.mono h (.ref v) x h4⟩,RepRows.mono h b k (off+k) es r2⟩
 termination_by _ es=>SizeOf.sizeOf es
end
def LV.Sub (a b:LV):Prop:=∀ w L x,Rep w L a x→Rep w L b x
theorem vR (a:LV):a.Sub a:=fun _ _ _ h=>h
theorem vN:nilSlice.Sub (.list []):=fun w L x r=>by
 simp only[Rep] at r ⊢
 subst r
 exact ⟨none,0,rfl,zNr _,fun h=>absurd rfl h⟩
theorem LV.Sub.app (b cap k:Nat) (es:List LV):(LV.app b cap k es).Sub (.list es):=fun w L x r=>by
 simp only[Rep] at r ⊢
 obtain ⟨rfl,hl,r,_⟩:=r
 exact ⟨some ⟨b,0,none⟩,cap,rfl,hl,fun _=>⟨b,0,k,rfl,r⟩⟩
def SubL:List LV→List LV→Prop
 |[],[]=>True
 |a::avs,b::bs=>a.Sub b∧SubL avs bs
 |_,_=>False
theorem SubL.repL {w:World} {L:Live}:∀ {avs bs:List LV} {xs:List Value},SubL avs bs→RepL w L avs xs→RepL w L bs xs
 |[],[],xs,_,r=>r
 |a::avs,b::bs,xs,h,r=>by
  simp only[RepL] at r ⊢
  obtain ⟨y,ys,rfl,r1,r2⟩:=r
  exact ⟨y,ys,rfl,h.1 _ _ _ r1,SubL.repL h.2 r2⟩
 |[],_::_,_,h,_=>h.elim
 |_::_,[],_,h,_=>h.elim
theorem vA {avs bs:List LV} (h:SubL avs bs):(LV.agg avs).Sub (.agg bs):=fun w L x r=>by
 simp only[Rep] at r ⊢
 obtain ⟨xs,rfl,r⟩:=r
 exact ⟨xs,rfl,h.repL r⟩
/-! ### The heap of owned blocks -/
def RelObj (w:World) (L:Live) (b:Nat):LObj→Prop
 |.cells ty cs=>L b=0∧∃ xs:List Value,w.heap[b]? = some (.cells xs.toArray ty (0,0))∧RepL w L cs xs
 |.row n=>L b=n∧∃ (xs:Array Value) (ty:TypeId) (fr:Nat×Nat),w.heap[b]? = some (.cells xs ty fr)∧n≤xs.size∧fr.2≤n
 |.map es clock=>L b=0∧∃ avs:List MapEntry,w.heap[b]? = some (.map avs.toArray clock)∧avs.map (·.key)=es.map (·.1)∧RepL w L (es.map (·.2)) (avs.map (·.val))
   ∧ (∀ e∈avs,e.born<clock)∧(avs.map (·.born)).Nodup
 |.obj o=>L b=0∧w.heap[b]? = some o∧w.shape? b=none
structure Ctx where
 P:Program
 B0:Nat
 w0:World
structure RelH (C:Ctx) (w:World) (L:Live) (H:Heap):Prop where
 base:Below C.B0 C.w0 w
 lbase:True
 b0:C.B0≤w.heap.size
 wf:∀ b,w.heap.size≤b→L b=0
 nodup:(H.map (·.1)).Nodup
 objs:∀ p∈H,C.B0≤p.1∧p.1<w.heap.size∧RelObj w L p.1 p.2
@[reducible] def keys (H:Heap):List Nat:=H.map (·.1)
structure Fr (K:List Nat) (w:World) (L:Live) (w':World) (L':Live) (H':Heap):Prop where
 os:w'.os=w.os
 tape:w'.tape=w.tape
 output:w'.output=w.output
 ext:Ext w L w' L'
 block:∀ b,b<w.heap.size→b ∉ K→w'.heap[b]? = w.heap[b]?
 lsame:∀ b,b<w.heap.size→b ∉ K→L' b=L b
 kin:∀ p∈H',p.1∈K∨w.heap.size≤p.1
theorem Fr.refl (w:World) (L:Live) (H:Heap):Fr (keys H) w L w L H:=
 ⟨rfl,rfl,rfl,.refl _ _,fun _ _ _=>rfl,fun _ _ _=>rfl,fun _ hp=>.inl (List.mem_map_of_mem hp)⟩
theorem Fr.trans {K:List Nat} {w1 w2 w3:World} {L1 L2 L3:Live} {H2 H3:Heap} (h:Fr K w1 L1 w2 L2 H2) (k:Fr (keys H2) w2 L2 w3 L3 H3):Fr K w1 L1 w3 L3 H3:=by
 have out:∀ b,b<w1.heap.size→b ∉ K→b ∉ keys H2:=fun b hb hn hm=>by
  obtain ⟨p,hp,rfl⟩:=List.mem_map.1 hm
  rcases h.kin p hp with h1|h1
  ·exact hn h1
  ·omega
 refine ⟨k.os.trans h.os,k.tape.trans h.tape,k.output.trans h.output,h.ext.trans k.ext,fun b hb hn=>?_,fun b hb hn=>?_,fun p hp=>?_⟩
 ·exact (k.block b (Nat.lt_of_lt_of_le hb h.ext.size) (out b hb hn)).trans (h.block b hb hn)
 ·exact (k.lsame b (Nat.lt_of_lt_of_le hb h.ext.size) (out b hb hn)).trans (h.lsame b hb hn)
 ·rcases k.kin p hp with h1|h1
  ·obtain ⟨q,hq,he⟩:=List.mem_map.1 h1
   rw[←he]
   exact h.kin q hq
  ·exact .inr (zNt h.ext.size h1)
theorem Fr.sub {K:List Nat} {w w':World} {L L':Live} {H H':Heap} (h:Fr K w L w' L' H) (hs:∀ p∈H',p∈H):Fr K w L w' L' H':=
 ⟨h.os,h.tape,h.output,h.ext,h.block,h.lsame,fun p hp=>h.kin p (hs p hp)⟩
theorem shape_of_heap {w w':World} {b:Nat} (h:w'.heap[b]? = w.heap[b]?):w'.shape? b=w.shape? b:=by simp only[World.shape?,h]
theorem cell_of_heap {w w':World} {b:Nat} (h:w'.heap[b]? = w.heap[b]?) (o:Nat):w'.cell? ⟨b,o,none⟩=w.cell? ⟨b,o,none⟩:=by simp only[World.cell?,h]
theorem RelObj.keep {w w':World} {L L':Live} {b:Nat} {o:LObj} (h:Ext w L w' L') (hb:w'.heap[b]? = w.heap[b]?) (hl:L' b=L b) (r:RelObj w L b o):RelObj w' L' b o:=by
 cases o with
 |cells ty cs=>obtain ⟨r1,xs,r2,r3⟩:=r;exact ⟨hl.trans r1,xs,hb.trans r2,r3.mono h _ _⟩
 |row n=>obtain ⟨r1,xs,ty,fr,r2,r3,r4⟩:=r;exact ⟨hl.trans r1,xs,ty,fr,hb.trans r2,r3,r4⟩
 |map es clock=>obtain ⟨r1,avs,r2,r3,r4,r5⟩:=r;exact ⟨hl.trans r1,avs,hb.trans r2,r3,r4.mono h _ _,r5⟩
 |obj o=>obtain ⟨r1,r2,r3⟩:=r;exact ⟨hl.trans r1,hb.trans r2,by rw[shape_of_heap hb];exact r3⟩
theorem RelH.perm {C:Ctx} {w:World} {L:Live} {H H':Heap} (h:RelH C w L H) (p:H.Perm H'):RelH C w L H':=
 ⟨h.base,h.lbase,h.b0,h.wf,((p.map _).nodup_iff).1 h.nodup,fun q hq=>h.objs q (p.mem_iff.2 hq)⟩
theorem RelH.left {C:Ctx} {w:World} {L:Live} {H F:Heap} (h:RelH C w L (H++F)):RelH C w L H:=
 ⟨h.base,h.lbase,h.b0,h.wf,(List.nodup_append.1 (by simpa using h.nodup)).1,fun q hq=>h.objs q (List.mem_append_left _ hq)⟩
theorem RelH.sub {C:Ctx} {w:World} {L:Live} {H H':Heap} (h:RelH C w L H) (s:H'.Sublist H):RelH C w L H':=
 ⟨h.base,h.lbase,h.b0,h.wf,h.nodup.sublist (s.map _),fun q hq=>h.objs q (s.subset hq)⟩
theorem RelH.frame {C:Ctx} {w w':World} {L L':Live} {H H' F:Heap} (h:RelH C w L (H++F)) (f:Fr (keys H) w L w' L' H') (h':RelH C w' L' H') :
  RelH C w' L' (H'++F)∧Fr (keys (H++F)) w L w' L' (H'++F):=by
 have hn:(keys H++keys F).Nodup:=by simpa [keys] using h.nodup
 have hdis:∀ q∈F,q.1 ∉ keys H:=fun q hq hm=>(List.nodup_append.1 hn).2.2 _ hm _ (List.mem_map_of_mem hq) rfl
 refine ⟨⟨h'.base,h'.lbase,h'.b0,h'.wf,?_,fun p hp=>?_⟩,⟨f.os,f.tape,f.output,f.ext,fun b hb hk=>?_,fun b hb hk=>?_,fun p hp=>?_⟩⟩
 ·rw[zMa]
  refine List.nodup_append.2 ⟨h'.nodup,(List.nodup_append.1 hn).2.1,fun a ha b hb he=>?_⟩
  subst he
  obtain ⟨p,hp,rfl⟩:=List.mem_map.1 ha
  obtain ⟨q,hq,he⟩:=List.mem_map.1 hb
  have hqs:=(h.objs q (List.mem_append_right _ hq)).2.1
  rcases f.kin p hp with h1|h1
  ·exact hdis q hq (he▸h1)
  ·omega
 ·rcases List.mem_append.1 hp with hp|hp
  ·exact h'.objs p hp
  ·obtain ⟨r1,r2,r3⟩:=h.objs p (List.mem_append_right _ hp)
   exact ⟨r1,Nat.lt_of_lt_of_le r2 f.ext.size,r3.keep f.ext (f.block _ r2 (hdis p hp)) (f.lsame _ r2 (hdis p hp))⟩
 ·exact f.block b hb (fun hm=>hk (by simp only[keys,zMa,List.mem_append];exact .inl hm))
 ·exact f.lsame b hb (fun hm=>hk (by simp only[keys,zMa,List.mem_append];exact .inl hm))
 ·rcases List.mem_append.1 hp with hp|hp
  ·rcases f.kin p hp with h1|h1
   ·exact .inl (by simp only[keys,zMa,List.mem_append];exact .inl h1)
   ·exact .inr h1
  ·exact .inl (by simp only[keys,zMa,List.mem_append];exact .inr (List.mem_map_of_mem hp))
def Pick (p:Nat×LObj) (H F:Heap):Prop:=H.Perm (p::F)
theorem pH {p:Nat×LObj} {F:Heap}:Pick p (p::F) F:=List.Perm.refl _
theorem pT {p q:Nat×LObj} {H F:Heap} (h:Pick p H F):Pick p (q::H) (q::F):=
 (List.Perm.cons q h).trans (List.Perm.swap p q F)
def HSub (H' H:Heap):Prop:=∃ G,H.Perm (H'++G)
theorem zhR (H:Heap):HSub H H:=⟨[],by simp⟩
theorem HSub.nil (H:Heap):HSub [] H:=⟨H,by simp⟩
theorem zhD {H' H:Heap} {p:Nat×LObj} (h:HSub H' H):HSub H' (p::H):=
 let ⟨G,hG⟩:=h
 ⟨p::G,(List.Perm.cons p hG).trans List.perm_middle.symm⟩
theorem zhP {H' H F:Heap} {p:Nat×LObj} (hp:Pick p H F) (h:HSub H' F):HSub (p::H') H:=
 let ⟨G,hG⟩:=h
 ⟨G,List.Perm.trans hp (List.Perm.cons p hG)⟩
theorem RelH.weak {C:Ctx} {w:World} {L:Live} {H H':Heap} (h:RelH C w L H) (s:HSub H' H):RelH C w L H':=
 let ⟨_,hG⟩:=s
 (h.perm hG).left
theorem Fr.weak {K:List Nat} {w w':World} {L L':Live} {H H':Heap} (h:Fr K w L w' L' H) (s:HSub H' H):Fr K w L w' L' H':=
 let ⟨_,hG⟩:=s
 h.sub fun _ hp=>hG.mem_iff.2 (List.mem_append_left _ hp)
end Go.GL
