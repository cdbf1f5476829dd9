import Derived.Below
import Derived.OrdersHeld
import Derived.Deep.Quiet
import Derived.Laws.Strings
import Derived.KernelRfl
import Derived.Laws.AppendOwn
import Derived.Laws.IdiomStrings
import Derived.RangeFuncFrom
import Derived.RangeFuncLeaves
import Derived.TacticsIn
import Derived.DeepKeys
import Derived.Lib.Builder
import Derived.Lib.AppendStr
set_option linter.unusedVariables false
set_option linter.unusedSimpArgs false
set_option maxRecDepth 100000
set_option maxHeartbeats 4000000
theorem zn{c:Prop}{h:Decidable c}(k:¬c){α:Sort _}{t e:α}:@ite α c h t e=e:=if_neg k
theorem zp{c:Prop}{h:Decidable c}(k:c){α:Sort _}{t e:α}:@ite α c h t e=t:=if_pos k
theorem zR{α:Type _}{o:Option α}(h:o.isSome=true):∃ a,o=some a:=Option.isSome_iff_exists.1 h
theorem zRa{α:Type _}{a b:α}(h:a∈[b]):a=b:=List.mem_singleton.1 h
theorem zRb{α:Type _}{a b:α}(h:a=b):a∈[b]:=List.mem_singleton.2 h
theorem zRc{α:Type _}{s t:List α}(h:(s++t).Nodup):s.Nodup/\t.Nodup/\∀ a∈s,∀ b∈t,a≠b:=List.nodup_append.1 h
theorem zRd{α:Type _}{a:α}{s t:List α}(h:a∈s++t):a∈s∨a∈t:=List.mem_append.1 h
theorem zRe{α:Type _}{a:α}{s t:List α}(h:a∈s∨a∈t):a∈s++t:=List.mem_append.2 h
theorem zRf{α β:Type _}{f:α->β}{b:β}{l:List α}(h:b∈l.map f):∃ a,a∈l/\f a=b:=List.mem_map.1 h
theorem zRg{α β:Type _}{f:α->β}{b:β}{l:List α}(h:∃ a,a∈l/\f a=b):b∈l.map f:=List.mem_map.2 h
theorem zRh{α:Type _}(a b:α):(some a=some b)=(a=b):=Option.some.injEq a b
theorem zRi{p:Prop}[Decidable p](h:decide p=true):p:=of_decide_eq_true h
theorem zRj{α:Type _}{a:α}{l:List α}:(a::l)[0]?=some a:=List.getElem?_cons_zero
theorem zRk{α:Type _}{a:α}{l:List α}{i:Nat}:(a::l)[i+1]?=l[i]?:=List.getElem?_cons_succ
theorem zRl{α:Type _}{l:List α}{i:Nat}(h:i<l.length):l[i]?=some l[i]:=List.getElem?_eq_getElem h
theorem zRm{α:Type _}{a:α}{l:List α}:a∈a::l:=List.Mem.head _
theorem zRn:(false=true)=False:=Bool.false_eq_true
theorem zRo{α:Type _}{l:List α}(h:l.length=1):∃ a,l=[a]:=List.length_eq_one_iff.1 h
theorem zRp{p:Prop}[Decidable p](h:p):decide p=true:=decide_eq_true h
theorem zRq{α:Type _}(a:α){s t:List α}(h:s.Perm t):(a::s).Perm (a::t):=.cons a h
theorem zRr{α:Type _}(a b:α)(l:List α):(b::a::l).Perm (a::b::l):=.swap a b l
theorem zRs(b:Bool):(false&&b)=false:=Bool.false_and b
theorem zRt{α β:Type}(P:Go.Program)(w:Go.World)(x:Go.Sem α)(f:α->Go.Sem β):Go.Sem.run P (x>>=f) w=(Go.Sem.run P x w).andThen λa w'=>Go.Sem.run P (f a) w':=Go.Sem.run_bind ..
theorem zRu{α:Type}(P:Go.Program)(w:Go.World)(a:α):Go.Sem.run P (pure a) w=.ok a w:=Go.Sem.run_pure ..
theorem zRv{α β:Type}(a:α)(w:Go.World)(f:α->Go.World->Go.Result β):(Go.Result.ok a w).andThen f=f a w:=rfl
theorem zLa{α : Type _}{a b : List α} : (a ++ b).length = a.length + b.length := List.length_append
theorem zLc{α : Type _}{a : α}{l : List α} : (a :: l).length = l.length + 1 := rfl
theorem zLn{α : Type _} : ([] : List α).length = 0 := rfl
theorem zLm{α β : Type _}{l : List α}(f : α -> β) : (l.map f).length = l.length := List.length_map f
theorem zLz{α : Type _}(l : List α) : l ++ [] = l := List.append_nil l
theorem zAs{α : Type _}(a b c : List α) : a ++ b ++ c = a ++ (b ++ c) := List.append_assoc a b c
theorem zMs{α : Type _}{a : α}{l : List α} : a ∈ a :: l := List.mem_cons_self ..
theorem zMo{α : Type _}(b : α){a : α}{l : List α}(h : a ∈ l) : a ∈ b :: l := List.mem_cons_of_mem b h
theorem zMi{α : Type _}{a b : α}{l : List α} : a ∈ b :: l ↔ a = b ∨ a ∈ l := List.mem_cons
theorem zPf{α : Type _}(l : List α) : l <+: l := List.prefix_refl l
theorem zMa{α β : Type _}{f : α -> β}{l₁ l₂ : List α} : (l₁ ++ l₂).map f = l₁.map f ++ l₂.map f := List.map_append
theorem zMc{α β : Type _}{f : α -> β}{a : α}{l : List α} : (a :: l).map f = f a :: l.map f := rfl
theorem zPc{α : Type _}{l₁ l₂ : List α} : (l₁ ++ l₂).Perm (l₂ ++ l₁) := List.perm_append_comm
theorem zDe{p : Prop} [Decidable p] : (decide p = true) = p := decide_eq_true_eq
theorem zBa(a b : Bool) : ((a && b) = true) = (a = true /\ b = true) := Bool.and_eq_true a b
theorem zNr(n : Nat) : n <= n := Nat.le_refl n
theorem zNt{a b c : Nat}(h : a <= b)(k : b <= c) : a <= c := Nat.le_trans h k
theorem zCs{α : Type _}{a b : α}(h : a = b := by kernel_rfl) : some a = some b := congrArg some h
theorem zDd{P : Prop}(h : P := by decide) : P := h
theorem zQ0{P Q:Prop}(h:Q)(t:(Unit->Q)->P:=by intro zu;(refine zl1 (i:=9) zk ?_;refine lH rfl rfl (pA (lv:=.atom _) rfl) ?_;refine lD zk ?_;refine qN ?_;refine⟨⟨rb,om,db,oc,sm,am,fm⟩,trivial,⟨rfl,rfl,rfl,trivial⟩,?_,rfl⟩);exact zu ()):P:=t λ_=>h
theorem zQ1{P Q:Prop}(h:Q)(t:(Unit->Q)->P:=by intro zu;(refine zl1 (i:=7) zk ?_;refine lH rfl rfl (pB _ (cs:=[_,_,_,_,_,_,_,_,_,_,_]) rfl) ?_;refine zl1 (i:=8) zk ?_);exact zu ()):P:=t λ_=>h
theorem zQ2{P Q:Prop}(h:Q)(t:(Unit->Q)->P:=by intro zu;(refine oS (sL [_] rfl (eC rfl rfl eN) rfl rfl rfl ?_) rfl);exact zu ()):P:=t λ_=>h
theorem zQ3{P Q:Prop}(h:Q)(t:(Unit->Q)->P:=by intro zu;(refine gab ?_;refine rR rfl (zra rfl) zhn ⟨?_,rfl⟩);exact zu ()):P:=t λ_=>h
theorem zQ4{P Q:Prop}(h:Q)(t:(Unit->Q)->P:=by intro zu;(refine lz rfl rfl (qae.call (args:=[]) qkC ?_ (by rintro ch H' ⟨_,_,_,h,_⟩;cases h)));exact zu ()):P:=t λ_=>h
theorem zQ5{P Q:Prop}(h:Q)(t:(Unit->Q)->P:=by intro zu;(refine zl1 (i:=4) zk ?_;refine lW rfl (.inl rfl) rfl (sS (cs':=[_]) rfl zp2 rfl rfl rfl rfl rfl ?_);refine zl1 (i:=5) zk ?_;refine lW rfl (.inl rfl) rfl (sS (cs':=[_]) rfl zp2 rfl rfl rfl rfl rfl ?_);refine lD zk ?_;refine gab ?_);exact zu ()):P:=t λ_=>h
theorem zQ6{P Q:Prop}(h:Q)(t:(Unit->Q)->P:=by intro zu;(refine oS (S.insertK (kt:=84) (el:=144) (kd:=.u32) zk zk rfl rfl rfl pH rfl rfl ?_) rfl;refine oS (S.insertK (kt:=84) (el:=144) (kd:=.u32) zk zk rfl rfl rfl pH rfl rfl ?_) rfl;refine oS (S.insertK (kt:=84) (el:=144) (kd:=.u32) zk zk rfl rfl rfl pH rfl rfl ?_) rfl;refine oS (S.insertK (kt:=84) (el:=144) (kd:=.u32) zk zk rfl rfl rfl pH rfl rfl ?_) rfl);exact zu ()):P:=t λ_=>h
theorem zQ7{P Q:Prop}(h:Q)(t:(Unit->Q)->P:=by intro zu;(refine zl1 (i:=10) zk ?_;refine lH rfl rfl (pN rfl) ?_;refine zl1 (i:=11) zk ?_;refine lH rfl rfl (pF rfl) ?_;refine zl1 (i:=12) zk ?_;refine lW rfl (.inl rfl) rfl (sS (n:=1) (vs:=[v']) (cs':=[_,_,_,_,_,v',_,_,_,_]) rfl pH (qjo hacc').1 rfl rfl (qjo hacc').2 rfl ?_);refine lD zk ?_;refine gab ?_);exact zu ()):P:=t λ_=>h
theorem zQ8{P Q:Prop}(h:Q)(t:(Unit->Q)->P:=by intro zu;(refine oS (sL [_,_] rfl (qa3 [_,_]) rfl rfl rfl ?_) rfl);exact zu ()):P:=t λ_=>h
theorem zQ9{P Q:Prop}(h:Q)(t:(Unit->Q)->P:=by intro zu;(refine aT 0 rfl rfl (pM (lv:=.atom _) rfl) ?_;refine aT 1 rfl rfl (pM (lv:=.atom _) rfl) ?_;refine aT 2 rfl rfl (pN rfl) ?_;refine aT 3 rfl rfl (pF rfl) ?_);exact zu ()):P:=t λ_=>h
theorem zQ10{P Q:Prop}(h:Q)(t:(Unit->Q)->P:=by intro zu;(refine aT 0 rfl rfl (pM (lv:=.atom _) rfl) ?_;refine aT 1 rfl rfl (pN rfl) ?_;refine aT 2 rfl rfl (pF rfl) ?_);exact zu ()):P:=t λ_=>h
theorem zQ11{P Q:Prop}(h:Q)(t:(Unit->Q)->P:=by intro zu;(refine lH rfl rfl (Pure.extract (c:=.atom _) rfl rfl) ?_;refine zl1 (i:=6) zk ?_;refine lH rfl rfl (pA (lv:=.atom _) rfl) ?_;refine zl1 (i:=7) zk ?_;refine lH rfl rfl (pA (lv:=.atom _) rfl) ?_;refine lD zk ?_;refine qN ?_);exact zu ()):P:=t λ_=>h
theorem zQ12{P Q:Prop}(h:Q)(t:(Unit->Q)->P:=by intro zu;(refine zl1 (i:=11) zk ?_;refine lH rfl rfl (pN rfl) ?_;refine zl1 (i:=12) zk ?_;refine lH rfl rfl (pF rfl) ?_;refine zl1 (i:=13) zk ?_;refine lW rfl (.inl rfl) rfl (sS (n:=1) (vs:=[LV.atom v']) (cs':=[_,_,_,_,_,_,_,_,_,_]) rfl pH (qlt hm').1 rfl rfl (qlt hm').2 rfl ?_);refine lD zk ?_;refine gac ?_);exact zu ()):P:=t λ_=>h
theorem zQ13{P Q:Prop}(h:Q)(t:(Unit->Q)->P:=by intro zu;(refine oS (S.callS (H1:=H) (F:=[]) [_] rfl (by rw[zLz]) (qk8 _) ?_) rfl);exact zu ()):P:=t λ_=>h
theorem zQ14{P Q:Prop}(h:Q)(t:(Unit->Q)->P:=by intro zu;(refine gac ?_;refine oP (xR (el':=encE x) (cs:=[_,_,_,_]) rfl rfl zDd rfl rfl rfl) rfl ?_;refine gad ?_);exact zu ()):P:=t λ_=>h
theorem zQ15{P Q:Prop}(h:Q)(t:(Unit->Q)->P:=by intro zu;(refine oS (sL [_] rfl (qa3 [_]) rfl rfl rfl ?_) rfl);exact zu ()):P:=t λ_=>h
theorem zQ16{P Q:Prop}(h:Q)(t:(Unit->Q)->P:=by intro zu;(refine cD (m:=7) rfl [(b1,.cells 158 [.list (v.map str),.atom (.map (some m))])] ?_;refine aT 0 rfl rfl (pM (lv:=.atom _) rfl) ?_;refine aT 1 rfl rfl (pF rfl) ?_;refine aT 2 rfl rfl (pL (c:=.list _) rfl zm0 rfl) ?_;refine aT 3 rfl rfl (pM (lv:=.atom _) rfl) ?_;refine LAny.take (i:=4) zhr rfl zk zk zk rfl (Pure.lslice (es:=v.map str) (i:=0) (j:=(n:Int)) rfl rfl ⟨_,rfl⟩ zo zo (by rw[hla];omega) (qdk v)) ?_;refine aT 5 rfl rfl (pA (lv:=.atom _) rfl) ?_;refine aT 6 rfl rfl (pA (lv:=.list _) rfl) ?_);exact zu ()):P:=t λ_=>h
theorem zQ17{P Q:Prop}(h:Q)(t:(Unit->Q)->P:=by intro zu;(refine cD (m:=11) rfl [(b3,.cells 168 [int .i64 kind,str name,.list (([]:List Ex).map encE),.list ([x0].map encE),.list (thn.map encS),.list (els.map encS)])] ?_;refine aT 0 rfl rfl (pM (lv:=.atom _) rfl) ?_;refine aT 1 rfl rfl (pM (lv:=.atom _) rfl) ?_;refine aT 2 rfl rfl (pF rfl) ?_;refine aT 3 rfl rfl (pL (c:=.list _) rfl zm0 rfl) ?_;refine aT 5 rfl rfl (pM (lv:=.atom _) rfl) ?_;refine aT 6 rfl rfl (pF rfl) ?_;refine aT 7 rfl rfl (pL (c:=.list _) rfl zm0 rfl) ?_);exact zu ()):P:=t λ_=>h
theorem zQ18{P Q:Prop}(h:Q)(t:(Unit->Q)->P:=by intro zu;(refine oP (pM (lv:=v) rfl) rfl ?_);exact zu ()):P:=t λ_=>h
theorem zQ19{P Q:Prop}(h:Q)(t:(Unit->Q)->P:=by intro zu;(refine qdz.seq (qdz.recover rfl rfl ?_);refine qdz.of ?_);exact zu ()):P:=t λ_=>h
theorem zQ20{P Q:Prop}(h:Q)(t:(Unit->Q)->P:=by intro zu;(refine aT 9 rfl rfl (pM (lv:=.atom _) rfl) ?_;refine aT 10 rfl rfl (pN rfl) ?_;refine aT 11 rfl rfl (pF rfl) ?_;refine aT 12 rfl rfl (pL (c:=.atom _) rfl zm1 rfl) ?_;refine aL ?_ (zhP pH zhp));exact zu ()):P:=t λ_=>h
theorem zQ21{P Q:Prop}(h:Q)(t:(Unit->Q)->P:=by intro zu;(refine lH rfl rfl (pN rfl) ?_;refine zl1 (i:=12) zk ?_;refine lH rfl rfl (pF rfl) ?_;refine zl1 (i:=13) zk ?_;refine lW rfl (.inl rfl) rfl (sS (n:=1) (vs:=[v']) (cs':=[_,_,_,_,_,v',_,_,_,_,_]) rfl pH (qjo hacc').1 rfl rfl (qjo hacc').2 rfl ?_);refine lD zk ?_;refine gaa ?_;refine rR (H':=stH c { s with out:=s.out++[UInt8.ofNat a] } v' H') rfl (zra rfl) zhr ?_);exact zu ()):P:=t λ_=>h
theorem zQ22{P Q:Prop}(h:Q)(t:(Unit->Q)->P:=by intro zu;(refine lO 6 (lH rfl rfl (pF rfl) ?_);refine lO 7 (lW rfl (.inl rfl) rfl (sS (cs':=[v1,v',v3]) rfl zp1 (Acc.cell ha').1 rfl rfl (Acc.cell ha').2 rfl ?_));refine lD zk ?_;refine gab ?_);exact zu ()):P:=t λ_=>h
theorem zQ23{P Q:Prop}(h:Q)(t:(Unit->Q)->P:=by intro zu;(refine lO 6 (lH rfl rfl (pF rfl) ?_);refine lO 7 (lW rfl (.inl rfl) rfl (sS (cs':=[v1,v2,v']) rfl zp1 (Acc.cell ha').1 rfl rfl (Acc.cell ha').2 rfl ?_));refine lD zk ?_;refine gab ?_);exact zu ()):P:=t λ_=>h
theorem zQ24{P Q:Prop}(h:Q)(t:(Unit->Q)->P:=by intro zu;(refine qaI.seq (qaI.region ?_);refine gad ?_;refine qbX.defer rfl rfl ?_;refine qbX.nil ?_;refine qN ?_);exact zu ()):P:=t λ_=>h
theorem zQ25{P Q:Prop}(h:Q)(t:(Unit->Q)->P:=by intro zu;(refine gal ?_;refine oP (xR (el':=qcj l[i]) (cs:=[_,_]) rfl rfl zo (qbR _ _ _ hlt) rfl rfl) rfl ?_;refine gad ?_);exact zu ()):P:=t λ_=>h
theorem zQ26{P Q:Prop}(h:Q)(t:(Unit->Q)->P:=by intro zu;(refine zl1 (i:=8) zk ?_;refine lW rfl (.inl rfl) rfl (sL (es:=[int .u8 (IntKind.u8.wrap (v:Int))]) [_] rfl (eC rfl rfl eN) rfl rfl rfl ?_);refine zl1 (i:=9) zk ?_);exact zu ()):P:=t λ_=>h
theorem zQ27{P Q:Prop}(h:Q)(t:(Unit->Q)->P:=by intro zu;(refine lO 9 (lH rfl rfl (Pure.max3e (qbg c x0) (qbP c thn) (qbP c els) rfl rfl rfl rfl rfl rfl) ?_);refine lO 10 (lH rfl rfl (pA (lv:=.atom _) rfl) ?_);refine lD zk ?_;refine gaa ?_;refine oP (Pure.max2e 2 (max (max (qbg c x0) (qbP c thn)) (qbP c els)) rfl rfl rfl rfl) rfl ?_;refine gaf ?_);exact zu ()):P:=t λ_=>h
theorem zQ28{P Q:Prop}(h:Q)(t:(Unit->Q)->P:=by intro zu;(refine zQ10 ?_;refine aT 3 rfl rfl (pL (c:=.atom _) rfl zm1 rfl) ?_;refine aT 4 rfl rfl (pF rfl) ?_;refine aT 5 rfl rfl (pL (c:=.atom _) rfl zm0 rfl) ?_);exact zu ()):P:=t λ_=>h
theorem zQ29{P Q:Prop}(h:Q)(t:(Unit->Q)->P:=by intro zu;(refine lW rfl (.inl rfl) rfl (sS (cs':=[_]) rfl zp2 rfl rfl rfl rfl rfl ?_);refine zl1 (i:=2) zk ?_;refine lH rfl rfl (pL (c:=.atom _) rfl zm2 rfl) ?_;refine zl1 (i:=5) zk ?_;refine lW rfl (.inl rfl) rfl (sS (cs':=[_]) rfl zp2 rfl rfl rfl rfl rfl ?_);refine lD zk ?_;refine gab ?_);exact zu ()):P:=t λ_=>h
theorem zQ30{P Q:Prop}(h:Q)(t:(Unit->Q)->P:=by intro zu;(refine oP (pA (lv:=v') rfl) rfl ?_);exact zu ()):P:=t λ_=>h
theorem zQ31{P Q:Prop}(h:Q)(t:(Unit->Q)->P:=by intro zu;(refine aL ?_ zhr;refine zl1 (i:=1) zk ?_;refine lS (H1:=[]) rfl (.inl rfl) rfl zpr zhr (sF [] rfl hd ?_);refine zl1 (i:=2) zk ?_;refine lS (H1:=[]) rfl (.inl rfl) rfl zpr zhr (sF [_,_] rfl hcp ?_);refine zl1 (i:=3) zk ?_;refine lH rfl rfl (pM (lv:=.tuple _) rfl) ?_);exact zu ()):P:=t λ_=>h
theorem zQ32{P Q:Prop}(h:Q)(t:(Unit->Q)->P:=by intro zu;(refine lW rfl (.inl rfl) rfl (sS (cs':=[_,_,_]) rfl zp2 rfl rfl rfl rfl rfl ?_));exact zu ()):P:=t λ_=>h
theorem zQ33{P Q:Prop}(h:Q)(t:(Unit->Q)->P:=by intro zu;(refine qah.quiet zk ?_;refine gad ?_);exact zu ()):P:=t λ_=>h
theorem zQ34{P Q:Prop}(h:Q)(t:(Unit->Q)->P:=by intro zu;(refine qaI.seq (qaI.of ?_));exact zu ()):P:=t λ_=>h
theorem zQ35{P Q:Prop}(h:Q)(t:(Unit->Q)->P:=by intro zu;(refine aT 0 rfl rfl (pM (lv:=.atom _) rfl) ?_;refine aT 1 rfl rfl (pF rfl) ?_;refine aT 2 rfl rfl (pL (c:=.atom _) rfl zm0 rfl) ?_);exact zu ()):P:=t λ_=>h
theorem zQ36{P Q:Prop}(h:Q)(t:(Unit->Q)->P:=by intro zu;(refine lH rfl rfl (pA (lv:=.atom _) rfl) ?_;refine lD zk ?_);exact zu ()):P:=t λ_=>h
theorem zQ37{P Q:Prop}(h:Q)(t:(Unit->Q)->P:=by intro zu;(refine lW rfl (.inl rfl) rfl (sL [_] rfl (eC rfl rfl eN) rfl rfl rfl ?_));exact zu ()):P:=t λ_=>h
theorem zQ38{P Q:Prop}(h:Q)(t:(Unit->Q)->P:=by intro zu;(refine LAny.takeSkip (i:=3) rfl rfl rfl rfl zk zk zk rfl ?_;refine LAny.takeSkip (i:=4) rfl rfl rfl rfl zk zk zk rfl ?_;refine LAny.takeSkip (i:=5) rfl rfl rfl rfl zk zk zk rfl ?_;refine LAny.takeSkip (i:=6) rfl rfl rfl rfl zk zk zk rfl ?_);exact zu ()):P:=t λ_=>h
theorem zQ39{P Q:Prop}(h:Q)(t:(Unit->Q)->P:=by intro zu;(refine aT 1 rfl rfl (pF rfl) ?_;refine aT 2 rfl rfl (pL (c:=.list _) rfl zm0 rfl) ?_;refine aT 4 rfl rfl (pF rfl) ?_;refine aT 5 rfl rfl (pL (c:=.list _) rfl zm0 rfl) ?_;refine aT 8 rfl rfl (pM (lv:=.atom _) rfl) ?_;refine aL ?_ zhp);exact zu ()):P:=t λ_=>h
theorem zQ40{P Q:Prop}(h:Q)(t:(Unit->Q)->P:=by intro zu;(refine aT 2 rfl rfl (pM (lv:=.atom _) rfl) ?_);exact zu ()):P:=t λ_=>h
theorem zQ41{P Q:Prop}(h:Q)(t:(Unit->Q)->P:=by intro zu;(refine zQ18 ?_;refine oP (pA (lv:=v) rfl) rfl ?_;refine gaf ?_);exact zu ()):P:=t λ_=>h
theorem zQ42{P Q:Prop}(h:Q)(t:(Unit->Q)->P:=by intro zu;(refine qas.pre t1 (c := -20+60) (d:=0+60) (c1:=30) (d1:=50) ?_ (by omega) (by omega));exact zu ()):P:=t λ_=>h
theorem zQ43{P Q:Prop}(h:Q)(t:(Unit->Q)->P:=by intro zu;(refine lH rfl rfl (Pure.extract (c:=.atom _) rfl rfl) ?_);exact zu ()):P:=t λ_=>h
theorem zQ44{P Q:Prop}(h:Q)(t:(Unit->Q)->P:=by intro zu;(refine cD (m:=6) rfl [(b2,.cells 63 [ptr k.tb 0]),exB b3 op num name [x,y]] ?_;refine aT 0 rfl rfl (pL (c:=.atom _) rfl zm0 rfl) ?_;refine aT 1 rfl rfl (pF rfl) ?_;refine aT 2 rfl rfl (pL (c:=.list _) rfl zm1 rfl) ?_);exact zu ()):P:=t λ_=>h
theorem zQ45{P Q:Prop}(h:Q)(t:(Unit->Q)->P:=by intro zu;(refine gai ?_;refine oS (sF [] rfl haw ?_) rfl;refine gab ?_);exact zu ()):P:=t λ_=>h
theorem zQ46{P Q:Prop}(h:Q)(t:(Unit->Q)->P:=by intro zu;(refine aT 5 rfl rfl (pM (lv:=.atom _) rfl) ?_;refine aT 6 rfl rfl (pN rfl) ?_;refine aT 7 rfl rfl (pF rfl) ?_);exact zu ()):P:=t λ_=>h
theorem zQ47{P Q:Prop}(h:Q)(t:(Unit->Q)->P:=by intro zu;(refine lO 4 (lW rfl (.inl rfl) rfl (sL [_] rfl (eC rfl rfl eN) rfl rfl rfl ?_)));exact zu ()):P:=t λ_=>h
theorem zQ48{P Q:Prop}(h:Q)(t:(Unit->Q)->P:=by intro zu;(refine oP (xR (el':=qaM f) (n:=((fs.map qaM).length:Int)-1) (cs:=[str f.name,.list (f.params.map str),.list (f.locals.map str),.list (f.body.map encS)]) rfl rfl hn0 hget rfl rfl) rfl ?_;refine gad ?_);exact zu ()):P:=t λ_=>h
theorem zQ49{P Q:Prop}(h:Q)(t:(Unit->Q)->P:=by intro zu;(refine zl1 (i:=13) zk ?_;refine lH rfl rfl (Pure.add rfl rfl zo) ?_;refine zl1 (i:=14) zk ?_;refine lH rfl rfl (Pure.add rfl rfl zo) ?_;refine zl1 (i:=15) zk ?_;refine zQ36 ?_;refine qN ?_);exact zu ()):P:=t λ_=>h
theorem zQ50{P Q:Prop}(h:Q)(t:(Unit->Q)->P:=by intro zu;(refine gac ?_;refine oP (xR (el':=encE v) (cs:=[_,_,_,_]) rfl rfl zDd rfl rfl rfl) rfl ?_;refine gad ?_);exact zu ()):P:=t λ_=>h
theorem zQ51{P Q:Prop}(h:Q)(t:(Unit->Q)->P:=by intro zu;(refine lD zk ?_;refine gab ?_);exact zu ()):P:=t λ_=>h
theorem zQ52{P Q:Prop}(h:Q)(t:(Unit->Q)->P:=by intro zu;(refine zQ18 ?_;refine oP (xR (el':=iv n0) (cs:=[iv n0]) hel rfl zo rfl rfl rfl) rfl ?_;refine gad ?_);exact zu ()):P:=t λ_=>h
theorem zQ53{P Q:Prop}(h:Q)(t:(Unit->Q)->P:=by intro zu;(refine zQ9 ?_;refine aT 5 rfl rfl (pF rfl) ?_;refine aT 6 rfl rfl (pL (c:=.atom _) rfl zm0 rfl) ?_);exact zu ()):P:=t λ_=>h
theorem zQ54{P Q:Prop}(h:Q)(t:(Unit->Q)->P:=by intro zu;(refine PW.once h hw ?_ (by rw[qjA zDd];exact zNr 1));exact zu ()):P:=t λ_=>h
theorem zQ55{P Q:Prop}(h:Q)(t:(Unit->Q)->P:=by intro zu;(refine gaf ?_;refine rR rfl (zra rfl) zhr ⟨rfl,?_⟩);exact zu ()):P:=t λ_=>h
theorem zQ56{P Q:Prop}(h:Q)(t:(Unit->Q)->P:=by intro zu;(refine cD (m:=8) rfl [(b1,.cells 158 [.list (v.map str),.atom (.map (some m))])] ?_;refine aT 0 rfl rfl (pM (lv:=.atom _) rfl) ?_;refine aT 1 rfl rfl (pM (lv:=.atom _) rfl) ?_);exact zu ()):P:=t λ_=>h
theorem zQ57{P Q:Prop}(h:Q)(t:(Unit->Q)->P:=by intro zu;(refine oS (sF [] rfl hd ?_) rfl;refine oP (Pure.field0 rfl) rfl ?_);exact zu ()):P:=t λ_=>h
theorem zQ58{P Q:Prop}(h:Q)(t:(Unit->Q)->P:=by intro zu;(refine oS (S.insertK (kt:=84) (el:=144) (kd:=.u32) zk zk rfl rfl rfl pH rfl rfl ?_) rfl;refine oS (S.insertK (kt:=84) (el:=144) (kd:=.u32) zk zk rfl rfl rfl pH rfl rfl ?_) rfl);exact zu ()):P:=t λ_=>h
theorem zQ59{P Q:Prop}(h:Q)(t:(Unit->Q)->P:=by intro zu;(refine lO 7 (lH rfl rfl (Pure.indexRowE (o:=a) rfl rfl zo zo zo) ?_));exact zu ()):P:=t λ_=>h
theorem zQ60{P Q:Prop}(h:Q)(t:(Unit->Q)->P:=by intro zu;(refine lO 5 (lH rfl rfl (pF rfl) ?_);refine lO 6 (lW rfl (.inl rfl) rfl (sS (cs':=[v',v2,v3]) rfl zp1 (Acc.cell ha').1 rfl rfl (Acc.cell ha').2 rfl ?_));refine zQ51 ?_);exact zu ()):P:=t λ_=>h
theorem zQ61{P Q:Prop}(h:Q)(t:(Unit->Q)->P:=by intro zu;(refine qaI.seq (qaI.region ?_);refine gad ?_);exact zu ()):P:=t λ_=>h
theorem zQ62{P Q:Prop}(h:Q)(t:(Unit->Q)->P:=by intro zu;(refine aL ?_ zhr;refine lO 1 (lS (H1:=[]) rfl (.inl rfl) rfl zpr zhr (sF [_,_] rfl k0 ?_)));exact zu ()):P:=t λ_=>h
theorem zQ63{P Q:Prop}(h:Q)(t:(Unit->Q)->P:=by intro zu;(refine qbX.nil ?_;refine qN ?_);exact zu ()):P:=t λ_=>h
theorem zQ64{P Q:Prop}(h:Q)(t:(Unit->Q)->P:=by intro zu;(refine lD zk ?_;refine gaa ?_);exact zu ()):P:=t λ_=>h
theorem zQ65{P Q:Prop}(h:Q)(t:(Unit->Q)->P:=by intro zu;(refine gal ?_;refine oP (xR (el':=encArG s) (cs:=[str s.1,int .i64 s.2]) rfl rfl zo (by rw[hLe];exact get_mid encArG pre s l2) rfl rfl) rfl ?_;refine gad ?_);exact zu ()):P:=t λ_=>h
theorem zQ66{P Q:Prop}(h:Q)(t:(Unit->Q)->P:=by intro zu;(refine aT 6 rfl rfl (pF rfl) ?_;refine aT 7 rfl rfl (pL (c:=.atom _) rfl zm0 rfl) ?_);exact zu ()):P:=t λ_=>h
theorem zQ67{P Q:Prop}(h:Q)(t:(Unit->Q)->P:=by intro zu;(refine lH rfl rfl (pL (c:=.atom _) rfl zm1 rfl) ?_);exact zu ()):P:=t λ_=>h
theorem zQ68{P Q:Prop}(h:Q)(t:(Unit->Q)->P:=by intro zu;(refine gab ?_;refine oP (pI (c:=c1) rfl rfl zDd rfl) rfl ?_);exact zu ()):P:=t λ_=>h
theorem zQ69{P Q:Prop}(h:Q)(t:(Unit->Q)->P:=by intro zu;(refine gac ?_;refine oP (Pure.quo rfl rfl zDd zo zo) rfl ?_);exact zu ()):P:=t λ_=>h
theorem zQ70{P Q:Prop}(h:Q)(t:(Unit->Q)->P:=by intro zu;(refine gab ?_;refine oP (pI (c:=a) rfl rfl zo hget) rfl ?_);exact zu ()):P:=t λ_=>h
theorem zQ71{P Q:Prop}(h:Q)(t:(Unit->Q)->P:=by intro zu;(refine gaa ?_;refine oS (sL [_,_,_] rfl (qa3 [_,_,_]) rfl rfl rfl ?_) rfl);exact zu ()):P:=t λ_=>h
theorem zQ72{P Q:Prop}(h:Q)(t:(Unit->Q)->P:=by intro zu;(refine gab ?_;refine qah.tail 6 zk ?_;refine gad ?_;refine lP (xR (el':=encE x0) (cs:=[_,_,_,_]) rfl rfl zo rfl rfl rfl) rfl ?_;refine gad ?_);exact zu ()):P:=t λ_=>h
theorem zQ73{P Q:Prop}(h:Q)(t:(Unit->Q)->P:=by intro zu;(refine lH rfl rfl (pA (lv:=.atom _) rfl) ?_;refine zl1 (i:=5) zk ?_;refine zQ43 ?_;refine zl1 (i:=7) zk ?_;refine zQ36 ?_;refine qN ?_);exact zu ()):P:=t λ_=>h
theorem zQ74{P Q:Prop}(h:Q)(t:(Unit->Q)->P:=by intro zu;(refine zl1 (i:=1) zk ?_;refine zQ4 ?_);exact zu ()):P:=t λ_=>h
theorem zQ75{P Q:Prop}(h:Q)(t:(Unit->Q)->P:=by intro zu;(refine gal ?_;refine oP (xR (el':=qeU a) (cs:=[qeU a]) rfl rfl zo (by rw[hLe];exact get_mid qeU pre a l2) rfl rfl) rfl ?_;refine gac ?_);exact zu ()):P:=t λ_=>h
theorem zQ76{P Q:Prop}(h:Q)(t:(Unit->Q)->P:=by intro zu;(refine gal ?_;refine oP (xR (el':=qaM s) (cs:=[_,_,_,_]) rfl rfl zo (by rw[hLe];exact get_mid qaM pre s l2) rfl rfl) rfl ?_;refine gad ?_);exact zu ()):P:=t λ_=>h
theorem zQ77{P Q:Prop}(h:Q)(t:(Unit->Q)->P:=by intro zu;(refine lS (H1:=[]) rfl (.inl rfl) rfl zpr zhr (S.callH (H1:=[]) (F:=[]) [_] rfl zpr (ih els zo zo) ?_ (by rintro ch H' ⟨_,nm,h,_⟩;cases h)));exact zu ()):P:=t λ_=>h
theorem zQ78{P Q:Prop}(h:Q)(t:(Unit->Q)->P:=by intro zu;(refine gal ?_;refine oP (xR (el':=str s) (cs:=[str s]) rfl rfl zo (by rw[hLe];exact get_mid str pre s l2) rfl rfl) rfl ?_;refine gac ?_);exact zu ()):P:=t λ_=>h
theorem zQ79{P Q:Prop}(h:Q)(t:(Unit->Q)->P:=by intro zu;(refine zQ18 ?_;refine gab ?_);exact zu ()):P:=t λ_=>h
theorem zQ80{P Q:Prop}(h:Q)(t:(Unit->Q)->P:=by intro zu;(refine lD zk ?_;refine qN ?_);exact zu ()):P:=t λ_=>h
theorem zQ81{P Q:Prop}(h:Q)(t:(Unit->Q)->P:=by intro zu;(refine oS (sF [_,_] rfl k0 ?_) rfl);exact zu ()):P:=t λ_=>h
theorem zQ82{P Q:Prop}(h:Q)(t:(Unit->Q)->P:=by intro zu;(refine gac ?_;refine oS (S.fnIf [_,_] rfl kj ?_) rfl);exact zu ()):P:=t λ_=>h
theorem zQ83{P Q:Prop}(h:Q)(t:(Unit->Q)->P:=by intro zu;(refine gal ?_;refine oP (xR (el':=Chk.encArG arrays[i]) (cs:=[_,_]) rfl rfl zo (qbR _ _ _ hlt) rfl rfl) rfl ?_;refine gad ?_);exact zu ()):P:=t λ_=>h
theorem zQ84{P Q:Prop}(h:Q)(t:(Unit->Q)->P:=by intro zu;(refine zl1 (i:=7) zk ?_;refine zQ36 ?_;refine gaf ?_;refine⟨⟨mb,mm,bm⟩,trivial,⟨rfl,rfl,rfl,rfl,trivial⟩,?_,rfl⟩);exact zu ()):P:=t λ_=>h
theorem zT0{P : Prop}(h : P := by
  simp only[qfy]
  rw[Array.getD_eq_getD_getElem?]
  rcases Nat.lt_or_ge i args.length with hi|hi
  ·rw[zRl hi]
   obtain⟨x,hx,hr⟩:=hv.get (zRl hi)
   have hxi:(vs.toArray++Array.replicate (fn.ntmps-vs.toArray.size) undef)[i]? = some x:=by
    rw[Array.getElem?_append_left (by simp;omega)]
    simpa using hx
   rw[hxi]
   exact hr
  ·rw[List.getElem?_eq_none hi]
   have hxi:((vs.toArray++Array.replicate (fn.ntmps-vs.toArray.size) undef)[i]?).getD undef=undef:=by
    rw[Array.getElem?_append_right (by simp;omega)]
    rw[Array.getElem?_replicate]
    try split <;> rfl
   rw[hxi]
   simp only[Option.getD_none,Rep]) : P := h
theorem zT1{P : Prop}(h : P := by
  refine zl1 (i:=10) zk ?_
  refine lW rfl (.inl rfl) rfl (S.appM (HM:=HC) (F:=_::(HD3++(k.memH s.mem::k.binH::HO))) rfl qxf hC rfl (by simp;rfl) rfl (by simp;omega) λv' H' hm'=>?_)
  refine zQ12 ?_
  have hm3:MRow 84 1 v' (us (s.pc::s.calls).reverse) H':=by
   rw[List.reverse_cons,qg3]
   exact hm'
  exact rO hjj rN ⟨[],by rw[zLz];exact zPc.trans qxf.symm⟩ ⟨rfl,v',H',vo,HO,_::HD3,hm3,hO,⟨vd2,HD3,hm2,rfl⟩,rfl⟩) : P := h
theorem zT2{P : Prop}(h : P := by
  refine zl1 (i:=6) zk ?_
  refine lz rfl rfl (S.kvNew λfm=>?_)
  refine zQ1 ?_
  refine lz rfl rfl (sB rfl λrb=>?_)
  refine zQ0 ?_
  exact hz) : P := h
theorem zT3{P : Prop}(h : P := by
  refine zl1 (i:=5) zk ?_
  refine lz rfl rfl (S.kvNew λam=>?_)
  refine zQ1 ?_
  refine lz rfl rfl (sB rfl λrb=>?_)
  refine zQ0 ?_
  exact hz) : P := h
theorem zT4{P : Prop}(h : P := by
  refine zl1 (i:=4) zk ?_
  refine lz rfl rfl (S.kvNew λsm=>?_)
  refine zQ1 ?_
  refine lz rfl rfl (sB rfl λrb=>?_)
  refine zQ0 ?_
  exact hz) : P := h
theorem zT5{P : Prop}(h : P := by
  refine gab ?_
  exact⟨⟨rfl,rfl,rfl,qau (hc.trans (dig_t (zt hc) zDd)),trivial⟩,rfl,rfl⟩) : P := h
theorem zT6{P : Prop}(h : P := by
  rw[hr2,h3,qat] at hI
  refine gae ?_
  exact qad.panic (he'.trans (hj2.trans hj)) (qt7 (A:=[(b5,LObj.cells 170 [str (exOp ex),int .u32 (qeE ex),str (qcM ex),.list (qbS ex)]),(b,LObj.cells 170 [str [],int .u32 0,str [],qab])]) (B:=[(bo,LObj.cells 246 [.atom (.func (.func fn) first caps)]),(bs,LObj.cells 58 [ptr sb 0]),(bp,LObj.cells 24 [.list ((qb3 k).map str)]),(bn,LObj.cells 4 [bool (decide ((k:Int)=2))])])) (by cases hI;exact⟨rfl,i3,op3,rfl⟩)) : P := h
theorem zT7{P : Prop}(h : P := by
  rw[hr2,h3,qat] at hI
  refine gae ?_
  exact panP (he'.trans (hj2.trans hj)) (by cases hI;rfl) zhp) : P := h
theorem zT8{P : Prop}(h : P := by
  refine zl1 (i:=1) zk ?_
  refine lH rfl rfl (pL (c:=.atom _) rfl zm2 rfl) ?_
  refine zQ5 ?_
  have hp:qc3 s=(noPr,l,er):=by rw[qc3,hL]
  rw[hp]
  exact⟨[qfk noPr,int .i64 l,int .i64 er],[],rC (rA (k:=3) (cs:=[qab,qab,qab]) rfl memA rfl (vA (bs:=[.list [],.list [],.list []]) ⟨vN,vN,vN,trivial⟩)) (rC (qcU.cellOne (cs:=[int .i64 l]) rfl memA rfl zsr) (rC (qcU.cellOne (cs:=[int .i64 er]) rfl memA rfl zsr) rN)),HSub.nil _,rfl,rfl⟩) : P := h
theorem zT9{P : Prop}(h : P := by
  refine zQ3 ?_
  simp only[q1,q2,zRs,Bool.and_false,Bool.true_and]
  rfl) : P := h
theorem zT10{P : Prop}(h : P := by
  refine zl1 (i:=3) zk ?_
  refine zQ32 ?_
  refine zQ5 ?_
  have hp:qc3 s=(noPr,l,er):=by rw[qc3,hL]
  rw[hp]
  exact⟨[qfk noPr,int .i64 l,int .i64 er],[],rC (rA (k:=3) (cs:=[qab,qab,qab]) rfl memA rfl (vA (bs:=[.list [],.list [],.list []]) ⟨vN,vN,vN,trivial⟩)) (rC (qcU.cellOne (cs:=[int .i64 l]) rfl memA rfl zsr) (rC (qcU.cellOne (cs:=[int .i64 er]) rfl memA rfl zsr) rN)),HSub.nil _,rfl,rfl⟩) : P := h
theorem zT11{P : Prop}(h : P := by
  refine zQ3 ?_
  simp only[q1,zRs,Bool.and_false,Bool.true_and]
  rfl) : P := h
theorem zT12{P : Prop}(h : P := by
  rw[hr2,h4,qan] at hI
  obtain⟨g1,g2,g3,rfl⟩:=(qcW T k).1 0 _ _ _ (hr2.trans (congrArg some h4))
  have g5:=g3 zo
  have g6:=g2 rfl
  refine zQ2 ?_
  refine oS (S.acc1 rfl hacc rfl (by simp;rfl) rfl (by simp;omega) λv' H' hacc'=>?_) rfl
  refine zQ30 ?_
  refine gab ?_
  exact⟨k,_,_,by omega,⟨v',l++[e2],i4,H',by omega,rfl,rfl,by rw[zMa];exact hacc',by omega,by simp;omega,hI⟩,⟨rfl,rfl,trivial⟩,zhR _,hj⟩) : P := h
theorem zT13{P : Prop}(h : P := by
  refine zl1 (i:=7) zk ?_
  refine lH rfl rfl (Pure.cvt rfl) ?_
  refine zQ26 ?_
  refine lW rfl (.inl rfl) rfl (sG (A:=_::(HD3++(k.memH s.mem::k.binH::HC))) qp2 rfl hO rfl (λv hv=>by rw[zRa hv];rfl) rfl hroom2 λv' H' hacc'=>?_)
  rw[e1] at hacc'
  refine zQ7 ?_
  exact rO hjj rN ⟨[],by rw[zLz];exact zPc.trans qp2.symm⟩ ⟨rfl,vc,HC,v',H',_::HD3,hC,hacc',⟨vd2,HD3,hm2,rfl⟩,rfl⟩) : P := h
theorem zT14{P : Prop}(h : P := by
  refine zQ67 ?_
  refine zQ5 ?_
  have hp:qc3 s=(noPr,l,er):=by rw[qc3,hL]
  rw[hp]
  exact⟨[qfk noPr,int .i64 l,int .i64 er],[],rC (rA (k:=3) (cs:=[qab,qab,qab]) rfl memA rfl (vA (bs:=[.list [],.list [],.list []]) ⟨vN,vN,vN,trivial⟩)) (rC (qcU.cellOne (cs:=[int .i64 l]) rfl memA rfl zsr) (rC (qcU.cellOne (cs:=[int .i64 er]) rfl memA rfl zsr) rN)),HSub.nil _,rfl,rfl⟩) : P := h
theorem zT15{P : Prop}(h : P := by
  refine zQ3 ?_
  simp only[q1,q2,q3,zRs,Bool.and_false,Bool.true_and]
  rfl) : P := h
theorem zT16{P : Prop}(h : P := by
  refine zQ29 ?_
  have hp:qc3 s=(noPr,l,er):=by rw[qc3,hL]
  rw[hp]
  exact⟨[qfk noPr,int .i64 l,int .i64 er],[],rC (rA (k:=3) (cs:=[qab,qab,qab]) rfl memA rfl (vA (bs:=[.list [],.list [],.list []]) ⟨vN,vN,vN,trivial⟩)) (rC (qcU.cellOne (cs:=[int .i64 l]) rfl memA rfl zsr) (rC (qcU.cellOne (cs:=[int .i64 er]) rfl memA rfl zsr) rN)),HSub.nil _,rfl,rfl⟩) : P := h
theorem zT17{P : Prop}(h : P := by
  intro h
  have h':_:=zt h
  obtain⟨a1,a2,a3,a4,a5⟩:=h'
  exact⟨⟨⟨⟨by simpa using a1,by omega⟩,by omega⟩,by omega⟩,by omega⟩) : P := h
theorem zT18{P : Prop}(h : P := by
  refine oS (S.callV (f:=59) (first:=#[]) (caps:=#[]) (H1:=[divH db]) (F:=[]) [_] rfl rfl (by simp) qfB ?_ ?_) rfl
  ·rintro v H' ⟨rfl,h⟩
   rw[zp h0] at h
   cases h
  ·rintro ch H' ⟨rfl,h⟩ e' he'
   rw[zp h0] at h
   cases h
   refine gak ?_
   exact qad.panic (he'.trans rfl) zhr ⟨rfl,by rw[zp h0]⟩) : P := h
theorem zT19{P : Prop}(h : P := by
  have e3:n<i:=by have:=zf h3;omega
  rw[zp e3] at hD
  refine gab ?_
  refine zQ16 ?_
  refine aL ?_ zhr
  refine lD zk ?_
  refine gaf ?_
  exact qak (hj2.trans (hj1.trans hj)) (rC (zrt rfl) (rC (rT (v:=.list _) rfl zsr) rN)) (by rw[hD];exact congrArg (λx=>LV.tuple [int .i64 (i:Nat),.list x]) List.map_take.symm)) : P := h
theorem zT20{P : Prop}(h : P := by
  refine zQ3 ?_
  simp only[q1,q2,q3,q4,zRs,Bool.and_false,Bool.true_and]
  rfl) : P := h
theorem zT21{P : Prop}(h : P := by
  rintro⟨⟨⟨⟨a1,a2⟩,a3⟩,a4⟩,a5⟩
  exact zRp ⟨by simpa using a1,by omega,by omega,by omega,by omega⟩) : P := h
theorem zT22{P : Prop}(h : P := by
  refine zl1 (i:=10) zk ?_
  refine lW rfl (.inl rfl) rfl (sG (quX c s v Ha) rfl hacc rfl (λv hv=>by rw[zRa hv];rfl) rfl hroom2 λv' H' hacc'=>?_)
  rw[qxB]
  rw[e1] at hacc'
  refine zl1 (i:=11) zk ?_
  refine zQ21 ?_
  rw[<-hI]
  exact⟨rfl,hl,hle,v',H',hacc',rfl⟩) : P := h
theorem zT23{P : Prop}(h : P := by
  refine gaa ?_
  exact qak rfl (rC (zrt rfl) (rC (rT (v:=qab) rfl vN) rN)) (by rw[hF];rfl)) : P := h
theorem zT24{P : Prop}(h : P := by
  refine zl1 (i:=5) zk ?_
  refine lH rfl rfl (pB _ (cs:=[_,_,_,_,_,_,_,_,_,_]) rfl) ?_
  refine zl1 (i:=6) zk ?_
  refine lW rfl (.inl rfl) rfl (sB rfl λmb=>?_)
  refine zQ84 ?_
  first
   |exact zhP pH (zhP pH (zhP pH zhr))
   |exact zhP pH (zhP zp1 (zhP pH zhr))) : P := h
theorem zT25{P : Prop}(h : P := by
  rw[hr1,h2,qat] at hr
  refine gae ?_
  exact panP (he'.trans hj) (by cases hr;rfl) zhp) : P := h
theorem zT26{P : Prop}(h : P := by
  rw[h1,qat] at hr
  refine gak ?_
  exact panP (he'.trans rfl) (by cases hr;rfl) zhp) : P := h
theorem zT27{P : Prop}(h : P := by
  have hk:¬ k=2:=by have:=zf hk2;omega
  rw[zn hk] at hI
  refine gab ?_
  exact⟨q,_,_,by omega,⟨.mk (qiv T i2) 0 [] [ex,e2],i3,by omega,rfl,rfl,q4,hI⟩,⟨rfl,rfl,rfl,rfl,rfl,rfl,trivial⟩,(by rw[qjz];exact zhR _),hj2.trans hj⟩) : P := h
theorem zT28{P : Prop}(h : P := by
  rw[hr1,h1,qat] at hr
  refine gae ?_
  exact panP zb0 (by cases hr;rfl) zhp) : P := h
theorem zT29{P : Prop}(h : P := by
  rw[h,Bool.true_and] at r1
  refine gab ?_
  refine oS (sF [_] rfl (qmw _ hlen) ?_) rfl
  refine gab ?_
  exact qcf rfl (rC (rT (v:=.atom _) rfl (vR _)) (rC (rT (v:=.atom _) rfl (vR _)) rN)) (qbw.mk r1 r2)) : P := h
theorem zT30{P : Prop}(h : P := by
  right
  cases h:qbr v with
  |none=>rfl
  |some s=>exact absurd ⟨hc,s,h⟩ h3) : P := h
theorem zT31{P : Prop}(h : P := by
  have hRt:R=.trap s:=by
   rw[<-hR2]
   unfold ldM
   cases hd:s.data with
   |nil=>rfl
   |cons x r=>simp only;rw[zn (hb x r hd)]
  subst hRt
  refine gae ?_
  exact qad.panic (he'.trans hjj) zhr (mkT _ _ hD')) : P := h
theorem zT32{P : Prop}(h : P := by
  rw[h1,qat] at hr
  refine gae ?_
  exact panP zb0 (by cases hr;rfl) zhp) : P := h
theorem zT33{P : Prop}(h : P := by
  rw[h3,qat] at hr
  refine gae ?_
  exact panP zb0 (by cases hr;rfl) zhp) : P := h
theorem zT34{P : Prop}(h : P := by
  have hk:k=2:=by have:=zt hk2;omega
  rw[zp hk] at hI
  refine gac ?_
  exact rR (hj2.trans hj) (rC (rA rfl zm0 rfl zsr) rN) (zhD (zhD zhr)) (by cases hI;exact⟨by rw[qcH];rfl,rfl⟩)) : P := h
theorem zT35{P : Prop}(h : P := by
  refine zQ43 ?_
  refine zl2 (i:=5) (j:=6) zk ?_ ?_
  ·refine zQ11 ?_
   exact⟨⟨rfl,rfl,rfl,rfl,rfl,trivial⟩,rfl,rfl⟩
  ·refine zQ73 ?_
   exact⟨⟨rfl,rfl,rfl,rfl,rfl,trivial⟩,rfl,rfl⟩) : P := h
theorem zT36{P : Prop}(h : P := by
  refine lz rfl rfl (S.kvNew λfm=>?_)
  refine zQ74 ?_
  rintro lv H' ⟨om,db,oc,h,rfl⟩
  cases h
  refine zQ1 ?_
  refine lz rfl rfl (sB rfl λrb=>?_)
  refine zQ0 ?_
  exact hz) : P := h
theorem zT37{P : Prop}(h : P := by
  refine lz rfl rfl (S.kvNew λam=>?_)
  refine zQ74 ?_
  rintro lv H' ⟨om,db,oc,h,rfl⟩
  cases h
  refine zQ1 ?_
  refine lz rfl rfl (sB rfl λrb=>?_)
  refine zQ0 ?_
  exact hz) : P := h
theorem zT38{P : Prop}(h : P := by
  refine lz rfl rfl (S.kvNew λsm=>?_)
  refine zQ74 ?_
  rintro lv H' ⟨om,db,oc,h,rfl⟩
  cases h
  refine zQ1 ?_
  refine lz rfl rfl (sB rfl λrb=>?_)
  refine zQ0 ?_
  exact hz) : P := h
theorem zT39{P : Prop}(h : P := by
  have e3:¬ n<i:=by have:=zt h3;omega
  rw[zn e3] at hD
  refine gaa ?_
  exact qak (hj2.trans (hj1.trans hj)) (rC (zrt rfl) (rC (rT (v:=qab) rfl vN) rN)) (by rw[hD];rfl)) : P := h
theorem zT40{P : Prop}(h : P := by
  injection h with h
  subst h
  simp) : P := h
theorem zT41{P : Prop}(h : P := by
  rw[h,Bool.true_and] at r1
  refine gab ?_
  refine oS (sF [_] rfl (qe5 _ hlen) ?_) rfl
  refine gab ?_
  exact qcf rfl (rC (zrt rfl) (zra rfl)) (qbw.mk r1 r2)) : P := h
namespace Go.GL
variable{K:List Nat}{P:Program}{Q:Prop}{a:Int}{aft:Array Edge}{ats:Array TypeId}{b bytes cap d e2 el i j k len n off s s2 sT t ty' xT:Nat}{c:Code}{dst:Option Nat}{f:FuncId}{hi lo:Option Operand}{new xs zs:List Value}{o:Oper}{ops:Array Oper}{pos:String}{rest:List Oper}{rs:List ResultVar}{tmps:Array Value}{ty:TypeId}{u v x xv:Value}{w w':World}{ρ:Operand->Value}
theorem zMt{α:Type _}{a b:α}{l:List α}(h:a∈l):a∈b::l:=List.Mem.tail _ h
theorem zo{P:Prop}(h:P:=by omega):P:=h
theorem zk{P:Prop}(h:P:=by kernel_rfl):P:=h
theorem zpr{α:Type _}{l:List α}:l.Perm l:=List.Perm.refl _
theorem zm0{α:Type _}{a:α}{l:List α}:a∈a::l:=(zRm)
theorem zm1{α:Type _}{a b:α}{l:List α}:b∈a::b::l:=(zMt (zRm))
theorem zm2{α:Type _}{a b c:α}{l:List α}:c∈a::b::c::l:=(zMt (zMt (zRm)))
theorem zm3{α:Type _}{a b c d:α}{l:List α}:d∈a::b::c::d::l:=(zMt (zMt (zMt (zRm))))
theorem zm4{α:Type _}{a b c d e:α}{l:List α}:e∈a::b::c::d::e::l:=(zMt (zMt (zMt (zMt (zRm)))))
theorem zm5{α:Type _}{a b c d e f:α}{l:List α}:f∈a::b::c::d::e::f::l:=(zMt (zMt (zMt (zMt (zMt (zRm))))))
theorem zm6{α:Type _}{a b c d e f g:α}{l:List α}:g∈a::b::c::d::e::f::g::l:=(zMt (zMt (zMt (zMt (zMt (zMt (zRm)))))))
theorem zm7{α:Type _}{a b c d e f g h:α}{l:List α}:h∈a::b::c::d::e::f::g::h::l:=(zMt (zMt (zMt (zMt (zMt (zMt (zMt (zRm))))))))
theorem zm8{α:Type _}{a b c d e f g h i:α}{l:List α}:i∈a::b::c::d::e::f::g::h::i::l:=(zMt (zMt (zMt (zMt (zMt (zMt (zMt (zMt (zRm)))))))))
theorem zb0{P:Prop}(h:P:=by first|exact he9.trans rfl|exact he9.trans hj|exact he9.trans (hj2.trans hj)):P:=h
theorem zb1{P:Prop}(h:P:=by first|exact pH|exact pT pH|exact pT (pT (pH))|exact pT (pT (pT (pH)))|exact pT (pT (pT (pT (pH))))|exact pT (pT (pT (pT (pT (pH)))))|exact pT (pT (pT (pT (pT (pT (pH))))))|exact pT (pT (pT (pT (pT (pT (pT (pH)))))))):P:=h
theorem zt{p:Prop} [Decidable p](h:decide p=true):p:=zRi h
theorem zf{p:Prop} [Decidable p](h:decide p=false):¬p:=of_decide_eq_false h
theorem gaa{P:Prop}(h:Q)(t:(Unit->Q)->P:=by intro h;(repeat first|refine qN ?_|refine LOps.nil ?_|refine qah.region ?_|refine qah.seq ?_|refine oP (pM (lv:=.atom _) rfl) rfl ?_|refine oP (pA (lv:=.atom _) rfl) rfl ?_|refine qah.ret ?_|refine oP (pF rfl) rfl ?_|refine qah.skip ?_|refine LOps.want rfl rfl ?_|refine qaw.ret ?_|refine qah.block ?_|refine qam.normal ?_|refine qaw.panic ?_|refine oP (pL (c:=.atom _) rfl (zRm) rfl) rfl ?_|refine oP (Pure.pickT (lv:=.atom _) rfl rfl) rfl ?_|refine oP (Pure.pickF (lv:=.atom _) rfl rfl) rfl ?_|refine LOps.skip rfl rfl rfl rfl ?_|refine qam.panic ?_|refine qam.ret ?_|refine oP (Pure.eql rfl rfl) rfl ?_|refine oP (Pure.add rfl rfl (by omega)) rfl ?_|refine oP (pN rfl) rfl ?_|refine oP (Pure.extract (c:=.atom _) rfl rfl) rfl ?_|refine oP (Pure.lss rfl rfl) rfl ?_|refine qam.hit ?_|refine qaw.exit ?_|refine qah.exit ?_|refine oP (pM (lv:=.tuple _) rfl) rfl ?_|refine oP (Pure.seq rfl rfl) rfl ?_|refine oP (Pure.llen rfl) rfl ?_|refine oP (pM (lv:=.list _) rfl) rfl ?_);exact h ()):P:=t λ_=>h
theorem gab{P:Prop}(h:Q)(t:(Unit->Q)->P:=by intro h;(repeat first|refine qN ?_|refine LOps.nil ?_|refine qah.seq ?_|refine oP (pM (lv:=.atom _) rfl) rfl ?_|refine oP (pA (lv:=.atom _) rfl) rfl ?_|refine qah.ret ?_|refine oP (pF rfl) rfl ?_|refine qah.skip ?_|refine LOps.want rfl rfl ?_|refine qaw.ret ?_|refine qah.block ?_|refine qam.normal ?_|refine qaw.panic ?_|refine oP (pL (c:=.atom _) rfl (zRm) rfl) rfl ?_|refine oP (Pure.pickT (lv:=.atom _) rfl rfl) rfl ?_|refine oP (Pure.pickF (lv:=.atom _) rfl rfl) rfl ?_|refine LOps.skip rfl rfl rfl rfl ?_|refine qam.panic ?_|refine qam.ret ?_|refine oP (Pure.eql rfl rfl) rfl ?_|refine oP (Pure.add rfl rfl (by omega)) rfl ?_|refine oP (pN rfl) rfl ?_|refine oP (Pure.extract (c:=.atom _) rfl rfl) rfl ?_|refine oP (Pure.lss rfl rfl) rfl ?_|refine qam.hit ?_|refine qaw.exit ?_|refine qah.exit ?_|refine oP (pM (lv:=.tuple _) rfl) rfl ?_|refine oP (Pure.seq rfl rfl) rfl ?_|refine oP (Pure.llen rfl) rfl ?_|refine oP (pM (lv:=.list _) rfl) rfl ?_);exact h ()):P:=t λ_=>h
theorem gac{P:Prop}(h:Q)(t:(Unit->Q)->P:=by intro h;(repeat first|refine qN ?_|refine LOps.nil ?_|refine qah.region ?_|refine qah.seq ?_|refine oP (pM (lv:=.atom _) rfl) rfl ?_|refine oP (pA (lv:=.atom _) rfl) rfl ?_|refine qah.ret ?_|refine oP (pF rfl) rfl ?_|refine qah.skip ?_|refine LOps.want rfl rfl ?_|refine qaw.ret ?_|refine qah.block ?_|refine qam.normal ?_|refine oP (pL (c:=.atom _) rfl (zRm) rfl) rfl ?_|refine oP (Pure.pickT (lv:=.atom _) rfl rfl) rfl ?_|refine oP (Pure.pickF (lv:=.atom _) rfl rfl) rfl ?_|refine LOps.skip rfl rfl rfl rfl ?_|refine qam.ret ?_|refine oP (Pure.eql rfl rfl) rfl ?_|refine oP (Pure.add rfl rfl (by omega)) rfl ?_|refine oP (pN rfl) rfl ?_|refine oP (Pure.extract (c:=.atom _) rfl rfl) rfl ?_|refine oP (Pure.lss rfl rfl) rfl ?_|refine qam.hit ?_|refine qaw.exit ?_|refine qah.exit ?_|refine oP (pM (lv:=.tuple _) rfl) rfl ?_|refine oP (Pure.seq rfl rfl) rfl ?_|refine oP (Pure.llen rfl) rfl ?_|refine oP (pM (lv:=.list _) rfl) rfl ?_|refine oP (pL (c:=.list _) rfl (zRm) rfl) rfl ?_|refine oP (Pure.not rfl) rfl ?_|refine oP (pA (lv:=.list _) rfl) rfl ?_|refine oS (sS (cs':=[_,_,_]) rfl pH rfl rfl rfl rfl rfl ?_) rfl|refine oP (Pure.slen rfl) rfl ?_|refine oP (pO (c:=.atom _) rfl rfl) rfl ?_|refine oP (Pure.gtr rfl rfl) rfl ?_|refine oP (pG (cs':=[_,_]) rfl (zRm) rfl rfl) rfl ?_|refine oP (pL (c:=.atom _) rfl (zMt (zRm)) rfl) rfl ?_|refine oP (Pure.neq rfl rfl) rfl ?_|refine oS (sS (cs':=[_,_]) rfl pH rfl rfl rfl rfl rfl ?_) rfl|refine oP (Pure.sub rfl rfl (by omega)) rfl ?_|refine oP (Pure.extract (c:=.list _) rfl rfl) rfl ?_|refine oP (Pure.leq rfl rfl) rfl ?_|refine oS (sS (cs':=[_,_,_,_]) rfl pH rfl rfl rfl rfl rfl ?_) rfl|refine oP (pB _ (cs:=[_,_,_]) rfl) rfl ?_|refine oP (Pure.geq rfl rfl) rfl ?_|refine LQ.nil ?_|refine oP (Pure.sadd rfl rfl (by first|omega|(simp only[zLa,zLc,zLn];omega))) rfl ?_|refine oP (Pure.sneq rfl rfl) rfl ?_|refine qP (pF rfl) rfl ?_|refine oP (pG (cs':=[_,_,_,_]) rfl (zMt (zRm)) rfl rfl) rfl ?_|refine LOps.skipU rfl rfl rfl ?_|refine qP (pL (c:=.atom _) rfl (zRm) rfl) rfl ?_|refine oP (pG (cs':=[_,_,_,_]) rfl (zRm) rfl rfl) rfl ?_|refine qP (pA (lv:=.atom _) rfl) rfl ?_|refine qP (pL (c:=.list _) rfl (zRm) rfl) rfl ?_|refine oS (sS (cs':=[_,_,_,_,_,_,_,_,_,_]) rfl pH rfl rfl rfl rfl rfl ?_) rfl|refine oS (sS (cs':=[_,_,_,_,_,_]) rfl pH rfl rfl rfl rfl rfl ?_) rfl|refine oP (pB _ (cs:=[_,_,_,_]) rfl) rfl ?_|refine oP (pB _ (cs:=[_,_]) rfl) rfl ?_|refine oP (pG (cs':=[_,_,_,_,_,_]) rfl (zRm) rfl rfl) rfl ?_|refine oS (sS (cs':=[_,_,_,_,_,_]) rfl (pT pH) rfl rfl rfl rfl rfl ?_) rfl|refine oP (pB _ (cs:=[_,_,_,_,_,_]) rfl) rfl ?_|refine oP (Pure.cvt rfl) rfl ?_|refine oS (sS (cs':=[_,_,_,_,_,_]) rfl (pT (pT pH)) rfl rfl rfl rfl rfl ?_) rfl|refine oS (sS (cs':=[_,_,_,_]) rfl (pT pH) rfl rfl rfl rfl rfl ?_) rfl|refine qP (pO (c:=.atom _) rfl rfl) rfl ?_|refine oP (pG (cs':=[_,_,_]) rfl (zRm) rfl rfl) rfl ?_|refine oP (pG (cs':=[_,_,_]) rfl (zMt (zRm)) rfl rfl) rfl ?_|refine oP (pL (c:=.atom _) rfl (zMt (zMt (zRm))) rfl) rfl ?_|refine oP (Pure.nilNeqNil rfl) rfl ?_|refine oS (sS (cs':=[_,_,_,_]) rfl (pT (pT pH)) rfl rfl rfl rfl rfl ?_) rfl|refine qam.miss zDd ?_|refine oP (pL (c:=.list _) rfl (zMt (zRm)) rfl) rfl ?_|refine oS (sS (cs':=[_,_,_]) rfl (pT pH) rfl rfl rfl rfl rfl ?_) rfl|refine oS (sS (cs':=[_]) rfl pH rfl rfl rfl rfl rfl ?_) rfl|refine qP (Pure.llen rfl) rfl ?_|refine oP (pB _ (cs:=[_]) rfl) rfl ?_|refine oP (Pure.ifaceNeqNil rfl) rfl ?_|refine oP (Pure.makeFunc rfl rfl) rfl ?_|refine oP (Pure.makeInterfaceAgg (vs:=[_]) rfl) rfl ?_|refine oS (sS (cs':=[_]) rfl (pT pH) rfl rfl rfl rfl rfl ?_) rfl|refine qP (Pure.extract (c:=.atom _) rfl rfl) rfl ?_|refine qP (pM (lv:=.tuple _) rfl) rfl ?_|refine oP (pG (cs':=[_,_,_]) rfl (zMt (zMt (zMt (zMt (zRm))))) rfl rfl) rfl ?_|refine oP (pL (c:=.atom _) rfl (zMt (zMt (zMt (zMt (zRm))))) rfl) rfl ?_|refine oP (pO (c:=.list _) rfl rfl) rfl ?_|refine oS (sS (cs':=[_,_,_,_,_,_,_,_,_,_]) rfl (pT pH) rfl rfl rfl rfl rfl ?_) rfl|refine oS (sS (cs':=[_,_,_]) rfl (pT (pT pH)) rfl rfl rfl rfl rfl ?_) rfl|refine oP (pA (lv:=.app _ _ _ _) rfl) rfl ?_|refine oP (pG (cs':=[_,_,_,_,_,_]) rfl (zMt (zRm)) rfl rfl) rfl ?_|refine oP (pG (cs':=[_,_]) rfl (zMt (zRm)) rfl rfl) rfl ?_|refine oP (pL (c:=.atom _) rfl (zMt (zMt (zMt (zMt (zMt (zMt (zRm))))))) rfl) rfl ?_|refine oP (Pure.makeInterfaceAgg (vs:=[_,_]) rfl) rfl ?_|refine oS (sS (cs':=[]) rfl pH rfl rfl rfl rfl rfl ?_) rfl|refine oS (sS (cs':=[_,_,_,_,_,_,_,_,_,_,_]) rfl pH rfl rfl rfl rfl rfl ?_) rfl|refine oS (sS (cs':=[_,_,_,_]) rfl (pT (pT (pT (pT pH)))) rfl rfl rfl rfl rfl ?_) rfl|refine oS (sS (cs':=[_,_,_]) rfl (pT (pT (pT (pT pH)))) rfl rfl rfl rfl rfl ?_) rfl|refine oS (sS (cs':=[_,_,_]) rfl (pT (pT (pT pH))) rfl rfl rfl rfl rfl ?_) rfl|refine oP (pB _ (cs:=[]) rfl) rfl ?_|refine oP (pG (cs':=[_,_,_,_]) rfl (zMt (zMt (zMt (zRm)))) rfl rfl) rfl ?_|refine oP (pL (c:=.list _) rfl (zMt (zMt (zRm))) rfl) rfl ?_|refine oP (pL (c:=.list _) rfl (zMt (zMt (zMt (zMt (zMt (zRm)))))) rfl) rfl ?_|refine oP (Pure.makeInterfaceAgg (vs:=[]) rfl) rfl ?_|refine oP (pM (lv:=.app _ _ _ _) rfl) rfl ?_|refine oS (sS (cs':=[_,_,_,_,_,_,_]) rfl (pT (pT pH)) rfl rfl rfl rfl rfl ?_) rfl|refine oS (sS (cs':=[_,_,_,_,_,_,_]) rfl pH rfl rfl rfl rfl rfl ?_) rfl|refine oS (sS (cs':=[_,_]) rfl (pT (pT pH)) rfl rfl rfl rfl rfl ?_) rfl|refine oS (sS (cs':=[_,_]) rfl (pT pH) rfl rfl rfl rfl rfl ?_) rfl|refine qP (Pure.sneq rfl rfl) rfl ?_);exact h ()):P:=t λ_=>h
theorem gad{P:Prop}(h:Q)(t:(Unit->Q)->P:=by intro h;(repeat first|refine qN ?_|refine LOps.nil ?_|refine qah.seq ?_|refine oP (pM (lv:=.atom _) rfl) rfl ?_|refine oP (pA (lv:=.atom _) rfl) rfl ?_|refine qah.ret ?_|refine oP (pF rfl) rfl ?_|refine LOps.want rfl rfl ?_|refine qaw.ret ?_|refine qah.block ?_|refine qam.normal ?_|refine oP (pL (c:=.atom _) rfl (zRm) rfl) rfl ?_|refine oP (Pure.pickT (lv:=.atom _) rfl rfl) rfl ?_|refine oP (Pure.pickF (lv:=.atom _) rfl rfl) rfl ?_|refine LOps.skip rfl rfl rfl rfl ?_|refine qam.ret ?_|refine oP (Pure.eql rfl rfl) rfl ?_|refine oP (Pure.add rfl rfl (by omega)) rfl ?_|refine oP (pN rfl) rfl ?_|refine oP (Pure.extract (c:=.atom _) rfl rfl) rfl ?_|refine qam.hit ?_|refine qaw.exit ?_|refine qah.exit ?_|refine oP (pM (lv:=.tuple _) rfl) rfl ?_|refine oP (Pure.seq rfl rfl) rfl ?_|refine oP (Pure.llen rfl) rfl ?_|refine oP (pM (lv:=.list _) rfl) rfl ?_|refine oP (pL (c:=.list _) rfl (zRm) rfl) rfl ?_|refine oP (Pure.not rfl) rfl ?_|refine oP (pA (lv:=.list _) rfl) rfl ?_|refine oS (sS (cs':=[_,_,_]) rfl pH rfl rfl rfl rfl rfl ?_) rfl|refine oP (Pure.slen rfl) rfl ?_|refine oP (pO (c:=.atom _) rfl rfl) rfl ?_|refine oP (Pure.gtr rfl rfl) rfl ?_|refine oP (pG (cs':=[_,_]) rfl (zRm) rfl rfl) rfl ?_|refine oP (pL (c:=.atom _) rfl (zMt (zRm)) rfl) rfl ?_|refine oP (Pure.neq rfl rfl) rfl ?_|refine oP (pR (cs':=[_,_,_,_]) rfl rfl rfl) rfl ?_|refine oS (sS (cs':=[_,_]) rfl pH rfl rfl rfl rfl rfl ?_) rfl|refine oP (Pure.sub rfl rfl (by omega)) rfl ?_|refine oP (Pure.extract (c:=.list _) rfl rfl) rfl ?_|refine oP (Pure.leq rfl rfl) rfl ?_|refine oS (sS (cs':=[_,_,_,_]) rfl pH rfl rfl rfl rfl rfl ?_) rfl|refine oP (pB _ (cs:=[_,_,_]) rfl) rfl ?_|refine oP (Pure.geq rfl rfl) rfl ?_|refine oP (pR (cs':=[_,_]) rfl rfl rfl) rfl ?_|refine LQ.nil ?_|refine oP (Pure.extract (c:=.agg _) rfl rfl) rfl ?_|refine oP (Pure.sadd rfl rfl (by first|omega|(simp only[zLa,zLc,zLn];omega))) rfl ?_|refine oP (Pure.sneq rfl rfl) rfl ?_|refine qP (pF rfl) rfl ?_|refine LOps.skipU rfl rfl rfl ?_|refine qP (pL (c:=.atom _) rfl (zRm) rfl) rfl ?_|refine qP (pM (lv:=.atom _) rfl) rfl ?_|refine qP (pN rfl) rfl ?_|refine lP (pF rfl) rfl ?_|refine lP (pM (lv:=.atom _) rfl) rfl ?_|refine oP (pG (cs':=[_,_,_,_]) rfl (zRm) rfl rfl) rfl ?_|refine qP (pA (lv:=.atom _) rfl) rfl ?_|refine qP (pL (c:=.list _) rfl (zRm) rfl) rfl ?_|refine oS (sS (cs':=[_,_,_,_,_,_,_,_,_,_]) rfl pH rfl rfl rfl rfl rfl ?_) rfl|refine oS (sS (cs':=[_,_,_,_,_,_]) rfl pH rfl rfl rfl rfl rfl ?_) rfl|refine oP (pB _ (cs:=[_,_,_,_]) rfl) rfl ?_|refine oP (pB _ (cs:=[_,_]) rfl) rfl ?_|refine oS (sS (cs':=[_,_,_,_,_,_]) rfl (pT pH) rfl rfl rfl rfl rfl ?_) rfl|refine LS.nil ?_|refine lP (pN rfl) rfl ?_|refine oP (pB _ (cs:=[_,_,_,_,_,_]) rfl) rfl ?_|refine oP (Pure.cvt rfl) rfl ?_|refine oS (sS (cs':=[_,_,_,_,_,_]) rfl (pT (pT pH)) rfl rfl rfl rfl rfl ?_) rfl|refine oS (sS (cs':=[_,_,_,_]) rfl (pT pH) rfl rfl rfl rfl rfl ?_) rfl|refine qP (pO (c:=.atom _) rfl rfl) rfl ?_|refine oP (pG (cs':=[_,_,_]) rfl (zRm) rfl rfl) rfl ?_|refine oP (pL (c:=.atom _) rfl (zMt (zMt (zRm))) rfl) rfl ?_|refine qam.miss zDd ?_|refine qbX.pure (pM (lv:=.atom _) rfl) rfl ?_|refine qP (Pure.field1 rfl rfl) rfl ?_|refine qP (Pure.llen rfl) rfl ?_|refine oP (pR (cs':=[_,_,_,_,_,_]) rfl rfl rfl) rfl ?_|refine oS (sS (cs':=[_]) rfl (pT pH) rfl rfl rfl rfl rfl ?_) rfl|refine qbX.pure (Pure.makeFunc rfl rfl) rfl ?_|refine LQ.want rfl rfl ?_|refine lP (pL (c:=.atom _) rfl (zRm) rfl) rfl ?_|refine lP (pL (c:=.atom _) rfl (zMt (zRm)) rfl) rfl ?_|refine oP (Pure.field1 rfl rfl) rfl ?_|refine oP (pL (c:=.atom _) rfl (zMt (zMt (zMt (zMt (zRm))))) rfl) rfl ?_|refine oP (pO (c:=.list _) rfl rfl) rfl ?_|refine lP (pB _ (cs:=[_,_,_]) rfl) rfl ?_|refine lP (pL (c:=.list _) rfl (zRm) rfl) rfl ?_|refine lP (pO (c:=.atom _) rfl rfl) rfl ?_|refine lP (pM (lv:=.list _) rfl) rfl ?_|refine oP (pA (lv:=.app _ _ _ _) rfl) rfl ?_|refine oS (sS (cs':=[_,_,_,_]) rfl (pT (pT (pT pH))) rfl rfl rfl rfl rfl ?_) rfl|refine qbX.pure (pF rfl) rfl ?_|refine qP (Pure.geq rfl rfl) rfl ?_|refine qP (pL (c:=.atom _) rfl (zMt (zRm)) rfl) rfl ?_|refine qP (Pure.lss rfl rfl) rfl ?_|refine qP (Pure.pickF (lv:=.atom _) rfl rfl) rfl ?_|refine qP (Pure.pickT (lv:=.atom _) rfl rfl) rfl ?_|refine qP (Pure.sadd rfl rfl (by first|omega|(simp only[zLa,zLc,zLn];omega))) rfl ?_|refine qP (Pure.sub rfl rfl (by omega)) rfl ?_|refine LQ.skip rfl rfl rfl rfl ?_|refine lP (pG (cs':=[_,_,_,_]) rfl (zMt (zRm)) rfl rfl) rfl ?_|refine lP (pR (cs':=[_,_,_,_]) rfl rfl rfl) rfl ?_|refine oP (pB _ (cs:=[_,_,_,_,_,_,_]) rfl) rfl ?_|refine oS (sS (cs':=[_]) rfl (pT (pT (pT (pT (pT (pT pH)))))) rfl rfl rfl rfl rfl ?_) rfl|refine qbX.pure (pG (cs':=[_,_,_,_]) rfl (zRm) rfl rfl) rfl ?_|refine qbX.pure (pG (cs':=[_,_,_]) rfl (zMt (zMt (zMt (zMt (zMt (zMt (zMt (zRm)))))))) rfl rfl) rfl ?_|refine qbX.pure (pL (c:=.atom _) rfl (zMt (zRm)) rfl) rfl ?_|refine qbX.pure (pL (c:=.list _) rfl (zRm) rfl) rfl ?_|refine qbX.pure (Pure.lss rfl rfl) rfl ?_|refine qbX.pure (pN rfl) rfl ?_|refine qfo.pure (pL (c:=.list _) rfl (zRm) rfl) rfl ?_|refine qfo.pure (pO (c:=.list _) rfl rfl) rfl ?_|refine qfo.pure (pM (lv:=.atom _) rfl) rfl ?_|refine qfo.pure (Pure.not rfl) rfl ?_|refine qP (Pure.eql rfl rfl) rfl ?_|refine qP (pL (c:=.atom _) rfl (zMt (zMt (zMt (zMt (zRm))))) rfl) rfl ?_|refine qP (Pure.minI rfl rfl) rfl ?_|refine lP (pL (c:=.atom _) rfl (zMt (zMt (zRm))) rfl) rfl ?_);exact h ()):P:=t λ_=>h
theorem gae{P:Prop}(h:Q)(t:(Unit->Q)->P:=by intro h;(repeat first|refine qaw.panic ?_|refine qam.panic ?_);exact h ()):P:=t λ_=>h
theorem gaf{P:Prop}(h:Q)(t:(Unit->Q)->P:=by intro h;(repeat first|refine qN ?_|refine LOps.nil ?_|refine oP (pA (lv:=.atom _) rfl) rfl ?_|refine qah.ret ?_);exact h ()):P:=t λ_=>h
theorem gag{P:Prop}(h:Q)(t:(Unit->Q)->P:=by intro h;(repeat first|refine qN ?_|refine LOps.nil ?_|refine qah.region ?_|refine qah.seq ?_|refine oP (pM (lv:=.atom _) rfl) rfl ?_|refine oP (pA (lv:=.atom _) rfl) rfl ?_);exact h ()):P:=t λ_=>h
theorem gah{P:Prop}(h:Q)(t:(Unit->Q)->P:=by intro h;(repeat first|refine qah.region ?_|refine qah.seq ?_|refine oP (pM (lv:=.atom _) rfl) rfl ?_);exact h ()):P:=t λ_=>h
theorem gai{P:Prop}(h:Q)(t:(Unit->Q)->P:=by intro h;(repeat first|refine qah.region ?_|refine qah.seq ?_);exact h ()):P:=t λ_=>h
theorem gaj{P:Prop}(h:Q)(t:(Unit->Q)->P:=by intro h;(repeat first|refine qN ?_|refine LOps.nil ?_|refine qah.region ?_|refine qah.seq ?_|refine oP (Pure.lss rfl rfl) rfl ?_);exact h ()):P:=t λ_=>h
theorem gak{P:Prop}(h:Q)(t:(Unit->Q)->P:=by intro h;(repeat first|refine qaw.panic ?_);exact h ()):P:=t λ_=>h
theorem gal{P:Prop}(h:Q)(t:(Unit->Q)->P:=by intro h;(repeat first|refine qN ?_|refine qah.region ?_|refine qah.seq ?_|refine qah.skip ?_|refine qah.block ?_);exact h ()):P:=t λ_=>h
theorem gam{P:Prop}(h:Q)(t:(Unit->Q)->P:=by intro h;(repeat first|refine qN ?_|refine LOps.nil ?_|refine qah.region ?_|refine qah.seq ?_|refine oP (pA (lv:=.atom _) rfl) rfl ?_|refine oP (Pure.eql rfl rfl) rfl ?_);exact h ()):P:=t λ_=>h
theorem gan{P:Prop}(h:Q)(t:(Unit->Q)->P:=by intro h;(repeat first|refine qN ?_|refine LOps.nil ?_|refine oP (pM (lv:=.atom _) rfl) rfl ?_|refine oP (pA (lv:=.atom _) rfl) rfl ?_|refine qah.ret ?_|refine oP (pF rfl) rfl ?_|refine LOps.want rfl rfl ?_|refine qam.normal ?_|refine oP (pL (c:=.atom _) rfl (zRm) rfl) rfl ?_|refine oP (Pure.pickT (lv:=.atom _) rfl rfl) rfl ?_|refine oP (Pure.pickF (lv:=.atom _) rfl rfl) rfl ?_|refine LOps.skip rfl rfl rfl rfl ?_|refine oP (Pure.add rfl rfl (by omega)) rfl ?_|refine oP (pN rfl) rfl ?_|refine oP (Pure.lss rfl rfl) rfl ?_|refine oP (Pure.llen rfl) rfl ?_|refine oP (pL (c:=.list _) rfl (zRm) rfl) rfl ?_|refine oP (pL (c:=.atom _) rfl (zMt (zRm)) rfl) rfl ?_|refine oP (Pure.leq rfl rfl) rfl ?_|refine LQ.nil ?_|refine qP (pM (lv:=.atom _) rfl) rfl ?_|refine lP (pF rfl) rfl ?_|refine lP (pM (lv:=.atom _) rfl) rfl ?_|refine LS.nil ?_|refine lP (pN rfl) rfl ?_|refine qP (pO (c:=.atom _) rfl rfl) rfl ?_|refine qP (Pure.field1 rfl rfl) rfl ?_|refine LQ.want rfl rfl ?_|refine lP (pL (c:=.atom _) rfl (zRm) rfl) rfl ?_|refine lP (pL (c:=.atom _) rfl (zMt (zRm)) rfl) rfl ?_|refine oS (sS (cs':=[_,_,_,_,_,_,_,_,_,_]) rfl (pT pH) rfl rfl rfl rfl rfl ?_) rfl|refine lP (pL (c:=.list _) rfl (zRm) rfl) rfl ?_|refine qP (Pure.pickF (lv:=.atom _) rfl rfl) rfl ?_|refine qP (Pure.neq rfl rfl) rfl ?_|refine lP (Pure.add rfl rfl (by omega)) rfl ?_|refine lP (pG (cs':=[_,_,_,_]) rfl (zRm) rfl rfl) rfl ?_|refine lP (Pure.llen rfl) rfl ?_);exact h ()):P:=t λ_=>h
open Go.RowKit
inductive LV where
 |atom (v:Value)
 |list (es:List LV)
 |app (b cap k:Nat) (es:List LV)
 |agg (cs:List LV)
 |tuple (vs:List LV)
 |ref (cs:List LV)
 deriving Inhabited
variable{avs bs cs cs' es vs:List LV}{lv:LV}
def LV.cells:LV->List LV
 |.agg cs=>cs
 |v=>[v]
@[reducible] def int(k:IntKind)(n:Int):LV:=.atom (.int k n)
@[reducible] def bool(b:Bool):LV:=.atom (.bool b)
@[reducible] def str(l:List UInt8):LV:=.atom (.string ⟨l.toArray⟩)
@[reducible] def ptr(b off:Nat):LV:=.atom (.pointer (some ⟨b,off,none⟩))
@[reducible] def qab:LV:=.atom (.slice none 0 0)
inductive LObj where
 |cells (ty:TypeId) (cs:List LV)
 |row (n:Nat)
 |map (es:List (Value×LV)) (clock:Nat)
 |obj (o:Obj)
 deriving Inhabited
abbrev Heap:=List (Nat×LObj)
variable{F H H' H1:Heap}
abbrev Live:=Nat->Nat
variable{L L':Live}
mutual
def Rep(w:World)(L:Live):LV->Value->Prop
 |.atom v,x=>x=v
 |.agg cs,x=>∃ xs:List Value,x=.agg xs.toArray/\RepL w L cs xs
 |.tuple vs,x=>∃ xs:List Value,x=.tuple xs.toArray/\RepL w L vs xs
 |.list es,x=>∃ a cap,x=.slice a es.length cap/\es.length<=cap/\(es≠[]->∃ b off k,a=some ⟨b,off,none⟩/\qaj w L b k off es)
 |.app b cap k es,x=>x=.slice (some ⟨b,0,none⟩) es.length cap/\es.length<=cap/\qaj w L b k 0 es/\∃ e s,w.shape? b=some (e,s)/\cap * k<=s
 |.ref cs,x=>∃ b off,x=.pointer (some ⟨b,off,none⟩)/\RepC w L b off cs
def RepL(w:World)(L:Live):List LV->List Value->Prop
 |[],xs=>xs=[]
 |c::cs,xs=>∃ y ys,xs=y::ys/\Rep w L c y/\RepL w L cs ys
def RepC(w:World)(L:Live)(b:Nat):Nat->List LV->Prop
 |_,[]=>True
 |off,c::cs=>off<L b/\(∃ x,w.cell? ⟨b,off,none⟩=some x/\Rep w L c x)/\RepC w L b (off+1) cs
def qaj(w:World)(L:Live)(b k:Nat):Nat->List LV->Prop
 |_,[]=>True
 |off,.agg cs::es=>(cs.length=k/\RepC w L b off cs)/\qaj w L b k (off+k) es
 |off,.atom v::es=>(1=k/\off<L b/\∃ x,w.cell? ⟨b,off,none⟩=some x/\Rep w L (.atom v) x)/\qaj w L b k (off+k) es
 |off,.list v::es=>(1=k/\off<L b/\∃ x,w.cell? ⟨b,off,none⟩=some x/\Rep w L (.list v) x)/\qaj w L b k (off+k) es
 |off,.app b2 c k2 v::es=>(1=k/\off<L b/\∃ x,w.cell? ⟨b,off,none⟩=some x/\Rep w L (.app b2 c k2 v) x)/\qaj w L b k (off+k) es
 |off,.tuple v::es=>(1=k/\off<L b/\∃ x,w.cell? ⟨b,off,none⟩=some x/\Rep w L (.tuple v) x)/\qaj w L b k (off+k) es
 |off,.ref v::es=>(1=k/\off<L b/\∃ x,w.cell? ⟨b,off,none⟩=some x/\Rep w L (.ref v) x)/\qaj w L b k (off+k) es
end
structure Ext(w:World)(L:Live)(w':World)(L':Live):Prop where
 size:w.heap.size<=w'.heap.size
 shape:∀ b,b<w.heap.size->w'.shape? b=w.shape? b
 live:∀ b i,i<L b->w'.cell? ⟨b,i,none⟩=w.cell? ⟨b,i,none⟩
 mono:∀ b,L b<=L' b
theorem Ext.refl(w:World)(L:Live):Ext w L w L:=⟨zNr _,λ_ _=>rfl,λ_ _ _=>rfl,λ_=>zNr _⟩
theorem Ext.trans{w1 w2 w3:World}{L1 L2 L3:Live}(h:Ext w1 L1 w2 L2)(k:Ext w2 L2 w3 L3):Ext w1 L1 w3 L3:=
 ⟨zNt h.size k.size,λb hb=>(k.shape b (Nat.lt_of_lt_of_le hb h.size)).trans (h.shape b hb),
  λb i hi=>(k.live b i (Nat.lt_of_lt_of_le hi (h.mono b))).trans (h.live b i hi),λb=>zNt (h.mono b) (k.mono b)⟩
theorem qtP{p:TypeId×Nat}(h:w.shape? b=some p):b<w.heap.size:=by
 rcases Nat.lt_or_ge b w.heap.size with h1|h1;exact h1;simp[World.shape?,Array.getElem?_eq_none h1] at h
mutual
theorem Rep.mono{w w':World}{L L':Live}(h:Ext w L w' L'):∀ (lv:LV) (x:Value),Rep w L lv x->Rep w' L' lv x
 |.atom v,x,r=>by simp only[Rep] at r ⊢;exact r
 |.agg cs,x,r=>by
  simp only[Rep] at r ⊢;obtain⟨xs,rfl,r⟩:=r
  exact⟨xs,rfl,RepL.mono h cs xs r⟩
 |.tuple cs,x,r=>by
  simp only[Rep] at r ⊢;obtain⟨xs,rfl,r⟩:=r
  exact⟨xs,rfl,RepL.mono h cs xs r⟩
 |.list es,x,r=>by
  simp only[Rep] at r ⊢;obtain⟨a,cap,rfl,hl,r⟩:=r;refine⟨a,cap,rfl,hl,λhne=>?_⟩;obtain⟨b,off,k,ha,r⟩:=r hne
  exact⟨b,off,k,ha,qaj.mono h b k off es r⟩
 |.app b cap k es,x,r=>by
  simp only[Rep] at r ⊢;obtain⟨rfl,hl,r,e,s,hs,hc⟩:=r
  exact⟨rfl,hl,qaj.mono h b k 0 es r,e,s,by rw[h.shape b (qtP hs)];exact hs,hc⟩
 |.ref cs,x,r=>by
  simp only[Rep] at r ⊢;obtain⟨b,off,rfl,r⟩:=r;exact⟨b,off,rfl,RepC.mono h b off cs r⟩
 termination_by lv=>SizeOf.sizeOf lv
theorem RepL.mono{w w':World}{L L':Live}(h:Ext w L w' L'):∀ (cs:List LV) (xs:List Value),RepL w L cs xs->RepL w' L' cs xs
 |[],xs,r=>by simp only[RepL] at r ⊢;exact r
 |c::cs,xs,r=>by
  simp only[RepL] at r ⊢;obtain⟨y,ys,rfl,r1,r2⟩:=r;exact⟨y,ys,rfl,Rep.mono h c y r1,RepL.mono h cs ys r2⟩
 termination_by cs=>SizeOf.sizeOf cs
theorem RepC.mono{w w':World}{L L':Live}(h:Ext w L w' L')(b:Nat):∀ (off:Nat) (cs:List LV),RepC w L b off cs->RepC w' L' b off cs
 |_,[],r=>by simp only[RepC]
 |off,c::cs,r=>by
  simp only[RepC] at r ⊢;obtain⟨r1,⟨x,hx,r2⟩,r3⟩:=r;exact⟨Nat.lt_of_lt_of_le r1 (h.mono b),⟨x,by rw[h.live b off r1];exact hx,Rep.mono h c x r2⟩,RepC.mono h b (off+1) cs r3⟩
 termination_by _ cs=>SizeOf.sizeOf cs
theorem qaj.mono{w w':World}{L L':Live}(h:Ext w L w' L')(b k:Nat):∀ (off:Nat) (es:List LV),qaj w L b k off es->qaj w' L' b k off es
 |_,[],r=>by simp only[qaj]
 |off,.agg cs::es,r=>by
  simp only[qaj] at r ⊢
  exact⟨⟨r.1.1,RepC.mono h b off cs r.1.2⟩,qaj.mono h b k (off+k) es r.2⟩
 |off,.atom v::es,r=>by
  simp only[qaj] at r ⊢;obtain⟨⟨h1,h2,x,h3,h4⟩,r2⟩:=r
  exact⟨⟨h1,Nat.lt_of_lt_of_le h2 (h.mono b),x,by rw[h.live b off h2];exact h3,Rep.mono h (.atom v) x h4⟩,qaj.mono h b k (off+k) es r2⟩
 |off,.list v::es,r=>by
  simp only[qaj] at r ⊢;obtain⟨⟨h1,h2,x,h3,h4⟩,r2⟩:=r
  exact⟨⟨h1,Nat.lt_of_lt_of_le h2 (h.mono b),x,by rw[h.live b off h2];exact h3,Rep.mono h (.list v) x h4⟩,qaj.mono h b k (off+k) es r2⟩
 |off,.app b2 c k2 v::es,r=>by
  simp only[qaj] at r ⊢;obtain⟨⟨h1,h2,x,h3,h4⟩,r2⟩:=r
  exact⟨⟨h1,Nat.lt_of_lt_of_le h2 (h.mono b),x,by rw[h.live b off h2];exact h3,Rep.mono h (.app b2 c k2 v) x h4⟩,qaj.mono h b k (off+k) es r2⟩
 |off,.tuple v::es,r=>by
  simp only[qaj] at r ⊢;obtain⟨⟨h1,h2,x,h3,h4⟩,r2⟩:=r
  exact⟨⟨h1,Nat.lt_of_lt_of_le h2 (h.mono b),x,by rw[h.live b off h2];exact h3,Rep.mono h (.tuple v) x h4⟩,qaj.mono h b k (off+k) es r2⟩
 |off,.ref v::es,r=>by
  simp only[qaj] at r ⊢;obtain⟨⟨h1,h2,x,h3,h4⟩,r2⟩:=r;exact⟨⟨h1,Nat.lt_of_lt_of_le h2 (h.mono b),x,by rw[h.live b off h2];exact h3,Rep.mono h (.ref v) x h4⟩,qaj.mono h b k (off+k) es r2⟩
 termination_by _ es=>SizeOf.sizeOf es
end
def LV.Sub(a b:LV):Prop:=∀ w L x,Rep w L a x->Rep w L b x
theorem vR(a:LV):a.Sub a:=λ_ _ _ h=>h
theorem vN:qab.Sub (.list []):=λw L x r=>by
 simp only[Rep] at r ⊢;subst r;exact⟨none,0,rfl,zNr _,λh=>absurd rfl h⟩
theorem LV.Sub.app(b cap k:Nat)(es:List LV):(LV.app b cap k es).Sub (.list es):=λw L x r=>by
 simp only[Rep] at r ⊢;obtain⟨rfl,hl,r,_⟩:=r;exact⟨some ⟨b,0,none⟩,cap,rfl,hl,λ_=>⟨b,0,k,rfl,r⟩⟩
def SubL:List LV->List LV->Prop
 |[],[]=>True
 |a::avs,b::bs=>a.Sub b/\SubL avs bs
 |_,_=>False
theorem SubL.repL{w:World}{L:Live}:∀ {avs bs:List LV} {xs:List Value},SubL avs bs->RepL w L avs xs->RepL w L bs xs
 |[],[],xs,_,r=>r
 |a::avs,b::bs,xs,h,r=>by
  simp only[RepL] at r ⊢;obtain⟨y,ys,rfl,r1,r2⟩:=r
  exact⟨y,ys,rfl,h.1 _ _ _ r1,SubL.repL h.2 r2⟩
 |[],_::_,_,h,_=>h.elim
 |_::_,[],_,h,_=>h.elim
theorem vA(h:SubL avs bs):(LV.agg avs).Sub (.agg bs):=λw L x r=>by
 simp only[Rep] at r ⊢;obtain⟨xs,rfl,r⟩:=r;exact⟨xs,rfl,h.repL r⟩
def qnd(w:World)(L:Live)(b:Nat):LObj->Prop
 |.cells ty cs=>L b=0/\∃ xs:List Value,w.heap[b]? = some (.cells xs.toArray ty (0,0))/\RepL w L cs xs
 |.row n=>L b=n/\∃ (xs:Array Value) (ty:TypeId) (fr:Nat×Nat),w.heap[b]? = some (.cells xs ty fr)/\n<=xs.size/\fr.2<=n
 |.map es clock=>L b=0/\∃ avs:List MapEntry,w.heap[b]? = some (.map avs.toArray clock)/\avs.map (·.key)=es.map (·.1)/\RepL w L (es.map (·.2)) (avs.map (·.val))
   /\ (∀ e∈avs,e.born<clock)/\(avs.map (·.born)).Nodup
 |.obj o=>L b=0/\w.heap[b]? = some o/\w.shape? b=none
structure Ctx where
 P:Program
 B0:Nat
 w0:World
variable{C:Ctx}
structure RelH(C:Ctx)(w:World)(L:Live)(H:Heap):Prop where
 base:Below C.B0 C.w0 w
 lbase:True
 b0:C.B0<=w.heap.size
 wf:∀ b,w.heap.size<=b->L b=0
 nodup:(H.map (·.1)).Nodup
 objs:∀ p∈H,C.B0<=p.1/\p.1<w.heap.size/\qnd w L p.1 p.2
@[reducible] def keys(H:Heap):List Nat:=H.map (·.1)
structure Fr(K:List Nat)(w:World)(L:Live)(w':World)(L':Live)(H':Heap):Prop where
 os:w'.os=w.os
 tape:w'.tape=w.tape
 output:w'.output=w.output
 ext:Ext w L w' L'
 block:∀ b,b<w.heap.size->b ∉ K->w'.heap[b]? = w.heap[b]?
 lsame:∀ b,b<w.heap.size->b ∉ K->L' b=L b
 kin:∀ p∈H',p.1∈K∨w.heap.size<=p.1
theorem Fr.refl(w:World)(L:Live)(H:Heap):Fr (keys H) w L w L H:=
 ⟨rfl,rfl,rfl,.refl _ _,λ_ _ _=>rfl,λ_ _ _=>rfl,λ_ hp=>.inl (List.mem_map_of_mem hp)⟩
theorem Fr.trans{K:List Nat}{w1 w2 w3:World}{L1 L2 L3:Live}{H2 H3:Heap}(h:Fr K w1 L1 w2 L2 H2)(k:Fr (keys H2) w2 L2 w3 L3 H3):Fr K w1 L1 w3 L3 H3:=by
 have out:∀ b,b<w1.heap.size->b ∉ K->b ∉ keys H2:=λb hb hn hm=>by
  obtain⟨p,hp,rfl⟩:=zRf hm;rcases h.kin p hp with h1|h1;exact hn h1;omega
 refine⟨k.os.trans h.os,k.tape.trans h.tape,k.output.trans h.output,h.ext.trans k.ext,λb hb hn=>?_,λb hb hn=>?_,λp hp=>?_⟩;exact(k.block b (Nat.lt_of_lt_of_le hb h.ext.size) (out b hb hn)).trans (h.block b hb hn);exact(k.lsame b (Nat.lt_of_lt_of_le hb h.ext.size) (out b hb hn)).trans (h.lsame b hb hn);rcases k.kin p hp with h1|h1;obtain⟨q,hq,he⟩:=zRf h1;rw[<-he];exact h.kin q hq;exact .inr (zNt h.ext.size h1)
theorem Fr.sub{H':Heap}(h:Fr K w L w' L' H)(hs:∀ p∈H',p∈H):Fr K w L w' L' H':=
 ⟨h.os,h.tape,h.output,h.ext,h.block,h.lsame,λp hp=>h.kin p (hs p hp)⟩
theorem qbM(h:w'.heap[b]? = w.heap[b]?):w'.shape? b=w.shape? b:=by simp only[World.shape?,h]
theorem cell_of_heap(h:w'.heap[b]? = w.heap[b]?)(o:Nat):w'.cell? ⟨b,o,none⟩=w.cell? ⟨b,o,none⟩:=by simp only[World.cell?,h]
theorem qnd.keep{o:LObj}(h:Ext w L w' L')(hb:w'.heap[b]? = w.heap[b]?)(hl:L' b=L b)(r:qnd w L b o):qnd w' L' b o:=by
 cases o with
 |cells ty cs=>obtain⟨r1,xs,r2,r3⟩:=r;exact⟨hl.trans r1,xs,hb.trans r2,r3.mono h _ _⟩
 |row n=>obtain⟨r1,xs,ty,fr,r2,r3,r4⟩:=r;exact⟨hl.trans r1,xs,ty,fr,hb.trans r2,r3,r4⟩
 |map es clock=>obtain⟨r1,avs,r2,r3,r4,r5⟩:=r;exact⟨hl.trans r1,avs,hb.trans r2,r3,r4.mono h _ _,r5⟩
 |obj o=>obtain⟨r1,r2,r3⟩:=r;exact⟨hl.trans r1,hb.trans r2,by rw[qbM hb];exact r3⟩
theorem RelH.perm(h:RelH C w L H)(p:H.Perm H'):RelH C w L H':=
 ⟨h.base,h.lbase,h.b0,h.wf,((p.map _).nodup_iff).1 h.nodup,λq hq=>h.objs q (p.mem_iff.2 hq)⟩
theorem RelH.left(h:RelH C w L (H++F)):RelH C w L H:=
 ⟨h.base,h.lbase,h.b0,h.wf,(zRc (by simpa using h.nodup)).1,λq hq=>h.objs q (List.mem_append_left _ hq)⟩
theorem RelH.sub(h:RelH C w L H)(s:H'.Sublist H):RelH C w L H':=
 ⟨h.base,h.lbase,h.b0,h.wf,h.nodup.sublist (s.map _),λq hq=>h.objs q (s.subset hq)⟩
theorem RelH.frame(h:RelH C w L (H++F))(f:Fr (keys H) w L w' L' H')(h':RelH C w' L' H') :
  RelH C w' L' (H'++F)/\Fr (keys (H++F)) w L w' L' (H'++F):=by
 have hn:(keys H++keys F).Nodup:=by simpa [keys] using h.nodup
 have hdis:∀ q∈F,q.1 ∉ keys H:=λq hq hm=>(zRc hn).2.2 _ hm _ (List.mem_map_of_mem hq) rfl;refine⟨⟨h'.base,h'.lbase,h'.b0,h'.wf,?_,λp hp=>?_⟩,⟨f.os,f.tape,f.output,f.ext,λb hb hk=>?_,λb hb hk=>?_,λp hp=>?_⟩⟩;rw[zMa];refine List.nodup_append.2 ⟨h'.nodup,(zRc hn).2.1,λa ha b hb he=>?_⟩;subst he;obtain⟨p,hp,rfl⟩:=zRf ha;obtain⟨q,hq,he⟩:=zRf hb;have hqs:=(h.objs q (List.mem_append_right _ hq)).2.1;rcases f.kin p hp with h1|h1;exact hdis q hq (he▸h1);omega;rcases zRd hp with hp|hp;exact h'.objs p hp;obtain⟨r1,r2,r3⟩:=h.objs p (List.mem_append_right _ hp);exact⟨r1,Nat.lt_of_lt_of_le r2 f.ext.size,r3.keep f.ext (f.block _ r2 (hdis p hp)) (f.lsame _ r2 (hdis p hp))⟩;exact f.block b hb (λhm=>hk (by simp only[keys,zMa,List.mem_append];exact .inl hm));exact f.lsame b hb (λhm=>hk (by simp only[keys,zMa,List.mem_append];exact .inl hm));rcases zRd hp with hp|hp;rcases f.kin p hp with h1|h1;exact .inl (by simp only[keys,zMa,List.mem_append];exact .inl h1);exact .inr h1;exact .inl (by simp only[keys,zMa,List.mem_append];exact .inr (List.mem_map_of_mem hp))
def Pick(p:Nat×LObj)(H F:Heap):Prop:=H.Perm (p::F)
theorem pH{p:Nat×LObj}:Pick p (p::F) F:=List.Perm.refl _
theorem pT{p q:Nat×LObj}(h:Pick p H F):Pick p (q::H) (q::F):=
 (zRq q h).trans (zRr p q F)
def HSub(H' H:Heap):Prop:=∃ G,H.Perm (H'++G)
theorem zhR(H:Heap):HSub H H:=⟨[],by simp⟩
theorem HSub.nil(H:Heap):HSub [] H:=⟨H,by simp⟩
theorem zhD{p:Nat×LObj}(h:HSub H' H):HSub H' (p::H):=
 let ⟨G,hG⟩:=h
 ⟨p::G,(zRq p hG).trans List.perm_middle.symm⟩
theorem zhP{p:Nat×LObj}(hp:Pick p H F)(h:HSub H' F):HSub (p::H') H:=
 let ⟨G,hG⟩:=h
 ⟨G,List.Perm.trans hp (zRq p hG)⟩
theorem RelH.weak(h:RelH C w L H)(s:HSub H' H):RelH C w L H':=
 let ⟨_,hG⟩:=s
 (h.perm hG).left
theorem Fr.weak(h:Fr K w L w' L' H)(s:HSub H' H):Fr K w L w' L' H':=
 let ⟨_,hG⟩:=s
 h.sub λ_ hp=>hG.mem_iff.2 (List.mem_append_left _ hp)
structure Env where
 s:Nat->LV
 ds:List Deferred
variable{e:Env}
def Env.upd(e:Env)(d:Nat)(v:LV):Env:=⟨λi=>bif Nat.beq i d then v else e.s i,e.ds⟩
def Env.put(e:Env):Option Nat->LV->Env
 |some d,v=>e.upd d v
 |none,_=>e
def Env.ev(e:Env):Operand->LV
 |.tmp t=>e.s t
 |.const v=>.atom v
 |.global g=>.atom (.pointer (some ⟨g,0,none⟩))
 |.func f=>.atom (.func (.func f) #[] #[])
structure RelE(n:Nat)(a:Act)(e:Env)(w:World)(L:Live):Prop where
 size:a.tmps.size=n
 ds:a.defers=e.ds
 vals:∀ i,Rep w L (e.s i) (a.tmps.getD i undef)
theorem RelE.ev{n:Nat}{a:Act}{e:Env}{w:World}{L:Live}(h:RelE n a e w L):∀ x,Rep w L (e.ev x) (a.eval x):=λx=>by
 cases x with
 |tmp t=>exact h.vals t
 |const v=>simp only[Env.ev,Rep,Act.eval]
 |global g=>simp only[Env.ev,Rep,Act.eval]
 |func f=>simp only[Env.ev,Rep,Act.eval]
theorem RelE.mono{n:Nat}{a:Act}{e:Env}{w w':World}{L L':Live}(h:RelE n a e w L)(x:Ext w L w' L'):RelE n a e w' L':=
 ⟨h.size,h.ds,λi=>(h.vals i).mono x _ _⟩
def dstB(n:Nat):Option Nat->Bool
 |some d=>Nat.blt d n
 |none=>true
@[reducible] def qc8(n:Nat)(d:Option Nat):Prop:=dstB n d=true
theorem RelE.put{n:Nat}{a:Act}{e:Env}{w:World}{L:Live}(h:RelE n a e w L){dst:Option Nat}{lv:LV}{v:Value}(hd:qc8 n dst)(hv:Rep w L lv v) :
  RelE n (a.put dst v) (e.put dst lv) w L:=by
 cases dst with
 |none=>exact h
 |some d=>
  refine⟨by simp[Act.put,h.size],h.ds,λi=>?_⟩;simp only[Env.put,Env.upd,Act.put];have hs:=h.size;have hd:d<n:=by simpa [qc8,dstB] using hd
  by_cases hi:i=d
  subst hi;simp[Array.getD,hs,hd];exact hv
  have hb:Nat.beq i d=false:=by
   cases hb:Nat.beq i d with
   |true=>exact absurd (Nat.eq_of_beq_eq_true hb) hi
   |false=>rfl
  rw[hb];have hv':=h.vals i;rw[Array.getD_eq_getD_getElem?] at hv' ⊢;rw[Array.getElem?_setIfInBounds,zn (Ne.symm hi)];exact hv'
abbrev Post:=Exit->Env->Heap->Prop
variable{Q':Post}
def RelX(n:Nat):Exit->Act->Env->World->Live->Prop
 |.panic _,a,e,_,_=>a.defers=e.ds
 |_,a,e,w,L=>RelE n a e w L
def lift(C:Ctx)(n:Nat)(w:World)(L:Live)(K:List Nat)(Q:Post):Exit->Act->World->Prop:=
 λx a' w'=>∃ e' H' L',Fr K w L w' L' H'/\RelH C w' L' H'/\RelX n x a' e' w' L'/\Q x e' H'
theorem qjC{Q:Post}(h:∀ x e H,Q x e H->Q' x e H){x:Exit}{a:Act}
  (k:lift C n w L K Q x a w'):lift C n w L K Q' x a w':=
 let ⟨e',H',L',h1,h2,h3,h4⟩:=k
 ⟨e',H',L',h1,h2,h3,h _ _ _ h4⟩
theorem qdR{w1:World}{L1:Live}{Q:Post}(f:Fr K w L w1 L1 H1){x:Exit}{a:Act}
  (k:lift C n w1 L1 (keys H1) Q x a w'):lift C n w L K Q x a w':=
 let ⟨e',H',L',h1,h2,h3,h4⟩:=k
 ⟨e',H',L',f.trans h1,h2,h3,h4⟩
def qe7(w:World)(L:Live)(H:Heap)(w':World):Prop:=
 (∀ p∈H,w'.heap[p.1]? = w.heap[p.1]?)/\(∀ b i,i<L b->w'.cell? ⟨b,i,none⟩=w.cell? ⟨b,i,none⟩)
def Pure(C:Ctx)(o:Oper)(e:Env)(H:Heap)(lv:LV):Prop:=
 ∀ (ρ:Operand->Value) w L,(∀ x,Rep w L (e.ev x) (ρ x))->RelH C w L H ->
  ∃ v,Rep w L lv v/\∀ w',qe7 w L H w'->(execOp ρ o).run C.P w'=.ok (.value v) w'
def Left(C:Ctx)(w:World)(L:Live)(H:Heap)(w':World)(v:Value)(K:LV->Heap->Prop):Prop:=
 ∃ lv H' L',Fr (keys H) w L w' L' H'/\RelH C w' L' H'/\Rep w' L' lv v/\K lv H'
def qfh(C:Ctx)(w:World)(L:Live)(H:Heap)(w':World)(X:Heap->Prop):Prop:=
 ∃ H' L',Fr (keys H) w L w' L' H'/\RelH C w' L' H'/\X H'
def qcD(C:Ctx)(w:World)(L:Live)(H:Heap)(K:LV->Heap->Prop)(X:List PanicEntry->Heap->Prop):Ending->World->Prop
 |.returned v,w'=>Left C w L H w' v K
 |.panicked ch,w'=>qfh C w L H w' (X ch)
 |.outgrown,_=>False
def qe2(C:Ctx)(w:World)(L:Live)(H:Heap)(K:LV->Heap->Prop)(X:List PanicEntry->Heap->Prop):Result Next->Prop
 |.ok (.value v) w'=>Left C w L H w' v K
 |.ok .skip w'=>Left C w L H w' undef K
 |.ok (.enter f args) w'=>w'=w/\Calls C.P f args w (qcD C w L H K X)
 |.halt (.panic v) w'=>qfh C w L H w' (X [{ v,recovered:=false }])
 |_=>False
def qae(C:Ctx)(o:Oper)(e:Env)(H:Heap)(K:LV->Heap->Prop)(X:List PanicEntry->Heap->Prop):Prop:=
 ∀ (ρ:Operand->Value) w L,(∀ x,Rep w L (e.ev x) (ρ x))->RelH C w L H->qe2 C w L H K X ((execOp ρ o).run C.P w)
def LOps(C:Ctx)(n:Nat)(ops:Array Oper)(Q:Post)(rest:List Oper)(e:Env)(H:Heap):Prop:=
 ∀ a w L,RelE n a e w L->RelH C w L H->wpList C.P ops (lift C n w L (keys H) Q) rest a w
def qah(C:Ctx)(n:Nat)(c:Code)(Q:Post)(e:Env)(H:Heap):Prop:=
 ∀ a w L,RelE n a e w L->RelH C w L H->c.wp C.P (lift C n w L (keys H) Q) a w
inductive LRes where
 |ret (v:LV)
 |panic (ch:List PanicEntry)
variable{R:LRes->Heap->Prop}
def LCalls(C:Ctx)(f:FuncId)(args:List LV)(H:Heap)(R:LRes->Heap->Prop):Prop:=
 ∀ (vs:List Value) w L,RepL w L args vs->RelH C w L H ->
  Calls C.P f vs.toArray w (qcD C w L H (λv=>R (.ret v)) (λch=>R (.panic ch)))
theorem Left.mono{H:Heap}{K K':LV->Heap->Prop}(h:Left C w L H w' v K)(hk:∀ lv H,K lv H->K' lv H):Left C w L H w' v K':=
 let ⟨lv,H',L',h1,h2,h3,h4⟩:=h
 ⟨lv,H',L',h1,h2,h3,hk _ _ h4⟩
theorem qfh.mono{H:Heap}{X X':Heap->Prop}(h:qfh C w L H w' X)(hk:∀ H,X H->X' H):qfh C w L H w' X':=
 let ⟨H',L',h1,h2,h3⟩:=h
 ⟨H',L',h1,h2,hk _ h3⟩
theorem qcD.mono{C:Ctx}{w:World}{L:Live}{H:Heap}{K K':LV->Heap->Prop}{X X':List PanicEntry->Heap->Prop}(hk:∀ lv H,K lv H->K' lv H)(hx:∀ ch H,X ch H->X' ch H)
  (e:Ending) (w':World) (h:qcD C w L H K X e w'):qcD C w L H K' X' e w':=by
 cases e with
 |returned v=>exact Left.mono h hk
 |panicked ch=>exact qfh.mono h (hx ch)
 |outgrown=>exact h
theorem LCalls.mono{C:Ctx}{f:FuncId}{args:List LV}{H:Heap}{R R':LRes->Heap->Prop}(h:LCalls C f args H R)(hr:∀ r H,R r H->R' r H):LCalls C f args H R':=
 λvs w L h1 h2=>(h vs w L h1 h2).mono (qcD.mono (λ_ _=>hr _ _) (λ_ _=>hr _ _))
theorem Left.frame{C:Ctx}{w:World}{L:Live}{H F:Heap}{w':World}{v:Value}{K:LV->Heap->Prop}(hH:RelH C w L (H++F))(h:Left C w L H w' v (λlv H'=>K lv (H'++F))) :
  Left C w L (H++F) w' v K:=
 let ⟨lv,H',L',h1,h2,h3,h4⟩:=h
 let f:=hH.frame h1 h2
 ⟨lv,H'++F,L',f.2,f.1,h3,h4⟩
theorem qfh.frame{C:Ctx}{w:World}{L:Live}{H F:Heap}{w':World}{X:Heap->Prop}(hH:RelH C w L (H++F))(h:qfh C w L H w' (λH'=>X (H'++F))) :
  qfh C w L (H++F) w' X:=
 let ⟨H',L',h1,h2,h3⟩:=h
 let f:=hH.frame h1 h2
 ⟨H'++F,L',f.2,f.1,h3⟩
theorem Fr.perm{H2:Heap}(p:H1.Perm H2)(h:Fr (keys H1) w L w' L' H'):Fr (keys H2) w L w' L' H':=by
 have hm:∀ b,b∈keys H1 ↔ b∈keys H2:=λb=>(p.map _).mem_iff;exact⟨h.os,h.tape,h.output,h.ext,λb hb hn=>h.block b hb (λk=>hn ((hm b).1 k)),λb hb hn=>h.lsame b hb (λk=>hn ((hm b).1 k)),λq hq=>(h.kin q hq).imp (hm _).1 id⟩
theorem qe2.frame{C:Ctx}{w:World}{L:Live}{H F G:Heap}{K:LV->Heap->Prop}{X:List PanicEntry->Heap->Prop}(p:G.Perm (H++F))(hH:RelH C w L G){r:Result Next}
  (h:qe2 C w L H (λlv H'=>K lv (H'++F)) (λch H'=>X ch (H'++F)) r):qe2 C w L G K X r:=by
 have hH':=hH.perm p
 have lf:∀ {w' v},Left C w L H w' v (λlv H'=>K lv (H'++F))->Left C w L G w' v K:=λh=>by
  obtain⟨lv,H',L',h1,h2,h3,h4⟩:=Left.frame hH' h;exact⟨lv,H',L',h1.perm p.symm,h2,h3,h4⟩
 have lx:∀ {w' ch},qfh C w L H w' (λH'=>X ch (H'++F))->qfh C w L G w' (X ch):=λh=>by
  obtain⟨H',L',h1,h2,h3⟩:=qfh.frame hH' h;exact⟨H',L',h1.perm p.symm,h2,h3⟩
 unfold qe2 at h ⊢;split at h;exact lf h;exact lf h;refine⟨h.1,h.2.mono λe w' he=>?_⟩
 cases e with
 |returned v=>exact lf he
 |panicked ch=>exact lx he
 |outgrown=>exact he
 exact lx h;exact h.elim
theorem qae.frame{C:Ctx}{o:Oper}{e:Env}{G H F:Heap}{K:LV->Heap->Prop}{X:List PanicEntry->Heap->Prop}(p:G.Perm (H++F))
  (h:qae C o e H (λlv H'=>K lv (H'++F)) (λch H'=>X ch (H'++F))):qae C o e G K X:=
 λρ w L h1 h2=>qe2.frame p h2 (h ρ w L h1 (h2.perm p).left)
theorem Pure.step{K:LV->Heap->Prop}{X:List PanicEntry->Heap->Prop}(h:Pure C o e H lv)(k:K lv H):qae C o e H K X:=λρ w L h1 h2=>by
 obtain⟨v,hv,hr⟩:=h ρ w L h1 h2;rw[hr w ⟨λ_ _=>rfl,λ_ _ _=>rfl⟩];exact⟨lv,H,L,Fr.refl _ _ _,h2,hv,k⟩
theorem qbD{P:Program}{ops:Array Oper}{Q Q':Exit->Act->World->Prop}(h:∀ e a w,Q e a w->Q' e a w):∀ (l:List Oper) (a:Act) (w:World),wpList P ops Q l a w->wpList P ops Q' l a w
 |[],_,_,k=>h _ _ _ k
 |o::l,a,w,k=>by
  unfold wpList at k ⊢;split at k
  rename_i hw
  rw[zp hw];rcases k with k|⟨k1,a0,w0,k2⟩;refine .inl ?_;unfold Oper.wp at k ⊢;generalize (execOp a.eval o).run P w=r at k ⊢
  cases r with
  |ok x w'=>
   cases x <;> simp only[Oper.upon] at k ⊢ <;> first
    |exact qbD h l _ _ k
    |(refine Calls.mono k λe w'' he=>?_;cases e with
      |returned v=>exact qbD h l _ _ he
      |panicked ch=>exact h _ _ _ he
      |outgrown=>obtain⟨a0,w0,he⟩:=he;exact⟨a0,w0,h _ _ _ he⟩)
    |exact Rows.mono k λ_ _ he=>qbD h l _ _ he
  |halt x w'=>cases x <;> simp only[Oper.upon] at k ⊢ <;> exact h _ _ _ k
  exact .inr ⟨k1,a0,w0,h _ _ _ k2⟩
  rename_i hw
  rw[zn hw];exact qbD h l _ _ k
theorem qsL{K:LV->Heap->Prop}{X:List PanicEntry->Heap->Prop}(h:qae C o e H K X)(hd:qc8 n o.dst)
  {a:Act} {w:World} {L:Live} (hE:RelE n a e w L) (hH:RelH C w L H) {K':Act->World->Prop} {Q':Exit->Act->World->Prop}
  (hK:∀ lv H' L' w' a',Fr (keys H) w L w' L' H'->RelH C w' L' H'->RelE n a' (e.put o.dst lv) w' L'->K lv H'->K' a' w')
  (hX:∀ ch H' L' w',Fr (keys H) w L w' L' H'->RelH C w' L' H'->X ch H'->Q' (.panic ch) a w'):o.wp C.P a w K' Q':=by
 have hs:=h a.eval w L hE.ev hH;unfold Oper.wp
 have left:∀ {w' v},Left C w L H w' v K->K' (a.put o.dst v) w':=λh=>by
  obtain⟨lv,H',L',h1,h2,h3,h4⟩:=h;exact hK lv H' L' _ _ h1 h2 ((hE.mono h1.ext).put hd h3) h4
 have leftX:∀ {w' ch},qfh C w L H w' (X ch)->Q' (.panic ch) a w':=λh=>by
  obtain⟨H',L',h1,h2,h3⟩:=h;exact hX _ H' L' _ h1 h2 h3
 generalize (execOp a.eval o).run C.P w=r at hs ⊢;unfold qe2 at hs;split at hs;exact left hs;exact left hs;obtain⟨rfl,hs⟩:=hs;refine Calls.mono hs λe w' he=>?_
 cases e with
 |returned v=>exact left he
 |panicked ch=>exact leftX he
 |outgrown=>exact he.elim
 exact leftX hs;exact hs.elim
section ops
variable{C:Ctx}{n:Nat}{ops:Array Oper}{Q:Post}{e:Env}{H:Heap}
theorem LOps.nil(h:Q .normal e H):LOps C n ops Q [] e H:=λ_ _ L hE hH=>⟨e,H,L,Fr.refl _ _ _,hH,hE,h⟩
theorem oS{op:Op}
  (h:qae C ⟨dst,op,ty,pos,aft,none⟩ e H (λlv H'=>LOps C n ops Q rest (e.put dst lv) H') (λch H'=>∀ e',e'.ds=e.ds->Q (.panic ch) e' H'))
  (hd:qc8 n dst):LOps C n ops Q (⟨dst,op,ty,pos,aft,none⟩::rest) e H:=λa w L hE hH=>by
 unfold wpList;rw[zp (by simp[Region.wanted])];refine .inl (qsL h hd hE hH (λlv H' L' w' a' h1 h2 h3 h4=>?_) (λch H' L' w' h1 h2 h3=>?_));exact qbD (λ_ _ _=>qdR h1) _ _ _ (h4 a' w' L' h3 h2);exact⟨e,H',L',h1,h2,hE.ds,h3 e rfl⟩
theorem oP{op:Op}
  (h:Pure C ⟨dst,op,ty,pos,aft,none⟩ e H lv) (hd:qc8 n dst) (k:LOps C n ops Q rest (e.put dst lv) H):LOps C n ops Q (⟨dst,op,ty,pos,aft,none⟩::rest) e H:=
 oS (h.step k) hd
theorem qcI{a:Act}(hE:RelE n a e w L){b:Bool}(hj:(ops[j]?).bind (·.dst)=some d)(hb:e.s d=.atom (.bool b)):yielded ops a.tmps j=some b:=by
 have h:=hE.vals d;rw[hb] at h;simp only[Rep] at h;unfold yielded;rw[hj];simp only[Option.bind_some];rw[Array.getD_eq_getD_getElem?] at h
 cases hx:a.tmps[d]? with
 |none=>rw[hx] at h;simp[undef] at h
 |some x=>rw[hx] at h;simp only[Option.getD_some] at h;subst h;rfl
theorem LOps.want{op:Op}{b:Bool}
  (hj:(ops[j]?).bind (·.dst)=some d) (hb:e.s d=.atom (.bool b))
  (k:LOps C n ops Q (⟨dst,op,ty,pos,aft,none⟩::rest) e H):LOps C n ops Q (⟨dst,op,ty,pos,aft,some (j,b)⟩::rest) e H:=λa w L hE hH=>by
 have:=k a w L hE hH;unfold wpList at this ⊢;rw[zp (by simp[Region.wanted])] at this;rw[zp (by simp[Region.wanted,qcI hE hj hb])];exact this
theorem LOps.skip{op:Op}{b c:Bool}
  (hj:(ops[j]?).bind (·.dst)=some d) (hb:e.s d=.atom (.bool b)) (hne:b=!c) (hd:qc8 n dst)
  (k:LOps C n ops Q rest (e.put dst (.atom undef)) H):LOps C n ops Q (⟨dst,op,ty,pos,aft,some (j,c)⟩::rest) e H:=λa w L hE hH=>by
 unfold wpList;rw[zn (by subst hne;cases c <;> simp[Region.wanted,qcI hE hj hb])];exact k _ w L (hE.put hd (by simp only[Rep])) hH
theorem LOps.conseq(h:LOps C n ops Q rest e H)(hq:∀ x e H,Q x e H->Q' x e H):LOps C n ops Q' rest e H:=
 λa w L hE hH=>qbD (λ_ _ _=>qjC hq) _ _ _ (h a w L hE hH)
end ops
section code
variable{C:Ctx}{n:Nat}{Q:Post}{e:Env}{H:Heap}
def qaw(k:Env->Heap->Prop)(Q:Post):Post
 |.normal,e,H=>k e H
 |x,e,H=>Q x e H
def qam(id:Nat)(Q:Post):Post
 |.exit id',e,H=>if id'=id then Q .normal e H else Q (.exit id') e H
 |x,e,H=>Q x e H
theorem qah.conseq(h:qah C n c Q e H)(hq:∀ x e H,Q x e H->Q' x e H):qah C n c Q' e H:=
 λa w L hE hH=>Go.wp_mono (h a w L hE hH) (λ_ _ _=>qjC hq)
theorem qah.seq{x y:Code}(h:qah C n x (qaw (λe H=>qah C n y Q e H) Q) e H):qah C n (.seq x y) Q e H:=λa w L hE hH=>by
 refine wp_seq (Go.wp_mono (h a w L hE hH) λex a' w' hq=>?_);obtain⟨e',H',L',h1,h2,h3,h4⟩:=hq
 cases ex with
 |normal=>exact Go.wp_mono (h4 a' w' L' h3 h2) λ_ _ _=>qdR h1
 |exit id=>exact⟨e',H',L',h1,h2,h3,h4⟩
 |goto id=>exact⟨e',H',L',h1,h2,h3,h4⟩
 |ret=>exact⟨e',H',L',h1,h2,h3,h4⟩
 |panic ch=>exact⟨e',H',L',h1,h2,h3,h4⟩
 |outgrown=>exact⟨e',H',L',h1,h2,h3,h4⟩
theorem qah.block{id:Nat}{c:Code}(h:qah C n c (qam id Q) e H):qah C n (.block id c) Q e H:=λa w L hE hH=>by
 refine wp_block (Go.wp_mono (h a w L hE hH) λex a' w' hq=>?_);obtain⟨e',H',L',h1,h2,h3,h4⟩:=hq
 cases ex with
 |exit id'=>
  simp only[Exit.inBlock,qam] at h4 ⊢;split
  rename_i hid;rw[zp hid] at h4;exact⟨e',H',L',h1,h2,h3,h4⟩
  rename_i hid;rw[zn hid] at h4;exact⟨e',H',L',h1,h2,h3,h4⟩
 |normal=>exact⟨e',H',L',h1,h2,h3,h4⟩
 |goto id=>exact⟨e',H',L',h1,h2,h3,h4⟩
 |ret=>exact⟨e',H',L',h1,h2,h3,h4⟩
 |panic ch=>exact⟨e',H',L',h1,h2,h3,h4⟩
 |outgrown=>exact⟨e',H',L',h1,h2,h3,h4⟩
theorem qah.skip(h:Q .normal e H):qah C n .skip Q e H:=λ_ _ L hE hH=>wp_skip ⟨e,H,L,Fr.refl _ _ _,hH,hE,h⟩
theorem qah.exit{id:Nat}(h:Q (.exit id) e H):qah C n (.exit id) Q e H:=λ_ _ L hE hH=>wp_exit ⟨e,H,L,Fr.refl _ _ _,hH,hE,h⟩
theorem qah.ret(h:Q .ret e H):qah C n .ret Q e H:=λ_ _ L hE hH=>wp_ret ⟨e,H,L,Fr.refl _ _ _,hH,hE,h⟩
theorem oC{c:Operand}{x y:Code}{t:Bool}(hc:e.ev c=.atom (.bool t))(ht:t=true->qah C n x Q e H)(hf:t=false->qah C n y Q e H):qah C n (.cond c x y) Q e H:=
 λa w L hE hH=>by
  have hv:=hE.ev c;rw[hc] at hv;simp only[Rep] at hv;exact wp_cond_split hv (λh=>ht h a w L hE hH) (λh=>hf h a w L hE hH)
theorem qah.region{id:Nat}{l:List Oper}(h:LOps C n l.toArray Q l e H):qah C n (.region id l.toArray false) Q e H:=λa w L hE hH=>wp_region_lit (h a w L hE hH)
theorem qi4{Q:Exit->Act->World->Prop}(I:Nat->Act->World->Prop)
  (round:∀ n a w,I n a w->c.wp P (Exit.then (λa' w'=>∃ m,m<n/\I m a' w') Q) a w) {n:Nat} {a:Act} {w:World} (h₀:I n a w):(Code.loop c).wp P Q a w:=by
 intro b k cs
 have key:∀ n a w,I n a w ->
   ∃ e a' w',Q e a' w'/\Arrives P (lone (b.at a (.code c::.inLoop c::k)) cs w) b k cs e a' w':=by
  intro n
  induction n using Nat.strongRecOn with
  |_ n ih=>
   intro a w hI;obtain⟨e,a₁,w₁,hq,harr⟩:=round n a w hI b (.inLoop c::k) cs
   cases e with
   |normal=>
    obtain⟨m,hlt,hI₁⟩:=hq;obtain⟨e₂,a₂,w₂,hq₂,harr₂⟩:=ih m hlt a₁ w₁ hI₁
    exact⟨e₂,a₂,w₂,hq₂,.of_steps (Steps.trans harr (.one step_inLoop)) harr₂⟩
   |exit id=>exact⟨_,a₁,w₁,hq,.pass (x:=.inLoop c) rfl (λ_ _=>.inl (by simp)) harr⟩
   |goto l=>exact⟨_,a₁,w₁,hq,.pass (x:=.inLoop c) rfl (λ_ _=>.inl (by simp)) harr⟩
   |ret=>exact⟨_,a₁,w₁,hq,.pass (x:=.inLoop c) rfl (λ_ _=>.inl (by simp)) harr⟩
   |panic ch=>exact⟨_,a₁,w₁,hq,.pass (x:=.inLoop c) rfl (λ_ _=>.inl (by simp)) harr⟩
   |outgrown=>exact⟨_,a₁,w₁,hq,.pass (x:=.inLoop c) rfl (λ_ _=>.inl (by simp)) harr⟩
 obtain⟨e,a',w',hq,harr⟩:=key n a w h₀;exact⟨e,a',w',hq,.of_steps (.one step_loop) harr⟩
theorem qah.loop{c:Code}(I:Nat->Env->Heap->Prop)(k:Nat)(h0:I k e H)
  (round:∀ k e H,I k e H->qah C n c (qaw (λe' H'=>∃ m,m<k/\I m e' H') Q) e H):qah C n (.loop c) Q e H:=λa w L hE hH=>by
 refine qi4 (I:=λk a' w'=>∃ e' H' L',Fr (keys H) w L w' L' H'/\RelH C w' L' H'/\RelE n a' e' w' L'/\I k e' H') (n:=k) ?_ ⟨e,H,L,Fr.refl _ _ _,hH,hE,h0⟩;rintro k a1 w1 ⟨e1,H1,L1,h1,h2,h3,h4⟩;refine Go.wp_mono (round k e1 H1 h4 a1 w1 L1 h3 h2) λex a' w' hq=>?_;obtain⟨e',H',L',g1,g2,g3,g4⟩:=hq
 cases ex with
 |normal=>
  obtain⟨m,hm,g4⟩:=g4
  exact⟨m,hm,e',H',L',h1.trans g1,g2,g3,g4⟩
 |exit id=>exact⟨e',H',L',h1.trans g1,g2,g3,g4⟩
 |goto id=>exact⟨e',H',L',h1.trans g1,g2,g3,g4⟩
 |ret=>exact⟨e',H',L',h1.trans g1,g2,g3,g4⟩
 |panic ch=>exact⟨e',H',L',h1.trans g1,g2,g3,g4⟩
 |outgrown=>exact⟨e',H',L',h1.trans g1,g2,g3,g4⟩
def Env.slots(j:Env):List (Nat×LV)->Env
 |[]=>j
 |(d,v)::r=>(Env.slots j r).upd d v
theorem Env.upd_self{v:LV}(h:e.s d=v):e.upd d v=e:=by
 obtain⟨s,ds⟩:=e;simp only[Env.upd,Env.mk.injEq,and_true];funext i
 cases hb:Nat.beq i d with
 |false=>rfl
 |true=>
  have:=Nat.eq_of_beq_eq_true hb;subst this;exact h.symm
theorem Env.slots_self{e:Env}:∀ {l:List (Nat×LV)},(∀ p∈l,e.s p.1=p.2)->Env.slots e l=e
 |[],_=>rfl
 |(d,v)::r,h=>by
  simp only[Env.slots];rw[Env.slots_self (l:=r) (λp hp=>h p (zMo _ hp))];exact Env.upd_self (h (d,v) List.mem_cons_self)
end code
section exits
variable{C:Ctx}{n:Nat}{Q:Post}{e:Env}{H:Heap}{k:Env->Heap->Prop}{id id':Nat}
theorem qN(h:k e H):qaw k Q .normal e H:=h
theorem qaw.exit(h:Q (.exit id) e H):qaw k Q (.exit id) e H:=h
theorem qaw.ret(h:Q .ret e H):qaw k Q .ret e H:=h
theorem qaw.panic{ch:List PanicEntry}(h:Q (.panic ch) e H):qaw k Q (.panic ch) e H:=h
theorem qam.hit(h:Q .normal e H):qam id Q (.exit id) e H:=by simp only[qam,if_true];exact h
theorem qam.miss(hn:id'≠id)(h:Q (.exit id') e H):qam id Q (.exit id') e H:=by simp only[qam,zn hn];exact h
theorem qam.normal(h:Q .normal e H):qam id Q .normal e H:=h
theorem qam.ret(h:Q .ret e H):qam id Q .ret e H:=h
theorem qam.panic{ch:List PanicEntry}(h:Q (.panic ch) e H):qam id Q (.panic ch) e H:=h
theorem oB(d:Nat){b:Bool}(hb:e.s d=bool b)(ht:b=true->LOps C n ops Q rest (e.upd d (bool true)) H)(hf:b=false->LOps C n ops Q rest (e.upd d (bool false)) H):LOps C n ops Q rest e H:=by
 cases b;have:=hf rfl;rwa [Env.upd_self hb] at this;have:=ht rfl;rwa [Env.upd_self hb] at this
theorem qah.sub{v v':LV}(hv:e.s d=v)(hs:v.Sub v')(h:qah C n c Q (e.upd d v') H):qah C n c Q e H:=λa w L hE hH=>by
 refine h a w L ⟨hE.size,hE.ds,λi=>?_⟩ hH;simp only[Env.upd]
 cases hb:Nat.beq i d with
 |false=>exact hE.vals i
 |true=>
  have hi:=Nat.eq_of_beq_eq_true hb;subst hi;have:=hE.vals i;rw[hv] at this;exact hs _ _ _ this
theorem LOps.sub(d:Nat){v v':LV}(hv:e.s d=v)(hs:v.Sub v')(h:LOps C n ops Q rest (e.upd d v') H):LOps C n ops Q rest e H:=λa w L hE hH=>by
 refine h a w L ⟨hE.size,hE.ds,λi=>?_⟩ hH;simp only[Env.upd]
 cases hb:Nat.beq i d with
 |false=>exact hE.vals i
 |true=>
  have hi:=Nat.eq_of_beq_eq_true hb;subst hi;have:=hE.vals i;rw[hv] at this;exact hs _ _ _ this
theorem qfY{K:List Nat}(hK:∀ b∈K,b∈keys H1){x:Exit}{a:Act}(h:lift C n w L K Q x a w'):lift C n w L (keys H1) Q x a w':=
 let ⟨e',H',L',h1,h2,h3,h4⟩:=h
 ⟨e',H',L',⟨h1.os,h1.tape,h1.output,h1.ext,λb hb hn=>h1.block b hb (λk=>hn (hK b k)),λb hb hn=>h1.lsame b hb (λk=>hn (hK b k)),λp hp=>(h1.kin p hp).imp (hK _) id⟩,h2,h3,h4⟩
theorem HSub.keys{H' H:Heap}(s:HSub H' H):∀ b∈keys H',b∈GL.keys H:=λb hb=>by
 obtain⟨p,hp,rfl⟩:=zRf hb;obtain⟨G,hG⟩:=s;exact List.mem_map_of_mem (hG.mem_iff.2 (List.mem_append_left _ hp))
theorem cW(s:HSub H' H)(h:qah C n c Q e H'):qah C n c Q e H:=λa w L hE hH=>Go.wp_mono (h a w L hE (hH.weak s)) λ_ _ _=>qfY s.keys
theorem LOps.weak{ops:Array Oper}{rest:List Oper}{H':Heap}(s:HSub H' H)(h:LOps C n ops Q rest e H'):LOps C n ops Q rest e H:=λa w L hE hH=>qbD (λ_ _ _=>qfY s.keys) _ _ _ (h a w L hE (hH.weak s))
theorem qah.perm(s:H.Perm H')(h:qah C n c Q e H'):qah C n c Q e H:=cW ⟨[],by simpa using s⟩ h
end exits
def qbm(tmps:Array Value):ResultVar->Sem Value
 |.tmp t=>Pure.pure (tmps.getD t undef)
 |.cell a t=>do loadVar t (<-asAddr (tmps.getD a undef))
def qcU(C:Ctx)(n:Nat)(e:Env)(H:Heap)(r:ResultVar)(lv:LV):Prop:=
 ∀ a w L,RelE n a e w L->RelH C w L H->∃ v,(qbm a.tmps r).run C.P w=.ok v w/\Rep w L lv v
def qbQ(C:Ctx)(n:Nat)(e:Env)(H:Heap):List ResultVar->List LV->Prop
 |[],[]=>True
 |r::rs,v::vs=>qcU C n e H r v/\qbQ C n e H rs vs
 |_,_=>False
def qbE:List LV->LV
 |[v]=>v
 |vs=>.tuple vs
def qad(C:Ctx)(n:Nat)(rs:List ResultVar)(R:LRes->Heap->Prop):Post
 |.normal,e,H|.ret,e,H=>e.ds=[]/\∃ vs H',qbQ C n e H rs vs/\HSub H' H/\R (.ret (qbE vs)) H'
 |.panic ch,e,H=>e.ds=[]/\∃ H',HSub H' H/\R (.panic ch) H'
 |_,_,_=>False
def qfy(args:List LV):Env:=⟨λi=>(args[i]?).getD (.atom undef),[]⟩
theorem RepL.length{w:World}{L:Live}:∀ {cs:List LV} {xs:List Value},RepL w L cs xs->xs.length=cs.length
 |[],xs,h=>by simp only[RepL] at h;subst h;rfl
 |c::cs,xs,h=>by
  simp only[RepL] at h;obtain⟨y,ys,rfl,_,h⟩:=h;simp[RepL.length h]
theorem RepL.get{w:World}{L:Live}:∀ {cs:List LV} {xs:List Value},RepL w L cs xs->∀ {i:Nat} {c:LV},cs[i]? = some c->∃ x,xs[i]? = some x/\Rep w L c x
 |[],_,_,i,c,hc=>by simp at hc
 |c::cs,xs,h,i,c',hc=>by
  simp only[RepL] at h;obtain⟨y,ys,rfl,h1,h⟩:=h
  cases i with
  |zero=>simp at hc;subst hc;exact⟨y,rfl,h1⟩
  |succ i=>simpa using RepL.get h (i:=i) (by simpa using hc)
theorem qdJ{α β:Type}{s:Sem α}{f:α->Sem β}{v:α}(h:s.run P w=.ok v w'):(s >>= f).run P w=(f v).run P w':=by
 rw[zRt,h];try rfl
theorem qph{fn:Func}(h:fn.results=#[])(tmps:Array Value)(w:World):(results fn tmps).run P w=.ok (.tuple #[]) w:=by simp[results,h]
theorem qt4{fn:Func}{r:ResultVar}(h:fn.results=#[r])(h1:(qbm tmps r).run P w=.ok v w):(results fn tmps).run P w=.ok v w:=by
 have:results fn tmps=qbm tmps r:=by
  cases r <;> simp[results,h,qbm]
 rw[this,h1]
theorem quh{fn:Func}{r s:ResultVar}(h:fn.results=#[r,s])(h1:(qbm tmps r).run P w=.ok v w)(h2:(qbm tmps s).run P w=.ok u w) :
  (results fn tmps).run P w=.ok (.tuple #[v,u]) w:=by
 have:results fn tmps=(do let v <-qbm tmps r;let u <-qbm tmps s;Pure.pure (.tuple #[v,u])):=by
  cases r <;> cases s <;> simp[results,h,qbm]
 rw[this,qdJ h1,qdJ h2]
 try rfl
theorem qtF{fn:Func}{r s t:ResultVar}(h:fn.results=#[r,s,t])(h1:(qbm tmps r).run P w=.ok v w)(h2:(qbm tmps s).run P w=.ok u w)(h3:(qbm tmps t).run P w=.ok x w) :
  (results fn tmps).run P w=.ok (.tuple #[v,u,x]) w:=by
 have:results fn tmps=(do let v <-qbm tmps r;let u <-qbm tmps s;let x <-qbm tmps t;Pure.pure (.tuple #[v,u,x])):=by
  cases r <;> cases s <;> cases t <;> simp[results,h,qbm]
 rw[this,qdJ h1,qdJ h2,qdJ h3]
 try rfl
theorem qhS{fn:Func}{a:Act}(hE:RelE n a e w L)(hH:RelH C w L H)
  (h:qbQ C n e H fn.results.toList vs) (h3:fn.results.size<=3):∃ v,(results fn a.tmps).run C.P w=.ok v w/\Rep w L (qbE vs) v:=by
 obtain⟨rs,hrs⟩:∃ rs,fn.results=List.toArray rs:=⟨fn.results.toList,by simp⟩;rw[hrs] at h h3;simp only[List.size_toArray] at h h3
 match rs,vs,h,h3,hrs with
 |[],[],_,_,hrs=>exact⟨_,qph hrs _ _,by simp only[qbE,Rep];exact⟨[],rfl,by simp only[RepL]⟩⟩
 |[r],[x],h,_,hrs=>
  obtain⟨v,hv,hr⟩:=h.1 a w L hE hH
  exact⟨v,qt4 hrs hv,hr⟩
 |[r,s],[x,y],h,_,hrs=>
  obtain⟨v,hv,hr⟩:=h.1 a w L hE hH;obtain⟨u,hu,hs⟩:=h.2.1 a w L hE hH
  exact⟨_,quh hrs hv hu,by simp only[qbE,Rep];exact⟨[v,u],rfl,by simp only[RepL];exact⟨v,_,rfl,hr,u,_,rfl,hs,rfl⟩⟩⟩
 |[r,s,t],[x,y,z],h,_,hrs=>
  obtain⟨v,hv,hr⟩:=h.1 a w L hE hH;obtain⟨u,hu,hs⟩:=h.2.1 a w L hE hH;obtain⟨q,hq,ht⟩:=h.2.2.1 a w L hE hH
  exact⟨_,qtF hrs hv hu hq,by simp only[qbE,Rep];exact⟨[v,u,q],rfl,by simp only[RepL];exact⟨v,_,rfl,hr,u,_,rfl,hs,q,_,rfl,ht,rfl⟩⟩⟩
 |_::_::_::_::_,_,_,h3,_=>simp at h3
 |[],_::_,h,_,_=>exact h.elim
 |[_],[],h,_,_=>exact h.elim
 |[_],_::_::_,h,_,_=>exact h.2.elim
 |[_,_],[],h,_,_=>exact h.elim
 |[_,_],[_],h,_,_=>exact h.2.elim
 |[_,_],_::_::_::_,h,_,_=>exact h.2.2.elim
 |[_,_,_],[],h,_,_=>exact h.elim
 |[_,_,_],[_],h,_,_=>exact h.2.elim
 |[_,_,_],[_,_],h,_,_=>exact h.2.2.elim
 |[_,_,_],_::_::_::_::_,h,_,_=>exact h.2.2.2.elim
theorem cI{fn:Func}{args:List LV}(hf:C.P.funcs[f]? = some fn)(hb:fn.body=some c)(hn:fn.ntmps=n)(h3:Nat.ble fn.results.size 3=true)
  (hl:Nat.ble args.length n=true) (h:qah C n c (qad C n fn.results.toList R) (qfy args) H):LCalls C f args H R:=λvs w L hv hH=>by
 subst hn;have hl':args.length<=fn.ntmps:=by simpa using hl
 have h3':fn.results.size<=3:=by simpa using h3
 have hlen:=hv.length;refine calls_of_wp hf hb (Go.wp_mono (h _ w L ⟨?_,rfl,λi=>?_⟩ hH) λex a' w' hq=>?_)
 simp;omega
 exact zT0;obtain⟨e',H',L',g1,g2,g3,g4⟩:=hq
 have ret:RelE fn.ntmps a' e' w' L'->(e'.ds=[]/\∃ vs H'',qbQ C fn.ntmps e' H' fn.results.toList vs/\HSub H'' H'/\R (.ret (qbE vs)) H'') ->
   a'.defers=[]/\∃ v,(results fn a'.tmps).run C.P w'=.ok v w'/\qcD C w L H (λv=>R (.ret v)) (λch=>R (.panic ch)) (.returned v) w':=λhE hr=>by
  obtain⟨h1,vs',H'',h2,h4,h5⟩:=hr;obtain⟨v,r1,r2⟩:=qhS hE g2 h2 h3';exact⟨hE.ds.trans h1,v,r1,qbE vs',H'',L',g1.weak h4,g2.weak h4,r2,h5⟩
 cases ex with
 |normal=>exact ret g3 g4
 |ret=>exact ret g3 g4
 |panic ch=>
  obtain⟨h1,H'',h4,h5⟩:=g4
  exact⟨g3.trans h1,H'',L',g1.weak h4,g2.weak h4,h5⟩
 |exit id=>exact g4.elim
 |goto id=>exact g4.elim
 |outgrown=>exact g4.elim
theorem rT{v:LV}(hv:e.s t=v)(h:v.Sub lv):qcU C n e H (.tmp t) lv:=λa w L hE _=>by
 have:=hE.vals t;rw[hv] at this;exact⟨_,rfl,h _ _ _ this⟩
class TOne (P:Program) (t:TypeId):Prop where
 und:∃ d,P.underlying t=some d/\(match d with|.struct _|.array _ _=>False|_=>True)
 size:∃ i,P.info? t=some i/\i.size=1
def qvj(P:Program)(t:TypeId):Bool:=
 (match P.underlying t with|some (.struct _)|some (.array _ _)|none=>false|_=>true) && (match P.info? t with|some i=>i.size == 1|none=>false)
theorem TOne.of{t:TypeId}(h:qvj P t=true):TOne P t:=by
 unfold qvj at h;simp only[zBa] at h;obtain⟨h1,h2⟩:=h;refine⟨?_,?_⟩
 cases hu:P.underlying t with
 |none=>rw[hu] at h1;simp at h1
 |some d=>rw[hu] at h1;refine⟨d,rfl,?_⟩;cases d <;> simp_all
 cases hi:P.info? t with
 |none=>rw[hi] at h2;simp at h2
 |some i=>rw[hi] at h2;exact⟨i,rfl,by simpa using h2⟩
class TAgg (P:Program) (t:TypeId) (k:outParam Nat):Prop where
 und:∃ d,P.underlying t=some d/\(match d with|.struct _|.array _ _=>True|_=>False)
 size:∃ i,P.info? t=some i/\i.size=k
def qvn(P:Program)(t k:Nat):Bool:=
 (match P.underlying t with|some (.struct _)|some (.array _ _)=>true|_=>false) && (match P.info? t with|some i=>i.size == k|none=>false)
theorem TAgg.of{t:TypeId}(h:qvn P t k=true):TAgg P t k:=by
 unfold qvn at h;simp only[zBa] at h;obtain⟨h1,h2⟩:=h;refine⟨?_,?_⟩
 cases hu:P.underlying t with
 |none=>rw[hu] at h1;simp at h1
 |some d=>rw[hu] at h1;refine⟨d,rfl,?_⟩;cases d <;> simp_all
 cases hi:P.info? t with
 |none=>rw[hi] at h2;simp at h2
 |some i=>rw[hi] at h2;exact⟨i,rfl,by simpa using h2⟩
class TSlice (P:Program) (t:TypeId) (e s:outParam Nat):Prop where
 und:P.underlying t=some (.slice e)
 size:∃ i,P.info? e=some i/\i.size=s
def qoQ(P:Program)(t e s:Nat):Bool:=
 (match P.underlying t with|some (.slice e')=>e' == e|_=>false) && (match P.info? e with|some i=>i.size == s|none=>false)
theorem TSlice.of{e:Nat}(h:qoQ P t e s=true):TSlice P t e s:=by
 unfold qoQ at h;simp only[zBa] at h;obtain⟨h1,h2⟩:=h;refine⟨?_,?_⟩
 cases hu:P.underlying t with
 |none=>rw[hu] at h1;simp at h1
 |some d=>rw[hu] at h1;cases d <;> simp_all
 cases hi:P.info? e with
 |none=>rw[hi] at h2;simp at h2
 |some i=>rw[hi] at h2;exact⟨i,rfl,by simpa using h2⟩
class TField (P:Program) (s f:Nat) (k:outParam Nat):Prop where
 out:∃ fs fld,P.underlying s=some (.struct fs)/\fs[f]? = some fld/\fld.offset=k/\∃ i,P.info? fld.type=some i/\i.size≠0
def qpb(P:Program)(s f k:Nat):Bool:=
 match P.underlying s with
 |some (.struct fs)=>(match fs[f]? with|some fld=>fld.offset == k && (match P.info? fld.type with|some i=>i.size != 0|none=>false)|none=>false)
 |_=>false
theorem TField.of{f:Nat}(h:qpb P s f k=true):TField P s f k:=by
 unfold qpb at h
 cases hu:P.underlying s with
 |none=>rw[hu] at h;simp at h
 |some d=>
  rw[hu] at h;cases d <;> simp only[zRn] at h
  rename_i fs
  cases hf:fs[f]? with
  |none=>rw[hf] at h;simp at h
  |some fld=>
   rw[hf] at h;simp only[zBa,beq_iff_eq] at h
   cases hi:P.info? fld.type with
   |none=>rw[hi] at h;simp at h
   |some i=>rw[hi] at h;exact⟨fs,fld,hu,hf,h.1,i,hi,by simpa using h.2⟩
class TStr (P:Program) (t:TypeId):Prop where
 und:P.underlying t=some .string
def qvf(P:Program)(t:Nat):Bool:=match P.underlying t with|some .string=>true|_=>false
theorem TStr.of(h:qvf P t=true):TStr P t:=by
 unfold qvf at h;refine⟨?_⟩
 cases hu:P.underlying t with
 |none=>rw[hu] at h;simp at h
 |some d=>rw[hu] at h;cases d <;> simp_all
class TKind (P:Program) (t:TypeId) (k:outParam IntKind):Prop where
 und:P.underlying t=some (.int k)
def qsT(P:Program)(t:Nat)(k:IntKind):Bool:=match P.underlying t with|some (.int k')=>k' == k|_=>false
theorem TKind.of{k:IntKind}(h:qsT P t k=true):TKind P t k:=by
 unfold qsT at h;refine⟨?_⟩
 cases hu:P.underlying t with
 |none=>rw[hu] at h;simp at h
 |some d=>rw[hu] at h;cases d <;> simp_all
class TZero (P:Program) (t:TypeId) (zs:outParam (List Value)):Prop where
 out:∃ i v,P.info? t=some i/\i.zero=some v/\v.cells=zs.toArray/\i.size=zs.length
theorem TZero.of{t:TypeId}(h:(P.info? t).map (λi=>(i.zero,i.size))=some (some v,n))(hc:v.cells=zs.toArray)(hn:n=zs.length):TZero P t zs:=by
 cases hi:P.info? t with
 |none=>rw[hi] at h;cases h
 |some i=>
  rw[hi] at h;simp only[Option.map_some,zRh,Prod.mk.injEq] at h;exact⟨i,v,hi,h.1,hc,h.2.trans hn⟩
class TStruct (P:Program) (t:TypeId) (pl:outParam (List (Nat×Nat))):Prop where
 out:∃ fs,P.underlying t=some (.struct fs)/\(fs.toList.map λf=>(f.offset,P.cellsOf f.type))=pl/\∀ f∈fs,(P.info? f.type).isSome
def qmC(P:Program)(t:Nat)(pl:List (Nat×Nat)):Bool:=
 match P.underlying t with
 |some (.struct fs)=>(fs.toList.map λf=>(f.offset,P.cellsOf f.type)) == pl && fs.toList.all λf=>(P.info? f.type).isSome
 |_=>false
theorem TStruct.of{pl:List (Nat×Nat)}(h:qmC P t pl=true):TStruct P t pl:=by
 unfold qmC at h
 cases hu:P.underlying t with
 |none=>rw[hu] at h;simp at h
 |some d=>
  rw[hu] at h;cases d <;> simp only[zRn] at h
  rename_i fs
  simp only[zBa,beq_iff_eq,List.all_eq_true] at h;exact⟨fs,hu,h.1,λf hf=>h.2 f (by simpa using hf)⟩
class TConcrete (P:Program) (t:TypeId):Prop where
 out:∃ d,P.underlying t=some d/\(match d with|.interface _=>False|_=>True)
def qjk(P:Program)(t:Nat):Bool:=match P.underlying t with|some (.interface _)|none=>false|_=>true
theorem TConcrete.of(h:qjk P t=true):TConcrete P t:=by
 unfold qjk at h
 cases hu:P.underlying t with
 |none=>rw[hu] at h;simp at h
 |some d=>rw[hu] at h;exact⟨d,hu,by cases d <;> simp_all⟩
theorem qaa{t:TypeId}{d:TypeDesc}(h:P.underlying t=some d)(w:World):(underlying t).run P w=.ok d w:=by simp[underlying,program,Sem.run,h,bind,Sem.bind,Pure.pure]
theorem qdH{t:TypeId}{i:TypeInfo}(h:P.info? t=some i)(w:World):(typeInfo t).run P w=.ok i w:=by simp[typeInfo,program,Sem.run,h,bind,Sem.bind,Pure.pure]
theorem qbG{t:TypeId}{i:TypeInfo}(h:P.info? t=some i)(w:World):(sizeOf t).run P w=.ok i.size w:=by simp[sizeOf,qdH h]
theorem TOne.isAgg{P:Program}{t:TypeId} [h:TOne P t](w:World):(isAgg t).run P w=.ok false w:=by
 obtain⟨d,hd,hm⟩:=h.und;simp only[Go.isAgg,zRt,qaa hd,zRv];cases d <;> simp_all
theorem TAgg.isAgg{P:Program}{t k:Nat} [h:TAgg P t k](w:World):(isAgg t).run P w=.ok true w:=by
 obtain⟨d,hd,hm⟩:=h.und;simp only[Go.isAgg,zRt,qaa hd,zRv];cases d <;> simp_all
theorem qai:Rep w L (.atom v) v:=by simp only[Rep]
theorem qhQ(l:List UInt8):(ByteArray.mk l.toArray).size=l.length:=by simp[ByteArray.size]
section pure
variable{C:Ctx}{e:Env}{H:Heap}{dst:Option Nat}{ty:TypeId}{pos:String}{aft:Array Edge}{g:Option (Nat×Bool)}
theorem Pure.of_any(h:∀ (ρ:Operand->Value) w L,(∀ x,Rep w L (e.ev x) (ρ x))->∃ v,Rep w L lv v/\∀ w',(execOp ρ o).run C.P w'=.ok (.value v) w'):Pure C o e H lv:=
 λρ w L h1 _=>
  let ⟨v,h2,h3⟩:=h ρ w L h1
  ⟨v,h2,λw' _=>h3 w'⟩
theorem qag(h:∀ x,Rep w L (e.ev x) (ρ x)){x:Operand}(hx:e.ev x=.atom v):ρ x=v:=by
 have:=h x;rw[hx] at this;simpa only[Rep] using this
theorem Pure.move{x:Operand}:Pure C ⟨dst,.move x,ty,pos,aft,g⟩ e H (e.ev x):=.of_any λρ _ _ h=>⟨ρ x,h x,λ_=>rfl⟩
theorem Pure.assign{x:Operand}:Pure C ⟨dst,.assign x,ty,pos,aft,g⟩ e H (e.ev x):=.of_any λρ _ _ h=>⟨ρ x,h x,λ_=>rfl⟩
theorem Pure.pick{c a b:Operand}{t:Bool}(hc:e.ev c=bool t):Pure C ⟨dst,.pick c a b,ty,pos,aft,g⟩ e H (if t then e.ev a else e.ev b):=.of_any λρ w L h=>by
 have h1:=qag h hc;refine⟨if t then ρ a else ρ b,by cases t <;> simp[h],λw'=>?_⟩;cases t <;> simp[execOp,h1,asBool]
theorem qev{op:BinOp}{xT yT:TypeId}{x y:Operand}{k:IntKind}{b:Int}(hx:ρ x=.int k a)(hy:ρ y=.int k b)(hs:op≠.shl)(hr:op≠.shr){s:Sem Value}
  (h:(binOp op xT (.int k a) (.int k b))=s) {v:Value} (hv:∀ w,s.run P w=.ok v w) (w:World):(execOp ρ ⟨dst,.binOp op xT x y yT,ty,pos,aft,g⟩).run P w=.ok (.value v) w:=by
 subst h
 have he:eqGuard op xT x y (.int k a) (.int k b)=Pure.pure ():=by
  unfold eqGuard;cases op <;> rfl
 simp only[execOp,hx,hy,he,zRt,zRu,zRv,hv]
variable{xT yT:TypeId}{x y:Operand}{k:IntKind}{a b:Int}
theorem Pure.addW(hx:e.ev x=int k a)(hy:e.ev y=int k b):Pure C ⟨dst,.binOp .add xT x y yT,ty,pos,aft,g⟩ e H (int k (k.wrap (a+b))):=
 .of_any λ_ _ _ h=>⟨_,qai,qev (qag h hx) (qag h hy) (by simp) (by simp) (s:=Op.intArith .add k a b) (by simp only[binOp,ne_eq,not_true_eq_false,if_false]) (λ_=>rfl)⟩
theorem Pure.subW(hx:e.ev x=int k a)(hy:e.ev y=int k b):Pure C ⟨dst,.binOp .sub xT x y yT,ty,pos,aft,g⟩ e H (int k (k.wrap (a-b))):=
 .of_any λ_ _ _ h=>⟨_,qai,qev (qag h hx) (qag h hy) (by simp) (by simp) (s:=Op.intArith .sub k a b) (by simp only[binOp,ne_eq,not_true_eq_false,if_false]) (λ_=>rfl)⟩
theorem Pure.mulW(hx:e.ev x=int k a)(hy:e.ev y=int k b):Pure C ⟨dst,.binOp .mul xT x y yT,ty,pos,aft,g⟩ e H (int k (k.wrap (a * b))):=
 .of_any λ_ _ _ h=>⟨_,qai,qev (qag h hx) (qag h hy) (by simp) (by simp) (s:=Op.intArith .mul k a b) (by simp only[binOp,ne_eq,not_true_eq_false,if_false]) (λ_=>rfl)⟩
theorem qeo{n:Int}(h : -9223372036854775808<=n/\n<=9223372036854775807):IntKind.i64.wrap n=n:=by
 simp only[IntKind.wrap,IntKind.bits,IntKind.signed,Bool.true_and];split <;> rename_i h <;> simp at h <;> omega
theorem Pure.add(hx:e.ev x=int .i64 a)(hy:e.ev y=int .i64 b)(h : -9223372036854775808<=a+b/\a+b<=9223372036854775807):Pure C ⟨dst,.binOp .add xT x y yT,ty,pos,aft,g⟩ e H (int .i64 (a+b)):=by
 have:=Pure.addW (C:=C) (H:=H) (dst:=dst) (ty:=ty) (pos:=pos) (aft:=aft) (g:=g) (xT:=xT) (yT:=yT) hx hy
 rwa [qeo h] at this
theorem Pure.sub(hx:e.ev x=int .i64 a)(hy:e.ev y=int .i64 b)(h : -9223372036854775808<=a-b/\a-b<=9223372036854775807):Pure C ⟨dst,.binOp .sub xT x y yT,ty,pos,aft,g⟩ e H (int .i64 (a-b)):=by
 have:=Pure.subW (C:=C) (H:=H) (dst:=dst) (ty:=ty) (pos:=pos) (aft:=aft) (g:=g) (xT:=xT) (yT:=yT) hx hy
 rwa [qeo h] at this
theorem Pure.eql(hx:e.ev x=int k a)(hy:e.ev y=int k b):Pure C ⟨dst,.binOp .eql xT x y yT,ty,pos,aft,g⟩ e H (bool (decide (a=b))):=
 .of_any λ_ _ _ h=>⟨_,qai,qev (qag h hx) (qag h hy) (by simp) (by simp) (s:=Op.intCmp .eql a b) (by simp only[binOp,ne_eq,not_true_eq_false,if_false]) (λ_=>rfl)⟩
theorem Pure.neq(hx:e.ev x=int k a)(hy:e.ev y=int k b):Pure C ⟨dst,.binOp .neq xT x y yT,ty,pos,aft,g⟩ e H (bool (!decide (a=b))):=
 .of_any λ_ _ _ h=>⟨_,qai,qev (qag h hx) (qag h hy) (by simp) (by simp) (s:=Op.intCmp .neq a b) (by simp only[binOp,ne_eq,not_true_eq_false,if_false]) (λ_=>rfl)⟩
theorem Pure.lss(hx:e.ev x=int k a)(hy:e.ev y=int k b):Pure C ⟨dst,.binOp .lss xT x y yT,ty,pos,aft,g⟩ e H (bool (decide (a<b))):=
 .of_any λ_ _ _ h=>⟨_,qai,qev (qag h hx) (qag h hy) (by simp) (by simp) (s:=Op.intCmp .lss a b) (by simp only[binOp,ne_eq,not_true_eq_false,if_false]) (λ_=>rfl)⟩
theorem Pure.leq(hx:e.ev x=int k a)(hy:e.ev y=int k b):Pure C ⟨dst,.binOp .leq xT x y yT,ty,pos,aft,g⟩ e H (bool (decide (a<=b))):=
 .of_any λ_ _ _ h=>⟨_,qai,qev (qag h hx) (qag h hy) (by simp) (by simp) (s:=Op.intCmp .leq a b) (by simp only[binOp,ne_eq,not_true_eq_false,if_false]) (λ_=>rfl)⟩
theorem Pure.gtr(hx:e.ev x=int k a)(hy:e.ev y=int k b):Pure C ⟨dst,.binOp .gtr xT x y yT,ty,pos,aft,g⟩ e H (bool (decide (b<a))):=
 .of_any λ_ _ _ h=>⟨_,qai,qev (qag h hx) (qag h hy) (by simp) (by simp) (s:=Op.intCmp .gtr a b) (by simp only[binOp,ne_eq,not_true_eq_false,if_false]) (λ_=>rfl)⟩
theorem Pure.geq(hx:e.ev x=int k a)(hy:e.ev y=int k b):Pure C ⟨dst,.binOp .geq xT x y yT,ty,pos,aft,g⟩ e H (bool (decide (b<=a))):=
 .of_any λ_ _ _ h=>⟨_,qai,qev (qag h hx) (qag h hy) (by simp) (by simp) (s:=Op.intCmp .geq a b) (by simp only[binOp,ne_eq,not_true_eq_false,if_false]) (λ_=>rfl)⟩
theorem Pure.not{t:Bool}(hx:e.ev x=bool t):Pure C ⟨dst,.unOp .not xT x,ty,pos,aft,g⟩ e H (bool (!t)):=
 .of_any λρ _ _ h=>⟨_,qai,λw'=>by simp only[execOp,qag h hx,Op.unary];rfl⟩
theorem qax(ρ:Operand->Value)(b:Builtin)(xs:Array Operand)(ats:Array TypeId) :
  execOp ρ ⟨dst,.call { callee:=.builtin b,args:=xs,argTypes:=ats },ty,pos,aft,g⟩=builtin b ats ty (xs.map fun|.const _=>true|_=>false) (xs.map ρ):=rfl
theorem qer(ats:Array TypeId)(cs:Array Bool)(args:Array Value):builtin .len ats ty cs args=(do Pure.pure (.value (<-Builtin.len_ ats ty args))):=rfl
theorem qol{op:BinOp}{xT yT:TypeId}{x y:Operand}{a b:ByteArray}(hx:ρ x=.string a)(hy:ρ y=.string b)
  {v:Value} (hv:∀ w,(Op.stringOp op a b).run P w=.ok v w) (w:World):(execOp ρ ⟨dst,.binOp op xT x y yT,ty,pos,aft,g⟩).run P w=.ok (.value v) w:=by
 have he:eqGuard op xT x y (.string a) (.string b)=Pure.pure ():=by
  unfold eqGuard;cases op <;> rfl
 have hb:binOp op xT (.string a) (.string b)=Op.stringOp op a b:=by cases op <;> rfl
 simp only[execOp,hx,hy,he,hb,zRt,zRu,zRv,hv]
variable{l m:List UInt8}
theorem Pure.seq(hx:e.ev x=str l)(hy:e.ev y=str m):Pure C ⟨dst,.binOp .eql xT x y yT,ty,pos,aft,g⟩ e H (bool (decide (l=m))):=
 .of_any λ_ _ _ h=>⟨_,qai,qol (qag h hx) (qag h hy) λw=>by
  simp only[Op.stringOp,ByteArray.toList_mk,zRu];congr 2
  rw[Bool.eq_iff_iff];simp⟩
theorem Pure.sneq(hx:e.ev x=str l)(hy:e.ev y=str m):Pure C ⟨dst,.binOp .neq xT x y yT,ty,pos,aft,g⟩ e H (bool (!decide (l=m))):=
 .of_any λ_ _ _ h=>⟨_,qai,qol (qag h hx) (qag h hy) λw=>by
  simp only[Op.stringOp,ByteArray.toList_mk,zRu];congr 3
  rw[Bool.eq_iff_iff];simp⟩
theorem qrg(l m:List UInt8):(ByteArray.mk l.toArray++ByteArray.mk m.toArray)=ByteArray.mk (l++m).toArray:=by
 apply ByteArray.ext
 simp
theorem Pure.sadd(hx:e.ev x=str l)(hy:e.ev y=str m)(hl:l.length+m.length<=9223372036854775807):Pure C ⟨dst,.binOp .add xT x y yT,ty,pos,aft,g⟩ e H (str (l++m)):=
 .of_any λ_ _ _ h=>⟨_,qai,qol (qag h hx) (qag h hy) λw=>by
  have h1:¬ ((((ByteArray.mk l.toArray).size+(ByteArray.mk m.toArray).size:Nat):Int) > IntKind.i64.max):=by
   rw[qhQ,qhQ];simp only[IntKind.max,IntKind.signed,IntKind.bits];omega
  simp only[Op.stringOp,zn h1,zRu,qrg]⟩
theorem pI{n:Int}{c:UInt8} [TStr C.P xT](hx:e.ev x=str l)(hy:e.ev y=int k n)(h0:0<=n)(hc:l[n.toNat]? = some c):Pure C ⟨dst,.index xT x y,ty,pos,aft,g⟩ e H (int .u8 c.toNat):=
 .of_any λρ _ _ h=>⟨_,qai,λw'=>by
  have hu:=qaa (P:=C.P) (TStr.und (t:=xT)) w'
  have hg:(ByteArray.mk l.toArray)[n.toNat]? = some c:=by
   have hlt:n.toNat<l.length:=(List.getElem?_eq_some_iff.1 hc).1;have hsz:n.toNat<(ByteArray.mk l.toArray).size:=by simp[ByteArray.size];exact hlt
   have:=(List.getElem?_eq_some_iff.1 hc).2;rw[getElem?_pos (ByteArray.mk l.toArray) n.toNat hsz];exact congrArg some this
  simp only[execOp,qag h hx,qag h hy,Instr.index,asIntOf,zRt,zRu,zRv,hu,zp h0,hg]⟩
theorem Pure.slen(hx:e.ev x=str l) [TStr C.P xT]:Pure C ⟨dst,.call { callee:=.builtin .len,args:=#[x],argTypes:=#[xT] },ty,pos,aft,g⟩ e H (int .i64 l.length):=
 .of_any λρ _ _ h=>⟨_,qai,λw'=>by
  have hu:=qaa (P:=C.P) (TStr.und (t:=xT)) w';rw[qax,qer];simp[Builtin.len_,hu,goInt,qag h hx]
  rw[qhQ]⟩
end pure
theorem add_mk(b off i:Nat):(Addr.mk b off none).add i=⟨b,off+i,none⟩:=by
 unfold Addr.add;split
 rename_i h;subst h;rfl
 rfl
theorem RepC.get{w:World}{L:Live}{b:Nat}:∀ {off:Nat} {cs:List LV},RepC w L b off cs->∀ {i:Nat} {c:LV},cs[i]? = some c->off+i<L b/\∃ x,w.cell? ⟨b,off+i,none⟩=some x/\Rep w L c x
 |_,[],_,i,c,hc=>by simp at hc
 |off,c::cs,h,i,c',hc=>by
  simp only[RepC] at h;obtain⟨h1,⟨x,h2,h3⟩,h4⟩:=h
  cases i with
  |zero=>simp at hc;subst hc;exact⟨h1,x,h2,h3⟩
  |succ i=>
   have:=RepC.get h4 (i:=i) (by simpa using hc)
   rwa [show off+1+i=off+(i+1) by omega] at this
theorem RepC.drop{w:World}{L:Live}{b:Nat}:∀ {off:Nat} {cs:List LV} (n:Nat),RepC w L b off cs->RepC w L b (off+n) (cs.drop n)
 |_,cs,0,h=>by simpa using h
 |_,[],n+1,_=>by simp[RepC]
 |off,c::cs,n+1,h=>by
  simp only[RepC] at h;have:=RepC.drop n h.2.2
  rwa [show off+1+n=off+(n+1) by omega] at this
theorem qaj.cell{e:LV}(h:qaj w L b k off (e::es)):e.cells.length=k/\RepC w L b off e.cells:=by
 cases e <;> simp only[qaj] at h <;> first
  |exact h.1
  |(obtain⟨⟨r1,r2,r3⟩,_⟩:=h;exact⟨r1,by simp only[LV.cells,RepC];exact⟨r2,r3,trivial⟩⟩)
theorem qaj.tail{e:LV}(h:qaj w L b k off (e::es)):qaj w L b k (off+k) es:=by
 cases e <;> simp only[qaj] at h <;> exact h.2
theorem qaj.cons{e:LV}(h1:e.cells.length=k)(h2:RepC w L b off e.cells)(h3:qaj w L b k (off+k) es):qaj w L b k off (e::es):=by
 cases e <;> simp only[qaj] <;> refine⟨?_,h3⟩ <;> first
  |exact⟨h1,h2⟩
  |(simp only[LV.cells,RepC] at h1 h2;exact⟨h1,h2.1,h2.2.1⟩)
theorem qaj.get{w:World}{L:Live}{b k:Nat}:∀ {off:Nat} {es:List LV},qaj w L b k off es->∀ {i:Nat} {e:LV},es[i]? = some e->e.cells.length=k/\RepC w L b (off+i * k) e.cells
 |_,[],_,i,c,hc=>by simp at hc
 |off,e::es,h,i,e',hc=>by
  cases i with
  |zero=>simp at hc;subst hc;simpa using h.cell
  |succ i=>
   have:=qaj.get h.tail (i:=i) (by simpa using hc)
   rwa [show off+k+i * k=off+(i+1) * k by rw[Nat.add_mul];omega] at this
theorem qaj.drop{w:World}{L:Live}{b k:Nat}:∀ {off:Nat} {es:List LV} (n:Nat),qaj w L b k off es->qaj w L b k (off+n * k) (es.drop n)
 |_,es,0,h=>by simpa using h
 |_,[],n+1,_=>by simp[qaj]
 |off,c::cs,n+1,h=>by
  have:=qaj.drop n h.tail
  rwa [show off+k+n * k=off+(n+1) * k by rw[Nat.add_mul];omega] at this
theorem qaj.take{w:World}{L:Live}{b k:Nat}:∀ {off:Nat} {es:List LV} (n:Nat),qaj w L b k off es->qaj w L b k off (es.take n)
 |_,es,0,_=>by simp[qaj]
 |_,[],n+1,_=>by simp[qaj]
 |off,c::cs,n+1,h=>.cons h.cell.1 h.cell.2 (qaj.take n h.tail)
theorem qbA{P:Program}{w:World}{b off:Nat}:∀ (n i:Nat) (acc:Array Value) (xs:List Value),xs.length=n->(∀ j x,xs[j]? = some x->w.cell? ⟨b,off+i+j,none⟩=some x) ->
  (loadCellsFrom ⟨b,off,none⟩ i n acc).run P w=.ok (acc++xs.toArray) w
 |0,i,acc,xs,hl,_=>by
  have:xs=[]:=List.eq_nil_of_length_eq_zero hl;subst this
  simp[loadCellsFrom]
 |n+1,i,acc,[],hl,_=>by simp at hl
 |n+1,i,acc,x::xs,hl,h=>by
  have h0:=h 0 x rfl
  have ih:=qbA (P:=P) (w:=w) (b:=b) (off:=off) n (i+1) (acc.push x) xs (by simpa using hl) (λj y hy=>by
   have:=h (j+1) y (by simpa using hy)
   rwa [show off+i+(j+1)=off+(i+1)+j by omega] at this)
  simp only[loadCellsFrom,zRt,run_load,add_mk];rw[show off+i=off+i+0 by omega,h0];simp only[zRv];rw[ih]
  simp
theorem RepC.values{w:World}{L:Live}{b:Nat}:∀ {off:Nat} {cs:List LV},RepC w L b off cs->∃ xs:List Value,RepL w L cs xs/\∀ j x,xs[j]? = some x->off+j<L b/\w.cell? ⟨b,off+j,none⟩=some x
 |_,[],_=>⟨[],by simp only[RepL],by simp⟩
 |off,c::cs,h=>by
  simp only[RepC] at h;obtain⟨h1,⟨x,h2,h3⟩,h4⟩:=h;obtain⟨xs,h5,h6⟩:=RepC.values h4;refine⟨x::xs,by simp only[RepL];exact⟨x,xs,rfl,h3,h5⟩,λj y hy=>?_⟩
  cases j with
  |zero=>simp at hy;subst hy;exact⟨h1,h2⟩
  |succ j=>
   have:=h6 j y (by simpa using hy)
   rwa [show off+1+j=off+(j+1) by omega] at this
theorem RepC.take{w:World}{L:Live}{b:Nat}:∀ {off:Nat} {cs:List LV} (n:Nat),RepC w L b off cs->RepC w L b off (cs.take n)
 |_,cs,0,_=>by simp[RepC]
 |_,[],n+1,_=>by simp[RepC]
 |off,c::cs,n+1,h=>by
  simp only[RepC,List.take_succ_cons] at h ⊢;exact⟨h.1,h.2.1,RepC.take n h.2.2⟩
theorem qgu{t:TypeId} [TOne P t]{a:Addr}(h:w.cell? a=some x):(loadVar t a).run P w=.ok x w:=by
 simp[loadVar,TOne.isAgg,h]
theorem qgB [ht:TAgg P t k](hl:xs.length=k)(h:∀ j x,xs[j]? = some x->w.cell? ⟨b,off+j,none⟩=some x) :
  (loadVar t ⟨b,off,none⟩).run P w=.ok (.agg xs.toArray) w:=by
 obtain⟨i,hi,hk⟩:=ht.size;have:=qbA (P:=P) (w:=w) (b:=b) (off:=off) k 0 #[] xs hl (by simpa using h);simp only[loadVar,zRt,TAgg.isAgg,zRv,if_true,qbG hi,hk,loadCells,this]
 simp
section reading
variable{C:Ctx}{e:Env}{H:Heap}{dst:Option Nat}{ty:TypeId}{pos:String}{aft:Array Edge}{g:Option (Nat×Bool)}{x y:Operand}{xT:TypeId}{k:IntKind}
theorem pO{t:TypeId} [TOne C.P t]{c:LV}(hx:e.ev x=.ref cs)(hc:cs[0]? = some c):Pure C ⟨dst,.load t x,ty,pos,aft,g⟩ e H c:=λρ w L h _=>by
 have hv:=h x;rw[hx] at hv;simp only[Rep] at hv;obtain⟨b,off,hv,hr⟩:=hv;obtain⟨h1,v,h2,h3⟩:=hr.get hc;refine⟨v,h3,λw' ha=>?_⟩;have h2':w'.cell? ⟨b,off,none⟩=some v:=by rw[ha.2 b off h1];exact h2
 have h0:execOp ρ ⟨dst,.load t x,ty,pos,aft,g⟩=(do Pure.pure (.value (<-Instr.loadAt t (ρ x)))):=rfl;rw[h0,hv];simp[Instr.loadAt,Instr.sureAddr,qgu h2']
theorem Pure.loadRefAgg [TAgg C.P t n](hx:e.ev x=.ref cs)(hn:n<=cs.length):Pure C ⟨dst,.load t x,ty,pos,aft,g⟩ e H (.agg (cs.take n)):=λρ w L h _=>by
 have hv:=h x;rw[hx] at hv;simp only[Rep] at hv;obtain⟨b,off,hv,hr⟩:=hv;obtain⟨xs,h1,h2⟩:=(hr.take n).values;refine⟨.agg xs.toArray,by simp only[Rep];exact⟨xs,rfl,h1⟩,λw' ha=>?_⟩;have h0:execOp ρ ⟨dst,.load t x,ty,pos,aft,g⟩=(do Pure.pure (.value (<-Instr.loadAt t (ρ x)))):=rfl;rw[h0,hv];have hlen:xs.length=n:=by rw[h1.length];simp;omega
 simp[Instr.loadAt,Instr.sureAddr,qgB (t:=t) hlen (λj y hy=>by rw[ha.2 b _ (h2 j y hy).1];exact(h2 j y hy).2)]
theorem RelH.cells{w:World}{L:Live}{b ty':Nat}{cs:List LV}(h:RelH C w L H)(hm:(b,LObj.cells ty' cs)∈H):∃ xs:List Value,w.heap[b]? = some (.cells xs.toArray ty' (0,0))/\RepL w L cs xs:=
 (h.objs _ hm).2.2.2
theorem pL{t:TypeId} [TOne C.P t]{c:LV}(hx:e.ev x=ptr b off)(hm:(b,LObj.cells ty' cs)∈H)(hc:cs[off]? = some c) :
  Pure C ⟨dst,.load t x,ty,pos,aft,g⟩ e H c:=λρ w L h hH=>by
 obtain⟨xs,h1,h2⟩:=hH.cells hm;obtain⟨v,h3,h4⟩:=h2.get hc;refine⟨v,h4,λw' ha=>?_⟩;have hb:w'.heap[b]? = some (.cells xs.toArray ty' (0,0)):=(ha.1 _ hm).trans h1;have hc':w'.cell? ⟨b,off,none⟩=some v:=by simp[World.cell?,hb,h3]
 have h0:execOp ρ ⟨dst,.load t x,ty,pos,aft,g⟩=(do Pure.pure (.value (<-Instr.loadAt t (ρ x)))):=rfl;rw[h0,qag h hx];simp[Instr.loadAt,Instr.sureAddr,qgu hc']
theorem RepL.drop{w:World}{L:Live}:∀ (n:Nat) {cs:List LV} {xs:List Value},RepL w L cs xs->RepL w L (cs.drop n) (xs.drop n)
 |0,_,_,h=>by simpa using h
 |n+1,[],xs,h=>by simp only[RepL] at h;subst h;simp[RepL]
 |n+1,c::cs,xs,h=>by
  simp only[RepL] at h;obtain⟨y,ys,rfl,_,h⟩:=h;simpa using RepL.drop n h
theorem RepL.take{w:World}{L:Live}:∀ (n:Nat) {cs:List LV} {xs:List Value},RepL w L cs xs->RepL w L (cs.take n) (xs.take n)
 |0,_,_,_=>by simp[RepL]
 |n+1,[],xs,h=>by simp only[RepL] at h;subst h;simp[RepL]
 |n+1,c::cs,xs,h=>by
  simp only[RepL] at h;obtain⟨y,ys,rfl,h1,h⟩:=h;simp only[List.take_succ_cons,RepL];exact⟨y,_,rfl,h1,RepL.take n h⟩
theorem Pure.loadHAgg [TAgg C.P t n](hx:e.ev x=ptr b off)(hm:(b,LObj.cells ty' cs)∈H)(hn:off+n<=cs.length) :
  Pure C ⟨dst,.load t x,ty,pos,aft,g⟩ e H (.agg ((cs.drop off).take n)):=λρ w L h hH=>by
 obtain⟨xs,h1,h2⟩:=hH.cells hm;have hl:=h2.length;refine⟨.agg ((xs.drop off).take n).toArray,by simp only[Rep];exact⟨_,rfl,(h2.drop off).take n⟩,λw' ha=>?_⟩;have hb:w'.heap[b]? = some (.cells xs.toArray ty' (0,0)):=(ha.1 _ hm).trans h1;have h0:execOp ρ ⟨dst,.load t x,ty,pos,aft,g⟩=(do Pure.pure (.value (<-Instr.loadAt t (ρ x)))):=rfl;rw[h0,qag h hx];have hlen:((xs.drop off).take n).length=n:=by simp;omega
 simp[Instr.loadAt,Instr.sureAddr,qgB (t:=t) (w:=w') (b:=b) (off:=off) hlen (λj y hy=>by
  rw[List.getElem?_take] at hy;split at hy;simpa [World.cell?,hb,List.getElem?_drop] using hy
  cases hy)]
theorem qkt{fld:Field}{i:TypeInfo}(hi:P.info? fld.type=some i)(h0:i.size≠0)(b off:Nat)(w:World):(fieldPlace ⟨b,off,none⟩ fld).run P w=.ok ⟨b,off+fld.offset,none⟩ w:=by
 simp[fieldPlace,qbG hi,h0,add_mk]
theorem qjW{f:Nat} [hf:TField P s f n](b off:Nat)(w:World):(Instr.fieldAt s (.pointer (some ⟨b,off,none⟩)) f).run P w=.ok (.pointer (some ⟨b,off+n,none⟩)) w:=by
 obtain⟨fs,fld,hu,hg,rfl,i,hi,h0⟩:=hf.out;simp[Instr.fieldAt,qaa hu,hg,Instr.sureAddr,qkt hi h0]
theorem pF{f:Nat} [TField C.P s f n](hx:e.ev x=ptr b off):Pure C ⟨dst,.fieldAddr s x f,ty,pos,aft,g⟩ e H (ptr b (off+n)):=
 .of_any λρ _ _ h=>⟨_,qai,λw'=>by
  have h0:execOp ρ ⟨dst,.fieldAddr s x f,ty,pos,aft,g⟩=(do Pure.pure (.value (<-Instr.fieldAt s (ρ x) f))):=rfl;rw[h0,qag h hx]
  simp[qjW]⟩
theorem Pure.fieldRef{f:Nat} [TField C.P s f n](hx:e.ev x=.ref cs):Pure C ⟨dst,.fieldAddr s x f,ty,pos,aft,g⟩ e H (.ref (cs.drop n)):=
 .of_any λρ w L h=>by
  have hv:=h x;rw[hx] at hv;simp only[Rep] at hv;obtain⟨b,off,hv,hr⟩:=hv;refine⟨.pointer (some ⟨b,off+n,none⟩),by simp only[Rep];exact⟨b,off+n,rfl,hr.drop n⟩,λw'=>?_⟩;have h0:execOp ρ ⟨dst,.fieldAddr s x f,ty,pos,aft,g⟩=(do Pure.pure (.value (<-Instr.fieldAt s (ρ x) f))):=rfl;rw[h0,hv];simp[qjW]
def elems:LV->Option (List LV)
 |.list es=>some es
 |.app _ _ _ es=>some es
 |.atom (.slice none 0 0)=>some []
 |_=>none
theorem Rep.elems{w:World}{L:Live}:∀ {lv:LV} {v:Value} {es:List LV},Rep w L lv v->GL.elems lv=some es ->
  ∃ a cap,v=.slice a es.length cap/\es.length<=cap/\(es≠[]->∃ b off k,a=some ⟨b,off,none⟩/\qaj w L b k off es)
 |.list es,v,es',h,he=>by simp only[GL.elems,zRh] at he;subst he;simpa only[Rep] using h
 |.app b cap k es,v,es',h,he=>by
  simp only[GL.elems,zRh] at he;subst he;simp only[Rep] at h;obtain⟨rfl,hl,h,_⟩:=h
  exact⟨_,_,rfl,hl,λ_=>⟨b,0,k,rfl,h⟩⟩
 |.atom u,v,es,h,he=>by
  simp only[Rep] at h;subst h;unfold GL.elems at he
  split at he <;> simp_all
 |.agg _,_,_,_,he=>by simp[GL.elems] at he
 |.tuple _,_,_,_,he=>by simp[GL.elems] at he
 |.ref _,_,_,_,he=>by simp[GL.elems] at he
theorem Pure.llen [TSlice C.P t el s](hx:elems (e.ev x)=some es):Pure C ⟨dst,.call { callee:=.builtin .len,args:=#[x],argTypes:=#[t] },ty,pos,aft,g⟩ e H (int .i64 es.length):=
 .of_any λρ _ _ h=>⟨_,qai,λw'=>by
  obtain⟨a,cap,hv,_⟩:=(h x).elems hx;have hu:=qaa (P:=C.P) (TSlice.und (t:=t)) w';rw[qax,qer]
  simp[Builtin.len_,hu,goInt,hv]⟩
theorem Pure.indexAddr{t el s:Nat} [ht:TSlice C.P t el s]{es:List LV}{n:Int}{el':LV}(hx:elems (e.ev x)=some es)(hy:e.ev y=int k n)(h0:0<=n)(hn:es[n.toNat]? = some el')(hs:el'.cells.length=s) :
  Pure C ⟨dst,.indexAddr t x y,ty,pos,aft,g⟩ e H (.ref el'.cells):=.of_any λρ w L h=>by
 obtain⟨a,cap,hv,hcap,hr⟩:=(h x).elems hx;have hlt:n.toNat<es.length:=(List.getElem?_eq_some_iff.1 hn).1;obtain⟨b,off,k',rfl,hrr⟩:=hr (by intro h;subst h;simp at hlt);obtain⟨h1,h2⟩:=hrr.get hn;obtain⟨i,hi,hsz⟩:=ht.size;refine⟨.pointer (some ⟨b,off+n.toNat * k',none⟩),by simp only[Rep];exact⟨b,_,rfl,h2⟩,λw'=>?_⟩;have h3:execOp ρ ⟨dst,.indexAddr t x y,ty,pos,aft,g⟩=(do Pure.pure (.value (<-Instr.indexAt t (ρ x) (ρ y)))):=rfl;rw[h3,hv,qag h hy];have hk:k'=i.size:=by omega
 have hc:0<=n/\n<(es.length:Int):=⟨h0,by omega⟩;simp[Instr.indexAt,asIntOf,qaa ht.und,hc,qbG hi,add_mk,hk]
def qeV(e:Env)(o:Option Operand)(dflt n:Int):Prop:=
 match o with
 |some x=>∃ k,e.ev x=int k n
 |none=>n=dflt
theorem qd3(h:∀ x,Rep w L (e.ev x) (ρ x)){i j:Int}(sl:Bool)
  (hlo:qeV e lo 0 i) (hhi:qeV e hi len j) (h0:0<=i) (h1:i<=j) (h2:j<=cap) :
  (Instr.sliceBounds sl len cap (lo.map ρ) (hi.map ρ) none).run P w'=.ok (i.toNat,j.toNat,cap) w':=by
 have hj:0<=j:=by omega
 have hm:i<=max j 0:=by omega
 cases lo <;> cases hi <;> simp only[qeV] at hlo hhi;subst hlo hhi;simp[Instr.sliceBounds];obtain⟨k2,hk2⟩:=hhi;subst hlo;simp[Instr.sliceBounds,Instr.sliceBound,qag h hk2,asIntOf,hj,h2];obtain⟨k1,hk1⟩:=hlo;subst hhi;simp[Instr.sliceBounds,Instr.sliceBound,qag h hk1,asIntOf,h0,h1];obtain⟨k1,hk1⟩:=hlo;obtain⟨k2,hk2⟩:=hhi;simp[Instr.sliceBounds,Instr.sliceBound,qag h hk1,qag h hk2,asIntOf,h0,hj,h2,hm]
theorem qqy(l:List UInt8)(i j:Nat):(ByteArray.mk l.toArray).extract i j=ByteArray.mk ((l.take j).drop i).toArray:=by
 apply ByteArray.ext;simp[List.extract_eq_take_drop,List.drop_take]
theorem Pure.sslice{l:List UInt8}{i j:Int} [hT:TStr C.P xT](hx:e.ev x=str l)
  (hlo:qeV e lo 0 i) (hhi:qeV e hi l.length j) (h0:0<=i) (h1:i<=j) (h2:j<=l.length) :
  Pure C ⟨dst,.slice xT x lo hi none,ty,pos,aft,g⟩ e H (str ((l.take j.toNat).drop i.toNat)):=.of_any λρ w L h=>by
 refine⟨_,qai,λw'=>?_⟩;have h3:execOp ρ ⟨dst,.slice xT x lo hi none,ty,pos,aft,g⟩=(do Pure.pure (.value (<-Instr.sliceAt xT (ρ x) (lo.map ρ) (hi.map ρ) none))):=rfl;rw[h3,qag h hx]
 simp only[Instr.sliceAt,Instr.slice,zRt,qaa (P:=C.P) hT.und w',zRv,Option.isSome_none,zRn,if_false,zRu,qhQ,
  qd3 h false hlo hhi h0 h1 h2,qqy]
theorem Pure.lslice{es:List LV}{i j:Int} [ht:TSlice C.P t el s](hx:elems (e.ev x)=some es)
  (hlo:qeV e lo 0 i) (hhi:qeV e hi es.length j) (h0:0<=i) (h1:i<=j) (h2:j<=es.length) (hs:∀ v∈es,v.cells.length=s) :
  Pure C ⟨dst,.slice t x lo hi none,ty,pos,aft,g⟩ e H (.list ((es.take j.toNat).drop i.toNat)):=.of_any λρ w L h=>by
 obtain⟨a,cap,hv,hcap,hr⟩:=(h x).elems hx;obtain⟨ti,hti,hsz⟩:=ht.size;have hb:=λw'=>qd3 (P:=C.P) (w':=w') (cap:=cap) h true hlo hhi h0 h1 (by omega);have h3:execOp ρ ⟨dst,.slice t x lo hi none,ty,pos,aft,g⟩=(do Pure.pure (.value (<-Instr.sliceAt t (ρ x) (lo.map ρ) (hi.map ρ) none))):=rfl;have hlen:((es.take j.toNat).drop i.toNat).length=j.toNat-i.toNat:=by simp;omega
 refine⟨.slice (if cap=i.toNat then a else a.map (·.add (i.toNat * s))) (j.toNat-i.toNat) (cap-i.toNat),?_,λw'=>?_⟩;simp only[Rep];refine⟨_,cap-i.toNat,by rw[hlen],by omega,λhne=>?_⟩;have hne':es≠[]:=by intro h;subst h;simp at hne
 obtain⟨b,off,k,rfl,hrr⟩:=hr hne'
 have hlt:i.toNat<j.toNat:=by
  rcases Nat.lt_or_ge i.toNat j.toNat with hh|hh;exact hh;exact absurd (List.eq_nil_of_length_eq_zero (by omega)) hne
 have hk:k=s:=by
  obtain⟨e0,rest,he⟩:=List.exists_cons_of_ne_nil hne';subst he;exact hrr.cell.1.symm.trans (hs e0 (by simp))
 subst hk;refine⟨b,off+i.toNat * k,k,?_,(hrr.take j.toNat).drop i.toNat⟩;rw[zn (by omega)];simp[add_mk];rw[h3,hv];simp only[Instr.sliceAt,Instr.slice,zRt,qaa (P:=C.P) ht.und w',zRv,zRu,hb,qbG hti,hsz]
theorem Pure.extract{vs:List LV}{i:Nat}{c:LV}(hx:e.ev x=.tuple vs)(hc:vs[i]? = some c):Pure C ⟨dst,.extract x i,ty,pos,aft,g⟩ e H c:=.of_any λρ w L h=>by
 have hv:=h x;rw[hx] at hv;simp only[Rep] at hv;obtain⟨xs,hv,hr⟩:=hv;obtain⟨v,h1,h2⟩:=hr.get hc;refine⟨v,h2,λw'=>?_⟩;have h3:execOp ρ ⟨dst,.extract x i,ty,pos,aft,g⟩=(do Pure.pure (.value (<-Instr.extract (ρ x) i))):=rfl;rw[h3,hv];simp[Instr.extract,h1]
theorem pN(hx:e.ev x=ptr b off):Pure C ⟨dst,.nilCheck x,ty,pos,aft,g⟩ e H (ptr b off):=.of_any λρ _ _ h=>⟨_,qai,λw'=>by
 simp[execOp,qag h hx]⟩
theorem Pure.minI{b:Int}(hx:e.ev x=int k a)(hy:e.ev y=int k b){t u:TypeId}:Pure C ⟨dst,.call { callee:=.builtin .min,args:=#[x,y],argTypes:=#[t,u] },ty,pos,aft,g⟩ e H (int k (if b<a then b else a)):=
 .of_any λρ _ _ h=>⟨_,qai,λw'=>by
  have h0:∀ (cs:Array Bool) (args:Array Value),builtin .min #[t,u] ty cs args=(do Pure.pure (.value (<-Builtin.min_ #[t,u] ty args))):=λ_ _=>rfl;rw[qax,h0]
  simp[Builtin.min_,Builtin.min2,qag h hx,qag h hy]⟩
theorem Pure.convInt{k':IntKind}{s d:TypeId}{n:Int}(hs:∃ ds,C.P.underlying s=some ds) [hd:TKind C.P d k'](hx:e.ev x=int k n):Pure C ⟨dst,.convert s d x,ty,pos,aft,g⟩ e H (int k' (k'.wrap n)):=
 .of_any λρ _ _ h=>⟨_,qai,λw'=>by
  obtain⟨ds,hs⟩:=hs;have h3:execOp ρ ⟨dst,.convert s d x,ty,pos,aft,g⟩=(do Pure.pure (.value (<-convert s d (ρ x)))):=rfl;rw[h3,qag h hx]
  simp[convert,qaa hs,qaa hd.und,Conv.intToInt]⟩
theorem RepL.atoms{w:World}{L:Live}:∀ {vs xs:List Value},RepL w L (vs.map .atom) xs->xs=vs
 |[],xs,h=>by simpa [RepL] using h
 |v::vs,xs,h=>by
  simp only[zMc,RepL,Rep] at h;obtain⟨y,ys,rfl,rfl,h⟩:=h;rw[RepL.atoms h]
theorem Pure.makeInterfaceAgg{t:TypeId} [ht:TConcrete C.P t]{vs:List Value}(hx:e.ev x=.agg (vs.map .atom)):Pure C ⟨dst,.makeInterface t x,ty,pos,aft,g⟩ e H (.atom (.iface t (.agg vs.toArray))):=
 .of_any λρ w L h=>⟨_,qai,λw'=>by
  obtain⟨d,hd,hm⟩:=ht.out;have hv:=h x;rw[hx] at hv;simp only[Rep] at hv;obtain⟨xs,hv,hr⟩:=hv;rw[hr.atoms] at hv;have h3:execOp ρ ⟨dst,.makeInterface t x,ty,pos,aft,g⟩=(do Pure.pure (.value (<-Instr.makeInterface t (ρ x)))):=rfl;rw[h3,hv];simp only[Instr.makeInterface,zRt,qaa hd,zRv]
  cases d <;> simp_all⟩
def qib(e:Env):List Operand->Option (List Value)
 |[]=>some []
 |x::xs=>match e.ev x,qib e xs with
  |.atom v,some vs=>some (v::vs)
  |_,_=>none
theorem qgE{ρ:Operand->Value}{w:World}{L:Live}(h:∀ x,Rep w L (e.ev x) (ρ x)):∀ {xs:List Operand} {vs:List Value},qib e xs=some vs->xs.map ρ=vs
 |[],vs,hv=>by simpa [qib] using hv
 |x::xs,vs,hv=>by
  simp only[qib] at hv;split at hv
  rename_i v vs' h1 h2
  simp only[zRh] at hv;subst hv;rw[zMc,qag h h1,qgE h h2];cases hv
theorem Pure.makeFunc{fn:Fn}{first captured:List Operand}{fs cs:List Value}(h1:qib e first=some fs)(h2:qib e captured=some cs) :
  Pure C ⟨dst,.makeFunc fn first.toArray captured.toArray,ty,pos,aft,g⟩ e H (.atom (.func fn fs.toArray cs.toArray)):=.of_any λρ _ _ h=>⟨_,qai,λw'=>by
 have h3:execOp ρ ⟨dst,.makeFunc fn first.toArray captured.toArray,ty,pos,aft,g⟩=(do Pure.pure (.value (<-Instr.makeFunc fn (first.toArray.map ρ) (captured.toArray.map ρ)))):=rfl;rw[h3]
 simp[Instr.makeFunc,qgE h h1,qgE h h2]⟩
def LV.cells? : LV->Option (List LV)
 |.agg cs=>some cs
 |.atom (.agg _)=>none
 |v=>some [v]
theorem Rep.cells{w:World}{L:Live}:∀ {lv:LV} {v:Value} {cs:List LV},Rep w L lv v->lv.cells? = some cs->RepL w L cs v.cells.toList
 |.agg cs,v,cs',h,hc=>by
  simp only[LV.cells?,zRh] at hc;subst hc;simp only[Rep] at h;obtain⟨xs,rfl,h⟩:=h
  simpa [Value.cells] using h
 |.atom u,v,cs,h,hc=>by
  simp only[Rep] at h;subst h
  cases v <;> simp only[LV.cells?,zRh,reduceCtorEq] at hc <;> subst hc <;> simp[Value.cells,RepL,Rep]
 |.list es,v,cs,h,hc=>by
  simp only[LV.cells?,zRh] at hc;subst hc;have h':=h;simp only[Rep] at h;obtain⟨a,cap,rfl,_⟩:=h
  simpa [Value.cells,RepL] using h'
 |.app b cap k es,v,cs,h,hc=>by
  simp only[LV.cells?,zRh] at hc;subst hc;have h':=h;simp only[Rep] at h;obtain⟨rfl,_⟩:=h
  simpa [Value.cells,RepL] using h'
 |.tuple vs,v,cs,h,hc=>by
  simp only[LV.cells?,zRh] at hc;subst hc;have h':=h;simp only[Rep] at h;obtain⟨xs,rfl,_⟩:=h
  simpa [Value.cells,RepL] using h'
 |.ref vs,v,cs,h,hc=>by
  simp only[LV.cells?,zRh] at hc;subst hc;have h':=h;simp only[Rep] at h;obtain⟨b,off,rfl,_⟩:=h;simpa [Value.cells,RepL] using h'
def setL:List LV->Nat->List LV->List LV
 |xs,0,[]=>xs
 |[],_,_=>[]
 |_::xs,0,v::vs=>v::setL xs 0 vs
 |x::xs,n+1,vs=>x::setL xs n vs
def qp6(pl:List (Nat×Nat))(cells:List LV):List (Nat×LV)->Option (List LV)
 |[]=>some cells
 |(i,v)::rest=>
  match pl[i]?,v.cells? with
  |some (off,size),some cs=>if cs.length=size/\off+cs.length<=cells.length then qp6 pl (setL cells off cs) rest else none
  |_,_=>none
theorem RepL.append{w:World}{L:Live}:∀ {avs bs:List LV} {xs ys:List Value},RepL w L avs xs->RepL w L bs ys->RepL w L (avs++bs) (xs++ys)
 |[],_,xs,_,h,k=>by simp only[RepL] at h;subst h;simpa using k
 |a::avs,_,xs,_,h,k=>by
  simp only[RepL] at h;obtain⟨y,ys',rfl,h1,h2⟩:=h;simp only[List.cons_append,RepL];exact⟨y,_,rfl,h1,RepL.append h2 k⟩
theorem qj5:∀ (cells:List LV) (off:Nat) (vs:List LV),off+vs.length<=cells.length->setL cells off vs=cells.take off++vs++cells.drop (off+vs.length)
 |xs,0,[],_=>by cases xs <;> simp[setL]
 |[],n+1,vs,h=>by simp at h
 |[],0,v::vs,h=>by simp at h
 |x::xs,0,v::vs,h=>by
  have:=qj5 xs 0 vs (by simpa using h)
  simp[setL,this]
 |x::xs,n+1,vs,h=>by
  have:=qj5 xs n vs (by simp at h;omega);simp[setL,this,show n+1+vs.length=(n+vs.length)+1 by omega]
theorem qjF(off:Nat):∀ (ys:List Value) (j:Nat) (xs:List Value),off+j+ys.length<=xs.length ->
  ((ys.zipIdx j).foldl (λcs p=>cs.setIfInBounds (off+p.2) p.1) xs.toArray)=(xs.take (off+j)++ys++xs.drop (off+j+ys.length)).toArray
 |[],j,xs,_=>by simp
 |y::ys,j,xs,h=>by
  simp only[zLc] at h;simp only[List.zipIdx_cons,List.foldl_cons,List.setIfInBounds_toArray];rw[qjF off ys (j+1) (xs.set (off+j) y) (by simp;omega)];congr 1
  have h1:(xs.set (off+j) y).take (off+(j+1))=xs.take (off+j)++[y]:=by
   rw[show off+(j+1)=off+j+1 by omega,List.take_succ_eq_append_getElem (by simp;omega)];simp[List.take_set_of_le]
  have h2:(xs.set (off+j) y).drop (off+(j+1)+ys.length)=xs.drop (off+j+(ys.length+1)):=by
   rw[List.drop_set_of_lt (by omega),show off+(j+1)+ys.length=off+j+(ys.length+1) by omega]
  rw[h1,h2]
  simp
theorem qpm{w:World}{L:Live}{pl:List (Nat×Nat)}{place:Nat->Option (Nat×Nat)}(hp:∀ i,place i=pl[i]?):∀ {parts:List (Nat×LV)} {vs:List (Nat×Value)} {cells:List LV} {xs:List Value} {cs:List LV},
  RepL w L cells xs->parts.map (·.1)=vs.map (·.1)->RepL w L (parts.map (·.2)) (vs.map (·.2))->qp6 pl cells parts=some cs->∃ ys:List Value,Instr.fill place xs.toArray vs=some ys.toArray/\RepL w L cs ys
 |[],[],cells,xs,cs,h,_,_,hf=>by
  simp only[qp6,zRh] at hf;subst hf
  exact⟨xs,rfl,h⟩
 |[],_::_,_,_,_,_,h,_,_=>by simp at h
 |_::_,[],_,_,_,_,h,_,_=>by simp at h
 |(i,lv)::parts,(i',v)::vs,cells,xs,cs,h,h1,h2,hf=>by
  simp only[zMc,List.cons.injEq] at h1;obtain⟨rfl,h1⟩:=h1;simp only[zMc,RepL] at h2;obtain⟨y,ys,he,h2,h3⟩:=h2;simp only[List.cons.injEq] at he;obtain⟨rfl,rfl⟩:=he;simp only[qp6] at hf;split at hf
  rename_i off size vcs hpl hvc
  split at hf
  rename_i hc
  have hr:=h2.cells hvc;have hl:=hr.length;have hlx:=h.length;simp only[Instr.fill,hp,hpl];have hsz:v.cells.size=vcs.length:=by simpa using hl
  rw[zn (by simp[hsz,hlx];omega)]
  have he:(v.cells.zipIdx.foldl (λcs (c,j)=>cs.setIfInBounds (off+j) c) xs.toArray)=(xs.take off++v.cells.toList++xs.drop (off+vcs.length)).toArray:=by
   rw[<-Array.foldl_toList,Array.toList_zipIdx];have:=qjF off v.cells.toList 0 xs (by simp[hsz,hlx];omega);rw[Nat.add_zero] at this;rw[this];simp[hsz]
  rw[he];refine qpm hp ?_ h1 h3 hf;rw[qj5 _ _ _ hc.2];exact((h.take off).append hr).append (h.drop _);cases hf;cases hf
theorem qfw{P:Program}{w:World}:∀ {fs:List Field},(∀ f∈fs,(P.info? f.type).isSome) ->
  (fs.mapM (λf=>(do Pure.pure (f.offset,<-sizeOf f.type):Sem (Nat×Nat)))).run P w=.ok (fs.map λf=>(f.offset,P.cellsOf f.type)) w
 |[],_=>by simp
 |f::fs,h=>by
  obtain⟨i,hi⟩:=zR (h f (by simp));have ih:=qfw (P:=P) (w:=w) (fs:=fs) (λg hg=>h g (zMo _ hg));simp only[List.mapM_cons,zRt,qbG hi,zRv,zRu,ih,zMc,Program.cellsOf,hi,Option.map_some,Option.getD_some]
theorem qmm{t:TypeId} [h:TZero P t zs](w:World):∃ v,(zeroValue t).run P w=.ok v w/\v.cells=zs.toArray:=by
 obtain⟨i,v,hi,hz,hc,_⟩:=h.out;exact⟨v,by simp[zeroValue,qdH hi,hz],hc⟩
theorem qa1{w:World}{L:Live}:∀ (zs:List Value),RepL w L (zs.map .atom) zs
 |[]=>by simp[RepL]
 |z::zs=>by simp only[zMc,RepL,Rep];exact⟨z,zs,rfl,rfl,qa1 zs⟩
theorem qjD{ρ:Operand->Value}{w:World}{L:Live}(h:∀ x,Rep w L (e.ev x) (ρ x)):∀ (xs:List Operand),RepL w L (xs.map e.ev) (xs.map ρ)
 |[]=>by simp[RepL]
 |x::xs=>by simp only[zMc,RepL];exact⟨_,_,rfl,h x,qjD h xs⟩
theorem Pure.build{t:TypeId}{pl:List (Nat×Nat)}{zs:List Value} [hs:TStruct C.P t pl] [hz:TZero C.P t zs]{parts:List (Nat×Operand)}{cs:List LV}
  (h:qp6 pl (zs.map .atom) (parts.map λp=>(p.1,e.ev p.2))=some cs):Pure C ⟨dst,.build t parts.toArray,ty,pos,aft,g⟩ e H (.agg cs):=.of_any λρ w L hρ=>by
 obtain⟨fs,hu,hpl,hall⟩:=hs.out;have hp:∀ i:Nat,((fs.toList.map λf=>(f.offset,C.P.cellsOf f.type)).toArray)[i]? = pl[i]? := λi=>by rw[hpl];simp
 have hre:=qjD hρ (parts.map (·.2));have:=qpm hp (w:=w) (L:=L) (parts:=parts.map λp=>(p.1,e.ev p.2)) (vs:=parts.map λp=>(p.1,ρ p.2)) (qa1 zs) (by simp[Function.comp_def]) (by simpa [Function.comp_def] using hre) h;obtain⟨ys,h1,h2⟩:=this;refine⟨.agg ys.toArray,by simp only[Rep];exact⟨ys,rfl,h2⟩,λw'=>?_⟩;obtain⟨v,hv,hc⟩:=qmm (P:=C.P) (t:=t) w';have h3:execOp ρ ⟨dst,.build t parts.toArray,ty,pos,aft,g⟩=(do Pure.pure (.value (<-Instr.build t (parts.toArray.map λ(i,x)=>(i,ρ x))))):=rfl
 have hm:(fs.mapM (λf=>(do Pure.pure (f.offset,<-sizeOf f.type):Sem (Nat×Nat)))).run C.P w'=.ok (fs.toList.map λf=>(f.offset,C.P.cellsOf f.type)).toArray w':=by
  rw[Array.mapM_eq_mapM_toList];rw[Sem.run_map,qfw (P:=C.P) (w:=w') (fs:=fs.toList) (λf hf=>hall f (by simpa using hf))]
  try rfl
 rw[h3];simp only[Instr.build,zRt,hv,zRv,qaa hu w',hm,hc,List.map_toArray];rw[h1]
 try rfl
end reading
def Live.upd(L:Live)(b n:Nat):Live:=λx=>if x=b then n else L x
theorem qj9{o:Obj}(hb:b<w.heap.size):(w.heap.push o)[b]? = w.heap[b]? := by
 rw[Array.getElem?_push,zn (by omega)]
theorem qaD{o:Obj}:(w.heap.push o)[w.heap.size]? = some o:=by simp
def World.push(w:World)(o:Obj):World:={ w with heap:=w.heap.push o }
theorem qep(hwf:∀ b,w.heap.size<=b->L b=0)(o:Obj)(n:Nat):Ext w L (World.push w o) (L.upd w.heap.size n):=by
 refine⟨by simp[World.push],λb hb=>?_,λb i hi=>?_,λb=>?_⟩;exact qbM (qj9 hb);rcases Nat.lt_or_ge b w.heap.size with hb|hb;exact cell_of_heap (qj9 hb) i;rw[hwf b hb] at hi;omega;unfold Live.upd;split
 rename_i h;subst h;rw[hwf _ (zNr _)];omega
 exact zNr _
theorem qew(hH:RelH C w L [])(o:Obj)(n:Nat)(H':Heap)(hk:∀ p∈H',p.1=w.heap.size/\qnd (World.push w o) (L.upd w.heap.size n) w.heap.size p.2)(hn:(H'.map (·.1)).Nodup) :
  Fr (keys []) w L (World.push w o) (L.upd w.heap.size n) H'/\RelH C (World.push w o) (L.upd w.heap.size n) H':=by
 have hx:=qep hH.wf o n;refine⟨⟨rfl,rfl,rfl,hx,λb hb _=>qj9 hb,λb hb _=>?_,λp hp=>.inr (by rw[(hk p hp).1];exact zNr _)⟩,⟨?_,trivial,?_,λb hb=>?_,hn,λp hp=>?_⟩⟩;simp only[Live.upd];rw[zn (by omega)];exact hH.base.alloc hH.b0 o;exact zNt hH.b0 hx.size;simp only[World.push,Array.size_push] at hb;simp only[Live.upd];rw[zn (by omega)];exact hH.wf b (by omega);obtain⟨h1,h2⟩:=hk p hp;rw[h1];exact⟨hH.b0,by simp[World.push],h2⟩
section steps
variable{C:Ctx}{e:Env}{H:Heap}{dst:Option Nat}{ty:TypeId}{pos:String}{aft:Array Edge}{g:Option (Nat×Bool)}{x y:Operand}{xT:TypeId}{k:IntKind}
 {K:LV->Heap->Prop} {X:List PanicEntry->Heap->Prop}
theorem qpA(hH:RelH C w L []){t:TypeId}(hr:RepL w L cs xs)(hk:∀ b,K (ptr b 0) [(b,.cells t cs)]) :
  Left C w L [] (World.push w (.cells xs.toArray t)) (.pointer (some ⟨w.heap.size,0,none⟩)) K:=by
 have hx:=qep hH.wf (.cells xs.toArray t) 0
 have:=qew hH (.cells xs.toArray t) 0 [(w.heap.size,.cells t cs)] (λp hp=>by
  simp only[List.mem_singleton] at hp;subst hp
  exact⟨rfl,by simp[Live.upd],xs,qaD,hr.mono hx _ _⟩) (by simp)
 exact⟨_,_,_,this.1,this.2,qai,hk _⟩
theorem qae.alloc{t:TypeId}{zs:List Value} [hz:TZero C.P t zs](hk:∀ b,K (ptr b 0) [(b,.cells t (zs.map .atom))]):qae C ⟨dst,.alloc t,ty,pos,aft,g⟩ e [] K X:=λρ w L _ hH=>by
 obtain⟨v,hv,hc⟩:=qmm (P:=C.P) (t:=t) w;have h3:execOp ρ ⟨dst,.alloc t,ty,pos,aft,g⟩=(do Pure.pure (.value (<-Instr.alloc t true (.tuple #[])))):=rfl
 have h4:(Instr.alloc t true (.tuple #[])).run C.P w=.ok (.pointer (some ⟨w.heap.size,0,none⟩)) (World.push w (.cells zs.toArray t)):=by
  simp only[Instr.alloc,zRt,hv,zRv,newVar,newRow,hc];rfl
 rw[h3,zRt,h4];exact qpA hH (qa1 zs) hk
theorem qae.box{t:TypeId}{cs:List LV}(hx:(e.ev x).cells? = some cs)(hk:∀ b,K (ptr b 0) [(b,.cells t cs)]):qae C ⟨dst,.box t x,ty,pos,aft,g⟩ e [] K X:=λρ w L h hH=>by
 have hr:=(h x).cells hx;have h3:execOp ρ ⟨dst,.box t x,ty,pos,aft,g⟩=(do Pure.pure (.value (<-Instr.box t (ρ x)))):=rfl
 have h4:(Instr.box t (ρ x)).run C.P w=.ok (.pointer (some ⟨w.heap.size,0,none⟩)) (World.push w (.cells (ρ x).cells t)):=by
  simp only[Instr.box,zRt,newVar,newRow];rfl
 rw[h3,zRt,h4];have:=qpA (K:=K) hH (t:=t) hr hk;rw[Array.toArray_toList] at this;exact this
def qcP:LV->Bool
 |.agg _|.tuple _|.atom (.agg _)|.atom (.tuple _)=>false
 |_=>true
theorem Rep.flat{c:LV}{x:Value}(h:Rep w L c x)(hc:qcP c=true):(∀ cs,x≠.agg cs)/\(∀ cs,x≠.tuple cs):=by
 cases c <;> simp only[Rep] at h <;> simp only[qcP,zRn] at hc
 case atom v=>subst h;cases x <;> simp_all
 case list es=>obtain⟨a,cap,rfl,_⟩:=h;simp
 case app b cap k es=>obtain⟨rfl,_⟩:=h;simp
 case ref cs=>obtain⟨b,off,rfl,_⟩:=h;simp
theorem qjm{a:Addr}{old:Value}(hc:w.cell? a=some old)(hf:w.frozen? a=false)(h1:∀ cs,v≠.agg cs)(h2:∀ cs,v≠.tuple cs):(store a v).run P w=.ok () (w.setCell a v):=by
 cases v <;> simp_all [store,Sem.run]
theorem qiu{t:TypeId}{fr:Nat×Nat}(h:w.heap[b]? = some (.cells xs.toArray t fr)) :
  (w.setCell ⟨b,off,none⟩ v).heap[b]? = some (.cells (xs.set off v).toArray t fr):=by
 simp[World.setCell,Array.getElem?_modify,h]
theorem qcd{P:Program}{b off:Nat}{t:TypeId}{fr:Nat×Nat}:∀ (vs:List Value) (i:Nat) (w:World) (xs:List Value),w.heap[b]? = some (.cells xs.toArray t fr)->off+i+vs.length<=xs.length ->
  (∀ j,off+i<=j->j<off+i+vs.length->¬ (fr.1<=j/\j<fr.2)) ->
  (∀ v∈vs,(∀ cs,v≠.agg cs)/\(∀ cs,v≠.tuple cs)) ->
  ∃ w',(storeCells ⟨b,off,none⟩ vs i).run P w=.ok () w'/\w'.os=w.os/\w'.tape=w.tape/\w'.output=w.output/\w'.heap.size=w.heap.size/\(∀ c,c≠b->w'.heap[c]? = w.heap[c]?) /\
   w'.heap[b]? = some (.cells (xs.take (off+i)++vs++xs.drop (off+i+vs.length)).toArray t fr)
 |[],i,w,xs,hb,_,_,_=>⟨w,by simp[storeCells],rfl,rfl,rfl,rfl,λ_ _=>rfl,by simpa using hb⟩
 |v::vs,i,w,xs,hb,hl,hfr,hv=>by
  simp only[zLc] at hl hfr
  have hc:∃ old,w.cell? ⟨b,off+i,none⟩=some old:=by
   refine⟨xs[off+i]'(by omega),?_⟩;simp[World.cell?,hb]
  obtain⟨old,hc⟩:=hc
  have hf:w.frozen? ⟨b,off+i,none⟩=false:=by
   obtain⟨lo,hi⟩:=fr;have:=hfr (off+i) (by omega) (by omega);simp only[World.frozen?,hb];simp only[Bool.and_eq_false_iff,decide_eq_false_iff_not];simp only at this;omega
  have hs:=qjm (P:=P) hc hf (hv v (by simp)).1 (hv v (by simp)).2;obtain⟨w',h1,h2,h3,h4,h5,h6,h7⟩:=qcd (P:=P) (off:=off) vs (i+1) (w.setCell ⟨b,off+i,none⟩ v) (xs.set (off+i) v) (qiu hb) (by simp;omega) (λj h1 h2=>hfr j (by omega) (by omega)) (λu hu=>hv u (zMo _ hu));refine⟨w',?_,h2,h3,h4,?_,λc hc=>?_,?_⟩;simp only[storeCells,add_mk,zRt,hs,zRv,h1];rw[h5];simp[World.setCell];rw[h6 c hc];simp only[World.setCell,Array.getElem?_modify];rw[zn (by simpa using Ne.symm hc)];rw[h7];congr 2
  have e1:(xs.set (off+i) v).take (off+(i+1))=xs.take (off+i)++[v]:=by
   rw[show off+(i+1)=off+i+1 by omega,List.take_succ_eq_append_getElem (by simp;omega)];simp[List.take_set_of_le]
  have e2:(xs.set (off+i) v).drop (off+(i+1)+vs.length)=xs.drop (off+i+(vs.length+1)):=by
   rw[List.drop_set_of_lt (by omega),show off+(i+1)+vs.length=off+i+(vs.length+1) by omega]
  rw[e1,e2]
  simp
theorem qiY{w:World}{L:Live}:∀ {cs:List LV} {xs:List Value},RepL w L cs xs->(cs.all qcP)=true->∀ v∈xs,(∀ cs,v≠.agg cs)/\(∀ cs,v≠.tuple cs)
 |[],_,h,_=>by simp only[RepL] at h;subst h;simp
 |c::cs,_,h,hc=>by
  simp only[RepL] at h;obtain⟨y,ys,rfl,h1,h2⟩:=h;simp only[List.all_cons,zBa] at hc;intro v hv;rcases zMi.1 hv with rfl|hv;exact h1.flat hc.1;exact qiY h2 hc.2 v hv
class TSize (P:Program) (t:TypeId) (n:outParam Nat):Prop where
 size:∃ i,P.info? t=some i/\i.size=n
def qrG(P:Program)(t n:Nat):Bool:=match P.info? t with|some i=>i.size == n|none=>false
theorem TSize.of(h:qrG P t n=true):TSize P t n:=by
 unfold qrG at h
 cases hi:P.info? t with
 |none=>rw[hi] at h;simp at h
 |some i=>rw[hi] at h;exact⟨i,hi,by simpa using h⟩
theorem qeQ{t:TypeId}{xs':List Value}(hH:RelH C w L [(b,.cells t cs)])(h1:w'.os=w.os)(h2:w'.tape=w.tape)(h3:w'.output=w.output)
  (h4:w'.heap.size=w.heap.size) (h5:∀ c,c≠b->w'.heap[c]? = w.heap[c]?) (h6:w'.heap[b]? = some (.cells xs'.toArray t (0,0))) (h7:xs'.length=cs.length)
  (h8:RepL w L cs' xs') {v:Value} {lv:LV} (hv:Rep w L lv v) (hk:K lv [(b,.cells t cs')]):Left C w L [(b,.cells t cs)] w' v K:=by
 obtain⟨hb0,hbs,hl,xs,hx1,hx2⟩:=hH.objs _ (zRb rfl);simp only at hb0 hbs hl hx1 hx2
 have hx:Ext w L w' L:=by
  refine⟨by rw[h4];exact zNr _,λc hc=>?_,λc i hi=>?_,λ_=>zNr _⟩
  by_cases he:c=b
  subst he;simp only[World.shape?,hx1,h6];rw[List.size_toArray,List.size_toArray,h7,hx2.length];exact qbM (h5 c he)
  by_cases he:c=b
  subst he;rw[hl] at hi;omega;exact cell_of_heap (h5 c he) i
 refine⟨lv,[(b,.cells t cs')],L,⟨h1,h2,h3,hx,λc hc hn=>h5 c (by simpa using hn),λ_ _ _=>rfl,λp hp=>.inl (by simp only[List.mem_singleton] at hp;subst hp;simp)⟩,
  ⟨?_,hH.lbase,by rw[h4];exact hH.b0,by rw[h4];exact hH.wf,by simp,λp hp=>?_⟩,hv.mono hx _ _,hk⟩
 exact hH.base.trans ⟨h1,h2,h3,by rw[h4];exact zNr _,λc hc=>h5 c (by omega)⟩;simp only[List.mem_singleton] at hp;subst hp;exact⟨hb0,by rw[h4];exact hbs,hl,xs',h6,h8.mono hx _ _⟩
theorem qae.store{t n:Nat} [ht:TSize C.P t n]{b off ty':Nat}{cs vs:List LV}(hx:e.ev x=ptr b off)(hy:(e.ev y).cells? = some vs)(hn:vs.length=n)(hl:off+n<=cs.length)(hok:vs.all qcP=true)
  (hk:K (.atom undef) [(b,.cells ty' (setL cs off vs))]):qae C ⟨dst,.store t x y,ty,pos,aft,g⟩ e [(b,.cells ty' cs)] K X:=λρ w L h hH=>by
 obtain⟨hb0,hbs,hlv,xs,hx1,hx2⟩:=hH.objs _ (zRb rfl);simp only at hb0 hbs hlv hx1 hx2;have hr:=(h y).cells hy;have hrl:=hr.length;have hxl:=hx2.length;obtain⟨i,hi,hsz⟩:=ht.size;obtain⟨w',r1,r2,r3,r4,r5,r6,r7⟩:=qcd (P:=C.P) (off:=off) (ρ y).cells.toList 0 w xs hx1 (by omega) (λj _ _=>by simp) (qiY hr hok);have h3:execOp ρ ⟨dst,.store t x y,ty,pos,aft,g⟩=(do Instr.storeAt t (ρ x) (ρ y);Pure.pure .skip):=rfl;have hs:(ρ y).cells.size=n:=by rw[<-hn,<-hrl];simp
 rw[h3,qag h hx];simp only[Instr.storeAt,Instr.sureAddr,zRt,zRu,zRv,storeVar,qbG hi,hsz,hs,ne_eq,not_true_eq_false,if_false];rw[r1];refine qeQ hH r2 r3 r4 r5 r6 r7 ?_ ?_ qai hk
 simp;omega
 rw[qj5 cs off vs (by omega)];rw[hrl,Nat.add_zero];exact((hx2.take off).append hr).append (hx2.drop _)
class TEnter (P:Program) (f:FuncId):Prop where
 out : ∃ fn, P.funcs[f]? = some fn ∧ (fn.name == "runtime.NumGoroutine") = false ∧ fn.body.isNone = false
def qpw (P : Program) (f : FuncId) : Bool := match P.funcs[f]? with | some fn => !(fn.name == "runtime.NumGoroutine") && fn.body.isSome | none => false
theorem TEnter.of(h:qpw P f=true):TEnter P f:=by
 unfold qpw at h
 cases hf:P.funcs[f]? with
 |none=>rw[hf] at h;cases h
 |some fn=>
  rw[hf] at h;simp only[zBa,Bool.not_eq_true'] at h;exact⟨fn,hf,h.1,by cases hb:fn.body <;> simp_all⟩
theorem qfq [h:TEnter P f](args:Array Value)(w:World):(callFunc f args).run P w=.ok (.enter f args) w:=by
 obtain⟨fn,h1,h2,h3⟩:=h.out;have h0:(program).run P w=.ok P w:=rfl;simp only[callFunc,zRt,h0,zRv,h1,h2,h3,zRn,if_false,zRu]
theorem qae.callV{fo:Operand}{f:FuncId} [TEnter C.P f]{first caps:Array Value}{args:List Operand}(hf:e.ev fo=.atom (.func (.func f) first caps))
  (hc:LCalls C f (first.toList.map .atom++args.map e.ev++caps.toList.map .atom) H R) (hk:∀ v H,R (.ret v) H->K v H) (hx:∀ ch H,R (.panic ch) H->X ch H) :
  qae C ⟨dst,.call { callee:=.value fo,args:=args.toArray,argTypes:=ats },ty,pos,aft,g⟩ e H K X:=λρ w L h hH=>by
 have h3:execOp ρ ⟨dst,.call { callee:=.value fo,args:=args.toArray,argTypes:=ats },ty,pos,aft,g⟩=(do let d <-Deferred.ofValue (ρ fo) (args.toArray.map ρ);invoke d.target d.args):=rfl;rw[h3,qag h hf];simp only[Deferred.ofValue,zRt,zRu,zRv,invoke,qfq];refine⟨rfl,?_⟩;have:=hc (first.toList++args.map ρ++caps.toList) w L ((((qa1 _).append (qjD h _))).append (qa1 _)) hH;simp only[<-List.append_toArray,Array.toArray_toList] at this;simp only[List.map_toArray];exact this.mono (qcD.mono (λv H hv=>hk v H hv) (λch H hv=>hx ch H hv))
theorem qae.call{f:FuncId} [TEnter C.P f]{args:List Operand}{ats:Array TypeId}{R:LRes->Heap->Prop}
  (hc:LCalls C f (args.map e.ev) H R) (hk:∀ v H,R (.ret v) H->K v H) (hx:∀ ch H,R (.panic ch) H->X ch H) :
  qae C ⟨dst,.call { callee:=.value (.func f),args:=args.toArray,argTypes:=ats },ty,pos,aft,g⟩ e H K X:=
 qae.callV (f:=f) (first:=#[]) (caps:=#[]) rfl (by simpa using hc) hk hx
theorem qae.panic{t:TypeId}{v:Value}(hx:e.ev x=.atom (.iface t v))(hk:X [{ v:=.iface t v,recovered:=false }] H):qae C ⟨dst,.panic x,ty,pos,aft,g⟩ e H K X:=λρ w L h hH=>by
 have h3:execOp ρ ⟨dst,.panic x,ty,pos,aft,g⟩=(do Pure.pure (.value (<-Instr.panic (ρ x)))):=rfl;rw[h3,qag h hx];simp only[Instr.panic,goPanic,zRt,Sem.run_halt,Result.andThen_halt];exact⟨H,L,Fr.refl _ _ _,hH,hk⟩
theorem qpx{size:Nat}:∀ (vs:List Value) (i:Nat) (xs:List Value),(∀ v∈vs,v.cells.size=size)->(i+vs.length) * size<=xs.length ->
  Instr.fill (λi=>some (i * size,size)) xs.toArray ((List.range' i vs.length).zip vs)=some (xs.take (i * size)++vs.flatMap (λv=>v.cells.toList)++xs.drop ((i+vs.length) * size)).toArray
 |[],i,xs,_,_=>by simp[Instr.fill]
 |v::vs,i,xs,h,hl=>by
  have hv:=h v (by simp);simp only[zLc] at hl
  have hl':i * size+size+vs.length * size<=xs.length:=by
   have:(i+(vs.length+1)) * size=i * size+size+vs.length * size:=by rw[Nat.add_mul,Nat.add_mul];omega
   omega
  simp only[zLc,List.range'_succ,List.zip_cons_cons,Instr.fill];rw[zn (by simp[hv];omega)]
  have he:(v.cells.zipIdx.foldl (λcs (c,j)=>cs.setIfInBounds (i * size+j) c) xs.toArray)=(xs.take (i * size)++v.cells.toList++xs.drop (i * size+size)).toArray:=by
   rw[<-Array.foldl_toList,Array.toList_zipIdx];have:=qjF (i * size) v.cells.toList 0 xs (by simp[hv];omega);rw[Nat.add_zero] at this;rw[this];simp[hv]
  rw[he];have ha:(i+1) * size=i * size+size:=by rw[Nat.add_mul];omega
  have hb:(i+1+vs.length) * size=i * size+size+vs.length * size:=by rw[Nat.add_mul,Nat.add_mul];omega
  have hc:(i+(vs.length+1)) * size=i * size+size+vs.length * size:=by rw[Nat.add_mul,Nat.add_mul];omega
  have hlen:(xs.take (i * size)++v.cells.toList++xs.drop (i * size+size)).length=xs.length:=by simp[hv];omega
  rw[qpx vs (i+1) _ (λu hu=>h u (zMo _ hu)) (by rw[hlen,hb];omega)];congr 2
  have e1:(xs.take (i * size)++v.cells.toList++xs.drop (i * size+size)).take ((i+1) * size)=xs.take (i * size)++v.cells.toList:=by
   rw[ha,List.take_append_of_le_length (by simp[hv];omega),List.take_of_length_le (by simp[hv];omega)]
  have e2:(xs.take (i * size)++v.cells.toList++xs.drop (i * size+size)).drop ((i+1+vs.length) * size)=xs.drop ((i+(vs.length+1)) * size):=by
   rw[hb,hc,List.drop_append,List.drop_eq_nil_of_le (by simp[hv];omega)];simp[hv,List.drop_drop];congr 1;omega
  rw[e1,e2]
  simp
theorem RepC.of_heap{w:World}{L:Live}{b:Nat}{t:TypeId}{fr:Nat×Nat}:∀ {cs:List LV} {off:Nat} {ys:List Value} (pre post:List Value),w.heap[b]? = some (.cells (pre++ys++post).toArray t fr)->pre.length=off->off+ys.length<=L b ->
  RepL w L cs ys->RepC w L b off cs
 |[],_,_,_,_,_,_,_,_=>by simp[RepC]
 |c::cs,off,ys,pre,post,hb,hp,hl,h=>by
  simp only[RepL] at h;obtain⟨y,ys',rfl,h1,h2⟩:=h;simp only[zLc] at hl;simp only[RepC];refine⟨by omega,⟨y,?_,h1⟩,RepC.of_heap (pre++[y]) post (by simpa using hb) (by simp[hp]) (by omega) h2⟩;simp only[World.cell?,hb];subst hp
  simp
theorem qaj.of_heap{w:World}{L:Live}{b k:Nat}{t:TypeId}{fr:Nat×Nat}:∀ {es:List LV} {off:Nat} {vs:List Value} (pre post:List Value),w.heap[b]? = some (.cells (pre++vs.flatMap (λv=>v.cells.toList)++post).toArray t fr)->pre.length=off ->
  off+es.length * k<=L b->(∀ v∈es,v.cells? = some v.cells/\v.cells.length=k)->RepL w L es vs->qaj w L b k off es
 |[],_,_,_,_,_,_,_,_,_=>by simp[qaj]
 |c::cs,off,vs,pre,post,hb,hp,hl,hk,h=>by
  simp only[RepL] at h;obtain⟨y,ys',rfl,h1,h2⟩:=h;have hc:=hk c (by simp);have hr:=h1.cells hc.1;have hyl:y.cells.size=k:=by rw[<-hc.2,<-hr.length];simp
  simp only[zLc,Nat.add_mul,Nat.one_mul] at hl;refine qaj.cons hc.2 (RepC.of_heap (t:=t) (fr:=fr) pre (ys'.flatMap (λv=>v.cells.toList)++post) (by simpa using hb) hp (by simp[hyl];omega) hr) ?_;exact qaj.of_heap (t:=t) (fr:=fr) (pre++y.cells.toList) post (by simpa using hb) (by simp[hp,hyl]) (by omega) (λv hv=>hk v (zMo _ hv)) h2
def qdw(s:Nat)(es:List LV):Prop:=∀ v∈es,v.cells? = some v.cells/\v.cells.length=s
theorem eN:qdw s []:=by simp[qdw]
theorem eC{e:LV}(h1:e.cells? = some e.cells)(h2:e.cells.length=s)(h:qdw s es):qdw s (e::es):=λv hv=>by
 rcases zMi.1 hv with rfl|hv;exact⟨h1,h2⟩;exact h v hv
theorem qgs{s:Nat}:∀ (vs:List Value),(∀ v∈vs,v.cells.size=s)->(vs.flatMap (λv=>v.cells.toList)).length=vs.length * s
 |[],_=>by simp
 |v::vs,h=>by
  have ih:=qgs vs (λu hu=>h u (zMo _ hu));have hv:=h v (by simp);simp only[List.flatMap_cons,zLa,ih,zLc,Array.length_toList,hv,Nat.add_mul];omega
theorem qhK{w:World}{L:Live}{s:Nat}:∀ {es:List LV} {vs:List Value},RepL w L es vs->qdw s es->∀ v∈vs,v.cells.size=s
 |[],_,h,_=>by simp only[RepL] at h;subst h;simp
 |c::cs,_,h,hc=>by
  simp only[RepL] at h;obtain⟨y,ys,rfl,h1,h2⟩:=h;intro v hv;rcases zMi.1 hv with rfl|hv;have:=hc c (by simp);rw[<-this.2,<-(h1.cells this.1).length]
  simp
  exact qhK h2 (λu hu=>hc u (zMo _ hu)) v hv
theorem qjE(hH:RelH C w L []){vs rest:List Value}(hr:RepL w L es vs)(hok:qdw s es)(hcap:es.length<=cap)(hsz:cap * s<=es.length * s+rest.length)
  (hk:∀ b,K (.app b cap s es) [(b,.row (es.length * s))]) :
  Left C w L [] (World.push w (.cells (vs.flatMap (λv=>v.cells.toList)++rest).toArray t)) (.slice (some ⟨w.heap.size,0,none⟩) es.length cap) K:=by
 have hl:=hr.length;have hfl:=qgs vs (qhK hr hok);rw[hl] at hfl;have hx:=qep hH.wf (.cells (vs.flatMap (λv=>v.cells.toList)++rest).toArray t) (es.length * s)
 have:=qew hH (.cells (vs.flatMap (λv=>v.cells.toList)++rest).toArray t) (es.length * s) [(w.heap.size,.row (es.length * s))] (λp hp=>by
  simp only[List.mem_singleton] at hp;subst hp
  exact⟨rfl,by simp[Live.upd],_,t,(0,0),qaD,by simp only[List.size_toArray,zLa,hfl];omega,Nat.zero_le _⟩) (by simp)
 refine⟨.app w.heap.size cap s es,_,_,this.1,this.2,?_,hk _⟩;simp only[Rep];refine⟨trivial,hcap,?_,t,_,by simp only[World.shape?,World.push];rw[qaD],by simp only[List.size_toArray,zLa,hfl];exact hsz⟩;exact qaj.of_heap (t:=t) (fr:=(0,0)) [] rest (by simp only[World.push,List.nil_append];exact qaD) rfl (by simp[Live.upd]) hok (hr.mono hx _ _)
theorem qae.buildSlice{t el s:Nat}{zs:List Value} [ht:TSlice C.P t el s] [hz:TZero C.P el zs]{xs:List Operand}(hok:qdw s (xs.map e.ev))(hsz:xs.length * s<=16777216){parts:List (Nat×Operand)}(hp:parts=(List.range xs.length).zip xs)
  {len:Nat} (hlen:len=xs.length) (hk:∀ b,K (.app b len s (xs.map e.ev)) [(b,.row (len * s))]):qae C ⟨dst,.buildSlice t len parts.toArray,ty,pos,aft,g⟩ e [] K X:=λρ w L h hH=>by
 subst hlen hp;obtain⟨i,hi,his⟩:=ht.size;obtain⟨v0,hv0,hc0⟩:=qmm (P:=C.P) (t:=el) w;have hr:=qjD h xs;have hvs:=qhK hr hok;have h3:execOp ρ ⟨dst,.buildSlice t xs.length ((List.range xs.length).zip xs).toArray,ty,pos,aft,g⟩=(do Pure.pure (.value (<-Instr.buildSlice t xs.length (((List.range xs.length).zip xs).toArray.map λ(i,x)=>(i,ρ x))))):=rfl
 have hmap:(((List.range xs.length).zip xs).map λp=>(p.1,ρ p.2))=(List.range' 0 (xs.map ρ).length).zip (xs.map ρ):=by
  rw[zLm,<-List.range_eq_range',List.zip_map_right]
  try rfl
 have key:∀ (zarr:Array Value),Instr.fill (λi=>some (i * s,s)) ((Array.range (xs.length * s)).map (zarr[· % zarr.size]!)) (((List.range xs.length).zip xs).toArray.map λ(i,x)=>(i,ρ x)).toList =
   some ((xs.map ρ).flatMap (λv=>Value.cells v |>.toList)).toArray:=λzarr=>by
  have hfs:=qpx (size:=s) (xs.map ρ) 0 ((Array.range (xs.length * s)).map (zarr[· % zarr.size]!)).toList hvs (by simp);rw[Array.toArray_toList] at hfs
  have hm2:(((List.range xs.length).zip xs).toArray.map λ(i,x)=>(i,ρ x)).toList=(List.range' 0 (xs.map ρ).length).zip (xs.map ρ):=by
   rw[<-hmap]
   simp
  rw[hm2,hfs]
  simp
 have hbuild:(Instr.buildSlice t xs.length (((List.range xs.length).zip xs).toArray.map λ(i,x)=>(i,ρ x))).run C.P w =
   .ok (.slice (some ⟨w.heap.size,0,none⟩) xs.length xs.length) (World.push w (.cells ((xs.map ρ).flatMap (λv=>Value.cells v |>.toList)).toArray el)):=by
  have hg:¬ (xs.length * s > 2 ^ 24):=by simp;omega
  simp only[Instr.buildSlice,zRt,qaa ht.und,zRv,qbG hi,his];rw[zn hg]
  by_cases h0:xs.length * s=0
  rw[zp h0];simp only[zRt,zRu,zRv,key #[]];rfl;rw[zn h0];simp only[zRt,zRu,zRv,hv0,key v0.cells];rfl
 rw[h3,zRt,hbuild];have:=qjE (K:=K) (t:=el) (cap:=xs.length) (rest:=[]) hH hr hok (by simp) (by simp) (by simpa using hk);simp only[zLz,zLm] at this;exact this
theorem RepC.append{w:World}{L:Live}{b:Nat}:∀ {avs bs:List LV} {off:Nat},RepC w L b off avs->RepC w L b (off+avs.length) bs->RepC w L b off (avs++bs)
 |[],_,_,_,h=>by simpa using h
 |a::avs,bs,off,h1,h2=>by
  simp only[RepC,List.cons_append] at h1 ⊢;refine⟨h1.1,h1.2.1,RepC.append h1.2.2 ?_⟩;simpa [show off+1+avs.length=off+(avs.length+1) by omega] using h2
theorem RepC.left(h:RepC w L b off (avs++bs)):RepC w L b off avs:=by
 have:=h.take avs.length;simpa using this
theorem RepC.right(h:RepC w L b off (avs++bs)):RepC w L b (off+avs.length) bs:=by
 have:=h.drop avs.length;simpa using this
theorem qaj.toC{w:World}{L:Live}{b k:Nat}:∀ {es:List LV} {off:Nat},qaj w L b k off es->RepC w L b off (es.flatMap LV.cells)
 |[],_,_=>by simp[RepC]
 |e::es,off,h=>by
  have h1:=h.cell;rw[List.flatMap_cons];refine RepC.append h1.2 ?_;rw[h1.1];exact qaj.toC h.tail
theorem qaj.ofC{w:World}{L:Live}{b k:Nat}:∀ {es:List LV} {off:Nat},(∀ e∈es,e.cells.length=k)->RepC w L b off (es.flatMap LV.cells)->qaj w L b k off es
 |[],_,_,_=>by simp[qaj]
 |e::es,off,hk,h=>by
  rw[List.flatMap_cons] at h;have h1:=hk e (by simp);refine qaj.cons h1 h.left (qaj.ofC (λv hv=>hk v (zMo _ hv)) ?_);rw[<-h1];exact h.right
theorem qaj.sizes{w:World}{L:Live}{b k:Nat}:∀ {es:List LV} {off:Nat},qaj w L b k off es->∀ e∈es,e.cells.length=k
 |[],_,_=>by simp
 |e::es,_,h=>λv hv=>by
  rcases zMi.1 hv with rfl|hv;exact h.cell.1;exact qaj.sizes h.tail v hv
theorem qdc{k:Nat}:∀ {es:List LV},(∀ e∈es,e.cells.length=k)->(es.flatMap LV.cells).length=es.length * k
 |[],_=>by simp
 |e::es,h=>by
  rw[List.flatMap_cons,zLa,h e (by simp),qdc (λv hv=>h v (zMo _ hv)),zLc,Nat.add_mul];omega
theorem RepC.of_cells{w:World}{L:Live}{b:Nat}:∀ {cs:List LV} {off:Nat} {ys:List Value},RepL w L cs ys->off+ys.length<=L b->(∀ j x,ys[j]? = some x->w.cell? ⟨b,off+j,none⟩=some x)->RepC w L b off cs
 |[],_,_,_,_,_=>by simp[RepC]
 |c::cs,off,_,h,hl,hc=>by
  simp only[RepL] at h;obtain⟨y,ys,rfl,h1,h2⟩:=h;simp only[zLc] at hl;simp only[RepC];refine⟨by omega,⟨y,hc 0 y rfl,h1⟩,RepC.of_cells h2 (by omega) λj x hx=>?_⟩;have:=hc (j+1) x (by simpa using hx)
  rwa [show off+(j+1)=off+1+j by omega] at this
class TRow (P:Program) (el:TypeId) (s bytes:outParam Nat):Prop where
 out:∃ i v,P.info? el=some i/\i.size=s/\i.bytes=bytes/\0<bytes/\i.zero=some v/\v.cells.size=s
def qvA(P:Program)(el s bytes:Nat):Bool:=
 match P.info? el with
 |some i=>i.size == s && i.bytes == bytes && Nat.blt 0 bytes && (match i.zero with|some v=>v.cells.size == s|none=>false)
 |none=>false
theorem TRow.of(h:qvA P el s bytes=true):TRow P el s bytes:=by
 unfold qvA at h
 cases hi:P.info? el with
 |none=>rw[hi] at h;simp at h
 |some i=>
  rw[hi] at h;simp only[zBa,beq_iff_eq] at h;obtain⟨⟨⟨h1,h2⟩,h3⟩,h4⟩:=h
  cases hz:i.zero with
  |none=>rw[hz] at h4;simp at h4
  |some v=>rw[hz] at h4;exact⟨i,v,hi,h1,h2,by simpa using h3,hz,by simpa using h4⟩
theorem qdD{xT:Nat} [ht:TSlice P sT el s] [hr:TRow P el s bytes]{a:Option Addr}
  (hxT:P.underlying xT=some .string∨∃ e2,P.underlying xT=some (.slice e2)) (hlen:∀ w':World,(Builtin.lenOf xv).run P w'=.ok n w')
  (hnew:∀ w':World,w'.heap=w.heap->(Builtin.firstCells s n xv).run P w'=.ok new.toArray w') (hc:len+n<=cap) :
  (Builtin.append_ #[sT,xT] ty #[.slice a len cap,xv]).run P w =
   ((match a with|some a=>storeCells (a.add (len * s)) new|none=>Pure.pure ()).run P w).andThen λ_ w'=>.ok (.slice a (len+n) cap) w':=by
 obtain⟨i,z,hi,hs,hb,hb0,hz,hzs⟩:=hr.out;subst hs;have hn:=hnew w rfl;rcases hxT with hd|⟨e2,hd⟩ <;> cases a <;> simp[Builtin.append_,qaa ht.und,qaa hd,sizeOf,typeInfo,hi,hlen,hc,hn]
theorem qby{xT:Nat} [ht:TSlice P sT el s] [hr:TRow P el s bytes]{a:Option Addr}{old:List Value}
  (hxT:P.underlying xT=some .string∨∃ e2,P.underlying xT=some (.slice e2)) (hlen:∀ w':World,(Builtin.lenOf xv).run P w'=.ok n w')
  (hnew:∀ w':World,w'.heap=w.heap->(Builtin.firstCells s n xv).run P w'=.ok new.toArray w') (hold:∀ w':World,w'.heap=w.heap->(Builtin.firstCells s len (.slice a len cap)).run P w'=.ok old.toArray w')
  (hroom:(len+n) * bytes<=140737488355328) (hc:cap<len+n) :
  ∃ cap' rest,len+n<=cap'/\rest.length=(cap'-(len+n)) * s/\(Builtin.append_ #[sT,xT] ty #[.slice a len cap,xv]).run P w =
   .ok (.slice (some ⟨w.heap.size,0,none⟩) (len+n) cap') (World.push w.drew (.cells (old++new++rest).toArray el)):=by
 obtain⟨i,z,hi,hs,hb,hb0,hz,hzs⟩:=hr.out;subst hs;have hn':¬ (len+n<=cap):=by omega
 have hmul:len+n<=(len+n) * bytes:=Nat.le_mul_of_pos_right _ hb0;have h63':¬ (9223372036854775807<((len:Int)+(n:Int))):=by omega
 have hfit:=growslice_fits (bytes:=bytes) hc hroom;have h48':¬ (281474976710656<Builtin.nextslicecap (len+n) cap * i.bytes):=by rw[hb];omega
 have hf:=hnew w.drew rfl;have hfo:=hold w.drew rfl;refine⟨grownCap w (len+n) cap el,(Builtin.zeroCells z.cells (grownCap w (len+n) cap el-(len+n))).toList,?_,?_,?_⟩;simp[grownCap,Question.cut];simp[Builtin.zeroCells,hzs];rcases hxT with hd|⟨e2,hd⟩
 all_goals
  simp[Builtin.append_,qaa ht.und,qaa hd,sizeOf,typeInfo,zeroValue,hi,hz,hlen,hn',h63',h48',Question.forced,hf,hfo,newRow,grownCap];show World.push w.drew _=World.push w.drew _;congr 2;apply Array.ext'
  simp
theorem Fr.wide{K K':List Nat}(h:Fr K w L w' L' H')(hk:∀ b∈K,b∈K'):Fr K' w L w' L' H':=
 ⟨h.os,h.tape,h.output,h.ext,λb hb hn=>h.block b hb (λk=>hn (hk b k)),λb hb hn=>h.lsame b hb (λk=>hn (hk b k)),λp hp=>(h.kin p hp).imp (hk _) id⟩
theorem Fr.of_drew{K:List Nat}(h:Fr K w.drew L w' L' H'):Fr K w L w' L' H':=
 ⟨h.os,h.tape,h.output,⟨h.ext.size,h.ext.shape,h.ext.live,h.ext.mono⟩,h.block,h.lsame,h.kin⟩
theorem qef(w:World)(L:Live):Ext w L w.drew L:=⟨zNr _,λ_ _=>rfl,λ_ _ _=>rfl,λ_=>zNr _⟩
theorem RelH.drew{w:World}{L:Live}(h:RelH C w L H):RelH C w.drew L H:=
 ⟨h.base.drew,h.lbase,h.b0,h.wf,h.nodup,λp hp=>⟨(h.objs p hp).1,(h.objs p hp).2.1,(h.objs p hp).2.2.keep (qef w L) rfl rfl⟩⟩
theorem qiG(hH:RelH C w L []){es:List LV}{rest:List Value}(hr:RepL w L (es.flatMap LV.cells) xs)(hok:∀ v∈es,v.cells.length=s)(hcap:es.length<=cap)(hsz:cap * s<=es.length * s+rest.length)
  (hk:∀ b,K (.app b cap s es) [(b,.row (es.length * s))]) :
  Left C w L [] (World.push w (.cells (xs++rest).toArray t)) (.slice (some ⟨w.heap.size,0,none⟩) es.length cap) K:=by
 have hl:xs.length=es.length * s:=by rw[hr.length,qdc hok]
 have hx:=qep hH.wf (.cells (xs++rest).toArray t) (es.length * s)
 have:=qew hH (.cells (xs++rest).toArray t) (es.length * s) [(w.heap.size,.row (es.length * s))] (λp hp=>by
  simp only[List.mem_singleton] at hp;subst hp
  exact⟨rfl,by simp[Live.upd],_,t,(0,0),qaD,by simp only[List.size_toArray,zLa,hl];omega,Nat.zero_le _⟩) (by simp)
 refine⟨.app w.heap.size cap s es,_,_,this.1,this.2,?_,hk _⟩;simp only[Rep];refine⟨trivial,hcap,?_,t,_,by simp only[World.shape?,World.push];rw[qaD],by simp only[List.size_toArray,zLa,hl];exact hsz⟩;refine qaj.ofC hok (RepC.of_cells (hr.mono hx _ _) (by simp[Live.upd,hl]) λj x hj=>?_);have hb:(World.push w (.cells (xs++rest).toArray t)).heap[w.heap.size]? = some (.cells (xs++rest).toArray t (0,0)):=qaD;simp only[World.cell?,hb];simp only[Option.isSome_none,zRn,if_false,Nat.zero_add,List.getElem?_toArray];rw[List.getElem?_append_left (List.getElem?_eq_some_iff.1 hj).1];exact hj
theorem qcJ{v:Value}{es:List LV}(h:Rep w L lv v)(he:elems lv=some es)(hs:∀ v∈es,v.cells.length=s) :
  ∃ a cap xs,v=.slice a es.length cap/\es.length<=cap/\RepL w L (es.flatMap LV.cells) xs/\xs.length=es.length * s /\
   ∀ (P:Program) (w':World),w'.heap=w.heap->(Builtin.firstCells s es.length v).run P w'=.ok xs.toArray w':=by
 obtain⟨a,cap,rfl,hc,hr⟩:=h.elems he
 by_cases hne:es=[]
 subst hne;refine⟨a,cap,[],rfl,hc,by simp[RepL],by simp,λP w' _=>?_⟩;cases a <;> simp[Builtin.firstCells,loadCells,loadCellsFrom];obtain⟨b,off,k,rfl,hrr⟩:=hr hne
 have hk:k=s:=by
  obtain⟨e0,rest,he⟩:=List.exists_cons_of_ne_nil hne;subst he;exact hrr.cell.1.symm.trans (hs e0 (by simp))
 subst hk;obtain⟨xs,h1,h2⟩:=hrr.toC.values;have hl:xs.length=es.length * k:=by rw[h1.length,qdc hs]
 refine⟨_,cap,xs,rfl,hc,h1,hl,λP w' hw=>?_⟩
 have:=qbA (P:=P) (w:=w') (b:=b) (off:=off) (es.length * k) 0 #[] xs hl (λj x hj=>by
  have:=(h2 j x hj).2;simp only[World.cell?] at this ⊢;rw[hw]
  simpa using this)
 simp only[Builtin.firstCells,loadCells,this]
 simp
theorem qae.appendNil{xT:Nat} [ht:TSlice C.P sT el s] [hr:TRow C.P el s bytes](hats:ats=#[sT,xT])(hxT:∃ e2,C.P.underlying xT=some (.slice e2)){ms:List LV}
  (hx:e.ev x=qab) (hy:elems (e.ev y)=some ms) (hne:ms≠[]) (hs:∀ v∈ms,v.cells.length=s) (hroom:ms.length * bytes<=140737488355328)
  (hk:∀ b cap,K (.app b cap s ms) [(b,.row (ms.length * s))]) :
  qae C ⟨dst,.call { callee:=.builtin .append,args:=#[x,y],argTypes:=ats },ty,pos,aft,g⟩ e [] K X:=λρ w L h hH=>by
 subst hats;obtain⟨a,cap,xs,hv,hc,h1,h2,h3⟩:=qcJ (h y) hy hs;have h0:∀ (cs:Array Bool) (args:Array Value),builtin .append #[sT,xT] ty cs args=(do Pure.pure (.value (<-Builtin.append_ #[sT,xT] ty args))):=λ_ _=>rfl;have hpos:0<ms.length:=List.length_pos_iff.2 hne
 obtain⟨cap',rest,r1,r2,r3⟩:=qby (ty:=ty) (P:=C.P) (w:=w) (sT:=sT) (xT:=xT) (a:=none) (len:=0) (cap:=0) (n:=ms.length) (xv:=ρ y) (old:=[]) (new:=xs) (.inr hxT) (λw'=>by rw[hv];try rfl) (λw' hw=>h3 C.P w' hw)
  (λw' _=>by simp[Builtin.firstCells]) (by simpa using hroom) (by omega)
 rw[qax,h0];simp only[List.map_toArray,zMc,List.map_nil,zRt,qag h hx,r3,zRv,zRu,List.nil_append,Nat.zero_add]
 obtain⟨lv,H',L',g1,g2,g3,g4⟩:=qiG (K:=K) (t:=el) (cap:=cap') (rest:=rest) hH.drew (h1.mono (qef w L) _ _) hs (by omega) (by
  rw[r2,<-Nat.add_mul]
  exact Nat.mul_le_mul_right _ (by omega)) (λb=>hk b cap')
 exact⟨lv,H',L',g1.of_drew,g2,g3,g4⟩
theorem qaj.append{w:World}{L:Live}{b k:Nat}:∀ {avs bs:List LV} {off:Nat},qaj w L b k off avs->qaj w L b k (off+avs.length * k) bs->qaj w L b k off (avs++bs)
 |[],_,_,_,h=>by simpa using h
 |a::avs,bs,off,h1,h2=>by
  rw[List.cons_append];refine qaj.cons h1.cell.1 h1.cell.2 (qaj.append h1.tail ?_);simpa [Nat.add_mul,Nat.add_assoc,Nat.add_comm,Nat.add_left_comm] using h2
theorem qsh{m:Nat}{ms:List LV}{xs:Array Value}{t:TypeId}{fr:Nat×Nat}{news:List Value}(hH:RelH C w L [(b,.row n)])(hn:n=es.length * s)(hm:m=ms.length * s)
  (hb:w.heap[b]? = some (.cells xs t fr)) (hsz:cap * s<=xs.size) (hcap:es.length+ms.length<=cap) (hrow:qaj w L b s 0 es) (hs:∀ v∈ms,v.cells.length=s) (hnews:RepL w L (ms.flatMap LV.cells) news)
  (h1:w'.os=w.os) (h2:w'.tape=w.tape) (h3:w'.output=w.output) (h4:w'.heap.size=w.heap.size) (h5:∀ c,c≠b->w'.heap[c]? = w.heap[c]?)
  (h6:w'.heap[b]? = some (.cells (xs.toList.take n++news++xs.toList.drop (n+news.length)).toArray t fr)) (hk:K (.app b cap s (es++ms)) [(b,.row ((es++ms).length * s))]) :
  Left C w L [(b,.row n)] w' (.slice (some ⟨b,0,none⟩) (es.length+ms.length) cap) K:=by
 obtain⟨hb0,hbs,hl,xs2,t2,fr2,hx1,hx2,hx3⟩:=hH.objs _ (zRb rfl);simp only at hb0 hbs hl hx1 hx2 hx3;rw[hb] at hx1;simp only[zRh,Obj.cells.injEq] at hx1;obtain⟨rfl,rfl,rfl⟩:=hx1;have hnl:news.length=m:=by rw[hnews.length,qdc hs,hm]
 have htot:n+m<=cap * s:=by rw[hn,hm,<-Nat.add_mul];exact Nat.mul_le_mul_right _ hcap
 have hsize:(xs.toList.take n++news++xs.toList.drop (n+news.length)).toArray.size=xs.size:=by simp[hnl];omega
 have hx:Ext w L w' (L.upd b (n+m)):=by
  refine⟨by rw[h4];exact zNr _,λc hc=>?_,λc i hi=>?_,λc=>?_⟩
  by_cases he:c=b
  subst he;simp only[World.shape?,hb,h6,hsize];exact qbM (h5 c he)
  by_cases he:c=b
  subst he;rw[hl] at hi;simp only[World.cell?,hb,h6,Option.isSome_none,zRn,if_false,List.getElem?_toArray];rw[zAs,List.getElem?_append_left (by simp;omega),List.getElem?_take,zp hi]
  simp
  exact cell_of_heap (h5 c he) i;unfold Live.upd;split
  rename_i h;subst h;omega
  exact zNr _
 have htl:(es++ms).length * s=n+m:=by rw[zLa,Nat.add_mul,<-hn,<-hm]
 refine⟨.app b cap s (es++ms),[(b,.row ((es++ms).length * s))],L.upd b (n+m),⟨h1,h2,h3,hx,λc hc hn=>h5 c (by simpa using hn),λc hc hn=>?_,λp hp=>.inl (by simp only[List.mem_singleton] at hp;subst hp;simp)⟩,
  ⟨?_,trivial,by rw[h4];exact hH.b0,λc hc=>?_,by simp,λp hp=>?_⟩,?_,hk⟩
 have hne:c≠b:=by simpa using hn
 simp only[Live.upd,zn hne];exact hH.base.trans ⟨h1,h2,h3,by rw[h4];exact zNr _,λc hc=>h5 c (by omega)⟩;rw[h4] at hc;have hne:c≠b:=by omega
 simp only[Live.upd,zn hne];exact hH.wf c hc;simp only[List.mem_singleton] at hp;subst hp;refine⟨hb0,by rw[h4];exact hbs,by simp only[Live.upd,if_true];exact htl.symm,_,t,fr,h6,by rw[hsize,htl];omega,by omega⟩;simp only[Rep];refine⟨by simp,by simp;exact hcap,qaj.append (hrow.mono hx _ _ _ _) (qaj.ofC hs (RepC.of_cells (hnews.mono hx _ _) ?_ λj x hj=>?_)),t,_,by simp only[World.shape?,h6];rfl,by rw[hsize];exact hsz⟩;simp[Live.upd,<-hn,hnl];have hjl:=(List.getElem?_eq_some_iff.1 hj).1;simp only[World.cell?,h6,Option.isSome_none,zRn,if_false,List.getElem?_toArray,Nat.zero_add,<-hn];rw[zAs,List.getElem?_append_right (by simp;omega),List.getElem?_append_left (by simp;omega)]
 simp
 rw[show n+j-min n xs.size=j by omega];exact hj
theorem qoC{xT:Nat} [ht:TSlice C.P sT el s] [hr:TRow C.P el s bytes](hxT:C.P.underlying xT=some .string∨∃ e2,C.P.underlying xT=some (.slice e2)){ms:List LV}{new:List Value}
  (hH:RelH C w L [(b,.row (es.length * s))]) (hsv:Rep w L (.app b cap s es) (.slice (some ⟨b,0,none⟩) es.length cap)) (hlen:∀ w':World,(Builtin.lenOf xv).run C.P w'=.ok ms.length w')
  (hnew:∀ w':World,w'.heap=w.heap->(Builtin.firstCells s ms.length xv).run C.P w'=.ok new.toArray w') (hrep:RepL w L (ms.flatMap LV.cells) new) (hs:∀ v∈ms,v.cells.length=s)
  (hflat:∀ v∈new,(∀ cs,v≠.agg cs)/\(∀ cs,v≠.tuple cs)) (hroom:(es.length+ms.length) * bytes<=140737488355328)
  (hk:∀ b' cap',K (.app b' cap' s (es++ms)) [(b',.row ((es++ms).length * s))]) :
  ∃ v w',(Builtin.append_ #[sT,xT] ty #[.slice (some ⟨b,0,none⟩) es.length cap,xv]).run C.P w=.ok v w'/\Left C w L [(b,.row (es.length * s))] w' v K:=by
 have hsv':=hsv;simp only[Rep] at hsv;obtain⟨_,hcl,hrow,te,ts,hshape,hcs⟩:=hsv;obtain⟨hb0,hbs,hl,xs,t,fr,hx1,hx2,hx3⟩:=hH.objs _ (zRb rfl);simp only at hb0 hbs hl hx1 hx2 hx3;simp only[World.shape?,hx1,zRh,Prod.mk.injEq] at hshape;obtain⟨rfl,rfl⟩:=hshape;have hnl:new.length=ms.length * s:=by rw[hrep.length,qdc hs]
 by_cases hc:es.length+ms.length<=cap
 have hrun:=qdD (ty:=ty) (P:=C.P) (w:=w) (sT:=sT) (xT:=xT) (a:=some ⟨b,0,none⟩) (len:=es.length) (cap:=cap) hxT hlen hnew hc;have htot:es.length * s+ms.length * s<=cap * s:=by rw[<-Nat.add_mul];exact Nat.mul_le_mul_right _ hc
 obtain⟨w',r1,r2,r3,r4,r5,r6,r7⟩:=qcd (P:=C.P) (b:=b) (off:=0+es.length * s) (t:=t) (fr:=fr) new 0 w xs.toList (by simpa using hx1) (by simp;omega) (λj h1 h2 h3=>by omega) hflat;refine⟨_,w',?_,qsh (cap:=cap) (news:=new) (xs:=xs) hH rfl rfl hx1 hcs hc hrow hs hrep r2 r3 r4 r5 r6 (by simpa using r7) (hk b cap)⟩;rw[hrun];simp only[add_mk,r1,zRv];obtain⟨a2,cap2,old,hv,hc2,h1,h2,h3⟩:=qcJ hsv' (es:=es) (s:=s) rfl hrow.sizes;simp only[Value.slice.injEq] at hv;obtain⟨rfl,_,rfl⟩:=hv;obtain⟨cap',rest,r1,r2,r3⟩:=qby (ty:=ty) (P:=C.P) (w:=w) (sT:=sT) (xT:=xT) (a:=some ⟨b,0,none⟩) (len:=es.length) (cap:=cap) hxT hlen hnew (λw' hw=>h3 C.P w' hw) hroom (by omega);refine⟨_,_,r3,?_⟩;have hH0:RelH C w L []:=hH.sub (List.nil_sublist _)
 obtain⟨lv,H',L',g1,g2,g3,g4⟩:=qiG (K:=K) (t:=el) (s:=s) (cap:=cap') (es:=es++ms) (rest:=rest) hH0.drew (by
   rw[List.flatMap_append];exact(h1.append hrep).mono (qef w L) _ _) (λv hv=>by
   rcases zRd hv with hv|hv;exact hrow.sizes v hv;exact hs v hv) (by simp;omega) (by
   rw[r2,<-Nat.add_mul,zLa]
   exact Nat.mul_le_mul_right _ (by omega)) (λb'=>hk b' cap')
 rw[zLa] at g3;exact⟨lv,H',L',g1.of_drew.wide (by simp),g2,g3,g4⟩
theorem qae.appendApp{xT:Nat} [ht:TSlice C.P sT el s] [hr:TRow C.P el s bytes](hats:ats=#[sT,xT])(hxT:∃ e2,C.P.underlying xT=some (.slice e2)){ms:List LV}
  (hx:e.ev x=.app b cap s es) (hn:n=es.length * s) (hy:elems (e.ev y)=some ms) (hs:∀ v∈ms,v.cells.length=s) (hok:(ms.flatMap LV.cells).all qcP=true) (hroom:(es.length+ms.length) * bytes<=140737488355328)
  (hk:∀ b' cap',K (.app b' cap' s (es++ms)) [(b',.row ((es++ms).length * s))]) :
  qae C ⟨dst,.call { callee:=.builtin .append,args:=#[x,y],argTypes:=ats },ty,pos,aft,g⟩ e [(b,.row n)] K X:=λρ w L h hH=>by
 subst hats hn;obtain⟨a,cap2,xs,hv,hc,h1,h2,h3⟩:=qcJ (h y) hy hs;have hsv:=h x;rw[hx] at hsv
 have hxv:ρ x=.slice (some ⟨b,0,none⟩) es.length cap:=by
  have h':=hsv;simp only[Rep] at h';exact h'.1
 rw[hxv] at hsv;have h0:∀ (cs:Array Bool) (args:Array Value),builtin .append #[sT,xT] ty cs args=(do Pure.pure (.value (<-Builtin.append_ #[sT,xT] ty args))):=λ_ _=>rfl;obtain⟨v,w',r1,r2⟩:=qoC (ty:=ty) (K:=K) (sT:=sT) (xT:=xT) (.inr hxT) hH hsv (xv:=ρ y) (ms:=ms) (λw'=>by rw[hv];try rfl) (λw' hw=>h3 C.P w' hw) h1 hs (qiY h1 hok) hroom hk;rw[qax,h0];simp only[List.map_toArray,zMc,List.map_nil,zRt,hxv,r1,zRv,zRu];exact r2
theorem qae.appendNilNil{xT:Nat} [ht:TSlice C.P sT el s](hats:ats=#[sT,xT])(hxT:∃ e2,C.P.underlying xT=some (.slice e2))(hx:e.ev x=qab)(hy:elems (e.ev y)=some [])(hk:K qab H) :
  qae C ⟨dst,.call { callee:=.builtin .append,args:=#[x,y],argTypes:=ats },ty,pos,aft,g⟩ e H K X:=λρ w L h hH=>by
 subst hats;obtain⟨a,cap,hv,_⟩:=(h y).elems hy;obtain⟨i,hi,his⟩:=ht.size;obtain⟨e2,hxT⟩:=hxT;have h0:∀ (cs:Array Bool) (args:Array Value),builtin .append #[sT,xT] ty cs args=(do Pure.pure (.value (<-Builtin.append_ #[sT,xT] ty args))):=λ_ _=>rfl
 have hr:(Builtin.append_ #[sT,xT] ty #[.slice none 0 0,.slice a 0 cap]).run C.P w=.ok (.slice none 0 0) w:=by
  cases a <;> simp[Builtin.append_,qaa ht.und,qaa hxT,sizeOf,typeInfo,hi,Builtin.lenOf,Builtin.firstCells,loadCells,loadCellsFrom]
 rw[qax,h0];simp only[List.map_toArray,zMc,List.map_nil,zRt,qag h hx,hv,zLn,hr,zRv,zRu];exact⟨_,H,L,Fr.refl _ _ _,hH,qai,hk⟩
end steps
class TMixed (P:Program):Prop where
 out:P.follows .mixedOrders=true
def QC(C:Ctx)(w:World)(L:Live)(w':World):Prop:=∃ L',Fr (keys []) w L w' L' []/\RelH C w' L' []
theorem QC.agree(h:QC C w L w')(hH:RelH C w L H):qe7 w L H w':=
 let ⟨_,f,_⟩:=h
 ⟨λp hp=>f.block p.1 (hH.objs p hp).2.1 (by simp),f.ext.live⟩
theorem RelH.empty(h:RelH C w L H):RelH C w L []:=h.sub (List.nil_sublist _)
def LQ(C:Ctx)(n:Nat)(ops:Array Oper)(K:Env->Prop)(rest:List Oper)(e:Env)(H:Heap):Prop:=
 ∀ a w L,RelE n a e w L->RelH C w L H->wpQuiet C.P ops (QC C w L) (λa'=>∃ e',RelE n a' e' w L/\K e') rest a
section quiet
variable{C:Ctx}{n:Nat}{ops:Array Oper}{K:Env->Prop}{e:Env}{H:Heap}{dst:Option Nat}{op:Op}{ty:TypeId}{pos:String}{aft:Array Edge}{rest:List Oper}
theorem LQ.nil(h:K e):LQ C n ops K [] e H:=λ_ _ _ hE _=>⟨e,hE,h⟩
theorem qob{C:World->Prop}{Q:Act->Prop}{a:Act}(hg:Region.wanted o (yielded ops a.tmps)=true)(h:∀ w',C w'->o.quietAt P a C w' v)(k:wpQuiet P ops C Q rest (a.put o.dst v)):wpQuiet P ops C Q (o::rest) a:=by
 unfold wpQuiet;rw[zp hg];exact⟨v,h,k⟩
theorem qP(h:Pure C ⟨dst,op,ty,pos,aft,none⟩ e H lv)(hd:qc8 n dst)(k:LQ C n ops K rest (e.put dst lv) H):LQ C n ops K (⟨dst,op,ty,pos,aft,none⟩::rest) e H:=λa w L hE hH=>by
 obtain⟨v,hv,hr⟩:=h a.eval w L hE.ev hH;refine qob (by simp[Region.wanted]) (v:=v) (λw' hw'=>?_) (k _ w L (hE.put hd hv) hH);unfold Oper.quietAt;rw[hr w' (hw'.agree hH)];exact⟨rfl,rfl⟩
theorem LQ.want{b:Bool}(hj:(ops[j]?).bind (·.dst)=some d)(hb:e.s d=.atom (.bool b))
  (k:LQ C n ops K (⟨dst,op,ty,pos,aft,none⟩::rest) e H):LQ C n ops K (⟨dst,op,ty,pos,aft,some (j,b)⟩::rest) e H:=λa w L hE hH=>by
 have:=k a w L hE hH;unfold wpQuiet at this ⊢;rw[zp (by simp[Region.wanted])] at this;rw[zp (by simp[Region.wanted,qcI hE hj hb])];exact this
theorem LQ.skip{b c:Bool}(hj:(ops[j]?).bind (·.dst)=some d)(hb:e.s d=.atom (.bool b))(hne:b=!c)(hd:qc8 n dst)
  (k:LQ C n ops K rest (e.put dst (.atom undef)) H):LQ C n ops K (⟨dst,op,ty,pos,aft,some (j,c)⟩::rest) e H:=λa w L hE hH=>by
 unfold wpQuiet;rw[zn (by subst hne;cases c <;> simp[Region.wanted,qcI hE hj hb])];exact k _ w L (hE.put hd qai) hH
theorem qah.quiet [hm:TMixed C.P] {id:Nat} {l:List Oper} {Q:Post} (hB:Region.lexB .any l.toArray=true) (h:LQ C n l.toArray (λe'=>Q .normal e' H) l e H):qah C n (.region id l.toArray true) Q e H:=λa w L hE hH=>by
 refine wp_region_quiet (C:=QC C w L) hm.out hB ⟨L,⟨rfl,rfl,rfl,qef w L,λ_ _ _=>rfl,λ_ _ _=>rfl,by simp⟩,hH.empty.drew⟩ ?_
 have hq:∀ a' w',QC C w L w'->(∃ e',RelE n a' e' w L/\Q .normal e' H)->lift C n w L (keys H) Q .normal a' w':=by
  rintro a' w' ⟨L',f1,f2⟩ ⟨e',h1,h2⟩;have:=RelH.frame (H:=[]) (F:=H) (by simpa using hH) f1 f2;exact⟨e',H,L',by simpa using this.2,by simpa using this.1,h1.mono f1.ext,h2⟩
 have mono:∀ (l2:List Oper) (a:Act),wpQuiet C.P l.toArray (QC C w L) (λa'=>∃ e',RelE n a' e' w L/\Q .normal e' H) l2 a->wpQuiet C.P l.toArray (QC C w L) (λa'=>∀ w',QC C w L w'->lift C n w L (keys H) Q .normal a' w') l2 a:=by
  intro l2
  induction l2 with
  |nil=>exact λa h w' hw'=>hq a w' hw' h
  |cons o l2 ih=>
   intro a h;unfold wpQuiet at h ⊢;split at h
   rename_i hw;rw[zp hw];exact Oper.quiet_mono ih h
   rename_i hw;rw[zn hw];exact ih _ h
 exact mono _ a (by simpa using h a w L hE hH)
end quiet
def LAny(C:Ctx)(n:Nat)(ops:Array Oper)(Q:Post)(HF:Heap)(fuel:Nat)(listed:Array Bool)(e:Env)(H:Heap):Prop:=
 ∀ a w L,RelE n a e w L->RelH C w L H->wpAnyH C.P .any ops (lift C n w L (keys H) Q) (qe7 w L HF) fuel listed a w
def qay(C:Ctx)(n:Nat)(ops:Array Oper)(Q:Post)(HF:Heap)(fuel:Nat)(listed:Array Bool)(e:Env)(H:Heap):Prop:=
 ∀ w0 L0 a w L,(∀ b,L0 b<=L b)->qe7 w0 L0 HF w->(∀ p∈HF,p.1<w.heap.size)->RelE n a e w L->RelH C w L H->wpAnyH C.P .any ops (lift C n w L (keys H) Q) (qe7 w0 L0 HF) fuel listed a w
theorem qe7.refl(w:World)(L:Live)(H:Heap):qe7 w L H w:=⟨λ_ _=>rfl,λ_ _ _=>rfl⟩
theorem HSub.mem{H':Heap}(h:HSub H' H):∀ p∈H',p∈H:=λ_ hp=>
 let ⟨_,hG⟩:=h
 hG.mem_iff.2 (List.mem_append_left _ hp)
theorem qcm{P:Program}{md:Region.Mode}{ops:Array Oper}{Q Q':Exit->Act->World->Prop}{S:World->Prop}(h:∀ e a w,Q e a w->Q' e a w):∀ (fuel:Nat) (listed:Array Bool) (a:Act) (w:World),
  wpAnyH P md ops Q S fuel listed a w->wpAnyH P md ops Q' S fuel listed a w
 |0,_,_,_,k=>⟨k.1,h _ _ _ k.2⟩
 |fuel+1,listed,a,w,k=>by
  refine⟨λh0=>h _ _ _ (k.1 h0),λi hi=>?_⟩;have ki:=k.2 i hi;unfold wpOp at ki ⊢;split at ki;exact⟨ki.1,qcm h fuel _ _ _ ki.2⟩;split at ki
  rename_i hw
  rw[zp hw];rcases ki with ki|⟨k1,a0,w0,k2⟩;refine .inl ?_;unfold Oper.wp at ki ⊢;generalize (execOp _ _).run P w=r at ki ⊢
  cases r with
  |ok x w'=>
   cases x <;> simp only[Oper.upon] at ki ⊢ <;> first
    |exact⟨ki.1,qcm h fuel _ _ _ ki.2⟩
    |(refine Calls.mono ki λe w'' he=>?_;cases e with
      |returned v=>exact⟨he.1,qcm h fuel _ _ _ he.2⟩
      |panicked ch=>exact h _ _ _ he
      |outgrown=>obtain⟨a0,w0,he⟩:=he;exact⟨a0,w0,h _ _ _ he⟩)
    |exact Rows.mono ki λ_ _ he=>⟨he.1,qcm h fuel _ _ _ he.2⟩
  |halt x w'=>cases x <;> simp only[Oper.upon] at ki ⊢ <;> exact h _ _ _ ki
  exact .inr ⟨k1,a0,w0,h _ _ _ k2⟩
  rename_i hw
  rw[zn hw];exact⟨ki.1,qcm h fuel _ _ _ ki.2⟩
section any
variable{C:Ctx}{n:Nat}{ops:Array Oper}{Q:Post}{HF:Heap}{fuel:Nat}{listed:Array Bool}{e:Env}{H:Heap}
theorem qo1(dst:Option Nat)(v:Value):∀ c a w',lift C n w L K Q (.panic c) (a.put dst v) w'->lift C n w L K Q (.panic c) a w':=by
 rintro c a w' ⟨e',H',L',h1,h2,h3,h4⟩;refine⟨e',H',L',h1,h2,?_,h4⟩;cases dst <;> exact h3
theorem qsu{op:Op}{g:Option (Nat×Bool)}{a:Act}(hE:RelE n a e w L)(hH:RelH C w L H)(hHF:HSub HF H)
  (hi:ops[i]? = some ⟨dst,op,ty,pos,aft,g⟩) (hs:Region.noSelect ops=true) (hf:Region.free .any ops listed i=true) (hr:(Region.ready .any ops listed).contains i=true) (hd:qc8 n dst)
  (hp:Pure C ⟨dst,op,ty,pos,aft,g⟩ e HF lv) (hw:Region.wanted ⟨dst,op,ty,pos,aft,g⟩ (yielded ops a.tmps)=true)
  (k:LAny C n ops Q HF fuel (listed.setIfInBounds i true) (e.put dst lv) H):wpAnyH C.P .any ops (lift C n w L (keys H) Q) (qe7 w L HF) (fuel+1) listed a w:=by
 obtain⟨v,hv,hrun⟩:=hp a.eval w L hE.ev (hH.weak hHF);exact wpAnyH_take hi hs hf hr (qo1 _ _) (.inl ⟨hw,hrun⟩) (qe7.refl _ _ _) (k _ w L (hE.put hd hv) hH)
theorem LAny.take{op:Op}(hHF:HSub HF H)
  (hi:ops[i]? = some ⟨dst,op,ty,pos,aft,none⟩) (hs:Region.noSelect ops=true) (hf:Region.free .any ops listed i=true) (hr:(Region.ready .any ops listed).contains i=true) (hd:qc8 n dst)
  (hp:Pure C ⟨dst,op,ty,pos,aft,none⟩ e HF lv) (k:LAny C n ops Q HF fuel (listed.setIfInBounds i true) (e.put dst lv) H):LAny C n ops Q HF (fuel+1) listed e H:=λ_ _ _ hE hH=>
 qsu hE hH hHF hi hs hf hr hd hp (by simp[Region.wanted]) k
theorem LAny.takeWant{b:Bool}{op:Op}(hHF:HSub HF H)
  (hi:ops[i]? = some ⟨dst,op,ty,pos,aft,some (j,b)⟩) (hj:(ops[j]?).bind (·.dst)=some d) (hb:e.s d=.atom (.bool b)) (hs:Region.noSelect ops=true) (hf:Region.free .any ops listed i=true) (hr:(Region.ready .any ops listed).contains i=true) (hd:qc8 n dst)
  (hp:Pure C ⟨dst,op,ty,pos,aft,some (j,b)⟩ e HF lv) (k:LAny C n ops Q HF fuel (listed.setIfInBounds i true) (e.put dst lv) H):LAny C n ops Q HF (fuel+1) listed e H:=λ_ _ _ hE hH=>
 qsu hE hH hHF hi hs hf hr hd hp (by simp[Region.wanted,qcI hE hj hb]) k
theorem LAny.takeSkip{b c:Bool}{op:Op}
  (hi:ops[i]? = some ⟨dst,op,ty,pos,aft,some (j,c)⟩) (hj:(ops[j]?).bind (·.dst)=some d) (hb:e.s d=.atom (.bool b)) (hne:b=!c) (hs:Region.noSelect ops=true) (hf:Region.free .any ops listed i=true) (hr:(Region.ready .any ops listed).contains i=true) (hd:qc8 n dst)
  (k:LAny C n ops Q HF fuel (listed.setIfInBounds i true) (e.put dst (.atom undef)) H):LAny C n ops Q HF (fuel+1) listed e H:=λa w L hE hH=>
 wpAnyH_take hi hs hf hr (qo1 _ _) (.inr ⟨by subst hne;cases c <;> simp[Region.wanted,qcI hE hj hb],rfl⟩) (qe7.refl _ _ _) (k _ w L (hE.put hd qai) hH)
theorem aL(h:qay C n ops Q HF fuel listed e H)(hHF:HSub HF H):LAny C n ops Q HF fuel listed e H:=λa w L hE hH=>
 h w L a w L (λ_=>zNr _) (qe7.refl _ _ _) (λp hp=>(hH.objs p (hHF.mem p hp)).2.1) hE hH
theorem lD(hr:Region.ready .any ops listed=[])(h:Q .normal e H):qay C n ops Q HF fuel listed e H:=λ_ _ _ _ L _ _ _ hE hH=>
 wpAnyH_done hr ⟨e,H,L,Fr.refl _ _ _,hH,hE,h⟩ fuel
theorem cD [hm:TMixed C.P] {id:Nat} {l:List Oper} {m:Nat} (hl:m=l.length) (HF:Heap) (h:LAny C n l.toArray Q HF m (Array.replicate m false) e H):qah C n (.region id l.toArray true) Q e H:=λa w L hE hH=>by
 subst hl;have:=h a w.drew L (hE.mono (qef w L)) hH.drew;refine wp_region_held (S:=qe7 w.drew L HF) hm.out ?_;refine qcm (λx a' w' hq=>?_) _ _ _ _ (by simpa using this);obtain⟨e',H',L',h1,h2,h3,h4⟩:=hq;exact⟨e',H',L',h1.of_drew,h2,h3,h4⟩
end any
section pure
variable{C:Ctx}{e:Env}{H:Heap}{dst:Option Nat}{ty:TypeId}{pos:String}{aft:Array Edge}{g:Option (Nat×Bool)}{x y c a b:Operand}{xT:TypeId}{k:IntKind}{lv:LV}
theorem pM(hx:e.ev x=lv):Pure C ⟨dst,.move x,ty,pos,aft,g⟩ e H lv:=hx▸Pure.move
theorem pA(hx:e.ev x=lv):Pure C ⟨dst,.assign x,ty,pos,aft,g⟩ e H lv:=hx▸Pure.assign
theorem Pure.pickT(hc:e.ev c=bool true)(ha:e.ev a=lv):Pure C ⟨dst,.pick c a b,ty,pos,aft,g⟩ e H lv:=by
 have:=Pure.pick (C:=C) (H:=H) (dst:=dst) (ty:=ty) (pos:=pos) (aft:=aft) (g:=g) (a:=a) (b:=b) hc;simp only[if_true] at this;exact ha▸this
theorem Pure.pickF(hc:e.ev c=bool false)(hb:e.ev b=lv):Pure C ⟨dst,.pick c a b,ty,pos,aft,g⟩ e H lv:=by
 have:=Pure.pick (C:=C) (H:=H) (dst:=dst) (ty:=ty) (pos:=pos) (aft:=aft) (g:=g) (a:=a) (b:=b) hc;simp only[zRn,if_false] at this;exact hb▸this
theorem pR [TAgg C.P t n](hx:e.ev x=.ref cs)(hn:Nat.ble n cs.length=true)(hc:cs.take n=cs'):Pure C ⟨dst,.load t x,ty,pos,aft,g⟩ e H (.agg cs'):=by
 subst hc;exact Pure.loadRefAgg hx (by simpa using hn)
theorem pG [TAgg C.P t n]{b:Nat}(hx:e.ev x=ptr b off)(hm:(b,LObj.cells ty' cs)∈H)(hn:Nat.ble (off+n) cs.length=true)(hc:(cs.drop off).take n=cs') :
  Pure C ⟨dst,.load t x,ty,pos,aft,g⟩ e H (.agg cs'):=by
 subst hc;exact Pure.loadHAgg hx hm (by simpa using hn)
theorem xR [ht:TSlice C.P t el s]{n:Int}{el':LV}(hx:elems (e.ev x)=some es)(hy:e.ev y=int k n)(h0:0<=n)(hn:es[n.toNat]? = some el')(hc:el'.cells=cs)(hs:cs.length=s) :
  Pure C ⟨dst,.indexAddr t x y,ty,pos,aft,g⟩ e H (.ref cs):=by
 subst hc;exact Pure.indexAddr hx hy h0 hn hs
theorem Pure.field1{f:Nat} [TField C.P s f n](hx:e.ev x=.ref cs)(hc:cs.drop n=cs'):Pure C ⟨dst,.fieldAddr s x f,ty,pos,aft,g⟩ e H (.ref cs'):=by
 subst hc;exact Pure.fieldRef hx
theorem pB{t:TypeId}{pl:List (Nat×Nat)} [hs:TStruct C.P t pl] [hz:TZero C.P t zs](parts:List (Nat×Operand))
  (h:qp6 pl (zs.map .atom) (parts.map λp=>(p.1,e.ev p.2))=some cs):Pure C ⟨dst,.build t parts.toArray,ty,pos,aft,g⟩ e H (.agg cs):=Pure.build h
end pure
section steps
variable{C:Ctx}{e:Env}{H H':Heap}{dst:Option Nat}{op:Op}{ty:TypeId}{pos:String}{aft:Array Edge}{g:Option (Nat×Bool)}{x y:Operand}{K K':LV->Heap->Prop}{X:List PanicEntry->Heap->Prop}
theorem qae.conseq(h:qae C o e H K X)(hk:∀ lv H',K lv H'->∃ lv' H'',lv.Sub lv'/\HSub H'' H'/\K' lv' H''):qae C o e H K' X:=λρ w L h1 h2=>by
 have:=h ρ w L h1 h2
 have lf:∀ {w' v},Left C w L H w' v K->Left C w L H w' v K':=λh=>by
  obtain⟨lv,H',L',r1,r2,r3,r4⟩:=h;obtain⟨lv',H'',s1,s2,s3⟩:=hk _ _ r4;exact⟨lv',H'',L',r1.weak s2,r2.weak s2,s1 _ _ _ r3,s3⟩
 unfold qe2 at this ⊢;split at this;exact lf this;exact lf this;refine⟨this.1,this.2.mono λe w' he=>?_⟩
 cases e with
 |returned v=>exact lf he
 |panicked ch=>exact he
 |outgrown=>exact he
 exact this;exact this.elim
theorem qae.at1{p:Nat×LObj}(hp:Pick p H F)(h:qae C o e [p] (λlv H'=>K lv (H'++F)) (λch H'=>X ch (H'++F))):qae C o e H K X:=qae.frame (H:=[p]) hp h
theorem qae.at0(h:qae C o e [] (λlv H'=>K lv (H'++H)) (λch H'=>X ch (H'++H))):qae C o e H K X:=qae.frame (H:=[]) (List.Perm.refl _) h
theorem sA{t:TypeId} [hz:TZero C.P t zs](hk:∀ b,K (ptr b 0) ((b,.cells t (zs.map .atom))::H)):qae C ⟨dst,.alloc t,ty,pos,aft,g⟩ e H K X:=qae.at0 (qae.alloc hk)
theorem sB{t:TypeId}(hx:(e.ev x).cells? = some cs)(hk:∀ b,K (ptr b 0) ((b,.cells t cs)::H)):qae C ⟨dst,.box t x,ty,pos,aft,g⟩ e H K X:=qae.at0 (qae.box hx hk)
theorem sL [ht:TSlice C.P t el s] [hz:TZero C.P el zs](xs:List Operand)(hes:xs.map e.ev=es)(hok:qdw s es){parts:List (Nat×Operand)}(hp:parts=(List.range xs.length).zip xs)(hlen:len=xs.length)
  (hsz:Nat.ble (len * s) 16777216=true) (hk:K (.list es) H):qae C ⟨dst,.buildSlice t len parts.toArray,ty,pos,aft,g⟩ e H K X:=by
 subst hes;refine qae.at0 (qae.conseq (K:=λlv H'=>∃ b,lv=.app b len s (xs.map e.ev)) (qae.buildSlice hok (by subst hlen;simpa using hsz) hp hlen λb=>⟨b,rfl⟩) ?_);rintro lv H' ⟨b,rfl⟩;exact⟨_,[],LV.Sub.app _ _ _ _,HSub.nil _,hk⟩
theorem S.litA [ht:TSlice C.P t el s] [hz:TZero C.P el zs](xs:List Operand)(hes:xs.map e.ev=es)(hok:qdw s es){parts:List (Nat×Operand)}(hp:parts=(List.range xs.length).zip xs)(hlen:len=xs.length)
  (hsz:Nat.ble (len * s) 16777216=true) (hk:∀ b,K (.app b len s es) ((b,.row (len * s))::H)):qae C ⟨dst,.buildSlice t len parts.toArray,ty,pos,aft,g⟩ e H K X:=by
 subst hes;exact qae.at0 (qae.buildSlice hok (by subst hlen;simpa using hsz) hp hlen λb=>hk b)
theorem sS [ht:TSize C.P t n](hx:e.ev x=ptr b off)(hp:Pick (b,.cells ty' cs) H F)(hy:(e.ev y).cells? = some vs)(hn:vs.length=n)(hl:Nat.ble (off+n) cs.length=true)(hok:vs.all qcP=true)
  (hc:setL cs off vs=cs') (hk:K (.atom undef) ((b,.cells ty' cs')::F)):qae C ⟨dst,.store t x y,ty,pos,aft,g⟩ e H K X:=by
 subst hc;exact qae.at1 hp (qae.store hx hy hn (by simpa using hl) hok hk)
theorem S.appNil [ht:TSlice C.P sT el s] [hr:TRow C.P el s bytes] [hx2:TSlice C.P xT e2 s2]{ms:List LV}
  (hx:e.ev x=qab) (hy:elems (e.ev y)=some ms) (hne:ms≠[]) (hs:∀ v∈ms,v.cells.length=s) (hroom:ms.length * bytes<=140737488355328)
  (hk:∀ b cap,K (.app b cap s ms) ((b,.row (ms.length * s))::H)):qae C ⟨dst,.call { callee:=.builtin .append,args:=#[x,y],argTypes:=#[sT,xT] },ty,pos,aft,g⟩ e H K X:=
 qae.at0 (qae.appendNil rfl ⟨e2,hx2.und⟩ hx hy hne hs hroom λb cap=>hk b cap)
theorem S.app{sT xT el s bytes:Nat} [ht:TSlice C.P sT el s] [hr:TRow C.P el s bytes]{e2 s2:Nat} [hx2:TSlice C.P xT e2 s2]{b cap n:Nat}{es ms:List LV}{F:Heap}
  (hx:e.ev x=.app b cap s es) (hp:Pick (b,.row n) H F) (hn:n=es.length * s) (hy:elems (e.ev y)=some ms) (hs:∀ v∈ms,v.cells.length=s) (hok:(ms.flatMap LV.cells).all qcP=true) (hroom:(es.length+ms.length) * bytes<=140737488355328)
  (hk:∀ b' cap',K (.app b' cap' s (es++ms)) ((b',.row ((es++ms).length * s))::F)):qae C ⟨dst,.call { callee:=.builtin .append,args:=#[x,y],argTypes:=#[sT,xT] },ty,pos,aft,g⟩ e H K X:=
 qae.at1 hp (qae.appendApp rfl ⟨e2,hx2.und⟩ hx hn hy hs hok hroom λb' cap'=>hk b' cap')
theorem S.appNilNil [ht:TSlice C.P sT el s] [hx2:TSlice C.P xT e2 s2](hx:e.ev x=qab)(hy:elems (e.ev y)=some [])(hk:K qab H) :
  qae C ⟨dst,.call { callee:=.builtin .append,args:=#[x,y],argTypes:=#[sT,xT] },ty,pos,aft,g⟩ e H K X:=qae.appendNilNil rfl ⟨e2,hx2.und⟩ hx hy hk
inductive Acc (s:Nat):LV->List LV->Heap->Heap->Prop
 |nil {F:Heap}:Acc s qab [] F F
 |row {b cap:Nat} {es:List LV} {F:Heap}:Acc s (.app b cap s es) es ((b,.row (es.length * s))::F) F
theorem Acc.sub(h:Acc s lv es H F):lv.Sub (.list es):=by
 cases h with
 |nil=>exact vN
 |row=>exact LV.Sub.app _ _ _ _
theorem Acc.hsub(h:Acc s lv es H F):HSub F H:=by
 cases h with
 |nil=>exact zhR _
 |row=>exact zhD (zhR _)
theorem Acc.elems{s:Nat}{lv:LV}{es:List LV}{H F:Heap}(h:Acc s lv es H F):GL.elems lv=some es:=by
 cases h <;> rfl
theorem S.acc [ht:TSlice C.P sT el s] [hr:TRow C.P el s bytes] [hx2:TSlice C.P xT e2 s2]{v:LV}{ms:List LV}
  (hx:e.ev x=v) (ha:Acc s v es H F) (hy:GL.elems (e.ev y)=some ms) (hs:∀ v∈ms,v.cells.length=s) (hok:(ms.flatMap LV.cells).all qcP=true) (hroom:(es.length+ms.length) * bytes<=140737488355328)
  (hk:∀ v' H',Acc s v' (es++ms) H' F->K v' H'):qae C ⟨dst,.call { callee:=.builtin .append,args:=#[x,y],argTypes:=#[sT,xT] },ty,pos,aft,g⟩ e H K X:=by
 cases ha with
 |nil=>
  by_cases hne:ms=[]
  subst hne;exact S.appNilNil hx hy (hk _ _ (by simpa using Acc.nil));refine S.appNil hx hy hne hs (by simpa using hroom) λb cap=>hk _ _ ?_
  exact Acc.row
 |row=>exact S.app hx pH rfl hy hs hok hroom λb' cap'=>hk _ _ Acc.row
theorem S.call0{f:FuncId} [TEnter C.P f](args:List Operand)(has:args.map e.ev=avs)
  (hc:LCalls C f avs [] R) (hk:∀ v H',R (.ret v) H'->K v (H'++H)) (hx:∀ ch H',R (.panic ch) H'->X ch (H'++H)) :
  qae C ⟨dst,.call { callee:=.value (.func f),args:=args.toArray,argTypes:=ats },ty,pos,aft,g⟩ e H K X:=by
 subst has;exact qae.at0 (qae.call hc hk hx)
theorem S.call1{f:FuncId} [TEnter C.P f](args:List Operand){p:Nat×LObj}(has:args.map e.ev=avs)(hp:Pick p H F)
  (hc:LCalls C f avs [p] R) (hk:∀ v H',R (.ret v) H'->K v (H'++F)) (hx:∀ ch H',R (.panic ch) H'->X ch (H'++F)) :
  qae C ⟨dst,.call { callee:=.value (.func f),args:=args.toArray,argTypes:=ats },ty,pos,aft,g⟩ e H K X:=by
 subst has;exact qae.at1 hp (qae.call hc hk hx)
theorem S.callH{f:FuncId} [TEnter C.P f](args:List Operand)(has:args.map e.ev=avs)(hp:H.Perm (H1++F))
  (hc:LCalls C f avs H1 R) (hk:∀ v H',R (.ret v) H'->K v (H'++F)) (hx:∀ ch H',R (.panic ch) H'->X ch (H'++F)) :
  qae C ⟨dst,.call { callee:=.value (.func f),args:=args.toArray,argTypes:=ats },ty,pos,aft,g⟩ e H K X:=by
 subst has;exact qae.frame hp (qae.call hc hk hx)
theorem S.callV{fo:Operand}{f:FuncId} [TEnter C.P f]{first caps:Array Value}(args:List Operand){ats:Array TypeId}{avs:List LV}{R:LRes->Heap->Prop}{H1 F:Heap}(hf:e.ev fo=.atom (.func (.func f) first caps))
  (has:first.toList.map .atom++args.map e.ev++caps.toList.map .atom=avs) (hp:H.Perm (H1++F)) (hc:LCalls C f avs H1 R) (hk:∀ v H',R (.ret v) H'->K v (H'++F)) (hx:∀ ch H',R (.panic ch) H'->X ch (H'++F)) :
  qae C ⟨dst,.call { callee:=.value fo,args:=args.toArray,argTypes:=ats },ty,pos,aft,g⟩ e H K X:=by
 subst has;exact qae.frame hp (qae.callV hf hc hk hx)
end steps
section ret
variable{C:Ctx}{n:Nat}{e:Env}{H H':Heap}{R:LRes->Heap->Prop}
theorem rN:qbQ C n e H [] []:=trivial
theorem rC{r:ResultVar}{v:LV}(h:qcU C n e H r v)(k:qbQ C n e H rs vs):qbQ C n e H (r::rs) (v::vs):=⟨h,k⟩
theorem rR(hd:e.ds=[])(h:qbQ C n e H rs vs)(hH:HSub H' H)(hR:R (.ret (qbE vs)) H'):qad C n rs R .ret e H:=⟨hd,vs,H',h,hH,hR⟩
theorem rO(hd:e.ds=[])(h:qbQ C n e H rs vs)(hH:HSub H' H)(hR:R (.ret (qbE vs)) H'):qad C n rs R .normal e H:=⟨hd,vs,H',h,hH,hR⟩
theorem qad.panic{rs:List ResultVar}{ch:List PanicEntry}(hd:e.ds=[])(hH:HSub H' H)(hR:R (.panic ch) H'):qad C n rs R (.panic ch) e H:=⟨hd,H',hH,hR⟩
theorem rA{a:Nat} [TAgg C.P t k](hx:e.s a=ptr b off)(hm:(b,LObj.cells ty' cs)∈H)(hn:Nat.ble (off+k) cs.length=true)(hs:(LV.agg ((cs.drop off).take k)).Sub lv):qcU C n e H (.cell a t) lv:=λac w L hE hH=>by
 obtain⟨xs,h1,h2⟩:=hH.cells hm;have hl:=h2.length;have hn':off+k<=cs.length:=by simpa using hn
 have hv:=hE.vals a;rw[hx] at hv;simp only[Rep] at hv;refine⟨.agg ((xs.drop off).take k).toArray,?_,hs _ _ _ (by simp only[Rep];exact⟨_,rfl,(h2.drop off).take k⟩)⟩;have hlen:((xs.drop off).take k).length=k:=by simp;omega
 simp only[qbm,hv,asAddr,zRt,zRu,zRv]
 exact qgB (t:=t) (w:=w) (b:=b) (off:=off) hlen (λj y hy=>by
  rw[List.getElem?_take] at hy;split at hy;simpa [World.cell?,h1,List.getElem?_drop] using hy
  cases hy)
theorem qcU.cellOne{a:Nat} [TOne C.P t]{c:LV}(hx:e.s a=ptr b off)(hm:(b,LObj.cells ty' cs)∈H)(hc:cs[off]? = some c)(hs:c.Sub lv):qcU C n e H (.cell a t) lv:=λac w L hE hH=>by
 obtain⟨xs,h1,h2⟩:=hH.cells hm;obtain⟨v,h3,h4⟩:=h2.get hc;have hv:=hE.vals a;rw[hx] at hv;simp only[Rep] at hv;refine⟨v,?_,hs _ _ _ h4⟩;have hc':w.cell? ⟨b,off,none⟩=some v:=by simp[World.cell?,h1,h3]
 simp only[qbm,hv,asAddr,zRt,zRu,zRv];exact qgu hc'
end ret
theorem cJ{fn:Func}{args:List LV}(hf:C.P.funcs[f]? = some fn)(h:qah C n c (qad C n fn.results.toList R) (qfy args) H)(hb:fn.body=some c:=by exact rfl)(hn:fn.ntmps=n:=by exact rfl)(h3:Nat.ble fn.results.size 3=true:=by exact rfl)(hl:Nat.ble args.length n=true:=by exact rfl):LCalls C f args H R:=cI hf hb hn h3 hl h
theorem zhr:HSub H H:=zhR _
theorem zhn:HSub [] H:=HSub.nil _
theorem zhp{p:Nat×LObj}:HSub [p] (p::H):=zhP pH (HSub.nil _)
theorem zsr{v:LV}:v.Sub v:=vR _
theorem zp1{p a:Nat×LObj}:Pick p (a::p::F) (a::F):=(pT pH)
theorem zp2{p a b:Nat×LObj}:Pick p (a::b::p::F) (a::b::F):=(pT (pT pH))
theorem zp3{p a b c:Nat×LObj}:Pick p (a::b::c::p::F) (a::b::c::F):=(pT (pT (pT pH)))
theorem zp4{p a b c d:Nat×LObj}:Pick p (a::b::c::d::p::F) (a::b::c::d::F):=(pT (pT (pT (pT pH))))
theorem zp5{p a b c d e:Nat×LObj}:Pick p (a::b::c::d::e::p::F) (a::b::c::d::e::F):=(pT (pT (pT (pT (pT pH)))))
theorem zp6{p a b c d e f:Nat×LObj}:Pick p (a::b::c::d::e::f::p::F) (a::b::c::d::e::f::F):=(pT (pT (pT (pT (pT (pT pH))))))
theorem zp7{p a b c d e f g:Nat×LObj}:Pick p (a::b::c::d::e::f::g::p::F) (a::b::c::d::e::f::g::F):=(pT (pT (pT (pT (pT (pT (pT pH)))))))
theorem zp8{p a b c d e f g h:Nat×LObj}:Pick p (a::b::c::d::e::f::g::h::p::F) (a::b::c::d::e::f::g::h::F):=(pT (pT (pT (pT (pT (pT (pT (pT pH))))))))
theorem zrt(h:e.s t=.atom v):qcU C n e H (.tmp t) (.atom v):=rT h (vR _)
theorem zra(h:e.s t=.atom v):qbQ C n e H [.tmp t] [.atom v]:=rC (rT h (vR _)) rN
@[reducible] def Ret(v:LV):LRes->Heap->Prop:=λr H=>r=.ret v/\H=[]
@[reducible] def qgV(p:LV->Prop):LRes->Heap->Prop:=λr H=>∃ v,r=.ret v/\p v/\H=[]
section
variable{C:Ctx}{e:Env}{H:Heap}{dst:Option Nat}{ty:TypeId}{pos:String}{aft:Array Edge}{g:Option (Nat×Bool)}{K:LV->Heap->Prop}{X:List PanicEntry->Heap->Prop}
theorem sF{f:FuncId} [TEnter C.P f](args:List Operand)(has:args.map e.ev=avs)(hc:LCalls C f avs [] (Ret lv))(hk:K lv H) :
  qae C ⟨dst,.call { callee:=.value (.func f),args:=args.toArray,argTypes:=ats },ty,pos,aft,g⟩ e H K X:=
 S.call0 args has hc (by rintro v H' ⟨h,rfl⟩;cases h;exact hk) (by rintro ch H' ⟨h,_⟩;cases h)
theorem S.fnIf{f:FuncId} [TEnter C.P f](args:List Operand){p:LV->Prop}(has:args.map e.ev=avs)(hc:LCalls C f avs [] (qgV p))(hk:∀ lv,p lv->K lv H) :
  qae C ⟨dst,.call { callee:=.value (.func f),args:=args.toArray,argTypes:=ats },ty,pos,aft,g⟩ e H K X:=
 S.call0 args has hc (by rintro v H' ⟨u,h,hp,rfl⟩;cases h;exact hk _ hp) (by rintro ch H' ⟨u,h,_⟩;cases h)
theorem S.fnV{fo:Operand} [TEnter C.P f]{first caps:Array Value}(args:List Operand)(hf:e.ev fo=.atom (.func (.func f) first caps))
  (has:first.toList.map .atom++args.map e.ev++caps.toList.map .atom=avs) (hc:LCalls C f avs [] (Ret lv)) (hk:K lv H) :
  qae C ⟨dst,.call { callee:=.value fo,args:=args.toArray,argTypes:=ats },ty,pos,aft,g⟩ e H K X:=
 S.callV (H1:=[]) (F:=H) args hf has zpr hc (by rintro v H' ⟨h,rfl⟩;cases h;exact hk) (by rintro ch H' ⟨h,_⟩;cases h)
theorem qak(hd:e.ds=[])(h:qbQ C n e H rs vs)(hv:qbE vs=lv):qad C n rs (Ret lv) .ret e H:=
 rR hd h zhn ⟨by rw[hv],rfl⟩
theorem qcf{p:LV->Prop}(hd:e.ds=[])(h:qbQ C n e H rs vs)(hv:p (qbE vs)):qad C n rs (qgV p) .ret e H:=
 rR hd h zhn ⟨_,rfl,hv,rfl⟩
end
theorem qiQ(hH:RelH C w L [])(h:Below w.heap.size w w'):Fr (keys []) w L w' L []/\RelH C w' L []:=by
 refine⟨⟨h.os,h.tape,h.output,⟨h.size,λb hb=>qbM (h.block b hb),λb i hi=>?_,λ_=>zNr _⟩,λb hb _=>h.block b hb,λ_ _ _=>rfl,by simp⟩,
  ⟨hH.base.trans (h.mono hH.b0),hH.lbase,zNt hH.b0 h.size,λb hb=>hH.wf b (zNt h.size hb),List.nodup_nil,by simp⟩⟩
 have hb:b<w.heap.size:=by
  rcases Nat.lt_or_ge b w.heap.size with h1|h1;exact h1;have:=hH.wf b h1;omega
 exact cell_of_heap (h.block b hb) i
theorem LCalls.of_below{vs:List Value}{p:Value->Prop}
  (h:∀ w,Below C.B0 C.w0 w->Calls C.P f vs.toArray w (λe w'=>∃ v,e=.returned v/\p v/\Below w.heap.size w w')):LCalls C f (vs.map .atom) [] (λr H=>∃ v,r=.ret (.atom v)/\p v/\H=[]):=λxs w L hv hH=>by
 have hx:xs=vs:=by
  clear h hH
  induction vs generalizing xs with
  |nil=>simpa [RepL] using hv
  |cons v vs ih=>
   simp only[zMc,RepL,Rep] at hv;obtain⟨y,ys,rfl,rfl,hv⟩:=hv;rw[ih _ hv]
 subst hx;refine(h w hH.base).mono λe w' he=>?_;obtain⟨v,rfl,hp,hb⟩:=he;obtain⟨h1,h2⟩:=qiQ hH hb;exact⟨.atom v,[],L,h1,h2,qai,v,rfl,hp,rfl⟩
theorem LCalls.of_belowT{vs:List Value}{p:List Value->Prop}
  (h:∀ w,Below C.B0 C.w0 w->Calls C.P f vs.toArray w (λe w'=>∃ us:List Value,e=.returned (.tuple us.toArray)/\p us/\Below w.heap.size w w')):LCalls C f (vs.map .atom) [] (qgV λlv=>∃ us,p us/\lv=.tuple (us.map .atom)):=λxs w L hv hH=>by
 have hx:xs=vs:=by
  clear h hH
  induction vs generalizing xs with
  |nil=>simpa [RepL] using hv
  |cons v vs ih=>
   simp only[zMc,RepL,Rep] at hv;obtain⟨y,ys,rfl,rfl,hv⟩:=hv;rw[ih _ hv]
 subst hx;refine(h w hH.base).mono λe w' he=>?_;obtain⟨us,rfl,hp,hb⟩:=he;obtain⟨h1,h2⟩:=qiQ hH hb;exact⟨.tuple (us.map .atom),[],L,h1,h2,by simp only[Rep];exact⟨us,rfl,qa1 _⟩,_,rfl,⟨us,hp,rfl⟩,rfl⟩
theorem LCalls.ret_of{vs:List Value}
  (h:∀ w,Below C.B0 C.w0 w->Calls C.P f vs.toArray w (λe w'=>e=.returned u/\Below w.heap.size w w')):LCalls C f (vs.map .atom) [] (Ret (.atom u)):=
 LCalls.mono (LCalls.of_below (p:=λv=>v=u) λw hw=>(h w hw).mono λe w' he=>⟨u,he.1,rfl,he.2⟩) λr H' ⟨v,h1,h2,h3⟩=>⟨by rw[h1,h2],h3⟩
def qcF(e:Env):List (Nat×LV)->Prop
 |[]=>True
 |(d,v)::r=>e.s d=v/\qcF e r
theorem qcF.mem{e:Env}:∀ {l:List (Nat×LV)},qcF e l->∀ p∈l,e.s p.1=p.2
 |[],_,p,hp=>by cases hp
 |(d,v)::r,h,p,hp=>by
  rcases zMi.1 hp with rfl|hp;exact h.1;exact qcF.mem h.2 p hp
def qvV(I:Nat->List (Nat×LV)->Heap->Prop)(k:Nat)(ds:List Deferred)(e':Env)(H':Heap):Prop:=
 ∃ m l' H'',m<k/\I m l' H''/\qcF e' l'/\HSub H'' H'/\e'.ds=ds
theorem oL{Q:Post}{H:Heap}(I:Nat->List (Nat×LV)->Heap->Prop)(h0:∃ k l H0,I k l H0/\qcF e l/\HSub H0 H)
  (round:∀ k l H,I k l H->∀ j:Env,j.ds=e.ds->qah C n c (qaw (qvV I k e.ds) Q) (Env.slots j l) H):qah C n (.loop c) Q e H:=by
 obtain⟨k,l,H0,h0,h1,h2⟩:=h0;refine cW h2 (qah.loop (λk e' H'=>∃ l H0,I k l H0/\qcF e' l/\HSub H0 H'/\e'.ds=e.ds) k ⟨l,H0,h0,h1,zhR _,rfl⟩ ?_);rintro k e' H' ⟨l,H0,g0,g1,g2,g3⟩;have:=round k l H0 g0 e' g3;rw[Env.slots_self g1.mem] at this;refine cW g2 (qah.conseq this ?_);rintro ex e2 H2 hq
 cases ex with
 |normal=>
  obtain⟨m,l',H3,r1,r2,r3,r4,r5⟩:=hq
  exact⟨m,r1,l',H3,r2,r3,r4,r5⟩
 |exit id=>exact hq
 |goto id=>exact hq
 |ret=>exact hq
 |panic ch=>exact hq
 |outgrown=>exact hq
theorem qau{a b:Bool}(h:a=b):bool a=bool b:=by rw[h]
def At(l:List (Nat×LV))(H1:Heap)(ds:List Deferred)(e':Env)(H':Heap):Prop:=qcF e' l/\H'=H1/\e'.ds=ds
theorem LOps.cutTo{Q:Post}{k:Env->Heap->Prop}(l:List (Nat×LV))(H1:Heap)
  (hx:LOps C n ops (qaw (At l H1 e.ds) Q) rest e H) (hy:∀ j:Env,j.ds=e.ds->k (Env.slots j l) H1):LOps C n ops (qaw k Q) rest e H:=by
 refine LOps.conseq hx ?_;rintro ex e' H' hq
 cases ex with
 |normal=>
  obtain⟨h1,rfl,h3⟩:=hq;have:=hy e' h3;rw[Env.slots_self h1.mem] at this
  exact this
 |exit id=>exact hq
 |goto id=>exact hq
 |ret=>exact hq
 |panic ch=>exact hq
 |outgrown=>exact hq
theorem qah.cutTo{Q:Post}{k:Env->Heap->Prop}(l:List (Nat×LV))(H1:Heap)
  (hx:qah C n c (qaw (At l H1 e.ds) Q) e H) (hy:∀ j:Env,j.ds=e.ds->k (Env.slots j l) H1):qah C n c (qaw k Q) e H:=by
 refine qah.conseq hx ?_;rintro ex e' H' hq
 cases ex with
 |normal=>
  obtain⟨h1,rfl,h3⟩:=hq;have:=hy e' h3;rw[Env.slots_self h1.mem] at this
  exact this
 |exit id=>exact hq
 |goto id=>exact hq
 |ret=>exact hq
 |panic ch=>exact hq
 |outgrown=>exact hq
theorem LOps.cut{Q:Post}{k:Env->Heap->Prop}(l:List (Nat×LV))
  (hx:LOps C n ops (qaw (At l H e.ds) Q) rest e H) (hy:∀ j:Env,j.ds=e.ds->k (Env.slots j l) H):LOps C n ops (qaw k Q) rest e H:=LOps.cutTo l H hx hy
theorem cC{Q:Post}{k:Env->Heap->Prop}(l:List (Nat×LV))
  (hx:qah C n c (qaw (At l H e.ds) Q) e H) (hy:∀ j:Env,j.ds=e.ds->k (Env.slots j l) H):qah C n c (qaw k Q) e H:=qah.cutTo l H hx hy
theorem qlD{a:Act}(hE:RelE n a e w L)(hj:(ops[j]?).bind (·.dst)=some d)(hb:e.s d=.atom undef):yielded ops a.tmps j=none:=by
 have h:=hE.vals d;rw[hb] at h;simp only[Rep] at h;unfold yielded;rw[hj];simp only[Option.bind_some];rw[Array.getD_eq_getD_getElem?] at h
 cases hx:a.tmps[d]? with
 |none=>rfl
 |some x=>rw[hx] at h;simp only[Option.getD_some] at h;subst h;rfl
theorem LOps.skipU{Q:Post}{op:Op}{c:Bool}
  (hj:(ops[j]?).bind (·.dst)=some d) (hb:e.s d=.atom undef) (hd:qc8 n dst)
  (k:LOps C n ops Q rest (e.put dst (.atom undef)) H):LOps C n ops Q (⟨dst,op,ty,pos,aft,some (j,c)⟩::rest) e H:=λa w L hE hH=>by
 unfold wpList;rw[zn (by simp[Region.wanted,qlD hE hj hb])];exact k _ w L (hE.put hd (by simp only[Rep])) hH
theorem qao{k:IntKind}{b:Int}(h:a=b):int k a=int k b:=by rw[h]
class TIface (P:Program) (t:TypeId):Prop where
 und:∃ ms,P.underlying t=some (.interface ms)
def qpE(P:Program)(t:Nat):Bool:=match P.underlying t with|some (.interface _)=>true|_=>false
theorem TIface.of(h:qpE P t=true):TIface P t:=by
 unfold qpE at h;refine⟨?_⟩
 cases hu:P.underlying t with
 |none=>rw[hu] at h;simp at h
 |some d=>rw[hu] at h;cases d <;> simp_all
section
variable{C:Ctx}{e:Env}{H:Heap}{dst:Option Nat}{ty:TypeId}{pos:String}{aft:Array Edge}{g:Option (Nat×Bool)}{xT yT:TypeId}{x:Operand}
theorem qij(t:TypeId)(x y:Value):Op.equal t x y=Op.equalIn (9999+1) t x y:=rfl
theorem qlp{t:TypeId} [h:TIface P t](w:World):(Op.equal t .nilIface .nilIface).run P w=.ok true w:=by
 obtain⟨ms,hu⟩:=h.und;rw[qij,Op.equalIn];simp only[zRt,qaa hu,zRv,zRu]
theorem qkl{t:TypeId} [h:TIface P t](u:TypeId)(p:Value)(w:World):(Op.equal t (.iface u p) .nilIface).run P w=.ok false w:=by
 obtain⟨ms,hu⟩:=h.und;rw[qij,Op.equalIn];simp only[zRt,qaa hu,zRv,zRu]
theorem Pure.nilNeqNil [TIface C.P xT] (hx:e.ev x=.atom .nilIface):Pure C ⟨dst,.binOp .neq xT x (.const .nilIface) yT,ty,pos,aft,g⟩ e H (bool false):=
 .of_any λρ _ _ h=>⟨_,qai,λw'=>by
  have h1:=qag h hx;have h2:=qag h (x:=.const .nilIface) rfl;have he:eqGuard .neq xT x (.const .nilIface) .nilIface .nilIface=Pure.pure ():=by simp[eqGuard]
  have hb:binOp .neq xT .nilIface .nilIface=(do Pure.pure (.bool (!(<-Op.equal xT .nilIface .nilIface)))):=rfl
  simp only[execOp,h1,h2,he,hb,zRt,zRu,zRv,qlp,Bool.not_true]⟩
theorem Pure.ifaceNeqNil [TIface C.P xT] {u:TypeId} {p:Value} (hx:e.ev x=.atom (.iface u p)):Pure C ⟨dst,.binOp .neq xT x (.const .nilIface) yT,ty,pos,aft,g⟩ e H (bool true):=
 .of_any λρ _ _ h=>⟨_,qai,λw'=>by
  have h1:=qag h hx;have h2:=qag h (x:=.const .nilIface) rfl;have he:eqGuard .neq xT x (.const .nilIface) (.iface u p) .nilIface=Pure.pure ():=by simp[eqGuard]
  have hb:binOp .neq xT (.iface u p) .nilIface=(do Pure.pure (.bool (!(<-Op.equal xT (.iface u p) .nilIface)))):=rfl
  simp only[execOp,h1,h2,he,hb,zRt,zRu,zRv,qkl,Bool.not_false]⟩
theorem qm7{a b:List UInt8}(h:a=b):str a=str b:=by rw[h]
theorem Pure.cvt{k k0 k':IntKind}{s d:TypeId}{n:Int} [hs:TKind C.P s k0] [hd:TKind C.P d k'](hx:e.ev x=int k n):Pure C ⟨dst,.convert s d x,ty,pos,aft,g⟩ e H (int k' (k'.wrap n)):=Pure.convInt ⟨_,hs.und⟩ hx
end
end Go.GL
namespace Go.GL
open Go.RowKit
variable{C:Ctx}{F H H1 HF:Heap}{P:Program}{Q:Post}{aft:Array Edge}{b fuel i l n:Nat}{dst:Option Nat}{e:Env}{listed:Array Bool}{lv:LV}{ops:Array Oper}{pos:String}{ty:TypeId}{w:World}
section any
variable{C:Ctx}{n:Nat}{ops:Array Oper}{Q:Post}{HF:Heap}{fuel:Nat}{listed:Array Bool}{e:Env}{H:Heap}
def qal(C:Ctx)(n:Nat)(ops:Array Oper)(Q:Post)(HF:Heap)(fuel:Nat)(listed:Array Bool)(e:Env)(H:Heap)(i:Nat):Prop:=
 ∀ w0 L0 a w L,(∀ b,L0 b<=L b)->qe7 w0 L0 HF w->(∀ p∈HF,p.1<w.heap.size)->RelE n a e w L->RelH C w L H ->
  wpOp C.P ops (lift C n w L (keys H) Q) i (λa' w'=>qe7 w0 L0 HF w'/\wpAnyH C.P .any ops (lift C n w L (keys H) Q) (qe7 w0 L0 HF) fuel (listed.setIfInBounds i true) a' w') a w
theorem qay.all{is:List Nat}(hr:Region.ready .any ops listed=is)(hne:is≠[])(h:∀ i∈is,qal C n ops Q HF fuel listed e H i):qay C n ops Q HF (fuel+1) listed e H:=λw0 L0 a w L hL hA hsz hE hH=>
 wpAnyH_all hr hne λj hj=>h j hj w0 L0 a w L hL hA hsz hE hH
theorem lS{op:Op}{g:Option (Nat×Bool)}(hi:ops[i]? = some ⟨dst,op,ty,pos,aft,g⟩)(hg:g=none∨∃ j b d,g=some (j,b)/\(ops[j]?).bind (·.dst)=some d/\e.s d=.atom (.bool b))(hd:qc8 n dst)
  (p:H.Perm (H1++F)) (hHF:HSub HF F)
  (h:qae C ⟨dst,op,ty,pos,aft,g⟩ e H1 (λlv H'=>qay C n ops Q HF fuel (listed.setIfInBounds i true) (e.put dst lv) (H'++F)) (λch H'=>∀ e',e'.ds=e.ds->Q (.panic ch) e' (H'++F))) :
  qal C n ops Q HF fuel listed e H i:=λw0 L0 a w L hL hA hsz hE hH=>by
 have hH':=hH.perm p;have hn:(keys H1++keys F).Nodup:=by simpa [keys] using hH'.nodup
 have hdis:∀ q∈HF,q.1 ∉ keys H1:=λq hq hm=>(zRc hn).2.2 _ hm _ (List.mem_map_of_mem (hHF.mem q hq)) rfl
 have hw:Region.wanted ⟨dst,op,ty,pos,aft,g⟩ (yielded ops a.tmps)=true:=by
  rcases hg with rfl|⟨j,b,d,rfl,hj,hb⟩;simp[Region.wanted];simp[Region.wanted,qcI hE hj hb]
 unfold wpOp;rw[hi];simp only;rw[zp hw];refine .inl (qsL (H:=H1) h hd hE hH'.left (λlv H' L' w' a' h1 h2 h3 h4=>?_) (λch H' L' w' h1 h2 h3=>?_));have hfr:=hH'.frame h1 h2;have hag:qe7 w0 L0 HF w':=⟨λq hq=>(h1.block q.1 (hsz q hq) (hdis q hq)).trans (hA.1 q hq),λb i hi=>(h1.ext.live b i (Nat.lt_of_lt_of_le hi (hL b))).trans (hA.2 b i hi)⟩;exact⟨hag,qcm (λ_ _ _=>qdR (hfr.2.perm p.symm)) _ _ _ _ (h4 w0 L0 a' w' L' (λb=>zNt (hL b) (h1.ext.mono b)) hag (λq hq=>Nat.lt_of_lt_of_le (hsz q hq) h1.ext.size) h3 hfr.1)⟩;have hfr:=hH'.frame h1 h2;exact⟨e,H'++F,L',hfr.2.perm p.symm,hfr.1,hE.ds,h3 e rfl⟩
theorem zl1(hr:Region.ready .any ops listed=[i])(h:qal C n ops Q HF fuel listed e H i):qay C n ops Q HF (fuel+1) listed e H:=
 qay.all hr (by simp) λj hj=>by
  obtain rfl:=zRa hj;exact h
theorem zl2{j:Nat}(hr:Region.ready .any ops listed=[i,j])(h:qal C n ops Q HF fuel listed e H i)(h':qal C n ops Q HF fuel listed e H j):qay C n ops Q HF (fuel+1) listed e H:=
 qay.all hr (by simp) λk hk=>by
  rcases zMi.1 hk with rfl|hk;exact h;obtain rfl:=zRa hk;exact h'
theorem lW{op:Op}{g:Option (Nat×Bool)}(hi:ops[i]? = some ⟨dst,op,ty,pos,aft,g⟩)(hg:g=none∨∃ j b d,g=some (j,b)/\(ops[j]?).bind (·.dst)=some d/\e.s d=.atom (.bool b))(hd:qc8 n dst)
  (h:qae C ⟨dst,op,ty,pos,aft,g⟩ e H (λlv H'=>qay C n ops Q [] fuel (listed.setIfInBounds i true) (e.put dst lv) H') (λch H'=>∀ e',e'.ds=e.ds->Q (.panic ch) e' H')) :
  qal C n ops Q [] fuel listed e H i:=lS (H1:=H) (F:=[]) hi hg hd (by simp) zhn (by simpa using h)
end any
theorem LQ.bcase{K:Env->Prop}{rest:List Oper}(d:Nat){b:Bool}(hb:e.s d=bool b)(ht:b=true->LQ C n ops K rest (e.upd d (bool true)) H)(hf:b=false->LQ C n ops K rest (e.upd d (bool false)) H):LQ C n ops K rest e H:=by
 cases b;have:=hf rfl;rwa [Env.upd_self hb] at this;have:=ht rfl;rwa [Env.upd_self hb] at this
section pure
variable{C:Ctx}{e:Env}{H:Heap}{dst:Option Nat}{ty:TypeId}{pos:String}{aft:Array Edge}{g:Option (Nat×Bool)}{xT yT:TypeId}{x y:Operand}{k:IntKind}{a b:Int}
theorem Pure.quo(hx:e.ev x=int .i64 a)(hy:e.ev y=int .i64 b)(hb:0<b)(ha:0<=a)(h:a<=9223372036854775807):Pure C ⟨dst,.binOp .quo xT x y yT,ty,pos,aft,g⟩ e H (int .i64 (a / b)):=
 .of_any λ_ _ _ h'=>⟨_,qai,qev (qag h' hx) (qag h' hy) (by simp) (by simp) (s:=Op.intDiv .quo .i64 a b) (by simp only[binOp,ne_eq,not_true_eq_false,if_false]) (λw=>by
  have h1:a.tdiv b=a / b:=Int.tdiv_eq_ediv_of_nonneg ha;have h2:0<=a / b:=Int.ediv_nonneg ha zo;have h3:a / b<=a:=Int.ediv_le_self _ ha;rw[Op.intDiv,zn zo];simp only[h1];rw[qeo zo]
  rfl)⟩
theorem Pure.bytesStr{s d el:TypeId} [hs:TSlice C.P s el 1] [he:TKind C.P el .u8] [hd:TStr C.P d]{l:List UInt8}(hx:elems (e.ev x)=some (l.map λb=>int .u8 b.toNat))(hne:l≠[]) :
  Pure C ⟨dst,.convert s d x,ty,pos,aft,g⟩ e H (str l):=λρ w L h _=>by
 obtain⟨a,cap,hv,hcap,hr⟩:=(h x).elems hx;obtain⟨b,off,k',rfl,hrr⟩:=hr (by simpa using hne);refine⟨_,qai,λw' ha=>?_⟩;have h0:execOp ρ ⟨dst,.convert s d x,ty,pos,aft,g⟩=(do Pure.pure (.value (<-convert s d (ρ x)))):=rfl;have hlen:(l.map λb=>int .u8 b.toNat).length=l.length:=by simp
 have:=run_convert_bytes_back (P:=C.P) w' s d el ⟨b,off,none⟩ cap l hs.und he.und hd.und (λj hj=>by
  obtain⟨h1,h2⟩:=hrr.get (i:=j) (e:=int .u8 l[j].toNat) (by simp[hj]);simp only[LV.cells,RepC,List.length_singleton] at h1 h2;obtain⟨h3,⟨v,h4,h5⟩,_⟩:=h2;simp only[Rep] at h5;subst h5;subst h1;rw[Nat.mul_one] at h3 h4;rw[add_mk];rw[ha.2 b _ h3]
  exact h4)
 rw[h0,hv,hlen];simp only[zRt,this,zRv,zRu]
end pure
theorem aT(i:Nat){op:Op}
  (hi:ops[i]? = some ⟨dst,op,ty,pos,aft,none⟩) (hd:qc8 n dst) (hp:Pure C ⟨dst,op,ty,pos,aft,none⟩ e HF lv) (k:LAny C n ops Q HF fuel (listed.setIfInBounds i true) (e.put dst lv) H) (hs:Region.noSelect ops=true:=by kernel_rfl) (hf:Region.free .any ops listed i=true:=by kernel_rfl) (hr:(Region.ready .any ops listed).contains i=true:=by kernel_rfl)
  (hHF:HSub HF H:=by first|exact HSub.nil _|exact zhR _|exact zhD zhr|exact zhP pH zhn|exact zhP zp1 zhn|exact zhP zp2 zhn|exact zhP pH zhp|exact⟨_,List.Perm.refl _⟩):LAny C n ops Q HF (fuel+1) listed e H:=LAny.take hHF hi hs hf hr hd hp k
theorem LAny.tkW(i:Nat){j d:Nat}{b:Bool}{op:Op}
  (hi:ops[i]? = some ⟨dst,op,ty,pos,aft,some (j,b)⟩) (hj:(ops[j]?).bind (·.dst)=some d) (hb:e.s d=.atom (.bool b)) (hd:qc8 n dst) (hp:Pure C ⟨dst,op,ty,pos,aft,some (j,b)⟩ e HF lv) (k:LAny C n ops Q HF fuel (listed.setIfInBounds i true) (e.put dst lv) H) (hs:Region.noSelect ops=true:=by kernel_rfl) (hf:Region.free .any ops listed i=true:=by kernel_rfl) (hr:(Region.ready .any ops listed).contains i=true:=by kernel_rfl)
  (hHF:HSub HF H:=by first|exact HSub.nil _|exact zhR _|exact zhD zhr|exact zhP pH zhn|exact zhP zp1 zhn|exact zhP zp2 zhn|exact zhP pH zhp|exact⟨_,List.Perm.refl _⟩):LAny C n ops Q HF (fuel+1) listed e H:=LAny.takeWant hHF hi hj hb hs hf hr hd hp k
theorem lO(i:Nat)(h:qal C n ops Q HF fuel listed e H i)(hr:Region.ready .any ops listed=[i]:=by kernel_rfl):qay C n ops Q HF (fuel+1) listed e H:=zl1 hr h
section
variable{C:Ctx}{e:Env}{H:Heap}{dst:Option Nat}{ty:TypeId}{pos:String}{aft:Array Edge}{g:Option (Nat×Bool)}{K:LV->Heap->Prop}{X:List PanicEntry->Heap->Prop}{x y:Operand}
theorem sG{sT xT el s bytes:Nat} [ht:TSlice C.P sT el s] [hr:TRow C.P el s bytes]{e2 s2:Nat} [hx2:TSlice C.P xT e2 s2]{v:LV}{es ms:List LV}{A:Heap}
  (hp:H.Perm (H1++A)) (hx:e.ev x=v) (ha:Acc s v es H1 F) (hy:GL.elems (e.ev y)=some ms) (hs:∀ v∈ms,v.cells.length=s) (hok:(ms.flatMap LV.cells).all qcP=true) (hroom:(es.length+ms.length) * bytes<=140737488355328)
  (hk:∀ v' H',Acc s v' (es++ms) H' F->K v' (A++H')):qae C ⟨dst,.call { callee:=.builtin .append,args:=#[x,y],argTypes:=#[sT,xT] },ty,pos,aft,g⟩ e H K X:=by
 refine qae.conseq (K:=λlv H'=>∃ H2,H'=H2++A/\Acc s lv (es++ms) H2 F) (qae.frame hp (S.acc hx ha hy hs hok hroom λv' H' h=>⟨H',rfl,h⟩)) ?_;rintro lv H' ⟨H2,rfl,h⟩;exact⟨lv,A++H2,vR _,⟨[],by simpa using zPc⟩,hk _ _ h⟩
theorem S.acc1{sT xT el s bytes:Nat} [ht:TSlice C.P sT el s] [hr:TRow C.P el s bytes]{e2 s2:Nat} [hx2:TSlice C.P xT e2 s2]{v:LV}{es ms:List LV}{q:Nat×LObj}
  (hx:e.ev x=v) (ha:Acc s v es H1 F) (hy:GL.elems (e.ev y)=some ms) (hs:∀ v∈ms,v.cells.length=s) (hok:(ms.flatMap LV.cells).all qcP=true) (hroom:(es.length+ms.length) * bytes<=140737488355328)
  (hk:∀ v' H',Acc s v' (es++ms) H' F->K v' (q::H')):qae C ⟨dst,.call { callee:=.builtin .append,args:=#[x,y],argTypes:=#[sT,xT] },ty,pos,aft,g⟩ e (q::H1) K X:=
 sG (A:=[q]) ((List.perm_append_singleton _ _).symm) hx ha hy hs hok hroom hk
end
def qfx:Obj->Bool
 |.cells _ _ _=>false
 |_=>true
theorem qdV{o:Obj}(h:w.heap[b]? = some o)(ho:qfx o=true):w.shape? b=none:=by
 simp only[World.shape?,h];cases o <;> simp_all [qfx]
section
variable{C:Ctx}{e:Env}{H:Heap}{dst:Option Nat}{ty:TypeId}{pos:String}{aft:Array Edge}{g:Option (Nat×Bool)}{K:LV->Heap->Prop}{X:List PanicEntry->Heap->Prop}{x y:Operand}
theorem qjn{L:Live}(hH:RelH C w L []){o:Obj}(ho:qfx o=true){v:Value}(hk:K (.atom v) [(w.heap.size,.obj o)]):Left C w L [] (World.push w o) v K:=by
 have:=qew hH o 0 [(w.heap.size,.obj o)] (λp hp=>by
  simp only[List.mem_singleton] at hp;subst hp
  exact⟨rfl,by simp[Live.upd],qaD,qdV qaD ho⟩) (by simp)
 exact⟨_,_,_,this.1,this.2,qai,hk⟩
theorem qhx{w':World}{L:Live}{o o':Obj}(hH:RelH C w L [(b,.obj o)])(ho':qfx o'=true)(h1:w'.os=w.os)(h2:w'.tape=w.tape)(h3:w'.output=w.output)
  (h4:w'.heap.size=w.heap.size) (h5:∀ c,c≠b->w'.heap[c]? = w.heap[c]?) (h6:w'.heap[b]? = some o') {v:Value} {lv:LV} (hv:∀ L,Rep w' L lv v) (hk:K lv [(b,.obj o')]):Left C w L [(b,.obj o)] w' v K:=by
 obtain⟨hb0,hbs,hl,hx1,hx2⟩:=hH.objs _ (zRb rfl);simp only at hb0 hbs hl hx1 hx2
 have hx:Ext w L w' L:=by
  refine⟨by rw[h4];exact zNr _,λc hc=>?_,λc i hi=>?_,λ_=>zNr _⟩
  by_cases he:c=b
  subst he;rw[hx2];exact qdV h6 ho';exact qbM (h5 c he)
  by_cases he:c=b
  subst he;rw[hl] at hi;omega;exact cell_of_heap (h5 c he) i
 refine⟨lv,[(b,.obj o')],L,⟨h1,h2,h3,hx,λc hc hn=>h5 c (by simpa using hn),λ_ _ _=>rfl,λp hp=>.inl (by simp only[List.mem_singleton] at hp;subst hp;simp)⟩,
  ⟨?_,hH.lbase,by rw[h4];exact hH.b0,by rw[h4];exact hH.wf,by simp,λp hp=>?_⟩,hv L,hk⟩
 exact hH.base.trans ⟨h1,h2,h3,by rw[h4];exact zNr _,λc hc=>h5 c zo⟩;simp only[List.mem_singleton] at hp;subst hp;exact⟨hb0,by rw[h4];exact hbs,hl,h6,qdV h6 ho'⟩
theorem S.makeMap{t:TypeId}(hk:∀ b,K (.atom (.map (some b))) ((b,.obj (.map #[] 0))::H)):qae C ⟨dst,.makeMap t none,ty,pos,aft,g⟩ e H K X:=by
 refine qae.at0 λρ w L _ hH=>?_;have h3:execOp ρ ⟨dst,.makeMap t none,ty,pos,aft,g⟩=(do Pure.pure (.value (<-Instr.makeMap t none))):=rfl;have h4:(Instr.makeMap t none).run C.P w=.ok (.map (some w.heap.size)) (World.push w (.map #[] 0)):=rfl;rw[h3,zRt,h4];exact qjn hH rfl (hk _)
def setW(w:World)(b:Nat)(o:Obj):World:={ w with heap:=w.heap.setIfInBounds b o }
theorem qdU{c:Nat}{o:Obj}(h:c≠b):(setW w b o).heap[c]? = w.heap[c]? := by
 simp only[setW,Array.getElem?_setIfInBounds];rw[zn (Ne.symm h)]
theorem qeF{o:Obj}(h:b<w.heap.size):(setW w b o).heap[b]? = some o:=by
 simp only[setW,Array.getElem?_setIfInBounds];simp[h]
theorem qeJ{o o':Obj}(h:w.heap[b]? = some o)(ho:qfx o=true):(setObj b o').run P w=.ok () (setW w b o'):=by
 simp only[setObj,Sem.run,h];cases o <;> first|rfl|(simp[qfx] at ho)
theorem qgx(k:ByteArray):∀ (es:List MapEntry) (i:Nat),(∀ e∈es,∃ s,e.key=.string s/\¬ (k == s)=true)->Instr.findNow .string (.string k) es i=some none
 |[],_,_=>rfl
 |e::es,i,h=>by
  obtain⟨s,hs,hne⟩:=h e List.mem_cons_self;have hne':(k == s)=false:=by simpa using hne
  simp only[Instr.findNow,hs,Instr.sameNow,hne'];exact qgx k es (i+1) (λe he=>h e (zMo _ he))
theorem S.insert{t kt el:TypeId}(ht:C.P.underlying t=some (.map kt el))(hkt:C.P.underlying kt=some .string){b clock:Nat}{es:Array MapEntry}{F:Heap}{m z:Operand}{k:ByteArray}{v:Value}(hm:e.ev m=.atom (.map (some b)))(hx:e.ev x=.atom (.string k))(hz:e.ev z=.atom v)
  (hp:Pick (b,.obj (.map es clock)) H F) (hnew:∀ e∈es.toList,∃ s,e.key=.string s/\¬ (k == s)=true) (hk:K (.atom undef) ((b,.obj (.map (es.push { key:=.string k,val:=v,born:=clock }) (clock+1)))::F)):qae C ⟨dst,.insert t m x z,ty,pos,aft,g⟩ e H K X:=by
 refine qae.at1 hp λρ w L h hH=>?_;obtain⟨hb0,hbs,hl,hx1,hx2⟩:=hH.objs _ (zRb rfl);simp only at hb0 hbs hl hx1 hx2;have h3:execOp ρ ⟨dst,.insert t m x z,ty,pos,aft,g⟩=(do Instr.mapUpdate t (ρ m) (ρ x) (ρ z);Pure.pure .skip):=rfl
 have hf:(Instr.findKey kt (.string k) es.toList).run C.P w=.ok none w:=by
  simp only[Instr.findKey,zRt,qaa hkt,zRv,qgx k es.toList 0 hnew,zRu]
 have hc:(Instr.checkKey false 10000 kt (.string k)).run C.P w=.ok () w:=by
  have hck:Instr.checkKey false 10000 kt (.string k)=Instr.checkKey false (9999+1) kt (.string k):=rfl;rw[hck,Instr.checkKey];simp only[zRt,qaa hkt,zRv,zRu]
 have hg:(getObj b).run C.P w=.ok (.map es clock) w:=by simp only[getObj,Sem.run,hx1]
 rw[h3,qag h hm,qag h hx,qag h hz];simp only[Instr.mapUpdate,zRt,qaa ht,zRv,hg,hc,hf];have hs:(setObj b (.map (es.push { key:=.string k,val:=v,born:=clock }) (clock+1))).run C.P w=.ok () (setW w b (.map (es.push { key:=.string k,val:=v,born:=clock }) (clock+1))):=qeJ hx1 rfl;rw[hs];exact qhx (w':=setW w b (.map (es.push { key:=.string k,val:=v,born:=clock }) (clock+1))) hH rfl rfl rfl rfl (by simp[setW]) (λc hc=>qdU hc) (qeF hbs) (λ_=>qai) hk
theorem S.range{t kt el:TypeId}(ht:C.P.underlying t=some (.map kt el)){b clock:Nat}{es:Array MapEntry}(hx:e.ev x=.atom (.map (some b)))(hm:(b,.obj (.map es clock))∈H)
  (hk:∀ r,K (ptr r 0) ((r,.obj (.mapIter (some b) clock #[] clock))::H)):qae C ⟨dst,.range t x,ty,pos,aft,g⟩ e H K X:=by
 obtain⟨F,hF⟩:∃ F,H.Perm ((b,.obj (.map es clock))::F):=by
  obtain⟨l1,l2,rfl⟩:=List.append_of_mem hm;exact⟨l1++l2,List.perm_middle⟩
 have main:∀ X,qae C ⟨dst,.range t x,ty,pos,aft,g⟩ e [(b,.obj (.map es clock))] (λlv H'=>∃ r,lv=ptr r 0/\H'=[(r,.obj (.mapIter (some b) clock #[] clock)),(b,.obj (.map es clock))]) X:=λX ρ w L h hH=>by
  obtain⟨hb0,hbs,hl,hx1,hx2⟩:=hH.objs _ (zRb rfl);simp only at hb0 hbs hl hx1 hx2;have h3:execOp ρ ⟨dst,.range t x,ty,pos,aft,g⟩=(do Pure.pure (.value (<-Instr.range t (ρ x)))):=rfl;have hg:(getObj b).run C.P w=.ok (.map es clock) w:=by simp only[getObj,Sem.run,hx1]
  have hn:∀ o,(newObj o).run C.P w=.ok w.heap.size (World.push w o):=λ_=>rfl;rw[h3,qag h hx];simp only[Instr.range,zRt,qaa ht,zRv,hg,zRu,hn];have:=Left.frame (F:=[(b,.obj (.map es clock))]) (K:=λlv H'=>∃ r,lv=ptr r 0/\H'=[(r,.obj (.mapIter (some b) clock #[] clock)),(b,.obj (.map es clock))]) (v:=.pointer (some ⟨w.heap.size,0,none⟩)) (by simpa using hH) (qjn (w:=w) (L:=L) (hH.sub (List.nil_sublist _)) (o:=.mapIter (some b) clock #[] clock) rfl ⟨w.heap.size,rfl,rfl⟩);show Left C w L _ _ _ _;simpa using this
 refine qae.conseq (qae.frame (H:=[(b,.obj (.map es clock))]) (F:=F) hF (K:=λlv H'=>∃ r,lv=ptr r 0/\H'=[(r,.obj (.mapIter (some b) clock #[] clock)),(b,.obj (.map es clock))]++F) ?_) ?_;exact qae.conseq (main _) (λlv H' ⟨r,h1,h2⟩=>⟨lv,H',vR _,zhR _,r,h1,by rw[h2]⟩);rintro lv H' ⟨r,rfl,rfl⟩;exact⟨ptr r 0,_,vR _,⟨[],by simpa using hF.symm⟩,hk r⟩
theorem S.next{r b since last clock:Nat}{seen:Array Nat}{es:Array MapEntry}{F:Heap}(hx:e.ev x=ptr r 0)(hp:H.Perm ((r,.obj (.mapIter (some b) since seen last))::(b,.obj (.map es clock))::F))
  (hold:∀ e∈es.toList,e.born<since/\e.born<last)
  (hover:es.filter (λe=>!seen.contains e.born)=#[]->K (.tuple [bool false]) ((r,.obj (.mapIter (some b) since seen last))::(b,.obj (.map es clock))::F))
  (hstep:∀ e∈(es.filter (λe=>!seen.contains e.born)).toList,K (.tuple [bool true,.atom e.key,.atom e.val]) ((r,.obj (.mapIter (some b) since (seen.push e.born) clock))::(b,.obj (.map es clock))::F)) :
  qae C ⟨dst,.next x false,ty,pos,aft,g⟩ e H K X:=by
 refine qae.frame (H:=[(r,.obj (.mapIter (some b) since seen last)),(b,.obj (.map es clock))]) (F:=F) hp λρ w L h hH=>?_;have hr:=hH.objs (r,.obj (.mapIter (some b) since seen last)) zm0;have hb:=hH.objs (b,.obj (.map es clock)) zm1;obtain⟨_,hrs,_,hr1,_⟩:=hr;obtain⟨_,hbs,_,hb1,_⟩:=hb;simp only at hrs hr1 hbs hb1;have h3:execOp ρ ⟨dst,.next x false,ty,pos,aft,g⟩=(do Pure.pure (.value (<-Instr.next (ρ x) false ty))):=rfl;have hg1:(getObj r).run C.P w=.ok (.mapIter (some b) since seen last) w:=by simp only[getObj,Sem.run,hr1]
 have hg2:(getObj b).run C.P w=.ok (.map es clock) w:=by simp only[getObj,Sem.run,hb1]
 have htest:(!seen.isEmpty && !es.isEmpty && es.all (λe=>decide (e.born ≥ last)))=false:=by
  rw[Bool.eq_false_iff];intro hall;simp only[zBa] at hall;obtain⟨⟨_,h1⟩,h2⟩:=hall
  have hne:0<es.size:=by
   rcases Nat.eq_zero_or_pos es.size with h0|h0;have:es=#[]:=Array.eq_empty_of_size_eq_zero h0;subst this;simp at h1;exact h0
  have h3:=(Array.all_eq_true.1 h2) 0 hne;have h4:=(hold es[0] (by simp)).2;simp at h3;omega
 rw[h3,qag h hx];simp only[Instr.next,zRt,zRv,hg1,hg2,htest,zRn,if_false];generalize hL:es.filter (λe=>!seen.contains e.born)=left at hover hstep ⊢
 have hmem:∀ x∈left.toList,x.born<since:=λx hx=>by
  subst hL;simp at hx;exact(hold x (by simpa using hx.1)).1
 have e1:left.filter (λx=>decide (x.born<since))=left:=Array.filter_eq_self.2 (λx hx=>by simpa using hmem x (by simpa using hx))
 have e2:left.filter (λx=>decide (x.born ≥ since))=#[]:=by
  rw[Array.filter_eq_empty_iff];intro x hx;have:=hmem x (by simpa using hx)
  simp
  omega
 simp only[e1,e2,Array.append_empty]
 by_cases h0:left.size=0
 have:left=#[]:=Array.eq_empty_of_size_eq_zero h0;subst this;have hch:(choose (.mapNext 1)).run C.P w=.ok 0 w:=by simp[choose,Sem.run,Question.forced]
 simp only[Array.isEmpty_empty,if_true,Array.map_empty,Array.append_empty,List.size_toArray,List.length_singleton,hch,zRt,zRv,zRu];exact⟨.tuple [bool false],_,L,Fr.refl _ _ _,hH,by simp only[Rep];exact⟨[.bool false],rfl,by simp only[RepL,Rep];exact⟨_,_,rfl,rfl,rfl⟩⟩,hover rfl⟩;have hne:left.isEmpty=false:=by simp[Array.isEmpty,h0]
 simp only[hne,zRn,if_false,Array.empty_append,Array.size_map]
 obtain⟨j,w1,hj,hw1,hrun⟩:∃ (j:Nat) (w1:World),j<left.size/\(w1=w∨w1=w.drew)/\(choose (Question.mapNext left.size)).run C.P w=.ok j w1:=by
  by_cases hf:left.size<=1
  exact⟨0,w,by omega,.inl rfl,by simp[choose,Sem.run,Question.forced,hf]⟩
  exact⟨_,w.drew,Nat.mod_lt _ zo,.inr rfl,by
   simp only[choose,Sem.run,Question.forced,zDe,hf,if_false,Question.cut]
   rfl⟩
 have hr1':w1.heap[r]? = some (.mapIter (some b) since seen last):=by rcases hw1 with rfl|rfl <;> exact hr1
 have hsz:w1.heap.size=w.heap.size:=by rcases hw1 with rfl|rfl <;> rfl
 have hheap:w1.heap=w.heap:=by rcases hw1 with rfl|rfl <;> rfl
 simp only[hrun,Array.getElem?_map,Array.getElem?_eq_getElem hj,Option.map_some,zRt,zRv,qeJ hr1' rfl,zRu]
 have hl:Left C w L [(r,.obj (.mapIter (some b) since seen last))] (setW w1 r (.mapIter (some b) since (seen.push left[j].born) clock)) (.tuple #[.bool true,left[j].key,left[j].val]) (λlv H'=>K lv (H'++[(b,.obj (.map es clock))]++F)):=
  qhx (lv:=.tuple [bool true,.atom left[j].key,.atom left[j].val]) (RelH.left (F:=[(b,.obj (.map es clock))]) hH) rfl (by rcases hw1 with rfl|rfl <;> rfl) (by rcases hw1 with rfl|rfl <;> rfl) (by rcases hw1 with rfl|rfl <;> rfl) (by simp[setW,hsz]) (λc hc=>by rw[qdU hc,hheap]) (qeF zo)
   (λ_=>by simp only[Rep];exact⟨[.bool true,left[j].key,left[j].val],rfl,by simp only[RepL,Rep];exact⟨_,_,rfl,rfl,_,_,rfl,rfl,_,_,rfl,rfl,rfl⟩⟩) (hstep left[j] (by simp))
 exact Left.frame (F:=[(b,.obj (.map es clock))]) (K:=λlv H'=>K lv (H'++F)) hH hl
theorem Pure.entry{r b since last clock stamp:Nat}{seen:Array Nat}{es:Array MapEntry}{en:MapEntry}(hx:e.ev x=ptr r 0)(hi:(r,LObj.obj (.mapIter (some b) since seen last))∈H)(hm:(b,LObj.obj (.map es clock))∈H)
  (hl:clock=last) (hb:seen.back? = some stamp) (hf:es.find? (·.born == stamp)=some en):Pure C ⟨dst,.entry x,ty,pos,aft,g⟩ e H (.tuple [.atom en.key,.atom en.val]):=λρ w L h hH=>by
 refine⟨.tuple #[en.key,en.val],by simp only[Rep];exact⟨[en.key,en.val],rfl,by simp only[RepL,Rep];exact⟨_,_,rfl,rfl,_,_,rfl,rfl,rfl⟩⟩,λw' ha=>?_⟩;have h1:w'.heap[r]? = some (.mapIter (some b) since seen last):=(ha.1 _ hi).trans (hH.objs _ hi).2.2.2.1;have h2:w'.heap[b]? = some (.map es clock):=(ha.1 _ hm).trans (hH.objs _ hm).2.2.2.1;have h3:execOp ρ ⟨dst,.entry x,ty,pos,aft,g⟩=(do Pure.pure (.value (<-Instr.entry (ρ x)))):=rfl;have hg1:(getObj r).run C.P w'=.ok (.mapIter (some b) since seen last) w':=by simp only[getObj,Sem.run,h1]
 have hg2:(getObj b).run C.P w'=.ok (.map es clock) w':=by simp only[getObj,Sem.run,h2]
 have hne:(clock != last)=false:=by rw[hl];simp
 rw[h3,qag h hx];simp only[Instr.entry,zRt,zRv,hg1,hb,hg2,hne,zRn,if_false,zRu,hf]
theorem lH{op:Op}(hi:ops[i]? = some ⟨dst,op,ty,pos,aft,none⟩)(hd:qc8 n dst)
  (hp:Pure C ⟨dst,op,ty,pos,aft,none⟩ e H lv) (k:qay C n ops Q HF fuel (listed.setIfInBounds i true) (e.put dst lv) H):qal C n ops Q HF fuel listed e H i:=λw0 L0 a w L hL hA hsz hE hH=>by
 obtain⟨v,hv,hrun⟩:=hp a.eval w L hE.ev hH;unfold wpOp;rw[hi];simp only;rw[zp (by simp[Region.wanted])];refine .inl ?_;unfold Oper.wp;rw[hrun w (qe7.refl _ _ _)];exact⟨hA,k w0 L0 _ w L hL hA hsz (hE.put hd hv) hH⟩
end
def qmk:Op->Bool
 |.defer _=>false
 |_=>true
theorem qlo{f:FuncId}{args:Array Value}{R:Ending->World->Prop}(h:Calls P f args w R):CallsIn (Fence.wide.inRound l) n P f args w R:=(callsIn_wide (n:=n)).2 h
theorem qmO{row:String}{args:Array Value}{R:Value->World->Prop}(h:Rows P row args w R):RowsIn (Fence.wide.inRound l) n P row args w R:=λc cs _=>
 let ⟨v,w',r,s⟩:=h c cs
 ⟨v,w',r,stepsIn_wide.2 s⟩
theorem qmq{o:Oper}{a:Act}{w:World}{next next':Act->World->Prop}{Q:Exit->Act->World->Prop}(ho:qmk o.op=true)
  (hn:∀ a w,next a w->next' a w) (h:o.wp P a w next Q):o.wpIn (Fence.wide.inRound l) n P a w next' Q:=by
 refine⟨λ_ _=>trivial,?_⟩;have hs:o.semAt (Fence.wide.inRound l).round a.eval=execOp a.eval o:=Oper.semAt_eq _ _ _ λc hc=>by rw[hc] at ho;cases ho
 rw[hs];unfold Oper.wp at h;revert h;generalize (execOp a.eval o).run P w=r;intro h
 cases r with
 |ok x w'=>
  cases x with
  |value v=>exact hn _ _ h
  |skip=>exact hn _ _ h
  |defer d=>exact hn _ _ h
  |enter f args=>
   refine⟨λhd=>(by cases hd),qlo (Calls.mono h ?_)⟩;intro e w'' he
   cases e with
   |returned v=>exact hn _ _ he
   |panicked ch=>exact he
   |outgrown=>exact he
  |row row args=>
   refine⟨λhd=>(by cases hd),qmO (Rows.mono h ?_)⟩;intro v w'' he
   exact hn _ _ he
  |_=>exact h.elim
 |halt x w'=>
  cases x <;> first|exact h|exact h.elim
theorem qfN{l n:Nat}{P:Program}{ops:Array Oper}{Q:Exit->Act->World->Prop}(hQ:¬ LetsOut Q):∀ (rest:List Oper) (a:Act) (w:World),(∀ o∈rest,qmk o.op=true)->wpList P ops Q rest a w->wpListIn (Fence.wide.inRound l) n P ops Q rest a w
 |[],_,_,_,h=>h
 |o::rest,a,w,ho,h=>by
  unfold wpList at h;unfold wpListIn;split at h
  rename_i hw
  rw[zp hw];rcases h with h|⟨_,h⟩;exact qmq (ho o List.mem_cons_self) (λa w h=>qfN hQ rest a w (λo h=>ho o (zMo _ h)) h) h;exact absurd h hQ
  rename_i hw
  rw[zn hw];exact⟨λ_ _=>trivial,qfN hQ rest _ _ (λo h=>ho o (zMo _ h)) h⟩
theorem qkw{id:Nat}{ops:List Oper}{Q:Exit->Act->World->Prop}{a:Act}(hQ:¬ LetsOut Q)(ho:ops.all (λo=>qmk o.op)=true)(h:wpList P ops.toArray Q ops a w) :
  (Code.region id ops.toArray false).wpIn (Fence.wide.inRound l) n P Q a w:=wpIn_region_lit (qfN hQ ops a w (by simpa using ho) h)
end Go.GL
namespace Go.GL
open Go.RowKit
variable{C:Ctx}{F H:Heap}{L:Live}{b n ty:Nat}{c:Code}{cs cs':List LV}{ops:Array Oper}{w:World}
theorem qiU{o o':Obj}(hH:RelH C w L ((b,.obj o)::F))(ho':qfx o'=true) :
  Fr (keys ((b,LObj.obj o)::F)) w L (w.putObj b o') L ((b,.obj o')::F)/\RelH C (w.putObj b o') L ((b,.obj o')::F):=by
 have h1:RelH C w L ([(b,.obj o)]++F):=hH;have hlt:b<w.heap.size:=(hH.objs _ List.mem_cons_self).2.1
 have h2:Left C w L [(b,.obj o)] (w.putObj b o') undef (λ_ H'=>H'=[(b,.obj o')]):=
  qhx (w':=w.putObj b o') h1.left ho' rfl rfl rfl (by simp[World.putObj]) (λc hc=>World.putObj_heap_other hc) (World.putObj_heap_same hlt) (v:=undef) (lv:=.atom undef) (λ_=>qai) rfl
 obtain⟨lv,H',L',g1,g2,g3,rfl⟩:=h2
 have hL:L'=L:=by
  funext c;obtain⟨_,_,hl,_⟩:=h1.left.objs _ List.mem_cons_self;obtain⟨_,_,hl',_⟩:=g2.objs _ List.mem_cons_self
  by_cases he:c=b
  subst he;rw[hl,hl'];rcases Nat.lt_or_ge c w.heap.size with hc|hc;exact g1.lsame c hc (by simpa using he);rw[h1.wf c hc,g2.wf c (by simpa [World.putObj] using hc)]
 subst hL;have:=h1.frame g1 g2;exact⟨this.2,this.1⟩
theorem qnk{o:Obj}(hH:RelH C w L F)(ho:qfx o=true) :
  ∃ L',Fr (keys F) w L (w.alloc o) L' ((w.heap.size,.obj o)::F)/\RelH C (w.alloc o) L' ((w.heap.size,.obj o)::F):=by
 have h1:RelH C w L ([]++F):=hH
 have:=qew h1.left o 0 [(w.heap.size,.obj o)] (λp hp=>by
  simp only[List.mem_singleton] at hp;subst hp
  exact⟨rfl,by simp[Live.upd],qaD,qdV qaD ho⟩) (by simp)
 have:=h1.frame this.1 this.2;exact⟨_,this.2,this.1⟩
def qds(C:Ctx)(l n:Nat)(c:Code)(Q:Post)(e:Env)(H:Heap):Prop:=
 ∀ a w L,RelE n a e w L->RelH C w L H->∀ m,c.wpIn (Fence.wide.inRound l) m C.P (lift C n w L (keys H) Q) a w
def QOn(k:Env->Heap->Prop):Post
 |.normal,e,H=>k e H
 |_,_,_=>False
section round
variable{C:Ctx}{l n:Nat}{e:Env}{H:Heap}{k:Env->Heap->Prop}
theorem qds.region{id:Nat}{ops:List Oper}(ho:ops.all (λo=>qmk o.op)=true)(h:LOps C n ops.toArray (qaw k (QOn k)) ops e H):qds C l n (.region id ops.toArray false) (QOn k) e H:=λa w L hE hH m=>by
 refine qkw ?_ ho (qbD ?_ _ _ _ (h a w L hE hH));rintro⟨a',w',e',H',L',_,_,_,hq⟩;exact hq;rintro ex a' w' hq;refine qjC ?_ hq;intro x e H h;cases x <;> exact h
theorem qds.seq{x y:Code}(h:qds C l n x (QOn λe H=>qds C l n y (QOn k) e H) e H):qds C l n (.seq x y) (QOn k) e H:=λa w L hE hH m=>by
 refine wpIn_seq (wpIn_mono (h a w L hE hH m) λex a' w' hq=>?_);obtain⟨e',H',L',h1,h2,h3,h4⟩:=hq
 cases ex with
 |normal=>exact wpIn_mono (h4 a' w' L' h3 h2 m) λ_ _ _=>qdR h1
 |exit id=>exact h4.elim
 |goto id=>exact h4.elim
 |ret=>exact h4.elim
 |panic ch=>exact h4.elim
 |outgrown=>exact h4.elim
theorem qds.block{id:Nat}{c:Code}(h:qds C l n c (QOn k) e H):qds C l n (.block id c) (QOn k) e H:=λa w L hE hH m=>by
 refine wpIn_block (wpIn_mono (h a w L hE hH m) λex a' w' hq=>?_);obtain⟨e',H',L',h1,h2,h3,h4⟩:=hq
 cases ex with
 |normal=>exact⟨e',H',L',h1,h2,h3,h4⟩
 |exit id=>exact h4.elim
 |goto id=>exact h4.elim
 |ret=>exact h4.elim
 |panic ch=>exact h4.elim
 |outgrown=>exact h4.elim
end round
theorem qiz{F:Fence}{m:Nat}{P:Program}{l:Nat}{args:Array Value}{W:World}{R R':Ending->World->Prop}(h:YieldAt F m P l args W R)(hr:∀ e w,R e w->R' e w):YieldAt F m P l args W R':=by
 obtain⟨fn,tmps,assign,body,hy,hR⟩:=h;exact⟨fn,tmps,assign,body,hy,hR.mono hr⟩
def qfv(C:Ctx)(l:Nat)(args:List LV)(H:Heap)(K:Heap->Prop):Prop:=
 ∀ (vs:List Value) w L,RepL w L args vs->RelH C w L H->∀ m,YieldAt Fence.wide m C.P l vs.toArray w λe w'=>e=.returned (.bool true)/\qfh C w L H w' K
theorem qfv.frame{C:Ctx}{l:Nat}{args:List LV}{G H F:Heap}{K:Heap->Prop}(p:G.Perm (H++F))(h:qfv C l args H λH'=>K (H'++F)):qfv C l args G K:=λvs w L h1 h2 m=>by
 have h3:=h2.perm p;refine qiz (h vs w L h1 h3.left m) ?_;rintro e w' ⟨he,hx⟩;obtain⟨H',L',g1,g2,g3⟩:=qfh.frame h3 hx;exact⟨he,H',L',g1.perm p.symm,g2,g3⟩
theorem qfv.mono{C:Ctx}{l:Nat}{args:List LV}{H:Heap}{K K':Heap->Prop}(h:qfv C l args H K)(hk:∀ H,K H->K' H):qfv C l args H K':=λvs w L h1 h2 m=>qiz (h vs w L h1 h2 m) λ_ _ hx=>⟨hx.1,hx.2.mono hk⟩
def qwV(C:Ctx)(gf:FuncId)(caps:List LV)(Hc:Heap)(N:Nat)(xs:Nat->List LV):Prop:=
 ∀ (l:Nat) (J:Nat->Heap->Prop),(∀ k H,k<N->J k H->qfv C l (xs k) H (J (k+1)))->∀ H0,J 0 H0 ->
  LCalls C gf (.atom (.func (.yield l) #[] #[])::caps) (H0++Hc) (λr H'=>(∃ v,r=.ret v)/\∃ H1,H'=H1++Hc/\J N H1)
def Env.round(j:Env):List (Nat×LV)->Env
 |[]=>j
 |(d,v)::r=>Env.round (j.upd d v) r
theorem RelE.rounds{n:Nat}{w:World}{L:Live}:∀ (ps:List Nat) (lvs:List LV) (vs:List Value) (tmps:Array Value) (j:Env),RelE n { tmps,defers:=[] } j w L->RepL w L lvs vs->ps.length=lvs.length->ps.all (λp=>Nat.blt p n)=true ->
  RelE n { tmps:=(ps.zip vs).foldl (λt p=>t.setIfInBounds p.1 p.2) tmps,defers:=[] } (Env.round j (ps.zip lvs)) w L
 |[],lvs,vs,tmps,j,h,_,_,_=>by simpa [Env.round] using h
 |p::ps,[],vs,tmps,j,h,_,hl,_=>by simp at hl
 |p::ps,lv::lvs,vs,tmps,j,h,hr,hl,hp=>by
  simp only[RepL] at hr;obtain⟨y,ys,rfl,hy,hr⟩:=hr;simp only[List.all_cons,zBa] at hp;have:=RelE.put (dst:=some p) h (by simp only[qc8,dstB];exact hp.1) hy;simp only[List.zip_cons_cons,List.foldl_cons,Env.round];exact RelE.rounds ps lvs ys _ _ this hr (by simpa using hl) hp.2
def Act.flat(a:Act):Env:=⟨λi=>.atom (a.tmps.getD i undef),[]⟩
theorem Act.flat_rel{a:Act}(hn:a.tmps.size=n):RelE n { tmps:=a.tmps,defers:=[] } (Act.flat a) w L:=⟨hn,rfl,λ_=>qai⟩
section range
variable{C:Ctx}{n:Nat}{e:Env}{H:Heap}{Q:Post}
theorem qah.rangeFunc{g:Operand}{ps:List Nat}{assign body:Code}{gf:FuncId} [TEnter C.P gf]{caps:Array Value}(hg:e.ev g=.atom (.func (.func gf) #[] caps))(N:Nat)(xs:Nat->List LV)(H0 Hc:Heap)(hp:H.Perm (H0++Hc))
  (hiter:qwV C gf (caps.toList.map .atom) Hc N xs) (hps:∀ k,k<N->ps.length=(xs k).length) (hpn:ps.all (λp=>Nat.blt p n)=true)
  (J:Nat->Heap->Prop) (h0:J 0 H0)
  (round:∀ k H,k<N->J k H->∀ j:Env,j.ds=[]->(∀ i v,e.s i=.atom v->j.s i=.atom v)->∀ (l D:Nat) (o oD:LObj),qds C l n assign (QOn λe1 H1=>e1.ds=[]/\∃ H1',H1=(l,o)::(D,oD)::H1'/\(∀ o':LObj,qds C l n body (QOn λ_ H2=>∃ H2',HSub ((l,o')::(D,oD)::H2') H2/\J (k+1) H2') e1 ((l,o')::(D,oD)::H1'))) (Env.round j (ps.zip (xs k))) ((l,o)::(D,oD)::H))
  (done:∀ D H',J N H'->Q .normal ⟨e.s,{ target:=.collected D,args:=#[] }::e.ds⟩ ((D,.obj (.deferred (some [])))::(H'++Hc))) :
  qah C n (.rangeFunc g ps.toArray assign body) Q e H:=λa w L hE hH=>by
 refine wpIn_wide (n:=1) |>.1 (wpIn_rangeFunc λfn _=>?_)
 have hgv:a.eval g=.func (.func gf) #[] caps:=by
  have:=hE.ev g;rw[hg] at this;simpa only[Rep] using this
 obtain⟨rec,hrec⟩:∃ rec:LoopState->Option Code->Loop,rec=λst pe=>{ state:=st,pending:=pe,fn,tmps:=a.tmps,params:=ps.toArray,assign,body,defers:=w.heap.size }:=⟨_,rfl⟩;obtain⟨L1,f1,r1⟩:=qnk (o:=.deferred (some [])) (hH.perm hp) rfl;obtain⟨L2,f2,r2⟩:=qnk (o:=.loop (rec .ready none)) r1 rfl;have hsz:(w.alloc (.deferred (some []))).heap.size=w.heap.size+1:=World.size_alloc ..;rw[hsz] at f2 r2;have hrec0:rec .ready none={ state:=.ready,pending:=none,fn,tmps:=a.tmps,params:=ps.toArray,assign,body,defers:=w.heap.size }:=by rw[hrec]
 refine⟨w.heap.size+1,[{ target:=.collected w.heap.size,args:=#[] }],(w.alloc (.deferred (some []))).alloc (.loop (rec .ready none)),{ target:=.fn (.func gf) caps,args:=#[.func (.yield (w.heap.size+1)) #[] #[]] },(w.alloc (.deferred (some []))).alloc (.loop (rec .ready none)),gf,
  #[.func (.yield (w.heap.size+1)) #[] #[]]++caps,(w.alloc (.deferred (some []))).alloc (.loop (rec .ready none)),?_,?_,λ_ _=>trivial,?_,λ_=>zNr _,callsIn_wide.2 ?_⟩
 rw[hrec0];exact run_enterLoop_outer _ _ _ _ _;simp only[resolve,hgv];simp[go_sem];simp only[invoke];exact qfq _ _;obtain⟨l,hl⟩:∃ l,l=w.heap.size+1:=⟨_,rfl⟩;obtain⟨D,hD⟩:∃ D,D=w.heap.size:=⟨_,rfl⟩;rw[<-hl,<-hD] at f2 r2 ⊢;rw[<-hD] at r1 f1;have hc:=hiter l (λk H=>∃ H1,H=(l,.obj (.loop (rec .ready none)))::(D,.obj (.deferred (some [])))::H1/\J k H1) ?_ ((l,.obj (.loop (rec .ready none)))::(D,.obj (.deferred (some [])))::H0) ⟨H0,rfl,h0⟩
 ·have h1:=hc (.func (.yield l) #[] #[]::caps.toList) _ L2 (by simp only[RepL,Rep];exact⟨_,_,rfl,rfl,qa1 _⟩) r2
  have e1:(Value.func (.yield l) #[] #[]::caps.toList).toArray=#[.func (.yield l) #[] #[]]++caps:=by
   apply Array.ext'
   simp
  rw[e1] at h1;refine Calls.mono h1 ?_;rintro ex w' hx
  cases ex with
  |returned v=>
   obtain⟨lv,H',L',g1,g2,g3,_,H1,rfl,H1',rfl,hJ⟩:=hx;have g2':RelH C w' L' ((l,.obj (.loop (rec .ready none)))::((D,.obj (.deferred (some [])))::(H1'++Hc))):=g2;obtain⟨_,_,_,hlo,_⟩:=g2'.objs _ List.mem_cons_self;have hlo':w'.heap[l]? = some (.loop (rec .ready none)):=hlo;have hpe:(rec .ready none).pending=none:=by rw[hrec]
   have hend:=(run_endLoop (P:=C.P) hlo' (by rw[hrec];simp)).trans (congrArg (λp=>Result.ok p _) hpe);have ht:=qiU (o':=.loop { rec .ready none with state:=.exhausted }) g2' rfl;refine⟨none,_,hend,?_⟩;have hs:HSub ((D,LObj.obj (.deferred (some [])))::(H1'++Hc)) ((l,.obj (.loop { rec .ready none with state:=.exhausted }))::((D,.obj (.deferred (some [])))::(H1'++Hc))):=zhD zhr;refine⟨⟨e.s,{ target:=.collected D,args:=#[] }::e.ds⟩,(D,.obj (.deferred (some [])))::(H1'++Hc),L',?_,ht.2.weak hs,⟨?_,?_,?_⟩,done D H1' hJ⟩;exact Fr.perm hp.symm ((f1.trans (f2.trans (g1.trans ht.1))).weak hs);exact hE.size;show _::a.defers=_;rw[hE.ds]
   exact λi=>(hE.vals i).mono (f1.ext.trans (f2.ext.trans (g1.ext.trans ht.1.ext))) _ _
  |panicked ch=>
   obtain⟨H',L',g1,g2,⟨v,hv⟩,_⟩:=hx
   cases hv
  |outgrown=>exact hx.elim
 rintro k H hk ⟨H1,rfl,hJ⟩ vs w1 Lw hvs hr m;obtain⟨_,_,_,hlo,_⟩:=hr.objs _ List.mem_cons_self;have hlo':w1.heap[l]? = some (.loop (rec .ready none)):=hlo;have hlen:=hvs.length;have hpk:=hps k hk;have hy:=run_yield (P:=C.P) (args:=vs.toArray) hlo' (by rw[hrec];simp;omega);rw[hrec] at hy;refine⟨fn,_,assign,body,hy,roundIn_of_wpIn trivial ?_⟩;have htm:RelE n { tmps:=a.tmps,defers:=[] } (Act.flat a) w1 Lw:=Act.flat_rel hE.size;have htm2:=RelE.rounds ps (xs k) vs a.tmps (Act.flat a) htm hvs hpk hpn
 have e2:(ps.toArray.zip vs.toArray).foldl (λtmps (t,a)=>tmps.setIfInBounds t a) a.tmps=(ps.zip vs).foldl (λt p=>t.setIfInBounds p.1 p.2) a.tmps:=by
  simp
 simp only[e2];refine wpIn_mono (round k H1 hk hJ (Act.flat a) rfl ?_ l D _ _ _ w1 Lw htm2 hr m) ?_;intro i v hv;have:=hE.vals i;rw[hv] at this;simp only[Rep] at this;simp only[Act.flat,this];rintro ex a1 w2 ⟨e1,H2,L2',q1,q2,q3,q4⟩
 cases ex with
 |normal=>
  obtain⟨hds,H2',rfl,hb⟩:=q4;obtain⟨_,_,_,hlo2,_⟩:=q2.objs _ List.mem_cons_self;have hlo2':w2.heap[l]? = some (.loop (rec .ready none)):=hlo2;have ht:=qiU (o':=.loop { rec .ready none with state:=.busy }) q2 rfl;refine⟨_,run_beginRound hlo2' (by rw[hrec]),?_⟩;refine wpIn_mono (hb (.obj (.loop { rec .ready none with state:=.busy })) a1 _ L2' (q3.mono ht.1.ext) ht.2 m) ?_;rintro ex a3 w3 ⟨e3,H3,L3,p1,p2,p3,p4⟩
  cases ex with
  |normal=>
   obtain⟨H3',hs3,hJ3⟩:=p4;have p2':=p2.weak hs3;obtain⟨_,_,_,hlo3,_⟩:=p2'.objs _ List.mem_cons_self;have hlo3':w3.heap[l]? = some (.loop { rec .ready none with state:=.busy }):=hlo3;have ht3:=qiU (o':=.loop (rec .ready none)) p2' rfl;have hend:=run_endRound (P:=C.P) none hlo3';have e3:({ { rec .ready none with state:=.busy } with state:=if (none:Option Code).isNone then .ready else .done,pending:=none }:Loop)=rec .ready none:=by rw[hrec];try rfl
   rw[e3] at hend;refine⟨.bool true,_,hend,rfl,?_⟩
   exact⟨_,L3,q1.trans (ht.1.trans ((p1.weak hs3).trans ht3.1)),ht3.2,H3',rfl,hJ3⟩
  |exit id=>exact p4.elim
  |goto id=>exact p4.elim
  |ret=>exact p4.elim
  |panic ch=>exact p4.elim
  |outgrown=>exact p4.elim
 |exit id=>exact q4.elim
 |goto id=>exact q4.elim
 |ret=>exact q4.elim
 |panic ch=>exact q4.elim
 |outgrown=>exact q4.elim
end range
def qfo(C:Ctx)(n:Nat)(ops:Array Oper)(Q:Post)(rest:List Oper)(e:Env)(H:Heap):Prop:=
 ∀ a w L,RelE n a e w L->RelH C w L H->wpListIn Fence.wide 1 C.P ops (lift C n w L (keys H) Q) rest a w
section W
variable{C:Ctx}{n:Nat}{ops:Array Oper}{Q:Post}{e:Env}{H:Heap}
theorem qfo.nil(h:Q .normal e H):qfo C n ops Q [] e H:=λ_ _ L hE hH=>⟨e,H,L,Fr.refl _ _ _,hH,hE,h⟩
theorem qbO{F:Fence}{m:Nat}{P:Program}{Q Q':Exit->Act->World->Prop}(h:∀ e a w,Q e a w->Q' e a w)(ho:LetsOut Q->LetsOut Q'):∀ (l:List Oper) (a:Act) (w:World),wpListIn F m P ops Q l a w->wpListIn F m P ops Q' l a w
 |[],_,_,k=>h _ _ _ k
 |o::l,a,w,k=>by
  unfold wpListIn at k ⊢;split at k
  ·rename_i hw
   rw[zp hw];refine⟨k.1,?_⟩;have k2:=k.2;generalize (o.semAt F.round a.eval).run P w=r at k2 ⊢
   cases r with
   |ok x w'=>
    cases x with
    |value v=>exact qbO h ho l _ _ k2
    |skip=>exact qbO h ho l _ _ k2
    |defer d=>exact qbO h ho l _ _ k2
    |enter f args=>
     refine⟨k2.1,k2.2.mono λe w'' he=>?_⟩
     cases e with
     |returned v=>exact qbO h ho l _ _ he
     |panicked ch=>exact h _ _ _ he
     |outgrown=>exact ho he
    |row row args=>
     refine⟨k2.1,λc cs hr=>?_⟩;obtain⟨v,w2,r2,s2⟩:=k2.2 c cs hr
     exact⟨v,w2,qbO h ho l _ _ r2,s2⟩
    |round l' f tmps avs bd=>
     refine⟨k2.1,k2.2.mono λe w'' he=>?_⟩
     cases e with
     |returned v=>exact qbO h ho l _ _ he
     |panicked ch=>exact h _ _ _ he
     |outgrown=>exact ho he
    |_=>exact k2.elim
   |halt x w'=>cases x <;> first|exact h _ _ _ k2|exact k2.elim
  rename_i hw
  rw[zn hw];exact⟨k.1,qbO h ho l _ _ k.2⟩
theorem quS{w1:World}{L1:Live}{K:List Nat}{H1:Heap}(f:Fr K w L w1 L1 H1):LetsOut (lift C n w1 L1 (keys H1) Q)->LetsOut (lift C n w L K Q):=λ⟨a,w',h⟩=>⟨a,w',qdR f h⟩
theorem qfo.pure{dst:Option Nat}{op:Op}{ty:TypeId}{pos:String}{aft:Array Edge}{rest:List Oper}{lv:LV}
  (h:Pure C ⟨dst,op,ty,pos,aft,none⟩ e H lv) (hd:qc8 n dst) (k:qfo C n ops Q rest (e.put dst lv) H):qfo C n ops Q (⟨dst,op,ty,pos,aft,none⟩::rest) e H:=λa w L hE hH=>by
 obtain⟨v,hv,hr⟩:=h a.eval w L hE.ev hH;unfold wpListIn;rw[zp (by simp[Region.wanted])];refine⟨λ_ _=>trivial,?_⟩;have hs:Oper.semAt (Fence.wide).round a.eval ⟨dst,op,ty,pos,aft,none⟩=execOp a.eval ⟨dst,op,ty,pos,aft,none⟩:=rfl;rw[hs,hr w ⟨λ_ _=>rfl,λ_ _ _=>rfl⟩];exact k _ w L (hE.put hd hv) hH
theorem qfo.yield{dst:Option Nat}{fo:Operand}{l:Nat}{args:List Operand}{ats:Array TypeId}{avs:List LV}{ty:TypeId}{pos:String}{aft:Array Edge}{rest:List Oper}{K:Heap->Prop}(hf:e.ev fo=.atom (.func (.yield l) #[] #[]))
  (has:args.map e.ev=avs) (hy:qfv C l avs H K) (hd:qc8 n dst) (k:∀ H',K H'->qfo C n ops Q rest (e.put dst (bool true)) H'):qfo C n ops Q (⟨dst,.call { callee:=.value fo,args:=args.toArray,argTypes:=ats },ty,pos,aft,none⟩::rest) e H:=λa w L hE hH=>by
 subst has;have hv:=hE.ev fo;rw[hf] at hv;simp only[Rep] at hv;obtain⟨fn,tmps,assign,body,h1,h2⟩:=hy (args.map a.eval) w L (qjD hE.ev _) hH 0;unfold wpListIn;rw[zp (by simp[Region.wanted])];refine⟨λ_ _=>trivial,?_⟩;have h3:Oper.semAt (Fence.wide).round a.eval ⟨dst,.call { callee:=.value fo,args:=args.toArray,argTypes:=ats },ty,pos,aft,none⟩=(do let d <-Deferred.ofValue (a.eval fo) (args.toArray.map a.eval);invoke d.target d.args):=rfl
 have h4:(do let d <-Deferred.ofValue (.func (.yield l) #[] #[]) (args.toArray.map a.eval);invoke d.target d.args:Sem Next).run C.P w=.ok (.round l fn tmps assign body) w:=by
  simp only[Deferred.ofValue,zRt,zRu,zRv,invoke];rw[<-h1]
  simp
 rw[h3,hv,h4];refine⟨λ_=>zNr _,h2.mono ?_⟩;rintro ex w' ⟨rfl,H',L',g1,g2,g3⟩;exact qbO (λ_ _ _=>qdR g1) (quS g1) _ _ _ (k H' g3 _ w' L' ((hE.mono g1.ext).put hd qai) g2)
theorem qah.regionW{id:Nat}{l:List Oper}(h:qfo C n l.toArray Q l e H):qah C n (.region id l.toArray false) Q e H:=λa w L hE hH=>wpIn_wide (n:=1) |>.1 (wpIn_region_lit (h a w L hE hH))
end W
def qdi(C:Ctx)(n:Nat)(rs:List ResultVar)(R:LRes->Heap->Prop):Post
 |.normal,e,H|.ret,e,H=>∃ D F,e.ds=[{ target:=.collected D,args:=#[] }]/\H.Perm ((D,.obj (.deferred (some [])))::F)/\∃ vs H',qbQ C n e F rs vs/\HSub H' F/\R (.ret (qbE vs)) H'
 |.panic ch,e,H=>(e.ds=[]/\∃ H',HSub H' H/\R (.panic ch) H')∨∃ D F,e.ds=[{ target:=.collected D,args:=#[] }]/\H.Perm ((D,.obj (.deferred (some [])))::F)/\∃ H',HSub H' F/\R (.panic ch) H'
 |_,_,_=>False
theorem LCalls.introM{f:FuncId}{fn:Func}{args:List LV}{R:LRes->Heap->Prop}(hf:C.P.funcs[f]? = some fn)(hb:fn.body=some c)(hn:fn.ntmps=n)(h3:Nat.ble fn.results.size 3=true)
  (hl:Nat.ble args.length n=true) (h:qah C n c (qdi C n fn.results.toList R) (qfy args) H):LCalls C f args H R:=λvs w L hv hH=>by
 subst hn;have hl':args.length<=fn.ntmps:=by simpa using hl
 have h3':fn.results.size<=3:=by simpa using h3
 have hlen:=hv.length;refine callsIn_wide.1 (callsIn_of_wp_marks (F:=Fence.wide) (n:=1) hf hb trivial (wpIn_wide.2 (Go.wp_mono (h _ w L ⟨?_,rfl,λi=>?_⟩ hH) λex a' w' hq=>?_)))
 simp;omega
 exact zT0;obtain⟨e',H',L',g1,g2,g3,g4⟩:=hq
 have turn:∀ {D F},H'.Perm ((D,LObj.obj (.deferred (some [])))::F)->(Instr.takeDeferred D).run C.P w'=.ok [] (w'.putObj D (.deferred none))/\Fr (keys H) w L (w'.putObj D (.deferred none)) L' F/\RelH C (w'.putObj D (.deferred none)) L' F/\Ext w' L' (w'.putObj D (.deferred none)) L':=λ{D F} hp=>by
  have g2':=g2.perm hp;obtain⟨_,_,_,hlo,_⟩:=g2'.objs _ List.mem_cons_self;have hlo':w'.heap[D]? = some (.deferred (some [])):=hlo;have ht:=qiU (o':=.deferred none) g2' rfl;have hs:HSub F ((D,LObj.obj (.deferred none))::F):=zhD zhr;have hkp:Fr (keys H) w L w' L' ((D,LObj.obj (.deferred (some [])))::F):=g1.weak ⟨[],by simpa using hp⟩;exact⟨run_takeDeferred hlo',(hkp.trans ht.1).weak hs,ht.2.weak hs,ht.1.ext⟩
 have ret:RelE fn.ntmps a' e' w' L'->(∃ D F,e'.ds=[{ target:=.collected D,args:=#[] }]/\H'.Perm ((D,.obj (.deferred (some [])))::F)/\∃ vs H'',qbQ C fn.ntmps e' F fn.results.toList vs/\HSub H'' F/\R (.ret (qbE vs)) H'') ->
   LeavesInM Fence.wide 1 C.P fn a'.tmps (qcD C w L H (λv=>R (.ret v)) (λch=>R (.panic ch))) a'.defers .returning w':=λhE hr=>by
  obtain⟨D,F,h1,hp,vs',H'',h2,h4,h5⟩:=hr;rw[hE.ds,h1];obtain⟨t1,t2,t3,t4⟩:=turn hp;refine⟨by simp,.inl ⟨D,_,rfl,t1,?_⟩⟩;obtain⟨v,r1,r2⟩:=qhS (hE.mono t4) t3 h2 h3';exact⟨v,r1,qbE vs',H'',L',t2.weak h4,t3.weak h4,r2,h5⟩
 cases ex with
 |normal=>exact ret g3 g4
 |ret=>exact ret g3 g4
 |panic ch=>
  rcases g4 with⟨h1,H'',h4,h5⟩|⟨D,F,h1,hp,H'',h4,h5⟩;show LeavesInM _ _ _ _ _ _ a'.defers _ _;rw[show a'.defers=[] from(show a'.defers=e'.ds from g3).trans h1];exact⟨H'',L',g1.weak h4,g2.weak h4,h5⟩;show LeavesInM _ _ _ _ _ _ a'.defers _ _;rw[show a'.defers=[{ target:=.collected D,args:=#[] }] from(show a'.defers=e'.ds from g3).trans h1];obtain⟨t1,t2,t3,t4⟩:=turn hp
  exact⟨by simp,.inl ⟨D,_,rfl,t1,⟨H'',L',t2.weak h4,t3.weak h4,h5⟩⟩⟩
 |exit id=>exact g4.elim
 |goto id=>exact g4.elim
 |outgrown=>exact g4.elim
section
variable{C:Ctx}{n:Nat}{Q:Post}{e:Env}{H:Heap}{k:Env->Heap->Prop}
theorem qah.mid{A:Type}(l:A->List (Nat×LV))(H1:A->Heap)(F:A->Prop)(hx:qah C n c (qaw (λe' H'=>∃ a,F a/\At (l a) (H1 a) e.ds e' H') Q) e H)(hy:∀ a,F a->∀ j:Env,j.ds=e.ds->k (Env.slots j (l a)) (H1 a)):qah C n c (qaw k Q) e H:=by
 refine qah.conseq hx ?_;rintro ex e' H' hq
 cases ex with
 |normal=>
  obtain⟨a,hF,h1,rfl,h3⟩:=hq;have:=hy a hF e' h3;rw[Env.slots_self h1.mem] at this
  exact this
 |exit id=>exact hq
 |goto id=>exact hq
 |ret=>exact hq
 |panic ch=>exact hq
 |outgrown=>exact hq
theorem cM{A:Type}{c2:Code}{Q2:Post}(l:A->List (Nat×LV))(H1:A->Heap)(F:A->Prop)(hx:qah C n c (qaw (λe' H'=>∃ a,F a/\qcF e' (l a)/\HSub (H1 a) H'/\e'.ds=e.ds) Q) e H)(hy:∀ a,F a->∀ j:Env,j.ds=e.ds->qah C n c2 Q2 (Env.slots j (l a)) (H1 a)):qah C n c (qaw (λe H=>qah C n c2 Q2 e H) Q) e H:=by
 refine qah.conseq hx ?_;rintro ex e' H' hq
 cases ex with
 |normal=>
  obtain⟨a,hF,h1,h2,h3⟩:=hq;have:=hy a hF e' h3;rw[Env.slots_self h1.mem] at this
  exact cW h2 this
 |exit id=>exact hq
 |goto id=>exact hq
 |ret=>exact hq
 |panic ch=>exact hq
 |outgrown=>exact hq
theorem qrs(hp:Pick (b,.cells ty cs) H F)(hs:SubL cs cs')(hH:RelH C w L H):RelH C w L ((b,.cells ty cs')::F):=by
 have h1:=hH.perm hp;refine⟨h1.base,h1.lbase,h1.b0,h1.wf,h1.nodup,λp hp=>?_⟩;rcases zMi.1 hp with rfl|hp;obtain⟨r1,r2,r3,xs,r4,r5⟩:=h1.objs _ List.mem_cons_self;exact⟨r1,r2,r3,xs,r4,hs.repL r5⟩;exact h1.objs p (zMo _ hp)
theorem qtz(hp:Pick (b,.cells ty cs) H F):∀ x,x∈keys ((b,LObj.cells ty cs')::F)->x∈keys H:=λx hx=>by
 have:keys ((b,LObj.cells ty cs')::F)=keys ((b,LObj.cells ty cs)::F):=rfl;rw[this] at hx;exact((hp.map (·.1)).mem_iff).2 hx
theorem qah.cellSub(hp:Pick (b,.cells ty cs) H F)(hs:SubL cs cs')(h:qah C n c Q e ((b,.cells ty cs')::F)):qah C n c Q e H:=λa w L hE hH=>
 Go.wp_mono (h a w L hE (qrs hp hs hH)) λ_ _ _=>qfY (qtz hp)
theorem LOps.perm{rest:List Oper}{H':Heap}(s:H.Perm H')(h:LOps C n ops Q rest e H'):LOps C n ops Q rest e H:=LOps.weak ⟨[],by simpa using s⟩ h
end
section
variable{C:Ctx}{e:Env}{H:Heap}{dst:Option Nat}{ty:TypeId}{pos:String}{aft:Array Edge}{g:Option (Nat×Bool)}{x:Operand}
theorem Pure.assertOk{t xT:TypeId} [ht:TConcrete C.P t]{vs:List Value}(hx:e.ev x=.atom (.iface t (.agg vs.toArray))):Pure C ⟨dst,.typeAssert x xT t true,ty,pos,aft,g⟩ e H (.tuple [.agg (vs.map .atom),bool true]):=
 .of_any λρ w L h=>⟨.tuple #[.agg vs.toArray,.bool true],by
  simp only[Rep];exact⟨[.agg vs.toArray,.bool true],rfl,by simp only[RepL,Rep];exact⟨_,_,rfl,⟨vs,rfl,qa1 vs⟩,_,_,rfl,rfl,rfl⟩⟩,λw'=>by
  obtain⟨d,hd,hm⟩:=ht.out;have h3:execOp ρ ⟨dst,.typeAssert x xT t true,ty,pos,aft,g⟩=(do Pure.pure (.value (<-Instr.typeAssert (ρ x) xT t true))):=rfl;rw[h3,qag h hx];simp only[Instr.typeAssert,zRt,qaa hd,zRv]
  cases d <;> simp_all⟩
end
theorem qay.three{Q:Post}{HF:Heap}{fuel:Nat}{listed:Array Bool}{e:Env}{i j k:Nat}(hr:Region.ready .any ops listed=[i,j,k])(h1:qal C n ops Q HF fuel listed e H i)(h2:qal C n ops Q HF fuel listed e H j)(h3:qal C n ops Q HF fuel listed e H k):qay C n ops Q HF (fuel+1) listed e H:=
 qay.all hr (by simp) λq hq=>by
  simp only[zMi,List.not_mem_nil,or_false] at hq;rcases hq with rfl|rfl|rfl;exact h1;exact h2;exact h3
theorem qay.four{Q:Post}{HF:Heap}{fuel:Nat}{listed:Array Bool}{e:Env}{i j k l:Nat}(hr:Region.ready .any ops listed=[i,j,k,l])(h1:qal C n ops Q HF fuel listed e H i)(h2:qal C n ops Q HF fuel listed e H j)(h3:qal C n ops Q HF fuel listed e H k)(h4:qal C n ops Q HF fuel listed e H l):qay C n ops Q HF (fuel+1) listed e H:=
 qay.all hr (by simp) λq hq=>by
  simp only[zMi,List.not_mem_nil,or_false] at hq;rcases hq with rfl|rfl|rfl|rfl;exact h1;exact h2;exact h3;exact h4
theorem qdk(l:List (List UInt8)):∀ v∈l.map str,v.cells.length=1:=λv hv=>by
 obtain⟨x,_,rfl⟩:=zRf hv;rfl
theorem qe1:∀ l:List (List UInt8),((l.map str).flatMap LV.cells).all qcP=true
 |[]=>rfl
 |x::l=>by
  rw[zMc,List.flatMap_cons,List.all_append,qe1 l]
  try rfl
end Go.GL
namespace Go.GL
open Go.RowKit
variable{bytes el sT xT:Nat}{k l m:List UInt8}{kt t:TypeId}{v:Value}
section
variable{C:Ctx}{e:Env}{H:Heap}{dst:Option Nat}{ty:TypeId}{pos:String}{aft:Array Edge}{g:Option (Nat×Bool)}{xT yT:TypeId}{x y:Operand}
end
section
variable{C:Ctx}{e:Env}{H:Heap}{x y:Operand}{dst:Option Nat}{ty:TypeId}{pos:String}{aft:Array Edge}{g:Option (Nat×Bool)}{K:LV->Heap->Prop}{X:List PanicEntry->Heap->Prop}
def byts(l:List UInt8):List LV:=l.map λb=>int .u8 b.toNat
theorem qhg(l:List UInt8):(byts l).length=l.length:=zLm _
theorem qmf(l m:List UInt8):byts (l++m)=byts l++byts m:=zMa
theorem qms(l:List UInt8):∀ v∈byts l,v.cells.length=1:=by
 intro v hv;obtain⟨b,_,rfl⟩:=zRf hv;rfl
theorem qnr(l:List UInt8):(byts l).flatMap LV.cells=byts l:=by
 induction l with
 |nil=>rfl
 |cons b l ih=>
  have h:byts (b::l)=int .u8 b.toNat::byts l:=rfl;rw[h,List.flatMap_cons,ih]
  try rfl
def bytV(l:List UInt8):List Value:=l.map λb=>.int .u8 b.toNat
theorem qmK(l:List UInt8):∀ v∈bytV l,(∀ cs,v≠Value.agg cs)/\(∀ cs,v≠Value.tuple cs):=by
 intro v hv;obtain⟨b,_,rfl⟩:=zRf hv;exact And.intro (λ_ h=>by cases h) (λ_ h=>by cases h)
theorem qjV{P:Program}(l:List UInt8)(w':World):(Builtin.firstCells 1 l.length (.string ⟨l.toArray⟩)).run P w'=.ok (bytV l).toArray w':=by
 have:=Go.Lib.run_firstCells_string (P:=P) w' 1 ⟨l.toArray⟩;rw[qhQ] at this;rw[this]
 try rfl
theorem qcn{w:World}{L:Live}:∀ {zs xs:List Value},RepL w L (zs.map .atom) xs->xs=zs
 |[],_,h=>by simpa only[List.map_nil,RepL] using h
 |z::zs,xs,h=>by
  simp only[zMc,RepL] at h;obtain⟨y,ys,rfl,h1,h2⟩:=h;simp only[Rep] at h1;rw[h1,qcn h2]
inductive BRow (el:TypeId):Value->List UInt8->Heap->Prop
 |nil:BRow el (.slice none 0 0) [] []
 |row {b:Nat} {l:List UInt8} {xs:List Value} (h0:l≠[]) (h1:l.length<=xs.length) (h2:xs.take l.length=bytV l):BRow el (.slice (some ⟨b,0,none⟩) l.length xs.length) l [(b,.cells el (xs.map .atom))]
theorem qbH(l:List UInt8):(bytV l).length=l.length:=zLm _
theorem qi2(l m:List UInt8):bytV (l++m)=bytV l++bytV m:=zMa
theorem qgU{w:World}{L:Live}(hH:RelH C w L []){el:TypeId}{xs:List Value}(h0:l≠[])(h1:l.length<=xs.length)(h2:xs.take l.length=bytV l)(hk:∀ v' H',BRow el v' l H'->K (.atom v') H') :
  Left C w L [] (World.push w (.cells xs.toArray el)) (.slice (some ⟨w.heap.size,0,none⟩) l.length xs.length) K:=by
 have hx:=qep hH.wf (.cells xs.toArray el) 0
 have:=qew hH (.cells xs.toArray el) 0 [(w.heap.size,.cells el (xs.map .atom))] (λp hp=>by
  simp only[List.mem_singleton] at hp;subst hp
  exact⟨rfl,by simp[Live.upd],xs,qaD,qa1 xs⟩) (by simp)
 exact⟨.atom _,_,_,this.1,this.2,qai,hk _ _ (BRow.row h0 h1 h2)⟩
theorem qae.appB [ht:TSlice C.P sT el 1] [hr:TRow C.P el 1 bytes] [hx2:TStr C.P xT]
  (hx:e.ev x=.atom v) (ha:BRow el v l H) (hy:e.ev y=str m) (hroom:(l.length+m.length) * bytes<=140737488355328)
  (hk:∀ v' H',BRow el v' (l++m) H'->K (.atom v') H'):qae C ⟨dst,.call { callee:=.builtin .append,args:=#[x,y],argTypes:=#[sT,xT] },ty,pos,aft,g⟩ e H K X:=by
 have h0:∀ (cs:Array Bool) (args:Array Value),builtin .append #[sT,xT] ty cs args=(do Pure.pure (.value (<-Builtin.append_ #[sT,xT] ty args))):=λ_ _=>rfl;have hlen:∀ w':World,(Builtin.lenOf (.string ⟨m.toArray⟩)).run C.P w'=.ok m.length w':=λw'=>by simp[Builtin.lenOf,qhQ]
 cases ha with
 |nil=>
  by_cases hne:m=[]
  subst hne;intro ρ w L h hH
  have hr:(Builtin.append_ #[sT,xT] ty #[.slice none 0 0,.string ⟨#[]⟩]).run C.P w=.ok (.slice none 0 0) w:=by
   obtain⟨i,hi,his⟩:=ht.size;simp[Builtin.append_,qaa ht.und,qaa hx2.und,sizeOf,typeInfo,hi,Builtin.lenOf,Builtin.firstCells,show(ByteArray.mk #[]).size=0 from rfl,show((ByteArray.mk #[]).extract 0 0).data=#[] from rfl]
  rw[qax,h0];simp only[List.map_toArray,zMc,List.map_nil,zRt,qag h hx,qag h hy,hr,zRv,zRu];exact⟨_,[],L,Fr.refl _ _ _,hH,qai,hk _ _ BRow.nil⟩;intro ρ w L h hH;have hpos:0<m.length:=List.length_pos_iff.2 hne
  obtain⟨cap',rest,r1,r2,r3⟩:=qby (ty:=ty) (P:=C.P) (w:=w) (sT:=sT) (xT:=xT) (a:=none) (len:=0) (cap:=0) (n:=m.length) (xv:=.string ⟨m.toArray⟩) (old:=[]) (new:=bytV m) (.inl hx2.und) hlen (λw' _=>qjV m w')
   (λw' _=>by simp[Builtin.firstCells]) (by simpa using hroom) zo
  rw[qax,h0];simp only[List.map_toArray,zMc,List.map_nil,zRt,qag h hx,qag h hy,r3,zRv,zRu,List.nil_append,Nat.zero_add];have hcl:(bytV m++rest).length=cap':=by rw[zLa,r2,qbH];omega
  obtain⟨lv,H',L',g1,g2,g3,g4⟩:=qgU (K:=K) (el:=el) (l:=m) (xs:=bytV m++rest) hH.drew hne (by rw[hcl];omega) (by rw[List.take_left' (qbH m)]) (λv' H' h'=>hk v' H' h');rw[hcl] at g3
  exact⟨lv,H',L',g1.of_drew,g2,g3,g4⟩
 |row hne h1 h2=>
  rename_i b xs
  intro ρ w L h hH;obtain⟨hb0,hbs,hl,zs,hz1,hz2⟩:=hH.objs _ (zRb rfl);have hz:=qcn hz2;subst hz;simp only at hb0 hbs hl hz1;rw[qax,h0];simp only[List.map_toArray,zMc,List.map_nil,zRt,qag h hx,qag h hy]
  by_cases hc:l.length+m.length<=zs.length
  have hrun:=qdD (ty:=ty) (P:=C.P) (w:=w) (sT:=sT) (xT:=xT) (s:=1) (a:=some ⟨b,0,none⟩) (len:=l.length) (cap:=zs.length) (n:=m.length) (xv:=.string ⟨m.toArray⟩) (new:=bytV m) (.inl hx2.und) hlen (λw' _=>qjV m w') hc;obtain⟨w',r1,r2,r3,r4,r5,r6,r7⟩:=qcd (P:=C.P) (b:=b) (off:=0+l.length * 1) (t:=el) (fr:=(0,0)) (bytV m) 0 w zs hz1 (by rw[qbH];omega) (λj _ _=>by simp) (qmK m);rw[hrun];simp only[add_mk,r1,zRv,zRu]
  have hx':(zs.take (0+l.length * 1+0)++bytV m++zs.drop (0+l.length * 1+0+(bytV m).length)).length=zs.length:=by
   simp only[zLa,List.length_take,List.length_drop,qbH];omega
  have hfin:=qeQ (v:=.slice (some ⟨b,0,none⟩) (l.length+m.length) zs.length) (lv:=.atom (.slice (some ⟨b,0,none⟩) (l.length+m.length) zs.length)) (K:=K) (cs':=(zs.take (0+l.length * 1+0)++bytV m++zs.drop (0+l.length * 1+0+(bytV m).length)).map .atom) hH r2 r3 r4 r5 r6 r7 (by rw[hx',zLm]) (qa1 _) qai (by
   have hb:BRow el (.slice (some ⟨b,0,none⟩) (l++m).length (zs.take (0+l.length * 1+0)++bytV m++zs.drop (0+l.length * 1+0+(bytV m).length)).length) (l++m) _:=BRow.row (b:=b) (el:=el) (by simp[hne]) (by rw[hx',zLa];exact hc) (by
    have he:0+l.length * 1+0=l.length:=by omega
    rw[he,h2,<-qi2,List.take_left' (qbH _)])
   rw[hx',zLa] at hb
   exact hk _ _ hb)
  exact hfin
  have hold:∀ w':World,w'.heap=w.heap->(Builtin.firstCells 1 l.length (.slice (some ⟨b,0,none⟩) l.length zs.length)).run C.P w'=.ok (bytV l).toArray w':=λw' hw=>by
   have:=qbA (P:=C.P) (w:=w') (b:=b) (off:=0) l.length 0 #[] (bytV l) (qbH l) (λj x' hj=>by
    have hj':zs[j]? = some x':=by
     rw[<-h2,List.getElem?_take] at hj;split at hj;exact hj;cases hj
    simp[World.cell?,hw,hz1,hj'])
   simp only[Builtin.firstCells,loadCells,Nat.mul_one,this]
   simp
  obtain⟨cap',rest,r1,r2,r3⟩:=qby (ty:=ty) (P:=C.P) (w:=w) (sT:=sT) (xT:=xT) (a:=some ⟨b,0,none⟩) (len:=l.length) (cap:=zs.length) (n:=m.length) (xv:=.string ⟨m.toArray⟩) (old:=bytV l) (new:=bytV m) (.inl hx2.und) hlen (λw' _=>qjV m w') hold hroom zo;rw[r3];simp only[zRv,zRu];have hcl:(bytV l++bytV m++rest).length=cap':=by rw[zLa,zLa,r2,qbH,qbH];omega
  have hH0:RelH C w L []:=hH.sub (List.nil_sublist _);obtain⟨lv,H',L',g1,g2,g3,g4⟩:=qgU (K:=K) (el:=el) (l:=l++m) (xs:=bytV l++bytV m++rest) hH0.drew (by simp[hne]) (by rw[hcl,zLa];omega) (by rw[<-qi2,List.take_left' (qbH _)]) (λv' H' h'=>hk v' H' h');rw[hcl,zLa] at g3;exact⟨lv,H',L',g1.of_drew.wide (by simp),g2,g3,g4⟩
theorem S.appB1 [ht:TSlice C.P sT el 1] [hr:TRow C.P el 1 bytes] [hx2:TStr C.P xT]{H1:Heap}{q:Nat×LObj}
  (hx:e.ev x=.atom v) (ha:BRow el v l H1) (hy:e.ev y=str m) (hroom:(l.length+m.length) * bytes<=140737488355328)
  (hk:∀ v' H',BRow el v' (l++m) H'->K (.atom v') (q::H')):qae C ⟨dst,.call { callee:=.builtin .append,args:=#[x,y],argTypes:=#[sT,xT] },ty,pos,aft,g⟩ e (q::H1) K X:=by
 refine qae.conseq (K:=λlv H'=>∃ v' H2,lv=.atom v'/\H'=H2++[q]/\BRow el v' (l++m) H2) (qae.frame (List.perm_append_singleton _ _).symm (qae.appB hx ha hy hroom λv' H' h=>⟨v',H',rfl,rfl,h⟩)) ?_;rintro lv H' ⟨v',H2,rfl,rfl,h⟩;exact⟨_,[q]++H2,vR _,⟨[],by simp⟩,hk _ _ h⟩
end
structure SetMap(es:Array MapEntry)(p:List UInt8->Bool):Prop where
 keys:∀ e∈es.toList,∃ s:List UInt8,e.key=.string ⟨s.toArray⟩/\e.val=.bool true/\p s=true
 all:∀ s,p s=true->∃ e∈es.toList,e.key=.string ⟨s.toArray⟩
theorem SetMap.nil:SetMap #[] λ_=>false:=⟨λe he=>by simp at he,λs h=>by cases h⟩
theorem qdn(a b:List UInt8):((⟨a.toArray⟩:ByteArray) == ⟨b.toArray⟩)=decide (a=b):=by
 show(a.toArray == b.toArray)=_;rw[Bool.eq_iff_iff]
 simp
theorem qhL(k:List UInt8):∀ (es:List MapEntry) (i:Nat),(∀ e∈es,∃ s:List UInt8,e.key=.string ⟨s.toArray⟩/\e.val=.bool true)->(∃ e∈es,e.key=.string ⟨k.toArray⟩) ->
  ∃ (j:Nat) (e:MapEntry),Instr.findNow .string (.string ⟨k.toArray⟩) es i=some (some (i+j,.bool true))/\es[j]? = some e/\e.key=.string ⟨k.toArray⟩
 |[],_,_,h=>by obtain⟨e,he,_⟩:=h;cases he
 |e::es,i,h,hk=>by
  obtain⟨s,h1,h2⟩:=h e List.mem_cons_self
  by_cases hs:k=s
  refine⟨0,e,?_,rfl,by rw[h1,hs]⟩;have hb:((⟨k.toArray⟩:ByteArray) == ⟨s.toArray⟩)=true:=by rw[qdn,zRp hs]
  simp only[Instr.findNow,h1,Instr.sameNow,hb,h2,Nat.add_zero];have hb:((⟨k.toArray⟩:ByteArray) == ⟨s.toArray⟩)=false:=by rw[qdn,decide_eq_false hs]
  obtain⟨e',he',hk'⟩:=hk
  have hin:e'∈es:=by
   rcases zMi.1 he' with rfl|h3;rw[h1] at hk';have:s=k:=by simpa using hk'
   exact absurd this.symm hs;exact h3
  obtain⟨j,e2,g1,g2,g3⟩:=qhL k es (i+1) (λx hx=>h x (zMo _ hx)) ⟨e',hin,hk'⟩;refine⟨j+1,e2,?_,g2,g3⟩;simp only[Instr.findNow,h1,Instr.sameNow,hb];rw[g1];congr 3;omega
section
variable{C:Ctx}{e:Env}{H:Heap}{dst:Option Nat}{ty:TypeId}{pos:String}{aft:Array Edge}{g:Option (Nat×Bool)}{K:LV->Heap->Prop}{X:List PanicEntry->Heap->Prop}{x y:Operand}
theorem qb6{w:World}(hkt:C.P.underlying kt=some .string)(b:Bool)(k:ByteArray):(Instr.checkKey b 10000 kt (.string k)).run C.P w=.ok () w:=by
 have hck:Instr.checkKey b 10000 kt (.string k)=Instr.checkKey b (9999+1) kt (.string k):=rfl;rw[hck,Instr.checkKey];simp only[zRt,qaa hkt,zRv,zRu]
theorem S.setAdd{el:TypeId}(ht:C.P.underlying t=some (.map kt el))(hkt:C.P.underlying kt=some .string){b clock:Nat}{es:Array MapEntry}{p:List UInt8->Bool}{F:Heap}{m z:Operand}(hm:e.ev m=.atom (.map (some b)))(hx:e.ev x=str k)(hz:e.ev z=bool true)
  (hp:Pick (b,.obj (.map es clock)) H F) (hs:SetMap es p) (hk:∀ es' clock',SetMap es' (λs=>p s || decide (s=k))->K (.atom undef) ((b,.obj (.map es' clock'))::F)):qae C ⟨dst,.insert t m x z,ty,pos,aft,g⟩ e H K X:=by
 by_cases hin:p k=true
 ·refine qae.at1 hp λρ w L h hH=>?_;obtain⟨hb0,hbs,hl,hx1,hx2⟩:=hH.objs _ (zRb rfl);simp only at hb0 hbs hl hx1 hx2;have h3:execOp ρ ⟨dst,.insert t m x z,ty,pos,aft,g⟩=(do Instr.mapUpdate t (ρ m) (ρ x) (ρ z);Pure.pure .skip):=rfl;obtain⟨j,e2,g1,g2,g3⟩:=qhL k es.toList 0 (λe he=>by obtain⟨s,h1,h2,_⟩:=hs.keys e he;exact⟨s,h1,h2⟩) (hs.all k hin)
  have hf:(Instr.findKey kt (.string ⟨k.toArray⟩) es.toList).run C.P w=.ok (some (0+j,.bool true)) w:=by
   simp only[Instr.findKey,zRt,qaa hkt,zRv,g1,zRu]
  have hg:(getObj b).run C.P w=.ok (.map es clock) w:=by simp only[getObj,Sem.run,hx1]
  have hg2:es[j]? = some e2:=by simpa using g2
  have hst:(Instr.keyThatStays (((es[0+j]?).map (·.key)).getD (.string ⟨k.toArray⟩)) (.string ⟨k.toArray⟩)).run C.P w=.ok (.string ⟨k.toArray⟩) w:=by
   rw[Nat.zero_add,hg2];simp only[Option.map_some,Option.getD_some,g3];unfold Instr.keyThatStays;rw[zp (by simp only[Instr.sameBits];rw[qdn];simp)]
   try rfl
  rw[h3,qag h hm,qag h hx,qag h hz];simp only[Instr.mapUpdate,zRt,qaa ht,zRv,hg,qb6 hkt,hf,hst];have hset:∀ o',(setObj b o').run C.P w=.ok () (setW w b o'):=λo'=>qeJ hx1 rfl;rw[hset];refine qhx (w':=setW w b _) hH rfl rfl rfl rfl (by simp[setW]) (λc hc=>qdU hc) (qeF hbs) (λ_=>qai) (hk _ clock ⟨λe' he'=>?_,λs hs'=>?_⟩);rw[Nat.zero_add] at he';obtain⟨i,hi,rfl⟩:=List.mem_iff_getElem.1 he';simp only[Array.length_toList,Array.size_modify] at hi;rw[Array.getElem_toList,Array.getElem_modify];split;exact⟨k,rfl,rfl,by simp⟩;obtain⟨s,h1,h2,h4⟩:=hs.keys es[i] (by simp);exact⟨s,h1,h2,by simp[h4]⟩
  have hps:p s=true:=by
   rcases Bool.or_eq_true_iff.1 hs' with h4|h4;exact h4;rw[zt h4];exact hin
  obtain⟨e3,h5,h6⟩:=hs.all s hps;obtain⟨i,hi,rfl⟩:=List.mem_iff_getElem.1 h5;simp only[Array.length_toList] at hi;rw[Array.getElem_toList] at h6;rw[Nat.zero_add]
  by_cases hij:j=i
  refine⟨{ es[i] with key:=.string ⟨k.toArray⟩,val:=.bool true },?_,?_⟩;rw[List.mem_iff_getElem];refine⟨i,by simpa using hi,?_⟩;rw[Array.getElem_toList,Array.getElem_modify,zp hij];subst hij;rw[Array.getElem?_eq_getElem hi] at hg2;obtain rfl:=Option.some.inj hg2;rw[g3] at h6;exact h6;refine⟨es[i],?_,h6⟩;rw[List.mem_iff_getElem];refine⟨i,by simpa using hi,?_⟩;rw[Array.getElem_toList,Array.getElem_modify,zn hij]
 refine S.insert ht hkt hm hx hz hp (λe he=>?_) (hk _ _ ⟨λe' he'=>?_,λs hs'=>?_⟩);obtain⟨s,h1,_,h2⟩:=hs.keys e he;refine⟨_,h1,?_⟩;rw[qdn];intro h3;rw[zt h3] at hin;exact hin h2;rw[Array.toList_push] at he';rcases zRd he' with h1|h1;obtain⟨s,h2,h3,h4⟩:=hs.keys e' h1;exact⟨s,h2,h3,by simp[h4]⟩;obtain rfl:=zRa h1;exact⟨k,rfl,rfl,by simp⟩;rw[Array.toList_push];rcases Bool.or_eq_true_iff.1 hs' with h4|h4;obtain⟨e,h5,h6⟩:=hs.all s h4;exact⟨e,List.mem_append_left _ h5,h6⟩;exact⟨_,List.mem_append_right _ (zRb rfl),by rw[zt h4]⟩
theorem Pure.setGet{el:TypeId}(ht:C.P.underlying t=some (.map kt el))(hkt:C.P.underlying kt=some .string)(hz:∀ w,(zeroValue el).run C.P w=.ok (.bool false) w){b clock:Nat}{es:Array MapEntry}{p:List UInt8->Bool}(hm:e.ev x=.atom (.map (some b)))(hx:e.ev y=str k)
  (hb:(b,.obj (.map es clock))∈H) (hs:SetMap es p):Pure C ⟨dst,.lookup t x y false,ty,pos,aft,g⟩ e H (bool (p k)):=λρ w L h hH=>by
 obtain⟨_,_,_,hx1,_⟩:=hH.objs _ hb;simp only at hx1;refine⟨.bool (p k),qai,λw' ha=>?_⟩;have hw:w'.heap[b]? = some (.map es clock):=(ha.1 _ hb).trans hx1;have h3:execOp ρ ⟨dst,.lookup t x y false,ty,pos,aft,g⟩=(do Pure.pure (.value (<-Instr.lookup t (ρ x) (ρ y) false))):=rfl;have hg:(getObj b).run C.P w'=.ok (.map es clock) w':=by simp only[getObj,Sem.run,hw]
 rw[h3,qag h hm,qag h hx]
 by_cases hin:p k=true
 obtain⟨j,e2,g1,g2,g3⟩:=qhL k es.toList 0 (λe he=>by obtain⟨s,h1,h2,_⟩:=hs.keys e he;exact⟨s,h1,h2⟩) (hs.all k hin)
 have hf:(Instr.findKey kt (.string ⟨k.toArray⟩) es.toList).run C.P w'=.ok (some (0+j,.bool true)) w':=by
  simp only[Instr.findKey,zRt,qaa hkt,zRv,g1,zRu]
 simp only[Instr.lookup,zRt,qaa ht,zRv,hg,zRu,qb6 hkt,hf,hin];rfl
 have hf:(Instr.findKey kt (.string ⟨k.toArray⟩) es.toList).run C.P w'=.ok none w':=by
  have hmiss:=qgx ⟨k.toArray⟩ es.toList 0 λe he=>by
   obtain⟨s,h1,_,h2⟩:=hs.keys e he;refine⟨_,h1,?_⟩;rw[qdn];intro h3;rw[zt h3] at hin;exact hin h2
  simp only[Instr.findKey,zRt,qaa hkt,zRv,hmiss,zRu]
 have hin':p k=false:=Bool.eq_false_iff.2 hin;simp only[Instr.lookup,zRt,qaa ht,zRv,hg,zRu,qb6 hkt,hf,hz,hin'];rfl
end
section
variable{C:Ctx}{e:Env}{H:Heap}{dst:Option Nat}{ty:TypeId}{pos:String}{aft:Array Edge}{g:Option (Nat×Bool)}{K:LV->Heap->Prop}{X:List PanicEntry->Heap->Prop}{x y:Operand}
theorem Pure.nilGet{el:TypeId}(ht:C.P.underlying t=some (.map kt el))(hkt:C.P.underlying kt=some .string)(hz:∀ w,(zeroValue el).run C.P w=.ok (.int .i64 0) w)(hm:e.ev x=.atom (.map none))(hx:e.ev y=str k):Pure C ⟨dst,.lookup t x y false,ty,pos,aft,g⟩ e H (int .i64 0):=λρ w L h hH=>by
 refine⟨.int .i64 0,qai,λw' ha=>?_⟩;have h3:execOp ρ ⟨dst,.lookup t x y false,ty,pos,aft,g⟩=(do Pure.pure (.value (<-Instr.lookup t (ρ x) (ρ y) false))):=rfl;rw[h3,qag h hm,qag h hx]
 have hf:(Instr.findKey kt (.string ⟨k.toArray⟩) []).run C.P w'=.ok none w':=by
  simp only[Instr.findKey,zRt,qaa hkt,zRv,Instr.findNow,zRu]
 simp only[Instr.lookup,zRt,qaa ht,zRv,zRu,qb6 hkt,hf,hz];rfl
end
section
variable{C:Ctx}{e:Env}{H:Heap}{x y:Operand}{dst:Option Nat}{ty:TypeId}{pos:String}{aft:Array Edge}{g:Option (Nat×Bool)}{K:LV->Heap->Prop}{X:List PanicEntry->Heap->Prop}
theorem qae.appBL [ht:TSlice C.P sT el 1] [hr:TRow C.P el 1 bytes]{e2:Nat} [hx2:TSlice C.P xT e2 1]
  (hx:e.ev x=.atom v) (ha:BRow el v l H) (hy:GL.elems (e.ev y)=some (byts m)) (hm0:m≠[]) (hroom:(l.length+m.length) * bytes<=140737488355328)
  (hk:∀ v' H',BRow el v' (l++m) H'->K (.atom v') H'):qae C ⟨dst,.call { callee:=.builtin .append,args:=#[x,y],argTypes:=#[sT,xT] },ty,pos,aft,g⟩ e H K X:=by
 have h0:∀ (cs:Array Bool) (args:Array Value),builtin .append #[sT,xT] ty cs args=(do Pure.pure (.value (<-Builtin.append_ #[sT,xT] ty args))):=λ_ _=>rfl
 cases ha with
 |nil=>
  by_cases hne:m=[]
  subst hne;exact absurd rfl hm0;intro ρ w L h hH;have hpos:0<m.length:=List.length_pos_iff.2 hne;obtain⟨ay,cy,xs0,hyv,hyc,hyr,hyl,hyf⟩:=qcJ (s:=1) (h y) hy (qms m);rw[qnr] at hyr;have hyx:xs0=bytV m:=qcn (zs:=bytV m) (by rw[show(bytV m).map LV.atom=byts m from by simp[bytV,byts,List.map_map,Function.comp_def]];exact hyr);subst hyx;rw[qhg] at hyv hyc hyf;rw[hyv] at hyf;have hlen:∀ w':World,(Builtin.lenOf (.slice ay m.length cy)).run C.P w'=.ok m.length w':=λw'=>by simp[Builtin.lenOf]
  obtain⟨cap',rest,r1,r2,r3⟩:=qby (ty:=ty) (P:=C.P) (w:=w) (sT:=sT) (xT:=xT) (a:=none) (len:=0) (cap:=0) (n:=m.length) (xv:=.slice ay m.length cy) (old:=[]) (new:=bytV m) (.inr ⟨_,hx2.und⟩) hlen (λw' hw=>hyf C.P w' hw)
   (λw' _=>by simp[Builtin.firstCells]) (by simpa using hroom) zo
  rw[qax,h0];simp only[List.map_toArray,zMc,List.map_nil,zRt,qag h hx,hyv,r3,zRv,zRu,List.nil_append,Nat.zero_add];have hcl:(bytV m++rest).length=cap':=by rw[zLa,r2,qbH];omega
  obtain⟨lv,H',L',g1,g2,g3,g4⟩:=qgU (K:=K) (el:=el) (l:=m) (xs:=bytV m++rest) hH.drew hne (by rw[hcl];omega) (by rw[List.take_left' (qbH m)]) (λv' H' h'=>hk v' H' h');rw[hcl] at g3
  exact⟨lv,H',L',g1.of_drew,g2,g3,g4⟩
 |row hne h1 h2=>
  rename_i b xs
  intro ρ w L h hH;obtain⟨hb0,hbs,hl,zs,hz1,hz2⟩:=hH.objs _ (zRb rfl);have hz:=qcn hz2;subst hz;simp only at hb0 hbs hl hz1;obtain⟨ay,cy,xs0,hyv,hyc,hyr,hyl,hyf⟩:=qcJ (s:=1) (h y) hy (qms m);rw[qnr] at hyr;have hyx:xs0=bytV m:=qcn (zs:=bytV m) (by rw[show(bytV m).map LV.atom=byts m from by simp[bytV,byts,List.map_map,Function.comp_def]];exact hyr);subst hyx;rw[qhg] at hyv hyc hyf;rw[hyv] at hyf;have hlen:∀ w':World,(Builtin.lenOf (.slice ay m.length cy)).run C.P w'=.ok m.length w':=λw'=>by simp[Builtin.lenOf]
  rw[qax,h0];simp only[List.map_toArray,zMc,List.map_nil,zRt,qag h hx,hyv]
  by_cases hc:l.length+m.length<=zs.length
  have hrun:=qdD (ty:=ty) (P:=C.P) (w:=w) (sT:=sT) (xT:=xT) (s:=1) (a:=some ⟨b,0,none⟩) (len:=l.length) (cap:=zs.length) (n:=m.length) (xv:=.slice ay m.length cy) (new:=bytV m) (.inr ⟨_,hx2.und⟩) hlen (λw' hw=>hyf C.P w' hw) hc;obtain⟨w',r1,r2,r3,r4,r5,r6,r7⟩:=qcd (P:=C.P) (b:=b) (off:=0+l.length * 1) (t:=el) (fr:=(0,0)) (bytV m) 0 w zs hz1 (by rw[qbH];omega) (λj _ _=>by simp) (qmK m);rw[hrun];simp only[add_mk,r1,zRv,zRu]
  have hx':(zs.take (0+l.length * 1+0)++bytV m++zs.drop (0+l.length * 1+0+(bytV m).length)).length=zs.length:=by
   simp only[zLa,List.length_take,List.length_drop,qbH];omega
  have hfin:=qeQ (v:=.slice (some ⟨b,0,none⟩) (l.length+m.length) zs.length) (lv:=.atom (.slice (some ⟨b,0,none⟩) (l.length+m.length) zs.length)) (K:=K) (cs':=(zs.take (0+l.length * 1+0)++bytV m++zs.drop (0+l.length * 1+0+(bytV m).length)).map .atom) hH r2 r3 r4 r5 r6 r7 (by rw[hx',zLm]) (qa1 _) qai (by
   have hb:BRow el (.slice (some ⟨b,0,none⟩) (l++m).length (zs.take (0+l.length * 1+0)++bytV m++zs.drop (0+l.length * 1+0+(bytV m).length)).length) (l++m) _:=BRow.row (b:=b) (el:=el) (by simp[hne]) (by rw[hx',zLa];exact hc) (by
    have he:0+l.length * 1+0=l.length:=by omega
    rw[he,h2,<-qi2,List.take_left' (qbH _)])
   rw[hx',zLa] at hb
   exact hk _ _ hb)
  exact hfin
  have hold:∀ w':World,w'.heap=w.heap->(Builtin.firstCells 1 l.length (.slice (some ⟨b,0,none⟩) l.length zs.length)).run C.P w'=.ok (bytV l).toArray w':=λw' hw=>by
   have:=qbA (P:=C.P) (w:=w') (b:=b) (off:=0) l.length 0 #[] (bytV l) (qbH l) (λj x' hj=>by
    have hj':zs[j]? = some x':=by
     rw[<-h2,List.getElem?_take] at hj;split at hj;exact hj;cases hj
    simp[World.cell?,hw,hz1,hj'])
   simp only[Builtin.firstCells,loadCells,Nat.mul_one,this]
   simp
  obtain⟨cap',rest,r1,r2,r3⟩:=qby (ty:=ty) (P:=C.P) (w:=w) (sT:=sT) (xT:=xT) (a:=some ⟨b,0,none⟩) (len:=l.length) (cap:=zs.length) (n:=m.length) (xv:=.slice ay m.length cy) (old:=bytV l) (new:=bytV m) (.inr ⟨_,hx2.und⟩) hlen (λw' hw=>hyf C.P w' hw) hold hroom zo;rw[r3];simp only[zRv,zRu];have hcl:(bytV l++bytV m++rest).length=cap':=by rw[zLa,zLa,r2,qbH,qbH];omega
  have hH0:RelH C w L []:=hH.sub (List.nil_sublist _);obtain⟨lv,H',L',g1,g2,g3,g4⟩:=qgU (K:=K) (el:=el) (l:=l++m) (xs:=bytV l++bytV m++rest) hH0.drew (by simp[hne]) (by rw[hcl,zLa];omega) (by rw[<-qi2,List.take_left' (qbH _)]) (λv' H' h'=>hk v' H' h');rw[hcl,zLa] at g3;exact⟨lv,H',L',g1.of_drew.wide (by simp),g2,g3,g4⟩
theorem S.appBL1 [ht:TSlice C.P sT el 1] [hr:TRow C.P el 1 bytes]{e2:Nat} [hx2:TSlice C.P xT e2 1]{H1:Heap}{q:Nat×LObj}
  (hx:e.ev x=.atom v) (ha:BRow el v l H1) (hy:GL.elems (e.ev y)=some (byts m)) (hm0:m≠[]) (hroom:(l.length+m.length) * bytes<=140737488355328)
  (hk:∀ v' H',BRow el v' (l++m) H'->K (.atom v') (q::H')):qae C ⟨dst,.call { callee:=.builtin .append,args:=#[x,y],argTypes:=#[sT,xT] },ty,pos,aft,g⟩ e (q::H1) K X:=by
 refine qae.conseq (K:=λlv H'=>∃ v' H2,lv=.atom v'/\H'=H2++[q]/\BRow el v' (l++m) H2) (qae.frame (List.perm_append_singleton _ _).symm (qae.appBL hx ha hy hm0 hroom λv' H' h=>⟨v',H',rfl,rfl,h⟩)) ?_;rintro lv H' ⟨v',H2,rfl,rfl,h⟩;exact⟨_,[q]++H2,vR _,⟨[],by simp⟩,hk _ _ h⟩
theorem Pure.blen{t el2 s:Nat} [TSlice C.P t el2 s]{Hv:Heap}(hx:e.ev x=.atom v)(ha:BRow el v l Hv):Pure C ⟨dst,.call { callee:=.builtin .len,args:=#[x],argTypes:=#[t] },ty,pos,aft,g⟩ e H (int .i64 l.length):=
 .of_any λρ _ _ h=>⟨_,qai,λw'=>by
  have hu:=qaa (P:=C.P) (TSlice.und (t:=t)) w';rw[qax,qer]
  cases ha <;> simp[Builtin.len_,hu,goInt,qag h hx]⟩
end
end Go.GL
