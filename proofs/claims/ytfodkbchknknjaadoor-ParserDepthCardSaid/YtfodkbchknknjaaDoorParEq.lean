/- Equality of syntax trees, as the programs compare them, in plain Lean. -/
import Derived.Test.YtfodkbchknknjaaDoorParSpec2
namespace Go.Stele
def exOp : Ex → List UInt8 | .mk o _ _ _ => o
def exNum : Ex → Nat | .mk _ n _ _ => n
def exName : Ex → List UInt8 | .mk _ _ n _ => n
def exArgs : Ex → List Ex | .mk _ _ _ a => a
def smKind : Sm → Int | .mk k _ _ _ _ _ => k
def smName : Sm → List UInt8 | .mk _ n _ _ _ _ => n
def smIndex : Sm → List Ex | .mk _ _ i _ _ _ => i
def smValue : Sm → List Ex | .mk _ _ _ v _ _ => v
def smThen : Sm → List Sm | .mk _ _ _ _ t _ => t
def smElse : Sm → List Sm | .mk _ _ _ _ _ e => e
mutual
def eqEx : Ex → Ex → Bool
  | .mk o n nm a, .mk o' n' nm' a' => decide (o = o') && decide ((n : Int) = (n' : Int)) && decide (nm = nm') && eqExs a a'
def eqExs : List Ex → List Ex → Bool
  | [], [] => true
  | x :: xs, y :: ys => eqEx x y && eqExs xs ys
  | _, _ => false
end
mutual
def eqSm : Sm → Sm → Bool
  | .mk k n i v t e, .mk k' n' i' v' t' e' => decide (k = k') && decide (n = n') && eqExs i i' && eqExs v v' && eqSms t t' && eqSms e e'
def eqSms : List Sm → List Sm → Bool
  | [], [] => true
  | x :: xs, y :: ys => eqSm x y && eqSms xs ys
  | _, _ => false
end
def eqList {A : Type} (f : A → A → Bool) : List A → List A → Bool
  | [], [] => true
  | x :: xs, y :: ys => f x y && eqList f xs ys
  | _, _ => false
def eqNames : List (List UInt8) → List (List UInt8) → Bool := eqList fun a b => decide (a = b)
def eqAr (a b : Ar) : Bool := decide (a.name = b.name) && decide ((a.size : Int) = (b.size : Int))
def eqFn (a b : FnD) : Bool := decide (a.name = b.name) && eqNames a.params b.params && eqNames a.locals b.locals && eqSms a.body b.body
def eqPr (a b : Pr) : Bool := eqNames a.vars b.vars && eqList eqAr a.arrays b.arrays && eqList eqFn a.funcs b.funcs
mutual
theorem eqEx_iff : ∀ a b : Ex, eqEx a b = true ↔ a = b
  | .mk o n nm a, .mk o' n' nm' a' => by
    rw [eqEx]
    simp only [Bool.and_eq_true, decide_eq_true_eq, eqExs_iff a a', Ex.mk.injEq]
    constructor
    · rintro ⟨⟨⟨h1, h2⟩, h3⟩, h4⟩; exact ⟨h1, by omega, h3, h4⟩
    · rintro ⟨h1, h2, h3, h4⟩; exact ⟨⟨⟨h1, by omega⟩, h3⟩, h4⟩
theorem eqExs_iff : ∀ a b : List Ex, eqExs a b = true ↔ a = b
  | [], [] => by simp [eqExs]
  | x :: xs, [] => by simp [eqExs]
  | [], y :: ys => by simp [eqExs]
  | x :: xs, y :: ys => by rw [eqExs]; simp [eqEx_iff x y, eqExs_iff xs ys]
end
mutual
theorem eqSm_iff : ∀ a b : Sm, eqSm a b = true ↔ a = b
  | .mk k n i v t e, .mk k' n' i' v' t' e' => by
    rw [eqSm]
    simp [eqExs_iff, eqSms_iff t t', eqSms_iff e e', and_assoc]
theorem eqSms_iff : ∀ a b : List Sm, eqSms a b = true ↔ a = b
  | [], [] => by simp [eqSms]
  | x :: xs, [] => by simp [eqSms]
  | [], y :: ys => by simp [eqSms]
  | x :: xs, y :: ys => by rw [eqSms]; simp [eqSm_iff x y, eqSms_iff xs ys]
end
theorem eqList_iff {A : Type} {f : A → A → Bool} (h : ∀ a b, f a b = true ↔ a = b) : ∀ a b : List A, eqList f a b = true ↔ a = b
  | [], [] => by simp [eqList]
  | x :: xs, [] => by simp [eqList]
  | [], y :: ys => by simp [eqList]
  | x :: xs, y :: ys => by rw [eqList]; simp [h x y, eqList_iff h xs ys]
theorem eqNames_iff (a b : List (List UInt8)) : eqNames a b = true ↔ a = b := eqList_iff (by simp) a b
theorem eqAr_iff (a b : Ar) : eqAr a b = true ↔ a = b := by
  obtain ⟨n, s⟩ := a
  obtain ⟨n', s'⟩ := b
  simp only [eqAr, Bool.and_eq_true, decide_eq_true_eq, Ar.mk.injEq]
  constructor
  · rintro ⟨h1, h2⟩; exact ⟨h1, by omega⟩
  · rintro ⟨h1, h2⟩; exact ⟨h1, by omega⟩
theorem eqFn_iff (a b : FnD) : eqFn a b = true ↔ a = b := by
  obtain ⟨n, p, l, c⟩ := a
  obtain ⟨n', p', l', c'⟩ := b
  simp [eqFn, eqNames_iff, eqSms_iff, and_assoc]
theorem eqPr_iff (a b : Pr) : eqPr a b = true ↔ a = b := by
  obtain ⟨v, r, f⟩ := a
  obtain ⟨v', r', f'⟩ := b
  simp [eqPr, eqNames_iff, eqList_iff eqAr_iff, eqList_iff eqFn_iff, and_assoc]
/-- Lists are compared place by place. -/
theorem eqExs_list : ∀ a b : List Ex, eqExs a b = eqList eqEx a b
  | [], [] => by simp [eqExs, eqList]
  | x :: xs, [] => by simp [eqExs, eqList]
  | [], y :: ys => by simp [eqExs, eqList]
  | x :: xs, y :: ys => by rw [eqExs, eqList, eqExs_list xs ys]
theorem eqSms_list : ∀ a b : List Sm, eqSms a b = eqList eqSm a b
  | [], [] => by simp [eqSms, eqList]
  | x :: xs, [] => by simp [eqSms, eqList]
  | [], y :: ys => by simp [eqSms, eqList]
  | x :: xs, y :: ys => by rw [eqSms, eqList, eqSms_list xs ys]
theorem eqList_len {A : Type} {f : A → A → Bool} : ∀ a b : List A, a.length ≠ b.length → eqList f a b = false
  | [], [], h => absurd rfl h
  | x :: xs, [], _ => rfl
  | [], y :: ys, _ => rfl
  | x :: xs, y :: ys, h => by
    rw [eqList, eqList_len xs ys (by simpa using h), Bool.and_false]
theorem eqList_drop {A : Type} {f : A → A → Bool} {a b : List A} {i : Nat} (h : i < a.length) (h' : i < b.length) : eqList f (a.drop i) (b.drop i) = (f a[i] b[i] && eqList f (a.drop (i + 1)) (b.drop (i + 1))) := by
  rw [List.drop_eq_getElem_cons h, List.drop_eq_getElem_cons h', eqList]
theorem eqList_end {A : Type} {f : A → A → Bool} {a b : List A} {i : Nat} (h : a.length ≤ i) (h' : b.length ≤ i) : eqList f (a.drop i) (b.drop i) = true := by
  rw [List.drop_eq_nil_of_le h, List.drop_eq_nil_of_le h', eqList]
mutual
/-- How many nodes a tree has. -/
def nEx : Ex → Nat
  | .mk _ _ _ a => 1 + nExs a
def nExs : List Ex → Nat
  | [] => 0
  | x :: xs => nEx x + nExs xs
end
mutual
def nSm : Sm → Nat
  | .mk _ _ i v t e => 1 + nExs i + nExs v + nSms t + nSms e
def nSms : List Sm → Nat
  | [] => 0
  | x :: xs => nSm x + nSms xs
end
def nFn (f : FnD) : Nat := 1 + f.params.length + f.locals.length + nSms f.body
def nFns : List FnD → Nat
  | [] => 0
  | x :: xs => nFn x + nFns xs
def nPr (p : Pr) : Nat := p.vars.length + p.arrays.length + nFns p.funcs
theorem nEx_eq (x : Ex) : nEx x = 1 + nExs (exArgs x) := by
  obtain ⟨o, n, nm, l⟩ := x
  rw [nEx]
  rfl
theorem nSm_eq (x : Sm) : nSm x = 1 + nExs (smIndex x) + nExs (smValue x) + nSms (smThen x) + nSms (smElse x) := by
  obtain ⟨k, n, i, v, t, e⟩ := x
  rw [nSm]
  rfl
theorem nExs_mem : ∀ {a : List Ex} {x : Ex}, x ∈ a → nEx x ≤ nExs a
  | y :: ys, x, h => by
    rw [nExs]
    rcases List.mem_cons.1 h with rfl | h
    · omega
    · have := nExs_mem h
      omega
theorem nSms_mem : ∀ {a : List Sm} {x : Sm}, x ∈ a → nSm x ≤ nSms a
  | y :: ys, x, h => by
    rw [nSms]
    rcases List.mem_cons.1 h with rfl | h
    · omega
    · have := nSms_mem h
      omega
theorem nFns_mem : ∀ {a : List FnD} {x : FnD}, x ∈ a → nFn x ≤ nFns a
  | y :: ys, x, h => by
    rw [nFns]
    rcases List.mem_cons.1 h with rfl | h
    · omega
    · have := nFns_mem h
      omega
theorem nExs_len : ∀ a : List Ex, a.length ≤ nExs a
  | [] => Nat.zero_le _
  | x :: xs => by
    have h1 := nExs_len xs
    have h2 := nEx_eq x
    rw [nExs, List.length_cons]
    omega
theorem nSms_len : ∀ a : List Sm, a.length ≤ nSms a
  | [] => Nat.zero_le _
  | x :: xs => by
    have h1 := nSms_len xs
    have h2 := nSm_eq x
    rw [nSms, List.length_cons]
    omega
theorem nFns_len : ∀ a : List FnD, a.length ≤ nFns a
  | [] => Nat.zero_le _
  | x :: xs => by
    have h1 := nFns_len xs
    rw [nFns, List.length_cons]
    unfold nFn
    omega
theorem eqEx_parts (a b : Ex) : eqEx a b = (decide (exOp a = exOp b) && decide ((exNum a : Int) = (exNum b : Int)) && decide (exName a = exName b) && eqExs (exArgs a) (exArgs b)) := by
  obtain ⟨o, n, nm, l⟩ := a
  obtain ⟨o', n', nm', l'⟩ := b
  rw [eqEx]
  rfl
theorem eqSm_parts (a b : Sm) : eqSm a b = (decide (smKind a = smKind b) && decide (smName a = smName b) && eqExs (smIndex a) (smIndex b) && eqExs (smValue a) (smValue b) && eqSms (smThen a) (smThen b) && eqSms (smElse a) (smElse b)) := by
  obtain ⟨k, n, i, v, t, e⟩ := a
  obtain ⟨k', n', i', v', t', e'⟩ := b
  rw [eqSm]
  rfl
end Go.Stele
