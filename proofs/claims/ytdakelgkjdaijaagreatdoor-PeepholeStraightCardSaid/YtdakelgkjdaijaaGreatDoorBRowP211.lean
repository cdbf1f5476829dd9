/- Texts joined: GlArrR, SiCost, WmRule, SiOnce, SiPass, SiLaw, SiGen. -/
import Derived.Test.YtdakelgkjdaijaaGreatDoorBRowP22
import Derived.Test.YtdakelgkjdaijaaGreatDoorBRowP23
import Derived.Test.YtdakelgkjdaijaaGreatDoorBRowP24
import Derived.Test.YtdakelgkjdaijaaGreatDoorBRowP27
set_option linter.unusedVariables false
set_option linter.unusedSimpArgs false
namespace Go.GL
open Go.RowKit
section
variable {C : Ctx} {e : Env} {H : Heap} {dst : Option Nat} {ty : TypeId} {pos : String} {aft : Array Edge} {g : Option (Nat × Bool)} {x y : Operand} {k : IntKind}
theorem Pure.indexArrR {t el len : Nat} {i : TypeInfo} (hu : C.P.underlying t = some (.array len el)) (hi : C.P.info? el = some i) {cs : List LV} {n : Int} (hx : e.ev x = .ref cs) (hy : e.ev y = int k n) (h0 : 0 ≤ n) (hn : n < len) :
  Pure C ⟨dst, .indexAddr t x y, ty, pos, aft, g⟩ e H (.ref (cs.drop (n.toNat * i.size))) := .of_any fun ρ w L h => by
 have hv := h x
 rw [hx] at hv
 simp only [Rep] at hv
 obtain ⟨b, off, hv, hr⟩ := hv
 refine ⟨.pointer (some ⟨b, off + n.toNat * i.size, none⟩), by simp only [Rep]; exact ⟨b, _, rfl, hr.drop _⟩, fun w' => ?_⟩
 have h3 : execOp ρ ⟨dst, .indexAddr t x y, ty, pos, aft, g⟩ = (do Pure.pure (.value (← Instr.indexAt t (ρ x) (ρ y)))) := rfl
 rw [h3, hv, atom_of h hy]
 have hc : 0 ≤ n ∧ n < (len : Int) := ⟨h0, hn⟩
 simp [Instr.indexAt, asIntOf, run_underlying' hu, Instr.sureAddr, hc, run_sizeOf' hi, add_mk]
end
end Go.GL
namespace Go.Stele
open Go.Lib (decDigits join)
def SI.dg : SI → Bool
 | .num _ => true
 | _ => false
theorem si_dg {x : SI} (h : x.ok) : firstD x.word = x.dg ∧ lastD x.word = x.dg := by
 cases x with
 | num n => exact ⟨(dec_num n).f, (dec_num n).l⟩
 | op c =>
  have hc : isOp c := h
  have := (op_words hc).2.2
  exact ⟨this, by unfold lastD; exact this⟩
 | wr => exact ⟨rfl, rfl⟩
 | ld => exact ⟨rfl, rfl⟩
 | st => exact ⟨rfl, rfl⟩
/-- What a word costs: its signs, and a separator between two numbers. -/
def costS (d : Bool) (x : SI) : Nat := one (d && x.dg) + x.word.length
/-- A run with its steps. -/
def siK : Bool → List SI → ST → Option (Nat × Wd × Nat)
 | _, [], t => some (0, t.out, 1)
 | d, x :: l, t => match x.exe t with
  | some (.inl t') => (siK x.dg l t').map fun r => (r.1, r.2.1, costS d x + r.2.2)
  | some (.inr o) => some (12, o, costS d x)
  | none => none
theorem lenW_flat {w : Wd} (h : FlatW w) (d : Bool) (r : List Wd) : lenW d (w :: r) = one (d && firstD w) + w.length + lenW (lastD w) r := by
 rw [lenW, h.d]
 simp only
 rw [h.r]
theorem inr_cost {x : SI} {t : ST} {o : Wd} (h : x.exe t = some (.inr o)) (d : Bool) : costS d x = 1 := by
 cases x with
 | num n =>
  simp only [SI.exe] at h
  split at h <;> cases h
 | op c => unfold costS SI.dg SI.word one; simp
 | wr => unfold costS SI.dg SI.word one; simp
 | ld => unfold costS SI.dg SI.word one; simp
 | st => unfold costS SI.dg SI.word one; simp
theorem siK_R : ∀ (l : List SI) (d : Bool) (t : ST) (j : Nat), (∀ x ∈ l, x.ok) → ∀ {e : Nat} {o : Wd} {j' : Nat}, siR l t j = some (e, o, j') → ∃ k, j' = j + k ∧ siK d l t = some (e, o, lenW d ((siW l).take k) + 1)
 | [], d, t, j, h, e, o, j', hR => by
  rw [siR] at hR
  injection hR with hR
  injection hR with h1 h2
  injection h2 with h2 h3
  exact ⟨0, by omega, by rw [siK, List.take_zero, lenW, ← h1, ← h2]⟩
 | x :: l, d, t, j, h, e, o, j', hR => by
  have hx := h x (List.mem_cons_self ..)
  rw [siR] at hR
  rw [siK]
  cases he : x.exe t with
  | none => rw [he] at hR; cases hR
  | some y =>
   rw [he] at hR
   cases y with
   | inr o' =>
    simp only at hR ⊢
    injection hR with hR
    injection hR with h1 h2
    injection h2 with h2 h3
    exact ⟨0, by omega, by rw [List.take_zero, lenW, inr_cost he, ← h1, ← h2]⟩
   | inl t' =>
    simp only at hR ⊢
    obtain ⟨k, h1, h2⟩ := siK_R l x.dg t' (j + 1) (fun y hy => h y (List.mem_cons_of_mem _ hy)) hR
    refine ⟨k + 1, by omega, ?_⟩
    rw [h2]
    have e1 : siW (x :: l) = x.word :: siW l := rfl
    have hd := si_dg hx
    rw [e1, List.take_succ_cons, lenW_flat (si_flat hx), hd.1, hd.2, Option.map_some]
    unfold costS
    simp only [Option.some.injEq, Prod.mk.injEq, true_and]
    omega
/-- Whatever siK says of a run, siR says too. -/
theorem siR_K : ∀ (l : List SI) (d : Bool) (t : ST) (j : Nat) {e : Nat} {o : Wd} {k : Nat}, siK d l t = some (e, o, k) → ∃ j', siR l t j = some (e, o, j')
 | [], d, t, j, e, o, k, hK => by
  rw [siK] at hK
  injection hK with hK
  injection hK with h1 h2
  injection h2 with h2 h3
  exact ⟨j, by rw [siR, h1, h2]⟩
 | x :: l, d, t, j, e, o, k, hK => by
  rw [siK] at hK
  rw [siR]
  cases he : x.exe t with
  | none => rw [he] at hK; cases hK
  | some y =>
   rw [he] at hK
   cases y with
   | inr o' =>
    simp only at hK ⊢
    injection hK with hK
    injection hK with h1 h2
    injection h2 with h2 h3
    exact ⟨j, by rw [h1, h2]⟩
   | inl t' =>
    simp only at hK ⊢
    cases hr : siK x.dg l t' with
    | none => rw [hr] at hK; cases hK
    | some r =>
     rw [hr, Option.map_some] at hK
     injection hK with hK
     injection hK with h1 h2
     injection h2 with h2 h3
     exact siR_K l x.dg t' (j + 1) (by rw [hr, ← h1, ← h2])
/-- A straight program, assembled and run: its outcome by siK. -/
theorem si_out {l : List SI} (h : ∀ x ∈ l, x.ok) (hl : l.length ≤ 3000) : ∃ (x : Wd) (labs : List (Wd × Nat)), asmP (join (siW l) [32]) 10000 = .ok (x, labs) ∧ x.length ≤ 40000 ∧
  ∀ (N : Nat) (inp : List Nat), 40001 ≤ N → ∀ (e : Nat) (o : Wd) (k : Nat), siK false l ⟨[], loadM x 10000, []⟩ = some (e, o, k) → runM N (startM x 10000 inp) = (e, o, k) := by
 obtain ⟨known, labs, h1, h2, h3⟩ := si_prog h hl
 refine ⟨_, labs, h1, h2, fun N inp hN e o k hK => ?_⟩
 obtain ⟨j', hR⟩ := siR_K l false _ 0 hK
 obtain ⟨k', e1, e2⟩ := siK_R l false _ 0 h hR
 rw [Nat.zero_add] at e1
 subst e1
 rw [h3 N inp hN e o _ hR]
 rw [hK] at e2
 injection e2 with e2
 injection e2 with _ e2
 injection e2 with _ e2
 rw [e2, textA_len _ _ fun w hw => (siW_flat h w (List.mem_of_mem_take hw)).p.1]
end Go.Stele
namespace Go.Stele
open Go.Lib
section
variable {W W' : List Wd} {ok ok' : Nat → Bool} {r q : List Wd}
/-- Neutral constants. -/
theorem neutral_bin {a : Nat} (h : a < 4294967296) : binM 43 a 0 = some a ∧ binM 45 a 0 = some a ∧ binM 94 a 0 = some a ∧ binM 42 a 1 = some a ∧ binM 47 a 1 = some a := by
 unfold binM
 refine ⟨?_, ?_, ?_, ?_, ?_⟩
 ·simp [Nat.mod_eq_of_lt h]
 ·simp [Nat.mod_eq_of_lt h]
 ·simp
 ·simp [Nat.mod_eq_of_lt h]
 ·simp
/-- Operations that can be grouped otherwise. -/
theorem regroup_bin {c : UInt8} (hc : c = 43 ∨ c = 42 ∨ c = 94) (a x y : Nat) : ∃ u z, binM c.toNat a x = some u ∧ binM c.toNat x y = some z ∧ binM c.toNat u y = binM c.toNat a z := by
 rcases hc with rfl | rfl | rfl
 ·refine ⟨_, _, rfl, rfl, ?_⟩
  unfold binM
  simp [Nat.add_assoc]
 ·refine ⟨_, _, rfl, rfl, ?_⟩
  unfold binM
  simp [Nat.mul_assoc]
 ·refine ⟨_, _, rfl, rfl, ?_⟩
  unfold binM
  simp [Nat.xor_assoc]
end
end Go.Stele
namespace Go.Stele
open Go.Lib (decDigits join)
/-- Words of 32 bits. -/
structure ST.lt (t : ST) : Prop where
 data : ∀ v ∈ t.data, v < 4294967296
 mem : ∀ i, t.mem i < 4294967296
theorem K_some {d : Bool} {x : SI} {l : List SI} {t : ST} {e : Nat} {o : Wd} {k : Nat} (h : siK d (x :: l) t = some (e, o, k)) :
  (∃ t' k2, x.exe t = some (.inl t') ∧ siK x.dg l t' = some (e, o, k2) ∧ k = costS d x + k2) ∨ (x.exe t = some (.inr o) ∧ e = 12 ∧ k = costS d x) := by
 rw [siK] at h
 cases he : x.exe t with
 | none => rw [he] at h; cases h
 | some y =>
  rw [he] at h
  cases y with
  | inr o' =>
   simp only at h
   injection h with h
   injection h with h1 h2
   injection h2 with h2 h3
   exact .inr ⟨by rw [h2], h1.symm, h3.symm⟩
  | inl t' =>
   simp only at h
   cases hr : siK x.dg l t' with
   | none => rw [hr] at h; cases h
   | some r =>
    rw [hr, Option.map_some] at h
    injection h with h
    injection h with h1 h2
    injection h2 with h2 h3
    exact .inl ⟨t', r.2.2, rfl, by rw [hr, ← h1, ← h2], h3.symm⟩
theorem K_mk {d : Bool} {x : SI} {l : List SI} {t t' : ST} {e : Nat} {o : Wd} {k2 : Nat} (h : x.exe t = some (.inl t')) (hk : siK x.dg l t' = some (e, o, k2)) : siK d (x :: l) t = some (e, o, costS d x + k2) := by
 rw [siK, h]
 simp only
 rw [hk]
 rfl
theorem K_num {d : Bool} {n : Nat} {l : List SI} {t : ST} {e : Nat} {o : Wd} {k : Nat} (h : siK d (.num n :: l) t = some (e, o, k)) : t.data.length < 250 ∧ ∃ k2, siK true l { t with data := n :: t.data } = some (e, o, k2) ∧ k = costS d (.num n) + k2 := by
 rcases K_some h with ⟨t', k2, h1, h2, h3⟩ | ⟨h1, _⟩
 ·simp only [SI.exe] at h1
  split at h1
  ·rename_i hl
   injection h1 with h1
   injection h1 with h1
   subst h1
   exact ⟨hl, k2, h2, h3⟩
  ·cases h1
 ·simp only [SI.exe] at h1
  split at h1 <;> cases h1
theorem num_exe {n : Nat} {t : ST} (h : t.data.length < 250) : (SI.num n).exe t = some (.inl { t with data := n :: t.data }) := by
 simp only [SI.exe]
 rw [if_pos h]
theorem op_exe {c : UInt8} {t : ST} {a b v : Nat} {r : List Nat} (hd : t.data = b :: a :: r) (hv : binM c.toNat a b = some v) : (SI.op c).exe t = some (.inl { t with data := v :: r }) := by
 simp only [SI.exe, hd, hv]
theorem K_op {d : Bool} {c : UInt8} {l : List SI} {t : ST} {e : Nat} {o : Wd} {k a b v : Nat} {r : List Nat} (h : siK d (.op c :: l) t = some (e, o, k)) (hd : t.data = b :: a :: r) (hv : binM c.toNat a b = some v) : ∃ k2, siK false l { t with data := v :: r } = some (e, o, k2) ∧ k = 1 + k2 := by
 have hc : costS d (.op c) = 1 := by unfold costS SI.dg SI.word one; simp
 rcases K_some h with ⟨t', k2, h1, h2, h3⟩ | ⟨h1, _⟩
 ·rw [op_exe hd hv] at h1
  injection h1 with h1
  injection h1 with h1
  subst h1
  exact ⟨k2, h2, by rw [hc] at h3; exact h3⟩
 ·rw [op_exe hd hv] at h1
  cases h1
theorem cost_op (d : Bool) (c : UInt8) : costS d (.op c) = 1 := by unfold costS SI.dg SI.word one; simp
theorem cost_num (d : Bool) (n : Nat) : costS d (.num n) = one d + (decDigits n).length := by unfold costS SI.dg SI.word; rw [Bool.and_true]
theorem cost_d (x : SI) (d : Bool) : costS false x ≤ costS d x ∧ costS d x ≤ costS false x + 1 := by
 unfold costS
 rw [Bool.false_and]
 have h0 : one false = 0 := rfl
 have := one_le (d && x.dg)
 omega
/-- Another word ahead. -/
theorem siK_d {d : Bool} {l : List SI} {t : ST} {e : Nat} {o : Wd} {k : Nat} (h : siK d l t = some (e, o, k)) (d' : Bool) : ∃ k', siK d' l t = some (e, o, k') ∧ k' ≤ k + 1 := by
 cases l with
 | nil => exact ⟨k, by rw [siK] at h ⊢; exact h, by omega⟩
 | cons x l =>
  have h1 := cost_d x d
  have h2 := cost_d x d'
  rcases K_some h with ⟨t', k2, a1, a2, a3⟩ | ⟨a1, a2, a3⟩
  ·exact ⟨_, K_mk a1 a2, by omega⟩
  ·refine ⟨costS d' x, ?_, by omega⟩
   rw [siK, a1, a2]
theorem exe_lt {x : SI} {t t' : ST} (hx : x.ok) (ht : t.lt) (h : x.exe t = some (.inl t')) : t'.lt := by
 obtain ⟨td, tm⟩ := ht
 cases x with
 | num n =>
  have hn : n < 4294967296 := hx
  simp only [SI.exe] at h
  split at h
  ·injection h with h
   injection h with h
   subst h
   refine ⟨fun v hv => ?_, tm⟩
   rcases List.mem_cons.1 hv with rfl | hv
   ·exact hn
   ·exact td v hv
  ·cases h
 | op c =>
  simp only [SI.exe] at h
  split at h
  ·rename_i b a r hd
   rw [hd] at td
   split at h
   ·rename_i v hv
    injection h with h
    injection h with h
    subst h
    refine ⟨fun w hw => ?_, tm⟩
    rcases List.mem_cons.1 hw with rfl | hw
    ·exact bin_lt (td a (by simp)) (td b (by simp)) hv
    ·exact td w (by simp [hw])
   ·injection h with h; cases h
  ·cases h
 | wr =>
  simp only [SI.exe] at h
  split at h
  ·rename_i v r hd
   rw [hd] at td
   injection h with h
   injection h with h
   subst h
   exact ⟨fun w hw => td w (by simp [show w ∈ r from hw]), tm⟩
  ·cases h
 | ld =>
  simp only [SI.exe] at h
  split at h
  ·rename_i a r hd
   rw [hd] at td
   split at h
   ·injection h with h
    injection h with h
    subst h
    refine ⟨fun w hw => ?_, tm⟩
    rcases List.mem_cons.1 hw with rfl | hw
    ·exact tm a
    ·exact td w (by simp [hw])
   ·cases h
  ·cases h
 | st =>
  simp only [SI.exe] at h
  split at h
  ·rename_i a v r hd
   rw [hd] at td
   split at h
   ·injection h with h
    injection h with h
    subst h
    refine ⟨fun w hw => td w (by simp [show w ∈ r from hw]), fun i => ?_⟩
    simp only
    split
    ·exact td v (by simp)
    ·exact tm i
   ·cases h
  ·cases h
/-- The second does what the first does, in no more steps. -/
def Better (l l' : List SI) : Prop := ∀ (d : Bool) (t : ST) (e : Nat) (o : Wd) (k : Nat), t.lt → siK d l t = some (e, o, k) → ∃ k', k' ≤ k ∧ siK d l' t = some (e, o, k')
theorem Better.refl (l : List SI) : Better l l := fun _ _ _ _ k _ h => ⟨k, Nat.le_refl _, h⟩
theorem Better.trans {a b c : List SI} (h1 : Better a b) (h2 : Better b c) : Better a c := fun d t e o k ht h => by
 obtain ⟨k1, a1, a2⟩ := h1 d t e o k ht h
 obtain ⟨k2, b1, b2⟩ := h2 d t e o k1 ht a2
 exact ⟨k2, Nat.le_trans b1 a1, b2⟩
theorem Better.cons {x : SI} {l l' : List SI} (hx : x.ok) (h : Better l l') : Better (x :: l) (x :: l') := fun d t e o k ht hk => by
 rcases K_some hk with ⟨t', k2, a1, a2, a3⟩ | ⟨a1, a2, a3⟩
 ·obtain ⟨k', b1, b2⟩ := h _ _ _ _ _ (exe_lt hx ht a1) a2
  exact ⟨_, by rw [a3]; exact Nat.add_le_add_left b1 _, K_mk a1 b2⟩
 ·exact ⟨k, Nat.le_refl _, by rw [siK, a1, a2, a3]⟩
/-- After a window, with another word ahead. -/
theorem Better.flag {l l' : List SI} (h : Better l l') {t : ST} (ht : t.lt) {e : Nat} {o : Wd} {k : Nat} {d : Bool} (hk : siK d l t = some (e, o, k)) (d' : Bool) : ∃ k', k' ≤ k + 1 ∧ siK d' l' t = some (e, o, k') := by
 obtain ⟨k1, a1, a2⟩ := h _ _ _ _ _ ht hk
 obtain ⟨k2, b1, b2⟩ := siK_d a2 d'
 exact ⟨k2, by omega, b1⟩
theorem lt_data {t : ST} (ht : t.lt) {d : List Nat} (hd : ∀ v ∈ d, v < 4294967296) : ({ t with data := d } : ST).lt := ⟨hd, ht.mem⟩
theorem better_fold {a b v : Nat} {c : UInt8} {l l' : List SI} (h : Better l l') (hv : binM c.toNat a b = some v) (hl : (decDigits v).length ≤ (decDigits a).length + (decDigits b).length + 1) (hlt : v < 4294967296) : Better (.num a :: .num b :: .op c :: l) (.num v :: l') := fun d t e o k ht hk => by
 obtain ⟨h1, k1, h2, e1⟩ := K_num hk
 obtain ⟨h3, k2, h4, e2⟩ := K_num h2
 obtain ⟨k3, h5, e3⟩ := K_op h4 rfl hv
 obtain ⟨k', h6, h7⟩ := h.flag (lt_data ht fun w hw => by
  rcases List.mem_cons.1 hw with rfl | hw
  ·exact hlt
  ·exact ht.data w hw) h5 true
 refine ⟨_, ?_, K_mk (num_exe h1) h7⟩
 rw [cost_num] at e1 e2 ⊢
 have : one true = 1 := rfl
 omega
theorem better_neutral {n : Nat} {c : UInt8} {l l' : List SI} (h : Better l l') (hn : ∀ a, a < 4294967296 → binM c.toNat a n = some a) : Better (.num n :: .op c :: l) l' := fun d t e o k ht hk => by
 obtain ⟨h1, k1, h2, e1⟩ := K_num hk
 match hd : t.data with
 | [] =>
  rcases K_some h2 with ⟨t', k2, a1, _⟩ | ⟨a1, _⟩ <;> · simp only [SI.exe, hd] at a1; cases a1
 | a :: r =>
  have ha := ht.data a (by rw [hd]; simp)
  obtain ⟨k2, h3, e2⟩ := K_op h2 (by show n :: t.data = _; rw [hd]) (hn a ha)
  have et : ({ t with data := a :: r } : ST) = t := by cases t; simp only at hd; rw [hd]
  simp only at h3
  rw [et] at h3
  obtain ⟨k', h6, h7⟩ := h.flag ht h3 d
  refine ⟨k', ?_, h7⟩
  rw [cost_num] at e1
  have := List.length_pos_iff.2 (decDigits_ne n)
  omega
theorem better_regroup {a b v : Nat} {c : UInt8} {l l' : List SI} (h : Better l l') (hc : c = 43 ∨ c = 42 ∨ c = 94) (hv : binM c.toNat a b = some v) (hl : (decDigits v).length ≤ (decDigits a).length + (decDigits b).length + 1) (hb : b < 4294967296) (ha : a < 4294967296) :
  Better (.num a :: .op c :: .num b :: .op c :: l) (.num v :: .op c :: l') := fun d t e o k ht hk => by
 obtain ⟨h1, k1, h2, e1⟩ := K_num hk
 match hd : t.data with
 | [] =>
  rcases K_some h2 with ⟨t', k2, a1, _⟩ | ⟨a1, _⟩ <;> · simp only [SI.exe, hd] at a1; cases a1
 | z :: r =>
  have hz := ht.data z (by rw [hd]; simp)
  obtain ⟨u, w, r1, r2, r3⟩ := regroup_bin hc z a b
  rw [hv] at r2
  injection r2 with r2
  subst r2
  obtain ⟨k2, h3, e2⟩ := K_op h2 (by show a :: t.data = _; rw [hd]) r1
  obtain ⟨h4, k3, h5, e3⟩ := K_num h3
  have hq : ∃ q, binM c.toNat u b = some q := by
   rcases hc with rfl | rfl | rfl <;> exact ⟨_, rfl⟩
  obtain ⟨q, hq⟩ := hq
  obtain ⟨k4, h6, e4⟩ := K_op h5 rfl hq
  have hq2 : binM c.toNat z v = some q := by rw [← r3]; exact hq
  have hu := bin_lt hz ha r1
  have hqlt := bin_lt hu hb hq
  obtain ⟨k', h7, h8⟩ := h _ _ _ _ _ (lt_data ht fun x hx => by
   rcases List.mem_cons.1 hx with rfl | hx
   ·exact hqlt
   ·exact ht.data x (by rw [hd]; simp [hx])) h6
  refine ⟨_, ?_, K_mk (num_exe h1) (K_mk (op_exe (t := { t with data := v :: t.data }) (by show v :: t.data = _; rw [hd]) hq2) h8)⟩
  rw [cost_num] at e1 e3
  rw [cost_num, cost_op]
  have h0 : one false = 0 := rfl
  have : one (SI.op c).dg = 0 := rfl
  omega
theorem better_same {a : Nat} {l l' : List SI} (h : Better l l') : Better (.num a :: .ld :: .num a :: .st :: l) l' := fun d t e o k ht hk => by
 obtain ⟨h1, k1, h2, e1⟩ := K_num hk
 rcases K_some h2 with ⟨t2, k2, a1, a2, a3⟩ | ⟨a1, _⟩
 ·simp only [SI.exe] at a1
  split at a1
  ·rename_i hx
   injection a1 with a1
   injection a1 with a1
   subst a1
   obtain ⟨h4, k3, h5, e3⟩ := K_num a2
   rcases K_some h5 with ⟨t3, k4, b1, b2, b3⟩ | ⟨b1, _⟩
   ·simp only [SI.exe] at b1
    rw [if_pos hx] at b1
    ·injection b1 with b1
     injection b1 with b1
     subst b1
     have em : (fun i => if i = a then t.mem a else t.mem i) = t.mem := by
      funext i
      split
      ·rename_i e; rw [e]
      ·rfl
     have et : ({ data := t.data, mem := fun i => if i = a then t.mem a else t.mem i, out := t.out } : ST) = t := by rw [em]
     rw [et] at b2
     obtain ⟨k', h6, h7⟩ := h.flag ht b2 d
     refine ⟨k', ?_, h7⟩
     rw [cost_num] at e1
     have := List.length_pos_iff.2 (decDigits_ne a)
     omega
   ·simp only [SI.exe] at b1
    rw [if_pos hx] at b1
    cases b1
  ·cases a1
 ·simp only [SI.exe] at a1
  split at a1 <;> cases a1
end Go.Stele
namespace Go.Stele
open Go.Lib (decDigits join)
theorem wd_lt {l : List SI} {i : Nat} (h : i < l.length) : wdAt (siW l) i = l[i].word := by
 unfold wdAt siW
 rw [List.getElem?_append_left (by rw [List.length_map]; exact h), List.getElem?_map, List.getElem?_eq_getElem h]
 rfl
theorem wd_end (l : List SI) : wdAt (siW l) l.length = [36] := by
 unfold wdAt siW
 rw [List.getElem?_append_right (by rw [List.length_map]; exact Nat.le_refl _), List.length_map, Nat.sub_self]
 rfl
theorem wd_out {l : List SI} {i : Nat} (h : l.length < i) : wdAt (siW l) i = [] := by
 unfold wdAt siW
 rw [List.getElem?_eq_none (by rw [List.length_append, List.length_map]; simp only [List.length_cons, List.length_nil]; omega)]
 rfl
theorem wd_cases (l : List SI) (i : Nat) : (∃ x, l[i]? = some x ∧ wdAt (siW l) i = x.word) ∨ wdAt (siW l) i = [36] ∨ wdAt (siW l) i = [] := by
 rcases Nat.lt_trichotomy i l.length with h | h | h
 ·exact .inl ⟨l[i], List.getElem?_eq_getElem h, wd_lt h⟩
 ·exact .inr (.inl (by rw [h]; exact wd_end l))
 ·exact .inr (.inr (wd_out h))
theorem get_ok {l : List SI} (h : ∀ x ∈ l, x.ok) {i : Nat} {x : SI} (hx : l[i]? = some x) : x.ok := h x (List.mem_of_getElem? hx)
theorem num_firstD {w : Wd} {a : Nat} (h : numW w = some a) : firstD w = true := by
 obtain ⟨_, rfl⟩ := (numW_iff _ _).1 h
 exact (dec_num a).f
theorem wd_num {l : List SI} (h : ∀ x ∈ l, x.ok) {i a : Nat} (hn : numW (wdAt (siW l) i) = some a) : l[i]? = some (.num a) ∧ a < 4294967296 ∧ wdAt (siW l) i = decDigits a := by
 have hf := num_firstD hn
 have ha := (numW_iff _ _).1 hn
 refine ⟨?_, ha.1, ha.2.symm⟩
 rcases wd_cases l i with ⟨x, h1, h2⟩ | h2 | h2
 ·rw [h2] at hf hn
  have hx := get_ok h h1
  rw [(si_dg hx).1] at hf
  cases x with
  | num n =>
   have hlt : n < 4294967296 := hx
   have : numW (decDigits n) = some a := hn
   rw [numW_dec hlt] at this
   injection this with this
   rw [h1, this]
  | op c => cases hf
  | wr => cases hf
  | ld => cases hf
  | st => cases hf
 ·rw [h2] at hf; exact absurd hf (by decide)
 ·rw [h2] at hf; exact absurd hf (by decide)
theorem wd_sign {l : List SI} (h : ∀ x ∈ l, x.ok) {i : Nat} {c : UInt8} (hw : wdAt (siW l) i = [c]) (h36 : c ≠ 36) (hd : isDigit c = false) : (c = 46 ∧ l[i]? = some .wr) ∨ (c = 64 ∧ l[i]? = some .ld) ∨ (c = 33 ∧ l[i]? = some .st) ∨ (isOp c ∧ l[i]? = some (.op c)) := by
 rcases wd_cases l i with ⟨x, h1, h2⟩ | h2 | h2
 ·rw [h2] at hw
  have hx := get_ok h h1
  have hf := (si_dg hx).1
  rw [hw] at hf
  have hf2 : isDigit c = x.dg := hf
  rw [hd] at hf2
  cases x with
  | num n => cases hf2
  | op c' =>
   have : [c'] = [c] := hw
   injection this with this
   subst this
   exact .inr (.inr (.inr ⟨hx, h1⟩))
  | wr =>
   have : [46] = [c] := hw
   injection this with this
   exact .inl ⟨this.symm, h1⟩
  | ld =>
   have : [64] = [c] := hw
   injection this with this
   exact .inr (.inl ⟨this.symm, h1⟩)
  | st =>
   have : [33] = [c] := hw
   injection this with this
   exact .inr (.inr (.inl ⟨this.symm, h1⟩))
 ·rw [h2] at hw
  injection hw with hw
  exact absurd hw.symm h36
 ·rw [h2] at hw
  cases hw
theorem op_ne {c : UInt8} (h : isOp c) : c ≠ 36 ∧ c ≠ 46 ∧ c ≠ 64 ∧ c ≠ 33 ∧ isDigit c = false := by
 have := (op_words h).2.2
 refine ⟨?_, ?_, ?_, ?_, this⟩ <;> (rintro rfl; revert h; unfold isOp; decide)
theorem wd_op {l : List SI} (h : ∀ x ∈ l, x.ok) {i : Nat} {c : UInt8} (hw : wdAt (siW l) i = [c]) (hc : isOp c) : l[i]? = some (.op c) := by
 obtain ⟨a1, a2, a3, a4, a5⟩ := op_ne hc
 rcases wd_sign h hw a1 a5 with ⟨e, _⟩ | ⟨e, _⟩ | ⟨e, _⟩ | ⟨_, e⟩
 ·exact absurd e a2
 ·exact absurd e a3
 ·exact absurd e a4
 ·exact e
theorem wd_ref {l : List SI} (h : ∀ x ∈ l, x.ok) (i : Nat) : refW (wdAt (siW l) i) = none := by
 rcases wd_cases l i with ⟨x, h1, h2⟩ | h2 | h2
 ·rw [h2]; exact (si_flat (get_ok h h1)).r
 ·rw [h2]; decide +kernel
 ·rw [h2]; decide +kernel
theorem jump_none {l : List SI} (h : ∀ x ∈ l, x.ok) (i : Nat) : jumpW (siW l) i = none := by
 unfold jumpW
 rw [wd_ref h]
theorem joined_inv {x op y s : Wd} (h : joinedW x op y = some s) : ∃ a b v, numW x = some a ∧ numW y = some b ∧ compW a op b = some v ∧ s = decDigits v ∧ (decDigits v).length ≤ x.length + y.length + 1 := by
 unfold joinedW at h
 split at h
 ·rename_i a b ha hb
  split at h
  ·rename_i c hc
   split at h
   ·rename_i hl
    injection h with h
    exact ⟨a, b, c, ha, hb, hc, h.symm, hl⟩
   ·cases h
  ·cases h
 ·cases h
theorem head_of {l : List SI} {x : SI} (h : l[0]? = some x) : ∃ r, l = x :: r := by
 cases l with
 | nil => cases h
 | cons y r =>
  rw [List.getElem?_cons_zero] at h
  injection h with h
  exact ⟨r, by rw [h]⟩
theorem word_ne {x : SI} (h : x.ok) : x.word ≠ [59] ∧ x.word ≠ [36] := by
 have hf := (si_dg h).1
 constructor
 ·intro e
  cases x with
  | num n =>
   rw [e] at hf
   exact absurd (show firstD [59] = true from hf) (by decide)
  | op c =>
   have e' : [c] = [59] := e
   injection e' with e'
   subst e'
   exact absurd h (by show ¬ isOp 59; unfold isOp; decide)
  | wr => exact absurd e (by decide)
  | ld => exact absurd e (by decide)
  | st => exact absurd e (by decide)
 ·intro e
  cases x with
  | num n =>
   rw [e] at hf
   exact absurd (show firstD [36] = true from hf) (by decide)
  | op c =>
   have e' : [c] = [36] := e
   injection e' with e'
   subst e'
   exact absurd h (by show ¬ isOp 36; unfold isOp; decide)
  | wr => exact absurd e (by decide)
  | ld => exact absurd e (by decide)
  | st => exact absurd e (by decide)
/-- What a rule may do to a straight program. -/
inductive RStep : List SI → Nat → List SI → Prop
 | fold {a b v : Nat} {c : UInt8} {r : List SI} : isOp c → binM c.toNat a b = some v → (decDigits v).length ≤ (decDigits a).length + (decDigits b).length + 1 → v < 4294967296 → RStep (.num a :: .num b :: .op c :: r) 3 [.num v]
 | neutral {n : Nat} {c : UInt8} {r : List SI} : (∀ a, a < 4294967296 → binM c.toNat a n = some a) → RStep (.num n :: .op c :: r) 2 []
 | regroup {a b v : Nat} {c : UInt8} {r : List SI} : (c = 43 ∨ c = 42 ∨ c = 94) → binM c.toNat a b = some v → (decDigits v).length ≤ (decDigits a).length + (decDigits b).length + 1 → v < 4294967296 → a < 4294967296 → b < 4294967296 → RStep (.num a :: .op c :: .num b :: .op c :: r) 4 [.num v, .op c]
 | same {a : Nat} {r : List SI} : RStep (.num a :: .ld :: .num a :: .st :: r) 4 []
theorem rule_si {l : List SI} (h : ∀ x ∈ l, x.ok) (used : Wd → Bool) (hr : (ruleW used (siW l)).1 ≠ 0) : ∃ m out, ruleW used (siW l) = (m, out.map SI.word) ∧ RStep l m out := by
 unfold ruleW at hr ⊢
 by_cases h1 : (rFold (siW l)).1 ≠ 0
 ·rw [if_pos h1]
  unfold rFold at h1 ⊢
  cases hj : joinedW (wdAt (siW l) 0) (wdAt (siW l) 2) (wdAt (siW l) 1) with
  | none => rw [hj] at h1; exact absurd rfl h1
  | some s =>
   obtain ⟨a, b, v, n0, n1, hc, rfl, hl⟩ := joined_inv hj
   obtain ⟨g0, lt0, e0⟩ := wd_num h n0
   obtain ⟨g1, lt1, e1⟩ := wd_num h n1
   obtain ⟨c, eop, hop, hb⟩ := comp_bin hc
   have g2 := wd_op h eop hop
   obtain ⟨r, rfl⟩ := head_of g0
   rw [List.getElem?_cons_succ] at g1
   obtain ⟨r, rfl⟩ := head_of g1
   rw [List.getElem?_cons_succ, List.getElem?_cons_succ] at g2
   obtain ⟨r, rfl⟩ := head_of g2
   refine ⟨3, [.num v], rfl, .fold hop hb ?_ (comp_lt lt0 lt1 hc)⟩
   rw [e0, e1] at hl
   exact hl
 rw [if_neg h1] at hr ⊢
 by_cases h2 : (rNeutral (siW l)).1 ≠ 0
 ·rw [if_pos h2]
  unfold rNeutral at h2 ⊢
  split at h2
  ·rename_i hcond
   rw [if_pos hcond]
   have n48 : numW [48] = some 0 := by decide +kernel
   have n49 : numW [49] = some 1 := by decide +kernel
   rcases hcond with ⟨w0, w1⟩ | ⟨w0, w1⟩
   ·obtain ⟨g0, _, _⟩ := wd_num (a := 0) (i := 0) h (by rw [w0]; exact n48)
    have key : ∀ c : UInt8, isOp c → wdAt (siW l) 1 = [c] → (∀ a, a < 4294967296 → binM c.toNat a 0 = some a) → ∃ m out, ((2, []) : RuleW) = (m, out.map SI.word) ∧ RStep l m out := by
     intro c hc hw hb
     have g1 := wd_op h hw hc
     obtain ⟨r, rfl⟩ := head_of g0
     rw [List.getElem?_cons_succ] at g1
     obtain ⟨r, rfl⟩ := head_of g1
     exact ⟨2, [], rfl, .neutral hb⟩
    rcases w1 with w1 | w1 | w1
    ·exact key 43 (.inl rfl) w1 fun a ha => (neutral_bin ha).1
    ·exact key 45 (.inr (.inl rfl)) w1 fun a ha => (neutral_bin ha).2.1
    ·exact key 94 (.inr (.inr (.inr (.inr (.inr (.inl rfl)))))) w1 fun a ha => (neutral_bin ha).2.2.1
   ·obtain ⟨g0, _, _⟩ := wd_num (a := 1) (i := 0) h (by rw [w0]; exact n49)
    have key : ∀ c : UInt8, isOp c → wdAt (siW l) 1 = [c] → (∀ a, a < 4294967296 → binM c.toNat a 1 = some a) → ∃ m out, ((2, []) : RuleW) = (m, out.map SI.word) ∧ RStep l m out := by
     intro c hc hw hb
     have g1 := wd_op h hw hc
     obtain ⟨r, rfl⟩ := head_of g0
     rw [List.getElem?_cons_succ] at g1
     obtain ⟨r, rfl⟩ := head_of g1
     exact ⟨2, [], rfl, .neutral hb⟩
    rcases w1 with w1 | w1
    ·exact key 42 (.inr (.inr (.inl rfl))) w1 fun a ha => (neutral_bin ha).2.2.2.1
    ·exact key 47 (.inr (.inr (.inr (.inl rfl)))) w1 fun a ha => (neutral_bin ha).2.2.2.2
  ·exact absurd rfl h2
 rw [if_neg h2] at hr ⊢
 by_cases h3 : (rRegroup (siW l)).1 ≠ 0
 ·rw [if_pos h3]
  unfold rRegroup at h3 ⊢
  split at h3
  ·rename_i hcond
   rw [if_pos hcond]
   obtain ⟨w1, w3⟩ := hcond
   cases hj : joinedW (wdAt (siW l) 0) (wdAt (siW l) 1) (wdAt (siW l) 2) with
   | none => rw [hj] at h3; exact absurd rfl h3
   | some s =>
    simp only
    obtain ⟨a, b, v, n0, n2, hc, rfl, hl⟩ := joined_inv hj
    obtain ⟨g0, lt0, e0⟩ := wd_num h n0
    obtain ⟨g2, lt2, e2⟩ := wd_num h n2
    obtain ⟨c, eop, hop, hb⟩ := comp_bin hc
    have hc3 : c = 43 ∨ c = 42 ∨ c = 94 := by
     rw [eop] at w1
     rcases w1 with w | w | w <;> (injection w with w; simp [w])
    have g1 := wd_op h eop hop
    have g3 := wd_op h (w3.trans eop) hop
    rw [e0, e2] at hl
    rw [eop]
    obtain ⟨r, rfl⟩ := head_of g0
    rw [List.getElem?_cons_succ] at g1
    obtain ⟨r, rfl⟩ := head_of g1
    rw [List.getElem?_cons_succ, List.getElem?_cons_succ] at g2
    obtain ⟨r, rfl⟩ := head_of g2
    rw [List.getElem?_cons_succ, List.getElem?_cons_succ, List.getElem?_cons_succ] at g3
    obtain ⟨r, rfl⟩ := head_of g3
    exact ⟨4, [.num v, .op c], rfl, .regroup hc3 hb hl (comp_lt lt0 lt2 hc) lt0 lt2⟩
  ·exact absurd rfl h3
 rw [if_neg h3] at hr ⊢
 by_cases h4 : (rSame (siW l)).1 ≠ 0
 ·rw [if_pos h4]
  unfold rSame at h4 ⊢
  split at h4
  ·rename_i hcond
   rw [if_pos hcond]
   obtain ⟨w0, w1, w2, w3⟩ := hcond
   obtain ⟨a, n0⟩ := Option.isSome_iff_exists.1 w0
   obtain ⟨g0, lt0, e0⟩ := wd_num h n0
   obtain ⟨g2, _, _⟩ := wd_num (i := 2) (a := a) h (by rw [w2]; exact n0)
   have g1 : l[1]? = some .ld := by
    rcases wd_sign h w1 (by decide) (by decide) with ⟨e, _⟩ | ⟨_, e⟩ | ⟨e, _⟩ | ⟨e, _⟩
    ·exact absurd e (by decide)
    ·exact e
    ·exact absurd e (by decide)
    ·exact absurd e (by unfold isOp; decide)
   have g3 : l[3]? = some .st := by
    rcases wd_sign h w3 (by decide) (by decide) with ⟨e, _⟩ | ⟨e, _⟩ | ⟨_, e⟩ | ⟨e, _⟩
    ·exact absurd e (by decide)
    ·exact absurd e (by decide)
    ·exact e
    ·exact absurd e (by unfold isOp; decide)
   obtain ⟨r, rfl⟩ := head_of g0
   rw [List.getElem?_cons_succ] at g1
   obtain ⟨r, rfl⟩ := head_of g1
   rw [List.getElem?_cons_succ, List.getElem?_cons_succ] at g2
   obtain ⟨r, rfl⟩ := head_of g2
   rw [List.getElem?_cons_succ, List.getElem?_cons_succ, List.getElem?_cons_succ] at g3
   obtain ⟨r, rfl⟩ := head_of g3
   exact ⟨4, [], rfl, .same⟩
  ·exact absurd rfl h4
 rw [if_neg h4] at hr
 have d5 : rDouble (siW l) = (0, []) := by
  unfold rDouble
  rw [jump_none h]
  rw [if_neg (by rintro ⟨e, _⟩; cases e)]
 have d6 : (rNever (siW l)).1 = 0 := by
  unfold rNever
  split
  ·rw [jump_none h, if_neg (by rintro ⟨_, e⟩; cases e)]
  ·rfl
 have d7 : rNext (siW l) = (0, []) := by
  unfold rNext
  rw [jump_none h]
 have d8 : rDead (siW l) = (0, []) := by
  unfold rDead
  cases l with
  | nil =>
   have hs : stopW (siW []) = 1 := by
    unfold stopW
    rw [jump_none h, if_neg (by rintro ⟨e, _⟩; cases e), if_pos (.inr (wd_end []))]
   rw [hs, if_neg (by rintro ⟨_, e⟩; exact absurd e (by decide))]
  | cons x r =>
   have hx := h x (List.mem_cons_self ..)
   have w0 : wdAt (siW (x :: r)) 0 = x.word := rfl
   have hs : stopW (siW (x :: r)) = 0 := by
    unfold stopW
    rw [jump_none h, if_neg (by rintro ⟨e, _⟩; cases e), w0, if_neg (by rintro (e | e); exact (word_ne hx).1 e; exact (word_ne hx).2 e)]
   rw [hs, if_neg (by rintro ⟨e, _⟩; exact absurd e (by decide))]
 have d9 : rUnused used (siW l) = (0, []) := by
  unfold rUnused
  have : defW (wdAt (siW l) 0) = none := by
   cases l with
   | nil =>
    rw [show wdAt (siW []) 0 = [36] from wd_end []]
    decide +kernel
   | cons x r => exact (si_flat (h x (List.mem_cons_self ..))).d
  rw [this]
 rw [d5, if_neg (fun e => e rfl), if_neg (fun e => e d6), d7, if_neg (fun e => e rfl), d8, if_neg (fun e => e rfl), d9] at hr
 exact absurd rfl hr
theorem once_si (used : Wd → Bool) : ∀ (f : Nat) (l : List SI), (∀ x ∈ l, x.ok) → (siW l).length ≤ f → ∃ l', onceF used f (siW l) = siW l' ∧ (∀ x ∈ l', x.ok) ∧ l'.length ≤ l.length ∧ Better l l'
 | 0, l, _, hf => by
  unfold siW at hf
  rw [List.length_append] at hf
  simp only [List.length_cons, List.length_nil] at hf
  omega
 | f + 1, l, h, hf => by
  by_cases hr : (ruleW used (siW l)).1 = 0
  ·cases l with
   | nil =>
    refine ⟨[], ?_, h, Nat.le_refl _, Better.refl _⟩
    have e : siW [] = [36] :: [] := rfl
    rw [e] at hr ⊢
    rw [onceF, if_pos hr]
    cases f <;> rfl
   | cons x r =>
    have e : siW (x :: r) = x.word :: siW r := rfl
    have hx := h x (List.mem_cons_self ..)
    obtain ⟨r', a1, a2, a3, a4⟩ := once_si used f r (fun y hy => h y (List.mem_cons_of_mem _ hy)) (by rw [e, List.length_cons] at hf; omega)
    refine ⟨x :: r', ?_, ?_, by simp only [List.length_cons]; omega, a4.cons hx⟩
    ·rw [e] at hr ⊢
     rw [onceF, if_pos hr, a1]
     rfl
    ·intro y hy
     rcases List.mem_cons.1 hy with rfl | hy
     ·exact hx
     ·exact a2 y hy
  ·obtain ⟨m, out, e1, e2⟩ := rule_si h used hr
   have eo : onceF used (f + 1) (siW l) = out.map SI.word ++ onceF used f ((siW l).drop m) := by
    obtain ⟨w, q, hq⟩ : ∃ w q, siW l = w :: q := by
     cases l with
     | nil => exact ⟨_, _, rfl⟩
     | cons x r => exact ⟨_, _, rfl⟩
    rw [hq] at hr e1 ⊢
    rw [onceF, if_neg hr, e1]
   rw [eo]
   cases e2 with
   | @fold a b v c r hop hb hl hlt =>
    obtain ⟨r', a1, a2, a3, a4⟩ := once_si used f r (fun y hy => h y (by simp [hy])) (by
     have : (siW (.num a :: .num b :: .op c :: r)).length = (siW r).length + 3 := rfl
     omega)
    refine ⟨.num v :: r', ?_, ?_, by simp only [List.length_cons]; omega, better_fold a4 hb hl hlt⟩
    ·show _ ++ onceF used f (siW r) = _
     rw [a1]
     rfl
    ·intro y hy
     rcases List.mem_cons.1 hy with rfl | hy
     ·exact hlt
     ·exact a2 y hy
   | @neutral n c r hn =>
    obtain ⟨r', a1, a2, a3, a4⟩ := once_si used f r (fun y hy => h y (by simp [hy])) (by
     have : (siW (.num n :: .op c :: r)).length = (siW r).length + 2 := rfl
     omega)
    refine ⟨r', ?_, a2, by simp only [List.length_cons]; omega, better_neutral a4 hn⟩
    show _ ++ onceF used f (siW r) = _
    rw [a1]
    rfl
   | @regroup a b v c r hc hb hl hlt ha hb2 =>
    obtain ⟨r', a1, a2, a3, a4⟩ := once_si used f r (fun y hy => h y (by simp [hy])) (by
     have : (siW (.num a :: .op c :: .num b :: .op c :: r)).length = (siW r).length + 4 := rfl
     omega)
    refine ⟨.num v :: .op c :: r', ?_, ?_, by simp only [List.length_cons]; omega, better_regroup a4 hc hb hl hb2 ha⟩
    ·show _ ++ onceF used f (siW r) = _
     rw [a1]
     rfl
    ·intro y hy
     rcases List.mem_cons.1 hy with rfl | hy
     ·exact hlt
     rcases List.mem_cons.1 hy with rfl | hy
     ·exact h _ (by simp)
     ·exact a2 y hy
   | @same a r =>
    obtain ⟨r', a1, a2, a3, a4⟩ := once_si used f r (fun y hy => h y (by simp [hy])) (by
     have : (siW (.num a :: .ld :: .num a :: .st :: r)).length = (siW r).length + 4 := rfl
     omega)
    refine ⟨r', ?_, a2, by simp only [List.length_cons]; omega, better_same a4⟩
    show _ ++ onceF used f (siW r) = _
    rw [a1]
    rfl
theorem onceP_si {l : List SI} (h : ∀ x ∈ l, x.ok) : ∃ l', onceP (siW l) = siW l' ∧ (∀ x ∈ l', x.ok) ∧ l'.length ≤ l.length ∧ Better l l' := once_si _ _ l h (Nat.le_refl _)
theorem optF_si : ∀ (f : Nat) (l : List SI), (∀ x ∈ l, x.ok) → ∃ l', optF f (siW l) = siW l' ∧ (∀ x ∈ l', x.ok) ∧ l'.length ≤ l.length ∧ Better l l'
 | 0, l, h => ⟨l, rfl, h, Nat.le_refl _, Better.refl l⟩
 | f + 1, l, h => by
  rw [optF]
  by_cases e : onceP (siW l) = siW l
  ·rw [if_pos e]
   exact ⟨l, rfl, h, Nat.le_refl _, Better.refl l⟩
  ·rw [if_neg e]
   obtain ⟨l1, a1, a2, a3, a4⟩ := onceP_si h
   obtain ⟨l2, b1, b2, b3, b4⟩ := optF_si f l1 a2
   rw [a1]
   exact ⟨l2, b1, b2, Nat.le_trans b3 a3, a4.trans b4⟩
/-- The law of straight programs: optimized, the same outcome in no more steps. The memory's text differs, so the run is asked for over any memory. -/
theorem straight_opt {l : List SI} (h : ∀ x ∈ l, x.ok) : ∃ l', optP (siW l) = siW l' ∧ (∀ x ∈ l', x.ok) ∧ l'.length ≤ l.length ∧ Better l l' := optF_si _ l h
end Go.Stele
namespace Go.Stele
open Go.Lib (decDigits join)
/-- Memory from 200000 on is all that counts. -/
def SameST (t u : ST) : Prop := t.data = u.data ∧ t.out = u.out ∧ ∀ i, 200000 ≤ i → t.mem i = u.mem i
theorem exe_same {x : SI} {t u : ST} (h : SameST t u) : (∃ t' u', x.exe t = some (.inl t') ∧ x.exe u = some (.inl u') ∧ SameST t' u') ∨ (∃ o, x.exe t = some (.inr o) ∧ x.exe u = some (.inr o)) ∨ (x.exe t = none ∧ x.exe u = none) := by
 obtain ⟨td, tm, tq⟩ := t
 obtain ⟨ud, um, uo⟩ := u
 obtain ⟨h1, h2, h3⟩ := h
 simp only at h1 h2 h3
 subst h1 h2
 cases x with
 | num n =>
  simp only [SI.exe]
  split
  ·exact .inl ⟨_, _, rfl, rfl, rfl, rfl, h3⟩
  ·exact .inr (.inr ⟨rfl, rfl⟩)
 | op c =>
  simp only [SI.exe]
  split
  ·split
   ·exact .inl ⟨_, _, rfl, rfl, rfl, rfl, h3⟩
   ·exact .inr (.inl ⟨_, rfl, rfl⟩)
  ·exact .inr (.inr ⟨rfl, rfl⟩)
 | wr =>
  simp only [SI.exe]
  split
  ·exact .inl ⟨_, _, rfl, rfl, rfl, rfl, h3⟩
  ·exact .inr (.inr ⟨rfl, rfl⟩)
 | ld =>
  simp only [SI.exe]
  split
  ·rename_i a r
   by_cases ha : 200000 ≤ a ∧ a < 262144
   ·rw [if_pos ha, if_pos ha]
    exact .inl ⟨_, _, rfl, rfl, by simp only; rw [h3 a ha.1], rfl, h3⟩
   ·rw [if_neg ha, if_neg ha]
    exact .inr (.inr ⟨rfl, rfl⟩)
  ·exact .inr (.inr ⟨rfl, rfl⟩)
 | st =>
  simp only [SI.exe]
  split
  ·rename_i a v r
   by_cases ha : 200000 ≤ a ∧ a < 262144
   ·rw [if_pos ha, if_pos ha]
    refine .inl ⟨_, _, rfl, rfl, rfl, rfl, fun i hi => ?_⟩
    simp only
    split
    ·rfl
    ·exact h3 i hi
   ·rw [if_neg ha, if_neg ha]
    exact .inr (.inr ⟨rfl, rfl⟩)
  ·exact .inr (.inr ⟨rfl, rfl⟩)
theorem siK_same : ∀ (l : List SI) (d : Bool) (t u : ST), SameST t u → siK d l t = siK d l u
 | [], d, t, u, h => by rw [siK, siK, h.2.1]
 | x :: l, d, t, u, h => by
  rw [siK, siK]
  rcases exe_same (x := x) h with ⟨t', u', e1, e2, e3⟩ | ⟨o, e1, e2⟩ | ⟨e1, e2⟩
  ·rw [e1, e2]
   simp only
   rw [siK_same l x.dg t' u' e3]
  ·rw [e1, e2]
  ·rw [e1, e2]
theorem load_high {x : Wd} (h : x.length ≤ 40000) {i : Nat} (hi : 200000 ≤ i) : loadM x 10000 i = 0 := by
 unfold loadM
 rw [if_pos (by omega), List.getElem?_eq_none (by omega)]
def st0 : ST := ⟨[], fun _ => 0, []⟩
theorem st0_lt : st0.lt := ⟨fun v hv => (List.not_mem_nil hv).elim, fun _ => by show 0 < _; decide⟩
theorem same0 {x : Wd} (h : x.length ≤ 40000) : SameST ⟨[], loadM x 10000, []⟩ st0 := ⟨rfl, rfl, fun i hi => load_high h hi⟩
/-- A straight program that ends well: the machine's run of it, and of what the optimizer makes of it. -/
theorem straight_law {l : List SI} (h : ∀ x ∈ l, x.ok) (hl : l.length ≤ 3000) {e : Nat} {o : Wd} {k : Nat} (hk : siK false l st0 = some (e, o, k)) :
  (∃ x labs, asmP (join (siW l) [32]) 10000 = .ok (x, labs) ∧ x.length ≤ 40000 ∧ runM 5000000 (startM x 10000 []) = (e, o, k)) ∧
  ∃ y labs k', asmP (join (optP (siW l)) [32]) 10000 = .ok (y, labs) ∧ y.length ≤ 40000 ∧ runM 5000000 (startM y 10000 []) = (e, o, k') ∧ k' ≤ k := by
 obtain ⟨x, labs, a1, a2, a3⟩ := si_out h hl
 refine ⟨⟨x, labs, a1, a2, a3 _ _ (by decide) e o k (by rw [siK_same l false _ _ (same0 a2)]; exact hk)⟩, ?_⟩
 obtain ⟨l', b1, b2, b3, b4⟩ := straight_opt h
 obtain ⟨k', c1, c2⟩ := b4 false st0 e o k st0_lt hk
 obtain ⟨y, labs', d1, d2, d3⟩ := si_out b2 (Nat.le_trans b3 hl)
 rw [b1]
 exact ⟨y, labs', k', d1, d2, d3 _ _ (by decide) e o k' (by rw [siK_same l' false _ _ (same0 d2)]; exact c2), c1⟩
end Go.Stele
namespace Go.Stele
open Go.Lib (decDigits join)
def opS (k : Nat) : UInt8 := if k = 6 then 43 else if k = 7 then 45 else if k = 8 then 42 else if k = 9 then 94 else if k = 10 then 60 else 47
theorem opS_op (k : Nat) : isOp (opS k) := by
 unfold opS isOp
 repeat' split
 all_goals decide
/-- What straight makes of its steps from a depth on. -/
def stG : Nat → List (Nat × Nat) → List SI
 | d, [] => List.replicate d .wr
 | d, (a, b) :: r =>
  if a % 12 < 3 ∧ d < 100 then .num b :: stG (d + 1) r
  else if a % 12 = 3 ∧ d < 100 then .num (200000 + b % 10) :: .ld :: stG (d + 1) r
  else if a % 12 = 4 ∧ 0 < d then .num (200000 + b % 10) :: .st :: stG (d - 1) r
  else if a % 12 = 5 ∧ 0 < d then .wr :: stG (d - 1) r
  else if 5 < a % 12 ∧ 1 < d then .op (opS (a % 12)) :: stG (d - 1) r
  else stG d r
theorem stG_ok : ∀ (l : List (Nat × Nat)) (d : Nat), (∀ p ∈ l, p.2 < 4294967296) → ∀ x ∈ stG d l, x.ok
 | [], d, _, x, hx => by
  rw [stG] at hx
  rw [List.eq_of_mem_replicate hx]
  trivial
 | (a, b) :: r, d, h, x, hx => by
  have hb : b < 4294967296 := h (a, b) (List.mem_cons_self ..)
  have ih := fun d => stG_ok r d fun p hp => h p (List.mem_cons_of_mem _ hp)
  have ha : (200000 + b % 10) < 4294967296 := by omega
  rw [stG] at hx
  repeat' split at hx
  ·rcases List.mem_cons.1 hx with rfl | hx
   ·exact hb
   ·exact ih _ x hx
  ·rcases List.mem_cons.1 hx with rfl | hx
   ·exact ha
   rcases List.mem_cons.1 hx with rfl | hx
   ·trivial
   ·exact ih _ x hx
  ·rcases List.mem_cons.1 hx with rfl | hx
   ·exact ha
   rcases List.mem_cons.1 hx with rfl | hx
   ·trivial
   ·exact ih _ x hx
  ·rcases List.mem_cons.1 hx with rfl | hx
   ·trivial
   ·exact ih _ x hx
  ·rcases List.mem_cons.1 hx with rfl | hx
   ·exact opS_op _
   ·exact ih _ x hx
  ·exact ih _ x hx
theorem stG_len : ∀ (l : List (Nat × Nat)) (d : Nat), (stG d l).length ≤ 3 * l.length + d
 | [], d => by rw [stG, List.length_replicate]; omega
 | (a, b) :: r, d => by
  have ih := stG_len r
  rw [stG, List.length_cons]
  repeat' split
  ·have := ih (d + 1); simp only [List.length_cons]; omega
  ·have := ih (d + 1); simp only [List.length_cons]; omega
  ·have := ih (d - 1); simp only [List.length_cons]; omega
  ·have := ih (d - 1); simp only [List.length_cons]; omega
  ·have := ih (d - 1); simp only [List.length_cons]; omega
  ·have := ih d; omega
/-- A run ends well. -/
def EndsK (l : List SI) (t : ST) : Prop := ∀ f, ∃ e o k, siK f l t = some (e, o, k) ∧ (e = 0 ∨ e = 12)
theorem ends_inl {x : SI} {l : List SI} {t t' : ST} (h : x.exe t = some (.inl t')) (hk : EndsK l t') : EndsK (x :: l) t := fun f => by
 obtain ⟨e, o, k, h1, h2⟩ := hk x.dg
 exact ⟨e, o, _, K_mk h h1, h2⟩
theorem ends_inr {x : SI} {l : List SI} {t : ST} {o : Wd} (h : x.exe t = some (.inr o)) : EndsK (x :: l) t := fun f => ⟨12, o, costS f x, by rw [siK, h], .inr rfl⟩
theorem ends_wr : ∀ (d : Nat) (t : ST), t.data.length = d → EndsK (List.replicate d .wr) t
 | 0, t, _ => fun f => ⟨0, t.out, 1, rfl, .inl rfl⟩
 | d + 1, t, h => by
  rw [List.replicate_succ]
  match hd : t.data with
  | [] => rw [hd] at h; cases h
  | v :: r =>
   have he : SI.wr.exe t = some (.inl { t with data := r, out := t.out ++ [UInt8.ofNat v] }) := by simp only [SI.exe, hd]
   exact ends_inl he (ends_wr d _ (by rw [hd] at h; simpa using h))
theorem stG_ends : ∀ (l : List (Nat × Nat)) (d : Nat) (t : ST), t.data.length = d → d ≤ 100 → EndsK (stG d l) t
 | [], d, t, h, _ => ends_wr d t h
 | (a, b) :: r, d, t, h, hd => by
  rw [stG]
  repeat' split
  ·rename_i hc
   exact ends_inl (num_exe (by omega)) (stG_ends r (d + 1) _ (by show (b :: t.data).length = _; rw [List.length_cons, h]) (by omega))
  ·rename_i hc
   have ha : 200000 ≤ 200000 + b % 10 ∧ 200000 + b % 10 < 262144 := by omega
   refine ends_inl (num_exe (by omega)) (ends_inl (t' := { t with data := t.mem (200000 + b % 10) :: t.data }) ?_ (stG_ends r (d + 1) _ (by show (_ :: t.data).length = _; rw [List.length_cons, h]) (by omega)))
   simp only [SI.exe]
   rw [if_pos ha]
  ·rename_i hc
   have ha : 200000 ≤ 200000 + b % 10 ∧ 200000 + b % 10 < 262144 := by omega
   match hq : t.data with
   | [] => rw [hq] at h; simp only [List.length_nil] at h; omega
   | v :: q =>
    refine ends_inl (num_exe (by omega)) (ends_inl (t' := { data := q, mem := fun i => if i = 200000 + b % 10 then v else t.mem i, out := t.out }) ?_ (stG_ends r (d - 1) _ (by show q.length = _; rw [hq] at h; simp only [List.length_cons] at h; omega) (by omega)))
    simp only [SI.exe, hq]
    rw [if_pos ha]
  ·rename_i hc
   match hq : t.data with
   | [] => rw [hq] at h; simp only [List.length_nil] at h; omega
   | v :: q =>
    have he : SI.wr.exe t = some (.inl { t with data := q, out := t.out ++ [UInt8.ofNat v] }) := by simp only [SI.exe, hq]
    exact ends_inl he (stG_ends r (d - 1) _ (by show q.length = _; rw [hq] at h; simp only [List.length_cons] at h; omega) (by omega))
  ·rename_i hc
   match hq : t.data with
   | [] => rw [hq] at h; simp only [List.length_nil] at h; omega
   | [_] => rw [hq] at h; simp only [List.length_cons, List.length_nil] at h; omega
   | y :: z :: q =>
    cases hv : binM (opS (a % 12)).toNat z y with
    | none =>
     have he : (SI.op (opS (a % 12))).exe t = some (.inr t.out) := by simp only [SI.exe, hq, hv]
     exact ends_inr he
    | some v => exact ends_inl (op_exe hq hv) (stG_ends r (d - 1) _ (by show (v :: q).length = _; rw [hq] at h; simp only [List.length_cons] at h ⊢; omega) (by omega))
  ·exact stG_ends r d t h hd
/-- The law of PeepholeStraight, plain. -/
theorem straight_all (l : List (Nat × Nat)) (h : ∀ p ∈ l, p.2 < 4294967296) (hl : l.length ≤ 100) : ∃ e o k, (e = 0 ∨ e = 12) ∧
  (∃ x labs, asmP (join (siW (stG 0 l)) [32]) 10000 = .ok (x, labs) ∧ x.length ≤ 40000 ∧ runM 5000000 (startM x 10000 []) = (e, o, k)) ∧
  ∃ y labs k', asmP (join (optP (siW (stG 0 l))) [32]) 10000 = .ok (y, labs) ∧ y.length ≤ 40000 ∧ runM 5000000 (startM y 10000 []) = (e, o, k') ∧ k' ≤ k := by
 obtain ⟨e, o, k, h1, h2⟩ := stG_ends l 0 st0 rfl (by decide) false
 obtain ⟨a, b⟩ := straight_law (stG_ok l 0 h) (by have := stG_len l 0; omega) h1
 exact ⟨e, o, k, h2, a, b⟩
end Go.Stele
