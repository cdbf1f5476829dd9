/- Texts joined: AsmSpec, PeepLib, AsmA, PeepM, AsmB, AsmC, GlFour, MchSpec, MchWord, MchIns, CmpSpec, InpBnd, CmpLab, AsmD, GlArith. -/
import Derived.Lib.Strings
import Derived.Lib.SlTrimSet
import Derived.Lib.SplitLaws
import Derived.Shelf.Strings.SlTrimAscii
import Derived.KernelRfl
import Derived.Lib.Replace
import Derived.Lib.Join
import Derived.StillTail
import Derived.Test.YtdakelgkjdaijaaGreatDoorBRowP21
import Derived.Test.YtdakelgkjdaijaaGreatDoorBRowP22
set_option linter.unusedVariables false
set_option linter.unusedSimpArgs false
namespace Go.Stele
open Go.Lib
/-- Six digits of an address. -/
def addrW (n : Nat) : Wd := ([48, 48, 48, 48, 48] ++ decDigits n).drop (([48, 48, 48, 48, 48] ++ decDigits n).length - 6)
/-- A word as it is written. -/
def pieceW (known : Wd → Nat) (w : Wd) : Wd := match refW w with
 | some x => addrW (known x)
 | none => w
/-- A word written behind a text. -/
def addT (known : Wd → Nat) (t w : Wd) : Wd := match defW w with
 | some _ => t
 | none => t ++ (if lastD t && firstD (pieceW known w) then [32] else []) ++ pieceW known w
/-- The text of words. -/
def textA (known : Wd → Nat) (l : List Wd) : Wd := l.foldl (addT known) []
/-- A word more: the text and the labels. -/
def stepA (known : Wd → Nat) (og : Nat) (s : Wd × List (Wd × Nat)) (w : Wd) : Wd × List (Wd × Nat) := match defW w with
 | some x => (s.1, s.2 ++ [(x, og + s.1.length)])
 | none => (addT known s.1 w, s.2)
def labsA (known : Wd → Nat) (og : Nat) (l : List Wd) : List (Wd × Nat) := (l.foldl (stepA known og) ([], [])).2
/-- The address of a label, 0 if there is none. -/
def findL (labs : List (Wd × Nat)) (x : Wd) : Nat := match labs.find? fun p => decide (p.1 = x) with
 | some p => p.2
 | none => 0
/-- The line and the error of the first token that cannot be; met: the labels before. -/
def errT (all : List Wd) : List Wd → List (Wd × Nat) → Nat × Nat
 | _, [] => (0, 0)
 | met, (w, ln) :: r => match defW w with
  | some x => if x ∈ met then (ln, 8) else errT all (met ++ [x]) r
  | none => match refW w with
   | some x => if x ∈ all then errT all met r else (ln, 7)
   | none => if codeW w = true then errT all met r else (ln, 3)
/-- What Assemble yields: the text and the labels, or the line and the error. -/
def asmP (src : Wd) (og : Int) : Except (Nat × Nat) (Wd × List (Wd × Nat)) :=
 if og < 0 ∨ 262144 ≤ og then .error (0, 2)
 else if (errT (defs (wordsP src)) [] (toksP src)).2 ≠ 0 then .error (errT (defs (wordsP src)) [] (toksP src))
 else if 40000 < (textA (findL (labsA (fun _ => 0) og.toNat (wordsP src))) (wordsP src)).length then .error (0, 6)
 else .ok (textA (findL (labsA (fun _ => 0) og.toNat (wordsP src))) (wordsP src), labsA (fun _ => 0) og.toNat (wordsP src))
theorem addrW_len (n : Nat) : (addrW n).length = 6 ∧ ∀ c ∈ addrW n, isDigit c = true := by
 have h1 : 1 ≤ (decDigits n).length := List.length_pos_iff.2 (decDigits_ne n)
 constructor
 ·unfold addrW
  rw [List.length_drop, List.length_append]
  simp only [List.length_cons, List.length_nil]
  omega
 ·intro c hc
  have h2 := List.mem_of_mem_drop hc
  rcases List.mem_append.1 h2 with h | h
  ·simp only [List.mem_cons, List.not_mem_nil, or_false, or_self] at h
   rw [h]; decide
  ·exact dec_digits n c h
theorem piece_first {known : Wd → Nat} {w : Wd} (known' : Wd → Nat) : firstD (pieceW known w) = firstD (pieceW known' w) ∧ lastD (pieceW known w) = lastD (pieceW known' w) ∧ (pieceW known w).length = (pieceW known' w).length := by
 unfold pieceW
 cases refW w with
 | none => exact ⟨rfl, rfl, rfl⟩
 | some x =>
  have key : ∀ n, firstD (addrW n) = true ∧ lastD (addrW n) = true ∧ (addrW n).length = 6 := fun n => by
   obtain ⟨h1, h2⟩ := addrW_len n
   have hne : addrW n ≠ [] := fun h => by rw [h] at h1; cases h1
   refine ⟨?_, ?_, h1⟩
   ·cases h : addrW n with
    | nil => exact absurd h hne
    | cons c r => exact h2 c (by rw [h]; simp)
   ·unfold lastD
    rw [List.getLast?_eq_some_getLast hne]
    exact h2 _ (List.getLast_mem hne)
  obtain ⟨a1, a2, a3⟩ := key (known x)
  obtain ⟨b1, b2, b3⟩ := key (known' x)
  exact ⟨a1.trans b1.symm, a2.trans b2.symm, a3.trans b3.symm⟩
theorem lastD_app {a b : Wd} (h : b ≠ []) : lastD (a ++ b) = lastD b := by
 unfold lastD
 rw [List.getLast?_append, List.getLast?_eq_some_getLast h]; rfl
theorem addT_nil (known : Wd → Nat) (t w : Wd) (hd : defW w = none) (hw : w ≠ []) : pieceW known w ≠ [] ∧ lastD (addT known t w) = lastD (pieceW known w) ∧ (addT known t w).length = t.length + one (lastD t && firstD (pieceW known w)) + (pieceW known w).length := by
 have hp : pieceW known w ≠ [] := by
  unfold pieceW
  cases refW w with
  | none => exact hw
  | some x => intro h; have := (addrW_len (known x)).1; rw [show addrW (known x) = [] from h] at this; cases this
 refine ⟨hp, ?_, ?_⟩
 ·unfold addT
  rw [hd]
  exact lastD_app hp
 ·unfold addT
  rw [hd]
  simp only [List.length_append, one]
  split <;> rfl
/-- How long the text is, whatever the addresses. -/
theorem foldT_len (known : Wd → Nat) : ∀ (l : List Wd) (t : Wd), (∀ w ∈ l, w ≠ []) → (l.foldl (addT known) t).length = t.length + lenW (lastD t) l
 | [], t, _ => rfl
 | w :: r, t, h => by
  have hr := fun x hx => h x (List.mem_cons_of_mem w hx)
  rw [List.foldl_cons, foldT_len known r _ hr, lenW]
  cases hd : defW w with
  | some x =>
   have : addT known t w = t := by unfold addT; rw [hd]
   rw [this]
  | none =>
   obtain ⟨h1, h2, h3⟩ := addT_nil known t w hd (h w (by simp))
   rw [h2, h3]
   cases hr : refW w with
   | some x =>
    have hp : pieceW known w = addrW (known x) := by unfold pieceW; rw [hr]
    obtain ⟨a1, a2⟩ := addrW_len (known x)
    have hf : firstD (addrW (known x)) = true := by
     cases h : addrW (known x) with
     | nil => rw [h] at a1; cases a1
     | cons c q => exact a2 c (by rw [h]; simp)
    have hl : lastD (addrW (known x)) = true := by
     have hne : addrW (known x) ≠ [] := fun h => by rw [h] at a1; cases a1
     unfold lastD
     rw [List.getLast?_eq_some_getLast hne]
     exact a2 _ (List.getLast_mem hne)
    rw [hp, hf, hl, a1, Bool.and_true]
    simp only
    omega
   | none =>
    have hp : pieceW known w = w := by unfold pieceW; rw [hr]
    rw [hp]
    simp only
    omega
theorem textA_len (known : Wd → Nat) (l : List Wd) (h : ∀ w ∈ l, w ≠ []) : (textA known l).length = lenW false l := by
 have := foldT_len known l [] h
 rw [textA, this]
 simp [lastD]
theorem stepA_fst (known : Wd → Nat) (og : Nat) : ∀ (l : List Wd) (s : Wd × List (Wd × Nat)), (l.foldl (stepA known og) s).1 = l.foldl (addT known) s.1
 | [], s => rfl
 | w :: r, s => by
  rw [List.foldl_cons, List.foldl_cons, stepA_fst known og r]
  congr 1
  unfold stepA
  cases hd : defW w with
  | some x => simp only; unfold addT; rw [hd]
  | none => rfl
/-- The labels do not depend on the addresses. -/
theorem labs_any (known known' : Wd → Nat) (og : Nat) : ∀ (l : List Wd) (s s' : Wd × List (Wd × Nat)), (∀ w ∈ l, w ≠ []) → s.1.length = s'.1.length → lastD s.1 = lastD s'.1 → s.2 = s'.2 → (l.foldl (stepA known og) s).2 = (l.foldl (stepA known' og) s').2
 | [], s, s', _, _, _, h => h
 | w :: r, s, s', hw, h1, h2, h3 => by
  rw [List.foldl_cons, List.foldl_cons]
  have hr := fun x hx => hw x (List.mem_cons_of_mem w hx)
  cases hd : defW w with
  | some x =>
   have e1 : stepA known og s w = (s.1, s.2 ++ [(x, og + s.1.length)]) := by unfold stepA; rw [hd]
   have e2 : stepA known' og s' w = (s'.1, s'.2 ++ [(x, og + s'.1.length)]) := by unfold stepA; rw [hd]
   rw [e1, e2]
   exact labs_any known known' og r _ _ hr h1 h2 (by simp only [h3, h1])
  | none =>
   have e1 : stepA known og s w = (addT known s.1 w, s.2) := by unfold stepA; rw [hd]
   have e2 : stepA known' og s' w = (addT known' s'.1 w, s'.2) := by unfold stepA; rw [hd]
   rw [e1, e2]
   obtain ⟨a1, a2, a3⟩ := addT_nil known s.1 w hd (hw w (by simp))
   obtain ⟨b1, b2, b3⟩ := addT_nil known' s'.1 w hd (hw w (by simp))
   obtain ⟨c1, c2, c3⟩ := piece_first (known := known) (w := w) known'
   exact labs_any known known' og r _ _ hr (by rw [a3, b3, c1, c3, h1, h2]) (by rw [a2, b2, c2]) h3
theorem labsA_any (known known' : Wd → Nat) (og : Nat) (l : List Wd) (h : ∀ w ∈ l, w ≠ []) : labsA known og l = labsA known' og l := labs_any known known' og l _ _ h rfl rfl rfl
theorem labsA_names (known : Wd → Nat) (og : Nat) : ∀ (l : List Wd) (s : Wd × List (Wd × Nat)), ((l.foldl (stepA known og) s).2).map (·.1) = s.2.map (·.1) ++ defs l
 | [], s => by simp [defs]
 | w :: r, s => by
  rw [List.foldl_cons, labsA_names known og r]
  unfold stepA defs
  cases hd : defW w with
  | some x => simp [hd]
  | none => simp [hd]
end Go.Stele
namespace Go.Stele
open Go.Lib
/-- The characters of a label. -/
def nameSet : List UInt8 := [97, 98, 99, 100, 101, 102, 103, 104, 105, 106, 107, 108, 109, 110, 111, 112, 113, 114, 115, 116, 117, 118, 119, 120, 121, 122, 48, 49, 50, 51, 52, 53, 54, 55, 56, 57, 95]
theorem nameSet_inner : ∀ n : Nat, n < 256 → nameSet.contains (UInt8.ofNat n) = isInner (UInt8.ofNat n) := by decide +kernel
theorem set_inner (c : UInt8) : nameSet.contains c = isInner c := by
 have h := nameSet_inner c.toNat c.toNat_lt
 rwa [UInt8.ofNat_toNat] at h
theorem dropWhile_nil {p : UInt8 → Bool} : ∀ {l : List UInt8}, l.dropWhile p = [] ↔ l.all p = true
 | [] => by simp
 | c :: l => by
  rw [List.dropWhile_cons, List.all_cons]
  cases h : p c with
  | true => simpa using dropWhile_nil
  | false => simp
theorem trim_nil (s : List UInt8) : (trimS s nameSet = []) ↔ s.all isInner = true := by
 have he : (fun c => nameSet.contains c) = isInner := funext set_inner
 unfold trimS trimLeftS trimRightS
 rw [he, dropWhile_nil]
 constructor
 ·intro h
  by_cases h2 : s.reverse.dropWhile isInner = []
  ·rw [dropWhile_nil] at h2
   rw [List.all_reverse] at h2
   exact h2
  ·exfalso
   obtain ⟨c, r, hcr⟩ := List.exists_cons_of_ne_nil h2
   have h3 : isInner c = false := by
    have := List.head?_dropWhile_not isInner s.reverse
    rw [hcr] at this
    simpa using this
   rw [hcr, List.all_reverse, List.all_cons, h3] at h
   cases h
 ·intro h
  have h2 : s.reverse.dropWhile isInner = [] := by rw [dropWhile_nil, List.all_reverse]; exact h
  rw [h2]
  rfl
theorem pre_hit (r : List UInt8) : hasPrefix (38 :: r) [38] = true ∧ trimPrefix (38 :: r) [38] = r := by
 simp [trimPrefix, hasPrefix, List.isPrefixOf]
theorem pre_miss {c : UInt8} (h : c ≠ 38) (r : List UInt8) : hasPrefix (c :: r) [38] = false := by
 have : ¬ (38 : UInt8) = c := fun e => h e.symm
 simp [hasPrefix, List.isPrefixOf, this]
/-- The label behind the sign of a reference. -/
theorem ref_eq (w : Wd) : refW w = if hasPrefix w [38] = true ∧ nameW (trimPrefix w [38]) = true then some (trimPrefix w [38]) else none := by
 cases w with
 | nil => rfl
 | cons c r =>
  by_cases h : c = 38
  ·subst h
   rw [(pre_hit r).1, (pre_hit r).2]
   simp [refW]
  ·rw [pre_miss h]
   simp [refW, h]
theorem suffix_one (w : Wd) : hasSuffix w [58] = decide (w.getLast? = some 58) := by
 unfold hasSuffix
 rw [Bool.eq_iff_iff, List.isSuffixOf_iff_suffix, decide_eq_true_iff]
 constructor
 ·rintro ⟨t, rfl⟩
  simp
 ·intro h
  rw [List.getLast?_eq_some_iff] at h
  obtain ⟨t, rfl⟩ := h
  exact ⟨t, rfl⟩
theorem def_eq (w : Wd) : defW w = if hasSuffix w [58] = true ∧ nameW (trimSuffix w [58]) = true then some (trimSuffix w [58]) else none := by
 rw [suffix_one]
 unfold defW
 by_cases h : w.getLast? = some 58
 ·have h2 : trimSuffix w [58] = w.dropLast := by
   unfold trimSuffix
   rw [suffix_one, decide_eq_true h, if_pos rfl, List.dropLast_eq_take]
   rfl
  rw [h2]
  simp [h]
 ·simp [h]
end Go.Stele
namespace Go.GL
open Go.RowKit
theorem elemsOk_strs : ∀ l : List (List UInt8), elemsOk 1 (l.map str)
 | [] => elemsOk.nil
 | a :: l => elemsOk.cons rfl rfl (elemsOk_strs l)
theorem LCalls.ret_strs {C : Ctx} {f : FuncId} {vs : List Value} {l : List (List UInt8)} {t : TypeId}
  (h : ∀ w, Below C.B0 C.w0 w → Calls C.P f vs.toArray w (fun e w' => e = .returned (.slice (some ⟨w.heap.size, 0, none⟩) l.length l.length) ∧ w' = w.alloc (.cells (l.map fun s => Value.string ⟨s.toArray⟩).toArray t))) : LCalls C f (vs.map .atom) [] (Ret (.list (l.map str))) := fun xs w L hv hH => by
 have hx : xs = vs := by
  clear h hH
  induction vs generalizing xs with
  | nil => simpa [RepL] using hv
  | cons v vs ih =>
   simp only [List.map_cons, RepL, Rep] at hv
   obtain ⟨y, ys, rfl, rfl, hv⟩ := hv
   rw [ih _ hv]
 subst hx
 refine (h w hH.base).mono fun e w' he => ?_
 obtain ⟨rfl, rfl⟩ := he
 have hr : RepL w L (l.map str) (l.map fun s => Value.string ⟨s.toArray⟩) := by
  have := repL_atoms (w := w) (L := L) (l.map fun s => Value.string ⟨s.toArray⟩)
  rw [List.map_map] at this
  exact this
 have hok : elemsOk 1 (l.map str) := elemsOk_strs l
 have hl : (l.map str).length = l.length := List.length_map _
 have := left_newRow (K := fun lv H => ∃ b, lv = .app b l.length 1 (l.map str)) (t := t) (cap := l.length) (rest := []) hH hr hok (by omega) (by simp) fun b => ⟨b, rfl⟩
 have e1 : ((l.map fun s => Value.string ⟨s.toArray⟩).flatMap fun v => v.cells.toList) ++ [] = l.map fun s => Value.string ⟨s.toArray⟩ := by
  rw [List.append_nil]
  clear this hok hr h hv hl
  induction l with
  | nil => rfl
  | cons a l ih => rw [List.map_cons, List.flatMap_cons, ih]; rfl
 rw [e1, hl] at this
 obtain ⟨lv, H', L', r1, r2, r3, b, rfl⟩ := this
 exact ⟨.list (l.map str), [], L', r1.weak (HSub.nil _), r2.weak (HSub.nil _), LV.Sub.app _ _ _ _ _ _ _ r3, rfl, rfl⟩
end Go.GL
namespace Go.Proofs.YtdakelgkjdaijaaGreatDoor
open Go.GL Go.RowKit Go.Stele
set_option maxRecDepth 100000
set_option maxHeartbeats 4000000
namespace Asm
/-- The cell of the library's longest needle holds a number. -/
def GM (w0 : World) : Prop := ∃ m, w0.cell? ⟨0, 0, none⟩ = some (.int .i64 m)
theorem cells_rows {w : World} {L : Live} {b : Nat} : ∀ (k off : Nat) (ws : List (List UInt8)), RepRows w L b k off (ws.map str) → ∀ (j : Nat) x, (ws.map fun l => (⟨l.toArray⟩ : ByteArray))[j]? = some x → k = 1 ∧ w.cell? ⟨b, off + j, none⟩ = some (.string x)
 | k, off, [], _, j, x, h => by simp at h
 | k, off, s :: ws, h, 0, x, hx => by
  simp only [List.map_cons, RepRows] at h
  obtain ⟨⟨hk, _, y, hy, hr⟩, _⟩ := h
  simp only [Rep] at hr
  simp at hx
  rw [← hx, Nat.add_zero, hy, hr]
  exact ⟨hk.symm, rfl⟩
 | k, off, s :: ws, h, j + 1, x, hx => by
  simp only [List.map_cons, RepRows] at h
  obtain ⟨⟨hk, _⟩, h2⟩ := h
  have := cells_rows k (off + k) ws h2 j x (by simpa using hx)
  refine ⟨hk.symm, ?_⟩
  rw [← this.2, ← hk, Nat.add_assoc, Nat.add_comm 1 j]
section
variable {B0 : Nat} {w0 : World}
theorem cutPrefix_spec (s p : List UInt8) : LCalls (KC B0 w0) 69 [str s, str p] [] (Ret (.tuple [str (Go.Lib.trimPrefix s p), bool (Go.Lib.hasPrefix s p)])) := by
 refine LCalls.mono (LCalls.of_belowT (vs := [.string ⟨s.toArray⟩, .string ⟨p.toArray⟩]) (p := fun us => us = [.string ⟨(Go.Lib.trimPrefix s p).toArray⟩, .bool (Go.Lib.hasPrefix s p)]) fun w hw => ?_) ?_
 ·refine (Tryz.strings_CutPrefix ⟨s.toArray⟩ ⟨p.toArray⟩ w).mono fun e w' he => ⟨_, he.1, rfl, by rw [he.2]; exact Below.refl _ _⟩
 ·rintro r H ⟨v, rfl, ⟨us, rfl, rfl⟩, rfl⟩
  exact ⟨rfl, rfl⟩
theorem cutSuffix_spec (s p : List UInt8) (hs : s.length ≤ 1000000000) : LCalls (KC B0 w0) 150 [str s, str p] [] (Ret (.tuple [str (Go.Lib.trimSuffix s p), bool (Go.Lib.hasSuffix s p)])) := by
 refine LCalls.mono (LCalls.of_belowT (vs := [.string ⟨s.toArray⟩, .string ⟨p.toArray⟩]) (p := fun us => us = [.string ⟨(Go.Lib.trimSuffix s p).toArray⟩, .bool (Go.Lib.hasSuffix s p)]) fun w hw => ?_) ?_
 ·refine (Tryz.strings_CutSuffix ⟨s.toArray⟩ ⟨p.toArray⟩ w (by show s.toArray.size ≤ _; simp; omega)).mono fun e w' he => ⟨_, he.1, rfl, by rw [he.2]; exact Below.refl _ _⟩
 ·rintro r H ⟨v, rfl, ⟨us, rfl, rfl⟩, rfl⟩
  exact ⟨rfl, rfl⟩
theorem joinS_spec (sep : List UInt8) (ws : List (List UInt8)) (hn : ws.length ≤ 1000000000) (hl : (Go.Lib.join ws sep).length ≤ 1000000000) : LCalls (KC B0 w0) 16 [.list (ws.map str), str sep] [] (Ret (str (Go.Lib.join ws sep))) := fun xs w L hv hH => by
 simp only [RepL] at hv
 obtain ⟨y, ys, rfl, hy, z, zs, rfl, hz, rfl⟩ := hv
 simp only [Rep] at hy hz
 obtain ⟨a, cap, rfl, hcap, hrows⟩ := hy
 subst hz
 rw [List.length_map] at hcap
 have hmap : (ws.map fun l => (⟨l.toArray⟩ : ByteArray)).map (·.data.toList) = ws := by
  rw [List.map_map]
  conv => rhs; rw [← List.map_id ws]
  rfl
 have hc : Calls Tryz.prog 16 #[.slice a ws.length cap, .string ⟨sep.toArray⟩] w fun e w' => e = .returned (.string ⟨(Go.Lib.join ws sep).toArray⟩) ∧ Below w.heap.size w w' := by
  by_cases hne : ws = []
  ·subst hne
   exact (Tryz.strings_Join_none a cap ⟨sep.toArray⟩ w).mono fun e w' he => ⟨by rw [he.1]; rfl, by rw [he.2]; exact Below.refl _ _⟩
  ·obtain ⟨b, off, k, rfl, hr⟩ := hrows (by simpa using hne)
   have hcells := fun j x hx => (cells_rows k off ws hr j x hx).2
   have hb : b < w.heap.size := by
    obtain ⟨s, r, rfl⟩ := List.exists_cons_of_ne_nil hne
    have := hcells 0 _ rfl
    exact World.block_lt_of_cell? _ _ this
   have := Tryz.strings_Join b off cap (ws.map fun l => (⟨l.toArray⟩ : ByteArray)) ⟨sep.toArray⟩ w hcells hb (by rw [List.length_map]; omega) (by rw [List.length_map]; exact hcap) (by rw [hmap]; show (Go.Lib.join ws sep).length ≤ _; omega)
   rw [List.length_map, hmap] at this
   exact this
 rw [List.length_map]
 refine hc.mono fun e w' he => ?_
 obtain ⟨rfl, hb⟩ := he
 obtain ⟨h1, h2⟩ := fr_below hH hb
 exact ⟨str (Go.Lib.join ws sep), [], L, h1, h2, rep_atom, rfl, rfl⟩
theorem GM.at (hG : GW B0 w0) (h : GM w0) {w : World} (hb : Below B0 w0 w) : ∃ m, w.cell? ⟨0, 0, none⟩ = some (.int .i64 m) := by
 obtain ⟨m, hm⟩ := h
 exact ⟨m, (cell_of_heap (hb.block 0 (Nat.lt_of_lt_of_le (by decide) hG.big)) 0).trans hm⟩
theorem split_spec (hG : GW B0 w0) (hM : GM w0) (s : List UInt8) (c : UInt8) (hs : s.length ≤ 1000000000) : LCalls (KC B0 w0) 89 [str s, str [c]] [] (Ret (.list ((pieces c s).map str))) := by
 rw [← split_one]
 refine LCalls.ret_strs (vs := [.string ⟨s.toArray⟩, .string ⟨#[c]⟩]) (t := 9) fun w hw => ?_
 obtain ⟨m, hm⟩ := GM.at hG hM hw
 have h1 := Tryz.strings_Split ⟨s.toArray⟩ ⟨#[c]⟩ m w (by show s.toArray.size < _; simp; omega) hm (Nat.le_refl 1)
 have e1 : (Go.Lib.splitB ⟨#[c]⟩ 0 (Go.Lib.countB ⟨s.toArray⟩ ⟨#[c]⟩) ⟨s.toArray⟩).map Value.string = (Go.Lib.split s [c]).map fun s => Value.string ⟨s.toArray⟩ := by
  have := Go.Lib.splitB_data ⟨#[c]⟩ 0 (Go.Lib.countB ⟨s.toArray⟩ ⟨#[c]⟩) ⟨s.toArray⟩
  have e2 : Go.Lib.split s [c] = Go.Lib.splitK (⟨#[c]⟩ : ByteArray).data.toList 0 (Go.Lib.countB ⟨s.toArray⟩ ⟨#[c]⟩) (⟨s.toArray⟩ : ByteArray).data.toList := rfl
  rw [e2, ← this, List.map_map]
  rfl
 have e3 : (Go.Lib.split s [c]).length = Go.Lib.countB ⟨s.toArray⟩ ⟨#[c]⟩ + 1 := by
  have := congrArg List.length e1
  rw [List.length_map, List.length_map, Go.Lib.splitB_all ⟨#[c]⟩ (Nat.le_refl 1) 0 _ _ rfl] at this
  exact this.symm
 rw [e1] at h1
 rw [e3]
 exact h1
theorem cut_spec (hG : GW B0 w0) (hM : GM w0) (s : List UInt8) (c : UInt8) (hs : s.length ≤ 1000000000) : LCalls (KC B0 w0) 90 [str s, str [c]] [] (RetIf fun lv => ∃ a b, lv = .tuple [str (s.takeWhile fun d => decide (d ≠ c)), str a, bool b]) := by
 rw [← cut_one]
 refine LCalls.mono (LCalls.of_belowT (vs := [.string ⟨s.toArray⟩, .string ⟨#[c]⟩]) (p := fun us => us = [.string ⟨(Go.Lib.cut s [c]).1.toArray⟩, .string ⟨(Go.Lib.cut s [c]).2.1.toArray⟩, .bool (Go.Lib.cut s [c]).2.2]) fun w hw => ?_) ?_
 ·obtain ⟨m, hm⟩ := GM.at hG hM hw
  refine (Tryz.strings_Cut ⟨s.toArray⟩ ⟨#[c]⟩ m w (by show s.toArray.size < _; simp; omega) hm).mono fun e w' he => ?_
  obtain ⟨rfl, n, rfl⟩ := he
  exact ⟨_, rfl, rfl, below_drewN (Below.refl _ _) n⟩
 ·rintro r H ⟨v, rfl, ⟨us, rfl, rfl⟩, rfl⟩
  exact ⟨_, rfl, ⟨_, _, rfl⟩, rfl⟩
def tokLV (p : Wd × Nat) : LV := .agg [str p.1, int .i64 p.2]
end
def nameSet2 : List UInt8 := [97, 98, 99, 100, 101, 102, 103, 104, 105, 106, 107, 108, 109, 110, 111, 112, 113, 114, 115, 116, 117, 118, 119, 120, 121, 122, 95, 48, 49, 50, 51, 52, 53, 54, 55, 56, 57]
theorem set2_inner (c : UInt8) : nameSet2.contains c = isInner c := by
 have : ∀ n : Nat, n < 256 → nameSet2.contains (UInt8.ofNat n) = isInner (UInt8.ofNat n) := by decide +kernel
 have h := this c.toNat c.toNat_lt
 rwa [UInt8.ofNat_toNat] at h
theorem trim_gen {st : List UInt8} {p : UInt8 → Bool} (he : ∀ c, st.contains c = p c) (s : List UInt8) : (Go.Lib.trimS s st = []) ↔ s.all p = true := by
 have he : (fun c => st.contains c) = p := funext he
 unfold Go.Lib.trimS Go.Lib.trimLeftS Go.Lib.trimRightS
 rw [he, dropWhile_nil]
 constructor
 ·intro h
  by_cases h2 : s.reverse.dropWhile p = []
  ·rw [dropWhile_nil] at h2
   rw [List.all_reverse] at h2
   exact h2
  ·exfalso
   obtain ⟨c, r, hcr⟩ := List.exists_cons_of_ne_nil h2
   have h3 : p c = false := by
    have := List.head?_dropWhile_not p s.reverse
    rw [hcr] at this
    simpa using this
   rw [hcr, List.all_reverse, List.all_cons, h3] at h
   cases h
 ·intro h
  have h2 : s.reverse.dropWhile p = [] := by rw [dropWhile_nil, List.all_reverse]; exact h
  rw [h2]
  rfl
def OptLV (o : Option Wd) (lv : LV) : Prop := ∃ s, lv = .tuple [str s, bool o.isSome] ∧ ∀ l, o = some l → s = l
theorem OptLV.mk {o : Option Wd} {s : Wd} {b : Bool} (hb : o.isSome = b) (hs : ∀ l, o = some l → s = l) : OptLV o (.tuple [str s, bool b]) := ⟨s, by rw [hb], hs⟩
theorem ite_some {p q : Bool} {s : Wd} {o : Option Wd} (h : o = if p = true ∧ q = true then some s else none) : o.isSome = (p && q) ∧ ∀ l, o = some l → s = l := by
 subst h
 cases p <;> cases q <;> simp
attribute [local irreducible] LOps LCode LStep LCalls Go.GL.Pure QThen QBlock RetPost LQ LAny LLate LLateOp
section
variable {B0 : Nat} {w0 : World}
theorem trim_any (s st : List UInt8) (hs : s.length ≤ 1000000000) (h1 : st.length ≤ 100) (h3 : st.all (fun b => decide (b.toNat < 128)) = true) : LCalls (KC B0 w0) 147 [str s, str st] [] (Ret (str (Go.Lib.trimS s st))) :=
 LCalls.ret_of (vs := [.string ⟨s.toArray⟩, .string ⟨st.toArray⟩]) fun w hw => (Go.Proofs.Any.strings_Trim_laid Tryz.lays160 (by kernel_rfl) ⟨s.toArray⟩ ⟨st.toArray⟩ w (by show s.toArray.size ≤ _; simp; omega) (by show st.toArray.size < _; simp; omega) (Go.Proofs.ascii_of_all h3))
theorem asmName_spec (s : List UInt8) (hs : s.length ≤ 1000000000) : LCalls (KC B0 w0) 168 [str s] [] (Ret (bool (nameW s))) := by
 have hT := trim_any (B0 := B0) (w0 := w0) s nameSet2 hs (by decide) (by decide)
 have hnil := trim_gen set2_inner s
 refine LCalls.intro Tryz.func168 rfl (n := 23) rfl rfl rfl ?_
 repeat first | refine LOps.nil ?_ | refine LCode.seq ?_ | refine LCode.region ?_ | refine QThen.normal ?_ | refine LOps.pure (Pure.as (lv := .atom _) rfl) rfl ?_ | refine LOps.pure (Pure.mv (lv := .atom _) rfl) rfl ?_ | refine LOps.pure (Pure.seq rfl rfl) rfl ?_
 refine LOps.bcase 5 rfl (fun h1 => ?_) (fun h1 => ?_)
 ·have e : s = [] := of_decide_eq_true h1
  subst e
  repeat first | refine LOps.nil ?_ | refine QThen.normal ?_ | refine LOps.pure (Pure.mv (lv := .atom _) rfl) rfl ?_ | refine LOps.pure (Pure.pickT (lv := .atom _) rfl rfl) rfl ?_ | refine LOps.skip rfl rfl rfl rfl ?_
  refine LCode.cond rfl (fun h => ?_) (fun h => by cases h)
  repeat first | refine LOps.nil ?_ | refine LCode.seq ?_ | refine LCode.region ?_ | refine LCode.ret ?_ | refine QThen.normal ?_ | refine QThen.ret ?_ | refine LOps.pure (Pure.as (lv := .atom _) rfl) rfl ?_
  exact retRet rfl (AllRes.cons (ResIs.tmp (v := .atom _) rfl (LV.Sub.refl _)) AllRes.nil) rfl
 have h1' : ¬ s = [] := of_decide_eq_false h1
 obtain ⟨c, r, rfl⟩ : ∃ c r, s = c :: r := by
  cases s with
  | nil => exact absurd rfl h1'
  | cons c r => exact ⟨c, r, rfl⟩
 have hN := nameW_eq c r
 repeat first | refine LOps.pure (Pure.mv (lv := .atom _) rfl) rfl ?_ | refine LOps.pure (Pure.slen rfl) rfl ?_ | refine LOps.pure (Pure.gtr rfl rfl) rfl ?_ | refine LOps.pure (Pure.pickF (lv := .atom _) rfl rfl) rfl ?_ | refine LOps.want rfl rfl ?_
 refine LOps.bcase 10 rfl (fun h2 => ?_) (fun h2 => ?_)
 ·have h2' : ¬ (c :: r).length ≤ 40 := by have := of_decide_eq_true h2; omega
  rw [decide_eq_false h2', Bool.false_and, Bool.false_and] at hN
  repeat first | refine LOps.nil ?_ | refine QThen.normal ?_ | refine LOps.pure (Pure.mv (lv := .atom _) rfl) rfl ?_ | refine LOps.pure (Pure.pickT (lv := .atom _) rfl rfl) rfl ?_ | refine LOps.skip rfl rfl rfl rfl ?_
  refine LCode.cond rfl (fun h => ?_) (fun h => by cases h)
  repeat first | refine LOps.nil ?_ | refine LCode.seq ?_ | refine LCode.region ?_ | refine LCode.ret ?_ | refine QThen.normal ?_ | refine QThen.ret ?_ | refine LOps.pure (Pure.as (lv := .atom _) rfl) rfl ?_
  exact retRet rfl (AllRes.cons (ResIs.tmp (v := .atom _) rfl (LV.Sub.refl _)) AllRes.nil) (bool_eq hN.symm)
 have h2' : (c :: r).length ≤ 40 := by have := of_decide_eq_false h2; omega
 rw [decide_eq_true h2', Bool.true_and] at hN
 repeat first | refine LOps.pure (Pure.mv (lv := .atom _) rfl) rfl ?_ | refine LOps.want rfl rfl ?_
 refine LOps.pure (Pure.sindex (c := c) rfl rfl (by omega) rfl) rfl ?_
 repeat first | refine LOps.pure (Pure.mv (lv := .atom _) rfl) rfl ?_ | refine LOps.pure (Pure.pickF (lv := .atom _) rfl rfl) rfl ?_ | refine LOps.pure (Pure.lss rfl rfl) rfl ?_ | refine LOps.want rfl rfl ?_
 refine LOps.bcase 15 rfl (fun h3 => ?_) (fun h3 => ?_)
 ·have h3' : isLetter c = false := by
   unfold isLetter
   rw [decide_eq_false (by have : cv c < 97 := of_decide_eq_true h3; omega), Bool.false_and]
  rw [h3', Bool.false_and] at hN
  repeat first | refine LOps.nil ?_ | refine QThen.normal ?_ | refine LOps.pure (Pure.pickT (lv := .atom _) rfl rfl) rfl ?_ | refine LOps.skip rfl rfl rfl rfl ?_
  refine LCode.cond rfl (fun h => ?_) (fun h => by cases h)
  repeat first | refine LOps.nil ?_ | refine LCode.seq ?_ | refine LCode.region ?_ | refine LCode.ret ?_ | refine QThen.normal ?_ | refine QThen.ret ?_ | refine LOps.pure (Pure.as (lv := .atom _) rfl) rfl ?_
  exact retRet rfl (AllRes.cons (ResIs.tmp (v := .atom _) rfl (LV.Sub.refl _)) AllRes.nil) (bool_eq hN.symm)
 repeat first | refine LOps.pure (Pure.mv (lv := .atom _) rfl) rfl ?_ | refine LOps.want rfl rfl ?_
 refine LOps.pure (Pure.sindex (c := c) rfl rfl (by omega) rfl) rfl ?_
 repeat first | refine LOps.nil ?_ | refine QThen.normal ?_ | refine LOps.pure (Pure.gtr rfl rfl) rfl ?_ | refine LOps.pure (Pure.pickF (lv := .atom _) rfl rfl) rfl ?_ | refine LOps.want rfl rfl ?_
 refine LCode.cond rfl (fun h => ?_) (fun h => ?_)
 ·have h3' : isLetter c = false := by
   unfold isLetter
   rw [decide_eq_false (p := cv c ≤ 122) (by have : cv c > 122 := of_decide_eq_true h; omega), Bool.and_false]
  rw [h3', Bool.false_and] at hN
  repeat first | refine LOps.nil ?_ | refine LCode.seq ?_ | refine LCode.region ?_ | refine LCode.ret ?_ | refine QThen.normal ?_ | refine QThen.ret ?_ | refine LOps.pure (Pure.as (lv := .atom _) rfl) rfl ?_
  exact retRet rfl (AllRes.cons (ResIs.tmp (v := .atom _) rfl (LV.Sub.refl _)) AllRes.nil) (bool_eq hN.symm)
 have h3' : isLetter c = true := by
  unfold isLetter
  rw [decide_eq_true (by have : ¬ cv c < 97 := of_decide_eq_false h3; omega), decide_eq_true (by have : ¬ cv c > 122 := of_decide_eq_false h; omega)]
  rfl
 rw [h3', Bool.true_and] at hN
 repeat first | refine LCode.seq ?_ | refine LCode.region ?_ | refine LCode.skip ?_ | refine QThen.normal ?_ | refine LOps.pure (Pure.mv (lv := .atom _) rfl) rfl ?_
 refine LOps.step (S.fn [_, _] rfl hT ?_) rfl
 repeat first | refine LOps.nil ?_ | refine LCode.ret ?_ | refine QThen.normal ?_ | refine LOps.pure (Pure.as (lv := .atom _) rfl) rfl ?_ | refine LOps.pure (Pure.seq rfl rfl) rfl ?_
 exact retRet rfl (AllRes.cons (ResIs.tmp (v := .atom _) rfl (LV.Sub.refl _)) AllRes.nil) (bool_eq (by
  rw [hN, Bool.eq_iff_iff, decide_eq_true_iff]
  exact hnil))
theorem asmDef_spec (p : Wd × Nat) (hs : p.1.length ≤ 1000000000) : LCalls (KC B0 w0) 91 [tokLV p] [] (RetIf (OptLV (defW p.1))) := by
 obtain ⟨w, ln⟩ := p
 simp only at hs ⊢
 obtain ⟨r1, r2⟩ := ite_some (def_eq w)
 have hlen : (Go.Lib.trimSuffix w [58]).length ≤ 1000000000 := by
  unfold Go.Lib.trimSuffix
  split
  ·rw [List.length_take]; omega
  ·exact hs
 unfold tokLV
 refine LCalls.intro Tryz.func91 rfl (n := 18) rfl rfl rfl ?_
 repeat first | refine LCode.seq ?_ | refine LCode.region ?_
 refine LOps.step (S.box (cs := [str w, int .i64 ln]) rfl fun b1 => ?_) rfl
 repeat first | refine LOps.nil ?_ | refine LCode.seq ?_ | refine LCode.region ?_ | refine QThen.normal ?_ | refine LOps.pure (Pure.as (lv := .atom _) rfl) rfl ?_ | refine LOps.pure (Pure.fieldH rfl) rfl ?_ | refine LOps.pure (Pure.loadH (c := .atom _) rfl (List.Mem.head _) rfl) rfl ?_
 refine LOps.step (S.fn [_, _] rfl (cutSuffix_spec w [58] hs) ?_) rfl
 repeat first | refine LOps.nil ?_ | refine LCode.seq ?_ | refine LCode.region ?_ | refine QThen.normal ?_ | refine LOps.pure (Pure.as (lv := .atom _) rfl) rfl ?_ | refine LOps.pure (Pure.mv (lv := .tuple _) rfl) rfl ?_ | refine LOps.pure (Pure.extract (c := .atom _) rfl rfl) rfl ?_ | refine LOps.pure (Pure.mv (lv := .atom _) rfl) rfl ?_
 refine LOps.bcase 14 rfl (fun h => ?_) (fun h => ?_)
 ·rw [h, Bool.true_and] at r1
  repeat first | refine LOps.pure (Pure.mv (lv := .atom _) rfl) rfl ?_ | refine LOps.want rfl rfl ?_
  refine LOps.step (S.fn [_] rfl (asmName_spec _ hlen) ?_) rfl
  repeat first | refine LOps.nil ?_ | refine LCode.ret ?_ | refine QThen.normal ?_ | refine LOps.pure (Pure.as (lv := .atom _) rfl) rfl ?_ | refine LOps.pure (Pure.pickT (lv := .atom _) rfl rfl) rfl ?_
  exact retRetIf rfl (AllRes.cons (ResIs.tmp (v := .atom _) rfl (LV.Sub.refl _)) (AllRes.cons (ResIs.tmp (v := .atom _) rfl (LV.Sub.refl _)) AllRes.nil)) (OptLV.mk r1 r2)
 ·rw [h, Bool.false_and] at r1
  repeat first | refine LOps.nil ?_ | refine LCode.ret ?_ | refine QThen.normal ?_ | refine LOps.pure (Pure.as (lv := .atom _) rfl) rfl ?_ | refine LOps.pure (Pure.pickF (lv := .atom _) rfl rfl) rfl ?_ | refine LOps.skip rfl rfl rfl rfl ?_
  exact retRetIf rfl (AllRes.cons (ResIs.tmp (v := .atom _) rfl (LV.Sub.refl _)) (AllRes.cons (ResIs.tmp (v := .atom _) rfl (LV.Sub.refl _)) AllRes.nil)) (OptLV.mk r1 r2)
theorem asmRef_spec (p : Wd × Nat) (hs : p.1.length ≤ 1000000000) : LCalls (KC B0 w0) 92 [tokLV p] [] (RetIf (OptLV (refW p.1))) := by
 obtain ⟨w, ln⟩ := p
 simp only at hs ⊢
 obtain ⟨r1, r2⟩ := ite_some (ref_eq w)
 have hlen : (Go.Lib.trimPrefix w [38]).length ≤ 1000000000 := by
  unfold Go.Lib.trimPrefix
  split
  ·rw [List.length_drop]; omega
  ·exact hs
 unfold tokLV
 refine LCalls.intro Tryz.func92 rfl (n := 18) rfl rfl rfl ?_
 repeat first | refine LCode.seq ?_ | refine LCode.region ?_
 refine LOps.step (S.box (cs := [str w, int .i64 ln]) rfl fun b1 => ?_) rfl
 repeat first | refine LOps.nil ?_ | refine LCode.seq ?_ | refine LCode.region ?_ | refine QThen.normal ?_ | refine LOps.pure (Pure.as (lv := .atom _) rfl) rfl ?_ | refine LOps.pure (Pure.fieldH rfl) rfl ?_ | refine LOps.pure (Pure.loadH (c := .atom _) rfl (List.Mem.head _) rfl) rfl ?_
 refine LOps.step (S.fn [_, _] rfl (cutPrefix_spec w [38]) ?_) rfl
 repeat first | refine LOps.nil ?_ | refine LCode.seq ?_ | refine LCode.region ?_ | refine QThen.normal ?_ | refine LOps.pure (Pure.as (lv := .atom _) rfl) rfl ?_ | refine LOps.pure (Pure.mv (lv := .tuple _) rfl) rfl ?_ | refine LOps.pure (Pure.extract (c := .atom _) rfl rfl) rfl ?_ | refine LOps.pure (Pure.mv (lv := .atom _) rfl) rfl ?_
 refine LOps.bcase 14 rfl (fun h => ?_) (fun h => ?_)
 ·rw [h, Bool.true_and] at r1
  repeat first | refine LOps.pure (Pure.mv (lv := .atom _) rfl) rfl ?_ | refine LOps.want rfl rfl ?_
  refine LOps.step (S.fn [_] rfl (asmName_spec _ hlen) ?_) rfl
  repeat first | refine LOps.nil ?_ | refine LCode.ret ?_ | refine QThen.normal ?_ | refine LOps.pure (Pure.as (lv := .atom _) rfl) rfl ?_ | refine LOps.pure (Pure.pickT (lv := .atom _) rfl rfl) rfl ?_
  exact retRetIf rfl (AllRes.cons (ResIs.tmp (v := .atom _) rfl (LV.Sub.refl _)) (AllRes.cons (ResIs.tmp (v := .atom _) rfl (LV.Sub.refl _)) AllRes.nil)) (OptLV.mk r1 r2)
 ·rw [h, Bool.false_and] at r1
  repeat first | refine LOps.nil ?_ | refine LCode.ret ?_ | refine QThen.normal ?_ | refine LOps.pure (Pure.as (lv := .atom _) rfl) rfl ?_ | refine LOps.pure (Pure.pickF (lv := .atom _) rfl rfl) rfl ?_ | refine LOps.skip rfl rfl rfl rfl ?_
  exact retRetIf rfl (AllRes.cons (ResIs.tmp (v := .atom _) rfl (LV.Sub.refl _)) (AllRes.cons (ResIs.tmp (v := .atom _) rfl (LV.Sub.refl _)) AllRes.nil)) (OptLV.mk r1 r2)
theorem asmCode_spec (p : Wd × Nat) (hs : p.1.length ≤ 1000000000) : LCalls (KC B0 w0) 93 [tokLV p] [] (Ret (bool (codeW p.1))) := by
 obtain ⟨w, ln⟩ := p
 simp only at hs ⊢
 have hT := trim_any (B0 := B0) (w0 := w0) w codeSet hs (by decide) (by decide)
 have hnil : (Go.Lib.trimS w codeSet = []) ↔ codeW w = true := trim_gen (p := fun c => codeSet.contains c) (fun c => rfl) w
 unfold tokLV
 refine LCalls.intro Tryz.func93 rfl (n := 7) rfl rfl rfl ?_
 repeat first | refine LCode.seq ?_ | refine LCode.region ?_
 refine LOps.step (S.box (cs := [str w, int .i64 ln]) rfl fun b1 => ?_) rfl
 repeat first | refine LOps.nil ?_ | refine LCode.seq ?_ | refine LCode.region ?_ | refine QThen.normal ?_ | refine LOps.pure (Pure.as (lv := .atom _) rfl) rfl ?_ | refine LOps.pure (Pure.fieldH rfl) rfl ?_ | refine LOps.pure (Pure.loadH (c := .atom _) rfl (List.Mem.head _) rfl) rfl ?_
 refine LOps.step (S.fn [_, _] rfl hT ?_) rfl
 repeat first | refine LOps.nil ?_ | refine LCode.ret ?_ | refine QThen.normal ?_ | refine LOps.pure (Pure.as (lv := .atom _) rfl) rfl ?_ | refine LOps.pure (Pure.seq rfl rfl) rfl ?_
 exact retRet rfl (AllRes.cons (ResIs.tmp (v := .atom _) rfl (LV.Sub.refl _)) AllRes.nil) (bool_eq (by
  rw [Bool.eq_iff_iff, decide_eq_true_iff]
  exact hnil))
theorem asmDigit_spec (c : UInt8) : LCalls (KC B0 w0) 96 [int .u8 c.toNat] [] (Ret (bool (isDigit c))) := by
 have hD : isDigit c = (decide (48 ≤ cv c) && decide (cv c ≤ 57)) := rfl
 refine LCalls.intro Tryz.func96 rfl (n := 9) rfl rfl rfl ?_
 repeat first | refine LOps.nil ?_ | refine LCode.seq ?_ | refine LCode.region ?_ | refine QThen.normal ?_ | refine LOps.pure (Pure.as (lv := .atom _) rfl) rfl ?_ | refine LOps.pure (Pure.mv (lv := .atom _) rfl) rfl ?_ | refine LOps.pure (Pure.geq rfl rfl) rfl ?_
 refine LOps.bcase 5 rfl (fun h => ?_) (fun h => ?_)
 ·have h' : cv c ≥ 48 := of_decide_eq_true h
  rw [decide_eq_true (show 48 ≤ cv c from h'), Bool.true_and] at hD
  repeat first | refine LOps.nil ?_ | refine LCode.ret ?_ | refine QThen.normal ?_ | refine LOps.pure (Pure.as (lv := .atom _) rfl) rfl ?_ | refine LOps.pure (Pure.mv (lv := .atom _) rfl) rfl ?_ | refine LOps.pure (Pure.leq rfl rfl) rfl ?_ | refine LOps.pure (Pure.pickT (lv := .atom _) rfl rfl) rfl ?_ | refine LOps.want rfl rfl ?_
  exact retRet rfl (AllRes.cons (ResIs.tmp (v := .atom _) rfl (LV.Sub.refl _)) AllRes.nil) (bool_eq hD.symm)
 ·have h' : ¬ cv c ≥ 48 := of_decide_eq_false h
  rw [decide_eq_false (show ¬ 48 ≤ cv c from h'), Bool.false_and] at hD
  repeat first | refine LOps.nil ?_ | refine LCode.ret ?_ | refine QThen.normal ?_ | refine LOps.pure (Pure.as (lv := .atom _) rfl) rfl ?_ | refine LOps.pure (Pure.pickF (lv := .atom _) rfl rfl) rfl ?_ | refine LOps.skip rfl rfl rfl rfl ?_
  exact retRet rfl (AllRes.cons (ResIs.tmp (v := .atom _) rfl (LV.Sub.refl _)) AllRes.nil) (bool_eq hD.symm)
theorem address_spec (hG : GW B0 w0) (n : Nat) (hn : n ≤ 1000000000000) : LCalls (KC B0 w0) 95 [int .i64 n] [] (Ret (str (addrW n))) := by
 have hi := itoa_spec hG n (by omega)
 have hne := decDigits_ne n
 have hl : (Go.Lib.decDigits n).length ≤ 20 := by
  rw [Go.Lib.decDigits_length]
  exact Nat.le_trans (nDigits_le 12 n (by omega)) (by decide)
 have hA : addrW n = ([48, 48, 48, 48, 48] ++ Go.Lib.decDigits n).drop (([48, 48, 48, 48, 48] ++ Go.Lib.decDigits n).length - 6) := rfl
 generalize Go.Lib.decDigits n = d at hi hne hl hA
 have hpos := List.length_pos_iff.2 hne
 have hsl : ([48, 48, 48, 48, 48] ++ d : List UInt8).length = d.length + 5 := by simp
 refine LCalls.intro Tryz.func95 rfl (n := 12) rfl rfl rfl ?_
 repeat first | refine LOps.nil ?_ | refine LCode.seq ?_ | refine LCode.region ?_ | refine QThen.normal ?_ | refine LOps.pure (Pure.as (lv := .atom _) rfl) rfl ?_ | refine LOps.pure (Pure.mv (lv := .atom _) rfl) rfl ?_
 refine LOps.step (S.fn [_] rfl hi ?_) rfl
 repeat first | refine LOps.nil ?_ | refine LCode.seq ?_ | refine LCode.region ?_ | refine QThen.normal ?_ | refine LOps.pure (Pure.as (lv := .atom _) rfl) rfl ?_ | refine LOps.pure (Pure.mv (lv := .atom _) rfl) rfl ?_ | refine LOps.pure (Pure.sadd rfl rfl (by first | omega | (simp only [List.length_append, List.length_cons, List.length_nil]; omega))) rfl ?_ | refine LOps.pure (Pure.slen rfl) rfl ?_ | refine LOps.pure (Pure.sub rfl rfl (by omega)) rfl ?_
 refine LOps.pure (Pure.sslice (l := [48, 48, 48, 48, 48] ++ d) (i := (([48, 48, 48, 48, 48] ++ d : List UInt8).length : Int) - 6) (j := (([48, 48, 48, 48, 48] ++ d : List UInt8).length : Int)) rfl ⟨_, rfl⟩ rfl (by omega) (by omega) (by omega)) rfl ?_
 repeat first | refine LOps.nil ?_ | refine LCode.ret ?_ | refine QThen.normal ?_ | refine LOps.pure (Pure.as (lv := .atom _) rfl) rfl ?_
 exact retRet rfl (AllRes.cons (ResIs.tmp (v := .atom _) rfl (LV.Sub.refl _)) AllRes.nil) (by
  rw [hA]
  have e1 : (((([48, 48, 48, 48, 48] ++ d : List UInt8).length : Nat) : Int) - 6).toNat = ([48, 48, 48, 48, 48] ++ d : List UInt8).length - 6 := by omega
  show str (List.drop (((([48, 48, 48, 48, 48] ++ d : List UInt8).length : Nat) : Int) - 6).toNat (List.take ((([48, 48, 48, 48, 48] ++ d : List UInt8).length : Nat) : Int).toNat ([48, 48, 48, 48, 48] ++ d))) = _
  rw [e1, Int.toNat_natCast, List.take_length])
theorem builderLen_spec (b : Nat) (l : List UInt8) (H : Heap) (hB : BH b l H) : LCalls (KC B0 w0) 94 [ptr b 0] H (fun r H' => r = .ret (int .i64 l.length) ∧ H' = H) := by
 obtain ⟨p, v, Hv, hp, hacc, rfl⟩ := hB
 refine LCalls.intro Tryz.func94 rfl (n := 8) rfl rfl rfl ?_
 repeat first | refine LOps.nil ?_ | refine LCode.seq ?_ | refine LCode.region ?_ | refine QThen.normal ?_ | refine LOps.pure (Pure.as (lv := .atom _) rfl) rfl ?_ | refine LOps.pure (Pure.mv (lv := .atom _) rfl) rfl ?_ | refine LOps.pure (Pure.nilCheckH rfl) rfl ?_ | refine LOps.pure (Pure.fieldH rfl) rfl ?_ | refine LOps.pure (Pure.loadH (c := .atom _) rfl (List.Mem.head _) rfl) rfl ?_
 refine LOps.pure (Pure.blen rfl hacc) rfl ?_
 repeat first | refine LOps.nil ?_ | refine LCode.ret ?_ | refine QThen.normal ?_ | refine LOps.pure (Pure.as (lv := .atom _) rfl) rfl ?_
 exact RetPost.ret rfl (AllRes.cons (ResIs.tmp (v := .atom _) rfl (LV.Sub.refl _)) AllRes.nil) (HSub.refl _) ⟨rfl, rfl⟩
theorem writeByte_spec (b : Nat) (l : List UInt8) (c : UInt8) (H : Heap) (hB : BH b l H) (hlen : l.length ≤ 10000000000) : LCalls (KC B0 w0) 97 [ptr b 0, int .u8 c.toNat] H (fun r H' => (∃ x, r = .ret x) ∧ BH b (l ++ [c]) H') := by
 obtain ⟨p, v, Hv, hp, hacc, rfl⟩ := hB
 refine LCalls.intro Tryz.func97 rfl (n := 17) rfl rfl rfl ?_
 repeat first | refine LOps.nil ?_ | refine LCode.seq ?_ | refine LCode.region ?_ | refine QThen.normal ?_ | refine LOps.pure (Pure.as (lv := .atom _) rfl) rfl ?_ | refine LOps.pure (Pure.mv (lv := .atom _) rfl) rfl ?_
 refine LOps.step (S.callH (H1 := [(b, _)]) (F := Hv) [_] rfl (List.Perm.refl _) (copyCheck_spec b p (.atom v) hp) (fun x H' h => ?_) (fun ch H' h => ?_)) rfl
 ·obtain ⟨⟨x', hx'⟩, rfl⟩ := h
  cases hx'
  repeat first | refine LOps.nil ?_ | refine LCode.seq ?_ | refine LCode.region ?_ | refine QThen.normal ?_ | refine LOps.pure (Pure.mv (lv := .atom _) rfl) rfl ?_ | refine LOps.pure (Pure.nilCheckH rfl) rfl ?_ | refine LOps.pure (Pure.fieldH rfl) rfl ?_ | refine LOps.pure (Pure.loadH (c := .atom _) rfl (List.Mem.head _) rfl) rfl ?_
  refine LOps.step (S.lit [_] rfl (elemsOk.cons rfl rfl elemsOk.nil) rfl rfl rfl ?_) rfl
  refine LOps.step (S.appBL1 (q := (b, .cells 70 [ptr b 0, .atom v])) (l := l) (m := [c]) rfl hacc rfl (by simp) (by simp; omega) fun v' H' hacc' => ?_) rfl
  repeat first | refine LOps.pure (Pure.nilCheckH rfl) rfl ?_ | refine LOps.pure (Pure.fieldH rfl) rfl ?_
  have hacc2 := hacc'
  generalize l ++ [c] = lm at hacc' hacc2 ⊢
  cases hacc' with
  | nil =>
   repeat first | refine LOps.nil ?_ | refine LCode.seq ?_ | refine LCode.region ?_ | refine LCode.ret ?_ | refine QThen.normal ?_ | refine LOps.pure (Pure.as (lv := .atom _) rfl) rfl ?_ | refine LOps.step (S.store (cs' := [_, _]) rfl Pick.here rfl rfl rfl rfl rfl ?_) rfl
   exact RetPost.ret rfl (AllRes.cons (ResIs.tmp (v := .atom _) rfl (LV.Sub.refl _)) AllRes.nil) (HSub.refl _) ⟨⟨_, rfl⟩, ptr b 0, _, _, .inr rfl, hacc2, rfl⟩
  | row h0 h1 h2 =>
   repeat first | refine LOps.nil ?_ | refine LCode.seq ?_ | refine LCode.region ?_ | refine LCode.ret ?_ | refine QThen.normal ?_ | refine LOps.pure (Pure.as (lv := .atom _) rfl) rfl ?_ | refine LOps.step (S.store (cs' := [_, _]) rfl Pick.here rfl rfl rfl rfl rfl ?_) rfl
   exact RetPost.ret rfl (AllRes.cons (ResIs.tmp (v := .atom _) rfl (LV.Sub.refl _)) AllRes.nil) (HSub.refl _) ⟨⟨_, rfl⟩, ptr b 0, _, _, .inr rfl, hacc2, rfl⟩
 ·obtain ⟨⟨x', hx'⟩, _⟩ := h
  cases hx'
end
end Asm
end Go.Proofs.YtdakelgkjdaijaaGreatDoor
namespace Go.GL
variable {C : Ctx} {dst : Option Nat} {ty : TypeId} {pos : String} {aft : Array Edge} {g : Option (Nat × Bool)} {e : Env} {H : Heap} {K : LV → Heap → Prop} {X : List PanicEntry → Heap → Prop}
theorem S.setPut {t kt el : TypeId} (ht : C.P.underlying t = some (.map kt el)) (hkt : C.P.underlying kt = some .string) {b clock : Nat} {es : Array MapEntry} {p : List UInt8 → Bool} {F : Heap} {m z : Operand} {x : Operand} {k : List UInt8} (hm : e.ev m = .atom (.map (some b))) (hx : e.ev x = str k) (hz : e.ev z = bool true)
  (hp : Pick (b, .obj (.map es clock)) H F) (hs : SetMap es p) (hk : ∀ es' clock', SetMap es' (fun s => p s || decide (s = k)) → K (.atom undef) ((b, .obj (.map es' clock')) :: F)) : LStep C ⟨dst, .mapUpdate t m x z, ty, pos, aft, g⟩ e H K X :=
 fun ρ w L h hH => (S.setAdd (dst := dst) (ty := ty) (pos := pos) (aft := aft) (g := g) (X := X) ht hkt hm hx hz hp hs hk) ρ w L h hH
end Go.GL
namespace Go.Proofs.YtdakelgkjdaijaaGreatDoor.Asm
open Go.GL Go.RowKit Go.Stele
set_option maxRecDepth 100000
set_option maxHeartbeats 4000000
abbrev txt (l : List (Wd × Nat)) : List Wd := l.map (·.1)
theorem txt_take {l : List (Wd × Nat)} {i : Nat} (h : i < l.length) : txt (l.take (i + 1)) = txt (l.take i) ++ [l[i].1] := by
 unfold txt
 rw [List.take_succ_eq_append_getElem h, List.map_append]
 rfl
theorem defs_some {a : List Wd} {w d : Wd} (h : defW w = some d) : defs (a ++ [w]) = defs a ++ [d] := by
 rw [defs_app, defs_cons, h]
 rfl
theorem defs_no {a : List Wd} {w : Wd} (h : defW w = none) : defs (a ++ [w]) = defs a := by
 rw [defs_app, defs_none h]
 simp [defs]
theorem set_nil : SetMap #[] (fun s => decide (s ∈ ([] : List Wd))) := ⟨fun e he => by simp at he, fun s h => by simp at h⟩
theorem set_snoc {es : Array MapEntry} {ds : List Wd} {d : Wd} (h : SetMap es (fun s => decide (s ∈ ds) || decide (s = d))) : SetMap es (fun s => decide (s ∈ ds ++ [d])) :=
 cast (congrArg (SetMap es) (funext fun s => by simp)) h
attribute [local irreducible] LOps LCode LStep LCalls Go.GL.Pure QThen QBlock RetPost LQ LAny LLate LLateOp
section
variable {B0 : Nat} {w0 : World}
theorem tokens_spec (hG : GW B0 w0) (hM : GM w0) (s : List UInt8) (hs : s.length ≤ 400000000) : LCalls (KC B0 w0) 49 [str s] [] (Ret (.list ((toksP s).map tokLV))) := by
 have hP : toksP s = toksN 0 (pieces 10 s) := rfl
 have hpl := pieces_len 10 s
 have hpa : ((pieces 10 s).map str).length = (pieces 10 s).length := List.length_map _
 have htl : (toksP s).length ≤ s.length + 1 := by
  have h1 := wordsP_len s
  rw [← toksP_fst, List.length_map] at h1
  exact h1
 have hsp := split_spec hG hM s 10 (by omega)
 refine LCalls.intro Tryz.func49 rfl (n := 41) rfl rfl rfl ?_
 repeat first | refine LOps.nil ?_ | refine LCode.seq ?_ | refine LCode.region ?_ | refine QThen.normal ?_ | refine LOps.pure (Pure.as (lv := .atom _) rfl) rfl ?_ | refine LOps.pure (Pure.mv (lv := .atom _) rfl) rfl ?_
 refine LOps.step (S.fn [_, _] rfl hsp ?_) rfl
 repeat first | refine LOps.nil ?_ | refine LCode.block ?_ | refine QThen.normal ?_ | refine LOps.pure (Pure.mv (lv := .atom _) rfl) rfl ?_ | refine LOps.pure (Pure.llen rfl) rfl ?_
 refine LCode.loopI (fun k ls H => ∃ (i : Nat) (out : List (Wd × Nat)) (v : LV), i ≤ (pieces 10 s).length ∧ k = (pieces 10 s).length - i ∧ ls = [(3, v), (9, .list ((pieces 10 s).map str)), (10, int .i64 (pieces 10 s).length), (11, int .i64 (i : Nat))] ∧ Acc 2 v (out.map tokLV) H [] ∧ out ++ toksN i ((pieces 10 s).drop i) = toksP s)
  ⟨_, _, _, ⟨0, [], nilSlice, Nat.zero_le _, rfl, rfl, Acc.nil, rfl⟩, ⟨rfl, rfl, int_eq (by omega), rfl, trivial⟩, HSub.refl _⟩ ?_
 rintro k ls H ⟨i, out, v, hi, rfl, rfl, hacc, hE⟩ j hj
 repeat first | refine LOps.nil ?_ | refine LCode.seq ?_ | refine LCode.region ?_ | refine QThen.normal ?_ | refine LOps.pure (Pure.lss rfl rfl) rfl ?_
 refine LCode.cond rfl (fun hc => ?_) (fun hc => ?_)
 ·have hlt : i < (pieces 10 s).length := by have := of_decide_eq_true hc; omega
  have hlo : out.length ≤ (toksP s).length := by rw [← hE, List.length_append]; omega
  rw [toksN_drop hlt] at hE
  have hll := pieces_mem_len (List.getElem_mem hlt)
  have hc1 := cut_spec hG hM (pieces 10 s)[i] 35 (by omega)
  have hW : lineW (pieces 10 s)[i] = full (pieces 32 ((pieces 10 s)[i].takeWhile fun d => decide (d ≠ 35))) := rfl
  have htw : ((pieces 10 s)[i].takeWhile fun d => decide (d ≠ 35)).length ≤ (pieces 10 s)[i].length := (List.takeWhile_prefix _).length_le
  have hs2 := split_spec hG hM ((pieces 10 s)[i].takeWhile fun d => decide (d ≠ 35)) 32 (by omega)
  have hql := pieces_len 32 ((pieces 10 s)[i].takeWhile fun d => decide (d ≠ 35))
  generalize (pieces 10 s)[i].takeWhile (fun d => decide (d ≠ 35)) = line at hc1 hW htw hs2 hql
  generalize hq : pieces 32 line = q at hW hs2 hql
  have hqa : (q.map str).length = q.length := List.length_map _
  repeat (first | refine LOps.nil ?_ | refine QThen.normal ?_ | refine LCode.skip ?_)
  refine LCode.seq ?_
  refine LCode.midC (A := List (Wd × Nat) × LV × Heap) (fun a => [(3, a.2.1), (9, .list ((pieces 10 s).map str)), (10, int .i64 (pieces 10 s).length), (11, int .i64 (i : Nat))]) (fun a => a.2.2) (fun a => a.1 = out ++ (full q).map (fun w => (w, i + 1)) ∧ Acc 2 a.2.1 (a.1.map tokLV) a.2.2 []) ?_ ?_
  ·repeat first | refine LCode.seq ?_ | refine LCode.region ?_ | refine LCode.block ?_ | refine LOps.pure (Pure.mv (lv := .atom _) rfl) rfl ?_
   refine LOps.pure (Pure.ixRef (el' := str (pieces 10 s)[i]) (cs := [str (pieces 10 s)[i]]) rfl rfl (by omega) (map_get _ _ _ hlt) rfl rfl) rfl ?_
   repeat first | refine LOps.nil ?_ | refine LCode.seq ?_ | refine LCode.region ?_ | refine QThen.normal ?_ | refine LOps.pure (Pure.as (lv := .atom _) rfl) rfl ?_ | refine LOps.pure (Pure.mv (lv := .atom _) rfl) rfl ?_ | refine LOps.pure (Pure.loadRef (c := .atom _) rfl rfl) rfl ?_
   refine LOps.step (S.fnIf [_, _] rfl hc1 ?_) rfl
   rintro lv ⟨a, b, rfl⟩
   repeat first | refine LOps.nil ?_ | refine LCode.seq ?_ | refine LCode.region ?_ | refine QThen.normal ?_ | refine LOps.pure (Pure.as (lv := .atom _) rfl) rfl ?_ | refine LOps.pure (Pure.mv (lv := .atom _) rfl) rfl ?_ | refine LOps.pure (Pure.mv (lv := .tuple _) rfl) rfl ?_ | refine LOps.pure (Pure.extract (c := .atom _) rfl rfl) rfl ?_
   refine LOps.step (S.fn [_, _] rfl hs2 ?_) rfl
   repeat first | refine LOps.nil ?_ | refine LCode.block ?_ | refine QThen.normal ?_ | refine LOps.pure (Pure.mv (lv := .atom _) rfl) rfl ?_ | refine LOps.pure (Pure.llen rfl) rfl ?_
   refine LCode.loopI (fun k ls H => ∃ (x : Nat) (out2 : List (Wd × Nat)) (v : LV), x ≤ q.length ∧ k = q.length - x ∧ ls = [(3, v), (4, int .i64 (i : Nat)), (9, .list ((pieces 10 s).map str)), (10, int .i64 (pieces 10 s).length), (11, int .i64 (i : Nat)), (23, .list (q.map str)), (24, int .i64 q.length), (25, int .i64 (x : Nat))] ∧ Acc 2 v (out2.map tokLV) H [] ∧ out2.length ≤ out.length + x ∧ out2 ++ (full (q.drop x)).map (fun w => (w, i + 1)) = out ++ (full q).map (fun w => (w, i + 1)))
    ⟨_, _, _, ⟨0, out, v, Nat.zero_le _, rfl, rfl, hacc, by omega, rfl⟩, ⟨rfl, rfl, rfl, rfl, rfl, rfl, int_eq (by omega), rfl, trivial⟩, HSub.refl _⟩ ?_
   rintro k ls H ⟨x, out2, v2, hx, rfl, rfl, hacc2, hlen2, hE2⟩ j2 hj2
   have hol2 : (out2.map tokLV).length = out2.length := List.length_map _
   repeat first | refine LOps.nil ?_ | refine LCode.seq ?_ | refine LCode.region ?_ | refine QThen.normal ?_ | refine LOps.pure (Pure.lss rfl rfl) rfl ?_
   refine LCode.cond rfl (fun hc => ?_) (fun hc => ?_)
   ·have hlt2 : x < q.length := by have := of_decide_eq_true hc; omega
    rw [full_drop hlt2] at hE2
    repeat first | refine LCode.seq ?_ | refine LCode.region ?_ | refine LCode.skip ?_ | refine LCode.block ?_ | refine QThen.normal ?_
    refine LOps.pure (Pure.ixRef (el' := str q[x]) (cs := [str q[x]]) rfl rfl (by omega) (map_get _ _ _ hlt2) rfl rfl) rfl ?_
    repeat first | refine LOps.nil ?_ | refine LCode.seq ?_ | refine LCode.region ?_ | refine QThen.normal ?_ | refine LOps.pure (Pure.as (lv := .atom _) rfl) rfl ?_ | refine LOps.pure (Pure.mv (lv := .atom _) rfl) rfl ?_ | refine LOps.pure (Pure.loadRef (c := .atom _) rfl rfl) rfl ?_ | refine LOps.pure (Pure.sneq rfl rfl) rfl ?_
    refine LCode.cond rfl (fun hn => ?_) (fun hn => ?_)
    ·have hne : ¬ q[x] = [] := by simpa using hn
     rw [if_neg hne] at hE2
     repeat first | refine LCode.region ?_
     refine LOps.pure (Pure.mv (lv := v2) rfl) rfl ?_
     repeat first | refine LOps.pure (Pure.mv (lv := .atom _) rfl) rfl ?_ | refine LOps.pure (Pure.add rfl rfl (by omega)) rfl ?_ | refine LOps.pure (Pure.bld _ (cs := [_, _]) rfl) rfl ?_
     refine LOps.step (S.lit [_] rfl (elemsOk.cons rfl rfl elemsOk.nil) rfl rfl rfl ?_) rfl
     refine LOps.step (S.acc rfl hacc2 rfl (by simp; rfl) rfl (by simp; omega) fun v3 H3 hacc3 => ?_) rfl
     refine LOps.pure (Pure.as (lv := v3) rfl) rfl ?_
     repeat first | refine LOps.nil ?_ | refine LCode.region ?_ | refine QThen.normal ?_ | refine QBlock.normal ?_ | refine LOps.pure (Pure.mv (lv := .atom _) rfl) rfl ?_ | refine LOps.pure (Pure.add rfl rfl (by omega)) rfl ?_
     exact ⟨_, _, _, by omega, ⟨x + 1, out2 ++ [(q[x], i + 1)], v3, by omega, rfl, rfl, by rw [List.map_append]; exact hacc3, by simp; omega, by rw [List.append_assoc]; exact hE2⟩, ⟨rfl, rfl, rfl, rfl, rfl, rfl, rfl, int_eq (by omega), trivial⟩, HSub.refl _, hj2⟩
    ·have hne : q[x] = [] := by simpa using hn
     rw [if_pos hne] at hE2
     repeat first | refine LOps.nil ?_ | refine LCode.region ?_ | refine LCode.skip ?_ | refine QThen.normal ?_ | refine QBlock.normal ?_ | refine LOps.pure (Pure.mv (lv := .atom _) rfl) rfl ?_ | refine LOps.pure (Pure.add rfl rfl (by omega)) rfl ?_
     exact ⟨_, _, _, by omega, ⟨x + 1, out2, v2, by omega, rfl, rfl, hacc2, by omega, hE2⟩, ⟨rfl, rfl, rfl, rfl, rfl, rfl, rfl, int_eq (by omega), trivial⟩, HSub.refl _, hj2⟩
   ·have hx' : x = q.length := by have := of_decide_eq_false hc; omega
    subst hx'
    rw [List.drop_length] at hE2
    repeat first | refine LCode.exit ?_ | refine QThen.normal ?_ | refine QThen.exit ?_ | refine QBlock.hit ?_ | refine QBlock.normal ?_
    exact ⟨(out2, v2, H), ⟨by simpa [full] using hE2, hacc2⟩, ⟨rfl, rfl, rfl, rfl, trivial⟩, HSub.refl _, hj2⟩
  ·rintro ⟨out2, v2, H2⟩ ⟨ho, hacc2⟩ j3 hj3
   simp only at ho hacc2
   rw [hW, ← List.append_assoc, ← ho] at hE
   repeat first | refine LOps.nil ?_ | refine LCode.region ?_ | refine QThen.normal ?_ | refine LOps.pure (Pure.mv (lv := .atom _) rfl) rfl ?_ | refine LOps.pure (Pure.add rfl rfl (by omega)) rfl ?_
   exact ⟨_, _, _, by omega, ⟨i + 1, out2, v2, by omega, rfl, rfl, hacc2, by rw [← hE]⟩, ⟨rfl, rfl, rfl, int_eq (by omega), trivial⟩, HSub.refl _, hj3.trans hj⟩
 ·have hi' : i = (pieces 10 s).length := by have := of_decide_eq_false hc; omega
  subst hi'
  rw [List.drop_length, toksN, List.append_nil] at hE
  subst hE
  refine LCode.sub (d := 3) (v := v) rfl hacc.sub ?_
  refine LCode.weak (HSub.nil _) ?_
  repeat first | refine LOps.nil ?_ | refine LCode.seq ?_ | refine LCode.region ?_ | refine LCode.ret ?_ | refine LCode.exit ?_ | refine QThen.normal ?_ | refine QThen.exit ?_ | refine QBlock.hit ?_ | refine LOps.pure (Pure.as (lv := .list _) rfl) rfl ?_ | refine LOps.pure (Pure.mv (lv := .list _) rfl) rfl ?_
  exact retRet hj (AllRes.cons (ResIs.tmp (v := .list _) rfl (LV.Sub.refl _)) AllRes.nil) rfl
end
theorem errT_def {all met : List Wd} {p : Wd × Nat} {x : Wd} {r : List (Wd × Nat)} (h : defW p.1 = some x) : errT all met (p :: r) = if x ∈ met then (p.2, 8) else errT all (met ++ [x]) r := by
 obtain ⟨w, ln⟩ := p
 simp only at h
 rw [errT, h]
theorem errT_ref {all met : List Wd} {p : Wd × Nat} {x : Wd} {r : List (Wd × Nat)} (h : defW p.1 = none) (h2 : refW p.1 = some x) : errT all met (p :: r) = if x ∈ all then errT all met r else (p.2, 7) := by
 obtain ⟨w, ln⟩ := p
 simp only at h h2
 rw [errT, h, h2]
theorem errT_code {all met : List Wd} {p : Wd × Nat} {r : List (Wd × Nat)} (h : defW p.1 = none) (h2 : refW p.1 = none) : errT all met (p :: r) = if codeW p.1 = true then errT all met r else (p.2, 3) := by
 obtain ⟨w, ln⟩ := p
 simp only at h h2
 rw [errT, h, h2]
section
variable {B0 : Nat} {w0 : World}
theorem check_spec (l : List (Wd × Nat)) (hl : l.length ≤ 1000000000) (hs : ∀ p ∈ l, p.1.length ≤ 1000000000) : LCalls (KC B0 w0) 50 [.list (l.map tokLV)] [] (Ret (.tuple [int .i64 ((errT (defs (txt l)) [] l).1 : Nat), int .i64 ((errT (defs (txt l)) [] l).2 : Nat)])) := by
 have hla : (l.map tokLV).length = l.length := List.length_map _
 have zb : ∀ w, (zeroValue 4).run (KC B0 w0).P w = .ok (.bool false) w := fun w => (Go.zero_of_info (P := Tryz.prog) (n := 1) (by kernel_rfl)).1 w
 generalize hR : errT (defs (txt l)) [] l = R
 refine LCalls.intro Tryz.func50 rfl (n := 70) rfl rfl rfl ?_
 repeat first | refine LOps.nil ?_ | refine LCode.seq ?_ | refine LCode.region ?_ | refine QThen.normal ?_ | refine LOps.pure (Pure.as (lv := .atom _) rfl) rfl ?_
 refine LOps.step (S.makeMap fun m => ?_) rfl
 repeat first | refine LOps.nil ?_ | refine LCode.seq ?_ | refine LCode.region ?_ | refine LCode.block ?_ | refine QThen.normal ?_ | refine LOps.pure (Pure.as (lv := .atom _) rfl) rfl ?_ | refine LOps.pure (Pure.mv (lv := .list _) rfl) rfl ?_ | refine LOps.pure (Pure.mv (lv := .atom _) rfl) rfl ?_ | refine LOps.pure (Pure.llen rfl) rfl ?_
 refine LCode.loopI (fun k ls H => ∃ (i : Nat) (es : Array MapEntry) (clock : Nat), i ≤ l.length ∧ k = l.length - i ∧ ls = [(0, .list (l.map tokLV)), (4, .atom (.map (some m))), (17, .list (l.map tokLV)), (18, int .i64 l.length), (19, int .i64 (i : Nat))] ∧ H = [(m, .obj (.map es clock))] ∧ SetMap es (fun s => decide (s ∈ defs (txt (l.take i)))))
  ⟨_, _, _, ⟨0, #[], 0, Nat.zero_le _, rfl, rfl, rfl, set_nil⟩, ⟨rfl, rfl, rfl, int_eq (by omega), rfl, trivial⟩, HSub.refl _⟩ ?_
 rintro k ls H ⟨i, es, clock, hi, rfl, rfl, rfl, hM⟩ j1 hj1
 repeat first | refine LOps.nil ?_ | refine LCode.seq ?_ | refine LCode.region ?_ | refine QThen.normal ?_ | refine LOps.pure (Pure.lss rfl rfl) rfl ?_
 refine LCode.cond rfl (fun hc => ?_) (fun hc => ?_)
 ·have hlt : i < l.length := by have := of_decide_eq_true hc; omega
  have kd := asmDef_spec (B0 := B0) (w0 := w0) l[i] (by have := hs _ (List.getElem_mem hlt); omega)
  have htt := txt_take hlt
  repeat first | refine LCode.seq ?_ | refine LCode.region ?_ | refine LCode.skip ?_ | refine LCode.block ?_ | refine QThen.normal ?_
  refine LOps.pure (Pure.ixRef (el' := tokLV l[i]) (cs := [_, _]) rfl rfl (by omega) (map_get _ _ _ hlt) rfl rfl) rfl ?_
  repeat first | refine LOps.pure (Pure.ldRefAgg (cs' := [_, _]) rfl rfl rfl) rfl ?_
  refine LOps.step (S.alloc fun b6 => ?_) rfl
  repeat first | refine LOps.nil ?_ | refine LCode.seq ?_ | refine LCode.region ?_ | refine QThen.normal ?_ | refine LOps.pure (Pure.ldHAgg (cs' := [_, _]) rfl (List.Mem.head _) rfl rfl) rfl ?_ | refine LOps.step (S.store (cs' := [_, _]) rfl Pick.here rfl rfl rfl rfl rfl ?_) rfl
  refine LOps.step (S.fnIf [_] rfl kd ?_) rfl
  rintro lv ⟨s, rfl, hs2⟩
  repeat first | refine LOps.nil ?_ | refine LCode.seq ?_ | refine LCode.region ?_ | refine QThen.normal ?_ | refine LOps.pure (Pure.as (lv := .atom _) rfl) rfl ?_ | refine LOps.pure (Pure.mv (lv := .atom _) rfl) rfl ?_ | refine LOps.pure (Pure.mv (lv := .tuple _) rfl) rfl ?_ | refine LOps.pure (Pure.extract (c := .atom _) rfl rfl) rfl ?_
  refine LCode.cond rfl (fun h => ?_) (fun h => ?_)
  ·obtain ⟨d, hd⟩ := Option.isSome_iff_exists.1 h
   obtain rfl := hs2 d hd
   repeat first | refine LCode.region ?_ | refine LOps.pure (Pure.mv (lv := .atom _) rfl) rfl ?_
   refine LOps.step (S.setPut (t := 84) (kt := 9) (el := 4) (by kernel_rfl) (by kernel_rfl) rfl rfl rfl (Pick.there Pick.here) hM fun es' clock' hM' => ?_) rfl
   repeat first | refine LOps.nil ?_ | refine LCode.region ?_ | refine QThen.normal ?_ | refine QBlock.normal ?_ | refine LOps.pure (Pure.mv (lv := .atom _) rfl) rfl ?_ | refine LOps.pure (Pure.add rfl rfl (by omega)) rfl ?_
   exact ⟨_, _, _, by omega, ⟨i + 1, es', clock', by omega, rfl, rfl, rfl, by rw [htt, defs_some hd]; exact set_snoc hM'⟩, ⟨rfl, rfl, rfl, rfl, int_eq (by omega), trivial⟩, ⟨[_], List.Perm.refl _⟩, hj1⟩
  ·have hn : defW l[i].1 = none := by
    cases ho : defW l[i].1 with
    | none => rfl
    | some d => rw [ho] at h; cases h
   repeat first | refine LOps.nil ?_ | refine LCode.region ?_ | refine LCode.skip ?_ | refine QThen.normal ?_ | refine QBlock.normal ?_ | refine LOps.pure (Pure.mv (lv := .atom _) rfl) rfl ?_ | refine LOps.pure (Pure.add rfl rfl (by omega)) rfl ?_
   exact ⟨_, _, _, by omega, ⟨i + 1, es, clock, by omega, rfl, rfl, rfl, by rw [htt, defs_no hn]; exact hM⟩, ⟨rfl, rfl, rfl, rfl, int_eq (by omega), trivial⟩, HSub.drop (HSub.refl _), hj1⟩
 ·have hi' : i = l.length := by have := of_decide_eq_false hc; omega
  subst hi'
  rw [List.take_length] at hM
  repeat first | refine LCode.seq ?_ | refine LCode.region ?_ | refine LCode.exit ?_ | refine QThen.normal ?_ | refine QThen.exit ?_ | refine QBlock.hit ?_
  refine LOps.step (S.makeMap fun m2 => ?_) rfl
  repeat first | refine LOps.nil ?_ | refine LCode.seq ?_ | refine LCode.region ?_ | refine LCode.block ?_ | refine QThen.normal ?_ | refine LOps.pure (Pure.as (lv := .atom _) rfl) rfl ?_ | refine LOps.pure (Pure.mv (lv := .list _) rfl) rfl ?_ | refine LOps.pure (Pure.mv (lv := .atom _) rfl) rfl ?_ | refine LOps.pure (Pure.llen rfl) rfl ?_
  refine LCode.loopI (fun k ls H => ∃ (i : Nat) (es2 : Array MapEntry) (clock2 : Nat), i ≤ l.length ∧ k = l.length - i ∧ ls = [(4, .atom (.map (some m))), (9, .atom (.map (some m2))), (33, .list (l.map tokLV)), (34, int .i64 l.length), (35, int .i64 (i : Nat))] ∧ H = [(m2, .obj (.map es2 clock2)), (m, .obj (.map es clock))] ∧ SetMap es2 (fun s => decide (s ∈ defs (txt (l.take i)))) ∧ errT (defs (txt l)) (defs (txt (l.take i))) (l.drop i) = R)
   ⟨_, _, _, ⟨0, #[], 0, Nat.zero_le _, rfl, rfl, rfl, set_nil, hR⟩, ⟨rfl, rfl, rfl, int_eq (by omega), rfl, trivial⟩, HSub.refl _⟩ ?_
  rintro k ls H ⟨i, es2, clock2, hi, rfl, rfl, rfl, hM2, hE⟩ j2 hj2
  repeat first | refine LOps.nil ?_ | refine LCode.seq ?_ | refine LCode.region ?_ | refine QThen.normal ?_ | refine LOps.pure (Pure.lss rfl rfl) rfl ?_
  refine LCode.cond rfl (fun hc => ?_) (fun hc => ?_)
  ·have hlt : i < l.length := by have := of_decide_eq_true hc; omega
   have hsl := hs _ (List.getElem_mem hlt)
   have kd := asmDef_spec (B0 := B0) (w0 := w0) l[i] (by omega)
   have kr := asmRef_spec (B0 := B0) (w0 := w0) l[i] (by omega)
   have kc := asmCode_spec (B0 := B0) (w0 := w0) l[i] (by omega)
   have htt := txt_take hlt
   rw [List.drop_eq_getElem_cons hlt] at hE
   repeat first | refine LCode.seq ?_ | refine LCode.region ?_ | refine LCode.skip ?_ | refine LCode.block ?_ | refine QThen.normal ?_
   refine LOps.pure (Pure.ixRef (el' := tokLV l[i]) (cs := [_, _]) rfl rfl (by omega) (map_get _ _ _ hlt) rfl rfl) rfl ?_
   repeat first | refine LOps.pure (Pure.ldRefAgg (cs' := [_, _]) rfl rfl rfl) rfl ?_
   refine LOps.step (S.alloc fun b11 => ?_) rfl
   repeat first | refine LOps.nil ?_ | refine LCode.seq ?_ | refine LCode.region ?_ | refine QThen.normal ?_ | refine LOps.pure (Pure.ldHAgg (cs' := [_, _]) rfl (List.Mem.head _) rfl rfl) rfl ?_ | refine LOps.step (S.store (cs' := [_, _]) rfl Pick.here rfl rfl rfl rfl rfl ?_) rfl
   refine LOps.step (S.fnIf [_] rfl kd ?_) rfl
   rintro lv ⟨s, rfl, hs2⟩
   repeat first | refine LOps.nil ?_ | refine LCode.seq ?_ | refine LCode.region ?_ | refine QThen.normal ?_ | refine LOps.pure (Pure.as (lv := .atom _) rfl) rfl ?_ | refine LOps.pure (Pure.mv (lv := .atom _) rfl) rfl ?_ | refine LOps.pure (Pure.mv (lv := .tuple _) rfl) rfl ?_ | refine LOps.pure (Pure.extract (c := .atom _) rfl rfl) rfl ?_
   refine LCode.cond rfl (fun h => ?_) (fun h => ?_)
   ·obtain ⟨d, hd⟩ := Option.isSome_iff_exists.1 h
    obtain rfl := hs2 d hd
    repeat first | refine LCode.seq ?_ | refine LCode.region ?_ | refine LOps.pure (Pure.mv (lv := .atom _) rfl) rfl ?_
    refine LOps.pure (Pure.setGet (t := 84) (kt := 9) (el := 4) (by kernel_rfl) (by kernel_rfl) zb rfl rfl (List.Mem.tail _ (List.Mem.head _)) hM2) rfl ?_
    repeat first | refine LOps.nil ?_ | refine QThen.normal ?_
    refine LCode.cond rfl (fun h3 => ?_) (fun h3 => ?_)
    ·have hin := of_decide_eq_true h3
     repeat first | refine LOps.nil ?_ | refine LCode.seq ?_ | refine LCode.region ?_ | refine LCode.ret ?_ | refine QThen.normal ?_ | refine QThen.ret ?_ | refine QBlock.ret ?_ | refine LOps.pure (Pure.as (lv := .atom _) rfl) rfl ?_ | refine LOps.pure (Pure.fieldH rfl) rfl ?_ | refine LOps.pure (Pure.loadH (c := .atom _) rfl (List.Mem.head _) rfl) rfl ?_
     rw [errT_def hd, if_pos hin] at hE
     exact retRet (hj2.trans hj1) (AllRes.cons (ResIs.tmp (v := .atom _) rfl (LV.Sub.refl _)) (AllRes.cons (ResIs.tmp (v := .atom _) rfl (LV.Sub.refl _)) AllRes.nil)) (by rw [← hE]; rfl)
    ·have hin := of_decide_eq_false h3
     repeat first | refine LCode.region ?_ | refine LCode.skip ?_ | refine QThen.normal ?_ | refine LOps.pure (Pure.mv (lv := .atom _) rfl) rfl ?_
     refine LOps.step (S.setPut (t := 84) (kt := 9) (el := 4) (by kernel_rfl) (by kernel_rfl) rfl rfl rfl (Pick.there Pick.here) hM2 fun es' clock' hM' => ?_) rfl
     repeat first | refine LOps.nil ?_ | refine LCode.region ?_ | refine QThen.normal ?_ | refine QBlock.normal ?_ | refine LOps.pure (Pure.mv (lv := .atom _) rfl) rfl ?_ | refine LOps.pure (Pure.add rfl rfl (by omega)) rfl ?_
     exact ⟨_, _, _, by omega, ⟨i + 1, es', clock', by omega, rfl, rfl, rfl, by rw [htt, defs_some hd]; exact set_snoc hM', by rw [htt, defs_some hd, ← hE, errT_def hd, if_neg hin]⟩, ⟨rfl, rfl, rfl, rfl, int_eq (by omega), trivial⟩, ⟨[_], List.Perm.cons _ (List.Perm.swap ..)⟩, hj2⟩
   ·have hn : defW l[i].1 = none := by
     cases ho : defW l[i].1 with
     | none => rfl
     | some d => rw [ho] at h; cases h
    repeat first | refine LCode.seq ?_ | refine LCode.region ?_ | refine LOps.pure (Pure.ldHAgg (cs' := [_, _]) rfl (List.Mem.head _) rfl rfl) rfl ?_
    refine LOps.step (S.fnIf [_] rfl kr ?_) rfl
    rintro lv ⟨s, rfl, hs3⟩
    repeat first | refine LOps.nil ?_ | refine LCode.seq ?_ | refine LCode.region ?_ | refine QThen.normal ?_ | refine LOps.pure (Pure.as (lv := .atom _) rfl) rfl ?_ | refine LOps.pure (Pure.mv (lv := .atom _) rfl) rfl ?_ | refine LOps.pure (Pure.mv (lv := .tuple _) rfl) rfl ?_ | refine LOps.pure (Pure.extract (c := .atom _) rfl rfl) rfl ?_
    refine LCode.cond rfl (fun h3 => ?_) (fun h3 => ?_)
    ·obtain ⟨d, hd⟩ := Option.isSome_iff_exists.1 h3
     obtain rfl := hs3 d hd
     repeat first | refine LCode.seq ?_ | refine LCode.region ?_ | refine LOps.pure (Pure.mv (lv := .atom _) rfl) rfl ?_
     refine LOps.pure (Pure.setGet (t := 84) (kt := 9) (el := 4) (by kernel_rfl) (by kernel_rfl) zb rfl rfl (List.Mem.tail _ (List.Mem.tail _ (List.Mem.head _))) hM) rfl ?_
     repeat first | refine LOps.nil ?_ | refine QThen.normal ?_ | refine LOps.pure (Pure.not rfl) rfl ?_
     refine LCode.cond rfl (fun h4 => ?_) (fun h4 => ?_)
     ·have hin : ¬ s ∈ defs (txt l) := by simpa using h4
      repeat first | refine LOps.nil ?_ | refine LCode.seq ?_ | refine LCode.region ?_ | refine LCode.ret ?_ | refine QThen.normal ?_ | refine QThen.ret ?_ | refine QBlock.ret ?_ | refine LOps.pure (Pure.as (lv := .atom _) rfl) rfl ?_ | refine LOps.pure (Pure.fieldH rfl) rfl ?_ | refine LOps.pure (Pure.loadH (c := .atom _) rfl (List.Mem.head _) rfl) rfl ?_
      rw [errT_ref hn hd, if_neg hin] at hE
      exact retRet (hj2.trans hj1) (AllRes.cons (ResIs.tmp (v := .atom _) rfl (LV.Sub.refl _)) (AllRes.cons (ResIs.tmp (v := .atom _) rfl (LV.Sub.refl _)) AllRes.nil)) (by rw [← hE]; rfl)
     ·have hin : s ∈ defs (txt l) := by simpa using h4
      repeat first | refine LOps.nil ?_ | refine LCode.region ?_ | refine LCode.skip ?_ | refine QThen.normal ?_ | refine QBlock.normal ?_ | refine LOps.pure (Pure.mv (lv := .atom _) rfl) rfl ?_ | refine LOps.pure (Pure.add rfl rfl (by omega)) rfl ?_
      exact ⟨_, _, _, by omega, ⟨i + 1, es2, clock2, by omega, rfl, rfl, rfl, by rw [htt, defs_no hn]; exact hM2, by rw [htt, defs_no hn, ← hE, errT_ref hn hd, if_pos hin]⟩, ⟨rfl, rfl, rfl, rfl, int_eq (by omega), trivial⟩, HSub.drop (HSub.refl _), hj2⟩
    ·have hrn : refW l[i].1 = none := by
      cases ho : refW l[i].1 with
      | none => rfl
      | some d => rw [ho] at h3; cases h3
     repeat first | refine LCode.seq ?_ | refine LCode.region ?_ | refine LOps.pure (Pure.ldHAgg (cs' := [_, _]) rfl (List.Mem.head _) rfl rfl) rfl ?_
     refine LOps.step (S.fn [_] rfl kc ?_) rfl
     repeat first | refine LOps.nil ?_ | refine QThen.normal ?_ | refine LOps.pure (Pure.not rfl) rfl ?_
     refine LCode.cond rfl (fun h4 => ?_) (fun h4 => ?_)
     ·have hin : ¬ codeW l[i].1 = true := by simpa using h4
      repeat first | refine LOps.nil ?_ | refine LCode.seq ?_ | refine LCode.region ?_ | refine LCode.ret ?_ | refine QThen.normal ?_ | refine QThen.ret ?_ | refine QBlock.ret ?_ | refine LOps.pure (Pure.as (lv := .atom _) rfl) rfl ?_ | refine LOps.pure (Pure.fieldH rfl) rfl ?_ | refine LOps.pure (Pure.loadH (c := .atom _) rfl (List.Mem.head _) rfl) rfl ?_
      rw [errT_code hn hrn, if_neg hin] at hE
      exact retRet (hj2.trans hj1) (AllRes.cons (ResIs.tmp (v := .atom _) rfl (LV.Sub.refl _)) (AllRes.cons (ResIs.tmp (v := .atom _) rfl (LV.Sub.refl _)) AllRes.nil)) (by rw [← hE]; rfl)
     ·have hin : codeW l[i].1 = true := by simpa using h4
      repeat first | refine LOps.nil ?_ | refine LCode.region ?_ | refine LCode.skip ?_ | refine QThen.normal ?_ | refine QBlock.normal ?_ | refine LOps.pure (Pure.mv (lv := .atom _) rfl) rfl ?_ | refine LOps.pure (Pure.add rfl rfl (by omega)) rfl ?_
      exact ⟨_, _, _, by omega, ⟨i + 1, es2, clock2, by omega, rfl, rfl, rfl, by rw [htt, defs_no hn]; exact hM2, by rw [htt, defs_no hn, ← hE, errT_code hn hrn, if_pos hin]⟩, ⟨rfl, rfl, rfl, rfl, int_eq (by omega), trivial⟩, HSub.drop (HSub.refl _), hj2⟩
  ·have hi' : i = l.length := by have := of_decide_eq_false hc; omega
   subst hi'
   rw [List.drop_length, errT] at hE
   repeat first | refine LOps.nil ?_ | refine LCode.seq ?_ | refine LCode.region ?_ | refine LCode.ret ?_ | refine LCode.exit ?_ | refine QThen.normal ?_ | refine QThen.exit ?_ | refine QBlock.hit ?_ | refine LOps.pure (Pure.as (lv := .atom _) rfl) rfl ?_
   exact retRet (hj2.trans hj1) (AllRes.cons (ResIs.tmp (v := .atom _) rfl (LV.Sub.refl _)) (AllRes.cons (ResIs.tmp (v := .atom _) rfl (LV.Sub.refl _)) AllRes.nil)) (by rw [← hE]; rfl)
end
end Go.Proofs.YtdakelgkjdaijaaGreatDoor.Asm
namespace Go.Proofs.YtdakelgkjdaijaaGreatDoor.Asm
open Go.GL Go.RowKit Go.Stele
set_option maxRecDepth 100000
set_option maxHeartbeats 4000000
/-- The addresses that are known: none at all, or a map that holds them. -/
def Known (km : Option Nat) (Hk : Heap) (kn : Wd → Nat) : Prop := (km = none ∧ Hk = [] ∧ ∀ x, kn x = 0) ∨ ∃ b m clock, km = some b ∧ Hk = [(b, .map (kvs m) clock)] ∧ ∀ x, (GL.kvGet m x).getD (int .i64 0) = int .i64 (kn x : Nat)
section
variable {C : Ctx} {e : Env} {H : Heap} {dst : Option Nat} {ty : TypeId} {pos : String} {aft : Array Edge} {g : Option (Nat × Bool)} {K : LV → Heap → Prop} {X : List PanicEntry → Heap → Prop} {x y : Operand}
theorem S.known {t kt el : TypeId} (ht : C.P.underlying t = some (.map kt el)) (hkt : C.P.underlying kt = some .string) (hz : ∀ w, (zeroValue el).run C.P w = .ok (.int .i64 0) w) {km : Option Nat} {Hk : Heap} {kn : Wd → Nat} {k : List UInt8} (hK : Known km Hk kn) (hm : e.ev x = .atom (.map km)) (hx : e.ev y = str k)
  (hb : ∀ q ∈ Hk, q ∈ H) (hk : K (int .i64 (kn k : Nat)) H) : LStep C ⟨dst, .lookup t x y false, ty, pos, aft, g⟩ e H K X := by
 rcases hK with ⟨rfl, rfl, h0⟩ | ⟨b, m, clock, rfl, rfl, hI⟩
 ·refine Pure.step (Pure.nilGet ht hkt hz hm hx) ?_
  rw [h0 k] at hk
  exact hk
 ·refine Pure.step (Pure.kvGet ht hkt hz (zl := int .i64 0) (fun _ _ => rep_atom) hm hx (hb _ (List.mem_singleton.2 rfl))) ?_
  rw [hI k]
  exact hk
end
theorem sub_mid {a b : Heap} {q : Nat × LObj} : HSub (a ++ b) (a ++ q :: b) := ⟨[q], List.perm_middle.trans (List.perm_append_singleton _ _).symm⟩
theorem sub_mid' {a b : Heap} {q : Nat × LObj} : HSub (a ++ b) ((a ++ [q]) ++ b) := by
 rw [List.append_assoc]
 exact sub_mid
theorem add_eq2 (a b : Nat) : int .i64 ((a + b : Nat) : Int) = int .i64 ((a : Int) + (b : Nat)) := int_eq (by omega)
theorem perm_acc {a b : Heap} {q : Nat × LObj} : (a ++ q :: b).Perm (b ++ (a ++ [q])) := by
 have h := List.perm_append_comm (l₁ := a ++ [q]) (l₂ := b)
 rw [List.append_assoc] at h
 exact h
theorem acc_sub {s : Nat} {v : LV} {es : List LV} {a H F : Heap} (h : Acc s v es H F) : HSub (a ++ F) (a ++ H) := by
 cases h with
 | nil => exact HSub.refl _
 | row => exact sub_mid
theorem fold_le (kn : Wd → Nat) (og : Nat) (l : List Wd) (t : Wd) (labs : List (Wd × Nat)) (h : ∀ w ∈ l, w ≠ []) : t.length ≤ (l.foldl (stepA kn og) (t, labs)).1.length := by
 rw [stepA_fst, foldT_len kn l t h]
 omega
theorem fold_labs (kn : Wd → Nat) (og : Nat) : ∀ (l : List Wd) (s : Wd × List (Wd × Nat)), s.2.length ≤ ((l.foldl (stepA kn og) s).2).length ∧ ((l.foldl (stepA kn og) s).2).length ≤ s.2.length + l.length
 | [], s => by simp
 | w :: r, s => by
  rw [List.foldl_cons]
  have := fold_labs kn og r (stepA kn og s w)
  have h2 : s.2.length ≤ (stepA kn og s w).2.length ∧ (stepA kn og s w).2.length ≤ s.2.length + 1 := by
   unfold stepA
   cases defW w with
   | some x => simp
   | none => simp
  simp only [List.length_cons]
  omega
theorem last_nil : lastD [] = isDigit 32 := by decide
attribute [local irreducible] LOps LCode LStep LCalls Go.GL.Pure QThen QBlock RetPost LQ LAny LLate LLateOp
section
variable {B0 : Nat} {w0 : World}
theorem joined_ex (hG : GW B0 w0) (l : List (Wd × Nat)) (og : Nat) (hog : og ≤ 1000000) (hl : l.length ≤ 1000000000) (hs : ∀ p ∈ l, p.1 ≠ [] ∧ p.1.length ≤ 1000000000) (kn : Wd → Nat) (hkn : ∀ x, kn x ≤ 1000000000000) (hL : ((txt l).foldl (stepA kn og) ([], [])).1.length ≤ 2000000000) (km : Option Nat) (Hk : Heap) (hK : Known km Hk kn) :
  LCalls (KC B0 w0) 51 [.list (l.map tokLV), int .i64 (og : Nat), .atom (.map km)] Hk (fun r H' => r = .ret (.tuple [str ((txt l).foldl (stepA kn og) ([], [])).1, .list (((txt l).foldl (stepA kn og) ([], [])).2.map tokLV)]) ∧ H' = Hk) := by
 have hla : (l.map tokLV).length = l.length := List.length_map _
 have zi : ∀ w, (zeroValue 3).run (KC B0 w0).P w = .ok (.int .i64 0) w := fun w => (Go.zero_of_info (P := Tryz.prog) (n := 1) (by kernel_rfl)).1 w
 have hne0 : ∀ i, ∀ w ∈ txt (l.drop i), w ≠ [] := fun i w hw => by
  obtain ⟨p, hp, rfl⟩ := List.mem_map.1 hw
  exact (hs p (List.mem_of_mem_drop hp)).1
 generalize hR : (txt l).foldl (stepA kn og) ([], []) = R at hL ⊢
 refine LCalls.intro Tryz.func51 rfl (n := 68) rfl rfl rfl ?_
 repeat first | refine LOps.nil ?_ | refine LCode.seq ?_ | refine LCode.region ?_ | refine QThen.normal ?_ | refine LOps.pure (Pure.as (lv := .atom _) rfl) rfl ?_
 refine LOps.step (S.alloc fun bb => ?_) rfl
 repeat first | refine LOps.nil ?_ | refine LCode.seq ?_ | refine LCode.region ?_ | refine LCode.block ?_ | refine QThen.normal ?_ | refine LOps.pure (Pure.as (lv := .atom _) rfl) rfl ?_ | refine LOps.pure (Pure.mv (lv := .list _) rfl) rfl ?_ | refine LOps.pure (Pure.mv (lv := .atom _) rfl) rfl ?_ | refine LOps.pure (Pure.llen rfl) rfl ?_
 refine LCode.loopI (fun k ls H => ∃ (i : Nat) (t : List UInt8) (labs : List (Wd × Nat)) (v : LV) (last : UInt8) (HB HL : Heap), i ≤ l.length ∧ k = l.length - i ∧ ls = [(1, int .i64 (og : Nat)), (2, .atom (.map km)), (8, ptr bb 0), (9, v), (10, int .u8 last.toNat), (18, .list (l.map tokLV)), (19, int .i64 l.length), (20, int .i64 (i : Nat))] ∧ H = HB ++ HL ∧ BH bb t HB ∧ Acc 2 v (labs.map tokLV) HL Hk ∧ lastD t = isDigit last ∧ labs.length ≤ i ∧ (txt (l.drop i)).foldl (stepA kn og) (t, labs) = R)
  ⟨_, _, _, ⟨0, [], [], nilSlice, 32, [(bb, .cells 70 [.atom (.pointer none), .atom (.slice none 0 0)])], Hk, Nat.zero_le _, rfl, rfl, rfl, ⟨_, _, [], .inl rfl, BRow.nil, rfl⟩, Acc.nil, last_nil, Nat.zero_le _, hR⟩, ⟨rfl, rfl, rfl, rfl, rfl, rfl, int_eq (by omega), rfl, trivial⟩, HSub.refl _⟩ ?_
 rintro k ls H ⟨i, t, labs, v, last, HB, HL, hi, rfl, rfl, rfl, hB, hacc, hla2, hll, hE⟩ j hj
 have hol : (labs.map tokLV).length = labs.length := List.length_map _
 have htR := fold_le kn og (txt (l.drop i)) t labs (hne0 i)
 rw [hE] at htR
 repeat first | refine LOps.nil ?_ | refine LCode.seq ?_ | refine LCode.region ?_ | refine QThen.normal ?_ | refine LOps.pure (Pure.lss rfl rfl) rfl ?_
 refine LCode.cond rfl (fun hc => ?_) (fun hc => ?_)
 ·have hlt : i < l.length := by have := of_decide_eq_true hc; omega
  obtain ⟨hne, hsl⟩ := hs _ (List.getElem_mem hlt)
  have kd := asmDef_spec (B0 := B0) (w0 := w0) l[i] (by omega)
  have kr := asmRef_spec (B0 := B0) (w0 := w0) l[i] (by omega)
  have hdr : txt (l.drop i) = l[i].1 :: txt (l.drop (i + 1)) := by
   unfold txt
   rw [List.drop_eq_getElem_cons hlt, List.map_cons]
  rw [hdr, List.foldl_cons] at hE
  repeat first | refine LCode.seq ?_ | refine LCode.region ?_ | refine LCode.skip ?_ | refine LCode.block ?_ | refine QThen.normal ?_
  refine LOps.pure (Pure.ixRef (el' := tokLV l[i]) (cs := [_, _]) rfl rfl (by omega) (map_get _ _ _ hlt) rfl rfl) rfl ?_
  repeat first | refine LOps.pure (Pure.ldRefAgg (cs' := [_, _]) rfl rfl rfl) rfl ?_
  refine LOps.step (S.alloc fun b12 => ?_) rfl
  repeat first | refine LOps.nil ?_ | refine LCode.seq ?_ | refine LCode.region ?_ | refine QThen.normal ?_ | refine LOps.pure (Pure.as (lv := .atom _) rfl) rfl ?_ | refine LOps.pure (Pure.ldHAgg (cs' := [_, _]) rfl (List.Mem.head _) rfl rfl) rfl ?_ | refine LOps.pure (Pure.fieldH rfl) rfl ?_ | refine LOps.pure (Pure.loadH (c := .atom _) rfl (List.Mem.head _) rfl) rfl ?_ | refine LOps.step (S.store (cs' := [_, _]) rfl Pick.here rfl rfl rfl rfl rfl ?_) rfl
  refine LOps.step (S.fnIf [_] rfl kd ?_) rfl
  rintro lv ⟨s, rfl, hs2⟩
  repeat first | refine LOps.nil ?_ | refine LCode.seq ?_ | refine LCode.region ?_ | refine QThen.normal ?_ | refine LOps.pure (Pure.as (lv := .atom _) rfl) rfl ?_ | refine LOps.pure (Pure.mv (lv := .atom _) rfl) rfl ?_ | refine LOps.pure (Pure.mv (lv := .tuple _) rfl) rfl ?_ | refine LOps.pure (Pure.extract (c := .atom _) rfl rfl) rfl ?_
  refine LCode.cond rfl (fun h => ?_) (fun h => ?_)
  ·obtain ⟨d, hd⟩ := Option.isSome_iff_exists.1 h
   obtain rfl := hs2 d hd
   have hst : stepA kn og (t, labs) l[i].1 = (t, labs ++ [(s, og + t.length)]) := by unfold stepA; rw [hd]
   rw [hst] at hE
   repeat first | refine LCode.seq ?_ | refine LCode.region ?_
   refine LOps.pure (Pure.mv (lv := v) rfl) rfl ?_
   repeat first | refine LOps.pure (Pure.mv (lv := .atom _) rfl) rfl ?_
   refine LOps.step (S.callH (H1 := HB) (F := (b12, .cells 167 [str l[i].1, int .i64 l[i].2]) :: HL) [_] rfl List.perm_middle.symm (builderLen_spec bb t HB hB) (fun v' H' h => ?_) (fun ch H' h => by obtain ⟨h, _⟩ := h; cases h)) rfl
   obtain ⟨hv, rfl⟩ := h
   cases hv
   repeat first | refine LOps.pure (Pure.add rfl rfl (by omega)) rfl ?_ | refine LOps.pure (Pure.bld _ (cs := [_, _]) rfl) rfl ?_
   refine LOps.step (S.lit [_] rfl (elemsOk.cons rfl rfl elemsOk.nil) rfl rfl rfl ?_) rfl
   refine LOps.step (S.accF (H1 := HL) (A := H' ++ [(b12, .cells 167 [str l[i].1, int .i64 l[i].2])]) perm_acc rfl hacc rfl (by simp; rfl) rfl (by simp; omega) fun v' H2 hacc' => ?_) rfl
   refine LOps.pure (Pure.as (lv := v') rfl) rfl ?_
   repeat first | refine LOps.nil ?_ | refine LCode.region ?_ | refine LCode.exit ?_ | refine QThen.normal ?_ | refine QThen.exit ?_ | refine QBlock.hit ?_ | refine LOps.pure (Pure.mv (lv := .atom _) rfl) rfl ?_ | refine LOps.pure (Pure.add rfl rfl (by omega)) rfl ?_
   exact ⟨_, _, _, by omega, ⟨i + 1, t, labs ++ [(s, og + t.length)], v', last, H', H2, by omega, rfl, rfl, rfl, hB, by
    rw [List.map_append]
    have e1 : [tokLV (s, og + t.length)] = [LV.agg [str s, int .i64 ((og : Int) + (t.length : Nat))]] := by
     unfold tokLV
     rw [add_eq2]
    rw [List.map_singleton, e1]
    exact hacc', hla2, by simp; omega, hE⟩, ⟨rfl, rfl, rfl, rfl, rfl, rfl, rfl, int_eq (by omega), trivial⟩, sub_mid', hj⟩
  ·have hn : defW l[i].1 = none := by
    cases ho : defW l[i].1 with
    | none => rfl
    | some d => rw [ho] at h; cases h
   have hst : stepA kn og (t, labs) l[i].1 = (addT kn t l[i].1, labs) := by unfold stepA; rw [hn]
   obtain ⟨hp0, hp1, hp2⟩ := addT_nil kn t l[i].1 hn hne
   have hadd : addT kn t l[i].1 = t ++ (if lastD t && firstD (pieceW kn l[i].1) then [32] else []) ++ pieceW kn l[i].1 := by unfold addT; rw [hn]
   have htR2 := fold_le kn og (txt (l.drop (i + 1))) (addT kn t l[i].1) labs (hne0 (i + 1))
   rw [hst] at hE
   rw [hE] at htR2
   refine LCode.midC (A := Wd) (fun s => [(1, int .i64 (og : Nat)), (2, .atom (.map km)), (8, ptr bb 0), (9, v), (10, int .u8 last.toNat), (13, str s), (18, .list (l.map tokLV)), (19, int .i64 l.length), (20, int .i64 (i : Nat))]) (fun _ => (b12, .cells 167 [str l[i].1, int .i64 l[i].2]) :: (HB ++ HL)) (fun s => s = pieceW kn l[i].1) ?_ ?_
   ·repeat first | refine LCode.seq ?_ | refine LCode.region ?_ | refine LOps.pure (Pure.ldHAgg (cs' := [_, _]) rfl (List.Mem.head _) rfl rfl) rfl ?_
    refine LOps.step (S.fnIf [_] rfl kr ?_) rfl
    rintro lv ⟨s, rfl, hs3⟩
    repeat first | refine LOps.nil ?_ | refine LCode.seq ?_ | refine LCode.region ?_ | refine QThen.normal ?_ | refine LOps.pure (Pure.as (lv := .atom _) rfl) rfl ?_ | refine LOps.pure (Pure.mv (lv := .atom _) rfl) rfl ?_ | refine LOps.pure (Pure.mv (lv := .tuple _) rfl) rfl ?_ | refine LOps.pure (Pure.extract (c := .atom _) rfl rfl) rfl ?_
    refine LCode.cond rfl (fun h3 => ?_) (fun h3 => ?_)
    ·obtain ⟨d, hd⟩ := Option.isSome_iff_exists.1 h3
     obtain rfl := hs3 d hd
     repeat first | refine LCode.region ?_ | refine LOps.pure (Pure.mv (lv := .atom _) rfl) rfl ?_
     refine LOps.step (S.known (t := 104) (kt := 9) (el := 3) (by kernel_rfl) (by kernel_rfl) zi hK rfl rfl (fun q hq => List.mem_cons_of_mem _ (List.mem_append_right _ (hacc.hsub.mem q hq))) ?_) rfl
     refine LOps.step (S.fn [_] rfl (address_spec hG (kn s) (hkn s)) ?_) rfl
     repeat first | refine LOps.nil ?_ | refine QThen.normal ?_ | refine LOps.pure (Pure.as (lv := .atom _) rfl) rfl ?_
     exact ⟨addrW (kn s), (by unfold pieceW; rw [hd]), ⟨rfl, rfl, rfl, rfl, rfl, rfl, rfl, rfl, rfl, trivial⟩, HSub.refl _, rfl⟩
    ·have hrn : refW l[i].1 = none := by
      cases ho : refW l[i].1 with
      | none => rfl
      | some d => rw [ho] at h3; cases h3
     repeat first | refine LCode.skip ?_ | refine QThen.normal ?_
     exact ⟨l[i].1, (by unfold pieceW; rw [hrn]), ⟨rfl, rfl, rfl, rfl, rfl, rfl, rfl, rfl, rfl, trivial⟩, HSub.refl _, rfl⟩
   rintro s hpc j2 hj2
   rw [← hpc] at hp0 hp1 hp2 hadd
   have hs0 := hp0
   have hone := one_le (isDigit last && firstD s)
   obtain ⟨c, r, hcr⟩ := List.exists_cons_of_ne_nil hs0
   have hfc : firstD s = isDigit c := by rw [hcr]; rfl
   rw [hla2] at hadd hp2
   refine LCode.seq ?_
   refine LCode.midC (A := Heap) (fun _ => [(1, int .i64 (og : Nat)), (2, .atom (.map km)), (8, ptr bb 0), (9, v), (10, int .u8 last.toNat), (13, str s), (18, .list (l.map tokLV)), (19, int .i64 l.length), (20, int .i64 (i : Nat))]) (fun HB' => HB' ++ (b12, .cells 167 [str l[i].1, int .i64 l[i].2]) :: HL) (fun HB' => BH bb (t ++ if (isDigit last && firstD s) = true then [32] else []) HB') ?_ ?_
   ·repeat first | refine LCode.seq ?_ | refine LCode.region ?_ | refine LOps.pure (Pure.mv (lv := .atom _) rfl) rfl ?_
    refine LOps.step (S.fn [_] rfl (asmDigit_spec last) ?_) rfl
    repeat first | refine LOps.pure (Pure.mv (lv := .atom _) rfl) rfl ?_
    refine LOps.bcase 52 rfl (fun h4 => ?_) (fun h4 => ?_)
    ·have h4' : isDigit last = true := h4
     rw [h4', Bool.true_and, hfc]
     repeat first | refine LOps.pure (Pure.mv (lv := .atom _) rfl) rfl ?_ | refine LOps.want rfl rfl ?_
     refine LOps.pure (Pure.sindex (c := c) rfl rfl (by omega) (by rw [hcr]; rfl)) rfl ?_
     repeat first | refine LOps.want rfl rfl ?_
     refine LOps.step (S.fn [_] rfl (asmDigit_spec c) ?_) rfl
     repeat first | refine LOps.nil ?_ | refine QThen.normal ?_ | refine LOps.pure (Pure.pickT (lv := .atom _) rfl rfl) rfl ?_
     refine LCode.cond rfl (fun h5 => ?_) (fun h5 => ?_)
     ·repeat first | refine LCode.region ?_
      refine LOps.step (S.callH (H1 := HB) (F := (b12, .cells 167 [str l[i].1, int .i64 l[i].2]) :: HL) [_, _] rfl List.perm_middle.symm (writeByte_spec bb t 32 HB hB (by omega)) (fun v' H' h => ?_) (fun ch H' h => by obtain ⟨⟨x, h⟩, _⟩ := h; cases h)) rfl
      repeat first | refine LOps.nil ?_ | refine QThen.normal ?_
      exact ⟨H', by rw [if_pos h5]; exact h.2, ⟨rfl, rfl, rfl, rfl, rfl, rfl, rfl, rfl, rfl, trivial⟩, HSub.refl _, rfl⟩
     ·repeat first | refine LCode.skip ?_ | refine QThen.normal ?_
      exact ⟨HB, by rw [if_neg (by rw [h5]; decide), List.append_nil]; exact hB, ⟨rfl, rfl, rfl, rfl, rfl, rfl, rfl, rfl, rfl, trivial⟩, ⟨[], by simpa using List.perm_middle.symm⟩, rfl⟩
    ·have h4' : isDigit last = false := h4
     rw [h4', Bool.false_and]
     repeat first | refine LOps.nil ?_ | refine QThen.normal ?_ | refine LOps.pure (Pure.pickF (lv := .atom _) rfl rfl) rfl ?_ | refine LOps.skip rfl rfl rfl rfl ?_
     refine LCode.cond rfl (fun h5 => by cases h5) (fun h5 => ?_)
     repeat first | refine LCode.skip ?_ | refine QThen.normal ?_
     exact ⟨HB, by rw [if_neg (by decide), List.append_nil]; exact hB, ⟨rfl, rfl, rfl, rfl, rfl, rfl, rfl, rfl, rfl, trivial⟩, ⟨[], by simpa using List.perm_middle.symm⟩, rfl⟩
   rintro HB' hB' j3 hj3
   have hsl3 := List.length_pos_iff.2 hs0
   have hget : s[((s.length : Int) - 1).toNat]? = some (s.getLast hs0) := by
    rw [show ((s.length : Int) - 1).toNat = s.length - 1 by omega, List.getLast_eq_getElem, List.getElem?_eq_getElem (by omega)]
   have hlast : lastD s = isDigit (s.getLast hs0) := by
    unfold lastD
    rw [List.getLast?_eq_some_getLast hs0]
   have htl : (t ++ if (isDigit last && firstD s) = true then [32] else []).length + s.length ≤ 2000000000 := by
    have : (t ++ if (isDigit last && firstD s) = true then [32] else []).length = t.length + one (isDigit last && firstD s) := by
     rw [List.length_append]
     unfold one
     split <;> rfl
    omega
   rw [hadd] at hE hp1
   generalize (t ++ if (isDigit last && firstD s) = true then [32] else []) = t2 at hB' htl hE hp1
   repeat first | refine LCode.seq ?_ | refine LCode.region ?_ | refine LOps.pure (Pure.mv (lv := .atom _) rfl) rfl ?_
   refine LOps.step (S.callH (H1 := HB') (F := (b12, .cells 167 [str l[i].1, int .i64 l[i].2]) :: HL) [_, _] rfl (List.Perm.refl _) (writeString_spec bb t2 s HB' hB' (by omega)) (fun v' H' h => ?_) (fun ch H' h => by obtain ⟨⟨x, h⟩, _⟩ := h; cases h)) rfl
   obtain ⟨⟨x, hx⟩, hB2⟩ := h
   repeat first | refine LOps.nil ?_ | refine LCode.region ?_ | refine QThen.normal ?_ | refine LOps.pure (Pure.mv (lv := .atom _) rfl) rfl ?_ | refine LOps.pure (Pure.slen rfl) rfl ?_ | refine LOps.pure (Pure.sub rfl rfl (by omega)) rfl ?_
   refine LOps.pure (Pure.sindex (c := s.getLast hs0) rfl rfl (by omega) hget) rfl ?_
   repeat first | refine LOps.nil ?_ | refine LCode.region ?_ | refine QThen.normal ?_ | refine QBlock.normal ?_ | refine LOps.pure (Pure.as (lv := .atom _) rfl) rfl ?_ | refine LOps.pure (Pure.mv (lv := .atom _) rfl) rfl ?_ | refine LOps.pure (Pure.add rfl rfl (by omega)) rfl ?_
   exact ⟨_, _, _, by omega, ⟨i + 1, t2 ++ s, labs, v, s.getLast hs0, H', HL, by omega, rfl, rfl, rfl, hB2, hacc, by rw [hp1, hlast], by omega, hE⟩, ⟨rfl, rfl, rfl, rfl, rfl, rfl, rfl, int_eq (by omega), trivial⟩, sub_mid, hj3.trans (hj2.trans hj)⟩
 ·have hi' : i = l.length := by have := of_decide_eq_false hc; omega
  subst hi'
  rw [List.drop_length] at hE
  have hE' : (t, labs) = R := hE
  subst hE'
  refine LCode.sub (d := 9) (v := v) rfl hacc.sub ?_
  refine LCode.weak (acc_sub hacc) ?_
  repeat first | refine LCode.seq ?_ | refine LCode.region ?_ | refine LCode.exit ?_ | refine QThen.normal ?_ | refine QThen.exit ?_ | refine QBlock.hit ?_
  refine LOps.step (S.callH (H1 := HB) (F := Hk) [_] rfl (List.Perm.refl _) (string_spec bb t HB hB (by omega)) (fun v' H' h => ?_) (fun ch H' h => by obtain ⟨h, _⟩ := h; cases h)) rfl
  obtain ⟨hv, rfl⟩ := h
  cases hv
  repeat first | refine LOps.nil ?_ | refine LCode.ret ?_ | refine QThen.normal ?_ | refine LOps.pure (Pure.as (lv := .atom _) rfl) rfl ?_ | refine LOps.pure (Pure.as (lv := .list _) rfl) rfl ?_ | refine LOps.pure (Pure.mv (lv := .list _) rfl) rfl ?_
  exact RetPost.ret hj (AllRes.cons (ResIs.tmp (v := .atom _) rfl (LV.Sub.refl _)) (AllRes.cons (ResIs.tmp (v := .list _) rfl (LV.Sub.refl _)) AllRes.nil)) (HSub.refl _) ⟨rfl, by simp⟩
end
end Go.Proofs.YtdakelgkjdaijaaGreatDoor.Asm
namespace Go.GL
open Go.RowKit
theorem results4 {P : Program} {fn : Func} {r s t q : ResultVar} (h : fn.results = #[r, s, t, q]) {tmps : Array Value} {w : World} {v u x y : Value} (h1 : (readRes tmps r).run P w = .ok v w) (h2 : (readRes tmps s).run P w = .ok u w) (h3 : (readRes tmps t).run P w = .ok x w) (h4 : (readRes tmps q).run P w = .ok y w) :
  (results fn tmps).run P w = .ok (.tuple #[v, u, x, y]) w := by
 have : results fn tmps = (do let v ← readRes tmps r; let u ← readRes tmps s; let x ← readRes tmps t; let y ← readRes tmps q; Pure.pure (.tuple #[v, u, x, y])) := by
  cases r <;> cases s <;> cases t <;> cases q <;> simp [results, h, readRes]
 rw [this, bind_run h1, bind_run h2, bind_run h3, bind_run h4]
 rfl
theorem results_of4 {C : Ctx} {n : Nat} {fn : Func} {e : Env} {H : Heap} {a : Act} {w : World} {L : Live} (hE : RelE n a e w L) (hH : RelH C w L H) {vs : List LV}
  (h : AllRes C n e H fn.results.toList vs) (h3 : fn.results.size = 4) : ∃ v, (results fn a.tmps).run C.P w = .ok v w ∧ Rep w L (resLV vs) v := by
 obtain ⟨rs, hrs⟩ : ∃ rs, fn.results = List.toArray rs := ⟨fn.results.toList, by simp⟩
 rw [hrs] at h h3
 simp only [List.size_toArray] at h h3
 match rs, vs, h, h3, hrs with
 | [r, s, t, q], [x, y, z, o], h, _, hrs =>
  obtain ⟨v1, g1, r1⟩ := h.1 a w L hE hH
  obtain ⟨v2, g2, r2⟩ := h.2.1 a w L hE hH
  obtain ⟨v3, g3, r3⟩ := h.2.2.1 a w L hE hH
  obtain ⟨v4, g4, r4⟩ := h.2.2.2.1 a w L hE hH
  exact ⟨_, results4 hrs g1 g2 g3 g4, by simp only [resLV, Rep]; exact ⟨[v1, v2, v3, v4], rfl, by simp only [RepL]; exact ⟨v1, _, rfl, r1, v2, _, rfl, r2, v3, _, rfl, r3, v4, _, rfl, r4, rfl⟩⟩⟩
 | [_, _, _, _], [], h, _, _ => exact h.elim
 | [_, _, _, _], [_], h, _, _ => exact h.2.elim
 | [_, _, _, _], [_, _], h, _, _ => exact h.2.2.elim
 | [_, _, _, _], [_, _, _], h, _, _ => exact h.2.2.2.elim
 | [_, _, _, _], _ :: _ :: _ :: _ :: _ :: _, h, _, _ => exact h.2.2.2.2.elim
/-- Entering a function. -/
theorem LCalls.intro4 {C : Ctx} {f : FuncId} {fn : Func} {c : Code} {n : Nat} {args : List LV} {H : Heap} {R : LRes → Heap → Prop} (hf : C.P.funcs[f]? = some fn) (hb : fn.body = some c) (hn : fn.ntmps = n) (h3 : Nat.beq fn.results.size 4 = true)
  (hl : Nat.ble args.length n = true) (h : LCode C n c (RetPost C n fn.results.toList R) (argsEnv args) H) : LCalls C f args H R := fun vs w L hv hH => by
 subst hn
 have hl' : args.length ≤ fn.ntmps := by simpa using hl
 have h3' : fn.results.size = 4 := Nat.eq_of_beq_eq_true h3
 have hlen := hv.length
 refine calls_of_wp hf hb (Go.wp_mono (h _ w L ⟨?_, rfl, fun i => ?_⟩ hH) fun ex a' w' hq => ?_)
 ·simp; omega
 ·simp only [argsEnv]
  rw [Array.getD_eq_getD_getElem?]
  rcases Nat.lt_or_ge i args.length with hi | hi
  ·rw [List.getElem?_eq_getElem hi]
   obtain ⟨x, hx, hr⟩ := hv.get (List.getElem?_eq_getElem hi)
   have hxi : (vs.toArray ++ Array.replicate (fn.ntmps - vs.toArray.size) undef)[i]? = some x := by
    rw [Array.getElem?_append_left (by simp; omega)]
    simpa using hx
   rw [hxi]
   exact hr
  ·rw [List.getElem?_eq_none hi]
   have hxi : ((vs.toArray ++ Array.replicate (fn.ntmps - vs.toArray.size) undef)[i]?).getD undef = undef := by
    rw [Array.getElem?_append_right (by simp; omega)]
    rw [Array.getElem?_replicate]
    split <;> rfl
   rw [hxi]
   simp only [Option.getD_none, Rep]
 ·obtain ⟨e', H', L', g1, g2, g3, g4⟩ := hq
  have ret : RelE fn.ntmps a' e' w' L' → (e'.ds = [] ∧ ∃ vs H'', AllRes C fn.ntmps e' H' fn.results.toList vs ∧ HSub H'' H' ∧ R (.ret (resLV vs)) H'') →
    a'.defers = [] ∧ ∃ v, (results fn a'.tmps).run C.P w' = .ok v w' ∧ CallPost C w L H (fun v => R (.ret v)) (fun ch => R (.panic ch)) (.returned v) w' := fun hE hr => by
   obtain ⟨h1, vs', H'', h2, h4, h5⟩ := hr
   obtain ⟨v, r1, r2⟩ := results_of4 hE g2 h2 h3'
   exact ⟨hE.ds.trans h1, v, r1, resLV vs', H'', L', g1.weak h4, g2.weak h4, r2, h5⟩
  cases ex with
  | normal => exact ret g3 g4
  | ret => exact ret g3 g4
  | panic ch =>
   obtain ⟨h1, H'', h4, h5⟩ := g4
   exact ⟨g3.trans h1, H'', L', g1.weak h4, g2.weak h4, h5⟩
  | exit id => exact g4.elim
  | goto id => exact g4.elim
  | outgrown => exact g4.elim
end Go.GL
namespace Go.Stele
open Go.Lib
/-- The machine's state; of the stacks, the top stands first. -/
structure MS where
 mem : Nat → Nat
 pc : Nat
 data : List Nat
 calls : List Nat
 inp : List Nat
 out : Wd
 digit : Bool
/-- What a step leaves: a state, or an end with its error (0: stopped) and the output. -/
inductive MR where
 | run (s : MS)
 | stop (e : Nat) (out : Wd)
def MR.trap (s : MS) : MR := .stop 12 s.out
def pushM (v : Nat) (s : MS) : MR := if s.data.length < 256 then .run { s with data := v :: s.data } else .trap s
/-- A binary operation; nothing: it traps. -/
def binM (c a b : Nat) : Option Nat :=
 if c = 43 then some ((a + b) % 4294967296)
 else if c = 45 then some ((a + 4294967296 - b) % 4294967296)
 else if c = 42 then some (a * b % 4294967296)
 else if c = 47 then (if b = 0 then none else some (a / b))
 else if c = 37 then (if b = 0 then none else some (a % b))
 else if c = 94 then some (a ^^^ b)
 else some (if a < b then 1 else 0)
def isDigN (c : Nat) : Bool := decide (48 ≤ c) && decide (c ≤ 57)
def digM' (c : Nat) (s : MS) : MR := if s.digit = true then (match s.data with
 | d :: r => .run { s with data := (d * 10 + c - 48) % 4294967296 :: r }
 | [] => .trap s) else pushM (c - 48) s
def ldM (s : MS) : MR := match s.data with
 | a :: r => if a < 262144 then pushM (s.mem a) { s with data := r } else .trap s
 | [] => .trap s
def stoM (s : MS) : MR := match s.data with
 | a :: v :: r => if a < 262144 then .run { s with data := r, mem := fun i => if i = a then v else s.mem i } else .trap s
 | _ => .trap s
def jmpM (s : MS) : MR := match s.data with
 | t :: v :: r => .run { s with data := r, pc := if v = 0 then t else s.pc }
 | _ => .trap s
def callM (s : MS) : MR := match s.data with
 | t :: r => if s.calls.length < 64 then .run { s with data := r, calls := s.pc :: s.calls, pc := t } else .trap s
 | [] => .trap s
def bakM (s : MS) : MR := match s.calls with
 | t :: r => .run { s with calls := r, pc := t }
 | [] => .trap s
def rdM (s : MS) : MR := match s.inp with
 | v :: r => pushM v { s with inp := r }
 | [] => pushM 4294967295 s
def wrM (s : MS) : MR := match s.data with
 | v :: r => .run { s with data := r, out := s.out ++ [UInt8.ofNat v] }
 | [] => .trap s
def opM (c : Nat) (s : MS) : MR := match s.data with
 | b :: a :: r => (match binM c a b with
  | some v => pushM v { s with data := r }
  | none => .trap s)
 | _ => .trap s
/-- An instruction executed, the program counter standing behind it. -/
def exeM (c : Nat) (s : MS) : MR :=
 if isDigN c = true then digM' c s
 else if c = 32 ∨ c = 10 then .run s
 else if c = 64 then ldM s
 else if c = 33 then stoM s
 else if c = 63 then jmpM s
 else if c = 58 then callM s
 else if c = 59 then bakM s
 else if c = 44 then rdM s
 else if c = 46 then wrM s
 else if c = 36 then .stop 0 s.out
 else if c = 43 ∨ c = 45 ∨ c = 42 ∨ c = 47 ∨ c = 37 ∨ c = 94 ∨ c = 60 then opM c s
 else .trap s
def stepM (s : MS) : MR :=
 if s.pc < 262144 then (match exeM (s.mem s.pc) { s with pc := s.pc + 1 } with
  | .run s' => .run { s' with digit := isDigN (s.mem s.pc) }
  | .stop e o => .stop e o)
 else .trap s
/-- Up to so many steps: the error (13: the limit was reached), the output, the steps. -/
def runM : Nat → MS → Nat × Wd × Nat
 | 0, s => (13, s.out, 0)
 | n + 1, s => match stepM s with
  | .run s' => ((runM n s').1, (runM n s').2.1, (runM n s').2.2 + 1)
  | .stop e o => (e, o, 1)
/-- A text in memory. -/
def loadM (code : Wd) (og : Nat) : Nat → Nat := fun i => if og ≤ i then (match code[i - og]? with
 | some c => c.toNat
 | none => 0) else 0
def startM (code : Wd) (og : Nat) (inp : List Nat) : MS := ⟨loadM code og, og, [], [], inp, [], false⟩
/-! ### Some steps -/
/-- k steps lead from one state to another. -/
inductive Stp : Nat → MS → MS → Prop
 | zero (s : MS) : Stp 0 s s
 | step {k : Nat} {s s' s2 : MS} : stepM s = .run s' → Stp k s' s2 → Stp (k + 1) s s2
theorem Stp.one {s s' : MS} (h : stepM s = .run s') : Stp 1 s s' := .step h (.zero _)
theorem Stp.trans {a b : Nat} {s s' s2 : MS} (h : Stp a s s') (k : Stp b s' s2) : Stp (a + b) s s2 := by
 induction h with
 | zero s => rw [Nat.zero_add]; exact k
 | step h1 _ ih => rw [Nat.add_right_comm]; exact .step h1 (ih k)
/-- A run after some steps. -/
theorem run_stp {k : Nat} {s s' : MS} (h : Stp k s s') : ∀ n, runM (k + n) s = ((runM n s').1, (runM n s').2.1, (runM n s').2.2 + k) := by
 induction h with
 | zero s => intro n; rw [Nat.zero_add]; rfl
 | step h1 _ ih =>
  intro n
  rw [Nat.add_right_comm, runM, h1]
  simp only
  rw [ih n]
  simp only [Nat.add_assoc]
/-- Steps, as a number that must not be exceeded. -/
def Stx (m : Nat) (s s' : MS) : Prop := ∃ k, k ≤ m ∧ Stp k s s'
theorem Stx.one {s s' : MS} (h : stepM s = .run s') : Stx 1 s s' := ⟨1, Nat.le_refl _, .one h⟩
end Go.Stele
namespace Go.Stele
open Go.Lib
/-- A text in memory, from a place on. -/
def InMem (mem : Nat → Nat) (p : Nat) (t : Wd) : Prop := ∀ i (h : i < t.length), mem (p + i) = (t[i]).toNat
theorem InMem.app {mem : Nat → Nat} {p : Nat} {a b : Wd} (h : InMem mem p (a ++ b)) : InMem mem p a ∧ InMem mem (p + a.length) b := by
 constructor
 ·intro i hi
  have := h i (by rw [List.length_append]; omega)
  rw [List.getElem_append_left hi] at this
  exact this
 ·intro i hi
  have := h (a.length + i) (by rw [List.length_append]; omega)
  rw [List.getElem_append_right (by omega)] at this
  rw [Nat.add_assoc]
  simpa using this
theorem InMem.pre {mem : Nat → Nat} {p : Nat} {a t : Wd} (h : InMem mem p t) (hp : a <+: t) : InMem mem p a := by
 obtain ⟨b, rfl⟩ := hp
 exact h.app.1
theorem load_in (code : Wd) (og : Nat) : InMem (loadM code og) og code := fun i hi => by
 unfold loadM
 rw [if_pos (Nat.le_add_right _ _), Nat.add_sub_cancel_left, List.getElem?_eq_getElem hi]
/-- The value of digits behind a number. -/
def valD (a : Nat) (l : Wd) : Nat := l.foldl (fun a c => 10 * a + (c.toNat - 48)) a
theorem valD_app (a : Nat) (l m : Wd) : valD a (l ++ m) = valD (valD a l) m := List.foldl_append ..
theorem dig_iff {c : UInt8} : isDigit c = true ↔ 48 ≤ c.toNat ∧ c.toNat ≤ 57 := by
 have h : ∀ n : Nat, n < 256 → (isDigit (UInt8.ofNat n) = true ↔ 48 ≤ n ∧ n ≤ 57) := by decide +kernel
 have := h c.toNat c.toNat_lt
 rwa [UInt8.ofNat_toNat] at this
theorem valD_dec (u : Nat) : valD 0 (decDigits u) = u := by
 rw [decDigits]
 split
 ·rename_i h
  unfold valD
  simp only [List.foldl_cons, List.foldl_nil]
  have : (UInt8.ofNat (48 + u)).toNat = 48 + u := by
   rw [UInt8.toNat_ofNat']
   omega
  rw [this]
  omega
 ·rename_i h
  have ih := valD_dec (u / 10)
  rw [valD_app, ih]
  unfold valD
  simp only [List.foldl_cons, List.foldl_nil]
  have : (UInt8.ofNat (48 + u % 10)).toNat = 48 + u % 10 := by
   rw [UInt8.toNat_ofNat']
   omega
  rw [this]
  omega
termination_by u
theorem dec_lenM : ∀ (k n : Nat), n < 10 ^ (k + 1) → (decDigits n).length ≤ k + 1
 | 0, n, h => by rw [decDigits, dif_pos (by simpa using h)]; simp
 | k + 1, n, h => by
  rw [decDigits]
  split
  ·simp
  ·have := dec_lenM k (n / 10) (by rw [Nat.pow_succ] at h; omega)
   rw [List.length_append, List.length_singleton]
   omega
theorem valD_mod (l : Wd) : ∀ a : Nat, (∀ c ∈ l, isDigit c = true) → l.foldl (fun a c => (a * 10 + c.toNat - 48) % 4294967296) (a % 4294967296) = valD a l % 4294967296 := by
 induction l with
 | nil => intro a _; rfl
 | cons c l ih =>
  intro a h
  have hc := dig_iff.1 (h c (by simp))
  have h1 := ih (a * 10 + c.toNat - 48) fun x hx => h x (List.mem_cons_of_mem _ hx)
  have h2 : valD a (c :: l) = valD (a * 10 + c.toNat - 48) l := by
   unfold valD
   rw [List.foldl_cons]
   congr 1
   omega
  rw [h2, ← h1, List.foldl_cons]
  congr 1
  omega
/-! ### Digits -/
/-- Digits behind a digit. -/
theorem digs_more : ∀ (l : Wd) (s : MS) (d : Nat) (r : List Nat), (∀ c ∈ l, isDigit c = true) → s.digit = true → s.data = d :: r → InMem s.mem s.pc l → s.pc + l.length ≤ 262144 →
  Stp l.length s { s with pc := s.pc + l.length, data := l.foldl (fun a c => (a * 10 + c.toNat - 48) % 4294967296) d :: r }
 | [], s, d, r, _, _, hd, _, _ => by
  have : ({ s with pc := s.pc + ([] : Wd).length, data := ([] : Wd).foldl (fun a c => (a * 10 + c.toNat - 48) % 4294967296) d :: r } : MS) = s := by
   cases s; simp only at hd; subst hd; rfl
  rw [this]; exact .zero s
 | c :: l, s, d, r, h, hg, hd, hm, hp => by
  have hc := h c (by simp)
  have hcn := dig_iff.1 hc
  have hm0 := hm 0 (by simp)
  simp only [Nat.add_zero, List.getElem_cons_zero] at hm0
  have hdn : isDigN c.toNat = true := by unfold isDigN; simp [hcn.1, hcn.2]
  rw [List.length_cons] at hp
  have hst : stepM s = .run { s with pc := s.pc + 1, data := (d * 10 + c.toNat - 48) % 4294967296 :: r } := by
   unfold stepM
   rw [if_pos (by omega), hm0]
   unfold exeM digM'
   rw [if_pos hdn]
   simp only [hg, if_true, hd, hdn]
  have hm1 : InMem s.mem (s.pc + 1) l := fun i hi => by
   have := hm (i + 1) (by rw [List.length_cons]; omega)
   rw [show s.pc + 1 + i = s.pc + (i + 1) by omega]
   simpa using this
  have ih := digs_more l { s with pc := s.pc + 1, data := (d * 10 + c.toNat - 48) % 4294967296 :: r } _ r (fun x hx => h x (List.mem_cons_of_mem _ hx)) hg rfl hm1 (by simp only; omega)
  have e : ({ s with pc := s.pc + (c :: l).length, data := (c :: l).foldl (fun a c => (a * 10 + c.toNat - 48) % 4294967296) d :: r } : MS) = { s with pc := s.pc + 1 + l.length, data := l.foldl (fun a c => (a * 10 + c.toNat - 48) % 4294967296) ((d * 10 + c.toNat - 48) % 4294967296) :: r } := by
   rw [List.length_cons, List.foldl_cons, Nat.add_assoc, Nat.add_comm 1]
  rw [e]
  exact .step hst ih
/-- Digits, no digit having gone before. -/
theorem digs_all {l : Wd} {s : MS} (hne : l ≠ []) (h : ∀ c ∈ l, isDigit c = true) (hg : s.digit = false) (hroom : s.data.length < 256) (hm : InMem s.mem s.pc l) (hp : s.pc + l.length ≤ 262144) (hv : valD 0 l < 4294967296) :
  Stp l.length s { s with pc := s.pc + l.length, data := valD 0 l :: s.data, digit := true } := by
 cases l with
 | nil => exact absurd rfl hne
 | cons c l =>
  have hc := h c (by simp)
  have hcn := dig_iff.1 hc
  have hm0 := hm 0 (by simp)
  simp only [Nat.add_zero, List.getElem_cons_zero] at hm0
  have hdn : isDigN c.toNat = true := by unfold isDigN; simp [hcn.1, hcn.2]
  rw [List.length_cons] at hp
  have hst : stepM s = .run { s with pc := s.pc + 1, data := (c.toNat - 48) :: s.data, digit := true } := by
   unfold stepM
   rw [if_pos (by omega), hm0]
   unfold exeM digM' pushM
   rw [if_pos hdn]
   simp [hg, hroom, hdn]
  have hm1 : InMem s.mem (s.pc + 1) l := fun i hi => by
   have := hm (i + 1) (by rw [List.length_cons]; omega)
   rw [show s.pc + 1 + i = s.pc + (i + 1) by omega]
   simpa using this
  have hl := fun x hx => h x (List.mem_cons_of_mem c hx)
  have ih := digs_more l { s with pc := s.pc + 1, data := (c.toNat - 48) :: s.data, digit := true } _ s.data hl rfl rfl hm1 (by simp only; omega)
  have h3 := valD_mod l (c.toNat - 48) hl
  have h4 : valD 0 (c :: l) = valD (c.toNat - 48) l := by unfold valD; rw [List.foldl_cons]; congr 1; omega
  rw [Nat.mod_eq_of_lt (show c.toNat - 48 < 4294967296 by omega), ← h4, Nat.mod_eq_of_lt hv] at h3
  rw [h3] at ih
  have e : ({ s with pc := s.pc + (c :: l).length, data := valD 0 (c :: l) :: s.data, digit := true } : MS) = { s with pc := s.pc + 1 + l.length, data := valD 0 (c :: l) :: s.data, digit := true } := by
   rw [List.length_cons, Nat.add_assoc, Nat.add_comm 1]
  rw [e]
  exact .step hst ih
/-! ### Words -/
/-- A program: its words, its origin, its labels' addresses. -/
structure PW where
 W : List Wd
 og : Nat
 known : Wd → Nat
def PW.pre (C : PW) (i : Nat) : Wd := textA C.known (C.W.take i)
/-- Where a word begins. -/
def PW.plc (C : PW) (i : Nat) : Nat := C.og + (C.pre i).length
/-- The machine stands ahead of a word. -/
def PW.At (C : PW) (s : MS) (i : Nat) : Prop := s.pc = C.plc i ∧ (s.digit = true → lastD (C.pre i) = true)
/-- The program's text lies in memory. -/
structure PW.Ok (C : PW) (mem : Nat → Nat) : Prop where
 here : InMem mem C.og (textA C.known C.W)
 fits : C.og + (textA C.known C.W).length ≤ 262144
theorem addT_pre (known : Wd → Nat) (t w : Wd) : t <+: addT known t w := by
 unfold addT
 split
 ·exact List.prefix_refl _
 ·rw [List.append_assoc]; exact List.prefix_append _ _
theorem foldT_pre (known : Wd → Nat) : ∀ (l : List Wd) (t : Wd), t <+: l.foldl (addT known) t
 | [], t => List.prefix_refl _
 | w :: l, t => List.IsPrefix.trans (addT_pre known t w) (foldT_pre known l _)
theorem PW.pre_all (C : PW) (i : Nat) : C.pre i <+: textA C.known C.W := by
 have h : textA C.known C.W = (C.W.drop i).foldl (addT C.known) (C.pre i) := by
  unfold PW.pre textA
  rw [← List.foldl_append, List.take_append_drop]
 rw [h]
 exact foldT_pre _ _ _
theorem PW.pre_succ (C : PW) {i : Nat} {w : Wd} (h : C.W[i]? = some w) : C.pre (i + 1) = addT C.known (C.pre i) w := by
 obtain ⟨hi, rfl⟩ := List.getElem?_eq_some_iff.1 h
 unfold PW.pre textA
 rw [List.take_succ_eq_append_getElem hi, List.foldl_append]
 rfl
theorem PW.pre_le (C : PW) (i : Nat) : C.plc i ≤ C.og + (textA C.known C.W).length := by
 have := (C.pre_all i).length_le
 unfold PW.plc
 omega
/-- What is written for a word. -/
theorem PW.piece {C : PW} {mem : Nat → Nat} {i : Nat} {w : Wd} (hk : C.Ok mem) (hw : C.W[i]? = some w) (hd : defW w = none) :
  C.pre (i + 1) = C.pre i ++ (if lastD (C.pre i) && firstD (pieceW C.known w) then [32] else []) ++ pieceW C.known w ∧
  InMem mem (C.plc i) ((if lastD (C.pre i) && firstD (pieceW C.known w) then [32] else []) ++ pieceW C.known w) ∧ C.plc (i + 1) ≤ 262144 := by
 have h1 := C.pre_succ hw
 have h2 : addT C.known (C.pre i) w = C.pre i ++ (if lastD (C.pre i) && firstD (pieceW C.known w) then [32] else []) ++ pieceW C.known w := by unfold addT; rw [hd]
 rw [h2] at h1
 refine ⟨h1, ?_, Nat.le_trans (C.pre_le _) hk.fits⟩
 have h3 := hk.here.pre (C.pre_all (i + 1))
 rw [h1, List.append_assoc] at h3
 exact h3.app.2
/-- A sign as a word. -/
theorem PW.sign {C : PW} {s : MS} {i : Nat} {c : UInt8} (hk : C.Ok s.mem) (h : C.At s i) (hw : C.W[i]? = some [c]) (hd : defW [c] = none) (hr : refW [c] = none) (hc : isDigit c = false) :
  stepM s = (match exeM c.toNat { s with pc := C.plc (i + 1) } with
   | .run s' => .run { s' with digit := false }
   | .stop e o => .stop e o) ∧ lastD (C.pre (i + 1)) = false := by
 obtain ⟨h1, h2, h3⟩ := C.piece hk hw hd
 have hp : pieceW C.known [c] = [c] := by unfold pieceW; rw [hr]
 have hf : firstD [c] = false := hc
 rw [hp, hf, Bool.and_false, if_neg (by decide)] at h1 h2
 rw [List.append_nil] at h1
 rw [List.nil_append] at h2
 have m0 := h2 0 (by simp)
 simp only [Nat.add_zero, List.getElem_cons_zero] at m0
 have hplc : C.plc (i + 1) = C.plc i + 1 := by
  unfold PW.plc
  rw [h1, List.length_append]
  rfl
 have hn : isDigN c.toNat = false := by
  cases hx : isDigN c.toNat with
  | false => rfl
  | true =>
   unfold isDigN at hx
   simp only [Bool.and_eq_true, decide_eq_true_eq] at hx
   rw [dig_iff.2 hx] at hc
   cases hc
 constructor
 ·unfold stepM
  rw [if_pos (by rw [h.1]; omega), h.1, m0, ← hplc, hn]
  all_goals (cases exeM c.toNat { s with pc := C.plc (i + 1) } <;> rfl)
 ·rw [h1]
  unfold lastD
  simp [hc]
end Go.Stele
namespace Go.Stele
open Go.Lib
/-- A state ahead of a word, with these values, no digit having gone before. -/
def PW.put (C : PW) (s : MS) (i : Nat) (d : List Nat) : MS := { s with pc := C.plc i, data := d, digit := false }
theorem PW.put_at (C : PW) (s : MS) (i : Nat) (d : List Nat) : C.At (C.put s i d) i := ⟨rfl, fun h => by cases h⟩
/-- The signs. -/
theorem sign_words {c : UInt8} (h : c ∈ ([43, 45, 42, 47, 37, 94, 60, 64, 33, 63, 58, 59, 44, 46, 36] : Wd)) : defW [c] = none ∧ refW [c] = none ∧ isDigit c = false := by
 have : ∀ c ∈ ([43, 45, 42, 47, 37, 94, 60, 64, 33, 63, 58, 59, 44, 46, 36] : Wd), defW [c] = none ∧ refW [c] = none ∧ isDigit c = false := by decide +kernel
 exact this c h
section
variable {C : PW} {s : MS} {i : Nat}
theorem PW.load (hk : C.Ok s.mem) (h : C.At s i) (hw : C.W[i]? = some [64]) {a : Nat} {r : List Nat} (hd : s.data = a :: r) (ha : a < 262144) (hroom : r.length < 256) : Stx 1 s (C.put s (i + 1) (s.mem a :: r)) := by
 obtain ⟨e1, e2, e3⟩ := sign_words (c := 64) (by decide)
 obtain ⟨h1, _⟩ := C.sign hk h hw e1 e2 e3
 refine Stx.one (h1.trans ?_)
 have : exeM (64 : UInt8).toNat { s with pc := C.plc (i + 1) } = .run { s with pc := C.plc (i + 1), data := s.mem a :: r } := by
  unfold exeM
  rw [if_neg (by decide), if_neg (by decide), if_pos (by decide)]
  unfold ldM pushM
  simp [hd, ha, hroom]
 rw [this]
 rfl
theorem PW.store (hk : C.Ok s.mem) (h : C.At s i) (hw : C.W[i]? = some [33]) {a v : Nat} {r : List Nat} (hd : s.data = a :: v :: r) (ha : a < 262144) : Stx 1 s { C.put s (i + 1) r with mem := fun i => if i = a then v else s.mem i } := by
 obtain ⟨e1, e2, e3⟩ := sign_words (c := 33) (by decide)
 obtain ⟨h1, _⟩ := C.sign hk h hw e1 e2 e3
 refine Stx.one (h1.trans ?_)
 have : exeM (33 : UInt8).toNat { s with pc := C.plc (i + 1) } = .run { s with pc := C.plc (i + 1), data := r, mem := fun i => if i = a then v else s.mem i } := by
  unfold exeM
  rw [if_neg (by decide), if_neg (by decide), if_neg (by decide), if_pos (by decide)]
  unfold stoM
  simp [hd, ha]
 rw [this]
 rfl
theorem PW.write (hk : C.Ok s.mem) (h : C.At s i) (hw : C.W[i]? = some [46]) {v : Nat} {r : List Nat} (hd : s.data = v :: r) : Stx 1 s { C.put s (i + 1) r with out := s.out ++ [UInt8.ofNat v] } := by
 obtain ⟨e1, e2, e3⟩ := sign_words (c := 46) (by decide)
 obtain ⟨h1, _⟩ := C.sign hk h hw e1 e2 e3
 refine Stx.one (h1.trans ?_)
 have : exeM (46 : UInt8).toNat { s with pc := C.plc (i + 1) } = .run { s with pc := C.plc (i + 1), data := r, out := s.out ++ [UInt8.ofNat v] } := by
  unfold exeM
  rw [if_neg (by decide), if_neg (by decide), if_neg (by decide), if_neg (by decide), if_neg (by decide), if_neg (by decide), if_neg (by decide), if_neg (by decide), if_pos (by decide)]
  unfold wrM
  simp [hd]
 rw [this]
 rfl
theorem PW.halt (hk : C.Ok s.mem) (h : C.At s i) (hw : C.W[i]? = some [36]) : stepM s = .stop 0 s.out := by
 obtain ⟨e1, e2, e3⟩ := sign_words (c := 36) (by decide)
 obtain ⟨h1, _⟩ := C.sign hk h hw e1 e2 e3
 rw [h1]
 have : exeM (36 : UInt8).toNat { s with pc := C.plc (i + 1) } = .stop 0 s.out := by
  unfold exeM
  rw [if_neg (by decide), if_neg (by decide), if_neg (by decide), if_neg (by decide), if_neg (by decide), if_neg (by decide), if_neg (by decide), if_neg (by decide), if_neg (by decide), if_pos (by decide)]
 rw [this]
def isOp (c : UInt8) : Prop := c = 43 ∨ c = 45 ∨ c = 42 ∨ c = 47 ∨ c = 37 ∨ c = 94 ∨ c = 60
theorem exe_op {c : UInt8} (hc : isOp c) (s : MS) : exeM c.toNat s = opM c.toNat s := by
 have h : isDigN c.toNat = false ∧ ¬ (c.toNat = 32 ∨ c.toNat = 10) ∧ c.toNat ≠ 64 ∧ c.toNat ≠ 33 ∧ c.toNat ≠ 63 ∧ c.toNat ≠ 58 ∧ c.toNat ≠ 59 ∧ c.toNat ≠ 44 ∧ c.toNat ≠ 46 ∧ c.toNat ≠ 36 ∧ (c.toNat = 43 ∨ c.toNat = 45 ∨ c.toNat = 42 ∨ c.toNat = 47 ∨ c.toNat = 37 ∨ c.toNat = 94 ∨ c.toNat = 60) := by
  rcases hc with rfl | rfl | rfl | rfl | rfl | rfl | rfl <;> decide
 obtain ⟨a1, a2, a3, a4, a5, a6, a7, a8, a9, a10, a11⟩ := h
 unfold exeM
 rw [if_neg (by rw [a1]; decide), if_neg a2, if_neg a3, if_neg a4, if_neg a5, if_neg a6, if_neg a7, if_neg a8, if_neg a9, if_neg a10, if_pos a11]
theorem op_words {c : UInt8} (hc : isOp c) : defW [c] = none ∧ refW [c] = none ∧ isDigit c = false :=
 sign_words (by unfold isOp at hc; rcases hc with rfl | rfl | rfl | rfl | rfl | rfl | rfl <;> decide)
theorem PW.op (hk : C.Ok s.mem) (h : C.At s i) {c : UInt8} (hc : isOp c) (hw : C.W[i]? = some [c]) {a b v : Nat} {r : List Nat} (hd : s.data = b :: a :: r) (hv : binM c.toNat a b = some v) (hroom : r.length < 256) : Stx 1 s (C.put s (i + 1) (v :: r)) := by
 obtain ⟨e1, e2, e3⟩ := op_words hc
 obtain ⟨h1, _⟩ := C.sign hk h hw e1 e2 e3
 refine Stx.one (h1.trans ?_)
 have : exeM c.toNat { s with pc := C.plc (i + 1) } = .run { s with pc := C.plc (i + 1), data := v :: r } := by
  rw [exe_op hc]
  unfold opM pushM
  simp [hd, hv, hroom]
 rw [this]
 rfl
/-- A division by zero. -/
theorem PW.opTrap (hk : C.Ok s.mem) (h : C.At s i) {c : UInt8} (hc : isOp c) (hw : C.W[i]? = some [c]) {a b : Nat} {r : List Nat} (hd : s.data = b :: a :: r) (hv : binM c.toNat a b = none) : stepM s = .stop 12 s.out := by
 obtain ⟨e1, e2, e3⟩ := op_words hc
 obtain ⟨h1, _⟩ := C.sign hk h hw e1 e2 e3
 rw [h1]
 have : exeM c.toNat { s with pc := C.plc (i + 1) } = .stop 12 s.out := by
  rw [exe_op hc]
  unfold opM MR.trap
  simp [hd, hv]
 rw [this]
end
end Go.Stele
namespace Go.Stele
open Go.Lib
structure Org where
 code : Int
 scalars : Int
 arrays : Int
end Go.Stele
namespace Go.Stele
def Lt (v : Nat) : Prop := v < 4294967296
end Go.Stele
namespace Go.Stele
open Go.Lib
theorem errT_zero (all : List Wd) : ∀ (l : List (Wd × Nat)) (met : List Wd), (errT all met l).2 = 0 → met.Nodup → (met ++ defs (l.map (·.1))).Nodup ∧ ∀ w ∈ l.map (·.1), OkW all w
 | [], met, _, hm => by
  simp only [List.map_nil, defs, List.filterMap_nil, List.append_nil]
  exact ⟨hm, fun w hw => (List.not_mem_nil hw).elim⟩
 | (w, ln) :: r, met, h, hm => by
  rw [errT] at h
  rw [List.map_cons, defs_cons]
  cases hd : defW w with
  | some x =>
   rw [hd] at h
   simp only at h ⊢
   split at h
   ·simp at h
   ·rename_i hx
    have hn : (met ++ [x]).Nodup := List.nodup_append.2 ⟨hm, by simp, fun a ha b hb => by
     rw [List.mem_singleton.1 hb]
     exact fun e => hx (e ▸ ha)⟩
    obtain ⟨h1, h2⟩ := errT_zero all r (met ++ [x]) h hn
    refine ⟨by rw [List.append_assoc] at h1; exact h1, fun y hy => ?_⟩
    rcases List.mem_cons.1 hy with rfl | hy
    ·unfold OkW; rw [hd]; trivial
    ·exact h2 y hy
  | none =>
   rw [hd] at h
   simp only at h ⊢
   have key : OkW all w ∧ (errT all met r).2 = 0 := by
    unfold OkW
    rw [hd]
    cases hr : refW w with
    | some x =>
     rw [hr] at h
     simp only at h ⊢
     split at h
     ·rename_i hx; exact ⟨hx, h⟩
     ·simp at h
    | none =>
     rw [hr] at h
     simp only at h ⊢
     split at h
     ·rename_i hx; exact ⟨hx, h⟩
     ·simp at h
   obtain ⟨h1, h2⟩ := errT_zero all r met key.2 hm
   refine ⟨by simpa using h1, fun y hy => ?_⟩
   rcases List.mem_cons.1 hy with rfl | hy
   ·exact key.1
   ·exact h2 y hy
/-- What the assembler takes has its labels right. -/
theorem asm_ok {src : Wd} (h : (errT (defs (wordsP src)) [] (toksP src)).2 = 0) : AsmOk (wordsP src) := by
 have := errT_zero _ _ _ h List.nodup_nil
 rw [toksP_fst, List.nil_append] at this
 exact this
/-! ### Labels that the assembler took -/
end Go.Stele
namespace Go.Proofs.YtdakelgkjdaijaaGreatDoor.Asm
open Go.GL Go.RowKit Go.Stele
set_option maxRecDepth 100000
set_option maxHeartbeats 4000000
theorem lenW_le : ∀ (l : List Wd) (d : Bool), lenW d l ≤ 3 * tot l
 | [], d => Nat.zero_le _
 | w :: r, d => by
  have h1 := one_le d
  have h2 := one_le (d && firstD w)
  rw [lenW, tot_cons]
  cases defW w with
  | some l => have := lenW_le r d; simp only; omega
  | none =>
   cases hr : refW w with
   | some l =>
    have := lenW_le r true
    have hlen : 2 ≤ w.length := by
     unfold refW at hr
     split at hr
     ·cases hr
     ·rename_i c q
      split at hr
      ·rename_i hc
       have := List.length_pos_iff.2 (nameW_ne hc.2)
       simp only [List.length_cons]
       omega
      ·cases hr
    simp only
    omega
   | none => have := lenW_le r (lastD w); simp only; omega
theorem labs_le (kn : Wd → Nat) (og M : Nat) : ∀ (l : List Wd) (s : Wd × List (Wd × Nat)), (∀ w ∈ l, w ≠ []) → ((l.foldl (stepA kn og) s).1).length ≤ M → (∀ p ∈ s.2, p.2 ≤ og + M) → ∀ p ∈ (l.foldl (stepA kn og) s).2, p.2 ≤ og + M
 | [], s, _, _, h => h
 | w :: r, s, hw, hM, h => by
  rw [List.foldl_cons] at hM ⊢
  refine labs_le kn og M r _ (fun x hx => hw x (List.mem_cons_of_mem w hx)) hM ?_
  have h1 := fold_le kn og r (stepA kn og s w).1 (stepA kn og s w).2 (fun x hx => hw x (List.mem_cons_of_mem w hx))
  intro p hp
  unfold stepA at hp h1 hM
  cases hd : defW w with
  | none =>
   rw [hd] at hp
   exact h p hp
  | some x =>
   rw [hd] at hp h1 hM
   simp only at hp h1 hM
   rcases List.mem_append.1 hp with hp | hp
   ·exact h p hp
   ·rw [List.mem_singleton.1 hp]
    simp only
    omega
/-- The labels as a map holds them. -/
def labKV (labs : List (Wd × Nat)) : KV := labs.map fun p => (p.1, int .i64 (p.2 : Nat))
theorem labKV_get : ∀ (labs : List (Wd × Nat)) (x : Wd), (GL.kvGet (labKV labs) x).getD (int .i64 0) = int .i64 (findL labs x : Nat)
 | [], x => rfl
 | p :: r, x => by
  unfold labKV findL
  rw [List.map_cons, GL.kvGet, List.find?_cons]
  by_cases h : p.1 = x
  ·rw [if_pos h, decide_eq_true h]
   rfl
  ·rw [if_neg h, decide_eq_false h]
   exact labKV_get r x
theorem labKV_take {labs : List (Wd × Nat)} {i : Nat} (h : i < labs.length) (hn : (labs.map (·.1)).Nodup) : GL.kvPut (labKV (labs.take i)) labs[i].1 (int .i64 (labs[i].2 : Nat)) = labKV (labs.take (i + 1)) := by
 unfold labKV
 rw [List.take_succ_eq_append_getElem h, List.map_append]
 refine kv_new ?_
 rw [List.map_map]
 intro hm
 have e1 : labs.map (·.1) = (labs.take i).map (·.1) ++ labs[i].1 :: (labs.drop (i + 1)).map (·.1) := by
  conv => lhs; rw [← List.take_append_drop i labs, List.drop_eq_getElem_cons h]
  rw [List.map_append, List.map_cons]
 rw [e1, List.nodup_append] at hn
 exact hn.2.2 _ hm _ (List.mem_cons_self ..) rfl
theorem findL_le {labs : List (Wd × Nat)} {M : Nat} (h : ∀ p ∈ labs, p.2 ≤ M) (x : Wd) : findL labs x ≤ M := by
 unfold findL
 cases hf : labs.find? fun p => decide (p.1 = x) with
 | none => exact Nat.zero_le _
 | some p => exact h p (List.mem_of_find?_eq_some hf)
/-- What Assemble hands back. -/
def asmLV : Except (Nat × Nat) (Wd × List (Wd × Nat)) → LV
 | .error e => .tuple [str [], .list [], int .i64 (e.1 : Nat), int .i64 (e.2 : Nat)]
 | .ok x => .tuple [str x.1, .list (x.2.map tokLV), int .i64 0, int .i64 0]
attribute [local irreducible] LOps LCode LStep LCalls Go.GL.Pure QThen QBlock RetPost LQ LAny LLate LLateOp
section
variable {B0 : Nat} {w0 : World}
theorem assemble_spec (hG : GW B0 w0) (hM : GM w0) (src : List UInt8) (og : Int) (hs : src.length ≤ 300000000) : LCalls (KC B0 w0) 20 [str src, int .i64 og] [] (Ret (asmLV (asmP src og))) := by
 have hA : asmP src og = asmP src og := rfl
 conv at hA => rhs; unfold asmP
 generalize hR : asmP src og = R at hA ⊢
 refine LCalls.intro4 Tryz.func20 rfl (n := 65) rfl rfl rfl ?_
 repeat first | refine LOps.nil ?_ | refine LCode.seq ?_ | refine LCode.region ?_ | refine QThen.normal ?_ | refine LOps.pure (Pure.as (lv := .atom _) rfl) rfl ?_ | refine LOps.pure (Pure.mv (lv := .atom _) rfl) rfl ?_ | refine LOps.pure (Pure.lss rfl rfl) rfl ?_
 refine LOps.bcase 19 rfl (fun h1 => ?_) (fun h1 => ?_)
 ·have h1' : og < 0 := of_decide_eq_true h1
  rw [if_pos (.inl h1')] at hA
  subst hA
  repeat first | refine LOps.nil ?_ | refine QThen.normal ?_ | refine LOps.pure (Pure.pickT (lv := .atom _) rfl rfl) rfl ?_ | refine LOps.skip rfl rfl rfl rfl ?_
  refine LCode.cond rfl (fun h => ?_) (fun h => by cases h)
  repeat first | refine LOps.nil ?_ | refine LCode.seq ?_ | refine LCode.region ?_ | refine LCode.ret ?_ | refine QThen.normal ?_ | refine QThen.ret ?_ | refine LOps.pure (Pure.as (lv := .atom _) rfl) rfl ?_
  exact retRet rfl (AllRes.cons (ResIs.tmp (v := .atom _) rfl (LV.Sub.refl _)) (AllRes.cons (ResIs.tmp (v := nilSlice) rfl LV.Sub.nil) (AllRes.cons (ResIs.tmp (v := .atom _) rfl (LV.Sub.refl _)) (AllRes.cons (ResIs.tmp (v := .atom _) rfl (LV.Sub.refl _)) AllRes.nil)))) rfl
 have h1' : ¬ og < 0 := of_decide_eq_false h1
 repeat first | refine LOps.nil ?_ | refine QThen.normal ?_ | refine LOps.pure (Pure.mv (lv := .atom _) rfl) rfl ?_ | refine LOps.pure (Pure.geq rfl rfl) rfl ?_ | refine LOps.pure (Pure.pickF (lv := .atom _) rfl rfl) rfl ?_ | refine LOps.want rfl rfl ?_
 refine LCode.cond rfl (fun h2 => ?_) (fun h2 => ?_)
 ·have h2' : og ≥ 262144 := of_decide_eq_true h2
  rw [if_pos (.inr h2')] at hA
  subst hA
  repeat first | refine LOps.nil ?_ | refine LCode.seq ?_ | refine LCode.region ?_ | refine LCode.ret ?_ | refine QThen.normal ?_ | refine QThen.ret ?_ | refine LOps.pure (Pure.as (lv := .atom _) rfl) rfl ?_
  exact retRet rfl (AllRes.cons (ResIs.tmp (v := .atom _) rfl (LV.Sub.refl _)) (AllRes.cons (ResIs.tmp (v := nilSlice) rfl LV.Sub.nil) (AllRes.cons (ResIs.tmp (v := .atom _) rfl (LV.Sub.refl _)) (AllRes.cons (ResIs.tmp (v := .atom _) rfl (LV.Sub.refl _)) AllRes.nil)))) rfl
 have h2' : ¬ og ≥ 262144 := of_decide_eq_false h2
 rw [if_neg (by omega)] at hA
 obtain ⟨o, rfl⟩ : ∃ o : Nat, og = (o : Int) := ⟨og.toNat, by omega⟩
 rw [Int.toNat_natCast] at hA
 have hao := @asm_ok src
 have hft := toksP_fst src
 have hwt := words_tot src
 have hwl := wordsP_len src
 have hcl := wordsP_clean src
 have hlw := lenW_le (wordsP src) false
 have htk := tokens_spec hG hM src (by omega)
 rw [← hft] at hwt hwl hcl hlw hA hao
 rw [List.length_map] at hwl
 generalize toksP src = l at hwt hwl hcl hlw htk hA hao
 have hne : ∀ w ∈ txt l, w ≠ [] := fun w hw => (hcl w hw).1
 have hsz : ∀ p ∈ l, p.1 ≠ [] ∧ p.1.length ≤ 1000000000 := fun p hp => by
  have hm : p.1 ∈ l.map (·.1) := List.mem_map_of_mem hp
  have := tot_mem hm
  exact ⟨(hcl _ hm).1, by omega⟩
 have hck := check_spec (B0 := B0) (w0 := w0) l (by omega) (fun p hp => (hsz p hp).2)
 have hlen : ∀ kn, ((txt l).foldl (stepA kn o) ([], [])).1.length = lenW false (txt l) := fun kn => by
  rw [stepA_fst]
  exact textA_len kn _ hne
 have hjo := fun kn hkn km Hk hK => joined_ex hG l o (by omega) (by omega) hsz kn hkn (by rw [hlen kn]; show lenW false (l.map (·.1)) ≤ _; omega) km Hk hK
 generalize hE : errT (defs (txt l)) [] l = E at hck hA hao
 have hE2 : E = (E.1, E.2) := rfl
 repeat first | refine LCode.seq ?_ | refine LCode.region ?_ | refine LCode.skip ?_ | refine QThen.normal ?_ | refine LOps.pure (Pure.mv (lv := .atom _) rfl) rfl ?_
 refine LOps.step (S.fn [_] rfl htk ?_) rfl
 repeat first | refine LOps.nil ?_ | refine LCode.seq ?_ | refine LCode.region ?_ | refine QThen.normal ?_ | refine LOps.pure (Pure.as (lv := .list _) rfl) rfl ?_ | refine LOps.pure (Pure.mv (lv := .list _) rfl) rfl ?_
 refine LOps.step (S.fn [_] rfl hck ?_) rfl
 repeat first | refine LOps.nil ?_ | refine LCode.seq ?_ | refine LCode.region ?_ | refine QThen.normal ?_ | refine LOps.pure (Pure.as (lv := .atom _) rfl) rfl ?_ | refine LOps.pure (Pure.mv (lv := .atom _) rfl) rfl ?_ | refine LOps.pure (Pure.mv (lv := .tuple _) rfl) rfl ?_ | refine LOps.pure (Pure.extract (c := .atom _) rfl rfl) rfl ?_ | refine LOps.pure (Pure.neq rfl rfl) rfl ?_
 refine LCode.cond rfl (fun h1 => ?_) (fun h1 => ?_)
 ·have h3 : ¬ E.2 = 0 := by simpa using h1
  rw [if_pos h3] at hA
  subst hA
  repeat first | refine LOps.nil ?_ | refine LCode.seq ?_ | refine LCode.region ?_ | refine LCode.ret ?_ | refine QThen.normal ?_ | refine QThen.ret ?_ | refine LOps.pure (Pure.as (lv := .atom _) rfl) rfl ?_ | refine LOps.pure (Pure.mv (lv := .atom _) rfl) rfl ?_
  exact retRet rfl (AllRes.cons (ResIs.tmp (v := .atom _) rfl (LV.Sub.refl _)) (AllRes.cons (ResIs.tmp (v := nilSlice) rfl LV.Sub.nil) (AllRes.cons (ResIs.tmp (v := .atom _) rfl (LV.Sub.refl _)) (AllRes.cons (ResIs.tmp (v := .atom _) rfl (LV.Sub.refl _)) AllRes.nil)))) rfl
 have h3 : E.2 = 0 := by simpa using h1
 rw [if_neg (by omega)] at hA
 have hnd := (hao h3).1
 repeat first | refine LCode.seq ?_ | refine LCode.region ?_ | refine LCode.skip ?_ | refine QThen.normal ?_ | refine LOps.pure (Pure.mv (lv := .atom _) rfl) rfl ?_ | refine LOps.pure (Pure.mv (lv := .list _) rfl) rfl ?_
 refine LOps.step (S.callH (H1 := []) (F := []) [_, _, .const (.map none)] rfl (List.Perm.refl _) (hjo (fun _ => 0) (fun _ => Nat.zero_le _) none [] (.inl ⟨rfl, rfl, fun _ => rfl⟩)) (fun v' H' hh => ?_) (fun ch H' hh => by obtain ⟨h, _⟩ := hh; cases h)) rfl
 obtain ⟨hv, rfl⟩ := hh
 cases hv
 have hlabs : ((txt l).foldl (stepA (fun _ => 0) o) ([], [])).2 = labsA (fun _ => 0) o (l.map (·.1)) := rfl
 have hle : ∀ p ∈ ((txt l).foldl (stepA (fun _ => 0) o) ([], [])).2, p.2 ≤ 1000000000000 := fun p hp => by
  have := labs_le (fun _ => 0) o (lenW false (txt l)) (txt l) ([], []) hne (by rw [hlen]; exact Nat.le_refl _) (fun p hp => by cases hp) p hp
  have h5 : lenW false (txt l) ≤ 3 * tot (l.map (·.1)) := hlw
  omega
 have hnl : (((txt l).foldl (stepA (fun _ => 0) o) ([], [])).2.map (·.1)).Nodup := by
  rw [labsA_names]
  exact hnd
 have hll := (fold_labs (fun _ => 0) o (txt l) ([], [])).2
 rw [hlabs] at hle hnl hll
 generalize hLB : labsA (fun _ => 0) o (l.map (·.1)) = labs at hle hnl hll hA hlabs
 rw [hlabs]
 have hll2 : labs.length ≤ l.length := by
  have : (txt l).length = l.length := List.length_map _
  simp only [List.length_nil] at hll
  omega
 have hlab : (labs.map tokLV).length = labs.length := List.length_map _
 repeat first | refine LOps.nil ?_ | refine LCode.seq ?_ | refine LCode.region ?_ | refine QThen.normal ?_ | refine LOps.pure (Pure.as (lv := .atom _) rfl) rfl ?_ | refine LOps.pure (Pure.as (lv := .list _) rfl) rfl ?_ | refine LOps.pure (Pure.mv (lv := .tuple _) rfl) rfl ?_ | refine LOps.pure (Pure.extract (c := .atom _) rfl rfl) rfl ?_ | refine LOps.pure (Pure.extract (c := .list _) rfl rfl) rfl ?_
 refine LOps.step (S.kvNew fun m => ?_) rfl
 repeat first | refine LOps.nil ?_ | refine LCode.seq ?_ | refine LCode.region ?_ | refine LCode.block ?_ | refine QThen.normal ?_ | refine LOps.pure (Pure.as (lv := .atom _) rfl) rfl ?_ | refine LOps.pure (Pure.mv (lv := .atom _) rfl) rfl ?_ | refine LOps.pure (Pure.mv (lv := .list _) rfl) rfl ?_ | refine LOps.pure (Pure.llen rfl) rfl ?_
 refine LCode.loopI (fun k ls H => ∃ (i : Nat) (clock : Nat), i ≤ labs.length ∧ k = labs.length - i ∧ ls = [(1, int .i64 (o : Nat)), (8, .list (l.map tokLV)), (13, .atom (.map (some m))), (41, .list (labs.map tokLV)), (42, int .i64 labs.length), (43, int .i64 (i : Nat))] ∧ H = [(m, .map (kvs (labKV (labs.take i))) clock)])
  ⟨_, _, _, ⟨0, 0, Nat.zero_le _, rfl, rfl, rfl⟩, ⟨rfl, rfl, rfl, rfl, int_eq (by omega), rfl, trivial⟩, HSub.refl _⟩ ?_
 rintro k ls H ⟨i, clock, hi, rfl, rfl, rfl⟩ j hj
 repeat first | refine LOps.nil ?_ | refine LCode.seq ?_ | refine LCode.region ?_ | refine QThen.normal ?_ | refine LOps.pure (Pure.lss rfl rfl) rfl ?_
 refine LCode.cond rfl (fun hc => ?_) (fun hc => ?_)
 ·have hlt : i < labs.length := by have := of_decide_eq_true hc; omega
  repeat first | refine LCode.seq ?_ | refine LCode.region ?_ | refine LCode.skip ?_ | refine LCode.block ?_ | refine QThen.normal ?_
  refine LOps.pure (Pure.ixRef (el' := tokLV labs[i]) (cs := [_, _]) rfl rfl (by omega) (map_get _ _ _ hlt) rfl rfl) rfl ?_
  repeat first | refine LOps.pure (Pure.ldRefAgg (cs' := [_, _]) rfl rfl rfl) rfl ?_
  refine LOps.step (S.alloc fun b15 => ?_) rfl
  repeat first | refine LOps.nil ?_ | refine LCode.region ?_ | refine QThen.normal ?_ | refine LOps.pure (Pure.mv (lv := .atom _) rfl) rfl ?_ | refine LOps.pure (Pure.fieldH rfl) rfl ?_ | refine LOps.pure (Pure.loadH (c := .atom _) rfl (List.Mem.head _) rfl) rfl ?_ | refine LOps.step (S.store (cs' := [_, _]) rfl Pick.here rfl rfl rfl rfl rfl ?_) rfl
  refine LOps.step (S.kvPut (t := 104) (kt := 9) (el := 3) (m := labKV (labs.take i)) (k := labs[i].1) (lv := int .i64 (labs[i].2 : Nat)) (by kernel_rfl) (by kernel_rfl) rfl rfl rfl (Pick.there Pick.here) fun clock' => ?_) rfl
  rw [labKV_take hlt hnl]
  repeat first | refine LOps.nil ?_ | refine LCode.region ?_ | refine QThen.normal ?_ | refine QBlock.normal ?_ | refine LOps.pure (Pure.mv (lv := .atom _) rfl) rfl ?_ | refine LOps.pure (Pure.add rfl rfl (by omega)) rfl ?_
  exact ⟨_, _, _, by omega, ⟨i + 1, clock', by omega, rfl, rfl, rfl⟩, ⟨rfl, rfl, rfl, rfl, rfl, int_eq (by omega), trivial⟩, ⟨[_], List.Perm.refl _⟩, hj⟩
 ·have hi' : i = labs.length := by have := of_decide_eq_false hc; omega
  subst hi'
  rw [List.take_length]
  have hkn := findL_le hle
  repeat first | refine LCode.seq ?_ | refine LCode.region ?_ | refine LCode.exit ?_ | refine QThen.normal ?_ | refine QThen.exit ?_ | refine QBlock.hit ?_ | refine LOps.pure (Pure.mv (lv := .atom _) rfl) rfl ?_ | refine LOps.pure (Pure.mv (lv := .list _) rfl) rfl ?_
  refine LOps.step (S.callH (H1 := [(m, .map (kvs (labKV labs)) clock)]) (F := []) [_, _, _] rfl (List.Perm.refl _) (hjo (findL labs) hkn (some m) _ (.inr ⟨m, labKV labs, clock, rfl, rfl, labKV_get labs⟩)) (fun v' H' hh => ?_) (fun ch H' hh => by obtain ⟨h, _⟩ := hh; cases h)) rfl
  obtain ⟨hv, rfl⟩ := hh
  cases hv
  have e1 : ((txt l).foldl (stepA (findL labs) o) ([], [])).1 = textA (findL labs) (l.map (·.1)) := stepA_fst _ _ _ _
  have e2 : ((txt l).foldl (stepA (findL labs) o) ([], [])).2 = labs := by
   show labsA (findL labs) o (l.map (·.1)) = labs
   rw [labsA_any (findL labs) (fun _ => 0) o (l.map (·.1)) hne]
   exact hLB
  rw [e1, e2]
  generalize textA (findL labs) (l.map (·.1)) = tx at hA
  repeat first | refine LOps.nil ?_ | refine LCode.seq ?_ | refine LCode.region ?_ | refine QThen.normal ?_ | refine LOps.pure (Pure.as (lv := .atom _) rfl) rfl ?_ | refine LOps.pure (Pure.as (lv := .list _) rfl) rfl ?_ | refine LOps.pure (Pure.mv (lv := .atom _) rfl) rfl ?_ | refine LOps.pure (Pure.mv (lv := .tuple _) rfl) rfl ?_ | refine LOps.pure (Pure.extract (c := .atom _) rfl rfl) rfl ?_ | refine LOps.pure (Pure.extract (c := .list _) rfl rfl) rfl ?_ | refine LOps.pure (Pure.slen rfl) rfl ?_ | refine LOps.pure (Pure.gtr rfl rfl) rfl ?_
  refine LCode.cond rfl (fun h2 => ?_) (fun h2 => ?_)
  ·have h5 : 40000 < tx.length := by have := of_decide_eq_true h2; omega
   rw [if_pos h5] at hA
   subst hA
   repeat first | refine LOps.nil ?_ | refine LCode.seq ?_ | refine LCode.region ?_ | refine LCode.ret ?_ | refine QThen.normal ?_ | refine QThen.ret ?_ | refine LOps.pure (Pure.as (lv := .atom _) rfl) rfl ?_
   exact retRet hj (AllRes.cons (ResIs.tmp (v := .atom _) rfl (LV.Sub.refl _)) (AllRes.cons (ResIs.tmp (v := nilSlice) rfl LV.Sub.nil) (AllRes.cons (ResIs.tmp (v := .atom _) rfl (LV.Sub.refl _)) (AllRes.cons (ResIs.tmp (v := .atom _) rfl (LV.Sub.refl _)) AllRes.nil)))) rfl
  ·have h5 : ¬ 40000 < tx.length := by have := of_decide_eq_false h2; omega
   rw [if_neg h5] at hA
   subst hA
   repeat first | refine LOps.nil ?_ | refine LCode.seq ?_ | refine LCode.region ?_ | refine LCode.skip ?_ | refine LCode.ret ?_ | refine QThen.normal ?_ | refine LOps.pure (Pure.as (lv := .atom _) rfl) rfl ?_ | refine LOps.pure (Pure.as (lv := .list _) rfl) rfl ?_ | refine LOps.pure (Pure.mv (lv := .atom _) rfl) rfl ?_ | refine LOps.pure (Pure.mv (lv := .list _) rfl) rfl ?_
   exact retRet hj (AllRes.cons (ResIs.tmp (v := .atom _) rfl (LV.Sub.refl _)) (AllRes.cons (ResIs.tmp (v := .list _) rfl (LV.Sub.refl _)) (AllRes.cons (ResIs.tmp (v := .atom _) rfl (LV.Sub.refl _)) (AllRes.cons (ResIs.tmp (v := .atom _) rfl (LV.Sub.refl _)) AllRes.nil)))) rfl
end
end Go.Proofs.YtdakelgkjdaijaaGreatDoor.Asm
namespace Go.GL
open Go.RowKit
section
variable {C : Ctx} {e : Env} {H : Heap} {dst : Option Nat} {ty : TypeId} {pos : String} {aft : Array Edge} {g : Option (Nat × Bool)} {xT yT : TypeId} {x y : Operand} {k k2 : IntKind} {a b : Int}
theorem run_int2 {P : Program} {op : BinOp} {xT yT : TypeId} {x y : Operand} {k k2 : IntKind} {a b : Int} {ρ : Operand → Value} (hx : ρ x = .int k a) (hy : ρ y = .int k2 b) {s : Sem Value}
  (h : (binOp op xT (.int k a) (.int k2 b)) = s) {v : Value} (hv : ∀ w, s.run P w = .ok v w) (w : World) : (execOp ρ ⟨dst, .binOp op xT x y yT, ty, pos, aft, g⟩).run P w = .ok (.value v) w := by
 subst h
 have he : eqGuard op xT x y (.int k a) (.int k2 b) = Pure.pure () := by
  unfold eqGuard
  cases op <;> rfl
 simp only [execOp, hx, hy, he, Sem.run_bind, Sem.run_pure, Result.andThen_ok, hv]
theorem Pure.quoW (hx : e.ev x = int k a) (hy : e.ev y = int k b) (hb : b ≠ 0) : Pure C ⟨dst, .binOp .quo xT x y yT, ty, pos, aft, g⟩ e H (int k (k.wrap (a.tdiv b))) :=
 .of_any fun _ _ _ h => ⟨_, rep_atom, run_int2 (atom_of h hx) (atom_of h hy) (s := Op.intDiv .quo k a b) (by simp only [binOp, ne_eq, not_true_eq_false, if_false]) (fun _ => by simp only [Op.intDiv, if_neg hb, Sem.run_pure])⟩
theorem Pure.remW (hx : e.ev x = int k a) (hy : e.ev y = int k b) (hb : b ≠ 0) : Pure C ⟨dst, .binOp .rem xT x y yT, ty, pos, aft, g⟩ e H (int k (a.tmod b)) :=
 .of_any fun _ _ _ h => ⟨_, rep_atom, run_int2 (atom_of h hx) (atom_of h hy) (s := Op.intDiv .rem k a b) (by simp only [binOp, ne_eq, not_true_eq_false, if_false]) (fun _ => by simp only [Op.intDiv, if_neg hb, Sem.run_pure])⟩
theorem Pure.xorW (hx : e.ev x = int k a) (hy : e.ev y = int k b) : Pure C ⟨dst, .binOp .xor xT x y yT, ty, pos, aft, g⟩ e H (int k (k.wrap ((BitVec.ofInt k.bits a ^^^ BitVec.ofInt k.bits b).toNat : Nat))) :=
 .of_any fun _ _ _ h => ⟨_, rep_atom, run_int2 (atom_of h hx) (atom_of h hy) (s := Op.intBits .xor k a b) (by simp only [binOp, ne_eq, not_true_eq_false, if_false]) (fun _ => rfl)⟩
end
theorem wpAnyH_weakS {P : Program} {md : Region.Mode} {ops : Array Oper} {Q : Exit → Act → World → Prop} {S S' : World → Prop} (hS : ∀ w, S' w → S w) : ∀ (fuel : Nat) (listed : Array Bool) (a : Act) (w : World),
  wpAnyH P md ops Q S' fuel listed a w → wpAnyH P md ops Q S fuel listed a w
 | 0, _, _, _, k => k
 | fuel + 1, _, _, _, k => ⟨k.1, fun i hi => wpOp_mono (fun a' w' h => ⟨hS _ h.1, wpAnyH_weakS hS fuel _ a' w' h.2⟩) (k.2 i hi)⟩
/-- Behind an acting operation what only computes or reads HF' may be taken first, again. -/
theorem LLate.any {C : Ctx} {n : Nat} {ops : Array Oper} {Q : Post} {HF : Heap} {fuel : Nat} {listed : Array Bool} {e : Env} {H : Heap} (HF' : Heap) (hs : ∀ p ∈ HF, p ∈ HF') (h : LAny C n ops Q HF' fuel listed e H) : LLate C n ops Q HF fuel listed e H := fun w0 L0 a w L hL hA _ hE hH =>
 wpAnyH_weakS (fun w' hw' => ⟨fun p hp => (hw'.1 p (hs p hp)).trans (hA.1 p hp), fun b i hi => (hw'.2 b i (Nat.lt_of_lt_of_le hi (hL b))).trans (hA.2 b i hi)⟩) _ _ _ _ (h a w L hE hH)
/-! ### A drawn region whose last operations stand in a row: what is ahead of them only computes or reads. -/
def LS (C : Ctx) (n : Nat) (ops : Array Oper) (K : Env → Prop) (rest : List Oper) (e : Env) (H : Heap) : Prop :=
 ∀ a w L, RelE n a e w L → RelH C w L H → wpStill C.P ops w (fun a' => ∃ e', RelE n a' e' w L ∧ K e') rest a
section still
variable {C : Ctx} {n : Nat} {ops : Array Oper} {K : Env → Prop} {e : Env} {H : Heap} {dst : Option Nat} {op : Op} {ty : TypeId} {pos : String} {aft : Array Edge} {rest : List Oper}
theorem LS.nil (h : K e) : LS C n ops K [] e H := fun _ _ _ hE _ => ⟨e, hE, h⟩
theorem still_one {P : Program} {Q : Act → Prop} {a : Act} {w : World} {o : Oper} (hg : Region.wanted o (yielded ops a.tmps) = true) {v : Value} (h : (execOp a.eval o).run P w = .ok (.value v) w) (k : wpStill P ops w Q rest (a.put o.dst v)) : wpStill P ops w Q (o :: rest) a := by
 unfold wpStill
 rw [if_pos hg]
 unfold Oper.still
 rw [h]
 exact ⟨rfl, k⟩
theorem LS.pure {lv : LV} (h : Pure C ⟨dst, op, ty, pos, aft, none⟩ e H lv) (hd : dstOk n dst) (k : LS C n ops K rest (e.put dst lv) H) : LS C n ops K (⟨dst, op, ty, pos, aft, none⟩ :: rest) e H := fun a w L hE hH => by
 obtain ⟨v, hv, hr⟩ := h a.eval w L hE.ev hH
 exact still_one (by simp [Region.wanted]) (hr w (Agree.refl _ _ _)) (k _ w L (hE.put hd hv) hH)
theorem wpStill_mono {P : Program} {w : World} {Q Q' : Act → Prop} (h : ∀ a, Q a → Q' a) : ∀ (l : List Oper) (a : Act), wpStill P ops w Q l a → wpStill P ops w Q' l a
 | [], a, k => h a k
 | o :: l, a, k => by
  unfold wpStill at k ⊢
  split at k
  ·rename_i hw
   rw [if_pos hw]
   exact Oper.still_mono (fun a => wpStill_mono h l a) k
  ·rename_i hw
   rw [if_neg hw]
   exact wpStill_mono h l _ k
theorem LCode.tail [hm : TMixed C.P] {id : Nat} {l : List Oper} {Q : Post} (m : Nat) (hB : Region.lexTailB .any l.toArray m = true) (h : LS C n l.toArray (fun e' => LOps C n l.toArray Q (l.drop m) e' H) (l.take m) e H) : LCode C n (.region id l.toArray true) Q e H := fun a w L hE hH => by
 refine wp_region_still_tail m hm.out hB ?_
 refine wpStill_mono (fun a' h' => ?_) _ _ (h a w.drew L (hE.mono (ext_drew w L)) hH.drew)
 obtain ⟨e', hE', hk⟩ := h'
 refine wpList_mono (fun x a2 w' hq => ?_) _ _ _ (hk a' w.drew L hE' hH.drew)
 obtain ⟨e2, H', L', h1, h2, h3, h4⟩ := hq
 exact ⟨e2, H', L', h1.of_drew, h2, h3, h4⟩
end still
end Go.GL
