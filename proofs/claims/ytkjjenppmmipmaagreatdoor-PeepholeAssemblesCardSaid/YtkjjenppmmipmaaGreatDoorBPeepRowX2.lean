/- Texts joined: GlSet, Types, Shelf, FmtUint, LexSpec2. -/
import Derived.Test.YtkjjenppmmipmaaGreatDoorProg
import Derived.Shelf.Strings.Builder1
import Derived.Shelf.Strings.Builder2
import Derived.Shelf.Strings.OnBuilder
import Derived.Shelf.Strings.Trim
import Derived.Shelf.Small.Utf8
import Derived.Shelf.Small.Strs
import Derived.Shelf.Small.Wraps
import Derived.Shelf.Strings.BuilderF
import Derived.Shelf.Strings.BuilderK
import Derived.Shelf.Utf8.RuneCount
import Derived.Shelf.Strings.Builder2Cap
import Derived.Shelf.Strconv.Itoa0
import Derived.Shelf.Strconv.Itoa1
import Derived.Shelf.LaysM
import Derived.Shelf.Strconv.Itoa2
import Derived.Shelf.Strconv.Itoa3
import Derived.Shelf.Strconv.Clone
import Derived.Shelf.Strconv.SyntaxError
import Derived.Shelf.LaysC
import Derived.Shelf.Strconv.ToError
import Derived.Shelf.Strconv.Lower
import Derived.Shelf.Strconv.ParseUint10
import Derived.Shelf.Strconv.ParseUint10Empty
import Derived.Shelf.Strconv.ParseUint10Any
import Derived.Shelf.Strconv.RangeError
import Derived.Shelf.Strconv.ToErrorRange
import Derived.Shelf.Strconv.ParseUintEmpty
import Derived.Shelf.Strconv.ParseUint10b64
import Derived.Shelf.Strconv.ParseUint10b32
import Derived.Shelf.Strconv.ParseUint10b16
import Derived.Shelf.Strconv.ParseUint10b8
import Derived.Shelf.Strconv.ParseUint10At
import Derived.Ground.MpProg
import Derived.Shelf.Pu.ParseUintPublic10
import Derived.Shelf.Pu.ErrVarParseUint
import Derived.Shelf.Strings.Search1
import Derived.Shelf.Strings.Search2
import Derived.Shelf.Strings.Search3
import Derived.Shelf.Strings.Cut
import Derived.Shelf.Strings.Count
import Derived.Shelf.Strings.Shaped
import Derived.Shelf.Strings.Prefix
import Derived.Shelf.Strings.Split
import Derived.Shelf.Strings.Runes
import Derived.Shelf.Strings.RuneCount
import Derived.Shelf.Strings.AsciiSet
import Derived.Shelf.Bits.Mul64
import Derived.Shelf.Strings.Repeat
import Derived.Shelf.Unicode.DecodeSlow
import Derived.Shelf.Strings.BuilderCap
import Derived.Lib.Walk
import Derived.Lib.ItoaMem
import Derived.Lib.AppendIntMem
import Derived.WalkKit
import Derived.BigCall
import Derived.BigGuard
import Derived.Below
import Derived.Lib.ParseIntB
import Derived.Lib.ItoaNum
import Derived.Test.YtkjjenppmmipmaaGreatDoorBPeepRowX1
set_option linter.unusedVariables false
set_option linter.unusedSimpArgs false
namespace Go.GL
open Go.RowKit
/-- The keys of the map are the strings of p, and each is mapped to true. -/
structure SetMap (es : Array MapEntry) (p : List UInt8 → Bool) : Prop where
  keys : ∀ e ∈ es.toList, ∃ s : List UInt8, e.key = .string ⟨s.toArray⟩ ∧ e.val = .bool true ∧ p s = true
  all : ∀ s, p s = true → ∃ e ∈ es.toList, e.key = .string ⟨s.toArray⟩
theorem SetMap.nil : SetMap #[] fun _ => false := ⟨fun e he => by simp at he, fun s h => by cases h⟩
theorem bytes_beq (a b : List UInt8) : ((⟨a.toArray⟩ : ByteArray) == ⟨b.toArray⟩) = decide (a = b) := by
  show (a.toArray == b.toArray) = _
  rw [Bool.eq_iff_iff]
  simp
theorem findNow_in (k : List UInt8) : ∀ (es : List MapEntry) (i : Nat), (∀ e ∈ es, ∃ s : List UInt8, e.key = .string ⟨s.toArray⟩ ∧ e.val = .bool true) → (∃ e ∈ es, e.key = .string ⟨k.toArray⟩) →
    ∃ (j : Nat) (e : MapEntry), Instr.findNow .string (.string ⟨k.toArray⟩) es i = some (some (i + j, .bool true)) ∧ es[j]? = some e ∧ e.key = .string ⟨k.toArray⟩
  | [], _, _, h => by obtain ⟨e, he, _⟩ := h; cases he
  | e :: es, i, h, hk => by
    obtain ⟨s, h1, h2⟩ := h e List.mem_cons_self
    by_cases hs : k = s
    · refine ⟨0, e, ?_, rfl, by rw [h1, hs]⟩
      have hb : ((⟨k.toArray⟩ : ByteArray) == ⟨s.toArray⟩) = true := by rw [bytes_beq, decide_eq_true hs]
      simp only [Instr.findNow, h1, Instr.sameNow, hb, h2, Nat.add_zero]
    · have hb : ((⟨k.toArray⟩ : ByteArray) == ⟨s.toArray⟩) = false := by rw [bytes_beq, decide_eq_false hs]
      obtain ⟨e', he', hk'⟩ := hk
      have hin : e' ∈ es := by
        rcases List.mem_cons.1 he' with rfl | h3
        · rw [h1] at hk'
          have : s = k := by simpa using hk'
          exact absurd this.symm hs
        · exact h3
      obtain ⟨j, e2, g1, g2, g3⟩ := findNow_in k es (i + 1) (fun x hx => h x (List.mem_cons_of_mem _ hx)) ⟨e', hin, hk'⟩
      refine ⟨j + 1, e2, ?_, g2, g3⟩
      simp only [Instr.findNow, h1, Instr.sameNow, hb]
      rw [g1]
      congr 3
      omega
section
variable {C : Ctx} {e : Env} {H : Heap} {dst : Option Nat} {ty : TypeId} {pos : String} {aft : Array Edge} {g : Option (Nat × Bool)} {K : LV → Heap → Prop} {X : List PanicEntry → Heap → Prop} {x y : Operand}
theorem run_checkStr {w : World} {kt : TypeId} (hkt : C.P.underlying kt = some .string) (b : Bool) (k : ByteArray) : (Instr.checkKey b 10000 kt (.string k)).run C.P w = .ok () w := by
  have hck : Instr.checkKey b 10000 kt (.string k) = Instr.checkKey b (9999 + 1) kt (.string k) := rfl
  rw [hck, Instr.checkKey]
  simp only [Sem.run_bind, run_underlying' hkt, Result.andThen_ok, Sem.run_pure]
/-- A string joins the set. -/
theorem S.setAdd {t kt el : TypeId} (ht : C.P.underlying t = some (.map kt el)) (hkt : C.P.underlying kt = some .string) {b clock : Nat} {es : Array MapEntry} {p : List UInt8 → Bool} {F : Heap} {m z : Operand} {k : List UInt8} (hm : e.ev m = .atom (.map (some b))) (hx : e.ev x = str k) (hz : e.ev z = bool true)
    (hp : Pick (b, .obj (.map es clock)) H F) (hs : SetMap es p) (hk : ∀ es' clock', SetMap es' (fun s => p s || decide (s = k)) → K (.atom undef) ((b, .obj (.map es' clock')) :: F)) : LStep C ⟨dst, .insert t m x z, ty, pos, aft, g⟩ e H K X := by
  by_cases hin : p k = true
  · refine LStep.at1 hp fun ρ w L h hH => ?_
    obtain ⟨hb0, hbs, hl, hx1, hx2⟩ := hH.objs _ (List.mem_singleton.2 rfl)
    simp only at hb0 hbs hl hx1 hx2
    have h3 : execOp ρ ⟨dst, .insert t m x z, ty, pos, aft, g⟩ = (do Instr.mapUpdate t (ρ m) (ρ x) (ρ z); Pure.pure .skip) := rfl
    obtain ⟨j, e2, g1, g2, g3⟩ := findNow_in k es.toList 0 (fun e he => by obtain ⟨s, h1, h2, _⟩ := hs.keys e he; exact ⟨s, h1, h2⟩) (hs.all k hin)
    have hf : (Instr.findKey kt (.string ⟨k.toArray⟩) es.toList).run C.P w = .ok (some (0 + j, .bool true)) w := by
      simp only [Instr.findKey, Sem.run_bind, run_underlying' hkt, Result.andThen_ok, g1, Sem.run_pure]
    have hg : (getObj b).run C.P w = .ok (.map es clock) w := by simp only [getObj, Sem.run, hx1]
    have hg2 : es[j]? = some e2 := by simpa using g2
    have hst : (Instr.keyThatStays (((es[0 + j]?).map (·.key)).getD (.string ⟨k.toArray⟩)) (.string ⟨k.toArray⟩)).run C.P w = .ok (.string ⟨k.toArray⟩) w := by
      rw [Nat.zero_add, hg2]
      simp only [Option.map_some, Option.getD_some, g3]
      unfold Instr.keyThatStays
      rw [if_pos (by simp only [Instr.sameBits]; rw [bytes_beq]; simp)]
      rfl
    rw [h3, atom_of h hm, atom_of h hx, atom_of h hz]
    simp only [Instr.mapUpdate, Sem.run_bind, run_underlying' ht, Result.andThen_ok, hg, run_checkStr hkt, hf, hst]
    have hset : ∀ o', (setObj b o').run C.P w = .ok () (setW w b o') := fun o' => run_setObj hx1 rfl
    rw [hset]
    refine left_obj (w' := setW w b _) hH rfl rfl rfl rfl (by simp [setW]) (fun c hc => setW_other hc) (setW_self hbs) (fun _ => rep_atom) (hk _ clock ⟨fun e' he' => ?_, fun s hs' => ?_⟩)
    · rw [Nat.zero_add] at he'
      obtain ⟨i, hi, rfl⟩ := List.mem_iff_getElem.1 he'
      simp only [Array.length_toList, Array.size_modify] at hi
      rw [Array.getElem_toList, Array.getElem_modify]
      split
      · exact ⟨k, rfl, rfl, by simp⟩
      · obtain ⟨s, h1, h2, h4⟩ := hs.keys es[i] (by simp)
        exact ⟨s, h1, h2, by simp [h4]⟩
    · have hps : p s = true := by
        rcases Bool.or_eq_true_iff.1 hs' with h4 | h4
        · exact h4
        · rw [of_decide_eq_true h4]; exact hin
      obtain ⟨e3, h5, h6⟩ := hs.all s hps
      obtain ⟨i, hi, rfl⟩ := List.mem_iff_getElem.1 h5
      simp only [Array.length_toList] at hi
      rw [Array.getElem_toList] at h6
      rw [Nat.zero_add]
      by_cases hij : j = i
      · refine ⟨{ es[i] with key := .string ⟨k.toArray⟩, val := .bool true }, ?_, ?_⟩
        · rw [List.mem_iff_getElem]
          refine ⟨i, by simpa using hi, ?_⟩
          rw [Array.getElem_toList, Array.getElem_modify, if_pos hij]
        · subst hij
          rw [Array.getElem?_eq_getElem hi] at hg2
          obtain rfl := Option.some.inj hg2
          rw [g3] at h6
          exact h6
      · refine ⟨es[i], ?_, h6⟩
        rw [List.mem_iff_getElem]
        refine ⟨i, by simpa using hi, ?_⟩
        rw [Array.getElem_toList, Array.getElem_modify, if_neg hij]
  · refine S.insert ht hkt hm hx hz hp (fun e he => ?_) (hk _ _ ⟨fun e' he' => ?_, fun s hs' => ?_⟩)
    · obtain ⟨s, h1, _, h2⟩ := hs.keys e he
      refine ⟨_, h1, ?_⟩
      rw [bytes_beq]
      intro h3
      rw [of_decide_eq_true h3] at hin
      exact hin h2
    · rw [Array.toList_push] at he'
      rcases List.mem_append.1 he' with h1 | h1
      · obtain ⟨s, h2, h3, h4⟩ := hs.keys e' h1
        exact ⟨s, h2, h3, by simp [h4]⟩
      · obtain rfl := List.mem_singleton.1 h1
        exact ⟨k, rfl, rfl, by simp⟩
    · rw [Array.toList_push]
      rcases Bool.or_eq_true_iff.1 hs' with h4 | h4
      · obtain ⟨e, h5, h6⟩ := hs.all s h4
        exact ⟨e, List.mem_append_left _ h5, h6⟩
      · exact ⟨_, List.mem_append_right _ (List.mem_singleton.2 rfl), by rw [of_decide_eq_true h4]⟩
/-- Whether a string is in the set. -/
theorem Pure.setGet {t kt el : TypeId} (ht : C.P.underlying t = some (.map kt el)) (hkt : C.P.underlying kt = some .string) (hz : ∀ w, (zeroValue el).run C.P w = .ok (.bool false) w) {b clock : Nat} {es : Array MapEntry} {p : List UInt8 → Bool} {k : List UInt8} (hm : e.ev x = .atom (.map (some b))) (hx : e.ev y = str k)
    (hb : (b, .obj (.map es clock)) ∈ H) (hs : SetMap es p) : Pure C ⟨dst, .lookup t x y false, ty, pos, aft, g⟩ e H (bool (p k)) := fun ρ w L h hH => by
  obtain ⟨_, _, _, hx1, _⟩ := hH.objs _ hb
  simp only at hx1
  refine ⟨.bool (p k), rep_atom, fun w' ha => ?_⟩
  have hw : w'.heap[b]? = some (.map es clock) := (ha.1 _ hb).trans hx1
  have h3 : execOp ρ ⟨dst, .lookup t x y false, ty, pos, aft, g⟩ = (do Pure.pure (.value (← Instr.lookup t (ρ x) (ρ y) false))) := rfl
  have hg : (getObj b).run C.P w' = .ok (.map es clock) w' := by simp only [getObj, Sem.run, hw]
  rw [h3, atom_of h hm, atom_of h hx]
  by_cases hin : p k = true
  · obtain ⟨j, e2, g1, g2, g3⟩ := findNow_in k es.toList 0 (fun e he => by obtain ⟨s, h1, h2, _⟩ := hs.keys e he; exact ⟨s, h1, h2⟩) (hs.all k hin)
    have hf : (Instr.findKey kt (.string ⟨k.toArray⟩) es.toList).run C.P w' = .ok (some (0 + j, .bool true)) w' := by
      simp only [Instr.findKey, Sem.run_bind, run_underlying' hkt, Result.andThen_ok, g1, Sem.run_pure]
    simp only [Instr.lookup, Sem.run_bind, run_underlying' ht, Result.andThen_ok, hg, Sem.run_pure, run_checkStr hkt, hf, hin]
    rfl
  · have hf : (Instr.findKey kt (.string ⟨k.toArray⟩) es.toList).run C.P w' = .ok none w' := by
      have hmiss := findNow_str ⟨k.toArray⟩ es.toList 0 fun e he => by
        obtain ⟨s, h1, _, h2⟩ := hs.keys e he
        refine ⟨_, h1, ?_⟩
        rw [bytes_beq]
        intro h3
        rw [of_decide_eq_true h3] at hin
        exact hin h2
      simp only [Instr.findKey, Sem.run_bind, run_underlying' hkt, Result.andThen_ok, hmiss, Sem.run_pure]
    have hin' : p k = false := Bool.eq_false_iff.2 hin
    simp only [Instr.lookup, Sem.run_bind, run_underlying' ht, Result.andThen_ok, hg, Sem.run_pure, run_checkStr hkt, hf, hz, hin']
    rfl
end
end Go.GL
namespace Go.Proofs.YtkjjenppmmipmaaGreatDoor
open Go.GL
set_option maxRecDepth 100000
instance : TMixed Tryz.prog := ⟨by kernel_rfl⟩
-- type 1: func()
instance : TSize Tryz.prog 1 1 := .of (by kernel_rfl)
instance : TOne Tryz.prog 1 := .of (by kernel_rfl)
instance : TConcrete Tryz.prog 1 := .of (by kernel_rfl)
instance : TZero Tryz.prog 1 [.nilFunc] := .of (v := .nilFunc) (n := 1) (by kernel_rfl) rfl rfl
instance : TRow Tryz.prog 1 1 8 := .of (by kernel_rfl)
-- type 2: int64
instance : TSize Tryz.prog 2 1 := .of (by kernel_rfl)
instance : TOne Tryz.prog 2 := .of (by kernel_rfl)
instance : TKind Tryz.prog 2 .i64 := .of (by kernel_rfl)
instance : TConcrete Tryz.prog 2 := .of (by kernel_rfl)
instance : TZero Tryz.prog 2 [.int .i64 0] := .of (v := .int .i64 0) (n := 1) (by kernel_rfl) rfl rfl
instance : TRow Tryz.prog 2 1 8 := .of (by kernel_rfl)
-- type 3: int
instance : TSize Tryz.prog 3 1 := .of (by kernel_rfl)
instance : TOne Tryz.prog 3 := .of (by kernel_rfl)
instance : TKind Tryz.prog 3 .i64 := .of (by kernel_rfl)
instance : TConcrete Tryz.prog 3 := .of (by kernel_rfl)
instance : TZero Tryz.prog 3 [.int .i64 0] := .of (v := .int .i64 0) (n := 1) (by kernel_rfl) rfl rfl
instance : TRow Tryz.prog 3 1 8 := .of (by kernel_rfl)
-- type 4: bool
instance : TSize Tryz.prog 4 1 := .of (by kernel_rfl)
instance : TOne Tryz.prog 4 := .of (by kernel_rfl)
instance : TConcrete Tryz.prog 4 := .of (by kernel_rfl)
instance : TZero Tryz.prog 4 [.bool false] := .of (v := .bool false) (n := 1) (by kernel_rfl) rfl rfl
instance : TRow Tryz.prog 4 1 1 := .of (by kernel_rfl)
-- type 5: uint8
instance : TSize Tryz.prog 5 1 := .of (by kernel_rfl)
instance : TOne Tryz.prog 5 := .of (by kernel_rfl)
instance : TKind Tryz.prog 5 .u8 := .of (by kernel_rfl)
instance : TConcrete Tryz.prog 5 := .of (by kernel_rfl)
instance : TZero Tryz.prog 5 [.int .u8 0] := .of (v := .int .u8 0) (n := 1) (by kernel_rfl) rfl rfl
instance : TRow Tryz.prog 5 1 1 := .of (by kernel_rfl)
-- type 6: abi.BoundsErrorCode
instance : TSize Tryz.prog 6 1 := .of (by kernel_rfl)
instance : TOne Tryz.prog 6 := .of (by kernel_rfl)
instance : TKind Tryz.prog 6 .u8 := .of (by kernel_rfl)
instance : TConcrete Tryz.prog 6 := .of (by kernel_rfl)
instance : TZero Tryz.prog 6 [.int .u8 0] := .of (v := .int .u8 0) (n := 1) (by kernel_rfl) rfl rfl
instance : TRow Tryz.prog 6 1 1 := .of (by kernel_rfl)
-- type 7: struct { x int64; y int; signed bool; code abi.BoundsErrorCode }
instance : TSize Tryz.prog 7 4 := .of (by kernel_rfl)
instance : TAgg Tryz.prog 7 4 := .of (by kernel_rfl)
instance : TConcrete Tryz.prog 7 := .of (by kernel_rfl)
instance : TField Tryz.prog 7 0 0 := .of (by kernel_rfl)
instance : TField Tryz.prog 7 1 1 := .of (by kernel_rfl)
instance : TField Tryz.prog 7 2 2 := .of (by kernel_rfl)
instance : TField Tryz.prog 7 3 3 := .of (by kernel_rfl)
instance : TStruct Tryz.prog 7 [(0, 1), (1, 1), (2, 1), (3, 1)] := .of (by kernel_rfl)
instance : TZero Tryz.prog 7 [.int .i64 0, .int .i64 0, .bool false, .int .u8 0] := .of (v := .agg #[.int .i64 0, .int .i64 0, .bool false, .int .u8 0]) (n := 4) (by kernel_rfl) rfl rfl
instance : TRow Tryz.prog 7 4 24 := .of (by kernel_rfl)
-- type 8: runtime.boundsError
instance : TSize Tryz.prog 8 4 := .of (by kernel_rfl)
instance : TAgg Tryz.prog 8 4 := .of (by kernel_rfl)
instance : TConcrete Tryz.prog 8 := .of (by kernel_rfl)
instance : TField Tryz.prog 8 0 0 := .of (by kernel_rfl)
instance : TField Tryz.prog 8 1 1 := .of (by kernel_rfl)
instance : TField Tryz.prog 8 2 2 := .of (by kernel_rfl)
instance : TField Tryz.prog 8 3 3 := .of (by kernel_rfl)
instance : TStruct Tryz.prog 8 [(0, 1), (1, 1), (2, 1), (3, 1)] := .of (by kernel_rfl)
instance : TZero Tryz.prog 8 [.int .i64 0, .int .i64 0, .bool false, .int .u8 0] := .of (v := .agg #[.int .i64 0, .int .i64 0, .bool false, .int .u8 0]) (n := 4) (by kernel_rfl) rfl rfl
instance : TRow Tryz.prog 8 4 24 := .of (by kernel_rfl)
-- type 9: string
instance : TSize Tryz.prog 9 1 := .of (by kernel_rfl)
instance : TOne Tryz.prog 9 := .of (by kernel_rfl)
instance : TStr Tryz.prog 9 := .of (by kernel_rfl)
instance : TConcrete Tryz.prog 9 := .of (by kernel_rfl)
instance : TZero Tryz.prog 9 [.string ⟨#[]⟩] := .of (v := .string ⟨#[]⟩) (n := 1) (by kernel_rfl) rfl rfl
instance : TRow Tryz.prog 9 1 16 := .of (by kernel_rfl)
-- type 10: runtime.errorString
instance : TSize Tryz.prog 10 1 := .of (by kernel_rfl)
instance : TOne Tryz.prog 10 := .of (by kernel_rfl)
instance : TStr Tryz.prog 10 := .of (by kernel_rfl)
instance : TConcrete Tryz.prog 10 := .of (by kernel_rfl)
instance : TZero Tryz.prog 10 [.string ⟨#[]⟩] := .of (v := .string ⟨#[]⟩) (n := 1) (by kernel_rfl) rfl rfl
instance : TRow Tryz.prog 10 1 16 := .of (by kernel_rfl)
-- type 11: runtime.plainError
instance : TSize Tryz.prog 11 1 := .of (by kernel_rfl)
instance : TOne Tryz.prog 11 := .of (by kernel_rfl)
instance : TStr Tryz.prog 11 := .of (by kernel_rfl)
instance : TConcrete Tryz.prog 11 := .of (by kernel_rfl)
instance : TZero Tryz.prog 11 [.string ⟨#[]⟩] := .of (v := .string ⟨#[]⟩) (n := 1) (by kernel_rfl) rfl rfl
instance : TRow Tryz.prog 11 1 16 := .of (by kernel_rfl)
-- type 12: uintptr
instance : TSize Tryz.prog 12 1 := .of (by kernel_rfl)
instance : TOne Tryz.prog 12 := .of (by kernel_rfl)
instance : TKind Tryz.prog 12 .u64 := .of (by kernel_rfl)
instance : TConcrete Tryz.prog 12 := .of (by kernel_rfl)
instance : TZero Tryz.prog 12 [.int .u64 0] := .of (v := .int .u64 0) (n := 1) (by kernel_rfl) rfl rfl
instance : TRow Tryz.prog 12 1 8 := .of (by kernel_rfl)
-- type 13: struct { msg string; addr uintptr }
instance : TSize Tryz.prog 13 2 := .of (by kernel_rfl)
instance : TAgg Tryz.prog 13 2 := .of (by kernel_rfl)
instance : TConcrete Tryz.prog 13 := .of (by kernel_rfl)
instance : TField Tryz.prog 13 0 0 := .of (by kernel_rfl)
instance : TField Tryz.prog 13 1 1 := .of (by kernel_rfl)
instance : TStruct Tryz.prog 13 [(0, 1), (1, 1)] := .of (by kernel_rfl)
instance : TZero Tryz.prog 13 [.string ⟨#[]⟩, .int .u64 0] := .of (v := .agg #[.string ⟨#[]⟩, .int .u64 0]) (n := 2) (by kernel_rfl) rfl rfl
instance : TRow Tryz.prog 13 2 24 := .of (by kernel_rfl)
-- type 14: runtime.errorAddressString
instance : TSize Tryz.prog 14 2 := .of (by kernel_rfl)
instance : TAgg Tryz.prog 14 2 := .of (by kernel_rfl)
instance : TConcrete Tryz.prog 14 := .of (by kernel_rfl)
instance : TField Tryz.prog 14 0 0 := .of (by kernel_rfl)
instance : TField Tryz.prog 14 1 1 := .of (by kernel_rfl)
instance : TStruct Tryz.prog 14 [(0, 1), (1, 1)] := .of (by kernel_rfl)
instance : TZero Tryz.prog 14 [.string ⟨#[]⟩, .int .u64 0] := .of (v := .agg #[.string ⟨#[]⟩, .int .u64 0]) (n := 2) (by kernel_rfl) rfl rfl
instance : TRow Tryz.prog 14 2 24 := .of (by kernel_rfl)
-- type 15: *runtime.TypeAssertionError
instance : TSize Tryz.prog 15 1 := .of (by kernel_rfl)
instance : TOne Tryz.prog 15 := .of (by kernel_rfl)
instance : TConcrete Tryz.prog 15 := .of (by kernel_rfl)
instance : TZero Tryz.prog 15 [.pointer none] := .of (v := .pointer none) (n := 1) (by kernel_rfl) rfl rfl
instance : TRow Tryz.prog 15 1 8 := .of (by kernel_rfl)
-- type 16: *runtime.PanicNilError
instance : TSize Tryz.prog 16 1 := .of (by kernel_rfl)
instance : TOne Tryz.prog 16 := .of (by kernel_rfl)
instance : TConcrete Tryz.prog 16 := .of (by kernel_rfl)
instance : TZero Tryz.prog 16 [.pointer none] := .of (v := .pointer none) (n := 1) (by kernel_rfl) rfl rfl
instance : TRow Tryz.prog 16 1 8 := .of (by kernel_rfl)
-- type 17: *abi.Type
instance : TSize Tryz.prog 17 1 := .of (by kernel_rfl)
instance : TOne Tryz.prog 17 := .of (by kernel_rfl)
instance : TConcrete Tryz.prog 17 := .of (by kernel_rfl)
instance : TZero Tryz.prog 17 [.pointer none] := .of (v := .pointer none) (n := 1) (by kernel_rfl) rfl rfl
instance : TRow Tryz.prog 17 1 8 := .of (by kernel_rfl)
-- type 18: struct { typ *abi.Type }
instance : TSize Tryz.prog 18 1 := .of (by kernel_rfl)
instance : TAgg Tryz.prog 18 1 := .of (by kernel_rfl)
instance : TConcrete Tryz.prog 18 := .of (by kernel_rfl)
instance : TField Tryz.prog 18 0 0 := .of (by kernel_rfl)
instance : TStruct Tryz.prog 18 [(0, 1)] := .of (by kernel_rfl)
instance : TZero Tryz.prog 18 [.pointer none] := .of (v := .agg #[.pointer none]) (n := 1) (by kernel_rfl) rfl rfl
instance : TRow Tryz.prog 18 1 8 := .of (by kernel_rfl)
-- type 19: maps.unhashableTypeError
instance : TSize Tryz.prog 19 1 := .of (by kernel_rfl)
instance : TAgg Tryz.prog 19 1 := .of (by kernel_rfl)
instance : TConcrete Tryz.prog 19 := .of (by kernel_rfl)
instance : TField Tryz.prog 19 0 0 := .of (by kernel_rfl)
instance : TStruct Tryz.prog 19 [(0, 1)] := .of (by kernel_rfl)
instance : TZero Tryz.prog 19 [.pointer none] := .of (v := .agg #[.pointer none]) (n := 1) (by kernel_rfl) rfl rfl
instance : TRow Tryz.prog 19 1 8 := .of (by kernel_rfl)
-- type 20: interface {}
instance : TSize Tryz.prog 20 1 := .of (by kernel_rfl)
instance : TOne Tryz.prog 20 := .of (by kernel_rfl)
instance : TZero Tryz.prog 20 [.nilIface] := .of (v := .nilIface) (n := 1) (by kernel_rfl) rfl rfl
instance : TRow Tryz.prog 20 1 16 := .of (by kernel_rfl)
-- type 21: int32
instance : TSize Tryz.prog 21 1 := .of (by kernel_rfl)
instance : TOne Tryz.prog 21 := .of (by kernel_rfl)
instance : TKind Tryz.prog 21 .i32 := .of (by kernel_rfl)
instance : TConcrete Tryz.prog 21 := .of (by kernel_rfl)
instance : TZero Tryz.prog 21 [.int .i32 0] := .of (v := .int .i32 0) (n := 1) (by kernel_rfl) rfl rfl
instance : TRow Tryz.prog 21 1 4 := .of (by kernel_rfl)
-- type 22: []string
instance : TSize Tryz.prog 22 1 := .of (by kernel_rfl)
instance : TOne Tryz.prog 22 := .of (by kernel_rfl)
instance : TSlice Tryz.prog 22 9 1 := .of (by kernel_rfl)
instance : TConcrete Tryz.prog 22 := .of (by kernel_rfl)
instance : TZero Tryz.prog 22 [.slice none 0 0] := .of (v := .slice none 0 0) (n := 1) (by kernel_rfl) rfl rfl
instance : TRow Tryz.prog 22 1 24 := .of (by kernel_rfl)
-- type 23: func() bool
instance : TSize Tryz.prog 23 1 := .of (by kernel_rfl)
instance : TOne Tryz.prog 23 := .of (by kernel_rfl)
instance : TConcrete Tryz.prog 23 := .of (by kernel_rfl)
instance : TZero Tryz.prog 23 [.nilFunc] := .of (v := .nilFunc) (n := 1) (by kernel_rfl) rfl rfl
instance : TRow Tryz.prog 23 1 8 := .of (by kernel_rfl)
-- type 24: func([]string) bool
instance : TSize Tryz.prog 24 1 := .of (by kernel_rfl)
instance : TOne Tryz.prog 24 := .of (by kernel_rfl)
instance : TConcrete Tryz.prog 24 := .of (by kernel_rfl)
instance : TZero Tryz.prog 24 [.nilFunc] := .of (v := .nilFunc) (n := 1) (by kernel_rfl) rfl rfl
instance : TRow Tryz.prog 24 1 8 := .of (by kernel_rfl)
-- type 25: func([]string) []string
instance : TSize Tryz.prog 25 1 := .of (by kernel_rfl)
instance : TOne Tryz.prog 25 := .of (by kernel_rfl)
instance : TConcrete Tryz.prog 25 := .of (by kernel_rfl)
instance : TZero Tryz.prog 25 [.nilFunc] := .of (v := .nilFunc) (n := 1) (by kernel_rfl) rfl rfl
instance : TRow Tryz.prog 25 1 8 := .of (by kernel_rfl)
-- type 26: func([]string, []string) bool
instance : TSize Tryz.prog 26 1 := .of (by kernel_rfl)
instance : TOne Tryz.prog 26 := .of (by kernel_rfl)
instance : TConcrete Tryz.prog 26 := .of (by kernel_rfl)
instance : TZero Tryz.prog 26 [.nilFunc] := .of (v := .nilFunc) (n := 1) (by kernel_rfl) rfl rfl
instance : TRow Tryz.prog 26 1 8 := .of (by kernel_rfl)
-- type 27: api.Errno
instance : TSize Tryz.prog 27 1 := .of (by kernel_rfl)
instance : TOne Tryz.prog 27 := .of (by kernel_rfl)
instance : TKind Tryz.prog 27 .i64 := .of (by kernel_rfl)
instance : TConcrete Tryz.prog 27 := .of (by kernel_rfl)
instance : TZero Tryz.prog 27 [.int .i64 0] := .of (v := .int .i64 0) (n := 1) (by kernel_rfl) rfl rfl
instance : TRow Tryz.prog 27 1 8 := .of (by kernel_rfl)
-- type 29: func(string) (string, api.Errno)
instance : TSize Tryz.prog 29 1 := .of (by kernel_rfl)
instance : TOne Tryz.prog 29 := .of (by kernel_rfl)
instance : TConcrete Tryz.prog 29 := .of (by kernel_rfl)
instance : TZero Tryz.prog 29 [.nilFunc] := .of (v := .nilFunc) (n := 1) (by kernel_rfl) rfl rfl
instance : TRow Tryz.prog 29 1 8 := .of (by kernel_rfl)
-- type 30: func([]string, string) string
instance : TSize Tryz.prog 30 1 := .of (by kernel_rfl)
instance : TOne Tryz.prog 30 := .of (by kernel_rfl)
instance : TConcrete Tryz.prog 30 := .of (by kernel_rfl)
instance : TZero Tryz.prog 30 [.nilFunc] := .of (v := .nilFunc) (n := 1) (by kernel_rfl) rfl rfl
instance : TRow Tryz.prog 30 1 8 := .of (by kernel_rfl)
-- type 31: func(string) []string
instance : TSize Tryz.prog 31 1 := .of (by kernel_rfl)
instance : TOne Tryz.prog 31 := .of (by kernel_rfl)
instance : TConcrete Tryz.prog 31 := .of (by kernel_rfl)
instance : TZero Tryz.prog 31 [.nilFunc] := .of (v := .nilFunc) (n := 1) (by kernel_rfl) rfl rfl
instance : TRow Tryz.prog 31 1 8 := .of (by kernel_rfl)
-- type 32: []api.Symbol
instance : TSize Tryz.prog 32 1 := .of (by kernel_rfl)
instance : TOne Tryz.prog 32 := .of (by kernel_rfl)
instance : TSlice Tryz.prog 32 75 2 := .of (by kernel_rfl)
instance : TConcrete Tryz.prog 32 := .of (by kernel_rfl)
instance : TZero Tryz.prog 32 [.slice none 0 0] := .of (v := .slice none 0 0) (n := 1) (by kernel_rfl) rfl rfl
instance : TRow Tryz.prog 32 1 24 := .of (by kernel_rfl)
-- type 34: func(string, int) (string, []api.Symbol, int, api.Errno)
instance : TSize Tryz.prog 34 1 := .of (by kernel_rfl)
instance : TOne Tryz.prog 34 := .of (by kernel_rfl)
instance : TConcrete Tryz.prog 34 := .of (by kernel_rfl)
instance : TZero Tryz.prog 34 [.nilFunc] := .of (v := .nilFunc) (n := 1) (by kernel_rfl) rfl rfl
instance : TRow Tryz.prog 34 1 8 := .of (by kernel_rfl)
-- type 35: func(string, int) string
instance : TSize Tryz.prog 35 1 := .of (by kernel_rfl)
instance : TOne Tryz.prog 35 := .of (by kernel_rfl)
instance : TConcrete Tryz.prog 35 := .of (by kernel_rfl)
instance : TZero Tryz.prog 35 [.nilFunc] := .of (v := .nilFunc) (n := 1) (by kernel_rfl) rfl rfl
instance : TRow Tryz.prog 35 1 8 := .of (by kernel_rfl)
-- type 36: func(string, bool) bool
instance : TSize Tryz.prog 36 1 := .of (by kernel_rfl)
instance : TOne Tryz.prog 36 := .of (by kernel_rfl)
instance : TConcrete Tryz.prog 36 := .of (by kernel_rfl)
instance : TZero Tryz.prog 36 [.nilFunc] := .of (v := .nilFunc) (n := 1) (by kernel_rfl) rfl rfl
instance : TRow Tryz.prog 36 1 8 := .of (by kernel_rfl)
-- type 37: [][2]uint32
instance : TSize Tryz.prog 37 1 := .of (by kernel_rfl)
instance : TOne Tryz.prog 37 := .of (by kernel_rfl)
instance : TSlice Tryz.prog 37 84 2 := .of (by kernel_rfl)
instance : TConcrete Tryz.prog 37 := .of (by kernel_rfl)
instance : TZero Tryz.prog 37 [.slice none 0 0] := .of (v := .slice none 0 0) (n := 1) (by kernel_rfl) rfl rfl
instance : TRow Tryz.prog 37 1 24 := .of (by kernel_rfl)
-- type 38: func([][2]uint32) []string
instance : TSize Tryz.prog 38 1 := .of (by kernel_rfl)
instance : TOne Tryz.prog 38 := .of (by kernel_rfl)
instance : TConcrete Tryz.prog 38 := .of (by kernel_rfl)
instance : TZero Tryz.prog 38 [.nilFunc] := .of (v := .nilFunc) (n := 1) (by kernel_rfl) rfl rfl
instance : TRow Tryz.prog 38 1 8 := .of (by kernel_rfl)
-- type 39: struct { Output string; Err api.Errno; Steps int }
instance : TSize Tryz.prog 39 3 := .of (by kernel_rfl)
instance : TAgg Tryz.prog 39 3 := .of (by kernel_rfl)
instance : TConcrete Tryz.prog 39 := .of (by kernel_rfl)
instance : TField Tryz.prog 39 0 0 := .of (by kernel_rfl)
instance : TField Tryz.prog 39 1 1 := .of (by kernel_rfl)
instance : TField Tryz.prog 39 2 2 := .of (by kernel_rfl)
instance : TStruct Tryz.prog 39 [(0, 1), (1, 1), (2, 1)] := .of (by kernel_rfl)
instance : TZero Tryz.prog 39 [.string ⟨#[]⟩, .int .i64 0, .int .i64 0] := .of (v := .agg #[.string ⟨#[]⟩, .int .i64 0, .int .i64 0]) (n := 3) (by kernel_rfl) rfl rfl
instance : TRow Tryz.prog 39 3 32 := .of (by kernel_rfl)
-- type 40: api.Outcome
instance : TSize Tryz.prog 40 3 := .of (by kernel_rfl)
instance : TAgg Tryz.prog 40 3 := .of (by kernel_rfl)
instance : TConcrete Tryz.prog 40 := .of (by kernel_rfl)
instance : TField Tryz.prog 40 0 0 := .of (by kernel_rfl)
instance : TField Tryz.prog 40 1 1 := .of (by kernel_rfl)
instance : TField Tryz.prog 40 2 2 := .of (by kernel_rfl)
instance : TStruct Tryz.prog 40 [(0, 1), (1, 1), (2, 1)] := .of (by kernel_rfl)
instance : TZero Tryz.prog 40 [.string ⟨#[]⟩, .int .i64 0, .int .i64 0] := .of (v := .agg #[.string ⟨#[]⟩, .int .i64 0, .int .i64 0]) (n := 3) (by kernel_rfl) rfl rfl
instance : TRow Tryz.prog 40 3 32 := .of (by kernel_rfl)
-- type 41: func(string, []uint32) api.Outcome
instance : TSize Tryz.prog 41 1 := .of (by kernel_rfl)
instance : TOne Tryz.prog 41 := .of (by kernel_rfl)
instance : TConcrete Tryz.prog 41 := .of (by kernel_rfl)
instance : TZero Tryz.prog 41 [.nilFunc] := .of (v := .nilFunc) (n := 1) (by kernel_rfl) rfl rfl
instance : TRow Tryz.prog 41 1 8 := .of (by kernel_rfl)
-- type 42: func([][2]uint32) bool
instance : TSize Tryz.prog 42 1 := .of (by kernel_rfl)
instance : TOne Tryz.prog 42 := .of (by kernel_rfl)
instance : TConcrete Tryz.prog 42 := .of (by kernel_rfl)
instance : TZero Tryz.prog 42 [.nilFunc] := .of (v := .nilFunc) (n := 1) (by kernel_rfl) rfl rfl
instance : TRow Tryz.prog 42 1 8 := .of (by kernel_rfl)
-- type 43: func(int) string
instance : TSize Tryz.prog 43 1 := .of (by kernel_rfl)
instance : TOne Tryz.prog 43 := .of (by kernel_rfl)
instance : TConcrete Tryz.prog 43 := .of (by kernel_rfl)
instance : TZero Tryz.prog 43 [.nilFunc] := .of (v := .nilFunc) (n := 1) (by kernel_rfl) rfl rfl
instance : TRow Tryz.prog 43 1 8 := .of (by kernel_rfl)
-- type 44: func(uint8, uint8, uint8) bool
instance : TSize Tryz.prog 44 1 := .of (by kernel_rfl)
instance : TOne Tryz.prog 44 := .of (by kernel_rfl)
instance : TConcrete Tryz.prog 44 := .of (by kernel_rfl)
instance : TZero Tryz.prog 44 [.nilFunc] := .of (v := .nilFunc) (n := 1) (by kernel_rfl) rfl rfl
instance : TRow Tryz.prog 44 1 8 := .of (by kernel_rfl)
-- type 45: map[string]bool
instance : TSize Tryz.prog 45 1 := .of (by kernel_rfl)
instance : TOne Tryz.prog 45 := .of (by kernel_rfl)
instance : TConcrete Tryz.prog 45 := .of (by kernel_rfl)
instance : TZero Tryz.prog 45 [.map none] := .of (v := .map none) (n := 1) (by kernel_rfl) rfl rfl
instance : TRow Tryz.prog 45 1 8 := .of (by kernel_rfl)
-- type 47: func(string) (string, bool)
instance : TSize Tryz.prog 47 1 := .of (by kernel_rfl)
instance : TOne Tryz.prog 47 := .of (by kernel_rfl)
instance : TConcrete Tryz.prog 47 := .of (by kernel_rfl)
instance : TZero Tryz.prog 47 [.nilFunc] := .of (v := .nilFunc) (n := 1) (by kernel_rfl) rfl rfl
instance : TRow Tryz.prog 47 1 8 := .of (by kernel_rfl)
-- type 48: func(peephole.view) (int, []string)
instance : TSize Tryz.prog 48 1 := .of (by kernel_rfl)
instance : TOne Tryz.prog 48 := .of (by kernel_rfl)
instance : TConcrete Tryz.prog 48 := .of (by kernel_rfl)
instance : TZero Tryz.prog 48 [.nilFunc] := .of (v := .nilFunc) (n := 1) (by kernel_rfl) rfl rfl
instance : TRow Tryz.prog 48 1 8 := .of (by kernel_rfl)
-- type 49: []peephole.rule
instance : TSize Tryz.prog 49 1 := .of (by kernel_rfl)
instance : TOne Tryz.prog 49 := .of (by kernel_rfl)
instance : TSlice Tryz.prog 49 50 1 := .of (by kernel_rfl)
instance : TConcrete Tryz.prog 49 := .of (by kernel_rfl)
instance : TZero Tryz.prog 49 [.slice none 0 0] := .of (v := .slice none 0 0) (n := 1) (by kernel_rfl) rfl rfl
instance : TRow Tryz.prog 49 1 24 := .of (by kernel_rfl)
-- type 50: peephole.rule
instance : TSize Tryz.prog 50 1 := .of (by kernel_rfl)
instance : TOne Tryz.prog 50 := .of (by kernel_rfl)
instance : TConcrete Tryz.prog 50 := .of (by kernel_rfl)
instance : TZero Tryz.prog 50 [.nilFunc] := .of (v := .nilFunc) (n := 1) (by kernel_rfl) rfl rfl
instance : TRow Tryz.prog 50 1 8 := .of (by kernel_rfl)
-- type 52: struct { words []string; used map[string]bool }
instance : TSize Tryz.prog 52 2 := .of (by kernel_rfl)
instance : TAgg Tryz.prog 52 2 := .of (by kernel_rfl)
instance : TConcrete Tryz.prog 52 := .of (by kernel_rfl)
instance : TField Tryz.prog 52 0 0 := .of (by kernel_rfl)
instance : TField Tryz.prog 52 1 1 := .of (by kernel_rfl)
instance : TStruct Tryz.prog 52 [(0, 1), (1, 1)] := .of (by kernel_rfl)
instance : TZero Tryz.prog 52 [.slice none 0 0, .map none] := .of (v := .agg #[.slice none 0 0, .map none]) (n := 2) (by kernel_rfl) rfl rfl
instance : TRow Tryz.prog 52 2 32 := .of (by kernel_rfl)
-- type 53: peephole.view
instance : TSize Tryz.prog 53 2 := .of (by kernel_rfl)
instance : TAgg Tryz.prog 53 2 := .of (by kernel_rfl)
instance : TConcrete Tryz.prog 53 := .of (by kernel_rfl)
instance : TField Tryz.prog 53 0 0 := .of (by kernel_rfl)
instance : TField Tryz.prog 53 1 1 := .of (by kernel_rfl)
instance : TStruct Tryz.prog 53 [(0, 1), (1, 1)] := .of (by kernel_rfl)
instance : TZero Tryz.prog 53 [.slice none 0 0, .map none] := .of (v := .agg #[.slice none 0 0, .map none]) (n := 2) (by kernel_rfl) rfl rfl
instance : TRow Tryz.prog 53 2 32 := .of (by kernel_rfl)
-- type 54: func([]string, int) (int, []string)
instance : TSize Tryz.prog 54 1 := .of (by kernel_rfl)
instance : TOne Tryz.prog 54 := .of (by kernel_rfl)
instance : TConcrete Tryz.prog 54 := .of (by kernel_rfl)
instance : TZero Tryz.prog 54 [.nilFunc] := .of (v := .nilFunc) (n := 1) (by kernel_rfl) rfl rfl
instance : TRow Tryz.prog 54 1 8 := .of (by kernel_rfl)
-- type 55: *strings.Builder
instance : TSize Tryz.prog 55 1 := .of (by kernel_rfl)
instance : TOne Tryz.prog 55 := .of (by kernel_rfl)
instance : TConcrete Tryz.prog 55 := .of (by kernel_rfl)
instance : TZero Tryz.prog 55 [.pointer none] := .of (v := .pointer none) (n := 1) (by kernel_rfl) rfl rfl
instance : TRow Tryz.prog 55 1 8 := .of (by kernel_rfl)
-- type 56: []uint8
instance : TSize Tryz.prog 56 1 := .of (by kernel_rfl)
instance : TOne Tryz.prog 56 := .of (by kernel_rfl)
instance : TSlice Tryz.prog 56 5 1 := .of (by kernel_rfl)
instance : TConcrete Tryz.prog 56 := .of (by kernel_rfl)
instance : TZero Tryz.prog 56 [.slice none 0 0] := .of (v := .slice none 0 0) (n := 1) (by kernel_rfl) rfl rfl
instance : TRow Tryz.prog 56 1 24 := .of (by kernel_rfl)
-- type 57: struct { addr *strings.Builder; buf []uint8 }
instance : TSize Tryz.prog 57 2 := .of (by kernel_rfl)
instance : TAgg Tryz.prog 57 2 := .of (by kernel_rfl)
instance : TConcrete Tryz.prog 57 := .of (by kernel_rfl)
instance : TField Tryz.prog 57 0 0 := .of (by kernel_rfl)
instance : TField Tryz.prog 57 1 1 := .of (by kernel_rfl)
instance : TStruct Tryz.prog 57 [(0, 1), (1, 1)] := .of (by kernel_rfl)
instance : TZero Tryz.prog 57 [.pointer none, .slice none 0 0] := .of (v := .agg #[.pointer none, .slice none 0 0]) (n := 2) (by kernel_rfl) rfl rfl
instance : TRow Tryz.prog 57 2 32 := .of (by kernel_rfl)
-- type 58: strings.Builder
instance : TSize Tryz.prog 58 2 := .of (by kernel_rfl)
instance : TAgg Tryz.prog 58 2 := .of (by kernel_rfl)
instance : TConcrete Tryz.prog 58 := .of (by kernel_rfl)
instance : TField Tryz.prog 58 0 0 := .of (by kernel_rfl)
instance : TField Tryz.prog 58 1 1 := .of (by kernel_rfl)
instance : TStruct Tryz.prog 58 [(0, 1), (1, 1)] := .of (by kernel_rfl)
instance : TZero Tryz.prog 58 [.pointer none, .slice none 0 0] := .of (v := .agg #[.pointer none, .slice none 0 0]) (n := 2) (by kernel_rfl) rfl rfl
instance : TRow Tryz.prog 58 2 32 := .of (by kernel_rfl)
-- type 59: func(int)
instance : TSize Tryz.prog 59 1 := .of (by kernel_rfl)
instance : TOne Tryz.prog 59 := .of (by kernel_rfl)
instance : TConcrete Tryz.prog 59 := .of (by kernel_rfl)
instance : TZero Tryz.prog 59 [.nilFunc] := .of (v := .nilFunc) (n := 1) (by kernel_rfl) rfl rfl
instance : TRow Tryz.prog 59 1 8 := .of (by kernel_rfl)
-- type 60: interface { Error() string }
instance : TSize Tryz.prog 60 1 := .of (by kernel_rfl)
instance : TOne Tryz.prog 60 := .of (by kernel_rfl)
instance : TZero Tryz.prog 60 [.nilIface] := .of (v := .nilIface) (n := 1) (by kernel_rfl) rfl rfl
instance : TRow Tryz.prog 60 1 16 := .of (by kernel_rfl)
-- type 61: error
instance : TSize Tryz.prog 61 1 := .of (by kernel_rfl)
instance : TOne Tryz.prog 61 := .of (by kernel_rfl)
instance : TZero Tryz.prog 61 [.nilIface] := .of (v := .nilIface) (n := 1) (by kernel_rfl) rfl rfl
instance : TRow Tryz.prog 61 1 16 := .of (by kernel_rfl)
-- type 63: func(string) (int, error)
instance : TSize Tryz.prog 63 1 := .of (by kernel_rfl)
instance : TOne Tryz.prog 63 := .of (by kernel_rfl)
instance : TConcrete Tryz.prog 63 := .of (by kernel_rfl)
instance : TZero Tryz.prog 63 [.nilFunc] := .of (v := .nilFunc) (n := 1) (by kernel_rfl) rfl rfl
instance : TRow Tryz.prog 63 1 8 := .of (by kernel_rfl)
-- type 64: func() string
instance : TSize Tryz.prog 64 1 := .of (by kernel_rfl)
instance : TOne Tryz.prog 64 := .of (by kernel_rfl)
instance : TConcrete Tryz.prog 64 := .of (by kernel_rfl)
instance : TZero Tryz.prog 64 [.nilFunc] := .of (v := .nilFunc) (n := 1) (by kernel_rfl) rfl rfl
instance : TRow Tryz.prog 64 1 8 := .of (by kernel_rfl)
-- type 65: []assembler.token
instance : TSize Tryz.prog 65 1 := .of (by kernel_rfl)
instance : TOne Tryz.prog 65 := .of (by kernel_rfl)
instance : TSlice Tryz.prog 65 68 2 := .of (by kernel_rfl)
instance : TConcrete Tryz.prog 65 := .of (by kernel_rfl)
instance : TZero Tryz.prog 65 [.slice none 0 0] := .of (v := .slice none 0 0) (n := 1) (by kernel_rfl) rfl rfl
instance : TRow Tryz.prog 65 1 24 := .of (by kernel_rfl)
-- type 66: func(string) []assembler.token
instance : TSize Tryz.prog 66 1 := .of (by kernel_rfl)
instance : TOne Tryz.prog 66 := .of (by kernel_rfl)
instance : TConcrete Tryz.prog 66 := .of (by kernel_rfl)
instance : TZero Tryz.prog 66 [.nilFunc] := .of (v := .nilFunc) (n := 1) (by kernel_rfl) rfl rfl
instance : TRow Tryz.prog 66 1 8 := .of (by kernel_rfl)
-- type 67: struct { text string; line int }
instance : TSize Tryz.prog 67 2 := .of (by kernel_rfl)
instance : TAgg Tryz.prog 67 2 := .of (by kernel_rfl)
instance : TConcrete Tryz.prog 67 := .of (by kernel_rfl)
instance : TField Tryz.prog 67 0 0 := .of (by kernel_rfl)
instance : TField Tryz.prog 67 1 1 := .of (by kernel_rfl)
instance : TStruct Tryz.prog 67 [(0, 1), (1, 1)] := .of (by kernel_rfl)
instance : TZero Tryz.prog 67 [.string ⟨#[]⟩, .int .i64 0] := .of (v := .agg #[.string ⟨#[]⟩, .int .i64 0]) (n := 2) (by kernel_rfl) rfl rfl
instance : TRow Tryz.prog 67 2 24 := .of (by kernel_rfl)
-- type 68: assembler.token
instance : TSize Tryz.prog 68 2 := .of (by kernel_rfl)
instance : TAgg Tryz.prog 68 2 := .of (by kernel_rfl)
instance : TConcrete Tryz.prog 68 := .of (by kernel_rfl)
instance : TField Tryz.prog 68 0 0 := .of (by kernel_rfl)
instance : TField Tryz.prog 68 1 1 := .of (by kernel_rfl)
instance : TStruct Tryz.prog 68 [(0, 1), (1, 1)] := .of (by kernel_rfl)
instance : TZero Tryz.prog 68 [.string ⟨#[]⟩, .int .i64 0] := .of (v := .agg #[.string ⟨#[]⟩, .int .i64 0]) (n := 2) (by kernel_rfl) rfl rfl
instance : TRow Tryz.prog 68 2 24 := .of (by kernel_rfl)
-- type 70: func([]assembler.token) (int, api.Errno)
instance : TSize Tryz.prog 70 1 := .of (by kernel_rfl)
instance : TOne Tryz.prog 70 := .of (by kernel_rfl)
instance : TConcrete Tryz.prog 70 := .of (by kernel_rfl)
instance : TZero Tryz.prog 70 [.nilFunc] := .of (v := .nilFunc) (n := 1) (by kernel_rfl) rfl rfl
instance : TRow Tryz.prog 70 1 8 := .of (by kernel_rfl)
-- type 72: func([]assembler.token, int, map[string]int) (string, []api.Symbol)
instance : TSize Tryz.prog 72 1 := .of (by kernel_rfl)
instance : TOne Tryz.prog 72 := .of (by kernel_rfl)
instance : TConcrete Tryz.prog 72 := .of (by kernel_rfl)
instance : TZero Tryz.prog 72 [.nilFunc] := .of (v := .nilFunc) (n := 1) (by kernel_rfl) rfl rfl
instance : TRow Tryz.prog 72 1 8 := .of (by kernel_rfl)
-- type 73: map[string]int
instance : TSize Tryz.prog 73 1 := .of (by kernel_rfl)
instance : TOne Tryz.prog 73 := .of (by kernel_rfl)
instance : TConcrete Tryz.prog 73 := .of (by kernel_rfl)
instance : TZero Tryz.prog 73 [.map none] := .of (v := .map none) (n := 1) (by kernel_rfl) rfl rfl
instance : TRow Tryz.prog 73 1 8 := .of (by kernel_rfl)
-- type 74: struct { Name string; At int }
instance : TSize Tryz.prog 74 2 := .of (by kernel_rfl)
instance : TAgg Tryz.prog 74 2 := .of (by kernel_rfl)
instance : TConcrete Tryz.prog 74 := .of (by kernel_rfl)
instance : TField Tryz.prog 74 0 0 := .of (by kernel_rfl)
instance : TField Tryz.prog 74 1 1 := .of (by kernel_rfl)
instance : TStruct Tryz.prog 74 [(0, 1), (1, 1)] := .of (by kernel_rfl)
instance : TZero Tryz.prog 74 [.string ⟨#[]⟩, .int .i64 0] := .of (v := .agg #[.string ⟨#[]⟩, .int .i64 0]) (n := 2) (by kernel_rfl) rfl rfl
instance : TRow Tryz.prog 74 2 24 := .of (by kernel_rfl)
-- type 75: api.Symbol
instance : TSize Tryz.prog 75 2 := .of (by kernel_rfl)
instance : TAgg Tryz.prog 75 2 := .of (by kernel_rfl)
instance : TConcrete Tryz.prog 75 := .of (by kernel_rfl)
instance : TField Tryz.prog 75 0 0 := .of (by kernel_rfl)
instance : TField Tryz.prog 75 1 1 := .of (by kernel_rfl)
instance : TStruct Tryz.prog 75 [(0, 1), (1, 1)] := .of (by kernel_rfl)
instance : TZero Tryz.prog 75 [.string ⟨#[]⟩, .int .i64 0] := .of (v := .agg #[.string ⟨#[]⟩, .int .i64 0]) (n := 2) (by kernel_rfl) rfl rfl
instance : TRow Tryz.prog 75 2 24 := .of (by kernel_rfl)
-- type 76: uint
instance : TSize Tryz.prog 76 1 := .of (by kernel_rfl)
instance : TOne Tryz.prog 76 := .of (by kernel_rfl)
instance : TKind Tryz.prog 76 .u64 := .of (by kernel_rfl)
instance : TConcrete Tryz.prog 76 := .of (by kernel_rfl)
instance : TZero Tryz.prog 76 [.int .u64 0] := .of (v := .int .u64 0) (n := 1) (by kernel_rfl) rfl rfl
instance : TRow Tryz.prog 76 1 8 := .of (by kernel_rfl)
-- type 78: func(uint, uint) (uint, uint)
instance : TSize Tryz.prog 78 1 := .of (by kernel_rfl)
instance : TOne Tryz.prog 78 := .of (by kernel_rfl)
instance : TConcrete Tryz.prog 78 := .of (by kernel_rfl)
instance : TZero Tryz.prog 78 [.nilFunc] := .of (v := .nilFunc) (n := 1) (by kernel_rfl) rfl rfl
instance : TRow Tryz.prog 78 1 8 := .of (by kernel_rfl)
-- type 79: func(string, string) bool
instance : TSize Tryz.prog 79 1 := .of (by kernel_rfl)
instance : TOne Tryz.prog 79 := .of (by kernel_rfl)
instance : TConcrete Tryz.prog 79 := .of (by kernel_rfl)
instance : TZero Tryz.prog 79 [.nilFunc] := .of (v := .nilFunc) (n := 1) (by kernel_rfl) rfl rfl
instance : TRow Tryz.prog 79 1 8 := .of (by kernel_rfl)
-- type 80: func() int
instance : TSize Tryz.prog 80 1 := .of (by kernel_rfl)
instance : TOne Tryz.prog 80 := .of (by kernel_rfl)
instance : TConcrete Tryz.prog 80 := .of (by kernel_rfl)
instance : TZero Tryz.prog 80 [.nilFunc] := .of (v := .nilFunc) (n := 1) (by kernel_rfl) rfl rfl
instance : TRow Tryz.prog 80 1 8 := .of (by kernel_rfl)
-- type 81: func(uint64, int) string
instance : TSize Tryz.prog 81 1 := .of (by kernel_rfl)
instance : TOne Tryz.prog 81 := .of (by kernel_rfl)
instance : TConcrete Tryz.prog 81 := .of (by kernel_rfl)
instance : TZero Tryz.prog 81 [.nilFunc] := .of (v := .nilFunc) (n := 1) (by kernel_rfl) rfl rfl
instance : TRow Tryz.prog 81 1 8 := .of (by kernel_rfl)
-- type 82: uint64
instance : TSize Tryz.prog 82 1 := .of (by kernel_rfl)
instance : TOne Tryz.prog 82 := .of (by kernel_rfl)
instance : TKind Tryz.prog 82 .u64 := .of (by kernel_rfl)
instance : TConcrete Tryz.prog 82 := .of (by kernel_rfl)
instance : TZero Tryz.prog 82 [.int .u64 0] := .of (v := .int .u64 0) (n := 1) (by kernel_rfl) rfl rfl
instance : TRow Tryz.prog 82 1 8 := .of (by kernel_rfl)
-- type 83: uint32
instance : TSize Tryz.prog 83 1 := .of (by kernel_rfl)
instance : TOne Tryz.prog 83 := .of (by kernel_rfl)
instance : TKind Tryz.prog 83 .u32 := .of (by kernel_rfl)
instance : TConcrete Tryz.prog 83 := .of (by kernel_rfl)
instance : TZero Tryz.prog 83 [.int .u32 0] := .of (v := .int .u32 0) (n := 1) (by kernel_rfl) rfl rfl
instance : TRow Tryz.prog 83 1 4 := .of (by kernel_rfl)
-- type 84: [2]uint32
instance : TSize Tryz.prog 84 2 := .of (by kernel_rfl)
instance : TAgg Tryz.prog 84 2 := .of (by kernel_rfl)
instance : TConcrete Tryz.prog 84 := .of (by kernel_rfl)
instance : TZero Tryz.prog 84 [.int .u32 0, .int .u32 0] := .of (v := .agg #[.int .u32 0, .int .u32 0]) (n := 2) (by kernel_rfl) rfl rfl
instance : TRow Tryz.prog 84 2 8 := .of (by kernel_rfl)
-- type 85: []uint32
instance : TSize Tryz.prog 85 1 := .of (by kernel_rfl)
instance : TOne Tryz.prog 85 := .of (by kernel_rfl)
instance : TSlice Tryz.prog 85 83 1 := .of (by kernel_rfl)
instance : TConcrete Tryz.prog 85 := .of (by kernel_rfl)
instance : TZero Tryz.prog 85 [.slice none 0 0] := .of (v := .slice none 0 0) (n := 1) (by kernel_rfl) rfl rfl
instance : TRow Tryz.prog 85 1 24 := .of (by kernel_rfl)
-- type 86: struct { Code int; Scalars int; Arrays int }
instance : TSize Tryz.prog 86 3 := .of (by kernel_rfl)
instance : TAgg Tryz.prog 86 3 := .of (by kernel_rfl)
instance : TConcrete Tryz.prog 86 := .of (by kernel_rfl)
instance : TField Tryz.prog 86 0 0 := .of (by kernel_rfl)
instance : TField Tryz.prog 86 1 1 := .of (by kernel_rfl)
instance : TField Tryz.prog 86 2 2 := .of (by kernel_rfl)
instance : TStruct Tryz.prog 86 [(0, 1), (1, 1), (2, 1)] := .of (by kernel_rfl)
instance : TZero Tryz.prog 86 [.int .i64 0, .int .i64 0, .int .i64 0] := .of (v := .agg #[.int .i64 0, .int .i64 0, .int .i64 0]) (n := 3) (by kernel_rfl) rfl rfl
instance : TRow Tryz.prog 86 3 24 := .of (by kernel_rfl)
-- type 87: api.Origins
instance : TSize Tryz.prog 87 3 := .of (by kernel_rfl)
instance : TAgg Tryz.prog 87 3 := .of (by kernel_rfl)
instance : TConcrete Tryz.prog 87 := .of (by kernel_rfl)
instance : TField Tryz.prog 87 0 0 := .of (by kernel_rfl)
instance : TField Tryz.prog 87 1 1 := .of (by kernel_rfl)
instance : TField Tryz.prog 87 2 2 := .of (by kernel_rfl)
instance : TStruct Tryz.prog 87 [(0, 1), (1, 1), (2, 1)] := .of (by kernel_rfl)
instance : TZero Tryz.prog 87 [.int .i64 0, .int .i64 0, .int .i64 0] := .of (v := .agg #[.int .i64 0, .int .i64 0, .int .i64 0]) (n := 3) (by kernel_rfl) rfl rfl
instance : TRow Tryz.prog 87 3 24 := .of (by kernel_rfl)
-- type 88: func() api.Origins
instance : TSize Tryz.prog 88 1 := .of (by kernel_rfl)
instance : TOne Tryz.prog 88 := .of (by kernel_rfl)
instance : TConcrete Tryz.prog 88 := .of (by kernel_rfl)
instance : TZero Tryz.prog 88 [.nilFunc] := .of (v := .nilFunc) (n := 1) (by kernel_rfl) rfl rfl
instance : TRow Tryz.prog 88 1 8 := .of (by kernel_rfl)
-- type 89: func([]api.Text, int, []uint32, int) api.Outcome
instance : TSize Tryz.prog 89 1 := .of (by kernel_rfl)
instance : TOne Tryz.prog 89 := .of (by kernel_rfl)
instance : TConcrete Tryz.prog 89 := .of (by kernel_rfl)
instance : TZero Tryz.prog 89 [.nilFunc] := .of (v := .nilFunc) (n := 1) (by kernel_rfl) rfl rfl
instance : TRow Tryz.prog 89 1 8 := .of (by kernel_rfl)
-- type 90: struct { At int; Code string }
instance : TSize Tryz.prog 90 2 := .of (by kernel_rfl)
instance : TAgg Tryz.prog 90 2 := .of (by kernel_rfl)
instance : TConcrete Tryz.prog 90 := .of (by kernel_rfl)
instance : TField Tryz.prog 90 0 0 := .of (by kernel_rfl)
instance : TField Tryz.prog 90 1 1 := .of (by kernel_rfl)
instance : TStruct Tryz.prog 90 [(0, 1), (1, 1)] := .of (by kernel_rfl)
instance : TZero Tryz.prog 90 [.int .i64 0, .string ⟨#[]⟩] := .of (v := .agg #[.int .i64 0, .string ⟨#[]⟩]) (n := 2) (by kernel_rfl) rfl rfl
instance : TRow Tryz.prog 90 2 24 := .of (by kernel_rfl)
-- type 91: api.Text
instance : TSize Tryz.prog 91 2 := .of (by kernel_rfl)
instance : TAgg Tryz.prog 91 2 := .of (by kernel_rfl)
instance : TConcrete Tryz.prog 91 := .of (by kernel_rfl)
instance : TField Tryz.prog 91 0 0 := .of (by kernel_rfl)
instance : TField Tryz.prog 91 1 1 := .of (by kernel_rfl)
instance : TStruct Tryz.prog 91 [(0, 1), (1, 1)] := .of (by kernel_rfl)
instance : TZero Tryz.prog 91 [.int .i64 0, .string ⟨#[]⟩] := .of (v := .agg #[.int .i64 0, .string ⟨#[]⟩]) (n := 2) (by kernel_rfl) rfl rfl
instance : TRow Tryz.prog 91 2 24 := .of (by kernel_rfl)
-- type 92: []api.Text
instance : TSize Tryz.prog 92 1 := .of (by kernel_rfl)
instance : TOne Tryz.prog 92 := .of (by kernel_rfl)
instance : TSlice Tryz.prog 92 91 2 := .of (by kernel_rfl)
instance : TConcrete Tryz.prog 92 := .of (by kernel_rfl)
instance : TZero Tryz.prog 92 [.slice none 0 0] := .of (v := .slice none 0 0) (n := 1) (by kernel_rfl) rfl rfl
instance : TRow Tryz.prog 92 1 24 := .of (by kernel_rfl)
-- type 93: func(string, string) (string, bool)
instance : TSize Tryz.prog 93 1 := .of (by kernel_rfl)
instance : TOne Tryz.prog 93 := .of (by kernel_rfl)
instance : TConcrete Tryz.prog 93 := .of (by kernel_rfl)
instance : TZero Tryz.prog 93 [.nilFunc] := .of (v := .nilFunc) (n := 1) (by kernel_rfl) rfl rfl
instance : TRow Tryz.prog 93 1 8 := .of (by kernel_rfl)
-- type 94: func(string) bool
instance : TSize Tryz.prog 94 1 := .of (by kernel_rfl)
instance : TOne Tryz.prog 94 := .of (by kernel_rfl)
instance : TConcrete Tryz.prog 94 := .of (by kernel_rfl)
instance : TZero Tryz.prog 94 [.nilFunc] := .of (v := .nilFunc) (n := 1) (by kernel_rfl) rfl rfl
instance : TRow Tryz.prog 94 1 8 := .of (by kernel_rfl)
-- type 95: func(string, string, string) (string, bool)
instance : TSize Tryz.prog 95 1 := .of (by kernel_rfl)
instance : TOne Tryz.prog 95 := .of (by kernel_rfl)
instance : TConcrete Tryz.prog 95 := .of (by kernel_rfl)
instance : TZero Tryz.prog 95 [.nilFunc] := .of (v := .nilFunc) (n := 1) (by kernel_rfl) rfl rfl
instance : TRow Tryz.prog 95 1 8 := .of (by kernel_rfl)
-- type 97: func(string) (uint32, bool)
instance : TSize Tryz.prog 97 1 := .of (by kernel_rfl)
instance : TOne Tryz.prog 97 := .of (by kernel_rfl)
instance : TConcrete Tryz.prog 97 := .of (by kernel_rfl)
instance : TZero Tryz.prog 97 [.nilFunc] := .of (v := .nilFunc) (n := 1) (by kernel_rfl) rfl rfl
instance : TRow Tryz.prog 97 1 8 := .of (by kernel_rfl)
-- type 98: func(int, ...string) bool
instance : TSize Tryz.prog 98 1 := .of (by kernel_rfl)
instance : TOne Tryz.prog 98 := .of (by kernel_rfl)
instance : TConcrete Tryz.prog 98 := .of (by kernel_rfl)
instance : TZero Tryz.prog 98 [.nilFunc] := .of (v := .nilFunc) (n := 1) (by kernel_rfl) rfl rfl
instance : TRow Tryz.prog 98 1 8 := .of (by kernel_rfl)
-- type 99: func(int) (string, bool)
instance : TSize Tryz.prog 99 1 := .of (by kernel_rfl)
instance : TOne Tryz.prog 99 := .of (by kernel_rfl)
instance : TConcrete Tryz.prog 99 := .of (by kernel_rfl)
instance : TZero Tryz.prog 99 [.nilFunc] := .of (v := .nilFunc) (n := 1) (by kernel_rfl) rfl rfl
instance : TRow Tryz.prog 99 1 8 := .of (by kernel_rfl)
-- type 100: func([]string, int) string
instance : TSize Tryz.prog 100 1 := .of (by kernel_rfl)
instance : TOne Tryz.prog 100 := .of (by kernel_rfl)
instance : TConcrete Tryz.prog 100 := .of (by kernel_rfl)
instance : TZero Tryz.prog 100 [.nilFunc] := .of (v := .nilFunc) (n := 1) (by kernel_rfl) rfl rfl
instance : TRow Tryz.prog 100 1 8 := .of (by kernel_rfl)
-- type 101: func(string) string
instance : TSize Tryz.prog 101 1 := .of (by kernel_rfl)
instance : TOne Tryz.prog 101 := .of (by kernel_rfl)
instance : TConcrete Tryz.prog 101 := .of (by kernel_rfl)
instance : TZero Tryz.prog 101 [.nilFunc] := .of (v := .nilFunc) (n := 1) (by kernel_rfl) rfl rfl
instance : TRow Tryz.prog 101 1 8 := .of (by kernel_rfl)
-- type 102: func([]string, int) bool
instance : TSize Tryz.prog 102 1 := .of (by kernel_rfl)
instance : TOne Tryz.prog 102 := .of (by kernel_rfl)
instance : TConcrete Tryz.prog 102 := .of (by kernel_rfl)
instance : TZero Tryz.prog 102 [.nilFunc] := .of (v := .nilFunc) (n := 1) (by kernel_rfl) rfl rfl
instance : TRow Tryz.prog 102 1 8 := .of (by kernel_rfl)
-- type 103: *uint8
instance : TSize Tryz.prog 103 1 := .of (by kernel_rfl)
instance : TOne Tryz.prog 103 := .of (by kernel_rfl)
instance : TConcrete Tryz.prog 103 := .of (by kernel_rfl)
instance : TZero Tryz.prog 103 [.pointer none] := .of (v := .pointer none) (n := 1) (by kernel_rfl) rfl rfl
instance : TRow Tryz.prog 103 1 8 := .of (by kernel_rfl)
-- type 104: func(string, string) []string
instance : TSize Tryz.prog 104 1 := .of (by kernel_rfl)
instance : TOne Tryz.prog 104 := .of (by kernel_rfl)
instance : TConcrete Tryz.prog 104 := .of (by kernel_rfl)
instance : TZero Tryz.prog 104 [.nilFunc] := .of (v := .nilFunc) (n := 1) (by kernel_rfl) rfl rfl
instance : TRow Tryz.prog 104 1 8 := .of (by kernel_rfl)
-- type 106: func(string, string) (string, string, bool)
instance : TSize Tryz.prog 106 1 := .of (by kernel_rfl)
instance : TOne Tryz.prog 106 := .of (by kernel_rfl)
instance : TConcrete Tryz.prog 106 := .of (by kernel_rfl)
instance : TZero Tryz.prog 106 [.nilFunc] := .of (v := .nilFunc) (n := 1) (by kernel_rfl) rfl rfl
instance : TRow Tryz.prog 106 1 8 := .of (by kernel_rfl)
-- type 107: func() (string, bool)
instance : TSize Tryz.prog 107 1 := .of (by kernel_rfl)
instance : TOne Tryz.prog 107 := .of (by kernel_rfl)
instance : TConcrete Tryz.prog 107 := .of (by kernel_rfl)
instance : TZero Tryz.prog 107 [.nilFunc] := .of (v := .nilFunc) (n := 1) (by kernel_rfl) rfl rfl
instance : TRow Tryz.prog 107 1 8 := .of (by kernel_rfl)
-- type 108: func(uint8) bool
instance : TSize Tryz.prog 108 1 := .of (by kernel_rfl)
instance : TOne Tryz.prog 108 := .of (by kernel_rfl)
instance : TConcrete Tryz.prog 108 := .of (by kernel_rfl)
instance : TZero Tryz.prog 108 [.nilFunc] := .of (v := .nilFunc) (n := 1) (by kernel_rfl) rfl rfl
instance : TRow Tryz.prog 108 1 8 := .of (by kernel_rfl)
-- type 109: func(uint8) error
instance : TSize Tryz.prog 109 1 := .of (by kernel_rfl)
instance : TOne Tryz.prog 109 := .of (by kernel_rfl)
instance : TConcrete Tryz.prog 109 := .of (by kernel_rfl)
instance : TZero Tryz.prog 109 [.nilFunc] := .of (v := .nilFunc) (n := 1) (by kernel_rfl) rfl rfl
instance : TRow Tryz.prog 109 1 8 := .of (by kernel_rfl)
-- type 111: func(uint32, uint32) (uint32, uint32)
instance : TSize Tryz.prog 111 1 := .of (by kernel_rfl)
instance : TOne Tryz.prog 111 := .of (by kernel_rfl)
instance : TConcrete Tryz.prog 111 := .of (by kernel_rfl)
instance : TZero Tryz.prog 111 [.nilFunc] := .of (v := .nilFunc) (n := 1) (by kernel_rfl) rfl rfl
instance : TRow Tryz.prog 111 1 8 := .of (by kernel_rfl)
-- type 113: func(uint64, uint64) (uint64, uint64)
instance : TSize Tryz.prog 113 1 := .of (by kernel_rfl)
instance : TOne Tryz.prog 113 := .of (by kernel_rfl)
instance : TConcrete Tryz.prog 113 := .of (by kernel_rfl)
instance : TZero Tryz.prog 113 [.nilFunc] := .of (v := .nilFunc) (n := 1) (by kernel_rfl) rfl rfl
instance : TRow Tryz.prog 113 1 8 := .of (by kernel_rfl)
-- type 114: []steleref18.Word
instance : TSize Tryz.prog 114 1 := .of (by kernel_rfl)
instance : TOne Tryz.prog 114 := .of (by kernel_rfl)
instance : TSlice Tryz.prog 114 117 2 := .of (by kernel_rfl)
instance : TConcrete Tryz.prog 114 := .of (by kernel_rfl)
instance : TZero Tryz.prog 114 [.slice none 0 0] := .of (v := .slice none 0 0) (n := 1) (by kernel_rfl) rfl rfl
instance : TRow Tryz.prog 114 1 24 := .of (by kernel_rfl)
-- type 115: func(string) []steleref18.Word
instance : TSize Tryz.prog 115 1 := .of (by kernel_rfl)
instance : TOne Tryz.prog 115 := .of (by kernel_rfl)
instance : TConcrete Tryz.prog 115 := .of (by kernel_rfl)
instance : TZero Tryz.prog 115 [.nilFunc] := .of (v := .nilFunc) (n := 1) (by kernel_rfl) rfl rfl
instance : TRow Tryz.prog 115 1 8 := .of (by kernel_rfl)
-- type 116: struct { Text string; Line int }
instance : TSize Tryz.prog 116 2 := .of (by kernel_rfl)
instance : TAgg Tryz.prog 116 2 := .of (by kernel_rfl)
instance : TConcrete Tryz.prog 116 := .of (by kernel_rfl)
instance : TField Tryz.prog 116 0 0 := .of (by kernel_rfl)
instance : TField Tryz.prog 116 1 1 := .of (by kernel_rfl)
instance : TStruct Tryz.prog 116 [(0, 1), (1, 1)] := .of (by kernel_rfl)
instance : TZero Tryz.prog 116 [.string ⟨#[]⟩, .int .i64 0] := .of (v := .agg #[.string ⟨#[]⟩, .int .i64 0]) (n := 2) (by kernel_rfl) rfl rfl
instance : TRow Tryz.prog 116 2 24 := .of (by kernel_rfl)
-- type 117: steleref18.Word
instance : TSize Tryz.prog 117 2 := .of (by kernel_rfl)
instance : TAgg Tryz.prog 117 2 := .of (by kernel_rfl)
instance : TConcrete Tryz.prog 117 := .of (by kernel_rfl)
instance : TField Tryz.prog 117 0 0 := .of (by kernel_rfl)
instance : TField Tryz.prog 117 1 1 := .of (by kernel_rfl)
instance : TStruct Tryz.prog 117 [(0, 1), (1, 1)] := .of (by kernel_rfl)
instance : TZero Tryz.prog 117 [.string ⟨#[]⟩, .int .i64 0] := .of (v := .agg #[.string ⟨#[]⟩, .int .i64 0]) (n := 2) (by kernel_rfl) rfl rfl
instance : TRow Tryz.prog 117 2 24 := .of (by kernel_rfl)
-- type 118: *machine.machine
instance : TSize Tryz.prog 118 1 := .of (by kernel_rfl)
instance : TOne Tryz.prog 118 := .of (by kernel_rfl)
instance : TConcrete Tryz.prog 118 := .of (by kernel_rfl)
instance : TZero Tryz.prog 118 [.pointer none] := .of (v := .pointer none) (n := 1) (by kernel_rfl) rfl rfl
instance : TRow Tryz.prog 118 1 8 := .of (by kernel_rfl)
-- type 119: map[uint32]func(uint32, uint32) uint32
instance : TSize Tryz.prog 119 1 := .of (by kernel_rfl)
instance : TOne Tryz.prog 119 := .of (by kernel_rfl)
instance : TConcrete Tryz.prog 119 := .of (by kernel_rfl)
instance : TZero Tryz.prog 119 [.map none] := .of (v := .map none) (n := 1) (by kernel_rfl) rfl rfl
instance : TRow Tryz.prog 119 1 8 := .of (by kernel_rfl)
-- type 120: func() map[uint32]func(uint32, uint32) uint32
instance : TSize Tryz.prog 120 1 := .of (by kernel_rfl)
instance : TOne Tryz.prog 120 := .of (by kernel_rfl)
instance : TConcrete Tryz.prog 120 := .of (by kernel_rfl)
instance : TZero Tryz.prog 120 [.nilFunc] := .of (v := .nilFunc) (n := 1) (by kernel_rfl) rfl rfl
instance : TRow Tryz.prog 120 1 8 := .of (by kernel_rfl)
-- type 121: struct { memory []uint32; pc uint32; data []uint32; calls []uint32; input []uint
instance : TSize Tryz.prog 121 10 := .of (by kernel_rfl)
instance : TAgg Tryz.prog 121 10 := .of (by kernel_rfl)
instance : TConcrete Tryz.prog 121 := .of (by kernel_rfl)
instance : TField Tryz.prog 121 0 0 := .of (by kernel_rfl)
instance : TField Tryz.prog 121 1 1 := .of (by kernel_rfl)
instance : TField Tryz.prog 121 2 2 := .of (by kernel_rfl)
instance : TField Tryz.prog 121 3 3 := .of (by kernel_rfl)
instance : TField Tryz.prog 121 4 4 := .of (by kernel_rfl)
instance : TField Tryz.prog 121 5 5 := .of (by kernel_rfl)
instance : TField Tryz.prog 121 6 6 := .of (by kernel_rfl)
instance : TField Tryz.prog 121 7 7 := .of (by kernel_rfl)
instance : TField Tryz.prog 121 8 8 := .of (by kernel_rfl)
instance : TField Tryz.prog 121 9 9 := .of (by kernel_rfl)
instance : TStruct Tryz.prog 121 [(0, 1), (1, 1), (2, 1), (3, 1), (4, 1), (5, 1), (6, 1), (7, 1), (8, 1), (9, 1)] := .of (by kernel_rfl)
instance : TZero Tryz.prog 121 [.slice none 0 0, .int .u32 0, .slice none 0 0, .slice none 0 0, .slice none 0 0, .slice none 0 0, .bool false, .int .i64 0, .bool false, .map none] := .of (v := .agg #[.slice none 0 0, .int .u32 0, .slice none 0 0, .slice none 0 0, .slice none 0 0, .slice none 0 0, .bool false, .int .i64 0, .bool false, .map none]) (n := 10) (by kernel_rfl) rfl rfl
instance : TRow Tryz.prog 121 10 160 := .of (by kernel_rfl)
-- type 122: machine.machine
instance : TSize Tryz.prog 122 10 := .of (by kernel_rfl)
instance : TAgg Tryz.prog 122 10 := .of (by kernel_rfl)
instance : TConcrete Tryz.prog 122 := .of (by kernel_rfl)
instance : TField Tryz.prog 122 0 0 := .of (by kernel_rfl)
instance : TField Tryz.prog 122 1 1 := .of (by kernel_rfl)
instance : TField Tryz.prog 122 2 2 := .of (by kernel_rfl)
instance : TField Tryz.prog 122 3 3 := .of (by kernel_rfl)
instance : TField Tryz.prog 122 4 4 := .of (by kernel_rfl)
instance : TField Tryz.prog 122 5 5 := .of (by kernel_rfl)
instance : TField Tryz.prog 122 6 6 := .of (by kernel_rfl)
instance : TField Tryz.prog 122 7 7 := .of (by kernel_rfl)
instance : TField Tryz.prog 122 8 8 := .of (by kernel_rfl)
instance : TField Tryz.prog 122 9 9 := .of (by kernel_rfl)
instance : TStruct Tryz.prog 122 [(0, 1), (1, 1), (2, 1), (3, 1), (4, 1), (5, 1), (6, 1), (7, 1), (8, 1), (9, 1)] := .of (by kernel_rfl)
instance : TZero Tryz.prog 122 [.slice none 0 0, .int .u32 0, .slice none 0 0, .slice none 0 0, .slice none 0 0, .slice none 0 0, .bool false, .int .i64 0, .bool false, .map none] := .of (v := .agg #[.slice none 0 0, .int .u32 0, .slice none 0 0, .slice none 0 0, .slice none 0 0, .slice none 0 0, .bool false, .int .i64 0, .bool false, .map none]) (n := 10) (by kernel_rfl) rfl rfl
instance : TRow Tryz.prog 122 10 160 := .of (by kernel_rfl)
-- type 123: func(int) api.Errno
instance : TSize Tryz.prog 123 1 := .of (by kernel_rfl)
instance : TOne Tryz.prog 123 := .of (by kernel_rfl)
instance : TConcrete Tryz.prog 123 := .of (by kernel_rfl)
instance : TZero Tryz.prog 123 [.nilFunc] := .of (v := .nilFunc) (n := 1) (by kernel_rfl) rfl rfl
instance : TRow Tryz.prog 123 1 8 := .of (by kernel_rfl)
-- type 124: func(int64, int) string
instance : TSize Tryz.prog 124 1 := .of (by kernel_rfl)
instance : TOne Tryz.prog 124 := .of (by kernel_rfl)
instance : TConcrete Tryz.prog 124 := .of (by kernel_rfl)
instance : TZero Tryz.prog 124 [.nilFunc] := .of (v := .nilFunc) (n := 1) (by kernel_rfl) rfl rfl
instance : TRow Tryz.prog 124 1 8 := .of (by kernel_rfl)
-- type 125: func(string, string) string
instance : TSize Tryz.prog 125 1 := .of (by kernel_rfl)
instance : TOne Tryz.prog 125 := .of (by kernel_rfl)
instance : TConcrete Tryz.prog 125 := .of (by kernel_rfl)
instance : TZero Tryz.prog 125 [.nilFunc] := .of (v := .nilFunc) (n := 1) (by kernel_rfl) rfl rfl
instance : TRow Tryz.prog 125 1 8 := .of (by kernel_rfl)
-- type 126: func(uint32, string, uint32) (uint32, bool)
instance : TSize Tryz.prog 126 1 := .of (by kernel_rfl)
instance : TOne Tryz.prog 126 := .of (by kernel_rfl)
instance : TConcrete Tryz.prog 126 := .of (by kernel_rfl)
instance : TZero Tryz.prog 126 [.nilFunc] := .of (v := .nilFunc) (n := 1) (by kernel_rfl) rfl rfl
instance : TRow Tryz.prog 126 1 8 := .of (by kernel_rfl)
-- type 128: func(string, int, int) (uint64, error)
instance : TSize Tryz.prog 128 1 := .of (by kernel_rfl)
instance : TOne Tryz.prog 128 := .of (by kernel_rfl)
instance : TConcrete Tryz.prog 128 := .of (by kernel_rfl)
instance : TZero Tryz.prog 128 [.nilFunc] := .of (v := .nilFunc) (n := 1) (by kernel_rfl) rfl rfl
instance : TRow Tryz.prog 128 1 8 := .of (by kernel_rfl)
-- type 129: func(uint32) string
instance : TSize Tryz.prog 129 1 := .of (by kernel_rfl)
instance : TOne Tryz.prog 129 := .of (by kernel_rfl)
instance : TConcrete Tryz.prog 129 := .of (by kernel_rfl)
instance : TZero Tryz.prog 129 [.nilFunc] := .of (v := .nilFunc) (n := 1) (by kernel_rfl) rfl rfl
instance : TRow Tryz.prog 129 1 8 := .of (by kernel_rfl)
-- type 130: func(uint32, uint32, string) (uint32, bool)
instance : TSize Tryz.prog 130 1 := .of (by kernel_rfl)
instance : TOne Tryz.prog 130 := .of (by kernel_rfl)
instance : TConcrete Tryz.prog 130 := .of (by kernel_rfl)
instance : TZero Tryz.prog 130 [.nilFunc] := .of (v := .nilFunc) (n := 1) (by kernel_rfl) rfl rfl
instance : TRow Tryz.prog 130 1 8 := .of (by kernel_rfl)
-- type 131: unsafe.Pointer
instance : TSize Tryz.prog 131 1 := .of (by kernel_rfl)
instance : TOne Tryz.prog 131 := .of (by kernel_rfl)
instance : TConcrete Tryz.prog 131 := .of (by kernel_rfl)
instance : TZero Tryz.prog 131 [.pointer none] := .of (v := .pointer none) (n := 1) (by kernel_rfl) rfl rfl
instance : TRow Tryz.prog 131 1 8 := .of (by kernel_rfl)
-- type 132: func(unsafe.Pointer) unsafe.Pointer
instance : TSize Tryz.prog 132 1 := .of (by kernel_rfl)
instance : TOne Tryz.prog 132 := .of (by kernel_rfl)
instance : TConcrete Tryz.prog 132 := .of (by kernel_rfl)
instance : TZero Tryz.prog 132 [.nilFunc] := .of (v := .nilFunc) (n := 1) (by kernel_rfl) rfl rfl
instance : TRow Tryz.prog 132 1 8 := .of (by kernel_rfl)
-- type 133: func(int) []uint8
instance : TSize Tryz.prog 133 1 := .of (by kernel_rfl)
instance : TOne Tryz.prog 133 := .of (by kernel_rfl)
instance : TConcrete Tryz.prog 133 := .of (by kernel_rfl)
instance : TZero Tryz.prog 133 [.nilFunc] := .of (v := .nilFunc) (n := 1) (by kernel_rfl) rfl rfl
instance : TRow Tryz.prog 133 1 8 := .of (by kernel_rfl)
-- type 134: func(string, string, int, int) []string
instance : TSize Tryz.prog 134 1 := .of (by kernel_rfl)
instance : TOne Tryz.prog 134 := .of (by kernel_rfl)
instance : TConcrete Tryz.prog 134 := .of (by kernel_rfl)
instance : TZero Tryz.prog 134 [.nilFunc] := .of (v := .nilFunc) (n := 1) (by kernel_rfl) rfl rfl
instance : TRow Tryz.prog 134 1 8 := .of (by kernel_rfl)
-- type 135: [24]uint8
instance : TSize Tryz.prog 135 24 := .of (by kernel_rfl)
instance : TAgg Tryz.prog 135 24 := .of (by kernel_rfl)
instance : TConcrete Tryz.prog 135 := .of (by kernel_rfl)
instance : TZero Tryz.prog 135 [.int .u8 0, .int .u8 0, .int .u8 0, .int .u8 0, .int .u8 0, .int .u8 0, .int .u8 0, .int .u8 0, .int .u8 0, .int .u8 0, .int .u8 0, .int .u8 0, .int .u8 0, .int .u8 0, .int .u8 0, .int .u8 0, .int .u8 0, .int .u8 0, .int .u8 0, .int .u8 0, .int .u8 0, .int .u8 0, .int .u8 0, .int .u8 0] := .of (v := .agg #[.int .u8 0, .int .u8 0, .int .u8 0, .int .u8 0, .int .u8 0, .int .u8 0, .int .u8 0, .int .u8 0, .int .u8 0, .int .u8 0, .int .u8 0, .int .u8 0, .int .u8 0, .int .u8 0, .int .u8 0, .int .u8 0, .int .u8 0, .int .u8 0, .int .u8 0, .int .u8 0, .int .u8 0, .int .u8 0, .int .u8 0, .int .u8 0]) (n := 24) (by kernel_rfl) rfl rfl
instance : TRow Tryz.prog 135 24 24 := .of (by kernel_rfl)
-- type 136: func(uint64) int
instance : TSize Tryz.prog 136 1 := .of (by kernel_rfl)
instance : TOne Tryz.prog 136 := .of (by kernel_rfl)
instance : TConcrete Tryz.prog 136 := .of (by kernel_rfl)
instance : TZero Tryz.prog 136 [.nilFunc] := .of (v := .nilFunc) (n := 1) (by kernel_rfl) rfl rfl
instance : TRow Tryz.prog 136 1 8 := .of (by kernel_rfl)
-- type 137: func([]uint8, uint64)
instance : TSize Tryz.prog 137 1 := .of (by kernel_rfl)
instance : TOne Tryz.prog 137 := .of (by kernel_rfl)
instance : TConcrete Tryz.prog 137 := .of (by kernel_rfl)
instance : TZero Tryz.prog 137 [.nilFunc] := .of (v := .nilFunc) (n := 1) (by kernel_rfl) rfl rfl
instance : TRow Tryz.prog 137 1 8 := .of (by kernel_rfl)
-- type 139: func([]uint8, uint64, int, bool, bool) ([]uint8, string)
instance : TSize Tryz.prog 139 1 := .of (by kernel_rfl)
instance : TOne Tryz.prog 139 := .of (by kernel_rfl)
instance : TConcrete Tryz.prog 139 := .of (by kernel_rfl)
instance : TZero Tryz.prog 139 [.nilFunc] := .of (v := .nilFunc) (n := 1) (by kernel_rfl) rfl rfl
instance : TRow Tryz.prog 139 1 8 := .of (by kernel_rfl)
-- type 140: func(uint32, uint32) uint32
instance : TSize Tryz.prog 140 1 := .of (by kernel_rfl)
instance : TOne Tryz.prog 140 := .of (by kernel_rfl)
instance : TConcrete Tryz.prog 140 := .of (by kernel_rfl)
instance : TZero Tryz.prog 140 [.nilFunc] := .of (v := .nilFunc) (n := 1) (by kernel_rfl) rfl rfl
instance : TRow Tryz.prog 140 1 8 := .of (by kernel_rfl)
-- type 141: func(bool)
instance : TSize Tryz.prog 141 1 := .of (by kernel_rfl)
instance : TOne Tryz.prog 141 := .of (by kernel_rfl)
instance : TConcrete Tryz.prog 141 := .of (by kernel_rfl)
instance : TZero Tryz.prog 141 [.nilFunc] := .of (v := .nilFunc) (n := 1) (by kernel_rfl) rfl rfl
instance : TRow Tryz.prog 141 1 8 := .of (by kernel_rfl)
-- type 142: struct {}
instance : TSize Tryz.prog 142 0 := .of (by kernel_rfl)
instance : TAgg Tryz.prog 142 0 := .of (by kernel_rfl)
instance : TConcrete Tryz.prog 142 := .of (by kernel_rfl)
instance : TStruct Tryz.prog 142 [] := .of (by kernel_rfl)
instance : TZero Tryz.prog 142 [] := .of (v := .agg #[]) (n := 0) (by kernel_rfl) rfl rfl
-- type 143: machine.trap
instance : TSize Tryz.prog 143 0 := .of (by kernel_rfl)
instance : TAgg Tryz.prog 143 0 := .of (by kernel_rfl)
instance : TConcrete Tryz.prog 143 := .of (by kernel_rfl)
instance : TStruct Tryz.prog 143 [] := .of (by kernel_rfl)
instance : TZero Tryz.prog 143 [] := .of (v := .agg #[]) (n := 0) (by kernel_rfl) rfl rfl
-- type 145: func(uint32)
instance : TSize Tryz.prog 145 1 := .of (by kernel_rfl)
instance : TOne Tryz.prog 145 := .of (by kernel_rfl)
instance : TConcrete Tryz.prog 145 := .of (by kernel_rfl)
instance : TZero Tryz.prog 145 [.nilFunc] := .of (v := .nilFunc) (n := 1) (by kernel_rfl) rfl rfl
instance : TRow Tryz.prog 145 1 8 := .of (by kernel_rfl)
-- type 146: func(string, uint8) string
instance : TSize Tryz.prog 146 1 := .of (by kernel_rfl)
instance : TOne Tryz.prog 146 := .of (by kernel_rfl)
instance : TConcrete Tryz.prog 146 := .of (by kernel_rfl)
instance : TZero Tryz.prog 146 [.nilFunc] := .of (v := .nilFunc) (n := 1) (by kernel_rfl) rfl rfl
instance : TRow Tryz.prog 146 1 8 := .of (by kernel_rfl)
-- type 150: func(string) (strings.asciiSet, bool)
instance : TSize Tryz.prog 150 1 := .of (by kernel_rfl)
instance : TOne Tryz.prog 150 := .of (by kernel_rfl)
instance : TConcrete Tryz.prog 150 := .of (by kernel_rfl)
instance : TZero Tryz.prog 150 [.nilFunc] := .of (v := .nilFunc) (n := 1) (by kernel_rfl) rfl rfl
instance : TRow Tryz.prog 150 1 8 := .of (by kernel_rfl)
-- type 151: func(string, *strings.asciiSet) string
instance : TSize Tryz.prog 151 1 := .of (by kernel_rfl)
instance : TOne Tryz.prog 151 := .of (by kernel_rfl)
instance : TConcrete Tryz.prog 151 := .of (by kernel_rfl)
instance : TZero Tryz.prog 151 [.nilFunc] := .of (v := .nilFunc) (n := 1) (by kernel_rfl) rfl rfl
instance : TRow Tryz.prog 151 1 8 := .of (by kernel_rfl)
-- type 152: *strings.asciiSet
instance : TSize Tryz.prog 152 1 := .of (by kernel_rfl)
instance : TOne Tryz.prog 152 := .of (by kernel_rfl)
instance : TConcrete Tryz.prog 152 := .of (by kernel_rfl)
instance : TZero Tryz.prog 152 [.pointer none] := .of (v := .pointer none) (n := 1) (by kernel_rfl) rfl rfl
instance : TRow Tryz.prog 152 1 8 := .of (by kernel_rfl)
-- type 153: func(string, string, int, int, error) error
instance : TSize Tryz.prog 153 1 := .of (by kernel_rfl)
instance : TOne Tryz.prog 153 := .of (by kernel_rfl)
instance : TConcrete Tryz.prog 153 := .of (by kernel_rfl)
instance : TZero Tryz.prog 153 [.nilFunc] := .of (v := .nilFunc) (n := 1) (by kernel_rfl) rfl rfl
instance : TRow Tryz.prog 153 1 8 := .of (by kernel_rfl)
-- type 154: func(string, int) []string
instance : TSize Tryz.prog 154 1 := .of (by kernel_rfl)
instance : TOne Tryz.prog 154 := .of (by kernel_rfl)
instance : TConcrete Tryz.prog 154 := .of (by kernel_rfl)
instance : TZero Tryz.prog 154 [.nilFunc] := .of (v := .nilFunc) (n := 1) (by kernel_rfl) rfl rfl
instance : TRow Tryz.prog 154 1 8 := .of (by kernel_rfl)
-- type 155: func(string, string) int
instance : TSize Tryz.prog 155 1 := .of (by kernel_rfl)
instance : TOne Tryz.prog 155 := .of (by kernel_rfl)
instance : TConcrete Tryz.prog 155 := .of (by kernel_rfl)
instance : TZero Tryz.prog 155 [.nilFunc] := .of (v := .nilFunc) (n := 1) (by kernel_rfl) rfl rfl
instance : TRow Tryz.prog 155 1 8 := .of (by kernel_rfl)
-- type 156: func(int) int
instance : TSize Tryz.prog 156 1 := .of (by kernel_rfl)
instance : TOne Tryz.prog 156 := .of (by kernel_rfl)
instance : TConcrete Tryz.prog 156 := .of (by kernel_rfl)
instance : TZero Tryz.prog 156 [.nilFunc] := .of (v := .nilFunc) (n := 1) (by kernel_rfl) rfl rfl
instance : TRow Tryz.prog 156 1 8 := .of (by kernel_rfl)
-- type 157: func(bool) int
instance : TSize Tryz.prog 157 1 := .of (by kernel_rfl)
instance : TOne Tryz.prog 157 := .of (by kernel_rfl)
instance : TConcrete Tryz.prog 157 := .of (by kernel_rfl)
instance : TZero Tryz.prog 157 [.nilFunc] := .of (v := .nilFunc) (n := 1) (by kernel_rfl) rfl rfl
instance : TRow Tryz.prog 157 1 8 := .of (by kernel_rfl)
-- type 158: [20]uint64
instance : TSize Tryz.prog 158 20 := .of (by kernel_rfl)
instance : TAgg Tryz.prog 158 20 := .of (by kernel_rfl)
instance : TConcrete Tryz.prog 158 := .of (by kernel_rfl)
instance : TZero Tryz.prog 158 [.int .u64 0, .int .u64 0, .int .u64 0, .int .u64 0, .int .u64 0, .int .u64 0, .int .u64 0, .int .u64 0, .int .u64 0, .int .u64 0, .int .u64 0, .int .u64 0, .int .u64 0, .int .u64 0, .int .u64 0, .int .u64 0, .int .u64 0, .int .u64 0, .int .u64 0, .int .u64 0] := .of (v := .agg #[.int .u64 0, .int .u64 0, .int .u64 0, .int .u64 0, .int .u64 0, .int .u64 0, .int .u64 0, .int .u64 0, .int .u64 0, .int .u64 0, .int .u64 0, .int .u64 0, .int .u64 0, .int .u64 0, .int .u64 0, .int .u64 0, .int .u64 0, .int .u64 0, .int .u64 0, .int .u64 0]) (n := 20) (by kernel_rfl) rfl rfl
instance : TRow Tryz.prog 158 20 160 := .of (by kernel_rfl)
-- type 160: func(int) bool
instance : TSize Tryz.prog 160 1 := .of (by kernel_rfl)
instance : TOne Tryz.prog 160 := .of (by kernel_rfl)
instance : TConcrete Tryz.prog 160 := .of (by kernel_rfl)
instance : TZero Tryz.prog 160 [.nilFunc] := .of (v := .nilFunc) (n := 1) (by kernel_rfl) rfl rfl
instance : TRow Tryz.prog 160 1 8 := .of (by kernel_rfl)
-- type 161: func(uint) int
instance : TSize Tryz.prog 161 1 := .of (by kernel_rfl)
instance : TOne Tryz.prog 161 := .of (by kernel_rfl)
instance : TConcrete Tryz.prog 161 := .of (by kernel_rfl)
instance : TZero Tryz.prog 161 [.nilFunc] := .of (v := .nilFunc) (n := 1) (by kernel_rfl) rfl rfl
instance : TRow Tryz.prog 161 1 8 := .of (by kernel_rfl)
-- type 162: func() uint32
instance : TSize Tryz.prog 162 1 := .of (by kernel_rfl)
instance : TOne Tryz.prog 162 := .of (by kernel_rfl)
instance : TConcrete Tryz.prog 162 := .of (by kernel_rfl)
instance : TZero Tryz.prog 162 [.nilFunc] := .of (v := .nilFunc) (n := 1) (by kernel_rfl) rfl rfl
instance : TRow Tryz.prog 162 1 8 := .of (by kernel_rfl)
-- type 165: func(string) (int32, int)
instance : TSize Tryz.prog 165 1 := .of (by kernel_rfl)
instance : TOne Tryz.prog 165 := .of (by kernel_rfl)
instance : TConcrete Tryz.prog 165 := .of (by kernel_rfl)
instance : TZero Tryz.prog 165 [.nilFunc] := .of (v := .nilFunc) (n := 1) (by kernel_rfl) rfl rfl
instance : TRow Tryz.prog 165 1 8 := .of (by kernel_rfl)
-- type 166: func(string, int32) bool
instance : TSize Tryz.prog 166 1 := .of (by kernel_rfl)
instance : TOne Tryz.prog 166 := .of (by kernel_rfl)
instance : TConcrete Tryz.prog 166 := .of (by kernel_rfl)
instance : TZero Tryz.prog 166 [.nilFunc] := .of (v := .nilFunc) (n := 1) (by kernel_rfl) rfl rfl
instance : TRow Tryz.prog 166 1 8 := .of (by kernel_rfl)
-- type 167: strconv.Error
instance : TSize Tryz.prog 167 1 := .of (by kernel_rfl)
instance : TOne Tryz.prog 167 := .of (by kernel_rfl)
instance : TKind Tryz.prog 167 .i64 := .of (by kernel_rfl)
instance : TConcrete Tryz.prog 167 := .of (by kernel_rfl)
instance : TZero Tryz.prog 167 [.int .i64 0] := .of (v := .int .i64 0) (n := 1) (by kernel_rfl) rfl rfl
instance : TRow Tryz.prog 167 1 8 := .of (by kernel_rfl)
-- type 168: func(uint8) uint8
instance : TSize Tryz.prog 168 1 := .of (by kernel_rfl)
instance : TOne Tryz.prog 168 := .of (by kernel_rfl)
instance : TConcrete Tryz.prog 168 := .of (by kernel_rfl)
instance : TZero Tryz.prog 168 [.nilFunc] := .of (v := .nilFunc) (n := 1) (by kernel_rfl) rfl rfl
instance : TRow Tryz.prog 168 1 8 := .of (by kernel_rfl)
-- type 169: *strconv.NumError
instance : TSize Tryz.prog 169 1 := .of (by kernel_rfl)
instance : TOne Tryz.prog 169 := .of (by kernel_rfl)
instance : TConcrete Tryz.prog 169 := .of (by kernel_rfl)
instance : TZero Tryz.prog 169 [.pointer none] := .of (v := .pointer none) (n := 1) (by kernel_rfl) rfl rfl
instance : TRow Tryz.prog 169 1 8 := .of (by kernel_rfl)
-- type 170: func(string, string) *strconv.NumError
instance : TSize Tryz.prog 170 1 := .of (by kernel_rfl)
instance : TOne Tryz.prog 170 := .of (by kernel_rfl)
instance : TConcrete Tryz.prog 170 := .of (by kernel_rfl)
instance : TZero Tryz.prog 170 [.nilFunc] := .of (v := .nilFunc) (n := 1) (by kernel_rfl) rfl rfl
instance : TRow Tryz.prog 170 1 8 := .of (by kernel_rfl)
-- type 171: func(string, string, int) *strconv.NumError
instance : TSize Tryz.prog 171 1 := .of (by kernel_rfl)
instance : TOne Tryz.prog 171 := .of (by kernel_rfl)
instance : TConcrete Tryz.prog 171 := .of (by kernel_rfl)
instance : TZero Tryz.prog 171 [.nilFunc] := .of (v := .nilFunc) (n := 1) (by kernel_rfl) rfl rfl
instance : TRow Tryz.prog 171 1 8 := .of (by kernel_rfl)
-- type 172: func(string) int
instance : TSize Tryz.prog 172 1 := .of (by kernel_rfl)
instance : TOne Tryz.prog 172 := .of (by kernel_rfl)
instance : TConcrete Tryz.prog 172 := .of (by kernel_rfl)
instance : TZero Tryz.prog 172 [.nilFunc] := .of (v := .nilFunc) (n := 1) (by kernel_rfl) rfl rfl
instance : TRow Tryz.prog 172 1 8 := .of (by kernel_rfl)
-- type 173: func(string, uint8) int
instance : TSize Tryz.prog 173 1 := .of (by kernel_rfl)
instance : TOne Tryz.prog 173 := .of (by kernel_rfl)
instance : TConcrete Tryz.prog 173 := .of (by kernel_rfl)
instance : TZero Tryz.prog 173 [.nilFunc] := .of (v := .nilFunc) (n := 1) (by kernel_rfl) rfl rfl
instance : TRow Tryz.prog 173 1 8 := .of (by kernel_rfl)
-- type 174: func(uint32) int
instance : TSize Tryz.prog 174 1 := .of (by kernel_rfl)
instance : TOne Tryz.prog 174 := .of (by kernel_rfl)
instance : TConcrete Tryz.prog 174 := .of (by kernel_rfl)
instance : TZero Tryz.prog 174 [.nilFunc] := .of (v := .nilFunc) (n := 1) (by kernel_rfl) rfl rfl
instance : TRow Tryz.prog 174 1 8 := .of (by kernel_rfl)
-- type 175: func(string, int32) int
instance : TSize Tryz.prog 175 1 := .of (by kernel_rfl)
instance : TOne Tryz.prog 175 := .of (by kernel_rfl)
instance : TConcrete Tryz.prog 175 := .of (by kernel_rfl)
instance : TZero Tryz.prog 175 [.nilFunc] := .of (v := .nilFunc) (n := 1) (by kernel_rfl) rfl rfl
instance : TRow Tryz.prog 175 1 8 := .of (by kernel_rfl)
-- type 176: struct { Func string; Num string; Err error }
instance : TSize Tryz.prog 176 3 := .of (by kernel_rfl)
instance : TAgg Tryz.prog 176 3 := .of (by kernel_rfl)
instance : TConcrete Tryz.prog 176 := .of (by kernel_rfl)
instance : TField Tryz.prog 176 0 0 := .of (by kernel_rfl)
instance : TField Tryz.prog 176 1 1 := .of (by kernel_rfl)
instance : TField Tryz.prog 176 2 2 := .of (by kernel_rfl)
instance : TStruct Tryz.prog 176 [(0, 1), (1, 1), (2, 1)] := .of (by kernel_rfl)
instance : TZero Tryz.prog 176 [.string ⟨#[]⟩, .string ⟨#[]⟩, .nilIface] := .of (v := .agg #[.string ⟨#[]⟩, .string ⟨#[]⟩, .nilIface]) (n := 3) (by kernel_rfl) rfl rfl
instance : TRow Tryz.prog 176 3 48 := .of (by kernel_rfl)
-- type 177: strconv.NumError
instance : TSize Tryz.prog 177 3 := .of (by kernel_rfl)
instance : TAgg Tryz.prog 177 3 := .of (by kernel_rfl)
instance : TConcrete Tryz.prog 177 := .of (by kernel_rfl)
instance : TField Tryz.prog 177 0 0 := .of (by kernel_rfl)
instance : TField Tryz.prog 177 1 1 := .of (by kernel_rfl)
instance : TField Tryz.prog 177 2 2 := .of (by kernel_rfl)
instance : TStruct Tryz.prog 177 [(0, 1), (1, 1), (2, 1)] := .of (by kernel_rfl)
instance : TZero Tryz.prog 177 [.string ⟨#[]⟩, .string ⟨#[]⟩, .nilIface] := .of (v := .agg #[.string ⟨#[]⟩, .string ⟨#[]⟩, .nilIface]) (n := 3) (by kernel_rfl) rfl rfl
instance : TRow Tryz.prog 177 3 48 := .of (by kernel_rfl)
-- type 178: func(string) error
instance : TSize Tryz.prog 178 1 := .of (by kernel_rfl)
instance : TOne Tryz.prog 178 := .of (by kernel_rfl)
instance : TConcrete Tryz.prog 178 := .of (by kernel_rfl)
instance : TZero Tryz.prog 178 [.nilFunc] := .of (v := .nilFunc) (n := 1) (by kernel_rfl) rfl rfl
instance : TRow Tryz.prog 178 1 8 := .of (by kernel_rfl)
-- type 179: func(string) (uint32, uint32)
instance : TSize Tryz.prog 179 1 := .of (by kernel_rfl)
instance : TOne Tryz.prog 179 := .of (by kernel_rfl)
instance : TConcrete Tryz.prog 179 := .of (by kernel_rfl)
instance : TZero Tryz.prog 179 [.nilFunc] := .of (v := .nilFunc) (n := 1) (by kernel_rfl) rfl rfl
instance : TRow Tryz.prog 179 1 8 := .of (by kernel_rfl)
-- type 180: [32]uint8
instance : TSize Tryz.prog 180 32 := .of (by kernel_rfl)
instance : TAgg Tryz.prog 180 32 := .of (by kernel_rfl)
instance : TConcrete Tryz.prog 180 := .of (by kernel_rfl)
instance : TZero Tryz.prog 180 [.int .u8 0, .int .u8 0, .int .u8 0, .int .u8 0, .int .u8 0, .int .u8 0, .int .u8 0, .int .u8 0, .int .u8 0, .int .u8 0, .int .u8 0, .int .u8 0, .int .u8 0, .int .u8 0, .int .u8 0, .int .u8 0, .int .u8 0, .int .u8 0, .int .u8 0, .int .u8 0, .int .u8 0, .int .u8 0, .int .u8 0, .int .u8 0, .int .u8 0, .int .u8 0, .int .u8 0, .int .u8 0, .int .u8 0, .int .u8 0, .int .u8 0, .int .u8 0] := .of (v := .agg #[.int .u8 0, .int .u8 0, .int .u8 0, .int .u8 0, .int .u8 0, .int .u8 0, .int .u8 0, .int .u8 0, .int .u8 0, .int .u8 0, .int .u8 0, .int .u8 0, .int .u8 0, .int .u8 0, .int .u8 0, .int .u8 0, .int .u8 0, .int .u8 0, .int .u8 0, .int .u8 0, .int .u8 0, .int .u8 0, .int .u8 0, .int .u8 0, .int .u8 0, .int .u8 0, .int .u8 0, .int .u8 0, .int .u8 0, .int .u8 0, .int .u8 0, .int .u8 0]) (n := 32) (by kernel_rfl) rfl rfl
instance : TRow Tryz.prog 180 32 32 := .of (by kernel_rfl)
-- type 181: [64]uint8
instance : TSize Tryz.prog 181 64 := .of (by kernel_rfl)
instance : TAgg Tryz.prog 181 64 := .of (by kernel_rfl)
instance : TConcrete Tryz.prog 181 := .of (by kernel_rfl)
-- type 183: struct { lo uint8; hi uint8 }
instance : TSize Tryz.prog 183 2 := .of (by kernel_rfl)
instance : TAgg Tryz.prog 183 2 := .of (by kernel_rfl)
instance : TConcrete Tryz.prog 183 := .of (by kernel_rfl)
instance : TField Tryz.prog 183 0 0 := .of (by kernel_rfl)
instance : TField Tryz.prog 183 1 1 := .of (by kernel_rfl)
instance : TStruct Tryz.prog 183 [(0, 1), (1, 1)] := .of (by kernel_rfl)
instance : TZero Tryz.prog 183 [.int .u8 0, .int .u8 0] := .of (v := .agg #[.int .u8 0, .int .u8 0]) (n := 2) (by kernel_rfl) rfl rfl
instance : TRow Tryz.prog 183 2 2 := .of (by kernel_rfl)
-- type 184: utf8.acceptRange
instance : TSize Tryz.prog 184 2 := .of (by kernel_rfl)
instance : TAgg Tryz.prog 184 2 := .of (by kernel_rfl)
instance : TConcrete Tryz.prog 184 := .of (by kernel_rfl)
instance : TField Tryz.prog 184 0 0 := .of (by kernel_rfl)
instance : TField Tryz.prog 184 1 1 := .of (by kernel_rfl)
instance : TStruct Tryz.prog 184 [(0, 1), (1, 1)] := .of (by kernel_rfl)
instance : TZero Tryz.prog 184 [.int .u8 0, .int .u8 0] := .of (v := .agg #[.int .u8 0, .int .u8 0]) (n := 2) (by kernel_rfl) rfl rfl
instance : TRow Tryz.prog 184 2 2 := .of (by kernel_rfl)
-- type 185: [16]utf8.acceptRange
instance : TSize Tryz.prog 185 32 := .of (by kernel_rfl)
instance : TAgg Tryz.prog 185 32 := .of (by kernel_rfl)
instance : TConcrete Tryz.prog 185 := .of (by kernel_rfl)
instance : TZero Tryz.prog 185 [.int .u8 0, .int .u8 0, .int .u8 0, .int .u8 0, .int .u8 0, .int .u8 0, .int .u8 0, .int .u8 0, .int .u8 0, .int .u8 0, .int .u8 0, .int .u8 0, .int .u8 0, .int .u8 0, .int .u8 0, .int .u8 0, .int .u8 0, .int .u8 0, .int .u8 0, .int .u8 0, .int .u8 0, .int .u8 0, .int .u8 0, .int .u8 0, .int .u8 0, .int .u8 0, .int .u8 0, .int .u8 0, .int .u8 0, .int .u8 0, .int .u8 0, .int .u8 0] := .of (v := .agg #[.int .u8 0, .int .u8 0, .int .u8 0, .int .u8 0, .int .u8 0, .int .u8 0, .int .u8 0, .int .u8 0, .int .u8 0, .int .u8 0, .int .u8 0, .int .u8 0, .int .u8 0, .int .u8 0, .int .u8 0, .int .u8 0, .int .u8 0, .int .u8 0, .int .u8 0, .int .u8 0, .int .u8 0, .int .u8 0, .int .u8 0, .int .u8 0, .int .u8 0, .int .u8 0, .int .u8 0, .int .u8 0, .int .u8 0, .int .u8 0, .int .u8 0, .int .u8 0]) (n := 32) (by kernel_rfl) rfl rfl
instance : TRow Tryz.prog 185 32 32 := .of (by kernel_rfl)
-- type 186: func(int32) bool
instance : TSize Tryz.prog 186 1 := .of (by kernel_rfl)
instance : TOne Tryz.prog 186 := .of (by kernel_rfl)
instance : TConcrete Tryz.prog 186 := .of (by kernel_rfl)
instance : TZero Tryz.prog 186 [.nilFunc] := .of (v := .nilFunc) (n := 1) (by kernel_rfl) rfl rfl
instance : TRow Tryz.prog 186 1 8 := .of (by kernel_rfl)
-- type 187: *errors.errorString
instance : TSize Tryz.prog 187 1 := .of (by kernel_rfl)
instance : TOne Tryz.prog 187 := .of (by kernel_rfl)
instance : TConcrete Tryz.prog 187 := .of (by kernel_rfl)
instance : TZero Tryz.prog 187 [.pointer none] := .of (v := .pointer none) (n := 1) (by kernel_rfl) rfl rfl
instance : TRow Tryz.prog 187 1 8 := .of (by kernel_rfl)
-- type 188: struct { s string }
instance : TSize Tryz.prog 188 1 := .of (by kernel_rfl)
instance : TAgg Tryz.prog 188 1 := .of (by kernel_rfl)
instance : TConcrete Tryz.prog 188 := .of (by kernel_rfl)
instance : TField Tryz.prog 188 0 0 := .of (by kernel_rfl)
instance : TStruct Tryz.prog 188 [(0, 1)] := .of (by kernel_rfl)
instance : TZero Tryz.prog 188 [.string ⟨#[]⟩] := .of (v := .agg #[.string ⟨#[]⟩]) (n := 1) (by kernel_rfl) rfl rfl
instance : TRow Tryz.prog 188 1 16 := .of (by kernel_rfl)
-- type 189: errors.errorString
instance : TSize Tryz.prog 189 1 := .of (by kernel_rfl)
instance : TAgg Tryz.prog 189 1 := .of (by kernel_rfl)
instance : TConcrete Tryz.prog 189 := .of (by kernel_rfl)
instance : TField Tryz.prog 189 0 0 := .of (by kernel_rfl)
instance : TStruct Tryz.prog 189 [(0, 1)] := .of (by kernel_rfl)
instance : TZero Tryz.prog 189 [.string ⟨#[]⟩] := .of (v := .agg #[.string ⟨#[]⟩]) (n := 1) (by kernel_rfl) rfl rfl
instance : TRow Tryz.prog 189 1 16 := .of (by kernel_rfl)
-- type 190: struct { _interface *abi.Type; concrete *abi.Type; asserted *abi.Type; missingMe
instance : TSize Tryz.prog 190 4 := .of (by kernel_rfl)
instance : TAgg Tryz.prog 190 4 := .of (by kernel_rfl)
instance : TConcrete Tryz.prog 190 := .of (by kernel_rfl)
instance : TField Tryz.prog 190 0 0 := .of (by kernel_rfl)
instance : TField Tryz.prog 190 1 1 := .of (by kernel_rfl)
instance : TField Tryz.prog 190 2 2 := .of (by kernel_rfl)
instance : TField Tryz.prog 190 3 3 := .of (by kernel_rfl)
instance : TStruct Tryz.prog 190 [(0, 1), (1, 1), (2, 1), (3, 1)] := .of (by kernel_rfl)
instance : TZero Tryz.prog 190 [.pointer none, .pointer none, .pointer none, .string ⟨#[]⟩] := .of (v := .agg #[.pointer none, .pointer none, .pointer none, .string ⟨#[]⟩]) (n := 4) (by kernel_rfl) rfl rfl
instance : TRow Tryz.prog 190 4 40 := .of (by kernel_rfl)
-- type 191: runtime.TypeAssertionError
instance : TSize Tryz.prog 191 4 := .of (by kernel_rfl)
instance : TAgg Tryz.prog 191 4 := .of (by kernel_rfl)
instance : TConcrete Tryz.prog 191 := .of (by kernel_rfl)
instance : TField Tryz.prog 191 0 0 := .of (by kernel_rfl)
instance : TField Tryz.prog 191 1 1 := .of (by kernel_rfl)
instance : TField Tryz.prog 191 2 2 := .of (by kernel_rfl)
instance : TField Tryz.prog 191 3 3 := .of (by kernel_rfl)
instance : TStruct Tryz.prog 191 [(0, 1), (1, 1), (2, 1), (3, 1)] := .of (by kernel_rfl)
instance : TZero Tryz.prog 191 [.pointer none, .pointer none, .pointer none, .string ⟨#[]⟩] := .of (v := .agg #[.pointer none, .pointer none, .pointer none, .string ⟨#[]⟩]) (n := 4) (by kernel_rfl) rfl rfl
instance : TRow Tryz.prog 191 4 40 := .of (by kernel_rfl)
-- type 192: [0]*runtime.PanicNilError
instance : TSize Tryz.prog 192 0 := .of (by kernel_rfl)
instance : TAgg Tryz.prog 192 0 := .of (by kernel_rfl)
instance : TConcrete Tryz.prog 192 := .of (by kernel_rfl)
instance : TZero Tryz.prog 192 [] := .of (v := .agg #[]) (n := 0) (by kernel_rfl) rfl rfl
-- type 193: struct { _ [0]*runtime.PanicNilError }
instance : TSize Tryz.prog 193 0 := .of (by kernel_rfl)
instance : TAgg Tryz.prog 193 0 := .of (by kernel_rfl)
instance : TConcrete Tryz.prog 193 := .of (by kernel_rfl)
instance : TStruct Tryz.prog 193 [(0, 0)] := .of (by kernel_rfl)
instance : TZero Tryz.prog 193 [] := .of (v := .agg #[]) (n := 0) (by kernel_rfl) rfl rfl
-- type 194: runtime.PanicNilError
instance : TSize Tryz.prog 194 0 := .of (by kernel_rfl)
instance : TAgg Tryz.prog 194 0 := .of (by kernel_rfl)
instance : TConcrete Tryz.prog 194 := .of (by kernel_rfl)
instance : TStruct Tryz.prog 194 [(0, 0)] := .of (by kernel_rfl)
instance : TZero Tryz.prog 194 [] := .of (v := .agg #[]) (n := 0) (by kernel_rfl) rfl rfl
-- type 195: abi.TFlag
instance : TSize Tryz.prog 195 1 := .of (by kernel_rfl)
instance : TOne Tryz.prog 195 := .of (by kernel_rfl)
instance : TKind Tryz.prog 195 .u8 := .of (by kernel_rfl)
instance : TConcrete Tryz.prog 195 := .of (by kernel_rfl)
instance : TZero Tryz.prog 195 [.int .u8 0] := .of (v := .int .u8 0) (n := 1) (by kernel_rfl) rfl rfl
instance : TRow Tryz.prog 195 1 1 := .of (by kernel_rfl)
-- type 196: abi.Kind
instance : TSize Tryz.prog 196 1 := .of (by kernel_rfl)
instance : TOne Tryz.prog 196 := .of (by kernel_rfl)
instance : TKind Tryz.prog 196 .u8 := .of (by kernel_rfl)
instance : TConcrete Tryz.prog 196 := .of (by kernel_rfl)
instance : TZero Tryz.prog 196 [.int .u8 0] := .of (v := .int .u8 0) (n := 1) (by kernel_rfl) rfl rfl
instance : TRow Tryz.prog 196 1 1 := .of (by kernel_rfl)
-- type 197: func(unsafe.Pointer, unsafe.Pointer) bool
instance : TSize Tryz.prog 197 1 := .of (by kernel_rfl)
instance : TOne Tryz.prog 197 := .of (by kernel_rfl)
instance : TConcrete Tryz.prog 197 := .of (by kernel_rfl)
instance : TZero Tryz.prog 197 [.nilFunc] := .of (v := .nilFunc) (n := 1) (by kernel_rfl) rfl rfl
instance : TRow Tryz.prog 197 1 8 := .of (by kernel_rfl)
-- type 198: abi.NameOff
instance : TSize Tryz.prog 198 1 := .of (by kernel_rfl)
instance : TOne Tryz.prog 198 := .of (by kernel_rfl)
instance : TKind Tryz.prog 198 .i32 := .of (by kernel_rfl)
instance : TConcrete Tryz.prog 198 := .of (by kernel_rfl)
instance : TZero Tryz.prog 198 [.int .i32 0] := .of (v := .int .i32 0) (n := 1) (by kernel_rfl) rfl rfl
instance : TRow Tryz.prog 198 1 4 := .of (by kernel_rfl)
-- type 199: abi.TypeOff
instance : TSize Tryz.prog 199 1 := .of (by kernel_rfl)
instance : TOne Tryz.prog 199 := .of (by kernel_rfl)
instance : TKind Tryz.prog 199 .i32 := .of (by kernel_rfl)
instance : TConcrete Tryz.prog 199 := .of (by kernel_rfl)
instance : TZero Tryz.prog 199 [.int .i32 0] := .of (v := .int .i32 0) (n := 1) (by kernel_rfl) rfl rfl
instance : TRow Tryz.prog 199 1 4 := .of (by kernel_rfl)
-- type 200: struct { Size_ uintptr; PtrBytes uintptr; Hash uint32; TFlag abi.TFlag; Align_ u
instance : TSize Tryz.prog 200 11 := .of (by kernel_rfl)
instance : TAgg Tryz.prog 200 11 := .of (by kernel_rfl)
instance : TConcrete Tryz.prog 200 := .of (by kernel_rfl)
instance : TField Tryz.prog 200 0 0 := .of (by kernel_rfl)
instance : TField Tryz.prog 200 1 1 := .of (by kernel_rfl)
instance : TField Tryz.prog 200 2 2 := .of (by kernel_rfl)
instance : TField Tryz.prog 200 3 3 := .of (by kernel_rfl)
instance : TField Tryz.prog 200 4 4 := .of (by kernel_rfl)
instance : TField Tryz.prog 200 5 5 := .of (by kernel_rfl)
instance : TField Tryz.prog 200 6 6 := .of (by kernel_rfl)
instance : TField Tryz.prog 200 7 7 := .of (by kernel_rfl)
instance : TField Tryz.prog 200 8 8 := .of (by kernel_rfl)
instance : TField Tryz.prog 200 9 9 := .of (by kernel_rfl)
instance : TField Tryz.prog 200 10 10 := .of (by kernel_rfl)
instance : TStruct Tryz.prog 200 [(0, 1), (1, 1), (2, 1), (3, 1), (4, 1), (5, 1), (6, 1), (7, 1), (8, 1), (9, 1), (10, 1)] := .of (by kernel_rfl)
instance : TZero Tryz.prog 200 [.int .u64 0, .int .u64 0, .int .u32 0, .int .u8 0, .int .u8 0, .int .u8 0, .int .u8 0, .nilFunc, .pointer none, .int .i32 0, .int .i32 0] := .of (v := .agg #[.int .u64 0, .int .u64 0, .int .u32 0, .int .u8 0, .int .u8 0, .int .u8 0, .int .u8 0, .nilFunc, .pointer none, .int .i32 0, .int .i32 0]) (n := 11) (by kernel_rfl) rfl rfl
instance : TRow Tryz.prog 200 11 48 := .of (by kernel_rfl)
-- type 201: abi.Type
instance : TSize Tryz.prog 201 11 := .of (by kernel_rfl)
instance : TAgg Tryz.prog 201 11 := .of (by kernel_rfl)
instance : TConcrete Tryz.prog 201 := .of (by kernel_rfl)
instance : TField Tryz.prog 201 0 0 := .of (by kernel_rfl)
instance : TField Tryz.prog 201 1 1 := .of (by kernel_rfl)
instance : TField Tryz.prog 201 2 2 := .of (by kernel_rfl)
instance : TField Tryz.prog 201 3 3 := .of (by kernel_rfl)
instance : TField Tryz.prog 201 4 4 := .of (by kernel_rfl)
instance : TField Tryz.prog 201 5 5 := .of (by kernel_rfl)
instance : TField Tryz.prog 201 6 6 := .of (by kernel_rfl)
instance : TField Tryz.prog 201 7 7 := .of (by kernel_rfl)
instance : TField Tryz.prog 201 8 8 := .of (by kernel_rfl)
instance : TField Tryz.prog 201 9 9 := .of (by kernel_rfl)
instance : TField Tryz.prog 201 10 10 := .of (by kernel_rfl)
instance : TStruct Tryz.prog 201 [(0, 1), (1, 1), (2, 1), (3, 1), (4, 1), (5, 1), (6, 1), (7, 1), (8, 1), (9, 1), (10, 1)] := .of (by kernel_rfl)
instance : TZero Tryz.prog 201 [.int .u64 0, .int .u64 0, .int .u32 0, .int .u8 0, .int .u8 0, .int .u8 0, .int .u8 0, .nilFunc, .pointer none, .int .i32 0, .int .i32 0] := .of (v := .agg #[.int .u64 0, .int .u64 0, .int .u32 0, .int .u8 0, .int .u8 0, .int .u8 0, .int .u8 0, .nilFunc, .pointer none, .int .i32 0, .int .i32 0]) (n := 11) (by kernel_rfl) rfl rfl
instance : TRow Tryz.prog 201 11 48 := .of (by kernel_rfl)
instance : TEnter Tryz.prog 3 := .of (by kernel_rfl)
instance : TEnter Tryz.prog 4 := .of (by kernel_rfl)
instance : TEnter Tryz.prog 5 := .of (by kernel_rfl)
instance : TEnter Tryz.prog 6 := .of (by kernel_rfl)
instance : TEnter Tryz.prog 7 := .of (by kernel_rfl)
instance : TEnter Tryz.prog 8 := .of (by kernel_rfl)
instance : TEnter Tryz.prog 9 := .of (by kernel_rfl)
instance : TEnter Tryz.prog 10 := .of (by kernel_rfl)
instance : TEnter Tryz.prog 11 := .of (by kernel_rfl)
instance : TEnter Tryz.prog 12 := .of (by kernel_rfl)
instance : TEnter Tryz.prog 13 := .of (by kernel_rfl)
instance : TEnter Tryz.prog 14 := .of (by kernel_rfl)
instance : TEnter Tryz.prog 15 := .of (by kernel_rfl)
instance : TEnter Tryz.prog 16 := .of (by kernel_rfl)
instance : TEnter Tryz.prog 17 := .of (by kernel_rfl)
instance : TEnter Tryz.prog 18 := .of (by kernel_rfl)
instance : TEnter Tryz.prog 19 := .of (by kernel_rfl)
instance : TEnter Tryz.prog 20 := .of (by kernel_rfl)
instance : TEnter Tryz.prog 21 := .of (by kernel_rfl)
instance : TEnter Tryz.prog 22 := .of (by kernel_rfl)
instance : TEnter Tryz.prog 23 := .of (by kernel_rfl)
instance : TEnter Tryz.prog 24 := .of (by kernel_rfl)
instance : TEnter Tryz.prog 25 := .of (by kernel_rfl)
instance : TEnter Tryz.prog 26 := .of (by kernel_rfl)
instance : TEnter Tryz.prog 27 := .of (by kernel_rfl)
instance : TEnter Tryz.prog 28 := .of (by kernel_rfl)
instance : TEnter Tryz.prog 29 := .of (by kernel_rfl)
instance : TEnter Tryz.prog 30 := .of (by kernel_rfl)
instance : TEnter Tryz.prog 31 := .of (by kernel_rfl)
instance : TEnter Tryz.prog 32 := .of (by kernel_rfl)
instance : TEnter Tryz.prog 33 := .of (by kernel_rfl)
instance : TEnter Tryz.prog 34 := .of (by kernel_rfl)
instance : TEnter Tryz.prog 35 := .of (by kernel_rfl)
instance : TEnter Tryz.prog 36 := .of (by kernel_rfl)
instance : TEnter Tryz.prog 37 := .of (by kernel_rfl)
instance : TEnter Tryz.prog 38 := .of (by kernel_rfl)
instance : TEnter Tryz.prog 39 := .of (by kernel_rfl)
instance : TEnter Tryz.prog 40 := .of (by kernel_rfl)
instance : TEnter Tryz.prog 41 := .of (by kernel_rfl)
instance : TEnter Tryz.prog 42 := .of (by kernel_rfl)
instance : TEnter Tryz.prog 43 := .of (by kernel_rfl)
instance : TEnter Tryz.prog 44 := .of (by kernel_rfl)
instance : TEnter Tryz.prog 45 := .of (by kernel_rfl)
instance : TEnter Tryz.prog 46 := .of (by kernel_rfl)
instance : TEnter Tryz.prog 47 := .of (by kernel_rfl)
instance : TEnter Tryz.prog 48 := .of (by kernel_rfl)
instance : TEnter Tryz.prog 49 := .of (by kernel_rfl)
instance : TEnter Tryz.prog 50 := .of (by kernel_rfl)
instance : TEnter Tryz.prog 51 := .of (by kernel_rfl)
instance : TEnter Tryz.prog 52 := .of (by kernel_rfl)
instance : TEnter Tryz.prog 53 := .of (by kernel_rfl)
instance : TEnter Tryz.prog 54 := .of (by kernel_rfl)
instance : TEnter Tryz.prog 55 := .of (by kernel_rfl)
instance : TEnter Tryz.prog 56 := .of (by kernel_rfl)
instance : TEnter Tryz.prog 57 := .of (by kernel_rfl)
instance : TEnter Tryz.prog 58 := .of (by kernel_rfl)
instance : TEnter Tryz.prog 59 := .of (by kernel_rfl)
instance : TEnter Tryz.prog 60 := .of (by kernel_rfl)
instance : TEnter Tryz.prog 61 := .of (by kernel_rfl)
instance : TEnter Tryz.prog 62 := .of (by kernel_rfl)
instance : TEnter Tryz.prog 63 := .of (by kernel_rfl)
instance : TEnter Tryz.prog 64 := .of (by kernel_rfl)
instance : TEnter Tryz.prog 65 := .of (by kernel_rfl)
instance : TEnter Tryz.prog 66 := .of (by kernel_rfl)
instance : TEnter Tryz.prog 67 := .of (by kernel_rfl)
instance : TEnter Tryz.prog 68 := .of (by kernel_rfl)
instance : TEnter Tryz.prog 69 := .of (by kernel_rfl)
instance : TEnter Tryz.prog 70 := .of (by kernel_rfl)
instance : TEnter Tryz.prog 71 := .of (by kernel_rfl)
instance : TEnter Tryz.prog 72 := .of (by kernel_rfl)
instance : TEnter Tryz.prog 73 := .of (by kernel_rfl)
instance : TEnter Tryz.prog 74 := .of (by kernel_rfl)
instance : TEnter Tryz.prog 75 := .of (by kernel_rfl)
instance : TEnter Tryz.prog 76 := .of (by kernel_rfl)
instance : TEnter Tryz.prog 77 := .of (by kernel_rfl)
instance : TEnter Tryz.prog 78 := .of (by kernel_rfl)
instance : TEnter Tryz.prog 79 := .of (by kernel_rfl)
instance : TEnter Tryz.prog 80 := .of (by kernel_rfl)
instance : TEnter Tryz.prog 81 := .of (by kernel_rfl)
instance : TEnter Tryz.prog 82 := .of (by kernel_rfl)
instance : TEnter Tryz.prog 83 := .of (by kernel_rfl)
instance : TEnter Tryz.prog 84 := .of (by kernel_rfl)
instance : TEnter Tryz.prog 85 := .of (by kernel_rfl)
instance : TEnter Tryz.prog 86 := .of (by kernel_rfl)
instance : TEnter Tryz.prog 87 := .of (by kernel_rfl)
instance : TEnter Tryz.prog 90 := .of (by kernel_rfl)
instance : TEnter Tryz.prog 91 := .of (by kernel_rfl)
instance : TEnter Tryz.prog 92 := .of (by kernel_rfl)
instance : TEnter Tryz.prog 93 := .of (by kernel_rfl)
instance : TEnter Tryz.prog 94 := .of (by kernel_rfl)
instance : TEnter Tryz.prog 95 := .of (by kernel_rfl)
instance : TEnter Tryz.prog 96 := .of (by kernel_rfl)
instance : TEnter Tryz.prog 97 := .of (by kernel_rfl)
instance : TEnter Tryz.prog 98 := .of (by kernel_rfl)
instance : TEnter Tryz.prog 99 := .of (by kernel_rfl)
instance : TEnter Tryz.prog 100 := .of (by kernel_rfl)
instance : TEnter Tryz.prog 101 := .of (by kernel_rfl)
instance : TEnter Tryz.prog 102 := .of (by kernel_rfl)
instance : TEnter Tryz.prog 103 := .of (by kernel_rfl)
instance : TEnter Tryz.prog 104 := .of (by kernel_rfl)
instance : TEnter Tryz.prog 105 := .of (by kernel_rfl)
instance : TEnter Tryz.prog 106 := .of (by kernel_rfl)
instance : TEnter Tryz.prog 107 := .of (by kernel_rfl)
instance : TEnter Tryz.prog 108 := .of (by kernel_rfl)
instance : TEnter Tryz.prog 109 := .of (by kernel_rfl)
instance : TEnter Tryz.prog 110 := .of (by kernel_rfl)
instance : TEnter Tryz.prog 111 := .of (by kernel_rfl)
instance : TEnter Tryz.prog 112 := .of (by kernel_rfl)
instance : TEnter Tryz.prog 113 := .of (by kernel_rfl)
instance : TEnter Tryz.prog 114 := .of (by kernel_rfl)
instance : TEnter Tryz.prog 115 := .of (by kernel_rfl)
instance : TEnter Tryz.prog 116 := .of (by kernel_rfl)
instance : TEnter Tryz.prog 117 := .of (by kernel_rfl)
instance : TEnter Tryz.prog 118 := .of (by kernel_rfl)
instance : TEnter Tryz.prog 119 := .of (by kernel_rfl)
instance : TEnter Tryz.prog 120 := .of (by kernel_rfl)
instance : TEnter Tryz.prog 121 := .of (by kernel_rfl)
instance : TEnter Tryz.prog 122 := .of (by kernel_rfl)
instance : TEnter Tryz.prog 123 := .of (by kernel_rfl)
instance : TEnter Tryz.prog 124 := .of (by kernel_rfl)
instance : TEnter Tryz.prog 125 := .of (by kernel_rfl)
instance : TEnter Tryz.prog 126 := .of (by kernel_rfl)
instance : TEnter Tryz.prog 127 := .of (by kernel_rfl)
instance : TEnter Tryz.prog 128 := .of (by kernel_rfl)
instance : TEnter Tryz.prog 129 := .of (by kernel_rfl)
instance : TEnter Tryz.prog 130 := .of (by kernel_rfl)
instance : TEnter Tryz.prog 131 := .of (by kernel_rfl)
instance : TEnter Tryz.prog 132 := .of (by kernel_rfl)
instance : TEnter Tryz.prog 133 := .of (by kernel_rfl)
instance : TEnter Tryz.prog 134 := .of (by kernel_rfl)
instance : TEnter Tryz.prog 135 := .of (by kernel_rfl)
instance : TEnter Tryz.prog 136 := .of (by kernel_rfl)
instance : TEnter Tryz.prog 137 := .of (by kernel_rfl)
instance : TEnter Tryz.prog 138 := .of (by kernel_rfl)
instance : TEnter Tryz.prog 139 := .of (by kernel_rfl)
instance : TEnter Tryz.prog 140 := .of (by kernel_rfl)
instance : TEnter Tryz.prog 142 := .of (by kernel_rfl)
instance : TEnter Tryz.prog 144 := .of (by kernel_rfl)
instance : TEnter Tryz.prog 145 := .of (by kernel_rfl)
instance : TEnter Tryz.prog 146 := .of (by kernel_rfl)
instance : TEnter Tryz.prog 147 := .of (by kernel_rfl)
instance : TEnter Tryz.prog 148 := .of (by kernel_rfl)
instance : TEnter Tryz.prog 149 := .of (by kernel_rfl)
instance : TEnter Tryz.prog 150 := .of (by kernel_rfl)
instance : TEnter Tryz.prog 151 := .of (by kernel_rfl)
instance : TEnter Tryz.prog 152 := .of (by kernel_rfl)
instance : TEnter Tryz.prog 154 := .of (by kernel_rfl)
instance : TEnter Tryz.prog 155 := .of (by kernel_rfl)
instance : TEnter Tryz.prog 156 := .of (by kernel_rfl)
end Go.Proofs.YtkjjenppmmipmaaGreatDoor
namespace Go.Proofs
def Tryz.lays156_ren : Go.Shelf.Ren := ⟨fun | 156 => 15 | 165 => 34 | 166 => 35 | 169 => 36 | 240 => 62 | 241 => 63 | 276 => 88 | 277 => 89 | n => n, fun | 31 => 22 | 9 => 9 | 3 => 3 | 4 => 4 | 0 => 0 | 20 => 20 | 72 => 58 | 76 => 62 | 70 => 55 | 37 => 56 | 75 => 61 | 127 => 103 | 164 => 131 | 5 => 5 | 80 => 64 | n => n, fun | n => n⟩
theorem Tryz.lays156 : Go.Proofs.Lays.n156 Tryz.prog Tryz.lays156_ren := {
  mixed := by kernel_rfl
  f156 := Tryz.func15.trans (congrArg some (by kernel_rfl))
  f165 := Tryz.func34.trans (congrArg some (by kernel_rfl))
  f166 := Tryz.func35.trans (congrArg some (by kernel_rfl))
  f169 := Tryz.func36.trans (congrArg some (by kernel_rfl))
  f240 := Tryz.func62.trans (congrArg some (by kernel_rfl))
  f241 := Tryz.func63.trans (congrArg some (by kernel_rfl))
  f276 := Tryz.func88.trans (congrArg some (by kernel_rfl))
  f277 := Tryz.func89.trans (congrArg some (by kernel_rfl))
  t0 := Tryz.underlying0
  a0 := Tryz.isAgg0
  z0 := Tryz.sizeOf0
  v0 := Tryz.zeroValue0
  t3 := Tryz.underlying3
  a3 := Tryz.isAgg3
  z3 := Tryz.sizeOf3
  v3 := Tryz.zeroValue3
  t4 := Tryz.underlying4
  a4 := Tryz.isAgg4
  z4 := Tryz.sizeOf4
  v4 := Tryz.zeroValue4
  t9 := Tryz.underlying9
  a9 := Tryz.isAgg9
  z9 := Tryz.sizeOf9
  v9 := Tryz.zeroValue9
  t20 := Tryz.underlying20
  a20 := Tryz.isAgg20
  z20 := Tryz.sizeOf20
  v20 := Tryz.zeroValue20
  t31 := Tryz.underlying22
  a31 := Tryz.isAgg22
  z31 := Tryz.sizeOf22
  v31 := Tryz.zeroValue22
  t37 := Tryz.underlying56
  a37 := Tryz.isAgg56
  z37 := Tryz.sizeOf56
  v37 := Tryz.zeroValue56
  t70 := Tryz.underlying55
  a70 := Tryz.isAgg55
  z70 := Tryz.sizeOf55
  v70 := Tryz.zeroValue55
  t72 := Tryz.underlying58
  a72 := Tryz.isAgg58
  z72 := Tryz.sizeOf58
  v72 := Tryz.zeroValue58
  t75 := Tryz.underlying61
  a75 := Tryz.isAgg61
  z75 := Tryz.sizeOf61
  v75 := Tryz.zeroValue61
  t76 := Tryz.underlying62
  a76 := Tryz.isAgg62
  z76 := Tryz.sizeOf62
  v76 := Tryz.zeroValue62
  t127 := Tryz.underlying103
  a127 := Tryz.isAgg103
  z127 := Tryz.sizeOf103
  v127 := Tryz.zeroValue103
  t164 := Tryz.underlying131
  a164 := Tryz.isAgg131
  z164 := Tryz.sizeOf131
  v164 := Tryz.zeroValue131 }
theorem Tryz.Builder_Extra_156 : Builder.Extra Tryz.prog Tryz.lays156_ren := {
  sizeBuilder := by kernel_rfl
  liesBuilder := by kernel_rfl
  t5 := Tryz.underlying5
  a5 := Tryz.isAgg5
  z5 := Tryz.sizeOf5
  v5 := Tryz.zeroValue5
  infoByte := by kernel_rfl
  cellsByte := by kernel_rfl
  sizeByte := by kernel_rfl
  neB5 := by decide }
open Go.RowKit in
theorem Tryz.strings_Join_none (a : Option Addr) (c : Nat) (sep : ByteArray) (w : World) :
    Calls Tryz.prog 15 #[.slice a 0 c, .string sep] w fun e w' => e = .returned (.string ⟨#[]⟩) ∧ w' = w := Any.strings_Join_none Tryz.lays156 Tryz.Builder_Extra_156 a c sep w
open Go.RowKit in
theorem Tryz.strings_Join (bk o c : Nat) (xs : List ByteArray) (sep : ByteArray) (w : World) (hcells : ∀ (j : Nat) x, xs[j]? = some x → w.cell? ⟨bk, o + j, none⟩ = some (.string x)) (hbk : bk < w.heap.size) (hN : xs.length ≤ 140737488355328) (hcap : xs.length ≤ c) (hlen : (Lib.join (xs.map (·.data.toList)) sep.data.toList).length ≤ 140737488355328) :
    Calls Tryz.prog 15 #[.slice (some ⟨bk, o, none⟩) xs.length c, .string sep] w fun e w' => e = .returned (.string ⟨(Lib.join (xs.map (·.data.toList)) sep.data.toList).toArray⟩) ∧ Below w.heap.size w w' := Any.strings_Join Tryz.lays156 Tryz.Builder_Extra_156 bk o c xs sep w hcells hbk hN hcap hlen
def Tryz.lays160_ren : Go.Shelf.Ren := ⟨fun | 160 => 81 | 232 => 108 | 231 => 107 | 227 => 109 | 234 => 111 | 233 => 110 | 236 => 113 | 235 => 112 | 228 => 129 | 271 => 132 | 151 => 131 | 197 => 130 | 120 => 150 | 152 => 149 | 260 => 148 | 137 => 155 | 119 => 156 | 224 => 144 | 225 => 143 | 217 => 142 | 266 => 153 | n => n, fun | 9 => 9 | 4 => 4 | 3 => 3 | 5 => 5 | 117 => 149 | 116 => 148 | 0 => 0 | 124 => 152 | 21 => 21 | 105 => 164 | 46 => 76 | 119 => 182 | 139 => 185 | 138 => 184 | n => n, fun | 3 => 6 | 4 => 7 | n => n⟩
theorem Tryz.lays160 : Go.Proofs.Lays.n160 Tryz.prog Tryz.lays160_ren := {
  mixed := by kernel_rfl
  f119 := Tryz.func156.trans (congrArg some (by kernel_rfl))
  f120 := Tryz.func150.trans (congrArg some (by kernel_rfl))
  f137 := Tryz.func155.trans (congrArg some (by kernel_rfl))
  f151 := Tryz.func131.trans (congrArg some (by kernel_rfl))
  f152 := Tryz.func149.trans (congrArg some (by kernel_rfl))
  f160 := Tryz.func81.trans (congrArg some (by kernel_rfl))
  f197 := Tryz.func130.trans (congrArg some (by kernel_rfl))
  f217 := Tryz.func142.trans (congrArg some (by kernel_rfl))
  f224 := Tryz.func144.trans (congrArg some (by kernel_rfl))
  f225 := Tryz.func143.trans (congrArg some (by kernel_rfl))
  f227 := Tryz.func109.trans (congrArg some (by kernel_rfl))
  f228 := Tryz.func129.trans (congrArg some (by kernel_rfl))
  f231 := Tryz.func107.trans (congrArg some (by kernel_rfl))
  f232 := Tryz.func108.trans (congrArg some (by kernel_rfl))
  f233 := Tryz.func110.trans (congrArg some (by kernel_rfl))
  f234 := Tryz.func111.trans (congrArg some (by kernel_rfl))
  f235 := Tryz.func112.trans (congrArg some (by kernel_rfl))
  f236 := Tryz.func113.trans (congrArg some (by kernel_rfl))
  f260 := Tryz.func148.trans (congrArg some (by kernel_rfl))
  f266 := Tryz.func153.trans (congrArg some (by kernel_rfl))
  f271 := Tryz.func132.trans (congrArg some (by kernel_rfl))
  t0 := Tryz.underlying0
  a0 := Tryz.isAgg0
  z0 := Tryz.sizeOf0
  v0 := Tryz.zeroValue0
  t3 := Tryz.underlying3
  a3 := Tryz.isAgg3
  z3 := Tryz.sizeOf3
  v3 := Tryz.zeroValue3
  t4 := Tryz.underlying4
  a4 := Tryz.isAgg4
  z4 := Tryz.sizeOf4
  v4 := Tryz.zeroValue4
  t5 := Tryz.underlying5
  a5 := Tryz.isAgg5
  z5 := Tryz.sizeOf5
  v5 := Tryz.zeroValue5
  t9 := Tryz.underlying9
  a9 := Tryz.isAgg9
  z9 := Tryz.sizeOf9
  v9 := Tryz.zeroValue9
  t21 := Tryz.underlying21
  a21 := Tryz.isAgg21
  z21 := Tryz.sizeOf21
  v21 := Tryz.zeroValue21
  t46 := Tryz.underlying76
  a46 := Tryz.isAgg76
  z46 := Tryz.sizeOf76
  v46 := Tryz.zeroValue76
  t105 := Tryz.underlying164
  a105 := Tryz.isAgg164
  z105 := Tryz.sizeOf164
  v105 := Tryz.zeroValue164
  t116 := Tryz.underlying148
  a116 := Tryz.isAgg148
  z116 := Tryz.sizeOf148
  t117 := Tryz.underlying149
  a117 := Tryz.isAgg149
  z117 := Tryz.sizeOf149
  v117 := Tryz.zeroValue149
  t119 := Tryz.underlying182
  a119 := Tryz.isAgg182
  z119 := Tryz.sizeOf182
  t124 := Tryz.underlying152
  a124 := Tryz.isAgg152
  z124 := Tryz.sizeOf152
  v124 := Tryz.zeroValue152
  t138 := Tryz.underlying184
  a138 := Tryz.isAgg184
  z138 := Tryz.sizeOf184
  v138 := Tryz.zeroValue184
  t139 := Tryz.underlying185
  a139 := Tryz.isAgg185
  z139 := Tryz.sizeOf185
  v139 := Tryz.zeroValue185
  g3 := by kernel_rfl
  g4 := by kernel_rfl }
open Go.RowKit in
theorem Tryz.strings_Trim_one (s : ByteArray) (c : UInt8) (hc : c.toNat < 128) (w : World) (hs : s.size ≤ 9223372036854775807) :
    Calls Tryz.prog 81 #[.string s, .string ⟨#[c]⟩] w fun e w' => e = .returned (.string ⟨(Lib.trimB s.data.toList c).toArray⟩) ∧ (w' = w ∨ w' = w.drew) := Any.strings_Trim_one Tryz.lays160 s c hc w hs
def Tryz.lays103_ren : Go.Shelf.Ren := ⟨fun | 103 => 48 | 210 => 80 | 206 => 74 | n => n, fun | 9 => 9 | 4 => 4 | 24 => 46 | 3 => 3 | n => n, fun | n => n⟩
theorem Tryz.lays103 : Go.Proofs.Lays.n103 Tryz.prog Tryz.lays103_ren := {
  mixed := by kernel_rfl
  f103 := Tryz.func48.trans (congrArg some (by kernel_rfl))
  f206 := Tryz.func74.trans (congrArg some (by kernel_rfl))
  f210 := Tryz.func80.trans (congrArg some (by kernel_rfl))
  t3 := Tryz.underlying3
  a3 := Tryz.isAgg3
  z3 := Tryz.sizeOf3
  v3 := Tryz.zeroValue3
  t4 := Tryz.underlying4
  a4 := Tryz.isAgg4
  z4 := Tryz.sizeOf4
  v4 := Tryz.zeroValue4
  t9 := Tryz.underlying9
  a9 := Tryz.isAgg9
  z9 := Tryz.sizeOf9
  v9 := Tryz.zeroValue9
  t24 := Tryz.underlying46
  a24 := Tryz.isAgg46
  z24 := Tryz.sizeOf46
  v24 := Tryz.zeroValue46 }
open Go.RowKit in
theorem Tryz.strings_CutPrefix (s p : ByteArray) (w : World) :
    Calls Tryz.prog 48 #[.string s, .string p] w fun e w' => e = .returned (.tuple #[.string ⟨(Lib.trimPrefix s.data.toList p.data.toList).toArray⟩, .bool (Lib.hasPrefix s.data.toList p.data.toList)]) ∧ w' = w := Any.strings_CutPrefix Tryz.lays103 s p w
def Tryz.lays104_ren : Go.Shelf.Ren := ⟨fun | 104 => 84 | 211 => 116 | 207 => 139 | n => n, fun | 9 => 9 | 4 => 4 | 24 => 46 | 3 => 3 | n => n, fun | n => n⟩
theorem Tryz.lays104 : Go.Proofs.Lays.n104 Tryz.prog Tryz.lays104_ren := {
  mixed := by kernel_rfl
  f104 := Tryz.func84.trans (congrArg some (by kernel_rfl))
  f207 := Tryz.func139.trans (congrArg some (by kernel_rfl))
  f211 := Tryz.func116.trans (congrArg some (by kernel_rfl))
  t3 := Tryz.underlying3
  a3 := Tryz.isAgg3
  z3 := Tryz.sizeOf3
  v3 := Tryz.zeroValue3
  t4 := Tryz.underlying4
  a4 := Tryz.isAgg4
  z4 := Tryz.sizeOf4
  v4 := Tryz.zeroValue4
  t9 := Tryz.underlying9
  a9 := Tryz.isAgg9
  z9 := Tryz.sizeOf9
  v9 := Tryz.zeroValue9
  t24 := Tryz.underlying46
  a24 := Tryz.isAgg46
  z24 := Tryz.sizeOf46
  v24 := Tryz.zeroValue46 }
open Go.RowKit in
theorem Tryz.strings_CutSuffix (s p : ByteArray) (w : World) (hs : s.size ≤ 9223372036854775807) :
    Calls Tryz.prog 84 #[.string s, .string p] w fun e w' => e = .returned (.tuple #[.string ⟨(Lib.trimSuffix s.data.toList p.data.toList).toArray⟩, .bool (Lib.hasSuffix s.data.toList p.data.toList)]) ∧ w' = w := Any.strings_CutSuffix Tryz.lays104 s p w hs
def Tryz.lays283_ren : Go.Shelf.Ren := ⟨fun | 283 => 93 | n => n, fun | 3 => 3 | 9 => 9 | 4 => 4 | n => n, fun | n => n⟩
theorem Tryz.lays283 : Go.Proofs.Lays.n283 Tryz.prog Tryz.lays283_ren := {
  mixed := by kernel_rfl
  f283 := Tryz.func93.trans (congrArg some (by kernel_rfl))
  t3 := Tryz.underlying3
  a3 := Tryz.isAgg3
  z3 := Tryz.sizeOf3
  v3 := Tryz.zeroValue3
  t4 := Tryz.underlying4
  a4 := Tryz.isAgg4
  z4 := Tryz.sizeOf4
  v4 := Tryz.zeroValue4
  t9 := Tryz.underlying9
  a9 := Tryz.isAgg9
  z9 := Tryz.sizeOf9
  v9 := Tryz.zeroValue9 }
open Go.Lib in
theorem Tryz.internal_strconv_small (i : Nat) (h : i < 100) (w : World) :
    Calls Tryz.prog 93 #[.int .i64 i] w fun e w' => e = .returned (.string ⟨(Lib.decDigits i).toArray⟩) ∧ w' = w := Any.internal_strconv_small Tryz.lays283 i h w
def Tryz.laysM284_ren : Go.Shelf.Ren := ⟨fun | 284 => 94 | 129 => 122 | 317 => 121 | 318 => 123 | n => n, fun | 53 => 82 | 3 => 3 | 212 => 158 | 0 => 0 | 4 => 4 | 46 => 76 | 5 => 5 | 9 => 9 | n => n, fun | 17 => 1 | n => n⟩
theorem Tryz.laysM284 : Go.Proofs.LaysM.n284 Tryz.prog Tryz.laysM284_ren := {
  mixed := by kernel_rfl
  f129 := Tryz.func122.trans (congrArg some (by kernel_rfl))
  f284 := Tryz.func94.trans (congrArg some (by kernel_rfl))
  f317 := Tryz.func121.trans (congrArg some (by kernel_rfl))
  f318 := Tryz.func123.trans (congrArg some (by kernel_rfl))
  t0 := Tryz.underlying0
  a0 := Tryz.isAgg0
  z0 := Tryz.sizeOf0
  v0 := Tryz.zeroValue0
  t3 := Tryz.underlying3
  a3 := Tryz.isAgg3
  z3 := Tryz.sizeOf3
  v3 := Tryz.zeroValue3
  t4 := Tryz.underlying4
  a4 := Tryz.isAgg4
  z4 := Tryz.sizeOf4
  v4 := Tryz.zeroValue4
  t5 := Tryz.underlying5
  a5 := Tryz.isAgg5
  z5 := Tryz.sizeOf5
  v5 := Tryz.zeroValue5
  t9 := Tryz.underlying9
  a9 := Tryz.isAgg9
  z9 := Tryz.sizeOf9
  v9 := Tryz.zeroValue9
  t46 := Tryz.underlying76
  a46 := Tryz.isAgg76
  z46 := Tryz.sizeOf76
  v46 := Tryz.zeroValue76
  t53 := Tryz.underlying82
  a53 := Tryz.isAgg82
  z53 := Tryz.sizeOf82
  v53 := Tryz.zeroValue82
  t212 := Tryz.underlying158
  a212 := Tryz.isAgg158
  z212 := Tryz.sizeOf158
  v212 := Tryz.zeroValue158
  g17 := by kernel_rfl
  i0 := by kernel_rfl
  i3 := by kernel_rfl
  i4 := by kernel_rfl
  i5 := by kernel_rfl
  i9 := by kernel_rfl
  i46 := by kernel_rfl
  i53 := by kernel_rfl
  i212 := by kernel_rfl
  m17 := by kernel_rfl }
open Go.Lib in
theorem Tryz.internal_strconv_numDigits (u : Nat) (h1 : 1 ≤ u) (h2 : u < 18446744073709551616) (w : World) (htab : Lib.TabIs Tryz.prog w "internal/strconv.uint64pow10" .u64 Lib.pow10Tab) :
    Calls Tryz.prog 94 #[.int .u64 u] w fun e w' => e = .returned (.int .i64 (Lib.nDigits u)) ∧ w' = w := Any.internal_strconv_numDigits Tryz.laysM284 u h1 h2 w htab
def Tryz.lays285_ren : Go.Shelf.Ren := ⟨fun | 285 => 95 | n => n, fun | 37 => 56 | 53 => 82 | 3 => 3 | 4 => 4 | 51 => 83 | 9 => 9 | 5 => 5 | 0 => 0 | n => n, fun | n => n⟩
theorem Tryz.lays285 : Go.Proofs.Lays.n285 Tryz.prog Tryz.lays285_ren := {
  mixed := by kernel_rfl
  f285 := Tryz.func95.trans (congrArg some (by kernel_rfl))
  t0 := Tryz.underlying0
  a0 := Tryz.isAgg0
  z0 := Tryz.sizeOf0
  v0 := Tryz.zeroValue0
  t3 := Tryz.underlying3
  a3 := Tryz.isAgg3
  z3 := Tryz.sizeOf3
  v3 := Tryz.zeroValue3
  t4 := Tryz.underlying4
  a4 := Tryz.isAgg4
  z4 := Tryz.sizeOf4
  v4 := Tryz.zeroValue4
  t5 := Tryz.underlying5
  a5 := Tryz.isAgg5
  z5 := Tryz.sizeOf5
  v5 := Tryz.zeroValue5
  t9 := Tryz.underlying9
  a9 := Tryz.isAgg9
  z9 := Tryz.sizeOf9
  v9 := Tryz.zeroValue9
  t37 := Tryz.underlying56
  a37 := Tryz.isAgg56
  z37 := Tryz.sizeOf56
  v37 := Tryz.zeroValue56
  t51 := Tryz.underlying83
  a51 := Tryz.isAgg83
  z51 := Tryz.sizeOf83
  v51 := Tryz.zeroValue83
  t53 := Tryz.underlying82
  a53 := Tryz.isAgg82
  z53 := Tryz.sizeOf82
  v53 := Tryz.zeroValue82 }
open Go.RowKit Go.Sort Go.Lib in
theorem Tryz.internal_strconv_formatBase10 (blk off cap : Nat) (u : Nat) (d : Array UInt8) (w : World) (hH : Holds (fun (b : UInt8) => Value.int .u8 (b.toNat : Int)) w blk off d) (hu : u < 10 ^ d.size) (hu64 : u < 18446744073709551616) (hsz : d.size < 4611686018427387904) :
    Calls Tryz.prog 95 #[.slice (some ⟨blk, off, none⟩) d.size cap, .int .u64 u] w fun e w' =>
      e = .returned (.tuple #[]) ∧ ∃ (n v' : Nat) (dk : Array UInt8), w' = (putRow (fun (b : UInt8) => Value.int .u8 (b.toNat : Int)) w blk off dk).drewN n ∧ FmtInv d.size u 0 v' dk := Any.internal_strconv_formatBase10 Tryz.lays285 blk off cap u d w hH hu hu64 hsz
def Tryz.laysM171_ren : Go.Shelf.Ren := ⟨fun | 171 => 22 | 243 => 47 | 246 => 79 | 283 => 93 | 284 => 94 | 285 => 95 | 286 => 96 | 129 => 122 | 317 => 121 | 318 => 123 | 319 => 124 | 320 => 125 | 337 => 146 | 338 => 147 | n => n, fun | 3 => 3 | 9 => 9 | 2 => 2 | 4 => 4 | 171 => 135 | 0 => 0 | 53 => 82 | 37 => 56 | 5 => 5 | 173 => 138 | 212 => 158 | 51 => 83 | 20 => 20 | 213 => 159 | 46 => 76 | 232 => 180 | 233 => 181 | n => n, fun | 17 => 1 | 18 => 4 | 19 => 5 | n => n⟩
theorem Tryz.laysM171 : Go.Proofs.LaysM.n171 Tryz.prog Tryz.laysM171_ren := {
  mixed := by kernel_rfl
  f129 := Tryz.func122.trans (congrArg some (by kernel_rfl))
  f171 := Tryz.func22.trans (congrArg some (by kernel_rfl))
  f243 := Tryz.func47.trans (congrArg some (by kernel_rfl))
  f246 := Tryz.func79.trans (congrArg some (by kernel_rfl))
  f283 := Tryz.func93.trans (congrArg some (by kernel_rfl))
  f284 := Tryz.func94.trans (congrArg some (by kernel_rfl))
  f285 := Tryz.func95.trans (congrArg some (by kernel_rfl))
  f286 := Tryz.func96.trans (congrArg some (by kernel_rfl))
  f317 := Tryz.func121.trans (congrArg some (by kernel_rfl))
  f318 := Tryz.func123.trans (congrArg some (by kernel_rfl))
  f319 := Tryz.func124.trans (congrArg some (by kernel_rfl))
  f320 := Tryz.func125.trans (congrArg some (by kernel_rfl))
  f337 := Tryz.func146.trans (congrArg some (by kernel_rfl))
  f338 := Tryz.func147.trans (congrArg some (by kernel_rfl))
  t0 := Tryz.underlying0
  a0 := Tryz.isAgg0
  z0 := Tryz.sizeOf0
  v0 := Tryz.zeroValue0
  t2 := Tryz.underlying2
  a2 := Tryz.isAgg2
  z2 := Tryz.sizeOf2
  v2 := Tryz.zeroValue2
  t3 := Tryz.underlying3
  a3 := Tryz.isAgg3
  z3 := Tryz.sizeOf3
  v3 := Tryz.zeroValue3
  t4 := Tryz.underlying4
  a4 := Tryz.isAgg4
  z4 := Tryz.sizeOf4
  v4 := Tryz.zeroValue4
  t5 := Tryz.underlying5
  a5 := Tryz.isAgg5
  z5 := Tryz.sizeOf5
  v5 := Tryz.zeroValue5
  t9 := Tryz.underlying9
  a9 := Tryz.isAgg9
  z9 := Tryz.sizeOf9
  v9 := Tryz.zeroValue9
  t20 := Tryz.underlying20
  a20 := Tryz.isAgg20
  z20 := Tryz.sizeOf20
  v20 := Tryz.zeroValue20
  t37 := Tryz.underlying56
  a37 := Tryz.isAgg56
  z37 := Tryz.sizeOf56
  v37 := Tryz.zeroValue56
  t46 := Tryz.underlying76
  a46 := Tryz.isAgg76
  z46 := Tryz.sizeOf76
  v46 := Tryz.zeroValue76
  t51 := Tryz.underlying83
  a51 := Tryz.isAgg83
  z51 := Tryz.sizeOf83
  v51 := Tryz.zeroValue83
  t53 := Tryz.underlying82
  a53 := Tryz.isAgg82
  z53 := Tryz.sizeOf82
  v53 := Tryz.zeroValue82
  t171 := Tryz.underlying135
  a171 := Tryz.isAgg135
  z171 := Tryz.sizeOf135
  v171 := Tryz.zeroValue135
  t173 := Tryz.underlying138
  a173 := Tryz.isAgg138
  z173 := Tryz.sizeOf138
  v173 := Tryz.zeroValue138
  t212 := Tryz.underlying158
  a212 := Tryz.isAgg158
  z212 := Tryz.sizeOf158
  v212 := Tryz.zeroValue158
  t213 := Tryz.underlying159
  a213 := Tryz.isAgg159
  z213 := Tryz.sizeOf159
  t232 := Tryz.underlying180
  a232 := Tryz.isAgg180
  z232 := Tryz.sizeOf180
  v232 := Tryz.zeroValue180
  t233 := Tryz.underlying181
  a233 := Tryz.isAgg181
  z233 := Tryz.sizeOf181
  v233 := Tryz.zeroValue181
  g17 := by kernel_rfl
  g18 := by kernel_rfl
  g19 := by kernel_rfl
  i0 := by kernel_rfl
  i2 := by kernel_rfl
  i3 := by kernel_rfl
  i4 := by kernel_rfl
  i5 := by kernel_rfl
  i9 := by kernel_rfl
  i20 := by kernel_rfl
  i37 := by kernel_rfl
  i46 := by kernel_rfl
  i51 := by kernel_rfl
  i53 := by kernel_rfl
  i171 := by kernel_rfl
  i173 := by kernel_rfl
  i212 := by kernel_rfl
  i232 := by kernel_rfl
  i233 := by kernel_rfl
  m17 := by kernel_rfl
  m18 := by kernel_rfl
  m19 := by kernel_rfl }
open Go.RowKit Go.Sort Go.Lib in
theorem Tryz.strconv_Itoa (n : Int) (h0 : -9223372036854775808 ≤ n) (h1 : n ≤ 9223372036854775807) (w : World) (htab : Lib.TabIs Tryz.prog w "internal/strconv.uint64pow10" .u64 Lib.pow10Tab) :
    Calls Tryz.prog 22 #[.int .i64 n] w fun e w' => e = .returned (.string ⟨(Lib.itoa n).toArray⟩) ∧ ∃ k os, w' = grow (w.drewN k) os := Any.strconv_Itoa Tryz.laysM171 n h0 h1 w htab
def Tryz.laysPu14_ren : Go.Shelf.Ren := ⟨fun | 14 => 83 | 16 => 114 | 17 => 115 | 19 => 133 | 20 => 134 | 21 => 135 | 22 => 136 | 23 => 137 | 24 => 138 | 25 => 151 | 27 => 22 | 26 => 152 | 28 => 47 | 29 => 79 | 30 => 93 | 31 => 94 | 32 => 95 | 33 => 96 | 35 => 122 | 34 => 121 | 36 => 123 | 37 => 124 | 38 => 125 | 39 => 146 | 40 => 147 | n => n, fun | 9 => 9 | 3 => 3 | 22 => 82 | 24 => 61 | 25 => 127 | 4 => 4 | 34 => 167 | 5 => 5 | 36 => 76 | 37 => 56 | 0 => 0 | 39 => 169 | 21 => 21 | 44 => 177 | 47 => 103 | 50 => 189 | 48 => 187 | 2 => 2 | 52 => 135 | 55 => 138 | 59 => 158 | 60 => 83 | 20 => 20 | 61 => 159 | 65 => 180 | 66 => 181 | 67 => 64 | n => n, fun | 0 => 2 | 1 => 3 | 2 => 1 | 3 => 4 | 4 => 5 | n => n⟩
theorem Tryz.laysPu14 : Go.Proofs.LaysPu.n14 Tryz.prog Tryz.laysPu14_ren := {
  mixed := by kernel_rfl
  f14 := Tryz.func83.trans (congrArg some (by kernel_rfl))
  f16 := Tryz.func114.trans (congrArg some (by kernel_rfl))
  f17 := Tryz.func115.trans (congrArg some (by kernel_rfl))
  f19 := Tryz.func133.trans (congrArg some (by kernel_rfl))
  f20 := Tryz.func134.trans (congrArg some (by kernel_rfl))
  f21 := Tryz.func135.trans (congrArg some (by kernel_rfl))
  f22 := Tryz.func136.trans (congrArg some (by kernel_rfl))
  f23 := Tryz.func137.trans (congrArg some (by kernel_rfl))
  f24 := Tryz.func138.trans (congrArg some (by kernel_rfl))
  f25 := Tryz.func151.trans (congrArg some (by kernel_rfl))
  f26 := Tryz.func152.trans (congrArg some (by kernel_rfl))
  f27 := Tryz.func22.trans (congrArg some (by kernel_rfl))
  f28 := Tryz.func47.trans (congrArg some (by kernel_rfl))
  f29 := Tryz.func79.trans (congrArg some (by kernel_rfl))
  f30 := Tryz.func93.trans (congrArg some (by kernel_rfl))
  f31 := Tryz.func94.trans (congrArg some (by kernel_rfl))
  f32 := Tryz.func95.trans (congrArg some (by kernel_rfl))
  f33 := Tryz.func96.trans (congrArg some (by kernel_rfl))
  f34 := Tryz.func121.trans (congrArg some (by kernel_rfl))
  f35 := Tryz.func122.trans (congrArg some (by kernel_rfl))
  f36 := Tryz.func123.trans (congrArg some (by kernel_rfl))
  f37 := Tryz.func124.trans (congrArg some (by kernel_rfl))
  f38 := Tryz.func125.trans (congrArg some (by kernel_rfl))
  f39 := Tryz.func146.trans (congrArg some (by kernel_rfl))
  f40 := Tryz.func147.trans (congrArg some (by kernel_rfl))
  t0 := Tryz.underlying0
  a0 := Tryz.isAgg0
  z0 := Tryz.sizeOf0
  v0 := Tryz.zeroValue0
  i0 := by kernel_rfl
  t2 := Tryz.underlying2
  a2 := Tryz.isAgg2
  z2 := Tryz.sizeOf2
  v2 := Tryz.zeroValue2
  i2 := by kernel_rfl
  t3 := Tryz.underlying3
  a3 := Tryz.isAgg3
  z3 := Tryz.sizeOf3
  v3 := Tryz.zeroValue3
  i3 := by kernel_rfl
  t4 := Tryz.underlying4
  a4 := Tryz.isAgg4
  z4 := Tryz.sizeOf4
  v4 := Tryz.zeroValue4
  i4 := by kernel_rfl
  t5 := Tryz.underlying5
  a5 := Tryz.isAgg5
  z5 := Tryz.sizeOf5
  v5 := Tryz.zeroValue5
  i5 := by kernel_rfl
  t9 := Tryz.underlying9
  a9 := Tryz.isAgg9
  z9 := Tryz.sizeOf9
  v9 := Tryz.zeroValue9
  i9 := by kernel_rfl
  t20 := Tryz.underlying20
  a20 := Tryz.isAgg20
  z20 := Tryz.sizeOf20
  v20 := Tryz.zeroValue20
  i20 := by kernel_rfl
  t21 := Tryz.underlying21
  a21 := Tryz.isAgg21
  z21 := Tryz.sizeOf21
  v21 := Tryz.zeroValue21
  i21 := by kernel_rfl
  t22 := Tryz.underlying82
  a22 := Tryz.isAgg82
  z22 := Tryz.sizeOf82
  v22 := Tryz.zeroValue82
  i22 := by kernel_rfl
  t24 := Tryz.underlying61
  a24 := Tryz.isAgg61
  z24 := Tryz.sizeOf61
  v24 := Tryz.zeroValue61
  i24 := by kernel_rfl
  t25 := Tryz.underlying127
  a25 := Tryz.isAgg127
  z25 := Tryz.sizeOf127
  v25 := Tryz.zeroValue127
  i25 := by kernel_rfl
  t34 := Tryz.underlying167
  a34 := Tryz.isAgg167
  z34 := Tryz.sizeOf167
  v34 := Tryz.zeroValue167
  i34 := by kernel_rfl
  c34 := by kernel_rfl
  t36 := Tryz.underlying76
  a36 := Tryz.isAgg76
  z36 := Tryz.sizeOf76
  v36 := Tryz.zeroValue76
  i36 := by kernel_rfl
  t37 := Tryz.underlying56
  a37 := Tryz.isAgg56
  z37 := Tryz.sizeOf56
  v37 := Tryz.zeroValue56
  i37 := by kernel_rfl
  t39 := Tryz.underlying169
  a39 := Tryz.isAgg169
  z39 := Tryz.sizeOf169
  v39 := Tryz.zeroValue169
  i39 := by kernel_rfl
  t44 := Tryz.underlying177
  a44 := Tryz.isAgg177
  z44 := Tryz.sizeOf177
  v44 := Tryz.zeroValue177
  i44 := by kernel_rfl
  t47 := Tryz.underlying103
  a47 := Tryz.isAgg103
  z47 := Tryz.sizeOf103
  v47 := Tryz.zeroValue103
  i47 := by kernel_rfl
  t48 := Tryz.underlying187
  a48 := Tryz.isAgg187
  z48 := Tryz.sizeOf187
  v48 := Tryz.zeroValue187
  i48 := by kernel_rfl
  t50 := Tryz.underlying189
  a50 := Tryz.isAgg189
  z50 := Tryz.sizeOf189
  v50 := Tryz.zeroValue189
  i50 := by kernel_rfl
  t52 := Tryz.underlying135
  a52 := Tryz.isAgg135
  z52 := Tryz.sizeOf135
  v52 := Tryz.zeroValue135
  i52 := by kernel_rfl
  t55 := Tryz.underlying138
  a55 := Tryz.isAgg138
  z55 := Tryz.sizeOf138
  v55 := Tryz.zeroValue138
  i55 := by kernel_rfl
  t59 := Tryz.underlying158
  a59 := Tryz.isAgg158
  z59 := Tryz.sizeOf158
  v59 := Tryz.zeroValue158
  i59 := by kernel_rfl
  t60 := Tryz.underlying83
  a60 := Tryz.isAgg83
  z60 := Tryz.sizeOf83
  v60 := Tryz.zeroValue83
  i60 := by kernel_rfl
  t61 := Tryz.underlying159
  a61 := Tryz.isAgg159
  z61 := Tryz.sizeOf159
  t65 := Tryz.underlying180
  a65 := Tryz.isAgg180
  z65 := Tryz.sizeOf180
  v65 := Tryz.zeroValue180
  i65 := by kernel_rfl
  t66 := Tryz.underlying181
  a66 := Tryz.isAgg181
  z66 := Tryz.sizeOf181
  v66 := Tryz.zeroValue181
  i66 := by kernel_rfl
  t67 := Tryz.underlying64
  a67 := Tryz.isAgg64
  z67 := Tryz.sizeOf64
  v67 := Tryz.zeroValue64
  i67 := by kernel_rfl
  g0 := by kernel_rfl
  m0 := by kernel_rfl
  g1 := by kernel_rfl
  m1 := by kernel_rfl
  g2 := by kernel_rfl
  m2 := by kernel_rfl
  g3 := by kernel_rfl
  m3 := by kernel_rfl
  g4 := by kernel_rfl
  m4 := by kernel_rfl }
open Go.RowKit in
theorem Tryz.strconv_ParseUint_10_at32_ok (s : ByteArray) (hmax : s.size ≤ 9223372036854775806) (u : Nat) (h : Lib.parseUintB 32 s.data.toList = .ok u) (w : World) :
    Calls Tryz.prog 83 #[.string s, .int .i64 10, .int .i64 32] w fun e w' => e = .returned (.tuple #[.int .u64 u, .nilIface]) ∧ (w' = w ∨ w' = Lib.bytesWorld w 5 s) := Any.strconv_ParseUint_10_at32_ok Tryz.laysPu14 s hmax u h w
open Go.RowKit in
theorem Tryz.strconv_ParseUint_10_at32_syntax_var (s : ByteArray) (hlim : s.size ≤ 281474976710656) (h : (∀ u, Lib.parseUintB 32 s.data.toList ≠ .ok u) ∧ Lib.parseUintB 32 s.data.toList ≠ .range) (tp : TypeId) (p : Value) (w : World) (hvar : w.var? Tryz.prog "strconv.ErrSyntax" = some #[.iface tp p]) :
    Calls Tryz.prog 83 #[.string s, .int .i64 10, .int .i64 32] w fun e w' => ∃ N, e = .returned (.tuple #[.int .u64 0, .iface 169 (.pointer (some ⟨N, 0, none⟩))]) ∧ w.heap.size ≤ N ∧ w'.heap[N]? = some (.cells #[.string ⟨#[80, 97, 114, 115, 101, 85, 105, 110, 116]⟩, .string s, .iface tp p] 177 (0, 0)) ∧ Below w.heap.size w w' := by
  refine Any.strconv_ParseUint_10_at32_syntax_var Tryz.laysPu14 s hlim ?_ tp p w hvar
  cases hq : Lib.parseUintB 32 s.data.toList with
  | ok u => exact absurd hq (h.1 u)
  | range => exact absurd hq h.2
  | _ => rfl
open Go.RowKit in
theorem Tryz.strconv_ParseUint_10_at32_range_var (s : ByteArray) (hlim : s.size ≤ 281474976710656) (h : Lib.parseUintB 32 s.data.toList = .range) (tp : TypeId) (p : Value) (w : World) (hvar : w.var? Tryz.prog "strconv.ErrRange" = some #[.iface tp p]) :
    Calls Tryz.prog 83 #[.string s, .int .i64 10, .int .i64 32] w fun e w' => ∃ N, e = .returned (.tuple #[.int .u64 4294967295, .iface 169 (.pointer (some ⟨N, 0, none⟩))]) ∧ w.heap.size ≤ N ∧ w'.heap[N]? = some (.cells #[.string ⟨#[80, 97, 114, 115, 101, 85, 105, 110, 116]⟩, .string s, .iface tp p] 177 (0, 0)) ∧ Below w.heap.size w w' := Any.strconv_ParseUint_10_at32_range_var Tryz.laysPu14 s hlim h tp p w hvar
def Tryz.lays145_ren : Go.Shelf.Ren := ⟨fun | 145 => 65 | 220 => 91 | 219 => 120 | 217 => 142 | 225 => 143 | 224 => 144 | 267 => 145 | 266 => 153 | 314 => 154 | n => n, fun | 9 => 9 | 4 => 4 | 59 => 105 | 3 => 3 | 5 => 5 | 46 => 76 | 146 => 110 | 51 => 83 | n => n, fun | 1 => 0 | n => n⟩
theorem Tryz.lays145 : Go.Proofs.Lays.n145 Tryz.prog Tryz.lays145_ren := {
  mixed := by kernel_rfl
  f145 := Tryz.func65.trans (congrArg some (by kernel_rfl))
  f217 := Tryz.func142.trans (congrArg some (by kernel_rfl))
  f219 := Tryz.func120.trans (congrArg some (by kernel_rfl))
  f220 := Tryz.func91.trans (congrArg some (by kernel_rfl))
  f224 := Tryz.func144.trans (congrArg some (by kernel_rfl))
  f225 := Tryz.func143.trans (congrArg some (by kernel_rfl))
  f266 := Tryz.func153.trans (congrArg some (by kernel_rfl))
  f267 := Tryz.func145.trans (congrArg some (by kernel_rfl))
  f314 := Tryz.func154.trans (congrArg some (by kernel_rfl))
  t3 := Tryz.underlying3
  a3 := Tryz.isAgg3
  z3 := Tryz.sizeOf3
  v3 := Tryz.zeroValue3
  t4 := Tryz.underlying4
  a4 := Tryz.isAgg4
  z4 := Tryz.sizeOf4
  v4 := Tryz.zeroValue4
  t5 := Tryz.underlying5
  a5 := Tryz.isAgg5
  z5 := Tryz.sizeOf5
  v5 := Tryz.zeroValue5
  t9 := Tryz.underlying9
  a9 := Tryz.isAgg9
  z9 := Tryz.sizeOf9
  v9 := Tryz.zeroValue9
  t46 := Tryz.underlying76
  a46 := Tryz.isAgg76
  z46 := Tryz.sizeOf76
  v46 := Tryz.zeroValue76
  t51 := Tryz.underlying83
  a51 := Tryz.isAgg83
  z51 := Tryz.sizeOf83
  v51 := Tryz.zeroValue83
  t59 := Tryz.underlying105
  a59 := Tryz.isAgg105
  z59 := Tryz.sizeOf105
  v59 := Tryz.zeroValue105
  t146 := Tryz.underlying110
  a146 := Tryz.isAgg110
  z146 := Tryz.sizeOf110
  v146 := Tryz.zeroValue110
  g1 := by kernel_rfl }
open Go.RowKit Go.Lib in
theorem Tryz.strings_Cut (s sep : ByteArray) (m : Int) (w : World) (hs : s.size < 4294967281) (hm : w.cell? ⟨0, 0, none⟩ = some (.int .i64 m)) :
    Calls Tryz.prog 65 #[.string s, .string sep] w fun e w' => e = .returned (.tuple #[.string ⟨(Lib.cut s.data.toList sep.data.toList).1.toArray⟩, .string ⟨(Lib.cut s.data.toList sep.data.toList).2.1.toArray⟩, .bool (Lib.cut s.data.toList sep.data.toList).2.2]) ∧ ∃ n, w' = w.drewN n := Any.strings_Cut Tryz.lays145 s sep m w hs hm
def Tryz.lays146_ren : Go.Shelf.Ren := ⟨fun | 146 => 64 | 221 => 90 | 268 => 117 | 138 => 118 | 143 => 119 | 195 => 140 | 197 => 130 | 218 => 141 | 219 => 120 | 260 => 148 | 217 => 142 | 225 => 143 | 224 => 144 | 267 => 145 | 266 => 153 | 314 => 154 | n => n, fun | 9 => 9 | 31 => 22 | 3 => 3 | 4 => 4 | 0 => 0 | 105 => 164 | 21 => 21 | 5 => 5 | 46 => 76 | 119 => 182 | 139 => 185 | 138 => 184 | 146 => 110 | 51 => 83 | n => n, fun | 1 => 0 | 3 => 6 | 4 => 7 | n => n⟩
theorem Tryz.lays146 : Go.Proofs.Lays.n146 Tryz.prog Tryz.lays146_ren := {
  mixed := by kernel_rfl
  f138 := Tryz.func118.trans (congrArg some (by kernel_rfl))
  f143 := Tryz.func119.trans (congrArg some (by kernel_rfl))
  f146 := Tryz.func64.trans (congrArg some (by kernel_rfl))
  f195 := Tryz.func140.trans (congrArg some (by kernel_rfl))
  f197 := Tryz.func130.trans (congrArg some (by kernel_rfl))
  f217 := Tryz.func142.trans (congrArg some (by kernel_rfl))
  f218 := Tryz.func141.trans (congrArg some (by kernel_rfl))
  f219 := Tryz.func120.trans (congrArg some (by kernel_rfl))
  f221 := Tryz.func90.trans (congrArg some (by kernel_rfl))
  f224 := Tryz.func144.trans (congrArg some (by kernel_rfl))
  f225 := Tryz.func143.trans (congrArg some (by kernel_rfl))
  f260 := Tryz.func148.trans (congrArg some (by kernel_rfl))
  f266 := Tryz.func153.trans (congrArg some (by kernel_rfl))
  f267 := Tryz.func145.trans (congrArg some (by kernel_rfl))
  f268 := Tryz.func117.trans (congrArg some (by kernel_rfl))
  f314 := Tryz.func154.trans (congrArg some (by kernel_rfl))
  t0 := Tryz.underlying0
  a0 := Tryz.isAgg0
  z0 := Tryz.sizeOf0
  v0 := Tryz.zeroValue0
  t3 := Tryz.underlying3
  a3 := Tryz.isAgg3
  z3 := Tryz.sizeOf3
  v3 := Tryz.zeroValue3
  t4 := Tryz.underlying4
  a4 := Tryz.isAgg4
  z4 := Tryz.sizeOf4
  v4 := Tryz.zeroValue4
  t5 := Tryz.underlying5
  a5 := Tryz.isAgg5
  z5 := Tryz.sizeOf5
  v5 := Tryz.zeroValue5
  t9 := Tryz.underlying9
  a9 := Tryz.isAgg9
  z9 := Tryz.sizeOf9
  v9 := Tryz.zeroValue9
  t21 := Tryz.underlying21
  a21 := Tryz.isAgg21
  z21 := Tryz.sizeOf21
  v21 := Tryz.zeroValue21
  t31 := Tryz.underlying22
  a31 := Tryz.isAgg22
  z31 := Tryz.sizeOf22
  v31 := Tryz.zeroValue22
  t46 := Tryz.underlying76
  a46 := Tryz.isAgg76
  z46 := Tryz.sizeOf76
  v46 := Tryz.zeroValue76
  t51 := Tryz.underlying83
  a51 := Tryz.isAgg83
  z51 := Tryz.sizeOf83
  v51 := Tryz.zeroValue83
  t105 := Tryz.underlying164
  a105 := Tryz.isAgg164
  z105 := Tryz.sizeOf164
  v105 := Tryz.zeroValue164
  t119 := Tryz.underlying182
  a119 := Tryz.isAgg182
  z119 := Tryz.sizeOf182
  t138 := Tryz.underlying184
  a138 := Tryz.isAgg184
  z138 := Tryz.sizeOf184
  v138 := Tryz.zeroValue184
  t139 := Tryz.underlying185
  a139 := Tryz.isAgg185
  z139 := Tryz.sizeOf185
  v139 := Tryz.zeroValue185
  t146 := Tryz.underlying110
  a146 := Tryz.isAgg110
  z146 := Tryz.sizeOf110
  v146 := Tryz.zeroValue110
  g1 := by kernel_rfl
  g3 := by kernel_rfl
  g4 := by kernel_rfl }
open Go.RowKit Go.Lib in
theorem Tryz.strings_Split (s sep : ByteArray) (m : Int) (w : World) (hs : s.size < 4294967281) (hm : w.cell? ⟨0, 0, none⟩ = some (.int .i64 m)) (h1 : 1 ≤ sep.size) :
    Calls Tryz.prog 64 #[.string s, .string sep] w fun e w' =>
      e = .returned (.slice (some ⟨w.heap.size, 0, none⟩) (Lib.countB s sep + 1) (Lib.countB s sep + 1)) ∧ w' = w.alloc (.cells ((Lib.splitB sep 0 (Lib.countB s sep) s).map Value.string).toArray 9) := Any.strings_Split Tryz.lays146 (by kernel_rfl) s sep m w hs hm h1
def Tryz.lays105_ren : Go.Shelf.Ren := ⟨fun | 105 => 18 | 212 => 40 | 99 => 41 | 165 => 34 | 166 => 35 | 170 => 42 | 169 => 36 | 263 => 72 | 264 => 73 | 206 => 74 | 240 => 62 | 241 => 63 | 276 => 88 | 277 => 89 | n => n, fun | 9 => 9 | 3 => 3 | 4 => 4 | 20 => 20 | 0 => 0 | 46 => 76 | 109 => 77 | 5 => 5 | 72 => 58 | 76 => 62 | 51 => 83 | 146 => 110 | 53 => 82 | 148 => 112 | 70 => 55 | 37 => 56 | 75 => 61 | 127 => 103 | 164 => 131 | 80 => 64 | n => n, fun | n => n⟩
theorem Tryz.lays105 : Go.Proofs.Lays.n105 Tryz.prog Tryz.lays105_ren := {
  mixed := by kernel_rfl
  f99 := Tryz.func41.trans (congrArg some (by kernel_rfl))
  f105 := Tryz.func18.trans (congrArg some (by kernel_rfl))
  f165 := Tryz.func34.trans (congrArg some (by kernel_rfl))
  f166 := Tryz.func35.trans (congrArg some (by kernel_rfl))
  f169 := Tryz.func36.trans (congrArg some (by kernel_rfl))
  f170 := Tryz.func42.trans (congrArg some (by kernel_rfl))
  f206 := Tryz.func74.trans (congrArg some (by kernel_rfl))
  f212 := Tryz.func40.trans (congrArg some (by kernel_rfl))
  f240 := Tryz.func62.trans (congrArg some (by kernel_rfl))
  f241 := Tryz.func63.trans (congrArg some (by kernel_rfl))
  f263 := Tryz.func72.trans (congrArg some (by kernel_rfl))
  f264 := Tryz.func73.trans (congrArg some (by kernel_rfl))
  f276 := Tryz.func88.trans (congrArg some (by kernel_rfl))
  f277 := Tryz.func89.trans (congrArg some (by kernel_rfl))
  t0 := Tryz.underlying0
  a0 := Tryz.isAgg0
  z0 := Tryz.sizeOf0
  v0 := Tryz.zeroValue0
  t3 := Tryz.underlying3
  a3 := Tryz.isAgg3
  z3 := Tryz.sizeOf3
  v3 := Tryz.zeroValue3
  t4 := Tryz.underlying4
  a4 := Tryz.isAgg4
  z4 := Tryz.sizeOf4
  v4 := Tryz.zeroValue4
  t5 := Tryz.underlying5
  a5 := Tryz.isAgg5
  z5 := Tryz.sizeOf5
  v5 := Tryz.zeroValue5
  t9 := Tryz.underlying9
  a9 := Tryz.isAgg9
  z9 := Tryz.sizeOf9
  v9 := Tryz.zeroValue9
  t20 := Tryz.underlying20
  a20 := Tryz.isAgg20
  z20 := Tryz.sizeOf20
  v20 := Tryz.zeroValue20
  t37 := Tryz.underlying56
  a37 := Tryz.isAgg56
  z37 := Tryz.sizeOf56
  v37 := Tryz.zeroValue56
  t46 := Tryz.underlying76
  a46 := Tryz.isAgg76
  z46 := Tryz.sizeOf76
  v46 := Tryz.zeroValue76
  t51 := Tryz.underlying83
  a51 := Tryz.isAgg83
  z51 := Tryz.sizeOf83
  v51 := Tryz.zeroValue83
  t53 := Tryz.underlying82
  a53 := Tryz.isAgg82
  z53 := Tryz.sizeOf82
  v53 := Tryz.zeroValue82
  t70 := Tryz.underlying55
  a70 := Tryz.isAgg55
  z70 := Tryz.sizeOf55
  v70 := Tryz.zeroValue55
  t72 := Tryz.underlying58
  a72 := Tryz.isAgg58
  z72 := Tryz.sizeOf58
  v72 := Tryz.zeroValue58
  t75 := Tryz.underlying61
  a75 := Tryz.isAgg61
  z75 := Tryz.sizeOf61
  v75 := Tryz.zeroValue61
  t76 := Tryz.underlying62
  a76 := Tryz.isAgg62
  z76 := Tryz.sizeOf62
  v76 := Tryz.zeroValue62
  t109 := Tryz.underlying77
  a109 := Tryz.isAgg77
  z109 := Tryz.sizeOf77
  v109 := Tryz.zeroValue77
  t127 := Tryz.underlying103
  a127 := Tryz.isAgg103
  z127 := Tryz.sizeOf103
  v127 := Tryz.zeroValue103
  t146 := Tryz.underlying110
  a146 := Tryz.isAgg110
  z146 := Tryz.sizeOf110
  v146 := Tryz.zeroValue110
  t148 := Tryz.underlying112
  a148 := Tryz.isAgg112
  z148 := Tryz.sizeOf112
  v148 := Tryz.zeroValue112
  t164 := Tryz.underlying131
  a164 := Tryz.isAgg131
  z164 := Tryz.sizeOf131
  v164 := Tryz.zeroValue131 }
theorem Tryz.Builder_Extra_105 : Builder.Extra Tryz.prog Tryz.lays105_ren := {
  sizeBuilder := by kernel_rfl
  liesBuilder := by kernel_rfl
  t5 := Tryz.underlying5
  a5 := Tryz.isAgg5
  z5 := Tryz.sizeOf5
  v5 := Tryz.zeroValue5
  infoByte := by kernel_rfl
  cellsByte := by kernel_rfl
  sizeByte := by kernel_rfl
  neB5 := by decide }
open Go.RowKit Go.Lib in
theorem Tryz.strings_Repeat_main (s : ByteArray) (c : Nat) (w : World) (hc2 : 2 ≤ c) (hc : c ≤ 9223372036854775807) (hlen : s.size * c ≤ 140737488355328) (h0 : 0 < s.size) :
    Calls Tryz.prog 18 #[.string s, .int .i64 c] w fun e w' => e = .returned (.string ⟨(Lib.repeatL s.data.toList c).toArray⟩) ∧ Below w.heap.size w w' := Any.strings_Repeat_main Tryz.lays105 Tryz.Builder_Extra_105 s c w hc2 hc hlen h0
open Go.RowKit Go.Lib in
theorem Tryz.strings_Repeat_zero (s : ByteArray) (w : World) :
    Calls Tryz.prog 18 #[.string s, .int .i64 0] w fun e w' => e = .returned (.string ⟨#[]⟩) ∧ w' = w := Any.strings_Repeat_zero Tryz.lays105 s w
open Go.RowKit Go.Lib in
theorem Tryz.strings_Repeat_one (s : ByteArray) (w : World) :
    Calls Tryz.prog 18 #[.string s, .int .i64 1] w fun e w' => e = .returned (.string s) ∧ w' = w := Any.strings_Repeat_one Tryz.lays105 s w
open Go.RowKit Go.Lib in
theorem Tryz.strings_Repeat_empty (s : ByteArray) (c : Nat) (w : World) (hc2 : 2 ≤ c) (hc : c ≤ 9223372036854775807) (h0 : s.size = 0) :
    Calls Tryz.prog 18 #[.string s, .int .i64 c] w fun e w' => e = .returned (.string ⟨#[]⟩) ∧ w' = w := Any.strings_Repeat_empty Tryz.lays105 s c w hc2 hc h0
open Go.RowKit Go.Lib in
theorem Tryz.strings_Repeat (s : ByteArray) (c : Nat) (w : World) (hc : c ≤ 9223372036854775807) (hlen : s.size * c ≤ 140737488355328) :
    Calls Tryz.prog 18 #[.string s, .int .i64 c] w fun e w' => e = .returned (.string ⟨(Lib.repeatL s.data.toList c).toArray⟩) ∧ Below w.heap.size w w' := Any.strings_Repeat Tryz.lays105 Tryz.Builder_Extra_105 s c w hc hlen
end Go.Proofs
namespace Go.Proofs.YtkjjenppmmipmaaGreatDoor
open Go Go.Shelf Go.RowKit Go.Sort Go.Lib
set_option maxHeartbeats 6400000
set_option maxRecDepth 100000
theorem formatUint_main (u : Nat) (hu64 : u < 18446744073709551616) (w : World) (htab : Lib.TabIs Tryz.prog w "internal/strconv.uint64pow10" .u64 Lib.pow10Tab) :
    Calls Tryz.prog 76 #[.int .u64 u, .int .i64 10] w fun e w' => e = .returned (.string ⟨(Lib.decDigits u).toArray⟩) ∧ Below w.heap.size w w' := by
  have mixed : Tryz.prog.follows .mixedOrders = true := by kernel_rfl
  have t3 := Tryz.underlying3; have a3 := Tryz.isAgg3; have z3 := Tryz.sizeOf3; have v3 := Tryz.zeroValue3
  have t9 := Tryz.underlying9; have a9 := Tryz.isAgg9; have z9 := Tryz.sizeOf9; have v9 := Tryz.zeroValue9
  have t4 := Tryz.underlying4; have a4 := Tryz.isAgg4; have z4 := Tryz.sizeOf4; have v4 := Tryz.zeroValue4
  have t142 := Tryz.underlying135; have a142 := Tryz.isAgg135; have z142 := Tryz.sizeOf135; have v142 := Tryz.zeroValue135
  have t0 := Tryz.underlying0; have a0 := Tryz.isAgg0; have z0 := Tryz.sizeOf0; have v0 := Tryz.zeroValue0
  have t119 := Tryz.underlying82; have a119 := Tryz.isAgg82; have z119 := Tryz.sizeOf82; have v119 := Tryz.zeroValue82
  have t85 := Tryz.underlying56; have a85 := Tryz.isAgg56; have z85 := Tryz.sizeOf56; have v85 := Tryz.zeroValue56
  have t5 := Tryz.underlying5; have a5 := Tryz.isAgg5; have z5 := Tryz.sizeOf5; have v5 := Tryz.zeroValue5
  have e137 : ∀ args w, (callFunc 93 args).run Tryz.prog w = .ok (.enter 93 args) w := enters_of Tryz.func93 (by kernel_rfl) rfl
  have e138 : ∀ args w, (callFunc 94 args).run Tryz.prog w = .ok (.enter 94 args) w := enters_of Tryz.func94 (by kernel_rfl) rfl
  have e139 : ∀ args w, (callFunc 95 args).run Tryz.prog w = .ok (.enter 95 args) w := enters_of Tryz.func95 (by kernel_rfl) rfl
  by_cases hs : u < 100
  · go_enter Tryz.func76, Tryz.ntmps76
    go_wp2_with (go_at_fn (93); refine (Tryz.internal_strconv_small u hs _).mono ?_; rintro e w' ⟨rfl, rfl⟩)
    go_ret
    exact ⟨rfl, Below.refl _ _⟩
  · have hu1 : 1 ≤ u := by omega
    have hnd20 : Lib.nDigits u ≤ 20 := by have := Lib.numDigits_eq u hu1 hu64; split at this <;> omega
    have hal : Tryz.prog.arrayLen 135 = 24 := by simp [Program.arrayLen, Tryz.underlying135]
    have hsl : ∀ W, (Instr.sliceAt 135 (.pointer (some ⟨w.heap.size, 0, none⟩)) none (some (.int .i64 (Lib.nDigits u : Int))) none).run Tryz.prog W = .ok (.slice (some ⟨w.heap.size, 0, none⟩) (Lib.nDigits u) 24) W := fun W => by
      rw [run_sliceAt_array_h W 135 ⟨w.heap.size, 0, none⟩ (by simp [Program.arrayLen, Program.elem, Tryz.underlying135]) .i64 (Lib.nDigits u : Int) (by omega) (by rw [hal]; omega)]
      go_simp
    have hH0 := Lib.holds_zero0 w 135 (Lib.nDigits u) (by omega)
    have hfmt := Tryz.internal_strconv_formatBase10 w.heap.size 0 24 u (Array.replicate (Lib.nDigits u) 0) (w.alloc (.cells Lib.zeros24 135)) hH0 (by rw [Array.size_replicate]; exact Lib.lt_pow_nDigits u) hu64 (by rw [Array.size_replicate]; omega)
    rw [Array.size_replicate] at hfmt
    have HH0 := Lib.hid hH0
    clear hH0 hal
    go_enter Tryz.func76, Tryz.ntmps76
    go_wp2_with (first
      | (go_at_fn (94); refine (Tryz.internal_strconv_numDigits u hu1 hu64 _ (Lib.tabIs_alloc htab _)).mono ?_; rintro e w' ⟨rfl, rfl⟩))
    go_at_fn (95)
    refine hfmt.mono ?_
    rintro e w' ⟨rfl, k, v', dk, rfl, hF⟩
    have hcv : (convert 56 9 (.slice (some ⟨w.heap.size, 0, none⟩) (Lib.nDigits u) 24)).run Tryz.prog ((putRow (fun (b : UInt8) => Value.int .u8 (b.toNat : Int)) (w.alloc (.cells Lib.zeros24 135)) w.heap.size 0 dk).drewN k) = .ok (.string ⟨(Lib.decDigits u).toArray⟩) ((putRow (fun (b : UInt8) => Value.int .u8 (b.toNat : Int)) (w.alloc (.cells Lib.zeros24 135)) w.heap.size 0 dk).drewN k) := by
      have h := run_convert_bytes_back (P := Tryz.prog) ((putRow (fun (b : UInt8) => Value.int .u8 (b.toNat : Int)) (w.alloc (.cells Lib.zeros24 135)) w.heap.size 0 dk).drewN k) 56 9 5 ⟨w.heap.size, 0, none⟩ 24 (Lib.decDigits u) Tryz.underlying56 Tryz.underlying5 Tryz.underlying9 (fun j hj => by
        rw [Lib.row_is_numeral hF j hj, Lib.add_plain, World.cell?_drewN]
        exact cell?_putRow (fun (b : UInt8) => Value.int .u8 (b.toNat : Int)) _ w.heap.size 0 _ dk HH0.out (by rw [hF.size, Array.size_replicate]) j (by rw [hF.size]; rw [Lib.decDigits_length] at hj; exact hj))
      rw [Lib.decDigits_length] at h
      exact h
    go_wp2
    go_ret
    refine ⟨rfl, ?_⟩
    obtain ⟨os, eo⟩ := Lib.fin_at w (.cells Lib.zeros24 135) dk k 0
    rw [eo]
    exact Lib.below_grow _ w (Nat.le_refl _) k os
end Go.Proofs.YtkjjenppmmipmaaGreatDoor
namespace Go.Stele
@[reducible] def cv (c : UInt8) : Int := (c.toNat : Int)
def isDigit (c : UInt8) : Bool := decide (48 ≤ cv c) && decide (cv c ≤ 57)
def isLetter (c : UInt8) : Bool := decide (97 ≤ cv c) && decide (cv c ≤ 122)
def isInner (c : UInt8) : Bool := isLetter c || isDigit c || decide (cv c = 95)
def notNl (c : UInt8) : Bool := !decide (cv c = 10)
def isWhite (c : UInt8) : Bool := decide (cv c = 32) || decide (cv c = 9) || decide (cv c = 10)
structure Tok where
  kind : Int
  text : List UInt8
  line : Int
  deriving DecidableEq, Inhabited
end Go.Stele
namespace Go.Stele
theorem takeWhile_step {p : UInt8 → Bool} {s : List UInt8} {m : Nat} (hm : m < s.length) (h : s.takeWhile p = s.take m ++ (s.drop m).takeWhile p) :
    (p s[m] = true → s.takeWhile p = s.take (m + 1) ++ (s.drop (m + 1)).takeWhile p) ∧ (p s[m] = false → s.takeWhile p = s.take m) := by
  have h1 : s.drop m = s[m] :: s.drop (m + 1) := List.drop_eq_getElem_cons hm
  constructor
  · intro hp
    rw [h, h1, List.takeWhile_cons_of_pos hp, List.take_succ_eq_append_getElem hm]
    simp only [List.append_assoc, List.singleton_append]
  · intro hp
    rw [h, h1, List.takeWhile_cons_of_neg (by simp [hp])]
    simp
theorem takeWhile_end {p : UInt8 → Bool} {s : List UInt8} {m : Nat} (hm : s.length ≤ m) (h : s.takeWhile p = s.take m ++ (s.drop m).takeWhile p) : s.takeWhile p = s.take m := by
  rw [h, List.drop_eq_nil_of_le hm]
  simp
def skipLen (s : List UInt8) : Nat := if [47, 47].isPrefixOf s then (s.takeWhile notNl).length else (s.takeWhile isWhite).length
end Go.Stele
/- What the lexer computes, in plain Lean: tokens. -/
namespace Go.Stele
def zeroTok : Tok := ⟨0, [], 0⟩
/-- A token, its length, an error. -/
abbrev TokR := Tok × Nat × Int
def tokErr (e : Int) : TokR := (zeroTok, 0, e)
def wordNext (s : List UInt8) (n : Nat) : Bool := match s[n]? with
  | some c => isLetter c || decide (cv c = 95)
  | none => false
def lexNumber (s : List UInt8) : TokR :=
  if wordNext s (s.takeWhile isDigit).length then tokErr 3 else
    match Go.Lib.parseUintB 32 (s.takeWhile isDigit) with
    | .ok u => (⟨1, Go.Lib.decDigits u, 0⟩, (s.takeWhile isDigit).length, 0)
    | _ => tokErr 2
def lexLiteral : List UInt8 → TokR
  | _ :: b :: c :: _ => if (!decide (cv c = 39)) || decide (cv b < 32) || decide (126 < cv b) || decide (cv b = 39) || decide (cv b = 92) then tokErr 3 else (⟨1, Go.Lib.decDigits b.toNat, 0⟩, 3, 0)
  | _ => tokErr 3
def keywords : List (List UInt8) := [[97, 114, 114, 97, 121], [101, 108, 115, 101], [102, 117, 110, 99], [104, 97, 108, 116], [105, 102], [114, 101, 116, 117, 114, 110], [118, 97, 114], [119, 104, 105, 108, 101]]
def signs : List (List UInt8) := [[38, 38], [124, 124], [61, 61], [33, 61], [60, 61], [62, 61], [60], [62], [94], [43], [45], [42], [47], [37], [33], [61], [40], [41], [123], [125], [91], [93], [44], [59]]
def lexName (s : List UInt8) : TokR :=
  if 24 < (s.takeWhile isInner).length then tokErr 7 else (⟨if keywords.contains (s.takeWhile isInner) then 3 else 2, s.takeWhile isInner, 0⟩, (s.takeWhile isInner).length, 0)
def lexSign (s : List UInt8) : TokR := match signs.find? (fun x => x.isPrefixOf s) with
  | some x => (⟨4, x, 0⟩, x.length, 0)
  | none => tokErr 3
def lexToken (s : List UInt8) : TokR := match s with
  | [] => tokErr 3
  | c :: _ => if isDigit c then lexNumber s else if isLetter c then lexName s else if decide (cv c = 39) then lexLiteral s else lexSign s
/-- The tokens of s, whose first line has this number; or the line and the error. -/
def lexP : Nat → List UInt8 → Int → Except (Int × Int) (List Tok)
  | 0, _, _ => .ok []
  | fuel + 1, s, line =>
    if s = [] then .ok [] else
    if skipLen s = 0 then
      if (lexToken s).2.2 ≠ 0 then .error (line, (lexToken s).2.2)
      else (lexP fuel (s.drop (lexToken s).2.1) (line + ((s.take (lexToken s).2.1).count 10 : Nat))).map ({ (lexToken s).1 with line := line } :: ·)
    else lexP fuel (s.drop (skipLen s)) (line + ((s.take (skipLen s)).count 10 : Nat))
end Go.Stele
namespace Go.Stele
theorem takeWhile_le (p : UInt8 → Bool) (s : List UInt8) : (s.takeWhile p).length ≤ s.length := (List.takeWhile_prefix p).length_le
theorem lexToken_size (s : List UInt8) (h : (lexToken s).2.2 = 0) : 0 < (lexToken s).2.1 ∧ (lexToken s).2.1 ≤ s.length := by
  match s with
  | [] => simp [lexToken, tokErr] at h
  | c :: r =>
    simp only [lexToken] at h ⊢
    split at h <;> rename_i hc
    · rw [if_pos hc]
      unfold lexNumber at h ⊢
      split at h
      · simp [tokErr] at h
      · rename_i hw
        rw [if_neg hw]
        split at h
        · rename_i u hu
          refine ⟨?_, takeWhile_le _ _⟩
          rw [List.takeWhile_cons_of_pos hc]
          simp
        · simp [tokErr] at h
    · rw [if_neg hc]
      split at h <;> rename_i hl
      · rw [if_pos hl]
        unfold lexName at h ⊢
        split at h
        · simp [tokErr] at h
        · rename_i hw
          rw [if_neg hw]
          refine ⟨?_, takeWhile_le _ _⟩
          rw [List.takeWhile_cons_of_pos (by simp [isInner, hl])]
          simp
      · rw [if_neg hl]
        split at h <;> rename_i hq
        · rw [if_pos hq]
          unfold lexLiteral at h ⊢
          split at h
          · split at h
            · simp [tokErr] at h
            · rename_i hx
              rename_i heq
              rw [if_neg hx, heq]
              simp
          · simp [tokErr] at h
        · rw [if_neg hq]
          unfold lexSign at h ⊢
          split at h
          · rename_i x hx
            have h1 := List.find?_some hx
            have h2 := List.mem_of_find?_eq_some hx
            refine ⟨?_, (List.isPrefixOf_iff_prefix.1 h1).length_le⟩
            have : ∀ x ∈ signs, 0 < x.length := by decide
            exact this x h2
          · simp [tokErr] at h
theorem skipLen_le (s : List UInt8) : skipLen s ≤ s.length := by
  unfold skipLen
  split <;> exact takeWhile_le _ _
end Go.Stele
