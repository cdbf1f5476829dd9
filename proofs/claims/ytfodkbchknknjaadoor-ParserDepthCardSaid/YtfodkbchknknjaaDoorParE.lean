/- How syntax trees lie in memory. -/
import Derived.Test.YtfodkbchknknjaaDoorParP2
import Derived.Test.YtfodkbchknknjaaDoorParEq
set_option linter.unusedVariables false
set_option linter.unusedSimpArgs false
namespace Go.Proofs.YtfodkbchknknjaaDoor
open Go.GL Go.RowKit Go.Stele
mutual
def encArgs : Ex → List LV
  | .mk _ _ _ a => encEs a
def encEs : List Ex → List LV
  | [] => []
  | e :: r => .agg [str (exOp e), int .u32 (exNum e), str (exName e), .list (encArgs e)] :: encEs r
end
def encE (e : Ex) : LV := .agg [str (exOp e), int .u32 (exNum e), str (exName e), .list (encArgs e)]
theorem encEs_map : ∀ l : List Ex, encEs l = l.map encE
  | [] => by simp [encEs]
  | e :: r => by rw [encEs, encEs_map r]; rfl
theorem encArgs_map (o : List UInt8) (n : Nat) (nm : List UInt8) (a : List Ex) : encArgs (.mk o n nm a) = a.map encE := by rw [encArgs, encEs_map]
theorem encE_mk (o : List UInt8) (n : Nat) (nm : List UInt8) (a : List Ex) : encE (.mk o n nm a) = .agg [str o, int .u32 n, str nm, .list (a.map encE)] := by rw [encE, encArgs_map]; rfl
mutual
def encThen : Sm → List LV
  | .mk _ _ _ _ t _ => encSs t
def encElse : Sm → List LV
  | .mk _ _ _ _ _ e => encSs e
def encSs : List Sm → List LV
  | [] => []
  | s :: r => .agg [int .i64 (smKind s), str (smName s), .list ((smIndex s).map encE), .list ((smValue s).map encE), .list (encThen s), .list (encElse s)] :: encSs r
end
def encS (s : Sm) : LV := .agg [int .i64 (smKind s), str (smName s), .list ((smIndex s).map encE), .list ((smValue s).map encE), .list (encThen s), .list (encElse s)]
theorem encSs_map : ∀ l : List Sm, encSs l = l.map encS
  | [] => by simp [encSs]
  | e :: r => by rw [encSs, encSs_map r]; rfl
theorem encS_mk (k : Int) (n : List UInt8) (i v : List Ex) (t e : List Sm) : encS (.mk k n i v t e) = .agg [int .i64 k, str n, .list (i.map encE), .list (v.map encE), .list (t.map encS), .list (e.map encS)] := by
  rw [encS, encThen, encElse, encSs_map, encSs_map]; rfl
def encAr (a : Ar) : LV := .agg [str a.name, int .i64 a.size]
def encFn (f : FnD) : LV := .agg [str f.name, .list (f.params.map str), .list (f.locals.map str), .list (f.body.map encS)]
def encPr (p : Pr) : LV := .agg [.list (p.vars.map str), .list (p.arrays.map encAr), .list (p.funcs.map encFn)]
end Go.Proofs.YtfodkbchknknjaaDoor
