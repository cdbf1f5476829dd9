/- Texts joined: PtLift. -/
import Derived.Test.YtdakelgkjdaijaaGreatDoorBRowP25
import Derived.Test.YtdakelgkjdaijaaGreatDoorBRowP28
set_option linter.unusedVariables false
set_option linter.unusedSimpArgs false
namespace Go.Proofs.YtdakelgkjdaijaaGreatDoor
open Go.ChangeShapes Go.WideShapes Go.ChangeAt Go.RowKit Go.Deep Go.Joins
set_option maxRecDepth 100000
theorem pgw_of {W : World} (h : laidMetH Tryz.prog lst W) (hs : W.ShapedOpen Tryz.prog) : Pp.GW 8 W := by
 have h0 : laidMet Tryz.prog lst W := h
 have he : laidMet Tryz.prog [("strconv.ErrSyntax", Rows.laid_strconv_ErrSyntax)] W := h0.filter (fun x => x.1 == "strconv.ErrSyntax")
 obtain ⟨ps, ⟨g, t, cs, fuel, p, q, hg, ht, hvar, hd, _, _⟩, _⟩ := he
 have hg' : Tryz.prog.globalNamed "strconv.ErrSyntax" = some 4 := by kernel_rfl
 obtain rfl := Option.some.inj (hg'.symm.trans hg)
 have ht' : (Tryz.prog.globals[4]?).map (·.type) = some 72 := by kernel_rfl
 obtain rfl := Option.some.inj (ht'.symm.trans ht)
 obtain ⟨ms, hms⟩ : ∃ ms, Tryz.prog.underlying 72 = some (.interface ms) := (inferInstance : Go.GL.TIface Tryz.prog 72).und
 refine ⟨(gw_of_laid h hs).1, gm_of hs, ?_⟩
 obtain ⟨_, u, v, hcs, _, _⟩ := iface_of_trod hms hd
 refine ⟨u, v, ?_⟩
 rw [hvar]
 congr 1
 exact Array.ext' (by simpa using hcs)
theorem u8_of {n : Int} (h : (Lit.int .u8 n).wf = true) : ∃ a : Nat, n = (a : Int) ∧ a < 256 := by
 simp [Lit.wf] at h
 refine ⟨n.toNat, ?_, ?_⟩
 all_goals have := h
 all_goals simp [IntKind.has, IntKind.min, IntKind.max, IntKind.signed, IntKind.bits] at this
 all_goals omega
end Go.Proofs.YtdakelgkjdaijaaGreatDoor
