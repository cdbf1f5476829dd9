/- Texts joined: CmpLf, CmpLfA, JnC. -/
import Derived.Test.YthmhncflhnbedaaGreatDoorTie
import Derived.JoinedCond
import Derived.JoinedOf
import Derived.Test.YthmhncflhnbedaaGreatDoorBRowCB6
import Derived.Test.YthmhncflhnbedaaGreatDoorBRowCB10
import Derived.Test.YthmhncflhnbedaaGreatDoorBRowCB16
set_option linter.unusedVariables false
set_option linter.unusedSimpArgs false
set_option maxRecDepth 100000
set_option maxHeartbeats 4000000
namespace Go.Proofs.YthmhncflhnbedaaGreatDoor
open Go.ChangeShapes Go.WideShapes Go.ChangeAt Go.RowKit Go.Deep Go.Joins
open Go.GL (LV Live Rep RepL RepC qas)
def allL (W:World):Live:=fun b=>match W.heap[b]? with
 |some (.cells c _ _)=>c.size
 |_=>0
theorem qrc {W:World} {b:Nat} (h:W.heap.size<=b):allL W b=0:=by
 unfold allL;rw[Array.getElem?_eq_none h]
end Go.Proofs.YthmhncflhnbedaaGreatDoor
namespace Go.Proofs.YthmhncflhnbedaaGreatDoor
open Go.ChangeShapes Go.WideShapes Go.ChangeAt Go.RowKit Go.Deep Go.Joins
open Go.GL (LV Live Rep RepL RepC qas)
theorem qsE {W:World} (h8:8<=W.heap.size):Go.GL.RelH (KC 8 W) W (allL W) []:=qsc h8 fun b hb=>qrc hb
section
variable {W:World}
theorem qlW {c:LV} {cs:List LV} {v:Value} {vs:List Value} (h:RepL W (allL W) [c] [v]) (h2:RepL W (allL W) cs vs):RepL W (allL W) (c::cs) (v::vs):=by
 simp only[RepL] at h ⊢;obtain ⟨y,ys,e,h1,rfl⟩:=h;simp only[List.cons.injEq] at e;obtain ⟨rfl,_⟩:=e;exact ⟨v,vs,rfl,h1,h2⟩
theorem qqQ:RepL W (allL W) [] []:=by simp only[RepL]
end
end Go.Proofs.YthmhncflhnbedaaGreatDoor
namespace Go.Proofs.YthmhncflhnbedaaGreatDoor.Jn
open Go
theorem j2:laidOutB Tryz.prog=true:=by kernel_rfl
theorem j3:mapsRowed Tryz.prog=true:=by kernel_rfl
theorem j7:(Tryz.prog.stops == [])=true:=by kernel_rfl
theorem j9:(Tryz.prog.stopKnobs == [])=true:=by kernel_rfl
theorem j22:(Rows.compilerBuildRow.plainKeys == Tryz.prog.plainKeys)=true:=by kernel_rfl
theorem j23b:Tryz.prog.stopsHeard=true:=by kernel_rfl
theorem j24:Tryz.prog.mayEnter=true:=by kernel_rfl
theorem j24b:(Rows.compilerBuildRow.lifted == Tryz.prog.liftsFinal)=true:=by kernel_rfl
theorem j24c:(Tryz.prog.make == some Rows.compilerBuildRow.make)=true:=by kernel_rfl
theorem joined {f:FuncId} {fn:Func} {s:ChangeSpec} {c:OpenClaim}
  (e22:c.plainKeys=Rows.compilerBuildRow.plainKeys) (e24b:c.lifted=Rows.compilerBuildRow.lifted) (e24c:c.make=Rows.compilerBuildRow.make)
  (k1:c.wf (OpenSpec.ofChange s)=true) (k4:(fn.params.all (Tryz.prog.readableRec ·))=true) (k5:namedTie Tryz.prog c.named s.vars=true)
  (k6:(c.stops == [])=true) (k8:(c.knobs == [])=true)
  (k10:(c.inPlace == Tryz.prog.inPlace f)=true) (k11:(c.unfollowed == Tryz.prog.unfollowed f)=true) (k12:(c.recurses == Tryz.prog.recurses f)=true) (k13:(c.named == Tryz.prog.varsNamed f)=true)
  (k14:(c.maps == (fn.params.toList++s.plain.varTypes Tryz.prog).any (Tryz.prog.mapsRec ·))=true) (k15:(c.ifaces == (fn.params.toList++s.plain.varTypes Tryz.prog).any (Tryz.prog.ifacesRec ·))=true)
  (k16:(c.mapsOut == Tryz.prog.mapsAmong fn.resultTypes.toList)=true)
  (k17:(c.loops == (fn.params.toList++s.plain.varTypes Tryz.prog).any (Tryz.prog.loopsFrom ·))=true) (k17b:(c.wideKeys == (fn.params.toList++s.plain.varTypes Tryz.prog++fn.resultTypes.toList).any (Tryz.prog.wideKeysFrom ·))=true)
  (k18:s.vars.all (Tryz.prog.varReadable ·)=true) (k19:fn.resultTypes.all (fun t=>Tryz.prog.readableRec t && decide (t<Tryz.prog.types.size))=true)
  (k20:(c.ifacesOut == fn.resultTypes.toList.any (Tryz.prog.ifacesRec ·))=true) (k21:(c.loopsOut == fn.resultTypes.toList.any (Tryz.prog.loopsFrom ·))=true)
  (k23:c.shortTexts.isNone=true) (k25:(c.kinds == (if c.domain.isEmpty then [] else fn.params.toList.map fun t=>match Tryz.prog.underlying t with|some (.int k)=>some k|_=>none))=true)
  (k26:(c.pinned == c.pinnedBy)=true) (k27:(c.veiled == (fn.params.toList++s.plain.varTypes Tryz.prog++fn.resultTypes.toList).any (Tryz.prog.veiledRec ·))=true)
  (k28:c.veiledFits Tryz.prog fn.params.toList (fn.params.toList++s.plain.varTypes Tryz.prog++fn.resultTypes.toList)=true) :
  joinedFacts Tryz.prog f fn s c=true:=by
 have m22:(c.plainKeys == Tryz.prog.plainKeys)=true:=by rw[e22];exact j22
 have m24b:(c.lifted == Tryz.prog.liftsFinal)=true:=by rw[e24b];exact j24b
 have m24c:(Tryz.prog.make == some c.make)=true:=by rw[e24c];exact j24c
 unfold joinedFacts;simp only[zBa];exact ⟨⟨⟨⟨⟨⟨⟨⟨⟨⟨⟨⟨⟨⟨⟨⟨⟨⟨⟨⟨⟨⟨⟨⟨⟨⟨⟨⟨⟨⟨⟨k1,j2⟩,j3⟩,k4⟩,k5⟩,k6⟩,j7⟩,k8⟩,j9⟩,k10⟩,k11⟩,k12⟩,k13⟩,k14⟩,k15⟩,k16⟩,k17⟩,k17b⟩,k18⟩,k19⟩,k20⟩,k21⟩,m22⟩,k23⟩,j23b⟩,j24⟩,m24b⟩,m24c⟩,k25⟩,k26⟩,k27⟩,k28⟩
end Go.Proofs.YthmhncflhnbedaaGreatDoor.Jn
