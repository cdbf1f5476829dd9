import Derived.JoinedCond
import Derived.JoinedOf
import Derived.Test.YtkihibnffkpnkaaGreatDoorBRowLR16
set_option linter.unusedVariables false
set_option linter.unusedSimpArgs false
set_option maxRecDepth 100000
set_option maxHeartbeats 4000000
open Go.GL (zk)
namespace Go.Proofs.YtkihibnffkpnkaaGreatDoor
open Go.ChangeShapes Go.WideShapes Go.ChangeAt Go.RowKit Go.Deep Go.Joins
open Go.GL (LV Live Rep RepL RepC qak)
def allL(W:World):Live:=λb=>match W.heap[b]? with
 |some (.cells c _ _)=>c.size
 |_=>0
theorem qtK{W:World}{b:Nat}(h:W.heap.size<=b):allL W b=0:=by
 unfold allL;rw[Array.getElem?_eq_none h]
theorem qxD{W:World}(h8:8<=W.heap.size):Go.GL.RelH (KC 8 W) W (allL W) []:=qwX h8 λb hb=>qtK hb
section
variable{W:World}
theorem qsA{c:LV}{cs:List LV}{v:Value}{vs:List Value}(h:RepL W (allL W) [c] [v])(h2:RepL W (allL W) cs vs):RepL W (allL W) (c::cs) (v::vs):=by
 simp only[RepL] at h ⊢;obtain⟨y,ys,e,h1,rfl⟩:=h;simp only[List.cons.injEq] at e;obtain⟨rfl,_⟩:=e;exact⟨v,vs,rfl,h1,h2⟩
theorem qt2:RepL W (allL W) [] []:=by simp only[RepL]
end
end Go.Proofs.YtkihibnffkpnkaaGreatDoor
namespace Go.Proofs.YtkihibnffkpnkaaGreatDoor.Jn
open Go
theorem j2:laidOutB Tryz.prog=true:=by kernel_rfl
theorem j3:mapsRowed Tryz.prog=true:=by kernel_rfl
theorem j7:(Tryz.prog.stops == [])=true:=by kernel_rfl
theorem j9:(Tryz.prog.stopKnobs == [])=true:=by kernel_rfl
theorem j22:(Rows.libraryCrcRow.plainKeys == Tryz.prog.plainKeys)=true:=by kernel_rfl
theorem j23b:Tryz.prog.stopsHeard=true:=by kernel_rfl
theorem j24:Tryz.prog.mayEnter=true:=by kernel_rfl
theorem j24b:(Rows.libraryCrcRow.lifted == Tryz.prog.liftsFinal)=true:=by kernel_rfl
theorem j24c:(Tryz.prog.make == some Rows.libraryCrcRow.make)=true:=by kernel_rfl
theorem joined{f:FuncId}{fn:Func}{s:ChangeSpec}{c:OpenClaim}
  (e22:c.plainKeys=Rows.libraryCrcRow.plainKeys) (e24b:c.lifted=Rows.libraryCrcRow.lifted) (e24c:c.make=Rows.libraryCrcRow.make)
  (k1:c.wf (OpenSpec.ofChange s)=true) (k4:(fn.params.all (Tryz.prog.readableRec ·))=true) (k5:namedTie Tryz.prog c.named s.vars=true)
  (k6:(c.stops == [])=true) (k8:(c.knobs == [])=true)
  (k10:(c.inPlace == Tryz.prog.inPlace f)=true) (k11:(c.unfollowed == Tryz.prog.unfollowed f)=true) (k12:(c.recurses == Tryz.prog.recurses f)=true) (k13:(c.named == Tryz.prog.varsNamed f)=true)
  (k14:(c.maps == (fn.params.toList++s.plain.varTypes Tryz.prog).any (Tryz.prog.mapsRec ·))=true) (k15:(c.ifaces == (fn.params.toList++s.plain.varTypes Tryz.prog).any (Tryz.prog.ifacesRec ·))=true)
  (k16:(c.mapsOut == Tryz.prog.mapsAmong fn.resultTypes.toList)=true)
  (k17:(c.loops == (fn.params.toList++s.plain.varTypes Tryz.prog).any (Tryz.prog.loopsFrom ·))=true) (k17b:(c.wideKeys == (fn.params.toList++s.plain.varTypes Tryz.prog++fn.resultTypes.toList).any (Tryz.prog.wideKeysFrom ·))=true)
  (k18:s.vars.all (Tryz.prog.varReadable ·)=true) (k19:fn.resultTypes.all (λt=>Tryz.prog.readableRec t && decide (t<Tryz.prog.types.size))=true)
  (k20:(c.ifacesOut == fn.resultTypes.toList.any (Tryz.prog.ifacesRec ·))=true) (k21:(c.loopsOut == fn.resultTypes.toList.any (Tryz.prog.loopsFrom ·))=true)
  (k23:c.shortTexts.isNone=true) (k25:(c.kinds == (if c.domain.isEmpty then [] else fn.params.toList.map λt=>match Tryz.prog.underlying t with|some (.int k)=>some k|_=>none))=true)
  (k26:(c.pinned == c.pinnedBy)=true) (k27:(c.veiled == (fn.params.toList++s.plain.varTypes Tryz.prog++fn.resultTypes.toList).any (Tryz.prog.veiledRec ·))=true)
  (k28:c.veiledFits Tryz.prog fn.params.toList (fn.params.toList++s.plain.varTypes Tryz.prog++fn.resultTypes.toList)=true) :
  joinedFacts Tryz.prog f fn s c=true:=by
 have m22:(c.plainKeys == Tryz.prog.plainKeys)=true:=by rw[e22];exact j22
 have m24b:(c.lifted == Tryz.prog.liftsFinal)=true:=by rw[e24b];exact j24b
 have m24c:(Tryz.prog.make == some c.make)=true:=by rw[e24c];exact j24c
 unfold joinedFacts;simp only[zBa];exact⟨⟨⟨⟨⟨⟨⟨⟨⟨⟨⟨⟨⟨⟨⟨⟨⟨⟨⟨⟨⟨⟨⟨⟨⟨⟨⟨⟨⟨⟨⟨k1,j2⟩,j3⟩,k4⟩,k5⟩,k6⟩,j7⟩,k8⟩,j9⟩,k10⟩,k11⟩,k12⟩,k13⟩,k14⟩,k15⟩,k16⟩,k17⟩,k17b⟩,k18⟩,k19⟩,k20⟩,k21⟩,m22⟩,k23⟩,j23b⟩,j24⟩,m24b⟩,m24c⟩,k25⟩,k26⟩,k27⟩,k28⟩
end Go.Proofs.YtkihibnffkpnkaaGreatDoor.Jn
namespace Go.Proofs.YtkihibnffkpnkaaGreatDoor
open Go.ChangeShapes Go.WideShapes Go.ChangeAt Go.RowKit Go.Deep Go.Joins
theorem qx9{W:World}(h:laidMetH Tryz.prog lst W)(hs:W.ShapedOpen Tryz.prog):Pp.GW 8 W:=by
 have h0:laidMet Tryz.prog lst W:=h
 have he : laidMet Tryz.prog [("strconv.ErrSyntax", Rows.laid_strconv_ErrSyntax)] W := h0.filter (fun x => x.1 == "strconv.ErrSyntax")
 obtain⟨ps,⟨g,t,cs,fuel,p,q,hg,ht,hvar,hd,_,_⟩,_⟩:=he
 have hg' : Tryz.prog.globalNamed "strconv.ErrSyntax" = some 1 := by kernel_rfl
 obtain rfl:=Option.some.inj (hg'.symm.trans hg);have ht':(Tryz.prog.globals[1]?).map (·.type)=some 71:=by kernel_rfl
 obtain rfl:=Option.some.inj (ht'.symm.trans ht);obtain⟨ms,hms⟩:∃ ms,Tryz.prog.underlying 71=some (.interface ms):=(inferInstance:Go.GL.TIface Tryz.prog 71).und;refine⟨(qk3 h hs).1,qxN hs,?_⟩;obtain⟨_,u,v,hcs,_,_⟩:=iface_of_trod hms hd;refine⟨u,v,?_⟩;rw[hvar];congr 1;exact Array.ext' (by simpa using hcs)
end Go.Proofs.YtkihibnffkpnkaaGreatDoor
