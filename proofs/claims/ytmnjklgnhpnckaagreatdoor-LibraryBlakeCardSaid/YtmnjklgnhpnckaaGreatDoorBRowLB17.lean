import Derived.JoinedCond
import Derived.JoinedOf
import Derived.Test.YtmnjklgnhpnckaaGreatDoorBRowLB16
set_option linter.unusedVariables false
set_option linter.unusedSimpArgs false
set_option maxRecDepth 100000
set_option maxHeartbeats 4000000
open Go.GL (zk)
namespace Go.Proofs.YtmnjklgnhpnckaaGreatDoor
open Go.ChangeShapes Go.WideShapes Go.ChangeAt Go.RowKit Go.Deep Go.Joins
open Go.GL (LV Live wb la Jb cd)
def fu(W:World):Live:=λb=>match W.heap[b]? with
 |some (.cells c _ _)=>c.size
 |_=>0
theorem qvs{W:World}{b:Nat}(h:W.heap.size<=b):fu W b=0:=by unfold fu;rw[Array.getElem?_eq_none h]
theorem qzP{W:World}(h8:8<=W.heap.size):Go.GL.Ma (KC 8 W) W (fu W) []:=qy3 h8 λb hb=>qvs hb
section
variable{W:World}
theorem qtW{c:LV}{cs:List LV}{v:Value}{vs:List Value}(h:la W (fu W) [c] [v])(h2:la W (fu W) cs vs):la W (fu W) (c::cs) (v::vs):=by simp only[la] at h ⊢;obtain⟨y,ys,e,h1,rfl⟩:=h;simp only[List.cons.injEq] at e;obtain⟨rfl,_⟩:=e;exact⟨v,vs,rfl,h1,h2⟩
theorem qvL:la W (fu W) [] []:=by simp only[la]
end
end Go.Proofs.YtmnjklgnhpnckaaGreatDoor
namespace Go.Proofs.YtmnjklgnhpnckaaGreatDoor.Jn
open Go
theorem j2:laidOutB Tryz.prog=true:=zk
theorem j3:mapsRowed Tryz.prog=true:=zk
theorem j7:(Tryz.prog.stops == [])=true:=zk
theorem j9:(Tryz.prog.stopKnobs == [])=true:=zk
theorem j22:(Rows.libraryBlakeRow.plainKeys == Tryz.prog.plainKeys)=true:=zk
theorem T0:Tryz.prog.stopsHeard=true:=zk
theorem j24:Tryz.prog.mayEnter=true:=zk
theorem R0:(Rows.libraryBlakeRow.lifted == Tryz.prog.liftsFinal)=true:=zk
theorem Q0:(Tryz.prog.make == some Rows.libraryBlakeRow.make)=true:=zk
theorem OJ{f:FuncId}{fn:Func}{s:ChangeSpec}{c:OpenClaim}
  (e22:c.plainKeys=Rows.libraryBlakeRow.plainKeys) (F6:c.lifted=Rows.libraryBlakeRow.lifted) (E6:c.make=Rows.libraryBlakeRow.make)
  (k1:c.wf (OpenSpec.ofChange s)=true) (k4:(fn.params.all (Tryz.prog.readableRec ·))=true) (k5:namedTie Tryz.prog c.named s.vars=true)
  (k6:(c.stops == [])=true) (k8:(c.knobs == [])=true)
  (k10:(c.inPlace == Tryz.prog.inPlace f)=true) (k11:(c.unfollowed == Tryz.prog.unfollowed f)=true) (k12:(c.recurses == Tryz.prog.recurses f)=true) (k13:(c.named == Tryz.prog.varsNamed f)=true)
  (k14:(c.maps == (fn.params.toList++s.plain.varTypes Tryz.prog).any (Tryz.prog.mapsRec ·))=true) (k15:(c.ifaces == (fn.params.toList++s.plain.varTypes Tryz.prog).any (Tryz.prog.ifacesRec ·))=true)
  (k16:(c.mapsOut == Tryz.prog.mapsAmong fn.resultTypes.toList)=true)
  (k17:(c.loops == (fn.params.toList++s.plain.varTypes Tryz.prog).any (Tryz.prog.loopsFrom ·))=true) (P0:(c.wideKeys == (fn.params.toList++s.plain.varTypes Tryz.prog++fn.resultTypes.toList).any (Tryz.prog.wideKeysFrom ·))=true)
  (k18:s.vars.all (Tryz.prog.varReadable ·)=true) (k19:fn.resultTypes.all (λt=>Tryz.prog.readableRec t && decide (t<Tryz.prog.types.size))=true)
  (k20:(c.ifacesOut == fn.resultTypes.toList.any (Tryz.prog.ifacesRec ·))=true) (k21:(c.loopsOut == fn.resultTypes.toList.any (Tryz.prog.loopsFrom ·))=true)
  (k23:c.shortTexts.isNone=true) (k25:(c.kinds == (if c.domain.isEmpty then [] else fn.params.toList.map λt=>match Tryz.prog.underlying t with|some (.int k)=>some k|_=>none))=true)
  (k26:(c.pinned == c.pinnedBy)=true) (k27:(c.veiled == (fn.params.toList++s.plain.varTypes Tryz.prog++fn.resultTypes.toList).any (Tryz.prog.veiledRec ·))=true)
  (k28:c.veiledFits Tryz.prog fn.params.toList (fn.params.toList++s.plain.varTypes Tryz.prog++fn.resultTypes.toList)=true) :
  joinedFacts Tryz.prog f fn s c=true:=by
 have m22:(c.plainKeys == Tryz.prog.plainKeys)=true:=by rw[e22];exact j22
 have M0:(c.lifted == Tryz.prog.liftsFinal)=true:=by rw[F6];exact R0
 have K0:(Tryz.prog.make == some c.make)=true:=by rw[E6];exact Q0
 unfold joinedFacts;simp only[Yc];exact⟨⟨⟨⟨⟨⟨⟨⟨⟨⟨⟨⟨⟨⟨⟨⟨⟨⟨⟨⟨⟨⟨⟨⟨⟨⟨⟨⟨⟨⟨⟨k1,j2⟩,j3⟩,k4⟩,k5⟩,k6⟩,j7⟩,k8⟩,j9⟩,k10⟩,k11⟩,k12⟩,k13⟩,k14⟩,k15⟩,k16⟩,k17⟩,P0⟩,k18⟩,k19⟩,k20⟩,k21⟩,m22⟩,k23⟩,T0⟩,j24⟩,M0⟩,K0⟩,k25⟩,k26⟩,k27⟩,k28⟩
end Go.Proofs.YtmnjklgnhpnckaaGreatDoor.Jn
namespace Go.Proofs.YtmnjklgnhpnckaaGreatDoor
open Go.ChangeShapes Go.WideShapes Go.ChangeAt Go.RowKit Go.Deep Go.Joins
theorem qAj{W:World}(h:laidMetH Tryz.prog uf W)(hs:W.ShapedOpen Tryz.prog):Pp.GW 8 W:=by
 have h0:laidMet Tryz.prog uf W:=h;have he : laidMet Tryz.prog [("strconv.ErrSyntax", Rows.laid_strconv_ErrSyntax)] W := h0.filter (fun x => x.1 == "strconv.ErrSyntax");obtain⟨ps,⟨g,t,cs,ua,p,q,hg,ht,Pv,hd,_,_⟩,_⟩:=he;have ox : Tryz.prog.globalNamed "strconv.ErrSyntax" = some 1 := by kernel_rfl
 obtain rfl:=Option.some.inj (ox.symm.trans hg);have T1:(Tryz.prog.globals[1]?).map (·.type)=some 94:=by kernel_rfl
 obtain rfl:=Option.some.inj (T1.symm.trans ht);obtain⟨ms,Au⟩:∃ ms,Tryz.prog.underlying 94=some (.interface ms):=(inferInstance:Go.GL.jh Tryz.prog 94).De;refine⟨(qlP h hs).1,o8 hs,?_⟩;obtain⟨_,u,v,Nz,_,_⟩:=iface_of_trod Au hd;refine⟨u,v,?_⟩;rw[Pv];congr 1;exact Array.ext' (by simpa using Nz)
end Go.Proofs.YtmnjklgnhpnckaaGreatDoor
