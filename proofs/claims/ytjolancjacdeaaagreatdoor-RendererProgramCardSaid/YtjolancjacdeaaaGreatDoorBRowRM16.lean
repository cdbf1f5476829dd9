import Derived.JoinedCond
import Derived.JoinedOf
import Derived.Test.YtjolancjacdeaaaGreatDoorBRowRM15
set_option linter.unusedVariables false
set_option linter.unusedSimpArgs false
set_option maxRecDepth 100000
set_option maxHeartbeats 4000000
open Go.GL (zk)
namespace Go.Proofs.YtjolancjacdeaaaGreatDoor
open Go.ChangeShapes Go.WideShapes Go.ChangeAt Go.RowKit Go.Deep Go.Joins
open Go.GL (LV Live Wa na pb Cc)
def Wp(W:World):Live:=λb=>match W.heap[b]? with
 |some (.cells c _ _)=>c.size
 |_=>0
theorem P9{W:World}{b:Nat}(h:W.heap.size<=b):Wp W b=0:=by unfold Wp;rw[Array.getElem?_eq_none h]
theorem T3{W:World}(h8:8<=W.heap.size):Go.GL.Ca (KC 8 W) W (Wp W) []:=W5 h8 λb hb=>P9 hb
section
variable{W:World}
theorem qrQ{c:LV}{cs:List LV}{v:Value}{vs:List Value}(h:na W (Wp W) [c] [v])(h2:na W (Wp W) cs vs):na W (Wp W) (c::cs) (v::vs):=by simp only[na] at h ⊢;obtain⟨y,ys,e,h1,rfl⟩:=h;simp only[List.cons.injEq] at e;obtain⟨rfl,_⟩:=e;exact⟨v,vs,rfl,h1,h2⟩
theorem M7:na W (Wp W) [] []:=by simp only[na]
end
end Go.Proofs.YtjolancjacdeaaaGreatDoor
namespace Go.Proofs.YtjolancjacdeaaaGreatDoor.Jn
open Go
theorem j2:laidOutB Tryz.prog=true:=zk
theorem j3:mapsRowed Tryz.prog=true:=zk
theorem j7:(Tryz.prog.stops == [])=true:=zk
theorem j9:(Tryz.prog.stopKnobs == [])=true:=zk
theorem j22:(Rows.rendererProgramRow.plainKeys == Tryz.prog.plainKeys)=true:=zk
theorem CR:Tryz.prog.stopsHeard=true:=zk
theorem j24:Tryz.prog.mayEnter=true:=zk
theorem BR:(Rows.rendererProgramRow.lifted == Tryz.prog.liftsFinal)=true:=zk
theorem AR:(Tryz.prog.make == some Rows.rendererProgramRow.make)=true:=zk
theorem yD{f:FuncId}{fn:Func}{s:ChangeSpec}{c:OpenClaim}
  (e22:c.plainKeys=Rows.rendererProgramRow.plainKeys) (KT:c.lifted=Rows.rendererProgramRow.lifted) (JT:c.make=Rows.rendererProgramRow.make)
  (k1:c.wf (OpenSpec.ofChange s)=true) (k4:(fn.params.all (Tryz.prog.readableRec ·))=true) (k5:namedTie Tryz.prog c.named s.vars=true)
  (k6:(c.stops == [])=true) (k8:(c.knobs == [])=true)
  (k10:(c.inPlace == Tryz.prog.inPlace f)=true) (k11:(c.unfollowed == Tryz.prog.unfollowed f)=true) (k12:(c.recurses == Tryz.prog.recurses f)=true) (k13:(c.named == Tryz.prog.varsNamed f)=true)
  (k14:(c.maps == (fn.params.toList++s.plain.varTypes Tryz.prog).any (Tryz.prog.mapsRec ·))=true) (k15:(c.ifaces == (fn.params.toList++s.plain.varTypes Tryz.prog).any (Tryz.prog.ifacesRec ·))=true)
  (k16:(c.mapsOut == Tryz.prog.mapsAmong fn.resultTypes.toList)=true)
  (k17:(c.loops == (fn.params.toList++s.plain.varTypes Tryz.prog).any (Tryz.prog.loopsFrom ·))=true) (yR:(c.wideKeys == (fn.params.toList++s.plain.varTypes Tryz.prog++fn.resultTypes.toList).any (Tryz.prog.wideKeysFrom ·))=true)
  (k18:s.vars.all (Tryz.prog.varReadable ·)=true) (k19:fn.resultTypes.all (λt=>Tryz.prog.readableRec t && decide (t<Tryz.prog.types.size))=true)
  (k20:(c.ifacesOut == fn.resultTypes.toList.any (Tryz.prog.ifacesRec ·))=true) (k21:(c.loopsOut == fn.resultTypes.toList.any (Tryz.prog.loopsFrom ·))=true)
  (k23:c.shortTexts.isNone=true) (k25:(c.kinds == (if c.domain.isEmpty then [] else fn.params.toList.map λt=>match Tryz.prog.underlying t with|some (.int k)=>some k|_=>none))=true)
  (k26:(c.pinned == c.pinnedBy)=true) (k27:(c.veiled == (fn.params.toList++s.plain.varTypes Tryz.prog++fn.resultTypes.toList).any (Tryz.prog.veiledRec ·))=true)
  (k28:c.veiledFits Tryz.prog fn.params.toList (fn.params.toList++s.plain.varTypes Tryz.prog++fn.resultTypes.toList)=true) :
  joinedFacts Tryz.prog f fn s c=true:=by
 have m22:(c.plainKeys == Tryz.prog.plainKeys)=true:=by rw[e22];exact j22
 have wR:(c.lifted == Tryz.prog.liftsFinal)=true:=by rw[KT];exact BR
 have uR:(Tryz.prog.make == some c.make)=true:=by rw[JT];exact AR
 unfold joinedFacts;simp only[Le];exact⟨⟨⟨⟨⟨⟨⟨⟨⟨⟨⟨⟨⟨⟨⟨⟨⟨⟨⟨⟨⟨⟨⟨⟨⟨⟨⟨⟨⟨⟨⟨k1,j2⟩,j3⟩,k4⟩,k5⟩,k6⟩,j7⟩,k8⟩,j9⟩,k10⟩,k11⟩,k12⟩,k13⟩,k14⟩,k15⟩,k16⟩,k17⟩,yR⟩,k18⟩,k19⟩,k20⟩,k21⟩,m22⟩,k23⟩,CR⟩,j24⟩,wR⟩,uR⟩,k25⟩,k26⟩,k27⟩,k28⟩
end Go.Proofs.YtjolancjacdeaaaGreatDoor.Jn
namespace Go.Proofs.YtjolancjacdeaaaGreatDoor
open Go.ChangeShapes Go.WideShapes Go.ChangeAt Go.RowKit Go.Deep Go.Joins
theorem D4{W:World}(h:laidMetH Tryz.prog NF W)(hs:W.ShapedOpen Tryz.prog):Pp.GW 8 W:=by
 have h0:laidMet Tryz.prog NF W:=h;have he : laidMet Tryz.prog [("strconv.ErrSyntax", Rows.laid_strconv_ErrSyntax)] W := h0.filter (fun x => x.1 == "strconv.ErrSyntax");obtain⟨ps,⟨g,t,cs,Xa,p,q,hg,ht,ml,hd,_,_⟩,_⟩:=he;have Cz : Tryz.prog.globalNamed "strconv.ErrSyntax" = some 3 := by kernel_rfl
 obtain rfl:=Option.some.inj (Cz.symm.trans hg);have XR:(Tryz.prog.globals[3]?).map (·.type)=some 78:=by kernel_rfl
 obtain rfl:=Option.some.inj (XR.symm.trans ht);obtain⟨ms,Ut⟩:∃ ms,Tryz.prog.underlying 78=some (.interface ms):=(inferInstance:Go.GL.Ve Tryz.prog 78).zd;refine⟨(yY h hs).1,MU hs,?_⟩;obtain⟨_,u,v,ZD,_,_⟩:=iface_of_trod Ut hd;refine⟨u,v,?_⟩;rw[ml];congr 1;exact Array.ext' (by simpa using ZD)
theorem YG{n:Int}(h:(Lit.int .u8 n).wf=true):∃ a:Nat,n=(a:Int)/\a<256:=by
 simp[Lit.wf] at h;refine⟨n.toNat,?_,?_⟩;all_goals have:=h
 all_goals simp[IntKind.has,IntKind.min,IntKind.max,IntKind.signed,IntKind.bits] at this
 all_goals omega
end Go.Proofs.YtjolancjacdeaaaGreatDoor
