import Derived.Test.YtkihibnffkpnkaaGreatDoorBRowL38
set_option linter.unusedVariables false
set_option linter.unusedSimpArgs false
set_option maxRecDepth 100000
set_option maxHeartbeats 4000000
namespace Go.Proofs.YtkihibnffkpnkaaGreatDoor
open Go.ChangeShapes Go.WideShapes Go.ChangeAt Go.RowKit Go.Deep Go.Joins Go.Stele
open Go.GL (RepL Rep Live LV)
section
variable{H:Type}{enc:TypeId×Value->H}{W:World}
theorem qoq{v:Value}{d:DataW H}{ps:List MemPlace}{base:Nat}(hval:Value.okWide Tryz.prog W .any base 32 v)(hd:DataW.Trod enc Tryz.prog W 0 (λ_=>true) true 32 v d ps) :
  ∃ l:List (List UInt8),RepL W (allL W) [.list (l.map Go.GL.str)] [v]:=by
 obtain⟨a0,len0,cap0,rfl⟩:=okWide_slice (show Tryz.prog.underlying 32=some (.slice 9) by kernel_rfl) hval;obtain⟨fuel,hf⟩:=hd;have hf':DataW.trod enc Tryz.prog W 0 (λ_=>true) true fuel 32 [.slice a0 len0 cap0]=some (d,ps):=by simpa [Value.cells] using hf
 obtain⟨l,h,_⟩:=qsB hf';exact⟨l,h⟩
theorem qqE{W':World}{v:Value}{d:DataW H}{ps:List MemPlace}{sp:Nat->Bool}(hd:DataW.Trod enc Tryz.prog W 0 (λ_=>true) true 32 v d ps)(hb:Below W.heap.size W W')(hlt:∀ x∈ps,x.block<W.heap.size)(hsp:∀ p∈ps,sp p.block=true):DataW.Trod enc Tryz.prog W' 0 sp true 32 v d ps:=
 WideElems.Trod_stays qwW (by kernel_rfl) (of_decide_eq_true (by kernel_rfl)) hd (λx hx=>hb.same (hlt x hx)) hsp
end
end Go.Proofs.YtkihibnffkpnkaaGreatDoor
