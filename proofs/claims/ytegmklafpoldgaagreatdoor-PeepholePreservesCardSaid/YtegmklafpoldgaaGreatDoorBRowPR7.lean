import Derived.JoinedCond
import Derived.JoinedOf
import Derived.Test.YtegmklafpoldgaaGreatDoorBRowPR5
import Derived.Test.YtegmklafpoldgaaGreatDoorBRowPR6
set_option linter.unusedVariables false
set_option linter.unusedSimpArgs false
set_option maxRecDepth 100000
set_option maxHeartbeats 4000000
open List (map_nil not_mem_nil)
open Nat (zero_le add_zero)
namespace Go.Proofs.YtegmklafpoldgaaGreatDoor
open Go.ChangeShapes Go.WideShapes Go.ChangeAt Go.RowKit Go.Deep Go.Joins
open Go.GL (LV Live Rep RepL RepC qak)
def allL(W:World):Live:=λb=>match W.heap[b]? with
 |some (.cells c _ _)=>c.size
 |_=>0
theorem qwm{W:World}{b off:Nat}{x:Value}(h:W.cell? ⟨b,off,none⟩=some x):off<allL W b:=by
 unfold World.cell? at h;unfold allL;split at h
 rename_i c t z hb
 simp only[hb];simp only[Option.isSome_none,Bool.false_eq_true,if_false] at h;exact(Array.getElem?_eq_some_iff.1 h).1;cases h
theorem qtK{W:World}{b:Nat}(h:W.heap.size<=b):allL W b=0:=by
 unfold allL;rw[Array.getElem?_eq_none h]
theorem qmR{W:World}{base:Nat}{b off k:Nat}{sp:Option Nat}{vs:List Value}(hk:0<k)(h:W.cells? base ⟨b,off,sp⟩ k=some vs):sp=none/\vs.length=k/\∀ i (hi:i<vs.length),W.cell? ⟨b,off+i,none⟩=some vs[i]:=by
 unfold World.cells? at h;split at h;have hl:=mapM_some_length h;rw[List.length_range] at hl;have hg:∀ i,i<k->W.cell? (Addr.add ⟨b,off,sp⟩ i)=vs[i]? := λi hi=>mapM_some_get h i i (by simp[hi]);have h0:=hg 0 hk;rw[List.getElem?_eq_getElem (by omega)] at h0
 have hsp:sp=none:=by
  cases sp with
  |none=>rfl
  |some z=>
   unfold Addr.add World.cell? at h0;simp at h0;split at h0 <;> simp_all
 subst hsp;refine⟨rfl,by omega,λi hi=>?_⟩;have:=hg i (by omega);rw[List.getElem?_eq_getElem hi] at this;unfold Addr.add at this;split at this
 rename_i h
 subst h;exact this;exact this;cases h
theorem qxl{W:World}(h8:8<=W.heap.size):Go.GL.RelH (KC 8 W) W (allL W) []:=qwU h8 λb hb=>qtK hb
section
variable{W:World}
theorem qm9{c:LV}{cs:List LV}{v:Value}{vs:List Value}(h:RepL W (allL W) [c] [v])(h2:RepL W (allL W) cs vs):RepL W (allL W) (c::cs) (v::vs):=by
 simp only[RepL] at h ⊢;obtain⟨y,ys,e,h1,rfl⟩:=h;simp only[List.cons.injEq] at e;obtain⟨rfl,_⟩:=e;exact⟨v,vs,rfl,h1,h2⟩
theorem qt1:RepL W (allL W) [] []:=by simp only[RepL]
end
section
variable{H:Type}{enc:TypeId×Value->H}{W:World}
theorem qkG{A:Type}{e:TypeId}{k:Nat}(hk0:0<k)(el:A->LV)(fields:A->List LV)(m:A->Nat)(Pd:A->Prop){n b:Nat}
  (row:∀ (a:A) (vs:List Value) (off:Nat) (rest:List LV),RepL W (allL W) (fields a) vs->vs.length=k->(∀ i (h:i<vs.length),W.cell? ⟨b,off+i,none⟩=some vs[i])->qak W (allL W) b k (off+k) rest->qak W (allL W) b k off (el a::rest))
  (each:∀ cs y,DataW.trod enc Tryz.prog W 0 (λ_=>true) true n e cs=some y->∃ a,RepL W (allL W) (fields a) cs/\Pd a/\m a<=Rows.uptoBulk y.1) :
  ∀ (ys:List (DataW H×List MemPlace)) (off:Nat),(∀ i,i<ys.length->(W.cells? 0 ⟨b,off+i * k,none⟩ k).bind (DataW.trod enc Tryz.prog W 0 (λ_=>true) true n e)=ys[i]?) ->
   ∃ l:List A,l.length=ys.length/\qak W (allL W) b k off (l.map el)/\(∀ a∈l,Pd a)/\(l.map m).sum<=Rows.uptoBulkAll (ys.map (·.1))
 |[],off,_=>⟨[],rfl,by simp only[map_nil,qak],λa h=>(not_mem_nil h).elim,zero_le _⟩
 |y::ys,off,h=>by
  have h0:=h 0 (by simp);rw[Nat.zero_mul,add_zero,List.getElem?_cons_zero] at h0;obtain⟨vs,hv,hy⟩:=Option.bind_eq_some_iff.1 h0;obtain⟨_,hl,hc⟩:=qmR hk0 hv;obtain⟨a,h1,h2,h3⟩:=each vs y hy
  obtain⟨l,q1,q2,q3,q4⟩:=qkG hk0 el fields m Pd row each ys (off+k) λi hi=>by
   have:=h (i+1) (by simpa using hi);rw[List.getElem?_cons_succ,Nat.succ_mul,show off+(i * k+k)=off+k+i * k by omega] at this;exact this
  refine⟨a::l,by simp[q1],row a vs off _ h1 hl hc q2,λx hx=>?_,?_⟩;rcases zMi.1 hx with rfl|hx;exact h2;exact q3 x hx;rw[zMc,List.sum_cons,zMc,Rows.uptoBulkAll];omega
theorem qrV{A:Type}{t e:TypeId}{k:Nat}(ht:Tryz.prog.underlying t=some (.slice e))(hk:Tryz.prog.cellsOf e=k)(hk0:0<k)(el:A->LV)(fields:A->List LV)(m:A->Nat)(Pd:A->Prop){fuel:Nat}
  (row:∀ (b:Nat) (a:A) (vs:List Value) (off:Nat) (rest:List LV),RepL W (allL W) (fields a) vs->vs.length=k->(∀ i (h:i<vs.length),W.cell? ⟨b,off+i,none⟩=some vs[i])->qak W (allL W) b k (off+k) rest->qak W (allL W) b k off (el a::rest))
  (each:∀ n,n<fuel->∀ cs y,DataW.trod enc Tryz.prog W 0 (λ_=>true) true n e cs=some y->∃ a,RepL W (allL W) (fields a) cs/\Pd a/\m a<=Rows.uptoBulk y.1)
  {cs:List Value} {x:DataW H×List MemPlace} (h:DataW.trod enc Tryz.prog W 0 (λ_=>true) true fuel t cs=some x) :
  ∃ l:List A,RepL W (allL W) [.list (l.map el)] cs/\(∀ a∈l,Pd a)/\(l.map m).sum+1<=Rows.uptoBulk x.1:=by
 rcases DataW.trod_slice ht h with⟨rfl,rfl⟩|⟨a,len,cap,elems,rest,n,hfu,rfl,rfl,_,hl,hm,hlen,hel,_,_⟩;refine⟨[],?_,λa h=>(not_mem_nil h).elim,?_⟩;simp only[RepL,Rep,map_nil];exact⟨_,_,rfl,⟨none,0,rfl,zero_le _,λh=>absurd rfl h⟩,rfl⟩;rw[Rows.uptoBulk];exact zNr _;rw[hk] at hel;have hbulk:Rows.uptoBulk (.slice (elems.map (·.1)) (rest.map (·.1)):DataW H)=Rows.uptoBulkAll (elems.map (·.1))+Rows.uptoBulkAll (rest.map (·.1))+1:=by rw[Rows.uptoBulk]
 by_cases h0:len=0
 subst h0;refine⟨[],?_,λa h=>(not_mem_nil h).elim,?_⟩;simp only[RepL,Rep,map_nil];exact⟨_,_,rfl,⟨some a,cap,rfl,zero_le _,λh=>absurd rfl h⟩,rfl⟩;simp only[hbulk,map_nil,List.sum_nil];omega;obtain⟨b,off,sp⟩:=a;have e0:=hel 0 (by omega);rw[List.getElem?_eq_getElem (by omega),Nat.zero_mul] at e0;obtain⟨vs,hv,_⟩:=Option.bind_eq_some_iff.1 e0;obtain⟨hsp,_,_⟩:=qmR (b:=b) (off:=off) (sp:=sp) hk0 (by simpa [Addr.add] using hv);subst hsp
 obtain⟨l,q1,q2,q3,q4⟩:=qkG (W:=W) (enc:=enc) (b:=b) (n:=n) (e:=e) hk0 el fields m Pd (row b) (each n (by omega)) elems off λi hi=>by
  have:=hel i (by omega);unfold Addr.add at this;split at this
  rename_i hz
  rw[hz,add_zero];exact this;exact this
 refine⟨l,?_,q3,?_⟩;simp only[RepL,Rep];refine⟨_,_,rfl,⟨some ⟨b,off,none⟩,cap,by rw[zLm,q1,hlen],by rw[zLm,q1,hlen];exact hl,λ_=>⟨b,off,k,rfl,q2⟩⟩,rfl⟩;simp only[hbulk];omega
theorem qu5{b:Nat}{v:Value}{vs:List Value}{off:Nat}{rest:List LV}(h:RepL W (allL W) [.atom v] vs)(hc:∀ i (h:i<vs.length),W.cell? ⟨b,off+i,none⟩=some vs[i])(hr:qak W (allL W) b 1 (off+1) rest):qak W (allL W) b 1 off (.atom v::rest):=by
 simp only[RepL] at h;obtain⟨y,ys,rfl,h1,rfl⟩:=h;have h0:=hc 0 (by simp);simp only[add_zero,List.getElem_cons_zero] at h0;simp only[qak];exact⟨⟨trivial,qwm h0,y,h0,h1⟩,hr⟩
end
open Go.Stele
section
variable{H:Type}{enc:TypeId×Value->H}{W:World}
theorem quI{n:Nat}{cs:List Value}{y:DataW H×List MemPlace}(h:DataW.trod enc Tryz.prog W 0 (λ_=>true) true n 84 cs=some y):∃ a:Nat,RepL W (allL W) [Inp.u32 a] cs/\Lt a:=by
 obtain⟨m,rfl,_,w⟩:=DataW.trod_int (show Tryz.prog.underlying 84=some (.int .u32) by kernel_rfl) h;obtain⟨a,rfl,ha⟩:=qxz w;refine⟨a,?_,ha⟩;simp only[RepL,Rep,Inp.u32,Go.GL.int];exact⟨_,_,rfl,rfl,rfl⟩
end
section
variable{H:Type}{enc:TypeId×Value->H}{W:World}
theorem qtt{v:Value}{d:DataW H}{ps:List MemPlace}{base:Nat}(hval:Value.okWide Tryz.prog W .any base 22 v)(hd:DataW.Trod enc Tryz.prog W 0 (λ_=>true) true 22 v d ps) :
  ∃ l:List Nat,(∀ x∈l,Lt x)/\RepL W (allL W) [.list (l.map Inp.u32)] [v]:=by
 obtain⟨a0,len0,cap0,rfl⟩:=okWide_slice (show Tryz.prog.underlying 22=some (.slice 84) by kernel_rfl) hval;obtain⟨fuel,hf⟩:=hd;have hf':DataW.trod enc Tryz.prog W 0 (λ_=>true) true fuel 22 [.slice a0 len0 cap0]=some (d,ps):=by simpa [Value.cells] using hf
 obtain⟨l,r,p,_⟩:=qrV (t:=22) (e:=84) (k:=1) (by kernel_rfl) (by kernel_rfl) zDd Inp.u32 (λa=>[Inp.u32 a]) (λ_=>0) Lt (λb x vs off rest q1 q2 q3 q4=>qu5 q1 q3 q4) (λn' _ _ _ hy=>by
  obtain⟨a,h1,h2⟩:=quI hy
  exact⟨a,h1,h2,zero_le _⟩) hf'
 exact⟨l,p,r⟩
theorem qrQ{W':World}{v:Value}{d:DataW H}{ps:List MemPlace}{sp:Nat->Bool}(hd:DataW.Trod enc Tryz.prog W 0 (λ_=>true) true 22 v d ps)(hb:Below W.heap.size W W')(hlt:∀ x∈ps,x.block<W.heap.size)(hsp:∀ p∈ps,sp p.block=true):DataW.Trod enc Tryz.prog W' 0 sp true 22 v d ps:=
 WideElems.Trod_stays qwo (by kernel_rfl) (of_decide_eq_true (by kernel_rfl)) hd (λx hx=>hb.same (hlt x hx)) hsp
end
end Go.Proofs.YtegmklafpoldgaaGreatDoor
namespace Go.Proofs.YtegmklafpoldgaaGreatDoor.Jn
open Go
theorem j2:laidOutB Tryz.prog=true:=by kernel_rfl
theorem j3:mapsRowed Tryz.prog=true:=by kernel_rfl
theorem j7:(Tryz.prog.stops == [])=true:=by kernel_rfl
theorem j9:(Tryz.prog.stopKnobs == [])=true:=by kernel_rfl
theorem j22:(Rows.peepholePreservesRow.plainKeys == Tryz.prog.plainKeys)=true:=by kernel_rfl
theorem j23b:Tryz.prog.stopsHeard=true:=by kernel_rfl
theorem j24:Tryz.prog.mayEnter=true:=by kernel_rfl
theorem j24b:(Rows.peepholePreservesRow.lifted == Tryz.prog.liftsFinal)=true:=by kernel_rfl
theorem j24c:(Tryz.prog.make == some Rows.peepholePreservesRow.make)=true:=by kernel_rfl
theorem joined{f:FuncId}{fn:Func}{s:ChangeSpec}{c:OpenClaim}
  (e22:c.plainKeys=Rows.peepholePreservesRow.plainKeys) (e24b:c.lifted=Rows.peepholePreservesRow.lifted) (e24c:c.make=Rows.peepholePreservesRow.make)
  (k1:c.wf (OpenSpec.ofChange s)=true) (k4:(fn.params.all (Tryz.prog.readableRec ·))=true) (k5:namedTie Tryz.prog c.named s.vars=true)
  (k6:(c.stops == [])=true) (k8:(c.knobs == [])=true)
  (k10:(c.inPlace == Tryz.prog.inPlace f)=true) (k11:(c.unfollowed == Tryz.prog.unfollowed f)=true) (k12:(c.recurses == Tryz.prog.recurses f)=true) (k13:(c.named == Tryz.prog.varsNamed f)=true)
  (k14:(c.maps == (fn.params.toList++s.plain.varTypes Tryz.prog).any (Tryz.prog.mapsRec ·))=true) (k15:(c.ifaces == (fn.params.toList++s.plain.varTypes Tryz.prog).any (Tryz.prog.ifacesRec ·))=true)
  (k16:(c.mapsOut == Tryz.prog.mapsAmong fn.resultTypes.toList)=true)
  (k17:(c.loops == (fn.params.toList++s.plain.varTypes Tryz.prog).any (Tryz.prog.loopsFrom ·))=true) (k17b:(c.wideKeys == (fn.params.toList++s.plain.varTypes Tryz.prog++fn.resultTypes.toList).any (Tryz.prog.wideKeysFrom ·))=true)
  (k18:s.vars.all (Tryz.prog.varReadable ·)=true) (k19:fn.resultTypes.all (λt=>Tryz.prog.readableRec t && decide (t<Tryz.prog.types.size))=true)
  (k20:(c.ifacesOut == fn.resultTypes.toList.any (Tryz.prog.ifacesRec ·))=true) (k21:(c.loopsOut == fn.resultTypes.toList.any (Tryz.prog.loopsFrom ·))=true)
  (k23:c.shortTexts.isNone=true) (k25:(c.kinds == (if c.domain.isEmpty then [] else fn.params.toList.map λt=>match Tryz.prog.underlying t with|some (.int k)=>some k|_=>none))=true)
  (k26:(c.pinned == c.pinnedBy)=true) (k27:(c.veiled == (fn.params.toList++s.plain.varTypes Tryz.prog++fn.resultTypes.toList).any (Tryz.prog.veiledRec ·))=true)
  (k28:c.veiledFits Tryz.prog fn.params.toList (fn.params.toList++s.plain.varTypes Tryz.prog++fn.resultTypes.toList)=true) :
  joinedFacts Tryz.prog f fn s c=true:=by
 have m22:(c.plainKeys == Tryz.prog.plainKeys)=true:=by rw[e22];exact j22
 have m24b:(c.lifted == Tryz.prog.liftsFinal)=true:=by rw[e24b];exact j24b
 have m24c:(Tryz.prog.make == some c.make)=true:=by rw[e24c];exact j24c
 unfold joinedFacts;simp only[zBa];exact⟨⟨⟨⟨⟨⟨⟨⟨⟨⟨⟨⟨⟨⟨⟨⟨⟨⟨⟨⟨⟨⟨⟨⟨⟨⟨⟨⟨⟨⟨⟨k1,j2⟩,j3⟩,k4⟩,k5⟩,k6⟩,j7⟩,k8⟩,j9⟩,k10⟩,k11⟩,k12⟩,k13⟩,k14⟩,k15⟩,k16⟩,k17⟩,k17b⟩,k18⟩,k19⟩,k20⟩,k21⟩,m22⟩,k23⟩,j23b⟩,j24⟩,m24b⟩,m24c⟩,k25⟩,k26⟩,k27⟩,k28⟩
end Go.Proofs.YtegmklafpoldgaaGreatDoor.Jn
namespace Go.Proofs.YtegmklafpoldgaaGreatDoor
open Go.ChangeShapes Go.WideShapes Go.ChangeAt Go.RowKit Go.Deep Go.Joins
theorem qxH{W:World}(h:laidMetH Tryz.prog lst W)(hs:W.ShapedOpen Tryz.prog):Pp.GW 8 W:=by
 have h0:laidMet Tryz.prog lst W:=h
 have he : laidMet Tryz.prog [("strconv.ErrSyntax", Rows.laid_strconv_ErrSyntax)] W := h0.filter (fun x => x.1 == "strconv.ErrSyntax")
 obtain⟨ps,⟨g,t,cs,fuel,p,q,hg,ht,hvar,hd,_,_⟩,_⟩:=he
 have hg' : Tryz.prog.globalNamed "strconv.ErrSyntax" = some 4 := by kernel_rfl
 obtain rfl:=Option.some.inj (hg'.symm.trans hg);have ht':(Tryz.prog.globals[4]?).map (·.type)=some 137:=by kernel_rfl
 obtain rfl:=Option.some.inj (ht'.symm.trans ht);obtain⟨ms,hms⟩:∃ ms,Tryz.prog.underlying 137=some (.interface ms):=(inferInstance:Go.GL.TIface Tryz.prog 137).und;refine⟨(qk9 h hs).1,qxv hs,?_⟩;obtain⟨_,u,v,hcs,_,_⟩:=iface_of_trod hms hd;refine⟨u,v,?_⟩;rw[hvar];congr 1;exact Array.ext' (by simpa using hcs)
end Go.Proofs.YtegmklafpoldgaaGreatDoor
