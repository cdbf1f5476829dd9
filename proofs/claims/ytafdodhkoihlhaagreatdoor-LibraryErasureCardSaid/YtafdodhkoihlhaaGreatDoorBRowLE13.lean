import Derived.Test.YtafdodhkoihlhaaGreatDoorBRowLE12
set_option linter.unusedVariables false
set_option linter.unusedSimpArgs false
set_option maxRecDepth 100000
set_option maxHeartbeats 0
open Go.GL (zk)
open List (map_nil not_mem_nil)
open Nat (add_zero zero_le)
open Go.Proofs.Y
namespace Go.Proofs.YtafdodhkoihlhaaGreatDoor
open Go.ChangeShapes Go.WideShapes Go.ChangeAt Go.RowKit Go.Deep Go.Joins
open Go.GL (LV Live Fb oa Tb Zc)
variable{W:World}{b Ba k off:Nat}{v:Value}{vs:List Value}
def Kf(W:World):Live:=λb=>match W.heap[b]? with
 |some (.cells c _ _)=>c.size
 |_=>0
theorem qzO{x:Value}(h:W.cell? ⟨b,off,none⟩=some x):off<Kf W b:=by unfold World.cell? at h;unfold Kf;split at h;rename_i c t z hb;simp only[hb];simp only[Option.isSome_none,Il,if_false] at h;exact(Array.getElem?_eq_some_iff.1 h).1;cases h
theorem qwc(h:W.heap.size<=b):Kf W b=0:=by unfold Kf;rw[Array.getElem?_eq_none h]
theorem qvo{W:World}{b:Nat}:∀ (cs:List LV) (vs:List Value) (off:Nat),oa W (Kf W) cs vs->(∀ i (h:i<vs.length),W.cell? ⟨b,off+i,none⟩=some vs[i])->Tb W (Kf W) b off cs
 |[],vs,off,_,_=>by simp only[Tb]
 |c::cs,vs,off,h,hc=>by simp only[oa] at h;obtain⟨y,ys,rfl,h1,h2⟩:=h;have h0:=hc 0 (by simp);simp only[add_zero,List.getElem_cons_zero] at h0;simp only[Tb];refine⟨qzO h0,⟨y,h0,h1⟩,qvo cs ys (off+1) h2 λi hi=>?_⟩;have:=hc (i+1) (by simpa using hi);rw[show off+(i+1)=off+1+i by omega] at this;simpa using this
theorem qnC{base:Nat}{sp:Option Nat}{vs:List Value}(hk:0<k)(h:W.cells? base ⟨b,off,sp⟩ k=some vs):sp=none/\vs.length=k/\∀ i (hi:i<vs.length),W.cell? ⟨b,off+i,none⟩=some vs[i]:=by
 unfold World.cells? at h;split at h;have hl:=mapM_some_length h;rw[List.length_range] at hl;have hg:∀ i,i<k->W.cell? (Addr.add ⟨b,off,sp⟩ i)=vs[i]? := λi hi=>mapM_some_get h i i (by simp[hi]);have h0:=hg 0 hk;rw[Yh (by omega)] at h0
 have xt:sp=none:=by
  cases sp with
  |none=>rfl
  |some z=>unfold Addr.add World.cell? at h0;simp at h0;split at h0 <;> simp_all
 subst xt;refine⟨rfl,by omega,λi hi=>?_⟩;have:=hg i ga;rw[Yh hi] at this;unfold Addr.add at this;split at this
 rename_i h;subst h;exact this;exact this;cases h
theorem qBe(h8:8<=W.heap.size):Go.GL.Ta (KC 8 W) W (Kf W) []:=qAo h8 λb hb=>qwc hb
section
variable{W:World}
theorem AW{c:LV}{cs:List LV}(h:oa W (Kf W) [c] [v])(h2:oa W (Kf W) cs vs):oa W (Kf W) (c::cs) (v::vs):=by simp only[oa] at h ⊢;obtain⟨y,ys,e,h1,rfl⟩:=h;simp only[List.cons.injEq] at e;obtain⟨rfl,_⟩:=e;exact⟨v,vs,rfl,h1,h2⟩
theorem qqe:oa W (Kf W) [] []:=by simp only[oa]
end
section
variable{H:Type}{enc:TypeId×Value->H}{W:World}
theorem qlc{A:Type}{e:TypeId}{k:Nat}(xH:0<k)(el:A->LV)(fields:A->List LV)(m:A->Nat)(Pd:A->Prop){n b:Nat}
  (row:∀ (a:A) (vs:List Value) (off:Nat) (rest:List LV),oa W (Kf W) (fields a) vs->vs.length=k->(∀ i (h:i<vs.length),W.cell? ⟨b,off+i,none⟩=some vs[i])->Zc W (Kf W) b k (off+k) rest->Zc W (Kf W) b k off (el a::rest))
  (each:∀ cs y,DataW.trod enc Tryz.prog W 0 (λ_=>true) true n e cs=some y->∃ a,oa W (Kf W) (fields a) cs/\Pd a/\m a<=Rows.uptoBulk y.1) :
  ∀ (ys:List (DataW H×List MemPlace)) (off:Nat),(∀ i,i<ys.length->(W.cells? 0 ⟨b,off+i * k,none⟩ k).bind (DataW.trod enc Tryz.prog W 0 (λ_=>true) true n e)=ys[i]?) ->
   ∃ l:List A,l.length=ys.length/\Zc W (Kf W) b k off (l.map el)/\(∀ a∈l,Pd a)/\(l.map m).sum<=Rows.uptoBulkAll (ys.map (·.1))
 |[],off,_=>⟨[],rfl,by simp only[map_nil,Zc],λa h=>(not_mem_nil h).elim,zero_le _⟩
 |y::ys,off,h=>by
  have h0:=h 0 (by simp);rw[Nat.zero_mul,add_zero,Jl] at h0;obtain⟨vs,hv,hy⟩:=Option.bind_eq_some_iff.1 h0;obtain⟨_,hl,hc⟩:=qnC xH hv;obtain⟨a,h1,h2,h3⟩:=each vs y hy;obtain⟨l,q1,q2,q3,q4⟩:=qlc xH el fields m Pd row each ys (off+k) λi hi=>by have:=h (i+1) (by simpa using hi);rw[Bs,Nat.succ_mul,show off+(i * k+k)=off+k+i * k by omega] at this;exact this
  refine⟨a::l,by simp[q1],row a vs off _ h1 hl hc q2,λx hx=>?_,?_⟩;rcases Dc.1 hx with rfl|hx;exact h2;exact q3 x hx;rw[yd,List.sum_cons,yd,Rows.uptoBulkAll];omega
theorem qtS{A:Type}{t e:TypeId}(ht:Tryz.prog.underlying t=some (.slice e))(hk:Tryz.prog.cellsOf e=k)(xH:0<k)(el:A->LV)(fields:A->List LV)(m:A->Nat)(Pd:A->Prop)
  (row:∀ (b:Nat) (a:A) (vs:List Value) (off:Nat) (rest:List LV),oa W (Kf W) (fields a) vs->vs.length=k->(∀ i (h:i<vs.length),W.cell? ⟨b,off+i,none⟩=some vs[i])->Zc W (Kf W) b k (off+k) rest->Zc W (Kf W) b k off (el a::rest))
  (each:∀ n,n<Ba->∀ cs y,DataW.trod enc Tryz.prog W 0 (λ_=>true) true n e cs=some y->∃ a,oa W (Kf W) (fields a) cs/\Pd a/\m a<=Rows.uptoBulk y.1)
  {cs:List Value} {x:DataW H×List MemPlace} (h:DataW.trod enc Tryz.prog W 0 (λ_=>true) true Ba t cs=some x) :
  ∃ l:List A,oa W (Kf W) [.list (l.map el)] cs/\(∀ a∈l,Pd a)/\(l.map m).sum+1<=Rows.uptoBulk x.1:=by
 rcases DataW.trod_slice ht h with⟨rfl,rfl⟩|⟨a,len,cap,elems,rest,n,hfu,rfl,rfl,_,hl,hm,ma,um,_,_⟩;refine⟨[],?_,λa h=>(not_mem_nil h).elim,?_⟩;simp only[oa,Fb,map_nil];exact⟨_,_,rfl,⟨none,0,rfl,zero_le _,λh=>absurd rfl h⟩,rfl⟩;rw[Rows.uptoBulk];exact Pb _;rw[hk] at um;have DJ:Rows.uptoBulk (.slice (elems.map (·.1)) (rest.map (·.1)):DataW H)=Rows.uptoBulkAll (elems.map (·.1))+Rows.uptoBulkAll (rest.map (·.1))+1:=by rw[Rows.uptoBulk]
 by_cases h0:len=0;subst h0;refine⟨[],?_,λa h=>(not_mem_nil h).elim,?_⟩;simp only[oa,Fb,map_nil];exact⟨_,_,rfl,⟨some a,cap,rfl,zero_le _,λh=>absurd rfl h⟩,rfl⟩;simp only[DJ,map_nil,List.sum_nil];omega;obtain⟨b,off,sp⟩:=a;have e0:=um 0 ga;rw[Yh (by omega),Nat.zero_mul] at e0;obtain⟨vs,hv,_⟩:=Option.bind_eq_some_iff.1 e0;obtain⟨xt,_,_⟩:=qnC (b:=b) (off:=off) (sp:=sp) xH (by simpa [Addr.add] using hv);subst xt
 obtain⟨l,q1,q2,q3,q4⟩:=qlc (W:=W) (enc:=enc) (b:=b) (n:=n) (e:=e) xH el fields m Pd (row b) (each n ga) elems off λi hi=>by have:=um i ga;unfold Addr.add at this;split at this;rename_i hz;rw[hz,add_zero];exact this;exact this
 refine⟨l,?_,q3,?_⟩;simp only[oa,Fb];refine⟨_,_,rfl,⟨some ⟨b,off,none⟩,cap,by rw[Mb,q1,ma],by rw[Mb,q1,ma];exact hl,λ_=>⟨b,off,k,rfl,q2⟩⟩,rfl⟩;simp only[DJ];omega
theorem qzq{cs:List LV}{vs:List Value}{rest:List LV}(h:oa W (Kf W) cs vs)(hl:vs.length=k)(hc:∀ i (h:i<vs.length),W.cell? ⟨b,off+i,none⟩=some vs[i])(hr:Zc W (Kf W) b k (off+k) rest)(dz:cs.length=k):Zc W (Kf W) b k off (.agg cs::rest):=by simp only[Zc];exact⟨⟨dz,qvo cs vs off h hc⟩,hr⟩
end
open Go.ia
variable{cs:List Value}
noncomputable def LJ(t:TypeId)(ts:List TypeId):Bool:=match Tryz.prog.underlying t with
 |some (.struct fs)=>oneCellFields Tryz.prog fs && (fs.toList.map (·.type) == ts)
 |_=>false
section
variable{H:Type}{enc:TypeId×Value->H}{W:World}
theorem qpu{t:TypeId}{ts:List TypeId}(h:LJ t ts=true)(hC:Tryz.prog.cellsOf t=ts.length){x:DataW H×List MemPlace}(hx:DataW.trod enc Tryz.prog W 0 (λ_=>true) true Ba t cs=some x) :
  ∃ (ys:List (DataW H×List MemPlace)) (n:Nat),Ba=n+1/\x.1=.agg (ys.map (·.1))/\cs.length=ts.length/\ys.length=ts.length/\∀ (i:Nat) (u:TypeId),ts[i]? = some u->∃ v y,cs[i]? = some v/\ys[i]? = some y/\DataW.trod enc Tryz.prog W 0 (λ_=>true) true n u [v]=some y:=by
 unfold LJ at h;split at h;rename_i fs hu;simp only[Ed,beq_iff_eq] at h;obtain⟨Yu,qX⟩:=h;obtain⟨ys,n,hf,hxe,hl,hy,hg⟩:=DataW.trod_struct hu hx;have ae:fs.size=ts.length:=by rw[<-qX];simp
 refine⟨ys,n,hf,by rw[hxe],hl.trans hC,hy.trans ae,λi u hi=>?_⟩;have Wg:i<ts.length:=(List.getElem?_eq_some_iff.1 hi).1;have N7:fs[i]? = some fs[i]:=Array.getElem?_eq_getElem ga
 have hfu:(fs[i]'(by omega)).type=u:=by
  have:(fs.toList.map (·.type))[i]? = some u:=by rw[qX];exact hi
  rw[List.getElem?_map,Array.getElem?_toList,N7] at this;simpa using this
 obtain⟨o1,o2⟩:=hone_of Yu i _ N7;have h1:=hg i _ N7;rw[o1,o2,hfu,Yh (by omega)] at h1;have cf:i<cs.length:=by omega
 have hd:(cs.drop i).take 1=[cs[i]]:=by rw[List.drop_eq_getElem_cons cf];rfl
 rw[hd] at h1;exact⟨cs[i],ys[i]'(by omega),Yh cf,Yh ga,h1⟩;cases h
theorem qxd(d:DataW H):1<=Rows.uptoBulk d:=by
 cases d with
 |lit l=>cases l <;> (simp only[Rows.uptoBulk];omega)
 |_=>simp only[Rows.uptoBulk];omega
theorem qwm{n:Nat}{y:DataW H×List MemPlace}(h:DataW.trod enc Tryz.prog W 0 (λ_=>true) true n 9 cs=some y):∃ s:List UInt8,oa W (Kf W) [Go.GL.str s] cs/\True/\1<=Rows.uptoBulk y.1:=by obtain⟨s,rfl,_,_⟩:=DataW.trod_string Tryz.underlying9 h;refine⟨s.data.toList,?_,trivial,qxd _⟩;simp only[oa,Fb,Go.GL.str];exact⟨_,_,rfl,rfl,rfl⟩
end
open Go.ChangeShapes Go.WideShapes Go.ChangeAt Go.RowKit Go.Deep Go.Joins Go.ia
open Go.GL (oa Fb Live LV)
section
variable{H:Type}{enc:TypeId×Value->H}{W:World}
theorem qux{n:Nat}{y:DataW H×List MemPlace}(h:DataW.trod enc Tryz.prog W 0 (λ_=>true) true n 3 cs=some y):∃ z:Int,oa W (Kf W) [Go.GL.int .i64 z] cs:=by obtain⟨m,rfl,_,_⟩:=DataW.trod_int (show Tryz.prog.underlying 3=some (.int .i64) from zk) h;refine⟨m,?_⟩;simp only[oa,Fb,Go.GL.int];exact⟨_,_,rfl,rfl,rfl⟩
theorem qrE{y:DataW H×List MemPlace}(h:DataW.trod enc Tryz.prog W 0 (λ_=>true) true Ba 28 cs=some y):∃ s:Lb.Sh,oa W (Kf W) [Go.GL.int .i64 s.1,Go.GL.str s.2] cs:=by
 obtain⟨ys,n,rfl,hb,hl,bH,hg⟩:=qpu (ts:=[3,9]) zk zk h;obtain⟨v0,y0,c0,d0,t0⟩:=hg 0 _ rfl;obtain⟨v1,y1,c1,d1,t1⟩:=hg 1 _ rfl;obtain⟨z,r0⟩:=qux t0;obtain⟨m,r1,_,_⟩:=qwm t1;obtain rfl:cs=[v0,v1]:=by
  match cs,hl with
  |[w0,w1],_=>simp only[Jl,Bs,Ym] at c0 c1;rw[c0,c1]
 exact⟨(z,m),AW r0 (AW r1 qqe)⟩
theorem qpL{d:DataW H}{ps:List MemPlace}{base:Nat}(Pk:Value.okWide Tryz.prog W .any base 22 v)(hd:DataW.Trod enc Tryz.prog W 0 (λ_=>true) true 22 v d ps) :
  ∃ l:List Lb.Sh,oa W (Kf W) [.list (l.map Lb.tC)] [v]:=by
 obtain⟨a0,O5,Q8,rfl⟩:=okWide_slice (show Tryz.prog.underlying 22=some (.slice 28) from zk) Pk;obtain⟨Ba,hf⟩:=hd;have GX:DataW.trod enc Tryz.prog W 0 (λ_=>true) true Ba 22 [.slice a0 O5 Q8]=some (d,ps):=by simpa [Value.cells] using hf
 obtain⟨l,h,_⟩:=qtS (t:=22) (e:=28) (k:=2) zk zk ea Lb.tC (λs=>[Go.GL.int .i64 s.1,Go.GL.str s.2]) (λ_=>0) (λ_=>True) (λb x vs off rest q1 q2 q3 q4=>qzq q1 q2 q3 q4 rfl) (λn' _ _ _ hy=>by
  obtain⟨s,hs⟩:=qrE hy;exact⟨s,hs,trivial,zero_le _⟩) GX
 exact⟨l,h⟩
theorem qoH{W':World}{d:DataW H}{ps:List MemPlace}{sp:Nat->Bool}(hd:DataW.Trod enc Tryz.prog W 0 (λ_=>true) true 22 v d ps)(hb:Below W.heap.size W W')(Ka:∀ x∈ps,x.block<W.heap.size)(xt:∀ p∈ps,sp p.block=true):DataW.Trod enc Tryz.prog W' 0 sp true 22 v d ps:=
 WideElems.Trod_stays qzR zk (qg zk) hd (λx hx=>hb.same (Ka x hx)) xt
end
end Go.Proofs.YtafdodhkoihlhaaGreatDoor
namespace Go.Proofs.YtafdodhkoihlhaaGreatDoor.Jn
open Go
theorem j2:laidOutB Tryz.prog=true:=zk
theorem j3:mapsRowed Tryz.prog=true:=zk
theorem j7:(Tryz.prog.stops == [])=true:=zk
theorem j9:(Tryz.prog.stopKnobs == [])=true:=zk
theorem j22:(Rows.libraryErasureRow.plainKeys == Tryz.prog.plainKeys)=true:=zk
theorem T5:Tryz.prog.stopsHeard=true:=zk
theorem j24:Tryz.prog.mayEnter=true:=zk
theorem S5:(Rows.libraryErasureRow.lifted == Tryz.prog.liftsFinal)=true:=zk
theorem R5:(Tryz.prog.make == some Rows.libraryErasureRow.make)=true:=zk
theorem JL{f:FuncId}{fn:Func}{s:ChangeSpec}{c:OpenClaim}
  (e22:c.plainKeys=Rows.libraryErasureRow.plainKeys) (M8:c.lifted=Rows.libraryErasureRow.lifted) (L8:c.make=Rows.libraryErasureRow.make)
  (k1:c.wf (OpenSpec.ofChange s)=true) (k4:(fn.params.all (Tryz.prog.readableRec ·))=true) (k5:namedTie Tryz.prog c.named s.vars=true)
  (k6:(c.stops == [])=true) (k8:(c.knobs == [])=true)
  (k10:(c.inPlace == Tryz.prog.inPlace f)=true) (k11:(c.unfollowed == Tryz.prog.unfollowed f)=true) (k12:(c.recurses == Tryz.prog.recurses f)=true) (k13:(c.named == Tryz.prog.varsNamed f)=true)
  (k14:(c.maps == (fn.params.toList++s.plain.varTypes Tryz.prog).any (Tryz.prog.mapsRec ·))=true) (k15:(c.ifaces == (fn.params.toList++s.plain.varTypes Tryz.prog).any (Tryz.prog.ifacesRec ·))=true)
  (k16:(c.mapsOut == Tryz.prog.mapsAmong fn.resultTypes.toList)=true)
  (k17:(c.loops == (fn.params.toList++s.plain.varTypes Tryz.prog).any (Tryz.prog.loopsFrom ·))=true) (Q5:(c.wideKeys == (fn.params.toList++s.plain.varTypes Tryz.prog++fn.resultTypes.toList).any (Tryz.prog.wideKeysFrom ·))=true)
  (k18:s.vars.all (Tryz.prog.varReadable ·)=true) (k19:fn.resultTypes.all (λt=>Tryz.prog.readableRec t && decide (t<Tryz.prog.types.size))=true)
  (k20:(c.ifacesOut == fn.resultTypes.toList.any (Tryz.prog.ifacesRec ·))=true) (k21:(c.loopsOut == fn.resultTypes.toList.any (Tryz.prog.loopsFrom ·))=true)
  (k23:c.shortTexts.isNone=true) (k25:(c.kinds == (if c.domain.isEmpty then [] else fn.params.toList.map λt=>match Tryz.prog.underlying t with|some (.int k)=>some k|_=>none))=true)
  (k26:(c.pinned == c.pinnedBy)=true) (k27:(c.veiled == (fn.params.toList++s.plain.varTypes Tryz.prog++fn.resultTypes.toList).any (Tryz.prog.veiledRec ·))=true)
  (k28:c.veiledFits Tryz.prog fn.params.toList (fn.params.toList++s.plain.varTypes Tryz.prog++fn.resultTypes.toList)=true) :
  joinedFacts Tryz.prog f fn s c=true:=by
 have m22:(c.plainKeys == Tryz.prog.plainKeys)=true:=by rw[e22];exact j22
 have L5:(c.lifted == Tryz.prog.liftsFinal)=true:=by rw[M8];exact S5
 have K5:(Tryz.prog.make == some c.make)=true:=by rw[L8];exact R5
 unfold joinedFacts;simp only[Ed];exact⟨⟨⟨⟨⟨⟨⟨⟨⟨⟨⟨⟨⟨⟨⟨⟨⟨⟨⟨⟨⟨⟨⟨⟨⟨⟨⟨⟨⟨⟨⟨k1,j2⟩,j3⟩,k4⟩,k5⟩,k6⟩,j7⟩,k8⟩,j9⟩,k10⟩,k11⟩,k12⟩,k13⟩,k14⟩,k15⟩,k16⟩,k17⟩,Q5⟩,k18⟩,k19⟩,k20⟩,k21⟩,m22⟩,k23⟩,T5⟩,j24⟩,L5⟩,K5⟩,k25⟩,k26⟩,k27⟩,k28⟩
end Go.Proofs.YtafdodhkoihlhaaGreatDoor.Jn
namespace Go.Proofs.YtafdodhkoihlhaaGreatDoor
open Go.ChangeShapes Go.WideShapes Go.ChangeAt Go.RowKit Go.Deep Go.Joins
theorem qBN{W:World}(h:laidMetH Tryz.prog nO W)(hs:W.ShapedOpen Tryz.prog):Pp.GW 8 W:=by
 have h0:laidMet Tryz.prog nO W:=h;have he : laidMet Tryz.prog [("strconv.ErrSyntax", Rows.laid_strconv_ErrSyntax)] W := h0.filter (fun x => x.1 == "strconv.ErrSyntax");obtain⟨ps,⟨g,t,cs,Ba,p,q,hg,ht,gx,hd,_,_⟩,_⟩:=he;have bz : Tryz.prog.globalNamed "strconv.ErrSyntax" = some 1 := by kernel_rfl
 obtain rfl:=Option.some.inj (bz.symm.trans hg);have D6:(Tryz.prog.globals[1]?).map (·.type)=some 99:=by kernel_rfl
 obtain rfl:=Option.some.inj (D6.symm.trans ht);obtain⟨ms,GB⟩:∃ ms,Tryz.prog.underlying 99=some (.interface ms):=(inferInstance:Go.GL.Hh Tryz.prog 99).af;refine⟨(qlJ h hs).1,qBt hs,?_⟩;obtain⟨_,u,v,dz,_,_⟩:=iface_of_trod GB hd;refine⟨u,v,?_⟩;rw[gx];congr 1;exact Array.ext' (by simpa using dz)
theorem IP{n:Int}(h:(Lit.int .u8 n).wf=true):∃ a:Nat,n=(a:Int)/\a<256:=by
 simp[Lit.wf] at h;refine⟨n.toNat,?_,?_⟩;all_goals have:=h
 all_goals simp[IntKind.has,IntKind.min,IntKind.max,IntKind.signed,IntKind.bits] at this
 all_goals omega
