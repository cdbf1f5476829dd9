import Derived.JoinedCond
import Derived.JoinedOf
import Derived.Test.YtmnjklgnhpnckaaGreatDoorBRowLV15
import Derived.Test.YtmnjklgnhpnckaaGreatDoorBRowLV16
set_option linter.unusedVariables false
set_option linter.unusedSimpArgs false
set_option maxRecDepth 100000
set_option maxHeartbeats 4000000
open Go.GL (zk)
open List (map_nil not_mem_nil)
open Nat (zero_le add_zero)
namespace Go.Proofs.YtmnjklgnhpnckaaGreatDoor
open Go.ChangeShapes Go.WideShapes Go.ChangeAt Go.RowKit Go.Deep Go.Joins
open Go.GL (LV Live xb oa Rb Qc)
variable{W:World}{b off:Nat}{v:Value}{vs:List Value}
def ng(W:World):Live:=λb=>match W.heap[b]? with
 |some (.cells c _ _)=>c.size
 |_=>0
theorem qyv{x:Value}(h:W.cell? ⟨b,off,none⟩=some x):off<ng W b:=by unfold World.cell? at h;unfold ng;split at h;rename_i c t z hb;simp only[hb];simp only[Option.isSome_none,Uk,if_false] at h;exact(Array.getElem?_eq_some_iff.1 h).1;cases h
theorem qvp(h:W.heap.size<=b):ng W b=0:=by unfold ng;rw[Array.getElem?_eq_none h]
theorem qny{base:Nat}{k:Nat}{sp:Option Nat}{vs:List Value}(hk:0<k)(h:W.cells? base ⟨b,off,sp⟩ k=some vs):sp=none/\vs.length=k/\∀ i (hi:i<vs.length),W.cell? ⟨b,off+i,none⟩=some vs[i]:=by
 unfold World.cells? at h;split at h;have hl:=mapM_some_length h;rw[List.length_range] at hl;have hg:∀ i,i<k->W.cell? (Addr.add ⟨b,off,sp⟩ i)=vs[i]? := λi hi=>mapM_some_get h i i (by simp[hi]);have h0:=hg 0 hk;rw[jh (by omega)] at h0
 have Bo:sp=none:=by
  cases sp with
  |none=>rfl
  |some z=>unfold Addr.add World.cell? at h0;simp at h0;split at h0 <;> simp_all
 subst Bo;refine⟨rfl,by omega,λi hi=>?_⟩;have:=hg i ga;rw[jh hi] at this;unfold Addr.add at this;split at this
 rename_i h;subst h;exact this;exact this;cases h
theorem qzL(h8:8<=W.heap.size):Go.GL.Ta (KC 8 W) W (ng W) []:=qy0 h8 λb hb=>qvp hb
section
variable{W:World}
theorem dV{c:LV}{cs:List LV}(h:oa W (ng W) [c] [v])(h2:oa W (ng W) cs vs):oa W (ng W) (c::cs) (v::vs):=by simp only[oa] at h ⊢;obtain⟨y,ys,e,h1,rfl⟩:=h;simp only[List.cons.injEq] at e;obtain⟨rfl,_⟩:=e;exact⟨v,vs,rfl,h1,h2⟩
theorem qp7:oa W (ng W) [] []:=by simp only[oa]
end
section
variable{H:Type}{enc:TypeId×Value->H}{W:World}
theorem qld{A:Type}{e:TypeId}{k:Nat}(wG:0<k)(el:A->LV)(fields:A->List LV)(m:A->Nat)(Pd:A->Prop){n b:Nat}
  (row:∀ (a:A) (vs:List Value) (off:Nat) (da:List LV),oa W (ng W) (fields a) vs->vs.length=k->(∀ i (h:i<vs.length),W.cell? ⟨b,off+i,none⟩=some vs[i])->Qc W (ng W) b k (off+k) da->Qc W (ng W) b k off (el a::da))
  (each:∀ cs y,DataW.trod enc Tryz.prog W 0 (λ_=>true) true n e cs=some y->∃ a,oa W (ng W) (fields a) cs/\Pd a/\m a<=Rows.uptoBulk y.1) :
  ∀ (ys:List (DataW H×List MemPlace)) (off:Nat),(∀ i,i<ys.length->(W.cells? 0 ⟨b,off+i * k,none⟩ k).bind (DataW.trod enc Tryz.prog W 0 (λ_=>true) true n e)=ys[i]?) ->
   ∃ l:List A,l.length=ys.length/\Qc W (ng W) b k off (l.map el)/\(∀ a∈l,Pd a)/\(l.map m).sum<=Rows.uptoBulkAll (ys.map (·.1))
 |[],off,_=>⟨[],rfl,by simp only[map_nil,Qc],λa h=>(not_mem_nil h).elim,zero_le _⟩
 |y::ys,off,h=>by
  have h0:=h 0 (by simp);rw[Nat.zero_mul,add_zero,al] at h0;obtain⟨vs,hv,hy⟩:=Option.bind_eq_some_iff.1 h0;obtain⟨_,hl,hc⟩:=qny wG hv;obtain⟨a,h1,h2,h3⟩:=each vs y hy;obtain⟨l,q1,q2,q3,q4⟩:=qld wG el fields m Pd row each ys (off+k) λi hi=>by have:=h (i+1) (by simpa using hi);rw[dr,Nat.succ_mul,show off+(i * k+k)=off+k+i * k by omega] at this;exact this
  refine⟨a::l,by simp[q1],row a vs off _ h1 hl hc q2,λx hx=>?_,?_⟩;rcases zc.1 hx with rfl|hx;exact h2;exact q3 x hx;rw[jd,List.sum_cons,jd,Rows.uptoBulkAll];omega
theorem qnw{A:Type}{t e:TypeId}{k:Nat}(ht:Tryz.prog.underlying t=some (.slice e))(hk:Tryz.prog.cellsOf e=k)(wG:0<k)(el:A->LV)(fields:A->List LV)(m:A->Nat)(Pd:A->Prop){Aa:Nat}
  (row:∀ (b:Nat) (a:A) (vs:List Value) (off:Nat) (da:List LV),oa W (ng W) (fields a) vs->vs.length=k->(∀ i (h:i<vs.length),W.cell? ⟨b,off+i,none⟩=some vs[i])->Qc W (ng W) b k (off+k) da->Qc W (ng W) b k off (el a::da))
  (each:∀ n,n<Aa->∀ cs y,DataW.trod enc Tryz.prog W 0 (λ_=>true) true n e cs=some y->∃ a,oa W (ng W) (fields a) cs/\Pd a/\m a<=Rows.uptoBulk y.1)
  {cs:List Value} {x:DataW H×List MemPlace} (h:DataW.trod enc Tryz.prog W 0 (λ_=>true) true Aa t cs=some x) :
  ∃ l:List A,oa W (ng W) [.list (l.map el)] cs/\(∀ a∈l,Pd a)/\(l.map m).sum+1<=Rows.uptoBulk x.1:=by
 rcases DataW.trod_slice ht h with⟨rfl,rfl⟩|⟨a,len,cap,elems,da,n,hfu,rfl,rfl,_,hl,hm,na,Mm,_,_⟩;refine⟨[],?_,λa h=>(not_mem_nil h).elim,?_⟩;simp only[oa,xb,map_nil];exact⟨_,_,rfl,⟨none,0,rfl,zero_le _,λh=>absurd rfl h⟩,rfl⟩;rw[Rows.uptoBulk];exact Jb _;rw[hk] at Mm;have GI:Rows.uptoBulk (.slice (elems.map (·.1)) (da.map (·.1)):DataW H)=Rows.uptoBulkAll (elems.map (·.1))+Rows.uptoBulkAll (da.map (·.1))+1:=by rw[Rows.uptoBulk]
 by_cases h0:len=0;subst h0;refine⟨[],?_,λa h=>(not_mem_nil h).elim,?_⟩;simp only[oa,xb,map_nil];exact⟨_,_,rfl,⟨some a,cap,rfl,zero_le _,λh=>absurd rfl h⟩,rfl⟩;simp only[GI,map_nil,List.sum_nil];omega;obtain⟨b,off,sp⟩:=a;have e0:=Mm 0 ga;rw[jh (by omega),Nat.zero_mul] at e0;obtain⟨vs,hv,_⟩:=Option.bind_eq_some_iff.1 e0;obtain⟨Bo,_,_⟩:=qny (b:=b) (off:=off) (sp:=sp) wG (by simpa [Addr.add] using hv);subst Bo
 obtain⟨l,q1,q2,q3,q4⟩:=qld (W:=W) (enc:=enc) (b:=b) (n:=n) (e:=e) wG el fields m Pd (row b) (each n ga) elems off λi hi=>by have:=Mm i ga;unfold Addr.add at this;split at this;rename_i hz;rw[hz,add_zero];exact this;exact this
 refine⟨l,?_,q3,?_⟩;simp only[oa,xb];refine⟨_,_,rfl,⟨some ⟨b,off,none⟩,cap,by rw[Db,q1,na],by rw[Db,q1,na];exact hl,λ_=>⟨b,off,k,rfl,q2⟩⟩,rfl⟩;simp only[GI];omega
theorem qq3{vs:List Value}{da:List LV}(h:oa W (ng W) [.atom v] vs)(hc:∀ i (h:i<vs.length),W.cell? ⟨b,off+i,none⟩=some vs[i])(hr:Qc W (ng W) b 1 (off+1) da):Qc W (ng W) b 1 off (.atom v::da):=by simp only[oa] at h;obtain⟨y,ys,rfl,h1,rfl⟩:=h;have h0:=hc 0 (by simp);simp only[add_zero,List.getElem_cons_zero] at h0;simp only[Qc];exact⟨⟨trivial,qyv h0,y,h0,h1⟩,hr⟩
end
open Go.ia
variable{cs:List Value}
noncomputable def PI(t:TypeId)(ts:List TypeId):Bool:=match Tryz.prog.underlying t with
 |some (.struct fs)=>oneCellFields Tryz.prog fs && (fs.toList.map (·.type) == ts)
 |_=>false
section
variable{H:Type}{enc:TypeId×Value->H}{W:World}
theorem qpj{t:TypeId}{ts:List TypeId}(h:PI t ts=true)(hC:Tryz.prog.cellsOf t=ts.length){Aa:Nat}{x:DataW H×List MemPlace}(hx:DataW.trod enc Tryz.prog W 0 (λ_=>true) true Aa t cs=some x) :
  ∃ (ys:List (DataW H×List MemPlace)) (n:Nat),Aa=n+1/\x.1=.agg (ys.map (·.1))/\cs.length=ts.length/\ys.length=ts.length/\∀ (i:Nat) (u:TypeId),ts[i]? = some u->∃ v y,cs[i]? = some v/\ys[i]? = some y/\DataW.trod enc Tryz.prog W 0 (λ_=>true) true n u [v]=some y:=by
 unfold PI at h;split at h;rename_i fs hu;simp only[sd,beq_iff_eq] at h;obtain⟨pu,OV⟩:=h;obtain⟨ys,n,hf,S2,hl,hy,hg⟩:=DataW.trod_struct hu hx;have ld:fs.size=ts.length:=by rw[<-OV];simp
 refine⟨ys,n,hf,by rw[S2],hl.trans hC,hy.trans ld,λi u hi=>?_⟩;have Ff:i<ts.length:=(List.getElem?_eq_some_iff.1 hi).1;have U4:fs[i]? = some fs[i]:=Array.getElem?_eq_getElem ga
 have hfu:(fs[i]'(by omega)).type=u:=by
  have:(fs.toList.map (·.type))[i]? = some u:=by rw[OV];exact hi
  rw[List.getElem?_map,Array.getElem?_toList,U4] at this;simpa using this
 obtain⟨o1,o2⟩:=hone_of pu i _ U4;have h1:=hg i _ U4;rw[o1,o2,hfu,jh (by omega)] at h1;have Ge:i<cs.length:=by omega
 have hd:(cs.drop i).take 1=[cs[i]]:=by rw[List.drop_eq_getElem_cons Ge];rfl
 rw[hd] at h1;exact⟨cs[i],ys[i]'(by omega),jh Ge,jh ga,h1⟩;cases h
end
section
variable{H:Type}{enc:TypeId×Value->H}{W:World}
theorem qtU{n:Nat}{y:DataW H×List MemPlace}(h:DataW.trod enc Tryz.prog W 0 (λ_=>true) true n 55 cs=some y):∃ a:Nat,oa W (ng W) [Lb.u16 a] cs/\a<65536:=by obtain⟨m,rfl,_,w⟩:=DataW.trod_int (show Tryz.prog.underlying 55=some (.int .u16) from zk) h;obtain⟨a,rfl,ha⟩:=qzv w;refine⟨a,?_,ha⟩;simp only[oa,xb,Lb.u16,Go.GL.int];exact⟨_,_,rfl,rfl,rfl⟩
theorem qvr{n:Nat}{y:DataW H×List MemPlace}(h:DataW.trod enc Tryz.prog W 0 (λ_=>true) true n 5 cs=some y):∃ b:UInt8,oa W (ng W) [Go.GL.int .u8 (b.toNat:Int)] cs:=by
 obtain⟨m,rfl,_,w⟩:=DataW.trod_int (show Tryz.prog.underlying 5=some (.int .u8) from zk) h;have h2:0<=m/\m<256:=by simp[Lit.wf] at w;simp[IntKind.has,IntKind.min,IntKind.max,IntKind.signed,IntKind.bits] at w;omega
 refine⟨UInt8.ofNat m.toNat,?_⟩;have e:((UInt8.ofNat m.toNat).toNat:Int)=m:=by rw[UInt8.toNat_ofNat'];omega
 rw[e];simp only[oa,xb,Go.GL.int];exact⟨_,_,rfl,rfl,rfl⟩
theorem qpK{d:DataW H}{ps:List MemPlace}{base:Nat}(fk:Value.okWide Tryz.prog W .any base 35 v)(hd:DataW.Trod enc Tryz.prog W 0 (λ_=>true) true 35 v d ps) :
  ∃ (Rd:List Nat) (Ws:List UInt8),oa W (ng W) [.agg (Lb.Tq Rd Ws)] [v]/\∀ a∈Rd,a<65536:=by
 obtain⟨fs0,hu⟩:∃ fs,Tryz.prog.underlying 35=some (.struct fs):=by
  have h:(match Tryz.prog.underlying 35 with|some (.struct _)=>true|_=>false)=true:=by kernel_rfl
  split at h;exact⟨_,by assumption⟩;cases h
 obtain⟨cs,rfl,ld⟩:=okWide_struct hu fk;obtain⟨Aa,hf⟩:=hd;have jW:DataW.trod enc Tryz.prog W 0 (λ_=>true) true Aa 35 cs.toList=some (d,ps):=by simpa [Value.cells] using hf
 obtain⟨ys,n,rfl,hb,hl,ZF,hg⟩:=qpj (ts:=[32,33]) zk zk jW;obtain⟨v0,y0,c0,d0,t0⟩:=hg 0 _ rfl;obtain⟨v1,y1,c1,d1,t1⟩:=hg 1 _ rfl;obtain⟨Rd,r0,p0,b0⟩:=qnw (t:=32) (e:=55) (k:=1) zk zk fa Lb.u16 (λa=>[Lb.u16 a]) (λ_=>0) (λa=>a<65536) (λb a vs off da q1 q2 q3 q4=>qq3 q1 q3 q4) (λn' _ _ _ hy=>by
  obtain⟨a,h1,h2⟩:=qtU hy;exact⟨a,h1,h2,zero_le _⟩) t0
 obtain⟨Ws,r1,_,b1⟩:=qnw (t:=33) (e:=5) (k:=1) zk zk fa (λb:UInt8=>Go.GL.int .u8 (b.toNat:Int)) (λb:UInt8=>[Go.GL.int .u8 (b.toNat:Int)]) (λ_=>0) (λ_=>True) (λb a vs off da q1 q2 q3 q4=>qq3 q1 q3 q4) (λn' _ _ _ hy=>by
  obtain⟨a,h1⟩:=qvr hy;exact⟨a,h1,trivial,zero_le _⟩) t1
 obtain⟨w0,w1,rfl⟩:∃ w0 w1,cs=#[w0,w1]:=by
  obtain⟨l⟩:=cs;match l,hl with
  |[w0,w1],_=>exact⟨w0,w1,rfl⟩
 simp only[al,dr,jm] at c0 c1;subst c0 c1;refine⟨Rd,Ws,?_,p0⟩;have h3:=dV r0 (dV r1 qp7);unfold Lb.Tq;rw[oa];refine⟨_,_,rfl,?_,by simp only[oa]⟩;rw[xb];exact⟨_,rfl,h3⟩
theorem qpc{W':World}{d:DataW H}{ps:List MemPlace}{sp:Nat->Bool}(hd:DataW.Trod enc Tryz.prog W 0 (λ_=>true) true 35 v d ps)(hb:Below W.heap.size W W')(Ja:∀ x∈ps,x.block<W.heap.size)(Bo:∀ p∈ps,sp p.block=true):DataW.Trod enc Tryz.prog W' 0 sp true 35 v d ps:=
 WideElems.Trod_stays qyx zk (ag zk) hd (λx hx=>hb.same (Ja x hx)) Bo
end
end Go.Proofs.YtmnjklgnhpnckaaGreatDoor
namespace Go.Proofs.YtmnjklgnhpnckaaGreatDoor.Jn
open Go
theorem j2:laidOutB Tryz.prog=true:=zk
theorem j3:mapsRowed Tryz.prog=true:=zk
theorem j7:(Tryz.prog.stops == [])=true:=zk
theorem j9:(Tryz.prog.stopKnobs == [])=true:=zk
theorem j22:(Rows.libraryBlakeRow.plainKeys == Tryz.prog.plainKeys)=true:=zk
theorem F2:Tryz.prog.stopsHeard=true:=zk
theorem j24:Tryz.prog.mayEnter=true:=zk
theorem D2:(Rows.libraryBlakeRow.lifted == Tryz.prog.liftsFinal)=true:=zk
theorem C2:(Tryz.prog.make == some Rows.libraryBlakeRow.make)=true:=zk
theorem CK{f:FuncId}{fn:Func}{s:ChangeSpec}{c:OpenClaim}
  (e22:c.plainKeys=Rows.libraryBlakeRow.plainKeys) (x6:c.lifted=Rows.libraryBlakeRow.lifted) (u6:c.make=Rows.libraryBlakeRow.make)
  (k1:c.wf (OpenSpec.ofChange s)=true) (k4:(fn.params.all (Tryz.prog.readableRec ·))=true) (k5:namedTie Tryz.prog c.named s.vars=true)
  (k6:(c.stops == [])=true) (k8:(c.knobs == [])=true)
  (k10:(c.inPlace == Tryz.prog.inPlace f)=true) (k11:(c.unfollowed == Tryz.prog.unfollowed f)=true) (k12:(c.recurses == Tryz.prog.recurses f)=true) (k13:(c.named == Tryz.prog.varsNamed f)=true)
  (k14:(c.maps == (fn.params.toList++s.plain.varTypes Tryz.prog).any (Tryz.prog.mapsRec ·))=true) (k15:(c.ifaces == (fn.params.toList++s.plain.varTypes Tryz.prog).any (Tryz.prog.ifacesRec ·))=true)
  (k16:(c.mapsOut == Tryz.prog.mapsAmong fn.resultTypes.toList)=true)
  (k17:(c.loops == (fn.params.toList++s.plain.varTypes Tryz.prog).any (Tryz.prog.loopsFrom ·))=true) (B2:(c.wideKeys == (fn.params.toList++s.plain.varTypes Tryz.prog++fn.resultTypes.toList).any (Tryz.prog.wideKeysFrom ·))=true)
  (k18:s.vars.all (Tryz.prog.varReadable ·)=true) (k19:fn.resultTypes.all (λt=>Tryz.prog.readableRec t && decide (t<Tryz.prog.types.size))=true)
  (k20:(c.ifacesOut == fn.resultTypes.toList.any (Tryz.prog.ifacesRec ·))=true) (k21:(c.loopsOut == fn.resultTypes.toList.any (Tryz.prog.loopsFrom ·))=true)
  (k23:c.shortTexts.isNone=true) (k25:(c.kinds == (if c.domain.isEmpty then [] else fn.params.toList.map λt=>match Tryz.prog.underlying t with|some (.int k)=>some k|_=>none))=true)
  (k26:(c.pinned == c.pinnedBy)=true) (k27:(c.veiled == (fn.params.toList++s.plain.varTypes Tryz.prog++fn.resultTypes.toList).any (Tryz.prog.veiledRec ·))=true)
  (k28:c.veiledFits Tryz.prog fn.params.toList (fn.params.toList++s.plain.varTypes Tryz.prog++fn.resultTypes.toList)=true) :
  joinedFacts Tryz.prog f fn s c=true:=by
 have m22:(c.plainKeys == Tryz.prog.plainKeys)=true:=by rw[e22];exact j22
 have Y1:(c.lifted == Tryz.prog.liftsFinal)=true:=by rw[x6];exact D2
 have X1:(Tryz.prog.make == some c.make)=true:=by rw[u6];exact C2
 unfold joinedFacts;simp only[sd];exact⟨⟨⟨⟨⟨⟨⟨⟨⟨⟨⟨⟨⟨⟨⟨⟨⟨⟨⟨⟨⟨⟨⟨⟨⟨⟨⟨⟨⟨⟨⟨k1,j2⟩,j3⟩,k4⟩,k5⟩,k6⟩,j7⟩,k8⟩,j9⟩,k10⟩,k11⟩,k12⟩,k13⟩,k14⟩,k15⟩,k16⟩,k17⟩,B2⟩,k18⟩,k19⟩,k20⟩,k21⟩,m22⟩,k23⟩,F2⟩,j24⟩,Y1⟩,X1⟩,k25⟩,k26⟩,k27⟩,k28⟩
end Go.Proofs.YtmnjklgnhpnckaaGreatDoor.Jn
namespace Go.Proofs.YtmnjklgnhpnckaaGreatDoor
open Go.ChangeShapes Go.WideShapes Go.ChangeAt Go.RowKit Go.Deep Go.Joins
theorem qAd{W:World}(h:laidMetH Tryz.prog sN W)(hs:W.ShapedOpen Tryz.prog):Pp.GW 8 W:=by
 have h0:laidMet Tryz.prog sN W:=h;have he : laidMet Tryz.prog [("strconv.ErrSyntax", Rows.laid_strconv_ErrSyntax)] W := h0.filter (fun x => x.1 == "strconv.ErrSyntax");obtain⟨ps,⟨g,t,cs,Aa,p,q,hg,ht,ew,hd,_,_⟩,_⟩:=he;have Tx : Tryz.prog.globalNamed "strconv.ErrSyntax" = some 1 := by kernel_rfl
 obtain rfl:=Option.some.inj (Tx.symm.trans hg);have C3:(Tryz.prog.globals[1]?).map (·.type)=some 94:=by kernel_rfl
 obtain rfl:=Option.some.inj (C3.symm.trans ht);obtain⟨ms,wA⟩:∃ ms,Tryz.prog.underlying 94=some (.interface ms):=(inferInstance:Go.GL.yh Tryz.prog 94).De;refine⟨(qlG h hs).1,K7 hs,?_⟩;obtain⟨_,u,v,BA,_,_⟩:=iface_of_trod wA hd;refine⟨u,v,?_⟩;rw[ew];congr 1;exact Array.ext' (by simpa using BA)
end Go.Proofs.YtmnjklgnhpnckaaGreatDoor
