import Derived.Test.YtkihibnffkpnkaaGreatDoorRowLCj
import Derived.Test.YtkihibnffkpnkaaGreatDoorRowLCk
import Derived.Test.YtkihibnffkpnkaaGreatDoorBRowL35
import Derived.Test.YtkihibnffkpnkaaGreatDoorBRowL37
set_option linter.unusedVariables false
set_option linter.unusedSimpArgs false
set_option maxRecDepth 100000
set_option maxHeartbeats 4000000
open List (not_mem_nil map_nil)
open Nat (zero_le add_zero)
namespace Go.Proofs.YtkihibnffkpnkaaGreatDoor.fnLibraryCrc
open Go.ChangeShapes Go.WideShapes Go.ChangeAt Go.RowKit Go.ChangeMaps
open Go.GL (RepL Rep)
open Lb (qpN)
theorem qgh(H:Type)(enc:TypeId×Value->H)(W:World)(base:Nat)(args:Array Value)(ds gs:List (DataW H))(before:List MemPlace)
  (hval:∀ (j:Nat) t v,Tryz.f3.params[j]? = some t->args[j]? = some v->Value.okWide Tryz.prog W .any base t v)
  (hW:DataW.Whole enc Tryz.prog Tryz.f3.params.toList Rows.libraryCrcSpec.vars false W args.toList ds gs before) (hL:laidMetH Tryz.prog Rows.libraryCrcRow.laid W) (hS:W.ShapedOpen Tryz.prog) :
  Calls Tryz.prog 3 args W λe W'=>∃ v,e=.returned v/\Rows.libraryCrcSpec.post enc Tryz.prog Tryz.f3 false true false false W args v W':=by
 have hW':=hW;obtain⟨p,q,hA0,hV,rfl,hfz,hnd⟩:=hW;have hA:DataW.TrodAll enc Tryz.prog W 0 (λ_=>true) true Tryz.f3.params.toList args.toList ds p:=hA0;rw[Tryz.params3] at hA hval;obtain⟨v0,vs0,d0,ds0,p0,q0,hargs,rfl,rfl,h0,r0⟩:=trodAll_cons hA;obtain⟨rfl,rfl,rfl⟩:=trodAll_nil r0;obtain rfl:args=#[v0]:=by cases args;simp_all
 obtain⟨rfl,rfl⟩:=trodVars_none hV;obtain⟨s0,rfl,rfl,rfl,ws0⟩:=open_string Tryz.underlying9 (hval 0 9 v0 rfl rfl) h0
 have hx0:RepL W (allL W) [Go.GL.str s0.data.toList] [.string s0]:=by
  simp only[RepL,Go.GL.str];exact⟨_,_,rfl,by simp[Rep],rfl⟩
 obtain⟨hG,h8⟩:=qgk (qqL hL) hS;have hM:=qvb hS;have hP:=qtT (qqL hL) hS;clear hA0;simp only[zLz,List.nil_append] at hW';refine(qof (vs:=[.string s0]) (qpN hP s0.data.toList) (qfR hx0 qlQ) (qsM h8)).mono λe W' ⟨he,hg⟩=>?_;subst he
 exact⟨_,rfl,qe5 (pa:=[]) (pv:=[]) hW' (λ_ _ _=>trodAll_cons_mk (shut_bool Tryz.underlying4 _) trodAll_mk0) (λsp hsp=>by
   exact(trodAll_cons_mk (shut_string Tryz.underlying9 ws0) trodAll_mk0)) (λ_ _=>rfl) (by simp)
  hg (ok_one (by kernel_rfl) rfl (okWide_bool_mk Tryz.underlying4 _))⟩
theorem reads(os:Os){H:Type}(enc:TypeId×Value->H):∃ places,DataW.whole enc Tryz.prog ((laidWorld7 os).forCall (λ_ _=>0) ⟨#[],#[.string ⟨#[]⟩],[]⟩).memory Tryz.f3.params.toList Rows.libraryCrcSpec.vars false #[Value.string ⟨#[]⟩].toList 8=some ([.lit (.string [])],[],places):=
 ⟨[],by kernel_rfl⟩
theorem lifted(os:Os)(started:os.Started)(H:Type)(enc:TypeId×Value->H)(F:Stop.Interp) :
  ReturnsInHanded {} Tryz.checked os 3 .any ((OpenSpec.ofChange Rows.libraryCrcSpec).preRow enc Tryz.prog Tryz.f3 Rows.libraryCrcRow.domain false Rows.libraryCrcRow.laid) (((OpenSpec.ofChange Rows.libraryCrcSpec).at F).post enc Tryz.prog Tryz.f3 false true false false):=by
 obtain⟨places,hx⟩:=reads os enc
 refine returnsInHanded_of_row (C:=Tryz.checked) (s:=OpenSpec.ofChange Rows.libraryCrcSpec) own started (by kernel_rfl) Tryz.func3
  (witness_row_at (enc:=enc) (C:=Tryz.checked) false (laidWorld7 os) #[.string ⟨#[]⟩] rfl (by kernel_rfl) (by kernel_rfl) (by kernel_rfl)
   (OpenSpec.preRow_of_cond 8 hx (by kernel_rfl) (λk hk=>by cases hk) (by kernel_rfl) (qkm os _))) ?_
 intro W base args ds gs before hval hW _ _ _ hL hS _;exact qgh H enc W base args ds gs before hval hW hL hS
theorem closed:joinedFacts Tryz.prog 3 Tryz.f3 (OpenSpec.ofChange Rows.libraryCrcSpec).bare Rows.libraryCrcRow=true:=
 Jn.joined rfl rfl rfl (by kernel_rfl) (by kernel_rfl) (by kernel_rfl) rfl rfl c10 c11 c12 c13 (by kernel_rfl) (by kernel_rfl) (by kernel_rfl) (by kernel_rfl) (by kernel_rfl) (by kernel_rfl) (by kernel_rfl) (by kernel_rfl) (by kernel_rfl) (by kernel_rfl) (by kernel_rfl) (by kernel_rfl) (by kernel_rfl) (by kernel_rfl)
theorem said:Rows.LibraryCrcSaid:=
 OpenClaim.holds_of_cond 3 Tryz.f3 rfl rfl rfl rfl rfl rfl rfl ⟨rfl,rfl,rfl,rfl,rfl⟩ rfl rfl rfl rfl rfl (by kernel_rfl) Tryz.func3 closed
  (of_decide_eq_true (by kernel_rfl)) (by unfold Func.isWrapper;first|(rw[if_pos (by decide +kernel)];kernel_rfl)|(rw[if_neg (by decide +kernel)];exact⟨rfl,rfl⟩))
  (λos started H enc _ F=>by rw[OpenClaim.pre_eq_preRow];exact lifted os started H enc F)
theorem plain (f : FuncId) (fn : Func) (hf : Tryz.pinned.checked.prog.funcNamed "stele/stelelaw25.LibraryCrc" = some f) (hfn : Tryz.pinned.checked.prog.funcs[f]? = some fn) :
  true=Tryz.pinned.checked.prog.looks []/\∀ (j:Nat) t,fn.params[j]? = some t->Tryz.pinned.checked.prog.wantsStandIn t=false:=by
 obtain rfl : f = 3 := Option.some.inj ((show Tryz.prog.funcNamed "stele/stelelaw25.LibraryCrc" = some 3 by kernel_rfl).symm.trans hf) |>.symm
 obtain rfl:fn=Tryz.f3:=(Option.some.inj (Tryz.func3.symm.trans hfn)).symm;refine⟨by kernel_rfl,λj t ht=>?_⟩;rw[Tryz.params3] at ht;have hm:=Array.mem_of_getElem? ht;simp only[List.mem_toArray,zMi,not_mem_nil,or_false] at hm;rcases hm with rfl;exact(show Tryz.prog.wantsStandIn 9=false by kernel_rfl)
end Go.Proofs.YtkihibnffkpnkaaGreatDoor.fnLibraryCrc
namespace Go.Proofs.YtkihibnffkpnkaaGreatDoor
theorem libraryCrc_card:Rows.LibraryCrcCardSaid:=
 Claim7.holds_tied_plain_at .later [] _ _ _ _ fnLibraryCrc.said (λ_ h=>by cases h) (by kernel_rfl) (λ_ h=>by cases h) libraryCrc_row_tie rfl ⟨rfl,rfl⟩ (by kernel_rfl) rfl fnLibraryCrc.plain (by kernel_rfl)
#print axioms libraryCrc_card
end Go.Proofs.YtkihibnffkpnkaaGreatDoor
namespace Go.Proofs.YtkihibnffkpnkaaGreatDoor.Lb
open Go.GL Go.RowKit Go.Stele
theorem qxw:nmS.length=15:=rfl
attribute [local irreducible] LOps qag qae LCalls Go.GL.Pure qax qam qad LQ LAny qaJ qan LS
section
variable{B0:Nat}{w0:World}
theorem qk0(hG:Pp.GW B0 w0)(name:List UInt8)(l:List (List UInt8)):LCalls (KC B0 w0) 4 [str name,.list (l.map str)] [] (Ret (bool true)):=by
 have hal:=qhS (B0:=B0) (w0:=w0) hG;have hn:=qkM (B0:=B0) (w0:=w0);have hrn:=qnZ (B0:=B0) (w0:=w0);have hm:=qjt (B0:=B0) (w0:=w0) name;have hrm:=qiM (B0:=B0) (w0:=w0) name;have hla:(l.map str).length=l.length:=zLm _;have hnl:=qxw;generalize nmS=ns at *;have hna:(ns.map str).length=ns.length:=zLm _;generalize modP name=q at *;obtain⟨t,e⟩:=q;have hm:LCalls (KC B0 w0) _ _ _ (Ret (.tuple [str t,int .i64 e])):=hm;have hrm:LCalls (KC B0 w0) _ _ _ (Ret (.tuple [str t,int .i64 e])):=hrm;refine zcI Tryz.func4 rfl (n:=81) rfl rfl rfl ?_;refine gaq ?_;refine oS (sF [] rfl hal ?_) rfl;refine gad ?_;refine oC rfl (λhc=>by cases hc) (λ_=>?_);refine gab ?_;refine oC rfl (λ_=>?_) (λhc=>?_);refine gao ?_;exact qac rfl (zra rfl) rfl;have hl:l.length<=8:=by have:=zf hc;omega
 have hs:=qe8 (B0:=B0) (w0:=w0) l zo;have hrs:=qni (B0:=B0) (w0:=w0) l zo;generalize srcP l []=r at *;obtain⟨u,g⟩:=r;have hs:LCalls (KC B0 w0) _ _ _ (Ret (.tuple [str u,int .i64 g])):=hs;have hrs:LCalls (KC B0 w0) _ _ _ (Ret (.tuple [str u,int .i64 g])):=hrs;refine gaj ?_;refine oS (sF [] rfl hn ?_) rfl;refine oS (sF [] rfl hrn ?_) rfl;refine gab ?_;refine oC rfl (λhc=>?_) (λ_=>?_);exfalso;have h2:(!decide (((ns.map str).length:Int)=((ns.map str).length:Int)))=true:=hc;rw[decide_eq_true rfl] at h2;cases h2;refine gac ?_
 refine oL (λk sl H=>∃ i:Nat,i<=ns.length/\k=ns.length-i/\sl=[(0,str name),(1,.list (l.map str)),(5,.list (ns.map str)),(6,.list (ns.map str)),(29,int .i64 ns.length),(30,int .i64 i)]/\H=[])
  ⟨_,_,_,⟨0,zero_le _,rfl,rfl,rfl⟩,⟨rfl,rfl,rfl,rfl,qao zo,rfl,trivial⟩,zhR _⟩ ?_
 rintro k sl H ⟨i,hi,rfl,rfl,rfl⟩ j1 hj1;refine gai ?_;refine oC rfl (λhc=>?_) (λhc=>?_);have hlt:i<ns.length:=by have:=zt hc;omega
 have hg:(ns.map str)[((i:Nat):Int).toNat]? = some (str ns[i]):=qa5 _ _ _ hlt;generalize ns[i]=x at *;refine gac ?_;refine zQ23 ?_;refine qP (xR (el':=str x) (cs:=[str x]) rfl rfl zo hg rfl rfl) rfl ?_;refine gad ?_;refine qP (xR (el':=str x) (cs:=[str x]) rfl rfl zo hg rfl rfl) rfl ?_;refine gad ?_;refine oC rfl (λhc=>?_) (λ_=>?_);exfalso;have h2:(!decide (x=x))=true:=hc;rw[decide_eq_true rfl] at h2;cases h2;refine gac ?_;exact⟨_,_,_,by omega,⟨i+1,by omega,rfl,rfl,rfl⟩,⟨rfl,rfl,rfl,rfl,rfl,qao zo,trivial⟩,zhR _,hj1⟩;have hi':i=ns.length:=by have:=zf hc;omega
 subst hi';refine gac ?_;refine oS (sF [_] rfl hm ?_) rfl;refine gac ?_;refine oS (sF [_] rfl hrm ?_) rfl;refine gac ?_;refine oS (sF [_] rfl hs ?_) rfl;refine gac ?_;refine oS (sF [_] rfl hrs ?_) rfl;refine gac ?_;refine oB 66 rfl (λ_=>?_) (λh=>absurd rfl (zf h));refine gaa ?_;refine oB 71 rfl (λ_=>?_) (λh=>absurd rfl (zf h));refine gaa ?_;refine oB 76 rfl (λ_=>?_) (λh=>absurd rfl (zf h));refine gaa ?_;exact qac hj1 (zra rfl) (qau (decide_eq_true rfl))
end
end Go.Proofs.YtkihibnffkpnkaaGreatDoor.Lb
namespace Go.Proofs.YtkihibnffkpnkaaGreatDoor
open Go.ChangeShapes Go.WideShapes Go.ChangeAt Go.RowKit Go.Deep Go.Joins
open Go.GL (LV Live Rep RepL RepC qak)
section
variable{H:Type}{enc:TypeId×Value->H}{W:World}
theorem qkU{A:Type}{e:TypeId}{k:Nat}(hk0:0<k)(el:A->LV)(fields:A->List LV)(m:A->Nat)(Pd:A->Prop){n b:Nat}
  (row:∀ (a:A) (vs:List Value) (off:Nat) (rest:List LV),RepL W (allL W) (fields a) vs->vs.length=k->(∀ i (h:i<vs.length),W.cell? ⟨b,off+i,none⟩=some vs[i])->qak W (allL W) b k (off+k) rest->qak W (allL W) b k off (el a::rest))
  (each:∀ cs y,DataW.trod enc Tryz.prog W 0 (λ_=>true) true n e cs=some y->∃ a,RepL W (allL W) (fields a) cs/\Pd a/\m a<=Rows.uptoBulk y.1) :
  ∀ (ys:List (DataW H×List MemPlace)) (off:Nat),(∀ i,i<ys.length->(W.cells? 0 ⟨b,off+i * k,none⟩ k).bind (DataW.trod enc Tryz.prog W 0 (λ_=>true) true n e)=ys[i]?) ->
   ∃ l:List A,l.length=ys.length/\qak W (allL W) b k off (l.map el)/\(∀ a∈l,Pd a)/\(l.map m).sum<=Rows.uptoBulkAll (ys.map (·.1))
 |[],off,_=>⟨[],rfl,by simp only[map_nil,qak],λa h=>(not_mem_nil h).elim,zero_le _⟩
 |y::ys,off,h=>by
  have h0:=h 0 (by simp);rw[Nat.zero_mul,add_zero,List.getElem?_cons_zero] at h0;obtain⟨vs,hv,hy⟩:=Option.bind_eq_some_iff.1 h0;obtain⟨_,hl,hc⟩:=qm5 hk0 hv;obtain⟨a,h1,h2,h3⟩:=each vs y hy
  obtain⟨l,q1,q2,q3,q4⟩:=qkU hk0 el fields m Pd row each ys (off+k) λi hi=>by
   have:=h (i+1) (by simpa using hi);rw[List.getElem?_cons_succ,Nat.succ_mul,show off+(i * k+k)=off+k+i * k by omega] at this;exact this
  refine⟨a::l,by simp[q1],row a vs off _ h1 hl hc q2,λx hx=>?_,?_⟩;rcases zMi.1 hx with rfl|hx;exact h2;exact q3 x hx;rw[zMc,List.sum_cons,zMc,Rows.uptoBulkAll];omega
theorem qsE{A:Type}{t e:TypeId}{k:Nat}(ht:Tryz.prog.underlying t=some (.slice e))(hk:Tryz.prog.cellsOf e=k)(hk0:0<k)(el:A->LV)(fields:A->List LV)(m:A->Nat)(Pd:A->Prop){fuel:Nat}
  (row:∀ (b:Nat) (a:A) (vs:List Value) (off:Nat) (rest:List LV),RepL W (allL W) (fields a) vs->vs.length=k->(∀ i (h:i<vs.length),W.cell? ⟨b,off+i,none⟩=some vs[i])->qak W (allL W) b k (off+k) rest->qak W (allL W) b k off (el a::rest))
  (each:∀ n,n<fuel->∀ cs y,DataW.trod enc Tryz.prog W 0 (λ_=>true) true n e cs=some y->∃ a,RepL W (allL W) (fields a) cs/\Pd a/\m a<=Rows.uptoBulk y.1)
  {cs:List Value} {x:DataW H×List MemPlace} (h:DataW.trod enc Tryz.prog W 0 (λ_=>true) true fuel t cs=some x) :
  ∃ l:List A,RepL W (allL W) [.list (l.map el)] cs/\(∀ a∈l,Pd a)/\(l.map m).sum+1<=Rows.uptoBulk x.1:=by
 rcases DataW.trod_slice ht h with⟨rfl,rfl⟩|⟨a,len,cap,elems,rest,n,hfu,rfl,rfl,_,hl,hm,hlen,hel,_,_⟩;refine⟨[],?_,λa h=>(not_mem_nil h).elim,?_⟩;simp only[RepL,Rep,map_nil];exact⟨_,_,rfl,⟨none,0,rfl,zero_le _,λh=>absurd rfl h⟩,rfl⟩;rw[Rows.uptoBulk];exact zNr _;rw[hk] at hel;have hbulk:Rows.uptoBulk (.slice (elems.map (·.1)) (rest.map (·.1)):DataW H)=Rows.uptoBulkAll (elems.map (·.1))+Rows.uptoBulkAll (rest.map (·.1))+1:=by rw[Rows.uptoBulk]
 by_cases h0:len=0
 subst h0;refine⟨[],?_,λa h=>(not_mem_nil h).elim,?_⟩;simp only[RepL,Rep,map_nil];exact⟨_,_,rfl,⟨some a,cap,rfl,zero_le _,λh=>absurd rfl h⟩,rfl⟩;simp only[hbulk,map_nil,List.sum_nil];omega;obtain⟨b,off,sp⟩:=a;have e0:=hel 0 (by omega);rw[List.getElem?_eq_getElem (by omega),Nat.zero_mul] at e0;obtain⟨vs,hv,_⟩:=Option.bind_eq_some_iff.1 e0;obtain⟨hsp,_,_⟩:=qm5 (b:=b) (off:=off) (sp:=sp) hk0 (by simpa [Addr.add] using hv);subst hsp
 obtain⟨l,q1,q2,q3,q4⟩:=qkU (W:=W) (enc:=enc) (b:=b) (n:=n) (e:=e) hk0 el fields m Pd (row b) (each n (by omega)) elems off λi hi=>by
  have:=hel i (by omega);unfold Addr.add at this;split at this
  rename_i hz
  rw[hz,add_zero];exact this;exact this
 refine⟨l,?_,q3,?_⟩;simp only[RepL,Rep];refine⟨_,_,rfl,⟨some ⟨b,off,none⟩,cap,by rw[zLm,q1,hlen],by rw[zLm,q1,hlen];exact hl,λ_=>⟨b,off,k,rfl,q2⟩⟩,rfl⟩;simp only[hbulk];omega
theorem qvJ{b:Nat}{v:Value}{vs:List Value}{off:Nat}{rest:List LV}(h:RepL W (allL W) [.atom v] vs)(hc:∀ i (h:i<vs.length),W.cell? ⟨b,off+i,none⟩=some vs[i])(hr:qak W (allL W) b 1 (off+1) rest):qak W (allL W) b 1 off (.atom v::rest):=by
 simp only[RepL] at h;obtain⟨y,ys,rfl,h1,rfl⟩:=h;have h0:=hc 0 (by simp);simp only[add_zero,List.getElem_cons_zero] at h0;simp only[qak];exact⟨⟨trivial,qwU h0,y,h0,h1⟩,hr⟩
end
open Go.Stele
section
variable{H:Type}{enc:TypeId×Value->H}{W:World}
theorem qvg(d:DataW H):1<=Rows.uptoBulk d:=by
 cases d with
 |lit l=>cases l <;> (simp only[Rows.uptoBulk];omega)
 |_=>simp only[Rows.uptoBulk];omega
theorem qux{n:Nat}{cs:List Value}{y:DataW H×List MemPlace}(h:DataW.trod enc Tryz.prog W 0 (λ_=>true) true n 9 cs=some y):∃ s:List UInt8,RepL W (allL W) [Go.GL.str s] cs/\True/\1<=Rows.uptoBulk y.1:=by
 obtain⟨s,rfl,_,_⟩:=DataW.trod_string Tryz.underlying9 h;refine⟨s.data.toList,?_,trivial,qvg _⟩;simp only[RepL,Rep,Go.GL.str];exact⟨_,_,rfl,rfl,rfl⟩
theorem qsB{fuel:Nat}{cs:List Value}{x:DataW H×List MemPlace}(h:DataW.trod enc Tryz.prog W 0 (λ_=>true) true fuel 32 cs=some x):∃ l:List (List UInt8),RepL W (allL W) [.list (l.map Go.GL.str)] cs/\l.length+1<=Rows.uptoBulk x.1:=by
 obtain⟨l,h1,hz,h3⟩:=qsE (t:=32) (e:=9) (k:=1) (by kernel_rfl) (by kernel_rfl) zDd Go.GL.str (λs=>[Go.GL.str s]) (λ_=>1) (λ_=>True) (λb a vs off rest q1 q2 q3 q4=>qvJ q1 q3 q4) (λn _ cs y hy=>qux hy) h;refine⟨l,h1,?_⟩
 have:(l.map λ_=>1).sum=l.length:=by
  clear h1 hz h3
  induction l with
  |nil=>rfl
  |cons a l ih=>rw[zMc,List.sum_cons,ih,zLc];omega
 omega
end
end Go.Proofs.YtkihibnffkpnkaaGreatDoor
