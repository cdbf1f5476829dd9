import Derived.Test.YtkihibnffkpnkaaGreatDoorBRowL35
set_option linter.unusedVariables false
set_option linter.unusedSimpArgs false
set_option maxRecDepth 100000
set_option maxHeartbeats 4000000
open Nat (lt_of_lt_of_le le_add_right add_comm)
namespace Go.Proofs.YtkihibnffkpnkaaGreatDoor.Lb
open Go.GL Go.RowKit Go.Stele
open Go.Lib (join)
theorem qj1{s:List UInt8}(h:(qaA s).2.2=0):∃ T p i op,qif s 1=.ok T/\qcN T (10 * T.length+20) noPr 0 0=some (.ok p i op)/\qaA s=(p,0,0)/\s.length<=60000:=by
 unfold qaA at h ⊢;split at h
 rename_i l e he
 exact absurd h (qkk he)
 rename_i T hT
 have hT':=hT;unfold qc2 at hT';split at hT';cases hT'
 rename_i hlen
 split at h
 rename_i p i op hp
 exact⟨T,p,i,op,hT',hp,rfl,by omega⟩
 rename_i l e he
 exact absurd h (ql4 _ _ _ _ _ _ _ he)
 rename_i hn
 obtain⟨q,hq⟩:=qdR T (10 * T.length+20) noPr 0 0 (Nat.zero_le _) zo;rw[hn] at hq;cases hq
theorem qsA{a b:List UInt8}(ha:(qaA a).2.2=0)(hb:(qaA b).2.2=0)(hla:a.length<=20000)(hlb:b.length<=20000):qaA (a++[10]++b)=((qaA a).1.app (qaA b).1,0,0):=by
 obtain⟨A,p,i1,o1,h1,h2,h3,_⟩:=qj1 ha;obtain⟨B,q,i2,o2,h4,h5,h6,_⟩:=qj1 hb;rw[h3,h6];obtain⟨B',h7,h8⟩:=qji b.length b 1 (1+(a.count 10:Nat)+1) B h4
 have h9:qif (a++10::b) 1=.ok (A++B'):=by
  rw[qhB b a.length a 1 A (zNr _) h1];unfold qif;rw[h7];rfl
 have h10:qc2 (a++[10]++b)=.ok (A++B'):=by
  rw[zAs,List.singleton_append];unfold qc2;rw[if_neg (by simp only[zLa,zLc];omega)];exact h9
 obtain⟨i,op,h11⟩:=qu6 (p:=p) (q:=q) h2 h5 (B':=B') h8;unfold qaA;rw[h10];simp only;rw[show(noPr:Pr)=qc1 from rfl,h11]
def cutL:List Nat->List UInt8->List (List UInt8)
 |[],s=>[s]
 |n::ns,s=>s.take n::cutL ns (s.drop (n+1))
def rowT:List (List UInt8)->List UInt8
 |[]=>[]
 |p::l=>p++10::rowT l
theorem qe7:∀ a b:List (List UInt8),rowT (a++b)=rowT a++rowT b
 |[],b=>rfl
 |p::a,b=>by
  show p++10::rowT (a++b)=(p++10::rowT a)++rowT b;rw[qe7 a b,zAs];rfl
def prs:List (List UInt8)->Pr
 |[]=>qc1
 |p::l=>(qaA p).1.app (prs l)
theorem qsy:qaA []=(qc1,0,0):=by kernel_rfl
theorem qjQ:∀ l:List (List UInt8),(∀ p∈l,(qaA p).2.2=0)->(rowT l).length<=20000->qaA (rowT l)=(prs l,0,0)
 |[],_,_=>qsy
 |p::l,h,hl=>by
  have h1:=h p (by simp)
  have hl2:p.length+((rowT l).length+1)<=20000:=by
   have:(rowT (p::l)).length=p.length+((rowT l).length+1):=by
    show(p++10::rowT l).length=_;rw[zLa,zLc]
   omega
  have ih:=qjQ l (λq hq=>h q (by simp[hq])) zo;have:=qsA (a:=p) (b:=rowT l) h1 (by rw[ih]) zo zo;rw[ih,zAs,List.singleton_append] at this;exact this
theorem qoZ:∀ a b:List (List UInt8),prs (a++b)=(prs a).app (prs b)
 |[],b=>(Pr.no_app _).symm
 |p::a,b=>by
  show(qaA p).1.app (prs (a++b))=((qaA p).1.app (prs a)).app (prs b);rw[qoZ a b,Pr.app_assoc]
noncomputable def pGf:List (List UInt8):=cutL [260,90] (tGf.dropLast)
theorem rowGf:tGf=rowT pGf:=by kernel_rfl
theorem okGf:(pGf.all λp=>decide ((qaA p).2.2=0))=true:=by kernel_rfl
theorem fnGf:0<(prs pGf).funcs.length:=by
 have h:decide (0<((qaA (pGf.headD [])).1).funcs.length)=true:=by kernel_rfl
 have h2:=zt h;show 0<(((qaA _).1.app _).funcs).length;show 0<(_++_:List FnD).length;rw[zLa];exact lt_of_lt_of_le h2 (le_add_right _ _)
noncomputable def pCrc:List (List UInt8):=cutL [] (tCrc.dropLast)
theorem qxV:tCrc=rowT pCrc:=by kernel_rfl
theorem okCrc:(pCrc.all λp=>decide ((qaA p).2.2=0))=true:=by kernel_rfl
theorem fnCrc:0<(prs pCrc).funcs.length:=by
 have h:decide (0<((qaA (pCrc.headD [])).1).funcs.length)=true:=by kernel_rfl
 have h2:=zt h;show 0<(((qaA _).1.app _).funcs).length;show 0<(_++_:List FnD).length;rw[zLa];exact lt_of_lt_of_le h2 (le_add_right _ _)
noncomputable def pViterbi:List (List UInt8):=cutL [464,197,667] (tViterbi.dropLast)
theorem qrl:tViterbi=rowT pViterbi:=by kernel_rfl
theorem qtW:(pViterbi.all λp=>decide ((qaA p).2.2=0))=true:=by kernel_rfl
theorem qtA:0<(prs pViterbi).funcs.length:=by
 have h:decide (0<((qaA (pViterbi.headD [])).1).funcs.length)=true:=by kernel_rfl
 have h2:=zt h;show 0<(((qaA _).1.app _).funcs).length;show 0<(_++_:List FnD).length;rw[zLa];exact lt_of_lt_of_le h2 (le_add_right _ _)
noncomputable def pRs:List (List UInt8):=cutL [404,812,127,281] (tRs.dropLast)
theorem rowRs:tRs=rowT pRs:=by kernel_rfl
theorem okRs:(pRs.all λp=>decide ((qaA p).2.2=0))=true:=by kernel_rfl
theorem fnRs:0<(prs pRs).funcs.length:=by
 have h:decide (0<((qaA (pRs.headD [])).1).funcs.length)=true:=by kernel_rfl
 have h2:=zt h;show 0<(((qaA _).1.app _).funcs).length;show 0<(_++_:List FnD).length;rw[zLa];exact lt_of_lt_of_le h2 (le_add_right _ _)
noncomputable def pFrame:List (List UInt8):=cutL [334,306,202,345,268,187,150] (tFrame.dropLast)
theorem qus:tFrame=rowT pFrame:=by kernel_rfl
theorem qxl:(pFrame.all λp=>decide ((qaA p).2.2=0))=true:=by kernel_rfl
theorem qws:0<(prs pFrame).funcs.length:=by
 have h:decide (0<((qaA (pFrame.headD [])).1).funcs.length)=true:=by kernel_rfl
 have h2:=zt h;show 0<(((qaA _).1.app _).funcs).length;show 0<(_++_:List FnD).length;rw[zLa];exact lt_of_lt_of_le h2 (le_add_right _ _)
noncomputable def pErasure:List (List UInt8):=cutL [] (tErasure.dropLast)
theorem qq4:tErasure=rowT pErasure:=by kernel_rfl
theorem qtk:(pErasure.all λp=>decide ((qaA p).2.2=0))=true:=by kernel_rfl
theorem qtF:0<(prs pErasure).funcs.length:=by
 have h:decide (0<((qaA (pErasure.headD [])).1).funcs.length)=true:=by kernel_rfl
 have h2:=zt h;show 0<(((qaA _).1.app _).funcs).length;show 0<(_++_:List FnD).length;rw[zLa];exact lt_of_lt_of_le h2 (le_add_right _ _)
noncomputable def pBlake:List (List UInt8):=cutL [347,601,439,1076,159,138,102] (tBlake.dropLast)
theorem qvt:tBlake=rowT pBlake:=by kernel_rfl
theorem qxt:(pBlake.all λp=>decide ((qaA p).2.2=0))=true:=by kernel_rfl
theorem qwO:0<(prs pBlake).funcs.length:=by
 have h:decide (0<((qaA (pBlake.headD [])).1).funcs.length)=true:=by kernel_rfl
 have h2:=zt h;show 0<(((qaA _).1.app _).funcs).length;show 0<(_++_:List FnD).length;rw[zLa];exact lt_of_lt_of_le h2 (le_add_right _ _)
noncomputable def pReader:List (List UInt8):=cutL [262,237,216,595,118,603,144,144,61,438,222,471] (tReader.dropLast)
theorem qsh:tReader=rowT pReader:=by kernel_rfl
theorem quk:(pReader.all λp=>decide ((qaA p).2.2=0))=true:=by kernel_rfl
theorem qum:0<(prs pReader).funcs.length:=by
 have h:decide (0<((qaA (pReader.headD [])).1).funcs.length)=true:=by kernel_rfl
 have h2:=zt h;show 0<(((qaA _).1.app _).funcs).length;show 0<(_++_:List FnD).length;rw[zLa];exact lt_of_lt_of_le h2 (le_add_right _ _)
noncomputable def pCrcmain:List (List UInt8):=cutL [] (tCrcmain.dropLast)
theorem qqp:tCrcmain=rowT pCrcmain:=by kernel_rfl
theorem qsp:(pCrcmain.all λp=>decide ((qaA p).2.2=0))=true:=by kernel_rfl
theorem qsa:0<(prs pCrcmain).funcs.length:=by
 have h:decide (0<((qaA (pCrcmain.headD [])).1).funcs.length)=true:=by kernel_rfl
 have h2:=zt h;show 0<(((qaA _).1.app _).funcs).length;show 0<(_++_:List FnD).length;rw[zLa];exact lt_of_lt_of_le h2 (le_add_right _ _)
noncomputable def pViterbimain:List (List UInt8):=cutL [] (tViterbimain.dropLast)
theorem qkC:tViterbimain=rowT pViterbimain:=by kernel_rfl
theorem qly:(pViterbimain.all λp=>decide ((qaA p).2.2=0))=true:=by kernel_rfl
theorem qlU:0<(prs pViterbimain).funcs.length:=by
 have h:decide (0<((qaA (pViterbimain.headD [])).1).funcs.length)=true:=by kernel_rfl
 have h2:=zt h;show 0<(((qaA _).1.app _).funcs).length;show 0<(_++_:List FnD).length;rw[zLa];exact lt_of_lt_of_le h2 (le_add_right _ _)
noncomputable def pRsmain:List (List UInt8):=cutL [] (tRsmain.dropLast)
theorem qtV:tRsmain=rowT pRsmain:=by kernel_rfl
theorem qvx:(pRsmain.all λp=>decide ((qaA p).2.2=0))=true:=by kernel_rfl
theorem que:0<(prs pRsmain).funcs.length:=by
 have h:decide (0<((qaA (pRsmain.headD [])).1).funcs.length)=true:=by kernel_rfl
 have h2:=zt h;show 0<(((qaA _).1.app _).funcs).length;show 0<(_++_:List FnD).length;rw[zLa];exact lt_of_lt_of_le h2 (le_add_right _ _)
noncomputable def pFramemain:List (List UInt8):=cutL [] (tFramemain.dropLast)
theorem qnq:tFramemain=rowT pFramemain:=by kernel_rfl
theorem qo2:(pFramemain.all λp=>decide ((qaA p).2.2=0))=true:=by kernel_rfl
theorem qow:0<(prs pFramemain).funcs.length:=by
 have h:decide (0<((qaA (pFramemain.headD [])).1).funcs.length)=true:=by kernel_rfl
 have h2:=zt h;show 0<(((qaA _).1.app _).funcs).length;show 0<(_++_:List FnD).length;rw[zLa];exact lt_of_lt_of_le h2 (le_add_right _ _)
noncomputable def pErasuremain:List (List UInt8):=cutL [] (tErasuremain.dropLast)
theorem qkL:tErasuremain=rowT pErasuremain:=by kernel_rfl
theorem ql8:(pErasuremain.all λp=>decide ((qaA p).2.2=0))=true:=by kernel_rfl
theorem qmr:0<(prs pErasuremain).funcs.length:=by
 have h:decide (0<((qaA (pErasuremain.headD [])).1).funcs.length)=true:=by kernel_rfl
 have h2:=zt h;show 0<(((qaA _).1.app _).funcs).length;show 0<(_++_:List FnD).length;rw[zLa];exact lt_of_lt_of_le h2 (le_add_right _ _)
noncomputable def pBlakemain:List (List UInt8):=cutL [] (tBlakemain.dropLast)
theorem qnm:tBlakemain=rowT pBlakemain:=by kernel_rfl
theorem qox:(pBlakemain.all λp=>decide ((qaA p).2.2=0))=true:=by kernel_rfl
theorem qol:0<(prs pBlakemain).funcs.length:=by
 have h:decide (0<((qaA (pBlakemain.headD [])).1).funcs.length)=true:=by kernel_rfl
 have h2:=zt h;show 0<(((qaA _).1.app _).funcs).length;show 0<(_++_:List FnD).length;rw[zLa];exact lt_of_lt_of_le h2 (le_add_right _ _)
noncomputable def pRender:List (List UInt8):=cutL [285,102,231,87,320,183,271,754,409] (tRender.dropLast)
theorem qs9:tRender=rowT pRender:=by kernel_rfl
theorem qva:(pRender.all λp=>decide ((qaA p).2.2=0))=true:=by kernel_rfl
theorem quW:0<(prs pRender).funcs.length:=by
 have h:decide (0<((qaA (pRender.headD [])).1).funcs.length)=true:=by kernel_rfl
 have h2:=zt h;show 0<(((qaA _).1.app _).funcs).length;show 0<(_++_:List FnD).length;rw[zLa];exact lt_of_lt_of_le h2 (le_add_right _ _)
def MdOk(n:List UInt8):Prop:=∃ ps:List (List UInt8),modP n=(rowT ps,0)/\(∀ p∈ps,(qaA p).2.2=0)/\0<(prs ps).funcs.length/\(rowT ps).length<=10000
theorem mdOk{n t:List UInt8}{ps:List (List UInt8)}(h:modP n=(t,0))(ht:t=rowT ps)(ho:(ps.all λp=>decide ((qaA p).2.2=0))=true)(hf:0<(prs ps).funcs.length):MdOk n:=by
 subst ht;exact⟨ps,h,λp hp=>zt (List.all_eq_true.1 ho p hp),hf,by have:=qlD n;rw[h] at this;exact this⟩
theorem nm_ok:∀ n∈nmS,MdOk n:=by
 intro n hn;simp only[nmS,mods,zMc,List.map_nil,zMi,List.not_mem_nil,or_false] at hn;rcases hn with rfl|rfl|rfl|rfl|rfl|rfl|rfl|rfl|rfl|rfl|rfl|rfl|rfl|rfl|rfl;exact mdOk qyl rowGf okGf fnGf;exact mdOk qrE qxV okCrc fnCrc;exact mdOk qkX qrl qtW qtA;exact mdOk qxH rowRs okRs fnRs;exact mdOk qpe qus qxl qws;exact mdOk qkT qq4 qtk qtF;exact mdOk qpz qvt qxt qwO;exact mdOk qmG qsh quk qum;exact mdOk qhZ qqp qsp qsa;exact mdOk qgv qkC qly qlU;exact mdOk qnn qtV qvx que;exact mdOk qir qnq qo2 qow;exact mdOk qgs qkL ql8 qmr;exact mdOk qit qnm qox qol;exact mdOk qnK qs9 qva quW
theorem qyb{x y:List UInt8}(hx:MdOk x)(hy:MdOk y):∃ (s t:List UInt8) (p q:Pr),srcP [x,y] []=(s,0)/\srcP [y,x] []=(t,0)/\qaA s=(p,0,0)/\qaA t=(q,0,0)/\s.length=t.length/\s.length<=20000/\0<p.funcs.length/\p.funcs.length=q.funcs.length/\p.arrays.length=q.arrays.length/\p.vars.length=q.vars.length:=by
 obtain⟨ps,h1,h2,h3,h4⟩:=hx;obtain⟨qs,g1,g2,g3,g4⟩:=hy
 have e1:srcP [x,y] []=(rowT (ps++qs),0):=by
  rw[srcP,h1,if_neg (λh=>h rfl),srcP,g1,if_neg (λh=>h rfl),srcP,qe7];rfl
 have e2:srcP [y,x] []=(rowT (qs++ps),0):=by
  rw[srcP,g1,if_neg (λh=>h rfl),srcP,h1,if_neg (λh=>h rfl),srcP,qe7];rfl
 have l1:(rowT (ps++qs)).length<=20000:=by rw[qe7,zLa];omega
 have l2:(rowT (qs++ps)).length<=20000:=by rw[qe7,zLa];omega
 refine⟨_,_,_,_,e1,e2,qjQ _ (λp hp=>?_) l1,qjQ _ (λp hp=>?_) l2,?_,l1,?_,?_,?_,?_⟩;rcases List.mem_append.1 hp with h|h;exact h2 p h;exact g2 p h;rcases List.mem_append.1 hp with h|h;exact g2 p h;exact h2 p h;rw[qe7,qe7,zLa,zLa,add_comm]
 all_goals rw[qoZ]
 show 0<((prs ps).funcs++(prs qs).funcs).length;rw[zLa];omega
 all_goals rw[qoZ]
 show((prs ps).funcs++(prs qs).funcs).length=((prs qs).funcs++(prs ps).funcs).length;rw[zLa,zLa,add_comm];show((prs ps).arrays++(prs qs).arrays).length=((prs qs).arrays++(prs ps).arrays).length;rw[zLa,zLa,add_comm];show((prs ps).vars++(prs qs).vars).length=((prs qs).vars++(prs ps).vars).length;rw[zLa,zLa,add_comm]
theorem qr4:nmS.length=15:=rfl
theorem qpT{n:Nat}(h:n<256):IntKind.i64.wrap (n:Int)=(n:Int):=qep zo
attribute [local irreducible] LOps qag qae LCalls Go.GL.Pure qax qam qad LQ LAny qaJ qan LS
section
variable{B0:Nat}{w0:World}
theorem qiP(hG:Pp.GW B0 w0){a b:Nat}(ha:a<256)(hb:b<256):LCalls (KC B0 w0) 5 [int .u8 (a:Int),int .u8 (b:Int)] [] (Ret (bool true)):=by
 have hal:=qhS (B0:=B0) (w0:=w0) hG;have hn:=qkM (B0:=B0) (w0:=w0);have hok:=nm_ok;have hnl:=qr4;generalize nmS=ns at *;have hna:(ns.map str).length=ns.length:=zLm _;have hi:a % 15<ns.length:=by omega
 have hj:b % 15<ns.length:=by omega
 have hx:=hok ns[a % 15] (List.getElem_mem hi);have hy:=hok ns[b % 15] (List.getElem_mem hj)
 have hgx:(ns.map str)[((a:Int) % 15).toNat]? = some (str ns[a % 15]):=by
  rw[show((a:Int) % 15).toNat=a % 15 by omega];exact qa5 _ _ _ hi
 have hgy:(ns.map str)[((b:Int) % 15).toNat]? = some (str ns[b % 15]):=by
  rw[show((b:Int) % 15).toNat=b % 15 by omega];exact qa5 _ _ _ hj
 generalize ns[a % 15]=x at *;generalize ns[b % 15]=y at *;obtain⟨s,t,p,q,e1,e2,e3,e4,e5,e6,e7,e8,e9,e10⟩:=qyb hx hy;have hs:=qe8 (B0:=B0) (w0:=w0) [x,y] (by show 2<=1000;decide);have ht:=qe8 (B0:=B0) (w0:=w0) [y,x] (by show 2<=1000;decide);rw[e1] at hs;rw[e2] at ht;have hp:=qg7 (B0:=B0) (w0:=w0) hG.base s;have hq:=qg7 (B0:=B0) (w0:=w0) hG.base t;rw[e3] at hp;rw[e4] at hq;unfold qi8 at hp hq;have eP:∀ p:Pr,qgo p=.agg [.list (p.vars.map str),.list (p.arrays.map qhp),.list (p.funcs.map qa7)]:=λ_=>rfl;rw[eP] at hp hq;have hs:LCalls (KC B0 w0) _ [.list [str x,str y]] _ (Ret (.tuple [str s,int .i64 0])):=hs;have ht:LCalls (KC B0 w0) _ [.list [str y,str x]] _ (Ret (.tuple [str t,int .i64 0])):=ht;have hp:LCalls (KC B0 w0) _ _ _ (Ret (.tuple [.agg [.list (p.vars.map str),.list (p.arrays.map qhp),.list (p.funcs.map qa7)],int .i64 0,int .i64 0])):=hp;have hq:LCalls (KC B0 w0) _ _ _ (Ret (.tuple [.agg [.list (q.vars.map str),.list (q.arrays.map qhp),.list (q.funcs.map qa7)],int .i64 0,int .i64 0])):=hq;refine zcI Tryz.func5 rfl (n:=115) rfl rfl rfl ?_;refine gaq ?_;refine oS (sF [] rfl hal ?_) rfl;refine gad ?_;refine oC rfl (λhc=>by cases hc) (λ_=>?_);refine gaj ?_;refine oS (sF [] rfl hn ?_) rfl;refine gad ?_;refine zQ23 ?_;refine qP (Pure.to (Pure.rem rfl rfl zo (by rw[qpT ha];omega)) (qao (b:=(a:Int) % 15) (by rw[qpT ha,hna,hnl];rfl))) rfl ?_;refine qP (xR (el':=str x) (cs:=[str x]) rfl rfl zo hgx rfl rfl) rfl ?_;refine gad ?_;refine qP (Pure.to (Pure.rem rfl rfl zo (by rw[qpT hb];omega)) (qao (b:=(b:Int) % 15) (by rw[qpT hb,hna,hnl];rfl))) rfl ?_;refine qP (xR (el':=str y) (cs:=[str y]) rfl rfl zo hgy rfl rfl) rfl ?_;refine gab ?_;refine oS (sL (s:=1) (es:=[str x,str y]) [_,_] rfl (qaF [x,y]) rfl rfl rfl ?_) rfl;refine oS (sF [_] rfl hs ?_) rfl;refine gac ?_;refine oS (sL (s:=1) (es:=[str y,str x]) [_,_] rfl (qaF [y,x]) rfl rfl rfl ?_) rfl;refine oS (sF [_] rfl ht ?_) rfl;refine gac ?_;refine oS (sF [_] rfl hp ?_) rfl;refine gad ?_;refine oS (sA λb12=>?_) rfl;refine gab ?_;refine oS (sF [_] rfl hq ?_) rfl;refine gad ?_;refine oS (sA λb15=>?_) rfl;refine gab ?_;have m1:(p.funcs.map qa7).length=p.funcs.length:=zLm _;have m2:(q.funcs.map qa7).length=q.funcs.length:=zLm _;have m3:(p.arrays.map qhp).length=p.arrays.length:=zLm _;have m4:(q.arrays.map qhp).length=q.arrays.length:=zLm _;have m5:(p.vars.map str).length=p.vars.length:=zLm _;have m6:(q.vars.map str).length=q.vars.length:=zLm _;refine oC rfl (λh=>by cases h) (λ_=>?_);refine gab ?_;refine oB 81 rfl (λ_=>?_) (λh=>absurd (show(0:Int)<((p.funcs.map qa7).length:Int) by omega) (zf h));refine gad ?_;refine oB 90 rfl (λ_=>?_) (λh=>absurd (show((p.funcs.map qa7).length:Int)=((q.funcs.map qa7).length:Int) by omega) (zf h));refine gad ?_;refine oB 99 rfl (λ_=>?_) (λh=>absurd (show((p.arrays.map qhp).length:Int)=((q.arrays.map qhp).length:Int) by omega) (zf h));refine gad ?_;refine oB 108 rfl (λ_=>?_) (λh=>absurd (show((p.vars.map str).length:Int)=((q.vars.map str).length:Int) by omega) (zf h));refine gad ?_;exact qac rfl (zra rfl) (qau (decide_eq_true zo))
end
end Go.Proofs.YtkihibnffkpnkaaGreatDoor.Lb
