import Derived.Deep.WholeRow
import Derived.Test.YtkihibnffkpnkaaGreatDoorBRowLR9
set_option linter.unusedVariables false
set_option linter.unusedSimpArgs false
set_option maxRecDepth 100000
set_option maxHeartbeats 4000000
open Go.GL (zk)
open List (perm_append_singleton not_mem_nil length_singleton)
open Nat (zero_le)
namespace Go.Proofs.YtkihibnffkpnkaaGreatDoor
open Go.GL Go.RowKit Go.Stele
variable{H H':Heap}{f:FuncId}
inductive Clo (sb:Nat):Nat->FuncId->Array Value->Array Value->Heap->Prop
 |un:Clo sb 6 231 #[.pointer (some ⟨sb,0,none⟩)] #[] []
 |bin {k bo bs bp bn:Nat} {f:FuncId} {first caps:Array Value} {H:Heap} (h:Clo sb (k+1) f first caps H):Clo sb k 257 #[] #[.pointer (some ⟨bo,0,none⟩),.pointer (some ⟨bs,0,none⟩),.pointer (some ⟨bp,0,none⟩),.pointer (some ⟨bn,0,none⟩)]
   ((bo,.cells 213 [.atom (.func (.func f) first caps)])::(bs,.cells 80 [ptr sb 0])::(bp,.cells 32 [.list ((qb2 k).map str)])::(bn,.cells 4 [bool (decide ((k:Int)=2))])::H)
def qwj{A:Type}(sb:Nat)(T:List Tok)(enc:A->LV)(Hc:Heap)(res:Res A)(r:LRes)(H:Heap):Prop:=match res with
 |.ok v i op=>r=.ret (enc v)/\H=srcH sb T i op::Hc
 |.err l e=>r=.panic (pan l e)/\∃ i op:Nat,H=srcH sb T i op::Hc
def CloC(B0:Nat)(w0:World)(sb:Nat)(T:List Tok)(f:Nat):Prop:=
 ∀ k fn first caps Hc i op r,Clo sb k fn first caps Hc->i<=T.length->op<=100->eLev T f k i op=some r ->
  LCalls (KC B0 w0) fn (first.toList.map .atom++caps.toList.map .atom) (srcH sb T i op::Hc) (qwj sb T encE Hc r)
section steps
variable{C:Ctx}{e:Env}{H:Heap}{dst:Option Nat}{ty:TypeId}{pos:String}{aft:Array Edge}{g:Option (Nat×Bool)}{K:LV->Heap->Prop}{X:List PanicEntry->Heap->Prop}
theorem qxI(a b:List LV){e:Env}:a++([]:List Operand).map e.ev++b=a++b:=by simp
theorem S.callClo{A:Type}{enc:A->LV}{res:Res A}{sb i op:Nat}{T:List Tok}{fo:Operand}{f:FuncId} [TEnter C.P f]{first caps:Array Value}{ats:Array TypeId}{Hc F:Heap}(hf:e.ev fo=.atom (.func (.func f) first caps))(hp:Pick (srcH sb T i op) H (F++Hc))
  (hc:LCalls C f (first.toList.map .atom++caps.toList.map .atom) (srcH sb T i op::Hc) (qwj sb T enc Hc res)) (hk:∀ v i' op',res=.ok v i' op'->K (enc v) (srcH sb T i' op'::(F++Hc))) (hx:∀ l er i' op',res=.err l er->X (pan l er) (srcH sb T i' op'::Hc++F)) :
  qae C ⟨dst,.call { callee:=.value fo,args:=#[],argTypes:=ats },ty,pos,aft,g⟩ e H K X:=by
 have hp':H.Perm ((srcH sb T i op::Hc)++F):=hp.trans (List.Perm.cons _ zPc);refine qae.conseq (K:=λv H'=>∃ u i' op',res=.ok u i' op'/\v=enc u/\H'=srcH sb T i' op'::Hc++F) (S.callV (H1:=srcH sb T i op::Hc) (F:=F) [] hf (qxI _ _) hp' hc ?_ ?_) ?_;intro v H' h
 cases hr:res with
 |ok u i' op'=>rw[hr] at h;obtain⟨h1,rfl⟩:=h;cases h1;exact⟨u,i',op',rfl,rfl,rfl⟩
 |err l er=>rw[hr] at h;obtain⟨h1,_⟩:=h;cases h1
 intro ch H' h
 cases hr:res with
 |ok u i' op'=>rw[hr] at h;obtain⟨h1,_⟩:=h;cases h1
 |err l er=>rw[hr] at h;obtain⟨h1,i',op',rfl⟩:=h;cases h1;exact hx _ _ _ _ hr
 rintro v H' ⟨u,i',op',h1,rfl,rfl⟩;exact⟨_,_,vR _,⟨[],by simpa using zPc⟩,hk u i' op' h1⟩
end steps
theorem Clo.enter{sb k:Nat}{first caps:Array Value}(h:Clo sb k f first caps H):TEnter Tryz.prog f:=by
 cases h <;> infer_instance
theorem Clo.le{sb k:Nat}{first caps:Array Value}(h:Clo sb k f first caps H):k<=6:=by
 induction h with
 |un=>exact zNr _
 |bin _ ih=>omega
attribute [local irreducible] LOps qag qae LCalls Go.GL.Pure qaz qam qad LQ LAny qaI qan
theorem qtY{s:Nat×LObj}{A B Hc:Heap}:HSub (s::(B++Hc)) ((s::Hc++[])++(A++B)):=by
 refine⟨A,?_⟩;have h1:(Hc++(A++B)).Perm ((B++Hc)++A):=zPc.trans (by rw[zAs];exact zPc);simpa using List.Perm.cons s h1
theorem qna{s u:Nat×LObj}{A Hc:Heap}:HSub (u::s::(A++Hc)) (u::((s::([]++Hc))++A)):=by
 refine⟨[],?_⟩;have h1:(Hc++A).Perm (A++Hc):=zPc;simpa using List.Perm.cons u (List.Perm.cons s h1)
theorem HSub.appR{l1 l2:Heap}(h:HSub H' l2):HSub H' (l1++l2):=by
 obtain⟨G,hG⟩:=h;refine⟨G++l1,?_⟩;have h1:(l1++l2).Perm (l2++l1):=zPc;have h2:(l2++l1).Perm ((H'++G)++l1):=hG.append_right l1;simpa using h1.trans h2
theorem qoS{a:Nat×LObj}{l1 l2:Heap}:([]++(l1++a::l2)).Perm ([a]++(l1++l2)):=by
 exact(List.nil_append _).symm▸List.perm_middle
theorem quG(k:Nat):(qb2 k).length<=1000:=by
 unfold qb2;split <;> simp
theorem qs2{T:List Tok}{i:Nat}(h:i<T.length):qeL T i=T[i].text:=by rw[qeL,List.getElem?_eq_getElem h]
section
variable{B0:Nat}{w0:World}
theorem qu1(hG:GW B0 w0)(sb:Nat)(T:List Tok)(hT:TOK T)(f:Nat)(hC:∀ g,g<f->CloC B0 w0 sb T g)(k bo bs bp bn:Nat)(fn:FuncId)(first caps:Array Value)(Hc:Heap)(hclo:Clo sb (k+1) fn first caps Hc)(i op:Nat)(r:Res Ex)
  (hi:i<=T.length) (ho:op<=100) (hr:eLev T f k i op=some r) :
  LCalls (KC B0 w0) 257 [ptr bo 0,ptr bs 0,ptr bp 0,ptr bn 0] (srcH sb T i op::(bo,.cells 213 [.atom (.func (.func fn) first caps)])::(bs,.cells 80 [ptr sb 0])::(bp,.cells 32 [.list ((qb2 k).map str)])::(bn,.cells 4 [bool (decide ((k:Int)=2))])::Hc)
   (qwj sb T encE ((bo,.cells 213 [.atom (.func (.func fn) first caps)])::(bs,.cells 80 [ptr sb 0])::(bp,.cells 32 [.list ((qb2 k).map str)])::(bn,.cells 4 [bool (decide ((k:Int)=2))])::Hc) r):=by
 have hl:=hT.len;have hk6:=hclo.le;have hen:=hclo.enter
 obtain⟨f,rfl⟩:∃ g,f=g+1:=by
  cases f with
  |zero=>rw[eLev] at hr;cases hr
  |succ g=>exact⟨g,rfl⟩
 rw[eLev,zn zo] at hr;obtain⟨r1,hr1⟩:=qaS hr;refine zcI Tryz.func257 rfl (n:=38) rfl rfl rfl ?_;refine gah ?_;refine oS (zsA λb=>?_) rfl;refine gaa ?_;refine oS (S.callClo (F:=[(b,_),(bo,_),(bs,_),(bp,_),(bn,_)]) (Hc:=Hc) rfl zp1 (hC f zo _ _ _ _ _ _ _ r1 hclo hi ho hr1) (λv i1 op1 h1=>?_) (λl er i1 op1 h1 e' he'=>?_)) rfl;rw[hr1,h1,qal] at hr;obtain⟨g1,_,g3,rfl⟩:=(qcU T f).1 _ _ _ _ (hr1.trans (congrArg some h1));have g4:=g3 hi;refine oS (zsA λb5=>?_) rfl;refine gad ?_
 refine zoL (λq ls H=>∃ (ex:Ex) (i2:Nat),q<=f/\ls=[(0,ptr bo 0),(1,ptr bs 0),(2,ptr bp 0),(3,ptr bn 0),(4,ptr b 0),(5,ptr b5 0)] /\
   H=(b5,.cells 202 [str (exOp ex),int .u32 (qe2 ex),str (qcW ex),.list (qbO ex)])::srcH sb T i2 op1::(b,.cells 202 [str [],int .u32 0,str [],qab])::([(bo,.cells 213 [.atom (.func (.func fn) first caps)]),(bs,.cells 80 [ptr sb 0]),(bp,.cells 32 [.list ((qb2 k).map str)]),(bn,.cells 4 [bool (decide ((k:Int)=2))])]++Hc)/\i2<=T.length/\qdG T q k ex i2 op1=some r)
  ⟨f,_,_,⟨v,i1,zNr _,rfl,rfl,g4,hr⟩,⟨rfl,rfl,rfl,rfl,rfl,rfl,trivial⟩,zhR _⟩ ?_
 rintro q ls H ⟨ex,i2,hqf,rfl,rfl,hi2,hI⟩ j hj
 obtain⟨q,rfl⟩:∃ q',q=q'+1:=by
  cases q with
  |zero=>rw[qdG] at hI;cases hI
  |succ q=>exact⟨q,rfl⟩
 rw[qdG] at hI;refine gaa ?_;refine oS (sH [_,_] rfl zp1 (qcp sb T i2 op1 (qb2 k) hl zo (quG k)) ?_) rfl;refine gaf ?_;refine zoC rfl (λhc=>?_) (λhc=>?_);have hlt:=qaH hc;rw[zp hc] at hI;refine gab ?_;refine zcC [(0,ptr bo 0),(1,ptr bs 0),(2,ptr bp 0),(3,ptr bn 0),(4,ptr b 0),(5,ptr b5 0),(6,str (qeL T i2))] ?_ (λj2 hj2=>?_);refine zQ29 ?_;refine qP (xR (el':=qdt T[i2]) (cs:=[_,_,_]) rfl rfl zo (qbj _ _ _ hlt) rfl rfl) rfl ?_;refine gad ?_;exact⟨⟨rfl,rfl,rfl,rfl,rfl,rfl,qmT (qs2 hlt).symm,trivial⟩,rfl,rfl⟩;obtain⟨r2,hr2⟩:=qaS hI;refine gaa ?_;refine cD (m:=7) rfl [(bo,.cells 213 [.atom (.func (.func fn) first caps)])] ?_;have hHF:HSub [(bo,.cells 213 [.atom (.func (.func fn) first caps)])] (srcH sb T (i2+1) op1::(b5,.cells 202 [str (exOp ex),int .u32 (qe2 ex),str (qcW ex),.list (qbO ex)])::(b,.cells 202 [str [],int .u32 0,str [],qab])::(bo,.cells 213 [.atom (.func (.func fn) first caps)])::[(bs,.cells 80 [ptr sb 0]),(bp,.cells 32 [.list ((qb2 k).map str)]),(bn,.cells 4 [bool (decide ((k:Int)=2))])]++Hc):=zhP zp3 zhn;refine LAny.take (i:=0) hHF rfl zk zk zk rfl (pM (lv:=.atom _) rfl)<|LAny.take (i:=2) hHF rfl zk zk zk rfl (pL (c:=.atom _) rfl zm0 rfl)<|aL ?_ hHF;refine zl2 (i:=1) (j:=3) zk ?_ ?_;have hperm:(srcH sb T (i2+1) op1::(b5,LObj.cells 202 [str (exOp ex),int .u32 (qe2 ex),str (qcW ex),.list (qbO ex)])::(b,LObj.cells 202 [str [],int .u32 0,str [],qab])::([(bo,LObj.cells 213 [.atom (.func (.func fn) first caps)]),(bs,LObj.cells 80 [ptr sb 0]),(bp,LObj.cells 32 [.list ((qb2 k).map str)]),(bn,LObj.cells 4 [bool (decide ((k:Int)=2))])]++Hc)).Perm ((srcH sb T (i2+1) op1::Hc)++[(b5,LObj.cells 202 [str (exOp ex),int .u32 (qe2 ex),str (qcW ex),.list (qbO ex)]),(b,LObj.cells 202 [str [],int .u32 0,str [],qab]),(bo,LObj.cells 213 [.atom (.func (.func fn) first caps)]),(bs,LObj.cells 80 [ptr sb 0]),(bp,LObj.cells 32 [.list ((qb2 k).map str)]),(bn,LObj.cells 4 [bool (decide ((k:Int)=2))])]):=List.Perm.cons _ (show([(b5,LObj.cells 202 [str (exOp ex),int .u32 (qe2 ex),str (qcW ex),.list (qbO ex)]),(b,LObj.cells 202 [str [],int .u32 0,str [],qab]),(bo,LObj.cells 213 [.atom (.func (.func fn) first caps)]),(bs,LObj.cells 80 [ptr sb 0]),(bp,LObj.cells 32 [.list ((qb2 k).map str)]),(bn,LObj.cells 4 [bool (decide ((k:Int)=2))])]++Hc).Perm (Hc++[(b5,LObj.cells 202 [str (exOp ex),int .u32 (qe2 ex),str (qcW ex),.list (qbO ex)]),(b,LObj.cells 202 [str [],int .u32 0,str [],qab]),(bo,LObj.cells 213 [.atom (.func (.func fn) first caps)]),(bs,LObj.cells 80 [ptr sb 0]),(bp,LObj.cells 32 [.list ((qb2 k).map str)]),(bn,LObj.cells 4 [bool (decide ((k:Int)=2))])]) from zPc);refine lH rfl rfl (pG (cs':=[_,_,_,_]) rfl zm1 rfl rfl)<|lO 3 (lS (H1:=srcH sb T (i2+1) op1::Hc) (F:=[(b5,LObj.cells 202 [str (exOp ex),int .u32 (qe2 ex),str (qcW ex),.list (qbO ex)]),(b,LObj.cells 202 [str [],int .u32 0,str [],qab]),(bo,LObj.cells 213 [.atom (.func (.func fn) first caps)]),(bs,LObj.cells 80 [ptr sb 0]),(bp,LObj.cells 32 [.list ((qb2 k).map str)]),(bn,LObj.cells 4 [bool (decide ((k:Int)=2))])]) rfl (.inl rfl) rfl (hperm) (zhP zp2 zhn) (S.callClo (F:=[]) (Hc:=Hc) rfl pH (hC q zo _ _ _ _ _ _ _ r2 hclo zo ho hr2) (λe2 i3 op3 h3=>?_) (λl er i3 op3 h3 e' he'=>?_)));rw[hr2,h3,qal] at hI;obtain⟨q1,q2,q3,rfl⟩:=(qcU T q).1 _ _ _ _ (hr2.trans (congrArg some h3));have q4:=q3 zo;refine lO 4 (lS (H1:=[]) (F:=(srcH sb T i3 op3::([]++Hc))++[(b5,LObj.cells 202 [str (exOp ex),int .u32 (qe2 ex),str (qcW ex),.list (qbO ex)]),(b,LObj.cells 202 [str [],int .u32 0,str [],qab]),(bo,LObj.cells 213 [.atom (.func (.func fn) first caps)]),(bs,LObj.cells 80 [ptr sb 0]),(bp,LObj.cells 32 [.list ((qb2 k).map str)]),(bn,LObj.cells 4 [bool (decide ((k:Int)=2))])]) rfl (.inl rfl) rfl zpr (HSub.appR (zhP zp2 zhn)) (sL (es:=[encE ex,encE e2]) [_,_] rfl (eC rfl rfl (eC rfl rfl eN)) rfl rfl rfl ?_))
 refine lO 5 (lH rfl rfl (pB _ (cs:=[_,_,_,_]) rfl) ?_);refine lO 6 (lS (H1:=[(b5,LObj.cells 202 [str (exOp ex),int .u32 (qe2 ex),str (qcW ex),.list (qbO ex)])]) (F:=(srcH sb T i3 op3::([]++Hc))++[(b,LObj.cells 202 [str [],int .u32 0,str [],qab]),(bo,LObj.cells 213 [.atom (.func (.func fn) first caps)]),(bs,LObj.cells 80 [ptr sb 0]),(bp,LObj.cells 32 [.list ((qb2 k).map str)]),(bn,LObj.cells 4 [bool (decide ((k:Int)=2))])]) rfl (.inl rfl) rfl qoS (HSub.appR (zhP zp1 zhn)) (sS (cs':=[_,_,_,_]) rfl pH rfl rfl rfl rfl rfl ?_));refine lD zk ?_;refine qN ?_;refine cW (H':=(b5,LObj.cells 202 [str (qeL T i2),int .u32 0,str [],.list [encE ex,encE e2]])::srcH sb T i3 op3::(b,LObj.cells 202 [str [],int .u32 0,str [],qab])::([(bo,LObj.cells 213 [.atom (.func (.func fn) first caps)]),(bs,LObj.cells 80 [ptr sb 0]),(bp,LObj.cells 32 [.list ((qb2 k).map str)]),(bn,LObj.cells 4 [bool (decide ((k:Int)=2))])]++Hc)) (qna (A:=[(b,LObj.cells 202 [str [],int .u32 0,str [],qab]),(bo,LObj.cells 213 [.atom (.func (.func fn) first caps)]),(bs,LObj.cells 80 [ptr sb 0]),(bp,LObj.cells 32 [.list ((qb2 k).map str)]),(bn,LObj.cells 4 [bool (decide ((k:Int)=2))])])) ?_;refine gaa ?_;refine zoC rfl (λhk2=>?_) (λhk2=>?_);exact zT28;exact zT21;exact zT3;have hperm:(srcH sb T (i2+1) op1::(b5,LObj.cells 202 [str (exOp ex),int .u32 (qe2 ex),str (qcW ex),.list (qbO ex)])::(b,LObj.cells 202 [str [],int .u32 0,str [],qab])::([(bo,LObj.cells 213 [.atom (.func (.func fn) first caps)]),(bs,LObj.cells 80 [ptr sb 0]),(bp,LObj.cells 32 [.list ((qb2 k).map str)]),(bn,LObj.cells 4 [bool (decide ((k:Int)=2))])]++Hc)).Perm ((srcH sb T (i2+1) op1::Hc)++[(b5,LObj.cells 202 [str (exOp ex),int .u32 (qe2 ex),str (qcW ex),.list (qbO ex)]),(b,LObj.cells 202 [str [],int .u32 0,str [],qab]),(bo,LObj.cells 213 [.atom (.func (.func fn) first caps)]),(bs,LObj.cells 80 [ptr sb 0]),(bp,LObj.cells 32 [.list ((qb2 k).map str)]),(bn,LObj.cells 4 [bool (decide ((k:Int)=2))])]):=List.Perm.cons _ (show([(b5,LObj.cells 202 [str (exOp ex),int .u32 (qe2 ex),str (qcW ex),.list (qbO ex)]),(b,LObj.cells 202 [str [],int .u32 0,str [],qab]),(bo,LObj.cells 213 [.atom (.func (.func fn) first caps)]),(bs,LObj.cells 80 [ptr sb 0]),(bp,LObj.cells 32 [.list ((qb2 k).map str)]),(bn,LObj.cells 4 [bool (decide ((k:Int)=2))])]++Hc).Perm (Hc++[(b5,LObj.cells 202 [str (exOp ex),int .u32 (qe2 ex),str (qcW ex),.list (qbO ex)]),(b,LObj.cells 202 [str [],int .u32 0,str [],qab]),(bo,LObj.cells 213 [.atom (.func (.func fn) first caps)]),(bs,LObj.cells 80 [ptr sb 0]),(bp,LObj.cells 32 [.list ((qb2 k).map str)]),(bn,LObj.cells 4 [bool (decide ((k:Int)=2))])]) from zPc);refine(lS (H1:=srcH sb T (i2+1) op1::Hc) (F:=[(b5,LObj.cells 202 [str (exOp ex),int .u32 (qe2 ex),str (qcW ex),.list (qbO ex)]),(b,LObj.cells 202 [str [],int .u32 0,str [],qab]),(bo,LObj.cells 213 [.atom (.func (.func fn) first caps)]),(bs,LObj.cells 80 [ptr sb 0]),(bp,LObj.cells 32 [.list ((qb2 k).map str)]),(bn,LObj.cells 4 [bool (decide ((k:Int)=2))])]) rfl (.inl rfl) rfl (hperm) (zhP zp2 zhn) (S.callClo (F:=[]) (Hc:=Hc) rfl pH (hC q zo _ _ _ _ _ _ _ r2 hclo zo ho hr2) (λe2 i3 op3 h3=>?_) (λl er i3 op3 h3 e' he'=>?_)));rw[hr2,h3,qal] at hI;obtain⟨q1,q2,q3,rfl⟩:=(qcU T q).1 _ _ _ _ (hr2.trans (congrArg some h3));have q4:=q3 zo;refine lO 1 (lH rfl rfl (pG (cs':=[_,_,_,_]) rfl (List.mem_append_right _ zm0) rfl rfl) ?_);refine lO 4 (lS (H1:=[]) (F:=(srcH sb T i3 op3::([]++Hc))++[(b5,LObj.cells 202 [str (exOp ex),int .u32 (qe2 ex),str (qcW ex),.list (qbO ex)]),(b,LObj.cells 202 [str [],int .u32 0,str [],qab]),(bo,LObj.cells 213 [.atom (.func (.func fn) first caps)]),(bs,LObj.cells 80 [ptr sb 0]),(bp,LObj.cells 32 [.list ((qb2 k).map str)]),(bn,LObj.cells 4 [bool (decide ((k:Int)=2))])]) rfl (.inl rfl) rfl zpr (HSub.appR (zhP zp2 zhn)) (sL (es:=[encE ex,encE e2]) [_,_] rfl (eC rfl rfl (eC rfl rfl eN)) rfl rfl rfl ?_))
 refine lO 5 (lH rfl rfl (pB _ (cs:=[_,_,_,_]) rfl) ?_);refine lO 6 (lS (H1:=[(b5,LObj.cells 202 [str (exOp ex),int .u32 (qe2 ex),str (qcW ex),.list (qbO ex)])]) (F:=(srcH sb T i3 op3::([]++Hc))++[(b,LObj.cells 202 [str [],int .u32 0,str [],qab]),(bo,LObj.cells 213 [.atom (.func (.func fn) first caps)]),(bs,LObj.cells 80 [ptr sb 0]),(bp,LObj.cells 32 [.list ((qb2 k).map str)]),(bn,LObj.cells 4 [bool (decide ((k:Int)=2))])]) rfl (.inl rfl) rfl qoS (HSub.appR (zhP zp1 zhn)) (sS (cs':=[_,_,_,_]) rfl pH rfl rfl rfl rfl rfl ?_));refine lD zk ?_;refine qN ?_;refine cW (H':=(b5,LObj.cells 202 [str (qeL T i2),int .u32 0,str [],.list [encE ex,encE e2]])::srcH sb T i3 op3::(b,LObj.cells 202 [str [],int .u32 0,str [],qab])::([(bo,LObj.cells 213 [.atom (.func (.func fn) first caps)]),(bs,LObj.cells 80 [ptr sb 0]),(bp,LObj.cells 32 [.list ((qb2 k).map str)]),(bn,LObj.cells 4 [bool (decide ((k:Int)=2))])]++Hc)) (qna (A:=[(b,LObj.cells 202 [str [],int .u32 0,str [],qab]),(bo,LObj.cells 213 [.atom (.func (.func fn) first caps)]),(bs,LObj.cells 80 [ptr sb 0]),(bp,LObj.cells 32 [.list ((qb2 k).map str)]),(bn,LObj.cells 4 [bool (decide ((k:Int)=2))])])) ?_;refine gaa ?_;refine zoC rfl (λhk2=>?_) (λhk2=>?_);exact zT28;exact zT21;exact zT3;have hc':isTok T i2 (qb2 k)=false:=hc;rw[zn (by rw[hc'];decide)] at hI;refine gaa ?_;exact rR hj (rC (rA rfl zm0 rfl zsr) rN) (zhD (zhP pH (zhD zhr))) (by cases hI;exact⟨rfl,rfl⟩);rw[hr1,h1,qat] at hr;refine gal ?_;refine qad.panic (he'.trans rfl) (H':=srcH sb T i1 op1::(bo,.cells 213 [.atom (.func (.func fn) first caps)])::(bs,.cells 80 [ptr sb 0])::(bp,.cells 32 [.list ((qb2 k).map str)])::(bn,.cells 4 [bool (decide ((k:Int)=2))])::Hc) ?_ (by cases hr;exact⟨rfl,i1,op1,rfl⟩);exact zhP pH ⟨[(b,_)],zPc.trans (by exact List.Perm.refl _ |>.trans (perm_append_singleton _ _).symm)⟩
end
def lvLV(k:Nat):LV:=.list ((qb2 k).map str)
def qhc:List LV:=[lvLV 0,lvLV 1,lvLV 2,lvLV 3,lvLV 4,lvLV 5]
section
variable{B0:Nat}{w0:World}
theorem qn9:LCalls (KC B0 w0) 233 [] [] (Ret (.list qhc)):=by
 refine zcI Tryz.func233 rfl (n:=8) rfl rfl rfl ?_;refine gar ?_;refine oS (sL (es:=[str [124,124]]) [_] rfl (eC rfl rfl eN) rfl rfl rfl<|oS (sL (es:=[str [38,38]]) [_] rfl (eC rfl rfl eN) rfl rfl rfl ?_) rfl) rfl;refine oS (sL (es:=[str [61,61],str [33,61],str [60],str [62],str [60,61],str [62,61]]) [_,_,_,_,_,_] rfl (eC rfl rfl (eC rfl rfl (eC rfl rfl (eC rfl rfl (eC rfl rfl (eC rfl rfl eN)))))) rfl rfl rfl<|oS (sL (es:=[str [94]]) [_] rfl (eC rfl rfl eN) rfl rfl rfl ?_) rfl) rfl;refine oS (sL (es:=[str [43],str [45]]) [_,_] rfl (eC rfl rfl (eC rfl rfl eN)) rfl rfl rfl<|oS (sL (es:=[str [42],str [47],str [37]]) [_,_,_] rfl (eC rfl rfl (eC rfl rfl (eC rfl rfl eN))) rfl rfl rfl ?_) rfl) rfl;refine oS (sL (es:=qhc) [_,_,_,_,_,_] rfl (eC rfl rfl (eC rfl rfl (eC rfl rfl (eC rfl rfl (eC rfl rfl (eC rfl rfl eN)))))) rfl rfl rfl ?_) rfl;refine gad ?_;exact qac rfl (rC (rT (v:=.list _) rfl zsr) rN) rfl
theorem qgC(sb:Nat)(ops:List LV)(once:Bool)(fn:FuncId)(first caps:Array Value):LCalls (KC B0 w0) 234 [ptr sb 0,.list ops,bool once,.atom (.func (.func fn) first caps)] []
  (λr H=>∃ bo bs bp bn:Nat,r=.ret (.atom (.func (.func 257) #[] #[.pointer (some ⟨bo,0,none⟩),.pointer (some ⟨bs,0,none⟩),.pointer (some ⟨bp,0,none⟩),.pointer (some ⟨bn,0,none⟩)])) /\
   H=[(bo,.cells 213 [.atom (.func (.func fn) first caps)]),(bs,.cells 80 [ptr sb 0]),(bp,.cells 32 [.list ops]),(bn,.cells 4 [bool once])]):=by
 refine zcI Tryz.func234 rfl (n:=10) rfl rfl rfl ?_;refine gah ?_;refine oS (zsB rfl λbs=>oS (zsB rfl λbp=>?_) rfl) rfl;refine oS (zsB rfl λbn=>oS (zsB rfl λbo=>?_) rfl) rfl;refine gaa ?_;exact rR rfl (zra rfl) (zhP pH (zhP zp2 (zhP zp1 zhp))) ⟨bo,bs,bp,bn,rfl,rfl⟩
theorem qli(es:List LV):LCalls (KC B0 w0) 232 [.list es] [] (λr H=>∃ b:Nat,r=.ret (.atom (.func (.func 256) #[] #[.pointer (some ⟨b,0,none⟩)]))/\H=[(b,.cells 197 [.list es])]):=by
 refine zcI Tryz.func232 rfl (n:=4) rfl rfl rfl ?_;refine gah ?_;refine oS (zsB rfl λb=>?_) rfl;refine gaa ?_;exact rR rfl (zra rfl) zhr ⟨b,rfl,rfl⟩
def ql2(ls:List (List (List UInt8)))(q:Nat):List LV:=[int .i64 ((ls.length:Int)-1-q),.list (((ls[ls.length-1-q]?).getD []).map str)]
theorem qst(b:Nat)(ls:List (List (List UInt8)))(hl:ls.length<=100000):qwS (KC B0 w0) 256 [ptr b 0] [(b,.cells 197 [.list (ls.map λl=>.list (l.map str))])] ls.length (ql2 ls):=by
 intro l J hY H0 h0;have hml:(ls.map λl=>LV.list (l.map str)).length=ls.length:=zLm _;refine zcI Tryz.func256 rfl (n:=19) rfl rfl rfl ?_;refine qag.perm (H':=(b,.cells 197 [.list (ls.map λl=>.list (l.map str))])::H0) (perm_append_singleton _ _) ?_;refine gaa ?_
 refine zoL (λk lsl H=>∃ (q:Nat) (Hq:Heap),q<=ls.length/\k=ls.length-q/\lsl=[(0,.atom (.func (.yield l) #[] #[])),(1,ptr b 0),(3,int .i64 ((ls.length:Int)-1-q))]/\H=(b,.cells 197 [.list (ls.map λl=>.list (l.map str))])::Hq/\J q Hq)
  ⟨_,_,_,⟨0,H0,zero_le _,rfl,rfl,rfl,h0⟩,⟨rfl,rfl,qap (by simp),trivial⟩,zhR _⟩ ?_
 rintro k lsl H ⟨q,Hq,hq,rfl,rfl,rfl,hJ⟩ j hj;refine gaa ?_;refine zoC rfl (λhc=>?_) (λhc=>?_);have hlt:q<ls.length:=by have:=zt hc;omega
 have hix:((ls.length:Int)-1-q).toNat=ls.length-1-q:=by omega
 have hlt2:ls.length-1-q<ls.length:=by omega
 have hel:(ls.map λl=>LV.list (l.map str))[((ls.length:Int)-1-q).toNat]? = some (.list (((ls[ls.length-1-q]?).getD []).map str)):=by
  rw[hix,List.getElem?_map,List.getElem?_eq_getElem hlt2];rfl
 refine gab ?_;refine qag.regionW ?_;refine gad ?_;refine qfu.pure (xR (cs:=[_]) rfl rfl zo hel rfl rfl) rfl ?_;refine gad ?_;refine qfu.yield (H:=(b,.cells 197 [.list (ls.map λl=>.list (l.map str))])::Hq) (args:=[_,_]) rfl rfl (qfB.frame (H:=Hq) (F:=[(b,.cells 197 [.list (ls.map λl=>.list (l.map str))])]) (perm_append_singleton _ _).symm (K:=λH'=>∃ H1,H'=H1++[(b,.cells 197 [.list (ls.map λl=>.list (l.map str))])]/\J (q+1) H1) (qfB.mono (hY q Hq hlt hJ) λH' h=>⟨H',rfl,h⟩)) rfl ?_;rintro H' ⟨H1,rfl,hJ1⟩;refine gad ?_;refine qfu.nil ?_;refine qN ?_;refine cW (H':=(b,.cells 197 [.list (ls.map λl=>.list (l.map str))])::H1) ⟨[],by rw[zLz];exact perm_append_singleton _ _⟩ ?_;refine zoC rfl (λhcc=>?_) (λhcc=>?_);cases hcc;refine gaa ?_;exact⟨_,_,_,by omega,⟨q+1,H1,hlt,rfl,rfl,rfl,hJ1⟩,⟨rfl,rfl,qap zo,trivial⟩,zhR _,hj⟩;have hge:q=ls.length:=by have:=zf hc;omega
 subst hge;refine gab ?_;exact rO hj rN ⟨[],by rw[zLz];exact(perm_append_singleton _ _).symm⟩ ⟨⟨_,rfl⟩,Hq,rfl,hJ⟩
end
end Go.Proofs.YtkihibnffkpnkaaGreatDoor
namespace Go.Proofs.YtkihibnffkpnkaaGreatDoor
open Go.GL Go.RowKit Go.Stele
variable{H H' X Y Z:Heap}{rs:List ResultVar}
def BH(b:Nat)(l:List UInt8)(H:Heap):Prop:=∃ p v Hv,(p=LV.atom (.pointer none)∨p=ptr b 0)/\BRow 5 v l Hv/\H=(b,.cells 69 [p,.atom v])::Hv
theorem qrk:Lays.n240 Tryz.prog Tryz.lays156_ren:={ Tryz.lays156 with }
section
variable{B0:Nat}{w0:World}
theorem qgp(b:Nat)(p v:LV)(hp:p=LV.atom (.pointer none)∨p=ptr b 0):LCalls (KC B0 w0) 56 [ptr b 0] [(b,.cells 69 [p,v])]
  (λr H'=>(∃ x,r=.ret (.atom x))/\H'=[(b,.cells 69 [ptr b 0,v])]):=λxs w L hv hH=>by
 simp only[RepL] at hv;obtain⟨y,ys,rfl,hy,rfl⟩:=hv;simp only[Rep] at hy;subst hy;obtain⟨hb0,hbs,hl,zs,hx1,hx2⟩:=hH.objs _ (List.mem_singleton.2 rfl);simp only at hb0 hbs hl hx1 hx2;have hz:=hx2;simp only[RepL] at hz;obtain⟨a,as1,rfl,ha,c,as2,rfl,hc,rfl⟩:=hz;rcases hp with rfl|rfl;simp only[Rep] at ha;subst ha;have h0:w.cell? ⟨b,0,none⟩=some (.pointer none):=by simp[World.cell?,hx1]
 have hsh:w.shape? b=some (69,2):=by simp[World.shape?,hx1]
 have hfz:w.frozen? ⟨b,0,none⟩=false:=Go.Lib.frozen_of_heap hx1 0;refine(Any.Builder_copyCheck_fresh (P:=Tryz.prog) qrk Tryz.Builder_Extra_156.toX72 b w h0 hsh hfz).mono λe w' he=>?_;obtain⟨rfl,rfl⟩:=he;refine qeT (w:=w) (w':=w.setCell ⟨b,0,none⟩ (.pointer (some ⟨b,0,none⟩))) (xs':=[.pointer (some ⟨b,0,none⟩),c]) (cs':=[ptr b 0,v]) (lv:=.atom (.tuple #[])) hH rfl rfl rfl (by simp[World.setCell]) (λd hd=>by simp[World.setCell,Array.getElem?_modify,Ne.symm hd]) (by rw[qil (xs:=[.pointer none,c]) hx1];rfl) rfl ?_ qaj ⟨⟨_,rfl⟩,rfl⟩;simp only[RepL] at hx2 ⊢;exact⟨_,_,rfl,qaj,c,[],rfl,hc,rfl⟩;simp only[Rep] at ha;subst ha;have h0:w.cell? ⟨b,0,none⟩=some (.pointer (some ⟨b,0,none⟩)):=by simp[World.cell?,hx1]
 refine(Any.Builder_copyCheck_used (P:=Tryz.prog) qrk Tryz.Builder_Extra_156.toX72 b w h0).mono λe w' he=>?_;obtain⟨rfl,rfl⟩:=he;exact⟨.atom (.tuple #[]),_,L,Fr.refl _ _ _,hH,qaj,⟨_,rfl⟩,rfl⟩
attribute [local irreducible] LOps qag qae LCalls Go.GL.Pure qaz qam qad LQ LAny qaI qan
theorem qfo(b:Nat)(l m:List UInt8)(H:Heap)(hB:BH b l H)(hlen:l.length+m.length<=10000000000):LCalls (KC B0 w0) 28 [ptr b 0,str m] H (λr H'=>(∃ x,r=.ret x)/\BH b (l++m) H'):=by
 obtain⟨p,v,Hv,hp,hacc,rfl⟩:=hB;refine zcI Tryz.func28 rfl (n:=19) rfl rfl rfl ?_;refine gao ?_;refine oS (S.callH (H1:=[(b,_)]) (F:=Hv) [_] rfl zpr (qgp b p (.atom v) hp) (λx H' h=>?_) (λch H' h=>?_)) rfl;obtain⟨⟨x',hx'⟩,rfl⟩:=h;cases hx';refine gac ?_;refine oS (S.appB1 (q:=(b,.cells 69 [ptr b 0,.atom v])) (l:=l) (m:=m) rfl hacc rfl zo λv' H' hacc'=>?_) rfl;refine gab ?_;have hacc2:=hacc';generalize l++m=lm at hacc' hacc2 ⊢
 cases hacc' with
 |nil=>
  refine gaa ?_
  exact rR rfl (rC (zrt rfl) (zra rfl)) zhr ⟨⟨_,rfl⟩,ptr b 0,_,_,.inr rfl,hacc2,rfl⟩
 |row h0 h1 h2=>
  refine gaa ?_;exact rR rfl (rC (zrt rfl) (zra rfl)) zhr ⟨⟨_,rfl⟩,ptr b 0,_,_,.inr rfl,hacc2,rfl⟩
 obtain⟨⟨x',hx'⟩,_⟩:=h;cases hx'
end
open Go Go.Shelf Go.RowKit
section
variable{P:Program}{ρ:Ren}
set_option maxHeartbeats 4000000 in
set_option maxRecDepth 100000 in
theorem qgN(L:Lays.n169 P ρ)(X:Builder.Extra P ρ)(b g:Nat)(p:Value)(l:List UInt8)(cur:Array Value)(w:World)(hbk:w.heap[b]? = some (.cells #[p,.slice (some ⟨g,0,none⟩) l.length cur.size] (ρ.t 72) (0,0)))
  (hg:w.heap[g]? = some (.cells cur (ρ.t 5) (0,0))) (h0:l≠[]) (hn:l.length<=cur.size) (hbig:l.length<=9223372036854775807) (hcell:∀ (j:Nat) (x:UInt8),l[j]? = some x->cur[j]? = some (.int .u8 x.toNat)) :
  Calls P (ρ.f 169) #[.pointer (some ⟨b,0,none⟩)] w λe w'=>e=.returned (.string ⟨l.toArray⟩)/\w'=w.drew.freeze ⟨g,0,none⟩ l.length:=by
 have hl0:l.length≠0:=by simpa using h0
 have c1:w.drew.cell? ⟨b,1,none⟩=some (.slice (some ⟨g,0,none⟩) l.length cur.size):=by
  have:w.drew.heap[b]? = some (.cells #[p,.slice (some ⟨g,0,none⟩) l.length cur.size] (ρ.t 72) (0,0)):=hbk;rw[Lib.cell_of_heap this];rfl
 have hSD:(Builtin.unsafeSliceData_ #[(ρ.t 37)] (ρ.t 127) #[.slice (some ⟨g,0,none⟩) l.length cur.size]).run P w.drew=.ok (.pointer (some ⟨g,0,none⟩)) w.drew:=
  Lib.run_unsafeSliceData_row _ _ _ _ _ _ (by omega)
 have hUS:(Builtin.unsafeString_ #[(ρ.t 127),(ρ.t 3)] (ρ.t 9) #[.pointer (some ⟨g,0,none⟩),.int .i64 l.length]).run P w.drew=.ok (.string ⟨l.toArray⟩) (w.drew.freeze ⟨g,0,none⟩ l.length):=by
  refine Lib.run_unsafeString_row w.drew (ρ.t 127) (ρ.t 3) (ρ.t 9) (ρ.t 5) L.t127 X.cellsByte g cur.size (by have hg':w.drew.heap[g]? = some (.cells cur (ρ.t 5) (0,0)):=hg;simp[World.shape?,hg']) l h0 hn hbig ?_;intro j x hx;have hg':w.drew.heap[g]? = some (.cells cur (ρ.t 5) (0,0)):=hg;have:=hcell j x hx;rw[Go.GL.add_mk];simp[World.cell?,hg',this]
 have mixed:=L.mixed;have t72:=L.t72;have a72:=L.a72;have z72:=L.z72;have v72:=L.v72;have u72:=run_underlying L.t72;have t70:=L.t70;have a70:=L.a70;have z70:=L.z70;have v70:=L.v70;have u70:=run_underlying L.t70;have t37:=L.t37;have a37:=L.a37;have z37:=L.z37;have v37:=L.v37;have u37:=run_underlying L.t37;have t127:=L.t127;have a127:=L.a127;have z127:=L.z127;have v127:=L.v127;have u127:=run_underlying L.t127;have t3:=L.t3;have a3:=L.a3;have z3:=L.z3;have v3:=L.v3;have u3:=run_underlying L.t3;have t9:=L.t9;have a9:=L.a9;have z9:=L.z9;have v9:=L.v9;have u9:=run_underlying L.t9;have t5:=X.t5;have a5:=X.a5;have z5:=X.z5;have v5:=X.v5;have u5:=run_underlying X.t5
 go_enter L.f169,Body.n169_ntmps ρ
 go_wp2
 go_region_o
 all_goals (go_wp2;go_ret;exact⟨rfl,rfl⟩)
end
open Go.GL Go.Stele
theorem qrR:Lays.n169 Tryz.prog Tryz.lays156_ren:={ Tryz.lays156 with }
section
variable{B0:Nat}{w0:World}
theorem qtv{C:Ctx}{w:World}{L:Live}(hH:RelH C w L H){g n:Nat}(hm:g∈keys H)(hb:C.B0<=g):Fr (keys H) w L (w.drew.freeze ⟨g,0,none⟩ n) L []/\RelH C (w.drew.freeze ⟨g,0,none⟩ n) L []:=by
 have hbl:∀ c,c≠g->(w.drew.freeze ⟨g,0,none⟩ n).heap[c]? = w.heap[c]? := λc hc=>by
  unfold World.freeze;split;rfl;simp only[Array.getElem?_modify];rw[zn (Ne.symm hc)];rfl
 have hsz:(w.drew.freeze ⟨g,0,none⟩ n).heap.size=w.heap.size:=by
  unfold World.freeze;split;rfl
  simp
 have hsh:∀ c,(w.drew.freeze ⟨g,0,none⟩ n).shape? c=w.shape? c:=λc=>by
  by_cases hc:c=g
  subst hc;unfold World.freeze;split;rfl;simp only[World.shape?,Array.getElem?_modify,if_true];show(match Option.map _ w.heap[c]? with|some (Obj.cells c e _)=>some (e,c.size)|_=>none)=_
  cases w.heap[c]? with
  |none=>rfl
  |some o=>cases o <;> rfl
  exact qbL (hbl c hc)
 have hce:∀ c i,(w.drew.freeze ⟨g,0,none⟩ n).cell? ⟨c,i,none⟩=w.cell? ⟨c,i,none⟩:=λc i=>by
  by_cases hc:c=g
  subst hc;unfold World.freeze;split;rfl;simp only[World.cell?,Array.getElem?_modify,if_true];show(match Option.map _ w.heap[c]? with|some (Obj.cells c e _)=>_|_=>none)=_
  cases w.heap[c]? with
  |none=>rfl
  |some o=>cases o <;> rfl
  exact cell_of_heap (hbl c hc) i
 have hos:(w.drew.freeze ⟨g,0,none⟩ n).os=w.os/\(w.drew.freeze ⟨g,0,none⟩ n).tape=w.tape/\(w.drew.freeze ⟨g,0,none⟩ n).output=w.output:=by
  unfold World.freeze;split <;> exact⟨rfl,rfl,rfl⟩
 exact⟨⟨hos.1,hos.2.1,hos.2.2,⟨Nat.le_of_eq hsz.symm,λc _=>hsh c,λc i _=>hce c i,λ_=>zNr _⟩,λc _ hc=>hbl c (λh=>hc (h▸hm)),λ_ _ _=>rfl,by simp⟩,
  ⟨hH.base.trans ⟨hos.1,hos.2.1,hos.2.2,Nat.le_of_eq hsz.symm,λc hc=>hbl c zo⟩,hH.lbase,by rw[hsz];exact hH.b0,λc hc=>hH.wf c (by rw[hsz] at hc;exact hc),List.nodup_nil,by simp⟩⟩
theorem qgG(b:Nat)(l:List UInt8)(H:Heap)(hB:BH b l H)(hlen:l.length<=10000000000):LCalls (KC B0 w0) 29 [ptr b 0] H (Ret (str l)):=λxs w L hv hH=>by
 obtain⟨p,v,Hv,hp,hacc,rfl⟩:=hB;simp only[RepL] at hv;obtain⟨y,ys,rfl,hy,rfl⟩:=hv;simp only[Rep] at hy;subst hy;obtain⟨hb0,hbs,hl,zs,hx1,hx2⟩:=hH.objs _ zMs;simp only at hb0 hbs hl hx1 hx2;simp only[RepL] at hx2;obtain⟨a,as1,rfl,ha,c,as2,rfl,hc,rfl⟩:=hx2;simp only[Rep] at hc;subst hc
 cases hacc with
 |nil=>
  refine(Any.Builder_String_nil (P:=Tryz.prog) qrR Tryz.Builder_Extra_156 w.heap.size b a w hx1).mono λe w' he=>?_;obtain⟨rfl,hb⟩:=he;obtain⟨h1,h2⟩:=qiL (hH.sub (List.nil_sublist _)) hb
  exact⟨str [],[],L,h1.wide (by simp),h2,qaj,rfl,rfl⟩
 |row h0 h1 h2=>
  rename_i g xs
  obtain⟨hg0,hgs,hgl,ws,hw1,hw2⟩:=hH.objs _ (zMo _ (List.mem_singleton.2 rfl));simp only at hg0 hgs hgl hw1;have:=qct hw2;subst this
  have hcell:∀ (j:Nat) (x:UInt8),l[j]? = some x->ws.toArray[j]? = some (Value.int .u8 x.toNat):=λj x hx=>by
   have hj:(bytV l)[j]? = some (Value.int .u8 x.toNat):=by simp[bytV,hx]
   rw[<-h2,List.getElem?_take] at hj;split at hj;simpa using hj;cases hj
  refine(qgN (P:=Tryz.prog) qrR Tryz.Builder_Extra_156 b g a l ws.toArray w hx1 hw1 h0 (by simpa using h1) zo hcell).mono λe w' he=>?_;obtain⟨rfl,rfl⟩:=he;obtain⟨f1,f2⟩:=qtv (n:=l.length) hH (g:=g) (by simp) hg0;exact⟨str l,[],L,f1,f2,qaj,rfl,rfl⟩
end
attribute [local irreducible] LOps qag qae LCalls Go.GL.Pure qaz qam qad LQ LAny qaI qan qdv qfu qdj qwS qfB
def lvs:List (List (List UInt8)):=[qb2 0,qb2 1,qb2 2,qb2 3,qb2 4,qb2 5]
theorem qvi(q:Nat)(h:q<6):ql2 lvs q=[int .i64 (((5-q:Nat):Int)),.list ((qb2 (5-q)).map str)]:=by
 have:q=0∨q=1∨q=2∨q=3∨q=4∨q=5:=by omega
 rcases this with rfl|rfl|rfl|rfl|rfl|rfl <;> rfl
theorem qdj.mkRet{C:Ctx}{n:Nat}{e:Env}{R:LRes->Heap->Prop}{vs:List LV}{D:Nat}(hd:e.ds=[{ target:=.collected D,args:=#[] }])(F:Heap)(hp:H.Perm ((D,.obj (.deferred (some [])))::F))(h:qbX C n e F rs vs)(hH:HSub H' F)(hR:R (.ret (qbJ vs)) H') :
  qdj C n rs R .ret e H:=by
 unfold qdj;exact⟨D,F,hd,hp,vs,H',h,hH,hR⟩
theorem qdj.mkPanic{C:Ctx}{n:Nat}{e:Env}{R:LRes->Heap->Prop}{ch:List PanicEntry}{D:Nat}(hd:e.ds=[{ target:=.collected D,args:=#[] }])(F:Heap)(hp:H.Perm ((D,.obj (.deferred (some [])))::F))(hH:HSub H' F)(hR:R (.panic ch) H') :
  qdj C n rs R (.panic ch) e H:=by
 unfold qdj;exact .inr ⟨D,F,hd,hp,H',hH,hR⟩
section
variable{B0:Nat}{w0:World}
theorem qec(sb:Nat)(T:List Tok)(f:Nat)(hC:CloC B0 w0 sb T f):qlE B0 w0 sb T f:=by
 intro i op r hi ho hr;refine LCalls.introM Tryz.func199 rfl (n:=20) rfl rfl rfl ?_;refine gah ?_;refine oS (zsB rfl λb1=>oS (zsA λb2=>?_) rfl) rfl;refine gaa ?_;refine oS (zsA λb3=>?_) rfl;refine gaa ?_;refine oS (sF [] rfl qn9<|oS (S.call0 [_] rfl (qli qhc) (λv H' h=>?_) (λch H' h=>?_)) rfl) rfl
 ·obtain⟨bB,h,rfl⟩:=h;cases h;refine gab ?_;have hexit:∀ (first caps:Array Value) (fn:FuncId) (Hclo F:Heap),Clo sb 0 fn first caps Hclo->TEnter Tryz.prog fn:=λ_ _ _ _ _ h=>h.enter
  refine qag.rangeFunc (g:=.tmp 9) (ps:=[10,11]) (caps:=#[.pointer (some ⟨bB,0,none⟩)]) (by rfl) lvs.length (ql2 lvs)
   [(b3,.cells 213 [.atom (.func (.func 231) #[.pointer (some ⟨sb,0,none⟩)] #[])]),(b2,.cells 202 [str [],int .u32 0,str [],qab]),(b1,.cells 80 [ptr sb 0]),srcH sb T i op] [(bB,.cells 197 [.list qhc])]
   (perm_append_singleton _ _).symm (qst bB lvs zDd) (λk hk=>by rw[qvi k hk];rfl) (by rfl)
   (λq Hq=>∃ (fn:FuncId) (first caps:Array Value) (Hclo:Heap),Clo sb (6-q) fn first caps Hclo/\Hq=(b3,.cells 213 [.atom (.func (.func fn) first caps)])::(b2,.cells 202 [str [],int .u32 0,str [],qab])::(b1,.cells 80 [ptr sb 0])::srcH sb T i op::Hclo)
   ⟨_,_,_,[],.un,rfl⟩ ?_ ?_
  rintro q Hq hq ⟨fn,first,caps,Hclo,hclo,rfl⟩ j hjd hja l D o oD;have hq6:q<6:=hq;have hj1:j.s 1=ptr b1 0:=hja 1 _ rfl;have hj3:j.s 3=ptr b3 0:=hja 3 _ rfl
  rw[qvi q hq6,<-Env.slots_self (e:=j) (l:=[(1,ptr b1 0),(3,ptr b3 0)]) (by
   intro p hp;simp only[zMi,not_mem_nil,or_false] at hp;rcases hp with rfl|rfl;exact hj1
   exact hj3)]
  refine qdv.seq ?_;refine qdv.region rfl ?_;refine gaf ?_;refine qdv.region rfl ?_;refine gad ?_;refine⟨hjd,_,rfl,λo'=>?_⟩;refine qdv.block ?_;refine qdv.region rfl ?_;refine gad ?_;refine oS (S.call0 [_,_,_,_] rfl (qgC sb ((qb2 (5-q)).map str) (decide (((5-q:Nat):Int)=2)) fn first caps) (λv H' h=>?_) (λch H' h=>?_)) rfl;obtain⟨bo,bs,bp,bn,h,rfl⟩:=h;cases h;refine gad ?_
  refine⟨(b3,.cells 213 [.atom (.func (.func 257) #[] #[.pointer (some ⟨bo,0,none⟩),.pointer (some ⟨bs,0,none⟩),.pointer (some ⟨bp,0,none⟩),.pointer (some ⟨bn,0,none⟩)])])::(b2,.cells 202 [str [],int .u32 0,str [],qab])::(b1,.cells 80 [ptr sb 0])::srcH sb T i op ::
   (bo,.cells 213 [.atom (.func (.func fn) first caps)])::(bs,.cells 80 [ptr sb 0])::(bp,.cells 32 [.list ((qb2 (5-q)).map str)])::(bn,.cells 4 [bool (decide (((5-q:Nat):Int)=2))])::Hclo,?_,_,_,_,_,?_,rfl⟩
  exact zhP zp5 (zhP zp5 (zhP pH (zhP zp4 (zhP zp4 (zhP zp4 zhr)))));have e1:6-(q+1)=5-q:=by omega
  have e2:6-q=5-q+1:=by omega
  rw[e1];rw[e2] at hclo;exact .bin hclo;obtain⟨_,_,_,_,h,_⟩:=h;cases h;rintro D H' ⟨fn,first,caps,Hclo,hclo,rfl⟩;have hclo0:Clo sb 0 fn first caps Hclo:=hclo
  have hen:=hexit _ _ _ _ [] hclo0;refine gab ?_;refine cW (H':=(D,.obj (.deferred (some [])))::(b3,.cells 213 [.atom (.func (.func fn) first caps)])::(b2,.cells 202 [str [],int .u32 0,str [],qab])::(b1,.cells 80 [ptr sb 0])::srcH sb T i op::Hclo) ⟨[(bB,.cells 197 [.list qhc])],List.Perm.refl _⟩ ?_;refine gaa ?_;refine oS (S.callClo (F:=[(D,.obj (.deferred (some []))),(b3,.cells 213 [.atom (.func (.func fn) first caps)]),(b2,.cells 202 [str [],int .u32 0,str [],qab]),(b1,.cells 80 [ptr sb 0])]) (Hc:=Hclo) rfl zp4 (hC _ _ _ _ _ _ _ r hclo0 hi ho hr) (λv i1 op1 h1=>?_) (λl er i1 op1 h1 e' he'=>?_)) rfl;refine gad ?_;exact qdj.mkRet rfl _ zp2 (rC (rA rfl zm0 rfl zsr) rN) (zhP zp1 zhn) (by rw[h1];exact⟨rfl,rfl⟩);refine gal ?_;refine qdj.mkPanic (he'.trans rfl) (srcH sb T i1 op1::(Hclo++[(b3,.cells 213 [.atom (.func (.func fn) first caps)]),(b2,.cells 202 [str [],int .u32 0,str [],qab]),(b1,.cells 80 [ptr sb 0])])) ?_ zhp (by rw[h1];exact⟨rfl,i1,op1,rfl⟩);exact(List.Perm.cons _ List.perm_middle).trans (List.Perm.swap _ _ _)
 obtain⟨bB,h,_⟩:=h;cases h
theorem qln(hG:GW B0 w0)(sb:Nat)(T:List Tok)(hT:TOK T):∀ f:Nat,CloC B0 w0 sb T f/\qlE B0 w0 sb T f:=by
 intro f
 induction f using Nat.strongRecOn with
 |_ f ih=>
  have hC:CloC B0 w0 sb T f:=by
   intro k fn first caps Hc i op r hclo hi ho hr
   cases hclo with
   |un=>
    obtain⟨f,rfl⟩:∃ g,f=g+1:=by
     cases f with
     |zero=>rw[eLev] at hr;cases hr
     |succ g=>exact⟨g,rfl⟩
    rw[eLev,zp rfl] at hr;refine LCalls.mono (qqm hG sb T hT f (λg hg=>(ih g zo).2) i op r hi ho hr) ?_;intro r' H h
    cases r with
    |ok v i' op'=>exact h
    |err l e=>exact h
   |bin h=>exact qu1 hG sb T hT f (λg hg=>(ih g hg).1) _ _ _ _ _ _ _ _ _ h i op r hi ho hr
  exact⟨hC,qec sb T f hC⟩
end
def qxf(l:List Sm):LV:=.list (l.map encS)
section
variable{B0:Nat}{w0:World}
def qre(B0:Nat)(w0:World)(sb:Nat)(T:List Tok)(f:Nat):Prop:=
 ∀ i op r,i<=T.length->op<=100->qck T f i op=some r->LCalls (KC B0 w0) 200 [ptr sb 0] [srcH sb T i op] (qdy sb T qxf r)
def qsO(B0:Nat)(w0:World)(sb:Nat)(T:List Tok)(f:Nat):Prop:=
 ∀ i op r,i<=T.length->op<=100->qbQ T f [] i op=some r->LCalls (KC B0 w0) 127 [ptr sb 0] [srcH sb T i op] (qdy sb T qxf r)
def qvF(B0:Nat)(w0:World)(sb:Nat)(T:List Tok)(f:Nat):Prop:=
 ∀ i op r,i<=T.length->op<=100->qej T f i op=some r->LCalls (KC B0 w0) 170 [ptr sb 0] [srcH sb T i op] (qdy sb T encS r)
def qnC(B0:Nat)(w0:World)(sb:Nat)(T:List Tok)(f:Nat):Prop:=
 ∀ i op r,i<=T.length->op<=100->qbI T f i op=some r->LCalls (KC B0 w0) 201 [ptr sb 0] [srcH sb T i op] (qdy sb T encS r)
theorem qf4(sb:Nat)(T:List Tok)(hT:TOK T)(f:Nat)(hS:qsO B0 w0 sb T f):qre B0 w0 sb T (f+1):=by
 intro i op r hi ho hr;have hl:=hT.len;rw[qck] at hr;refine zcI Tryz.func200 rfl (n:=11) rfl rfl rfl ?_;refine gao ?_;refine oS (sP [_,_] rfl pH (qcw sb T i op [123] hl zo zo) (λv i1 op1 h1=>?_) (λl er i1 op1 h1 e9 he9=>?_)) rfl;rotate_left;exact zT26;rw[h1,qal] at hr;obtain⟨rfl,rfl,ho1,hi1⟩:=qbC h1;refine gam ?_;obtain⟨r1,hr1⟩:=qaS hr;refine oS (sP [_] rfl pH (hS _ _ r1 zo zo hr1) (λl i2 op2 h2=>?_) (λl er i2 op2 h2 e9 he9=>?_)) rfl;rotate_left;rw[hr1,h2,qat] at hr;refine gae ?_;exact panP zb0 (by cases hr;rfl) zhp;rw[hr1,h2,qal] at hr;obtain⟨g1,_,g3,rfl⟩:=(qgD T f).2.1 _ _ _ _ (hr1.trans (congrArg some h2));have g4:=g3 zo;refine gaa ?_;refine oS (sP [_,_] rfl pH (qfh sb T i2 (op+1) [125] hl zo zo zo) (λu i3 op3 h3=>?_) (λl er i3 op3 h3 e9 he9=>?_)) rfl;rotate_left;exact zT27;rw[h3,qal] at hr;refine gaa ?_;exact retP (v:=l) rfl (rC (rT (v:=.list _) rfl zsr) rN) (by cases hr;rfl) rfl zhr
theorem qeF(sb:Nat)(T:List Tok)(hT:TOK T)(f:Nat)(hS:∀ g,g<f->qvF B0 w0 sb T g):qsO B0 w0 sb T f:=by
 intro i op r hi ho hr;have hl:=hT.len;refine zcI Tryz.func127 rfl (n:=14) rfl rfl rfl ?_;refine gac ?_
 refine zoL (λk ls H=>∃ (v:LV) (l:List Sm) (i2:Nat) (Ha:Heap),k<=f/\ls=[(0,ptr sb 0),(3,v)]/\H=srcH sb T i2 op::Ha/\Acc 6 v (l.map encS) Ha []/\i2<=T.length/\l.length<=i2+1/\qbQ T k l i2 op=some r)
  ⟨f,_,srcH sb T i op::[],⟨qab,[],i,_,zNr _,rfl,rfl,Acc.nil,by omega,by simp,hr⟩,⟨rfl,rfl,trivial⟩,zhR _⟩ ?_
 rintro k ls H ⟨v,l,i2,Ha,hkf,rfl,rfl,hacc,hi2,hll,hI⟩ j hj
 obtain⟨k,rfl⟩:∃ k',k=k'+1:=by
  cases k with
  |zero=>rw[qbQ] at hI;cases hI
  |succ k=>exact⟨k,rfl⟩
 rw[qbQ] at hI;refine gag ?_;refine zQ0 ?_;refine oS (sH [_,_] rfl pH (qcp sb T i2 op [[125]] hl zo (by simp)) ?_) rfl;refine gad ?_;refine zoC rfl (λhc=>?_) (λhc=>?_)
 ·have hc':isTok T i2 [[125]]=false:=by simpa using hc
  rw[zn (by rw[hc'];decide)] at hI;refine gak ?_;refine zQ14 ?_;refine gaj ?_;obtain⟨r2,hr2⟩:=qaS hI;refine oS (sP [_] rfl pH (hS k zo _ _ r2 zo zo hr2) (λe2 i4 op4 h4=>?_) (λl er i4 op4 h4 e9 he9=>?_)) rfl;rotate_left;rw[hr2,h4,qat] at hI;refine gae ?_;exact panP zb0 (by cases hI;rfl) zhp;rw[hr2,h4,qal] at hI;obtain⟨g1,g2,g3,rfl⟩:=(qgD T k).2.2.1 _ _ _ (hr2.trans (congrArg some h4));have g5:=g3 zo;have g6:=g2 rfl;refine zQ0 ?_;refine oS (S.acc1 rfl hacc rfl (by simp;rfl) rfl (by simp;omega) λv' H' hacc'=>?_) rfl;refine zQ19 ?_;refine gab ?_;exact⟨k,_,_,by omega,⟨v',l++[e2],i4,H',by omega,rfl,rfl,by rw[zMa];exact hacc',by omega,by simp;omega,hI⟩,⟨rfl,rfl,trivial⟩,zhR _,hj⟩
 have hc':isTok T i2 [[125]]=true:=by simpa using hc
 rw[zp hc'] at hI;refine gac ?_;refine zQ30 ?_;exact retP (v:=l) hj (rC (rT (v:=v) rfl hacc.sub) rN) (by cases hI;rfl) rfl zhp
end
section
variable{B0:Nat}{w0:World}
theorem qwp(s:List UInt8)(l:List Ex):encS (.mk 6 [] [] [.mk qbB 0 s l] [] [])=.agg [int .i64 6,str [],.list [],.list [.agg [str qbB,int .u32 0,str s,.list (l.map encE)]],.list [],.list []]:=by
 rw[qcJ,zMc,qd5];rfl
theorem qns(sb:Nat)(T:List Tok)(hT:TOK T)(f:Nat)(hE:∀ g,g<=f->qlE B0 w0 sb T g):qnC B0 w0 sb T (f+1):=by
 intro i op r hi ho hr;have hl:=hT.len;obtain⟨gL,_,_,_,gI,gA,_⟩:=qcU T f;rw[qbI] at hr;refine zcI Tryz.func201 rfl (n:=46) rfl rfl rfl ?_;refine gah ?_;refine oS (zsA λb2=>?_) rfl;refine gac ?_;refine oS (sH [_,_] rfl zp1 (qcD sb T i op qph hl zo) ?_) rfl;refine gaf ?_;refine zoC rfl (λhc=>?_) (λhc=>?_)
 ·have hlt:=qaH hc;rw[zp hc] at hr;simp only[hc,if_true];refine gag ?_;obtain⟨r1,hr1⟩:=qaS hr;refine oS (sP [_] rfl pH (hE f zo _ _ r1 zo zo hr1) (λv i1 op1 h1=>?_) (λl er i1 op1 h1 e9 he9=>?_)) rfl;rotate_left;exact zT22;rw[hr1,h1,qal] at hr;refine zQ0 ?_;refine gad ?_;exact retP (v:=.mk 5 [] [] [v] [] []) rfl (rC (rA (k:=6) rfl zm0 rfl (vA (bs:=[_,_,.list [],_,.list [],.list []]) ⟨vR _,vR _,vN,vR _,vN,vN,trivial⟩)) rN) (by cases hr;rfl) (by rw[qcJ];rfl) (zhP zp1 zhn)
 rw[zn (by rw[hc];decide)] at hr;simp only[hc,Bool.false_eq_true,if_false];refine gag ?_;refine oS (sH [_,_] rfl pH (qcD sb T i op qvp hl zo) ?_) rfl;refine gaf ?_;refine zoC rfl (λhc2=>?_) (λhc2=>?_);have hlt:=qaH hc2;rw[zp hc2] at hr;simp only[hc2,if_true];refine gaa ?_;exact retP (v:=.mk 7 [] [] [] [] []) rfl (rC (rA (k:=6) rfl zm0 rfl (vA (bs:=[_,_,.list [],.list [],.list [],.list []]) ⟨vR _,vR _,vN,vN,vN,vN,trivial⟩)) rN) (by cases hr;rfl) (by rw[qcJ];rfl) (zhP zp1 zhn);rw[zn (by rw[hc2];decide)] at hr;simp only[hc2,Bool.false_eq_true,if_false];refine gac ?_;refine oS (sP [_,_] rfl pH (qaQ sb T i op 2 hl zo) (λs i1 op1 h1=>?_) (λl er i1 op1 h1 e9 he9=>?_)) rfl;rotate_left;exact zT26;rw[h1,qal] at hr;obtain⟨rfl,rfl,t,ht,_,_⟩:=qdS h1;have:=qjK ht;refine gaa ?_;refine oS (zsA λb4=>?_) rfl;refine gaa ?_;refine zQ0 ?_;refine oS (sH [_,_] rfl zp1 (qcp sb T (i+1) op1 [[40]] hl zo (by simp)) ?_) rfl;refine gaf ?_;refine zoC rfl (λhc3=>?_) (λhc3=>?_)
 ·rw[zp hc3] at hr;refine gag ?_;obtain⟨r1,hr1⟩:=qaS hr;refine oS (sP [_] rfl pH (qmp sb T hT f (λg hg=>hE g zo) (i+1) op1 r1 zo zo hr1) (λl i2 op2 h2=>?_) (λl er i2 op2 h2 e9 he9=>?_)) rfl;rotate_left;rw[hr1,h2,qat] at hr;refine gae ?_;exact panP zb0 (by cases hr;rfl) zhp;rw[hr1,h2,qal] at hr;refine gad ?_;refine zQ0 ?_;refine gad ?_;exact retP (v:=.mk 6 [] [] [.mk qbB 0 s l] [] []) rfl (rC (rA (k:=6) rfl zm0 rfl (vA (bs:=[_,_,.list [],_,.list [],.list []]) ⟨vR _,vR _,vN,vR _,vN,vN,trivial⟩)) rN) (by cases hr;rfl) (by rw[qwp];rfl) (zhP zp1 zhn)
 rw[zn (by rw[hc3];decide)] at hr;refine gag ?_;refine zQ0 ?_;refine oS (sH [_,_] rfl pH (qcp sb T (i+1) op1 [[91]] hl zo (by simp)) ?_) rfl;refine gaf ?_;refine zoC rfl (λhc4=>?_) (λhc4=>?_)
 ·rw[zp hc4] at hr;refine gag ?_;obtain⟨r1,hr1⟩:=qaS hr;refine oS (sP [_] rfl pH (qji sb T hT f (λg hg=>hE g zo) (i+1) op1 r1 zo zo hr1) (λx i2 op2 h2=>?_) (λl er i2 op2 h2 e9 he9=>?_)) rfl;rotate_left;rw[hr1,h2,qat] at hr;refine gae ?_;exact panP zb0 (by cases hr;rfl) zhp;rw[hr1,h2,qal] at hr;obtain⟨q1,q2,q3,rfl⟩:=gI _ _ _ (hr1.trans (congrArg some h2));have q4:=q3 zo;refine zQ0 ?_;refine gaa ?_;refine oS (sP [_,_] rfl zp1 (qd1 sb T i2 op2 [61] hl zo) (λu i3 op3 h3=>?_) (λl er i3 op3 h3 e9 he9=>?_)) rfl;rotate_left;exact zT27;rw[h3,qal] at hr;have hg3:=qbg T [61] i2 op2;rw[h3] at hg3;obtain⟨k1,k2,k3,rfl⟩:=hg3;have k4:=k3 q4;refine gam ?_;obtain⟨r2,hr2⟩:=qaS hr;refine oS (sP [_] rfl pH (hE f zo _ _ r2 zo zo hr2) (λv i4 op4 h4=>?_) (λl er i4 op4 h4 e9 he9=>?_)) rfl;rotate_left;rw[hr2,h4,qat] at hr;refine gae ?_;exact panP zb0 (by cases hr;rfl) zhp;rw[hr2,h4,qal] at hr;refine zQ0 ?_;refine gaa ?_;exact retP (v:=.mk 2 s [x] [v] [] []) rfl (rC (rA (k:=6) rfl zm0 rfl (vA (bs:=[_,_,_,_,.list [],.list []]) ⟨vR _,vR _,vR _,vR _,vN,vN,trivial⟩)) rN) (by cases hr;rfl) (by rw[qcJ];rfl) (zhP zp2 zhn)
 rw[zn (by rw[hc4];decide)] at hr;refine gac ?_;refine oS (sP [_,_] rfl pH (qd1 sb T (i+1) op1 [61] hl zo) (λu i3 op3 h3=>?_) (λl er i3 op3 h3 e9 he9=>?_)) rfl;rotate_left;exact zT27;rw[h3,qal] at hr;have hg3:=qbg T [61] (i+1) op1;rw[h3] at hg3;obtain⟨k1,k2,k3,rfl⟩:=hg3;have k4:=k3 zo;refine gam ?_;obtain⟨r2,hr2⟩:=qaS hr;refine oS (sP [_] rfl pH (hE f zo _ _ r2 zo zo hr2) (λv i4 op4 h4=>?_) (λl er i4 op4 h4 e9 he9=>?_)) rfl;rotate_left;rw[hr2,h4,qat] at hr;refine gae ?_;exact panP zb0 (by cases hr;rfl) zhp;rw[hr2,h4,qal] at hr;refine zQ0 ?_;refine gaa ?_;exact retP (v:=.mk 1 s [] [v] [] []) rfl (rC (rA (k:=6) rfl zm0 rfl (vA (bs:=[_,_,.list [],_,.list [],.list []]) ⟨vR _,vR _,vN,vR _,vN,vN,trivial⟩)) rN) (by cases hr;rfl) (by rw[qcJ];rfl) (zhP zp2 zhn)
theorem qhw(sb:Nat)(T:List Tok)(hT:TOK T)(f:Nat)(hE:∀ g,g<=f->qlE B0 w0 sb T g)(hB:qre B0 w0 sb T f)(hM:qnC B0 w0 sb T f):qvF B0 w0 sb T (f+1):=by
 intro i op r hi ho hr;have hl:=hT.len;obtain⟨gL,_,_,_,gI,gA,_⟩:=qcU T f;obtain⟨kB,kL,kS,kM⟩:=qgD T f;rw[qej] at hr;refine zcI Tryz.func170 rfl (n:=38) rfl rfl rfl ?_;refine gah ?_;refine oS (zsA λb2=>?_) rfl;refine gac ?_;refine oS (sH [_,_] rfl zp1 (qcD sb T i op kwIf hl zo) ?_) rfl;refine gaf ?_;refine zoC rfl (λhc=>?_) (λhc=>?_)
 ·have hlt:=qaH hc;rw[zp hc] at hr;simp only[hc,if_true];refine gag ?_;obtain⟨r1,hr1⟩:=qaS hr;refine oS (sP [_] rfl pH (hE f zo _ _ r1 zo zo hr1) (λv i1 op1 h1=>?_) (λl er i1 op1 h1 e9 he9=>?_)) rfl;rotate_left;exact zT22;rw[hr1,h1,qal] at hr;obtain⟨g1,g2,g3,rfl⟩:=gL 0 _ _ _ (hr1.trans (congrArg some h1));have g4:=g3 zo;refine zQ0 ?_;refine gad ?_;refine oS (zsA λb3=>?_) rfl;refine gaa ?_;obtain⟨r2,hr2⟩:=qaS hr;refine oS (sP [_] rfl zp1 (hB _ _ r2 zo zo hr2) (λth i2 op2 h2=>?_) (λl er i2 op2 h2 e9 he9=>?_)) rfl;rotate_left;rw[hr2,h2,qat] at hr;refine gae ?_;exact panP zb0 (by cases hr;rfl) zhp;rw[hr2,h2,qal] at hr;obtain⟨q1,q2,q3,rfl⟩:=kB _ _ _ (hr2.trans (congrArg some h2));have q4:=q3 zo;refine gaa ?_;refine oS (sH [_,_] rfl zp1 (qcD sb T i2 op2 qvg hl zo) ?_) rfl;refine gaf ?_;refine zoC rfl (λhc2=>?_) (λhc2=>?_)
  ·have hlt2:=qaH hc2;rw[zp hc2] at hr;simp only[hc2,if_true];refine gag ?_;obtain⟨r3,hr3⟩:=qaS hr;refine oS (sP [_] rfl pH (hB _ _ r3 zo zo hr3) (λel i3 op3 h3=>?_) (λl er i3 op3 h3 e9 he9=>?_)) rfl;rotate_left;rw[hr3,h3,qat] at hr;refine gae ?_;exact panP zb0 (by cases hr;rfl) zhp;rw[hr3,h3,qal] at hr;refine gaa ?_;exact retP (v:=.mk 3 [] [] [v] th el) rfl (rC (rA (k:=6) rfl zm0 rfl (vA (bs:=[_,_,.list [],_,_,_]) ⟨vR _,vR _,vN,vR _,vR _,vR _,trivial⟩)) rN) (by cases hr;rfl) (by rw[qcJ];rfl) (zhP zp2 zhn)
  rw[zn (by rw[hc2];decide)] at hr;simp only[hc2,Bool.false_eq_true,if_false];refine gaa ?_;exact retP (v:=.mk 3 [] [] [v] th []) rfl (rC (rA (k:=6) rfl zm0 rfl (vA (bs:=[_,_,.list [],_,_,.list []]) ⟨vR _,vR _,vN,vR _,vR _,vN,trivial⟩)) rN) (by cases hr;rfl) (by rw[qcJ];rfl) (zhP zp1 zhn)
 rw[zn (by rw[hc];decide)] at hr;simp only[hc,Bool.false_eq_true,if_false];refine gag ?_;refine oS (sH [_,_] rfl pH (qcD sb T i op qsr hl zo) ?_) rfl;refine gaf ?_;refine zoC rfl (λhc2=>?_) (λhc2=>?_)
 ·have hlt:=qaH hc2;rw[zp hc2] at hr;simp only[hc2,if_true];refine gag ?_;obtain⟨r1,hr1⟩:=qaS hr;refine oS (sP [_] rfl pH (hE f zo _ _ r1 zo zo hr1) (λv i1 op1 h1=>?_) (λl er i1 op1 h1 e9 he9=>?_)) rfl;rotate_left;exact zT22;rw[hr1,h1,qal] at hr;obtain⟨g1,g2,g3,rfl⟩:=gL 0 _ _ _ (hr1.trans (congrArg some h1));have g4:=g3 zo;refine zQ0 ?_;refine gad ?_;refine oS (zsA λb3=>?_) rfl;refine gaa ?_;obtain⟨r2,hr2⟩:=qaS hr;refine oS (sP [_] rfl zp1 (hB _ _ r2 zo zo hr2) (λth i2 op2 h2=>?_) (λl er i2 op2 h2 e9 he9=>?_)) rfl;rotate_left;rw[hr2,h2,qat] at hr;refine gae ?_;exact panP zb0 (by cases hr;rfl) zhp;rw[hr2,h2,qal] at hr;refine gaa ?_;exact retP (v:=.mk 4 [] [] [v] th []) rfl (rC (rA (k:=6) rfl zm0 rfl (vA (bs:=[_,_,.list [],_,_,.list []]) ⟨vR _,vR _,vN,vR _,vR _,vN,trivial⟩)) rN) (by cases hr;rfl) (by rw[qcJ];rfl) (zhP zp2 zhn)
 rw[zn (by rw[hc2];decide)] at hr;simp only[hc2,Bool.false_eq_true,if_false];refine gac ?_;obtain⟨r1,hr1⟩:=qaS hr;refine oS (sP [_] rfl pH (hM _ _ r1 zo zo hr1) (λv i1 op1 h1=>?_) (λl er i1 op1 h1 e9 he9=>?_)) rfl;rotate_left;exact zT22;rw[hr1,h1,qal] at hr;obtain⟨g1,g2,g3,rfl⟩:=kM _ _ _ (hr1.trans (congrArg some h1));have g4:=g3 zo;refine oS (zsA λb5=>?_) rfl;refine gaa ?_;refine oS (sP [_,_] rfl zp1 (qd1 sb T i1 op1 [59] hl zo) (λu i2 op2 h2=>?_) (λl er i2 op2 h2 e9 he9=>?_)) rfl;rotate_left;rw[h2,qat] at hr;refine gae ?_;exact panP zb0 (by cases hr;rfl) zhp;rw[h2,qal] at hr;refine gaa ?_;exact retP (v:=v) rfl (rC (rA rfl zm0 rfl zsr) rN) (by cases hr;rfl) rfl (zhP zp1 zhn)
theorem qya(hG:GW B0 w0)(sb:Nat)(T:List Tok)(hT:TOK T):∀ f:Nat,qre B0 w0 sb T f/\qsO B0 w0 sb T f/\qvF B0 w0 sb T f/\qnC B0 w0 sb T f:=by
 intro f
 induction f using Nat.strongRecOn with
 |_ f ih=>
  have hE:=λg=>(qln (B0:=B0) (w0:=w0) hG sb T hT g).2
  cases f with
  |zero=>
   refine⟨?_,qeF sb T hT 0 (λg hg=>by omega),?_,?_⟩;intro i op r _ _ hr;rw[qck] at hr;cases hr;intro i op r _ _ hr;rw[qej] at hr;cases hr
   intro i op r _ _ hr;rw[qbI] at hr;cases hr
  |succ f=>
   have h:=ih f zo;exact⟨qf4 sb T hT f h.2.1,qeF sb T hT _ (λg hg=>(ih g hg).2.2.1),qhw sb T hT f (λg _=>hE g) h.1 h.2.2.2,qns sb T hT f (λg _=>hE g)⟩
end
theorem qhr(T:List Tok):∀ (f:Nat) (acc:List (List UInt8)) (i op:Nat) (l:List (List UInt8)) (i' op':Nat),qaR T f acc i op=some (.ok l i' op')->l.length+i<=acc.length+i'
 |0,_,_,_,_,_,_,h=>by rw[qaR] at h;cases h
 |f+1,acc,i,op,l,i',op',h=>by
  rw[qaR] at h;split at h;rcases qay h with⟨s,i1,op1,h1,h2⟩|⟨l,e,_,hh⟩;injection h1 with h1;obtain⟨rfl,rfl,_⟩:=qdS h1;have:=qhr T f _ _ _ _ _ _ h2;rw[zLa,length_singleton] at this;omega;cases hh;cases h;omega
theorem qmd{T:List Tok}{f i op:Nat}{l:List (List UInt8)}{i' op':Nat}(h:qeo T f i op=some (.ok l i' op')):l.length+i<=i':=by
 unfold qeo at h;rcases qay h with⟨s,i1,op1,h1,h2⟩|⟨l,e,_,hh⟩;injection h1 with h1;obtain⟨rfl,rfl,_⟩:=qdS h1;have:=qhr T f _ _ _ _ _ _ h2;rw[length_singleton] at this;omega;cases hh
theorem qlM(T:List Tok):∀ (f:Nat) (acc:List (List UInt8)) (i op:Nat) (l:List (List UInt8)) (i' op':Nat),qcA T f acc i op=some (.ok l i' op')->l.length+i<=acc.length+i'
 |0,_,_,_,_,_,_,h=>by rw[qcA] at h;cases h
 |f+1,acc,i,op,l,i',op',h=>by
  rw[qcA] at h;split at h;rcases qay h with⟨s,i1,op1,h1,h2⟩|⟨l,e,_,hh⟩;have:=qmd h1;rcases qay h2 with⟨u,i2,op2,h3,h4⟩|⟨l,e,_,hh⟩;injection h3 with h3;have hg:=qbg T [59] i1 op1;rw[h3] at hg;have hv:=qlM T f _ _ _ _ _ _ h4;have:=hg.1;rw[zLa] at hv;omega;cases hh;cases hh;cases h;omega
section
variable{B0:Nat}{w0:World}
theorem qkc(sb:Nat)(T:List Tok)(hT:TOK T)(f i op:Nat)(r:Res (List (List UInt8)))(hi:i<=T.length)(hr:qcA T f [] i op=some r) :
  LCalls (KC B0 w0) 61 [ptr sb 0] [srcH sb T i op] (qdy sb T qoQ r):=by
 have hl:=hT.len;refine zcI Tryz.func61 rfl (n:=13) rfl rfl rfl ?_;refine gac ?_
 refine zoL (λk ls H=>∃ (v:LV) (l:List (List UInt8)) (i2:Nat) (Ha:Heap),k<=f/\ls=[(0,ptr sb 0),(3,v)]/\H=srcH sb T i2 op::Ha/\Acc 1 v (l.map str) Ha []/\i2<=T.length/\l.length<=i2/\qcA T k l i2 op=some r)
  ⟨f,_,srcH sb T i op::[],⟨qab,[],i,_,zNr _,rfl,rfl,Acc.nil,by omega,by simp,hr⟩,⟨rfl,rfl,trivial⟩,zhR _⟩ ?_
 rintro k ls H ⟨v,l,i2,Ha,hkf,rfl,rfl,hacc,hi2,hll,hI⟩ j hj
 obtain⟨k,rfl⟩:∃ k',k=k'+1:=by
  cases k with
  |zero=>rw[qcA] at hI;cases hI
  |succ k=>exact⟨k,rfl⟩
 rw[qcA] at hI;refine gag ?_;refine oS (sH [_,_] rfl pH (qcD sb T i2 op qkt hl zo) ?_) rfl;refine gaf ?_;refine zoC rfl (λhc=>?_) (λhc=>?_)
 ·have hlt:=qaH hc;rw[zp hc] at hI;simp only[hc,if_true];refine gak ?_;refine zQ14 ?_;refine gaj ?_;obtain⟨r2,hr2⟩:=qaS hI;refine oS (sP [_] rfl pH (qi8 sb T hT k (i2+1) op r2 zo hr2) (λns i4 op4 h4=>?_) (λl er i4 op4 h4 e9 he9=>?_)) rfl;rotate_left;rw[hr2,h4,qat] at hI;refine gae ?_;exact panP zb0 (by cases hI;rfl) zhp;rw[hr2,h4,qal] at hI;obtain⟨g1,g2,g3,rfl⟩:=qco T k _ _ _ (hr2.trans (congrArg some h4));have g5:=g3 zo;have g6:=qmd (hr2.trans (congrArg some h4));refine oS (S.acc1 (ms:=ns.map str) rfl hacc rfl (qey ns) (qgB ns) (by simp;omega) λv' H' hacc'=>?_) rfl;refine zQ19 ?_;refine gam ?_;refine oS (sP [_,_] rfl pH (qd1 sb T i4 op4 [59] hl zo) (λu i5 op5 h5=>?_) (λl er i5 op5 h5 e9 he9=>?_)) rfl;rotate_left;rw[h5,qat] at hI;refine gae ?_;exact panP zb0 (by cases hI;rfl) zhp;rw[h5,qal] at hI;have hg5:=qbg T [59] i4 op4;rw[h5] at hg5;obtain⟨k1,k2,k3,rfl⟩:=hg5;have k4:=k3 g5;refine gab ?_;exact⟨k,_,_,by omega,⟨v',l++ns,i5,H',by omega,rfl,rfl,by rw[zMa];exact hacc',by omega,by rw[zLa];omega,hI⟩,⟨rfl,rfl,trivial⟩,zhR _,hj⟩
 rw[zn (by rw[hc];decide)] at hI;simp only[hc,Bool.false_eq_true,if_false];refine gac ?_;refine zQ30 ?_;exact retP (v:=l) hj (rC (rT (v:=v) rfl hacc.sub) rN) (by cases hI;rfl) rfl zhp
theorem qeP(hG:GW B0 w0)(sb:Nat)(T:List Tok)(hT:TOK T)(i op:Nat)(r:Res Ar)(hi:i<=T.length)(ho:op<=100)(hr:qeC T i op=some r) :
  LCalls (KC B0 w0) 63 [ptr sb 0] [srcH sb T i op] (qdy sb T qn6 r):=by
 have hl:=hT.len;unfold qeC at hr;refine zcI Tryz.func63 rfl (n:=18) rfl rfl rfl ?_;refine gah ?_;refine oS (zsA λb2=>?_) rfl;refine gam ?_;refine oS (sP [_,_] rfl zp1 (qaQ sb T i op 2 hl zo) (λs i1 op1 h1=>?_) (λl er i1 op1 h1 e9 he9=>?_)) rfl;rotate_left;exact zT26;rw[h1,qal] at hr;obtain⟨rfl,rfl,t,ht,_,_⟩:=qdS h1;have:=qjK ht;refine gad ?_;refine oS (zsA λb3=>?_) rfl;refine gaa ?_;refine oS (sP [_,_] rfl zp1 (qcw sb T (i+1) op1 [91] hl zo zo) (λv i2 op2 h2=>?_) (λl er i2 op2 h2 e9 he9=>?_)) rfl;rotate_left;rw[h2,qat] at hr;refine gae ?_;exact panP zb0 (by cases hr;rfl) zhp;rw[h2,qal] at hr;obtain⟨rfl,rfl,ho1,hi1⟩:=qbC h2;refine gam ?_;refine oS (sP [_] rfl pH (qio hG sb T hT (i+1+1) (op1+1) zo) (λm i3 op3 h3=>?_) (λl er i3 op3 h3 e9 he9=>?_)) rfl;rotate_left;exact zT27;rw[h3,qal] at hr;have hg3:=qfS T (i+1+1) (op1+1);rw[h3] at hg3;obtain⟨k1,k2,k3,rfl⟩:=hg3;have k4:=k3 zo
 have hm:m<=4294967295:=by
  unfold qcQ at h3;unfold Res.bind at h3;split at h3
  rename_i s2 i6 op6 h6
  cases h3;obtain⟨_,_,t6,ht6,hk6,rfl⟩:=qdS h6;obtain⟨u,hu,hp⟩:=hT.num t6 (List.mem_of_getElem? ht6) hk6;rw[qsy,hp];simp only;omega;cases h3
 have hw:IntKind.i64.wrap (m:Int)=(m:Int):=qff zo;refine gaa ?_;refine oS (sP [_,_] rfl zp1 (qfh sb T i3 (op1+1) [93] hl zo zo zo) (λu i4 op4 h4=>?_) (λl er i4 op4 h4 e9 he9=>?_)) rfl;rotate_left;rw[h4,qat] at hr;refine gae ?_;exact panP zb0 (by cases hr;rfl) zhp;rw[h4,qal] at hr;obtain⟨rfl,rfl,hi4⟩:=qgH h4;refine gam ?_;refine oS (sP [_,_] rfl pH (qd1 sb T (i3+1) op4 [59] hl zo) (λu2 i5 op5 h5=>?_) (λl er i5 op5 h5 e9 he9=>?_)) rfl;rotate_left;rw[h5,qat] at hr;refine gae ?_;exact panP zb0 (by cases hr;rfl) zhp;rw[h5,qal] at hr;refine gaa ?_;exact retP (v:=⟨s,m⟩) rfl (rC (rA (k:=2) rfl zm0 rfl zsr) rN) (by cases hr;rfl) (by show LV.agg [str s,int .i64 (IntKind.i64.wrap m)]=qn6 ⟨s,m⟩;rw[hw];rfl) (zhP zp1 zhn)
theorem qmN(hG:GW B0 w0)(sb:Nat)(T:List Tok)(hT:TOK T)(f i op:Nat)(r:Res FnD)(hi:i<=T.length)(ho:op<=100)(hr:qgm T f i op=some r) :
  LCalls (KC B0 w0) 64 [ptr sb 0] [srcH sb T i op] (qdy sb T qbm r):=by
 have hl:=hT.len;unfold qgm at hr;refine zcI Tryz.func64 rfl (n:=29) rfl rfl rfl ?_;refine gah ?_;refine oS (zsA λb2=>?_) rfl;refine gam ?_;refine oS (sP [_,_] rfl zp1 (qaQ sb T i op 2 hl zo) (λs i1 op1 h1=>?_) (λl er i1 op1 h1 e9 he9=>?_)) rfl;rotate_left;exact zT26;rw[h1,qal] at hr;obtain⟨rfl,rfl,t,ht,_,_⟩:=qdS h1;have:=qjK ht;refine gad ?_;refine oS (zsA λb3=>?_) rfl;refine gaa ?_;refine oS (sP [_,_] rfl zp1 (qcw sb T (i+1) op1 [40] hl zo zo) (λv i2 op2 h2=>?_) (λl er i2 op2 h2 e9 he9=>?_)) rfl;rotate_left;rw[h2,qat] at hr;refine gae ?_;exact panP zb0 (by cases hr;rfl) zhp;rw[h2,qal] at hr;obtain⟨rfl,rfl,ho1,hi1⟩:=qbC h2;refine gam ?_;refine zQ0 ?_;refine oS (sH [_,_] rfl pH (qcp sb T (i+1+1) (op1+1) [[41]] hl zo (by simp)) ?_) rfl;refine gad ?_;obtain⟨r3,hr3⟩:=qaS hr
 refine qag.mid (A:=List (List UInt8)×Nat) (λ_=>[(0,ptr sb 0),(2,ptr b2 0),(3,ptr b3 0)]) (λa=>(b3,.cells 110 [str s,.list (a.1.map str),qab,qab])::srcH sb T a.2 (op1+1)::[(b2,.cells 110 [str [],qab,qab,qab])])
  (λa=>i+1+1<=a.2/\a.2<=T.length/\r3=.ok a.1 a.2 (op1+1)) ?_ ?_
 refine zoC rfl (λhc=>?_) (λhc=>?_);have hc':isTok T (i+1+1) [[41]]=false:=by simpa using hc
 rw[zn (by rw[hc'];decide)] at hr3;refine gag ?_;refine oS (sP [_] rfl pH (qi8 sb T hT f (i+1+1) (op1+1) r3 zo hr3) (λns i3 op3 h3=>?_) (λl er i3 op3 h3 e9 he9=>?_)) rfl;obtain⟨g1,g2,g3,rfl⟩:=qco T f _ _ _ (hr3.trans (congrArg some h3));have g5:=g3 zo;refine gad ?_;exact⟨(ns,i3),⟨by omega,g5,h3⟩,⟨rfl,rfl,rfl,trivial⟩,rfl,rfl⟩;rw[zn (by rw[hc'];decide),hr3,h3,qat] at hr;refine gal ?_;exact panP (he9.trans rfl) (by cases hr;rfl) zhp;have hc':isTok T (i+1+1) [[41]]=true:=by simpa using hc
 rw[zp hc'] at hr3;cases hr3;refine qag.cellSub zp1 (cs':=[str s,.list [],qab,qab]) ⟨vR _,vN,vR _,vR _,trivial⟩ ?_;refine gab ?_;exact⟨([],i+1+1),⟨zNr _,by omega,rfl⟩,⟨rfl,rfl,rfl,trivial⟩,rfl,rfl⟩;rintro⟨ps,i3⟩ ⟨hi3,hi3T,rfl⟩ j hj;rw[hr3,qal] at hr;refine gag ?_;refine oS (sP [_,_] rfl zp1 (qfh sb T i3 (op1+1) [41] hl zo zo zo) (λu i4 op4 h4=>?_) (λl er i4 op4 h4 e9 he9=>?_)) rfl;rotate_left;rw[h4,qat] at hr;refine gae ?_;exact panP zb0 (by cases hr;rfl) zhp;rw[h4,qal] at hr;obtain⟨rfl,rfl,hi4⟩:=qgH h4;refine gam ?_;refine oS (sP [_,_] rfl pH (qcw sb T (i3+1) op4 [123] hl zo zo) (λu2 i5 op5 h5=>?_) (λl er i5 op5 h5 e9 he9=>?_)) rfl;rotate_left;rw[h5,qat] at hr;refine gae ?_;exact panP zb0 (by cases hr;rfl) zhp;rw[h5,qal] at hr;obtain⟨rfl,rfl,ho5,hi5⟩:=qbC h5;refine gam ?_;obtain⟨r6,hr6⟩:=qaS hr;refine oS (sP [_] rfl pH (qkc sb T hT f (i3+1+1) (op4+1) r6 zo hr6) (λvs i6 op6 h6=>?_) (λl er i6 op6 h6 e9 he9=>?_)) rfl;rotate_left;rw[hr6,h6,qat] at hr;refine gae ?_;exact panP zb0 (by cases hr;rfl) zhp;rw[hr6,h6,qal] at hr;obtain⟨g1,g2,g3,rfl⟩:=qcs T f _ _ _ _ (hr6.trans (congrArg some h6));have g4:=g3 zo;refine gaa ?_;obtain⟨r7,hr7⟩:=qaS hr;refine oS (sP [_] rfl zp1 ((qya hG sb T hT f).2.1 i6 (op4+1) r7 zo zo hr7) (λss i7 op7 h7=>?_) (λl er i7 op7 h7 e9 he9=>?_)) rfl;rotate_left;rw[hr7,h7,qat] at hr;refine gae ?_;exact panP zb0 (by cases hr;rfl) zhp;rw[hr7,h7,qal] at hr;obtain⟨q1,q2,q3,rfl⟩:=(qgD T f).2.1 _ _ _ _ (hr7.trans (congrArg some h7));have q4:=q3 zo;refine gaa ?_;refine oS (sP [_,_] rfl zp1 (qfh sb T i7 (op4+1) [125] hl zo zo zo) (λu3 i8 op8 h8=>?_) (λl er i8 op8 h8 e9 he9=>?_)) rfl;rotate_left;rw[h8,qat] at hr;refine gae ?_;exact panP zb0 (by cases hr;rfl) zhp;rw[h8,qal] at hr;refine gaa ?_;exact retP (v:=⟨s,ps,vs,ss⟩) hj (rC (rA (k:=4) rfl zm0 rfl zsr) rN) (by cases hr;rfl) rfl (zhP zp1 zhn)
end
theorem qyj{a b c:Nat×LObj}:(a::b::c::(X++(Y++Z))).Perm (X++(a::b::c::(Y++Z))):=List.perm_append_comm_assoc [a,b,c] X (Y++Z)
theorem qwr{a b c:Nat×LObj}:(a::b::c::(X++(Y++Z))).Perm (Y++(a::b::c::(X++Z))):=
 (((List.perm_append_comm_assoc X Y Z).cons c).cons b |>.cons a).trans (List.perm_append_comm_assoc [a,b,c] Y (X++Z))
theorem qwy{a b c:Nat×LObj}:(a::b::c::(X++(Y++Z))).Perm (Z++(a::b::c::(X++Y))):=
 ((((show(X++(Y++Z)).Perm (Z++(X++Y)) from by rw[<-zAs];exact zPc).cons c).cons b).cons a).trans (List.perm_append_comm_assoc [a,b,c] Z (X++Y))
theorem qxW{a b c:Nat×LObj}:HSub (a::b::c::(X++(Y++Z))) (b::a::c::((Y++Z)++X)):=
 ⟨[],by rw[zLz];exact(List.Perm.swap _ _ _).trans ((((zPc).cons c).cons b).cons a)⟩
theorem qw1{a b c:Nat×LObj}:HSub (a::b::c::(X++(Y++Z))) (b::a::c::((X++Z)++Y)):=
 ⟨[],by rw[zLz];exact(List.Perm.swap _ _ _).trans ((((show((X++Z)++Y).Perm (X++(Y++Z)) from by rw[zAs];exact zPc.append_left X).cons c).cons b).cons a)⟩
theorem qv5{a b c:Nat×LObj}:HSub (a::b::c::(X++(Y++Z))) (b::a::c::((X++Y)++Z)):=
 ⟨[],by rw[zLz,zAs];exact List.Perm.swap _ _ _⟩
theorem Acc.cell{s:Nat}{v:LV}{es:List LV}{F:Heap}(h:Acc s v es H F):v.cells? = some [v]/\[v].all qc4=true:=by
 cases h <;> exact⟨rfl,rfl⟩
section
variable{B0:Nat}{w0:World}
theorem qb4(hG:GW B0 w0)(sb:Nat)(T:List Tok)(hT:TOK T)(f:Nat)(r:Res Pr)(hr:qcN T f ⟨[],[],[]⟩ 0 0=some r) :
  LCalls (KC B0 w0) 32 [ptr sb 0] [srcH sb T 0 0] (qdy sb T qgA r):=by
 have hl:=hT.len;have hml:(T.map qdt).length=T.length:=zLm _;refine zcI Tryz.func32 rfl (n:=47) rfl rfl rfl ?_;refine gah ?_;refine oS (zsA λb2=>?_) rfl;refine gai ?_;refine oS (zsA λb3=>?_) rfl;refine gab ?_
 refine zoL (λk ls H=>∃ (p:Pr) (v1 v2 v3:LV) (i2:Nat) (H1 H2 H3:Heap),k<=f/\ls=[(0,ptr sb 0),(2,ptr b2 0),(3,ptr b3 0)]/\H=srcH sb T i2 0::(b3,.cells 43 [v1,v2,v3])::(b2,.cells 43 [qab,qab,qab])::(H1++(H2++H3)) /\
   Acc 1 v1 (p.vars.map str) H1 []/\Acc 2 v2 (p.arrays.map qn6) H2 []/\Acc 4 v3 (p.funcs.map qbm) H3 []/\i2<=T.length/\p.vars.length<=i2/\p.arrays.length<=i2/\p.funcs.length<=i2/\qcN T k p i2 0=some r)
  ⟨f,_,_,⟨⟨[],[],[]⟩,qab,qab,qab,0,[],[],[],zNr _,rfl,rfl,Acc.nil,Acc.nil,Acc.nil,zero_le _,zero_le _,zero_le _,zero_le _,hr⟩,⟨rfl,rfl,rfl,trivial⟩,zhP zp2 zhr⟩ ?_
 rintro k ls H ⟨p,v1,v2,v3,i2,H1,H2,H3,hkf,rfl,rfl,ha1,ha2,ha3,hi2,hl1,hl2,hl3,hI⟩ j hj
 obtain⟨k,rfl⟩:∃ k',k=k'+1:=by
  cases k with
  |zero=>rw[qcN] at hI;cases hI
  |succ k=>exact⟨k,rfl⟩
 rw[qcN] at hI;refine gab ?_;refine zcC [(0,ptr sb 0),(2,ptr b2 0),(3,ptr b3 0),(13,bool (decide (i2<T.length)))] ?_ (λj2 hj2=>?_);refine zQ29 ?_;exact⟨⟨rfl,rfl,rfl,qau (by rw[decide_eq_decide];simp),trivial⟩,rfl,rfl⟩
 skip
 refine zoC rfl (λhc=>?_) (λhc=>?_);have hlt:i2<T.length:=zt hc;rw[zn zo] at hI;refine gac ?_;refine zQ0 ?_;refine oS (sH [_,_] rfl pH (qcp sb T i2 0 [qkt] hl zo (by simp)) ?_) rfl;refine gaf ?_;refine zoC rfl (λhv=>?_) (λhv=>?_);rw[zp hv] at hI;obtain⟨r2,hr2⟩:=qaS hI;refine cD (m:=7) rfl []<|aT 0 rfl rfl (pF rfl)<|zQ35 ?_;refine aL ?_ zhn;refine zl2 (i:=1) (j:=3) zk ?_ ?_;refine lH rfl rfl (pL (c:=v1) rfl zm1 rfl)<|lO 3 (lW rfl (.inl rfl) rfl (sP [_] rfl pH (qkc sb T hT k i2 0 r2 hi2 hr2) (λl i3 op3 h3=>?_) (λl er i3 op3 h3 e' he'=>?_)));obtain⟨g1,g2,g3,rfl⟩:=qcs T k _ _ _ _ (hr2.trans (congrArg some h3));have g4:=g3 hi2;have g5:=g2 hv;have g6:=qlM T _ _ _ _ _ _ _ (hr2.trans (congrArg some h3));rw[hr2,h3,qal] at hI;rw[zLn] at g6;refine lO 4 (lW rfl (.inl rfl) rfl (sG qyj rfl ha1 rfl (qey l) (qgB l) (by simp;omega) λv' H' ha'=>?_));refine zQ39 ?_;exact⟨k,_,_,by omega,⟨{ p with vars:=p.vars++l },v',v2,v3,i3,H',H2,H3,by omega,rfl,rfl,by rw[zMa];exact ha',ha2,ha3,g4,by rw[zLa];omega,zNt hl2 zo,zNt hl3 zo,hI⟩,⟨rfl,rfl,rfl,trivial⟩,qxW,hj2.trans hj⟩;exact zT4;refine lW rfl (.inl rfl) rfl (sP [_] rfl pH (qkc sb T hT k i2 0 r2 hi2 hr2) (λl i3 op3 h3=>?_) (λl er i3 op3 h3 e' he'=>?_));refine lO 1 (lH rfl rfl (pL (c:=v1) rfl zm1 rfl) ?_);obtain⟨g1,g2,g3,rfl⟩:=qcs T k _ _ _ _ (hr2.trans (congrArg some h3));have g4:=g3 hi2;have g5:=g2 hv;have g6:=qlM T _ _ _ _ _ _ _ (hr2.trans (congrArg some h3));rw[hr2,h3,qal] at hI;rw[zLn] at g6;refine lO 4 (lW rfl (.inl rfl) rfl (sG qyj rfl ha1 rfl (qey l) (qgB l) (by simp;omega) λv' H' ha'=>?_));refine zQ39 ?_;exact⟨k,_,_,by omega,⟨{ p with vars:=p.vars++l },v',v2,v3,i3,H',H2,H3,by omega,rfl,rfl,by rw[zMa];exact ha',ha2,ha3,g4,by rw[zLa];omega,zNt hl2 zo,zNt hl3 zo,hI⟩,⟨rfl,rfl,rfl,trivial⟩,qxW,hj2.trans hj⟩;exact zT4;rw[zn (by rw[hv];decide)] at hI;refine gag ?_;refine oS (sH [_,_] rfl pH (qcD sb T i2 0 qi1 hl zo) ?_) rfl;refine gaf ?_;refine zoC rfl (λhw=>?_) (λhw=>?_);have hlt2:=qaH hw;rw[zp hw] at hI;simp only[hw,if_true];obtain⟨r2,hr2⟩:=qaS hI;refine cD (m:=8) rfl []<|aT 0 rfl rfl (pF rfl)<|zQ35 ?_;refine aL ?_ zhn;refine zl2 (i:=1) (j:=3) zk ?_ ?_;refine lH rfl rfl (pL (c:=v2) rfl zm1 rfl)<|lO 3 (lW rfl (.inl rfl) rfl (sP [_] rfl pH (qeP hG sb T hT (i2+1) 0 r2 zo zo hr2) (λl i3 op3 h3=>?_) (λl er i3 op3 h3 e' he'=>?_)));obtain⟨g1,g2,g3,rfl⟩:=qd3 T _ _ _ (hr2.trans (congrArg some h3));have g4:=g3 zo;rw[hr2,h3,qal] at hI;refine zQ33 ?_;refine lO 5 (lW rfl (.inl rfl) rfl (sG qwr rfl ha2 rfl (by simp;rfl) rfl (by simp;omega) λv' H' ha'=>?_));refine zQ16 ?_;exact⟨k,_,_,by omega,⟨{ p with arrays:=p.arrays++[l] },v1,v',v3,i3,H1,H',H3,by omega,rfl,rfl,ha1,by rw[zMa];exact ha',ha3,g4,zNt hl1 zo,by rw[zLa,length_singleton];omega,zNt hl3 zo,hI⟩,⟨rfl,rfl,rfl,trivial⟩,qw1,hj2.trans hj⟩;exact zT4;refine lW rfl (.inl rfl) rfl (sP [_] rfl pH (qeP hG sb T hT (i2+1) 0 r2 zo zo hr2) (λl i3 op3 h3=>?_) (λl er i3 op3 h3 e' he'=>?_));refine zl2 (i:=1) (j:=4) zk ?_ ?_;refine lH rfl rfl (pL (c:=v2) rfl zm1 rfl) ?_;obtain⟨g1,g2,g3,rfl⟩:=qd3 T _ _ _ (hr2.trans (congrArg some h3));have g4:=g3 zo;rw[hr2,h3,qal] at hI;refine zQ33 ?_;refine lO 5 (lW rfl (.inl rfl) rfl (sG qwr rfl ha2 rfl (by simp;rfl) rfl (by simp;omega) λv' H' ha'=>?_));refine zQ16 ?_;exact⟨k,_,_,by omega,⟨{ p with arrays:=p.arrays++[l] },v1,v',v3,i3,H1,H',H3,by omega,rfl,rfl,ha1,by rw[zMa];exact ha',ha3,g4,zNt hl1 zo,by rw[zLa,length_singleton];omega,zNt hl3 zo,hI⟩,⟨rfl,rfl,rfl,trivial⟩,qw1,hj2.trans hj⟩;obtain⟨g1,g2,g3,rfl⟩:=qd3 T _ _ _ (hr2.trans (congrArg some h3));have g4:=g3 zo;rw[hr2,h3,qal] at hI;refine zQ27 ?_;refine lO 1 (lH rfl rfl (pL (c:=v2) rfl zm1 rfl) ?_);refine lO 5 (lW rfl (.inl rfl) rfl (sG qwr rfl ha2 rfl (by simp;rfl) rfl (by simp;omega) λv' H' ha'=>?_))
 refine zQ16 ?_;exact⟨k,_,_,by omega,⟨{ p with arrays:=p.arrays++[l] },v1,v',v3,i3,H1,H',H3,by omega,rfl,rfl,ha1,by rw[zMa];exact ha',ha3,g4,zNt hl1 zo,by rw[zLa,length_singleton];omega,zNt hl3 zo,hI⟩,⟨rfl,rfl,rfl,trivial⟩,qw1,hj2.trans hj⟩;exact zT4;rw[zn (by rw[hw];decide)] at hI;simp only[hw,Bool.false_eq_true,if_false];refine gag ?_;refine oS (sH [_,_] rfl pH (qcD sb T i2 0 qq0 hl zo) ?_) rfl;refine gaf ?_;refine zoC rfl (λhu=>?_) (λhu=>?_);have hlt2:=qaH hu;rw[zp hu] at hI;simp only[hu,if_true];obtain⟨r2,hr2⟩:=qaS hI;refine cD (m:=8) rfl []<|aT 0 rfl rfl (pF rfl)<|zQ35 ?_;refine aL ?_ zhn;refine zl2 (i:=1) (j:=3) zk ?_ ?_;refine lH rfl rfl (pL (c:=v3) rfl zm1 rfl)<|lO 3 (lW rfl (.inl rfl) rfl (sP [_] rfl pH (qmN hG sb T hT k (i2+1) 0 r2 zo zo hr2) (λl i3 op3 h3=>?_) (λl er i3 op3 h3 e' he'=>?_)));obtain⟨g1,g2,g3,rfl⟩:=qeD T k _ _ _ (hr2.trans (congrArg some h3));have g4:=g3 zo;rw[hr2,h3,qal] at hI;refine zQ33 ?_;refine lO 5 (lW rfl (.inl rfl) rfl (sG qwy rfl ha3 rfl (by simp;rfl) rfl (by simp;omega) λv' H' ha'=>?_));refine zQ17 ?_;exact⟨k,_,_,by omega,⟨{ p with funcs:=p.funcs++[l] },v1,v2,v',i3,H1,H2,H',by omega,rfl,rfl,ha1,ha2,by rw[zMa];exact ha',g4,zNt hl1 zo,zNt hl2 zo,by rw[zLa,length_singleton];omega,hI⟩,⟨rfl,rfl,rfl,trivial⟩,qv5,hj2.trans hj⟩;exact zT4;refine lW rfl (.inl rfl) rfl (sP [_] rfl pH (qmN hG sb T hT k (i2+1) 0 r2 zo zo hr2) (λl i3 op3 h3=>?_) (λl er i3 op3 h3 e' he'=>?_));refine zl2 (i:=1) (j:=4) zk ?_ ?_;refine lH rfl rfl (pL (c:=v3) rfl zm1 rfl) ?_;obtain⟨g1,g2,g3,rfl⟩:=qeD T k _ _ _ (hr2.trans (congrArg some h3));have g4:=g3 zo;rw[hr2,h3,qal] at hI;refine zQ33 ?_;refine lO 5 (lW rfl (.inl rfl) rfl (sG qwy rfl ha3 rfl (by simp;rfl) rfl (by simp;omega) λv' H' ha'=>?_));refine zQ17 ?_;exact⟨k,_,_,by omega,⟨{ p with funcs:=p.funcs++[l] },v1,v2,v',i3,H1,H2,H',by omega,rfl,rfl,ha1,ha2,by rw[zMa];exact ha',g4,zNt hl1 zo,zNt hl2 zo,by rw[zLa,length_singleton];omega,hI⟩,⟨rfl,rfl,rfl,trivial⟩,qv5,hj2.trans hj⟩;obtain⟨g1,g2,g3,rfl⟩:=qeD T k _ _ _ (hr2.trans (congrArg some h3));have g4:=g3 zo;rw[hr2,h3,qal] at hI;refine zQ27 ?_;refine lO 1 (lH rfl rfl (pL (c:=v3) rfl zm1 rfl) ?_);refine lO 5 (lW rfl (.inl rfl) rfl (sG qwy rfl ha3 rfl (by simp;rfl) rfl (by simp;omega) λv' H' ha'=>?_));refine zQ17 ?_;exact⟨k,_,_,by omega,⟨{ p with funcs:=p.funcs++[l] },v1,v2,v',i3,H1,H2,H',by omega,rfl,rfl,ha1,ha2,by rw[zMa];exact ha',g4,zNt hl1 zo,zNt hl2 zo,by rw[zLa,length_singleton];omega,hI⟩,⟨rfl,rfl,rfl,trivial⟩,qv5,hj2.trans hj⟩;exact zT4;rw[zn (by rw[hu];decide)] at hI;simp only[hu,Bool.false_eq_true,if_false];refine gag ?_;refine oS (sP [_,_] rfl pH (qfP qgA sb T i2 0 3 hl zo) (λ_ _ _ h=>by cases h) (λl er i' op' h e' he'=>?_)) rfl;cases h;refine gae ?_;exact panP (he'.trans (hj2.trans hj)) (by cases hI;rfl) zhp;have hge:T.length<=i2:=by have:=zf hc;omega
 rw[zp hge] at hI;refine qag.cellSub zp1 (cs':=[.list (p.vars.map str),.list (p.arrays.map qn6),.list (p.funcs.map qbm)]) ⟨ha1.sub,ha2.sub,ha3.sub,trivial⟩ ?_;refine gaa ?_;exact retP (v:=p) (hj2.trans hj) (rC (rA (k:=3) rfl zm0 rfl zsr) rN) (by cases hI;rfl) rfl (zhP zp2 zhn)
end
theorem qwd{s:List UInt8}{T:List Tok}(h:qc5 s=.ok T):TOK T:=by
 unfold qc5 at h;split at h;cases h;obtain⟨h1,h2⟩:=qn5 _ _ _ _ h
 exact⟨by omega,λt ht=>by have:=(h2 t ht).1;omega,λt ht hk=>by
  obtain⟨u,h3,h4,_⟩:=(h2 t ht).2 hk
  exact⟨u,h3,h4⟩⟩
instance:TIface zTp 20:=.of zk
def noPr:Pr:=⟨[],[],[]⟩
def qa6(s:List UInt8):Pr×Int×Int:=match qc5 s with
 |.error (l,e)=>(noPr,l,e)
 |.ok T=>match qcN T (10 * T.length+20) noPr 0 0 with
  |some (.ok p _ _)=>(p,0,0)
  |some (.err l e)=>(noPr,l,e)
  |none=>(noPr,0,0)
def qlQ(r:Pr×Int×Int):LV:=.tuple [qgA r.1,int .i64 r.2.1,int .i64 r.2.2]
theorem qb8.ret1{C:Ctx}{n:Nat}{e:Env}{H' H1 H2 F:Heap}{R:LRes->Heap->Prop}{vs:List LV}{f:FuncId}{caps:Array Value} [hen:TEnter C.P f](hd:e.ds=[{ target:=.fn (.func f) caps,args:=#[] }])(hp:H.Perm (H1++F))
  (hc:qbq C f (caps.toList.map .atom) .returning H1 (λu H'=>u=.returning/\H'=H2)) (h:qbX C n e (H2++F) rs vs) (hH:HSub H' (H2++F)) (hR:R (.ret (qbJ vs)) H'):qb8 C n rs R .ret e H:=by
 unfold qb8;simp only[hd];refine⟨by simp,f,caps,H1,F,rfl,hen,hp,qbq.mono hc ?_⟩;rintro u H'' ⟨rfl,rfl⟩;exact⟨vs,H',h,hH,hR⟩
theorem qb8.panic1{C:Ctx}{n:Nat}{e:Env}{H' H1 H2 F:Heap}{R:LRes->Heap->Prop}{vs:List LV}{f:FuncId}{caps:Array Value}{ch:List PanicEntry} [hen:TEnter C.P f](hd:e.ds=[{ target:=.fn (.func f) caps,args:=#[] }])(hp:H.Perm (H1++F))
  (hc:qbq C f (caps.toList.map .atom) (.panicking ch) H1 (λu H'=>settle u=.returning/\H'=H2)) (h:qbX C n e (H2++F) rs vs) (hH:HSub H' (H2++F)) (hR:R (.ret (qbJ vs)) H'):qb8 C n rs R (.panic ch) e H:=by
 unfold qb8;simp only[hd];refine⟨by simp,f,caps,H1,F,rfl,hen,hp,qbq.mono hc ?_⟩;rintro u H'' ⟨hu,rfl⟩;rw[hu];exact⟨vs,H',h,hH,hR⟩
def resP:Res Pr->Pr×Int×Int
 |.ok p _ _=>(p,0,0)
 |.err l e=>(noPr,l,e)
theorem ql4:∀ (f:Nat) (s:List UInt8) (line l e:Int),lexP f s line=.error (l,e)->¬ e=0
 |0,s,line,l,e,h=>by
  rw[lexP] at h
  cases h
 |f+1,s,line,l,e,h=>by
  rw[lexP] at h;split at h;cases h;split at h;split at h
  rename_i he
  cases h;exact he
  cases hx:lexP f (s.drop (qaw s).2.1) (line+((s.take (qaw s).2.1).count 10:Nat)) with
  |ok T=>rw[hx] at h;cases h
  |error p=>
   rw[hx] at h;cases h;exact ql4 f _ _ _ _ hx
  exact ql4 f _ _ _ _ h
theorem qj8{s:List UInt8}{l e:Int}(h:qc5 s=.error (l,e)):¬ e=0:=by
 unfold qc5 at h;split at h;cases h;decide;exact ql4 _ _ _ _ _ h
theorem memA{A:Type}{p:A}{H:List A}(h:p∈H:=by first|exact List.Mem.head _|exact List.Mem.tail _ zm0|exact List.Mem.tail _ zm1|exact List.Mem.tail _ zm2|exact List.Mem.tail _ zm3|exact List.Mem.tail _ zm4|exact List.Mem.tail _ zm5):p∈H:=h
attribute [local irreducible] qcf qaU qea qbq
section
variable{B0:Nat}{w0:World}
theorem qlB(b2 b3 b4:Nat)(cs:List LV)(c d:LV):qbq (KC B0 w0) 31 [ptr b2 0,ptr b3 0,ptr b4 0] .returning [(b2,.cells 43 cs),(b3,.cells 3 [c]),(b4,.cells 23 [d])]
  (λu H=>u=.returning/\H=[(b2,.cells 43 cs),(b3,.cells 3 [c]),(b4,.cells 23 [d])]):=by
 refine qbq.intro Tryz.func31 rfl (n:=22) rfl rfl rfl ?_;refine zQ23 ?_;refine gaa ?_;refine zoC rfl (λhc=>?_) (λhc=>?_);cases hc;refine gab ?_;exact⟨rfl,_,zhR _,rfl,rfl⟩
theorem qlP(b2 b3 b4:Nat)(c1 c2 c3 c d:LV)(l er:Int):qbq (KC B0 w0) 31 [ptr b2 0,ptr b3 0,ptr b4 0] (.panicking (pan l er)) [(b2,.cells 43 [c1,c2,c3]),(b3,.cells 3 [c]),(b4,.cells 23 [d])]
  (λu H=>settle u=.returning/\H=[(b2,.cells 43 [qab,qab,qab]),(b3,.cells 3 [int .i64 l]),(b4,.cells 23 [int .i64 er])]):=by
 refine qbq.intro Tryz.func31 rfl (n:=22) rfl rfl rfl ?_;refine zQ23 ?_;refine gaa ?_;refine zoC rfl (λhc=>?_) (λhc=>?_);refine gag ?_;refine oP (Pure.assertOk (vs:=[.int .i64 l,.int .i64 er]) rfl) rfl<|gad ?_;refine oS (zsA λb5=>?_) rfl;refine gaa ?_;refine zoC rfl (λhd=>?_) (λhd=>?_);cases hd;refine gab ?_;refine cD (m:=8) rfl [(b5,.cells 78 [int .i64 l,int .i64 er])]<|aT 0 rfl rfl (pB _ (cs:=[_,_,_]) rfl)<|aT 1 rfl rfl (pF rfl)<|aT 2 rfl rfl (pL (c:=.atom _) rfl zm0 rfl)<|aT 3 rfl rfl (pF rfl)<|aT 4 rfl rfl (pL (c:=.atom _) rfl zm0 rfl)<|aL ?_ zhp;refine lO 5 (lS (H1:=[(b2,.cells 43 [c1,c2,c3])]) (F:=[(b5,.cells 78 [int .i64 l,int .i64 er]),(b3,.cells 3 [c]),(b4,.cells 23 [d])]) rfl (.inl rfl) rfl zp1 zhp (sS (cs':=[_,_,_]) rfl pH rfl rfl rfl rfl rfl ?_));refine lO 6 (lS (H1:=[(b3,.cells 3 [c])]) (F:=[(b2,.cells 43 [qab,qab,qab]),(b5,.cells 78 [int .i64 l,int .i64 er]),(b4,.cells 23 [d])]) rfl (.inl rfl) rfl zp2 (zhP zp1 zhn) (sS (cs':=[_]) rfl pH rfl rfl rfl rfl rfl ?_));refine lO 7 (lS (H1:=[(b4,.cells 23 [d])]) (F:=[(b3,.cells 3 [int .i64 l]),(b2,.cells 43 [qab,qab,qab]),(b5,.cells 78 [int .i64 l,int .i64 er])]) rfl (.inl rfl) rfl zp3 (zhP zp2 zhn) (sS (cs':=[_]) rfl pH rfl rfl rfl rfl rfl ?_));refine lD zk ?_;exact⟨rfl,_,zhP zp2 (zhP zp1 zhp),rfl,rfl⟩;cases hc
theorem qmq(hG:GW B0 w0)(s:List UInt8):LCalls (KC B0 w0) 18 [str s] [] (Ret (qlQ (qa6 s))):=by
 refine LCalls.introD Tryz.func18 rfl (n:=24) rfl rfl rfl ?_;refine zQ32 ?_;refine gah ?_;refine oS (zsA λb2=>oS (zsA λb3=>?_) rfl) rfl;refine oS (zsA λb4=>?_) rfl;refine gaf ?_;refine zQ32 ?_;refine gag ?_;refine oS (sF [_] rfl (qpT hG s) ?_) rfl
 cases hL:qc5 s with
 |error le=>
  obtain⟨l,er⟩:=le;have he0:¬ er=0:=qj8 hL;simp only[qpu];refine gad ?_;refine zQ32 ?_;refine gaa ?_;refine zoC rfl (λhc=>?_) (λhc=>?_);refine gab ?_;refine cD (m:=6) rfl []<|aT 0 rfl rfl (pB _ (cs:=[_,_,_]) rfl)<|aL ?_ zhn;refine qaI.three (i:=1) (j:=2) (k:=3) zk ?_ ?_ ?_;refine zQ49 ?_;refine zl2 (i:=2) (j:=3) zk ?_ ?_;refine lH rfl rfl (pL (c:=.atom _) rfl zm0 rfl) ?_;exact zT7;refine zQ24 ?_;refine zl2 (i:=2) (j:=4) zk ?_ ?_;exact zT11;exact zT13;refine lH rfl rfl (pL (c:=.atom _) rfl zm0 rfl)<|zl2 (i:=1) (j:=3) zk ?_ ?_;refine zQ49 ?_;exact zT7;refine zQ24 ?_;exact zT5;refine zQ24 ?_;refine zl2 (i:=1) (j:=2) zk ?_ ?_;refine lH rfl rfl (pL (c:=.atom _) rfl zm2 rfl)<|zl2 (i:=2) (j:=4) zk ?_ ?_;exact zT11;exact zT13;refine zQ49 ?_;exact zT5;have:er=0:=by simpa using hc
  exact absurd this he0
 |ok T=>
  have hT:=qwd hL;simp only[qpu];refine gad ?_;refine zQ32 ?_;refine gaa ?_;refine zoC rfl (λhc=>?_) (λhc=>?_);cases hc;refine gab ?_;refine zQ25 ?_;refine qcf.defer rfl rfl ?_;refine zQ41 ?_;refine zQ32 ?_;refine gaa ?_;refine oS (zsB rfl λsb=>?_) rfl;refine gaf ?_;refine zQ25 ?_;obtain⟨r,hr⟩:=qdU T (10 * T.length+20) noPr 0 0 (zero_le _) zo
  have hp:qa6 s=resP r:=by
   rw[qa6,hL];simp only[hr];cases r <;> rfl
  rw[hp];refine qcf.step (sP (T:=T) (i:=0) (op:=0) [_] rfl pH (qb4 hG sb T hT _ r hr) (λv i1 op1 h1=>?_) (λl er i1 op1 h1=>?_)) rfl;subst h1;refine qcf.step (sS (cs':=[_,_,_]) rfl zp3 rfl rfl rfl rfl rfl ?_) rfl;refine qcf.step (sS (cs':=[_]) rfl zp3 rfl rfl rfl rfl rfl ?_) rfl;refine qcf.step (sS (cs':=[_]) rfl zp3 rfl rfl rfl rfl rfl ?_) rfl;refine zQ41 ?_;refine qaU.ret ?_
  exact qb8.ret1 (vs:=[qgA v,int .i64 0,int .i64 0]) (H2:=[(b2,.cells 43 [.list (v.vars.map str),.list (v.arrays.map qn6),.list (v.funcs.map qbm)]),(b3,.cells 3 [int .i64 0]),(b4,.cells 23 [int .i64 0])]) rfl (zp2.trans (List.Perm.cons _ (zp1.trans (List.Perm.cons _ zpr)))) (qlB b2 b3 b4 _ _ _)
   (rC (rA (k:=3) rfl zm0 rfl zsr) (rC (qdb.cellOne rfl zm1 rfl zsr) (rC (qdb.cellOne rfl zm2 rfl zsr) rN))) zhn ⟨rfl,rfl⟩
  subst h1;refine qaz.panic ?_
  exact qb8.panic1 (vs:=[qgA noPr,int .i64 l,int .i64 er]) (H2:=[(b2,.cells 43 [qab,qab,qab]),(b3,.cells 3 [int .i64 l]),(b4,.cells 23 [int .i64 er])]) rfl (zp3.trans (List.Perm.cons _ (zp2.trans (List.Perm.cons _ (zp1.trans zpr))))) (qlP b2 b3 b4 _ _ _ _ _ l er)
   (rC (rA (k:=3) rfl zm0 rfl (vA (bs:=[.list [],.list [],.list []]) ⟨vN,vN,vN,trivial⟩)) (rC (qdb.cellOne rfl zm1 rfl zsr) (rC (qdb.cellOne rfl zm2 rfl zsr) rN))) zhn ⟨rfl,rfl⟩
end
end Go.Proofs.YtkihibnffkpnkaaGreatDoor
namespace Go.Proofs.YtkihibnffkpnkaaGreatDoor.Chk
open Go.GL Go.RowKit Go.Stele
variable{H':Heap}{rs:List ResultVar}
def vio(nm:List UInt8)(e:Int):List PanicEntry:=[{ v:=.iface 120 (.agg #[.string ⟨nm.toArray⟩,.int .i64 e]),recovered:=false }]
def chkN:Nat->List UInt8->Bool
 |_,[]=>true
 |i,c::r=>(if i=0 then qaV c else qaW c) && chkN (i+1) r
theorem qk2:∀ (r:List UInt8) (i:Nat),i≠0->chkN i r=r.all qaW
 |[],_,_=>rfl
 |c::r,i,h=>by rw[chkN,zn h,qk2 r (i+1) zo];rfl
theorem qwK{s:List UInt8}(h0:s≠[])(h1:s.length<=24)(h2:qmX.contains s=false):isNm s=chkN 0 s:=by
 unfold isNm;rw[decide_eq_true h1,h2]
 cases s with
 |nil=>exact absurd rfl h0
 |cons c r=>
  rw[chkN,zp rfl,qk2 r 1 zDd];rfl
theorem qsf(s:List UInt8):qmX.contains s=(qdn.contains s || decide (s=[105,110]) || decide (s=[111,117,116])):=by
 have h:qmX.contains s=(qdn.contains s || (decide (s=[105,110]) || decide (s=[111,117,116]))):=by
  unfold qmX;rw[Bool.eq_iff_iff]
  simp
 rw[h,Bool.or_assoc]
instance:TMap zTp 130 3 (.int .i64 0) (int .i64 0):=⟨⟨9,by kernel_rfl,by kernel_rfl⟩,λw=>(Go.zero_of_info (P:=zTp) (n:=1) zk).1 w,λ_ _=>qaj⟩
instance:TMap zTp 123 4 (.bool false) (bool false):=⟨⟨9,by kernel_rfl,by kernel_rfl⟩,λw=>(Go.zero_of_info (P:=zTp) (n:=1) zk).1 w,λ_ _=>qaj⟩
instance:TMap zTp 124 160 (.agg [.int .i64 0,.int .i64 0,.int .i64 0].toArray) (.agg ([.int .i64 0,.int .i64 0,.int .i64 0].map .atom)):=⟨⟨9,by kernel_rfl,by kernel_rfl⟩,λw=>(Go.zero_of_info (P:=zTp) (n:=3) zk).1 w,λw L=>quZ w L _⟩
def opKV:KV:=[([110,117,109],int .i64 0),([118,97,114],int .i64 0),([101,108,101,109],int .i64 1),([110,101,103],int .i64 1),([110,111,116],int .i64 1),([99,97,108,108],int .i64 (-1)),([124,124],int .i64 2),([38,38],int .i64 2),([61,61],int .i64 2),([33,61],int .i64 2),([60],int .i64 2),([62],int .i64 2),([60,61],int .i64 2),([62,61],int .i64 2),([94],int .i64 2),([43],int .i64 2),([45],int .i64 2),([42],int .i64 2),([47],int .i64 2),([37],int .i64 2)]
theorem quX(op:List UInt8):GL.kvGet opKV op=if qbw op = -2 then none else some (int .i64 (qbw op)):=by
 have key:∀ x∈[[110,117,109],[118,97,114],[101,108,101,109],[110,101,103],[110,111,116],[99,97,108,108],[124,124],[38,38],[61,61],[33,61],[60],[62],[60,61],[62,61],[94],[43],[45],[42],[47],[37]],GL.kvGet opKV x=if qbw x = -2 then none else some (int .i64 (qbw x)):=by
  intro x hx;simp only[zMi,not_mem_nil,or_false] at hx;rcases hx with rfl|rfl|rfl|rfl|rfl|rfl|rfl|rfl|rfl|rfl|rfl|rfl|rfl|rfl|rfl|rfl|rfl|rfl|rfl|rfl <;> rfl
 by_cases h:op∈[[110,117,109],[118,97,114],[101,108,101,109],[110,101,103],[110,111,116],[99,97,108,108],[124,124],[38,38],[61,61],[33,61],[60],[62],[60,61],[62,61],[94],[43],[45],[42],[47],[37]]
 exact key op h;simp only[zMi,not_mem_nil,or_false,not_or] at h
 have h2:qbw op = -2:=by
  obtain⟨a1,a2,a3,a4,a5,a6,a7,a8,a9,a10,a11,a12,a13,a14,a15,a16,a17,a18,a19,a20⟩:=h;unfold qbw;rw[zn (λh=>h.elim a1 a2),zn (λh=>h.elim a3 (λh=>h.elim a4 a5)),zn (show ¬ op=qbB from a6),zn];unfold qeQ;simp only[zMi,not_mem_nil,or_false,not_or];exact⟨a7,a8,a9,a10,a11,a12,a13,a14,a15,a16,a17,a18,a19,a20⟩
 rw[zp h2];obtain⟨a1,a2,a3,a4,a5,a6,a7,a8,a9,a10,a11,a12,a13,a14,a15,a16,a17,a18,a19,a20⟩:=h;unfold opKV;simp only[GL.kvGet];rw[zn (Ne.symm a1),zn (Ne.symm a2),zn (Ne.symm a3),zn (Ne.symm a4),zn (Ne.symm a5),zn (Ne.symm a6),zn (Ne.symm a7),zn (Ne.symm a8),zn (Ne.symm a9),zn (Ne.symm a10),zn (Ne.symm a11),zn (Ne.symm a12),zn (Ne.symm a13),zn (Ne.symm a14),zn (Ne.symm a15),zn (Ne.symm a16),zn (Ne.symm a17),zn (Ne.symm a18),zn (Ne.symm a19),zn (Ne.symm a20)]
attribute [local irreducible] LOps qag qae LCalls Go.GL.Pure qaz qam qad LQ LAny qaI qan LS
section
variable{B0:Nat}{w0:World}{H:Heap}
theorem qmZ(b:Bool)(nm:List UInt8)(e:Int):LCalls (KC B0 w0) 133 [bool b,str nm,int .i64 e] H (λr H'=>H'=H/\r=if b=true then .ret (.tuple []) else .panic (vio nm e)):=by
 refine zcI Tryz.func133 rfl (n:=12) rfl rfl rfl ?_;refine gaa ?_;refine zoC rfl (λhc=>?_) (λhc=>?_);have hb:b=false:=by simpa using hc
 subst hb;refine gaa ?_;refine oS (qae.panic rfl λe' he'=>?_) rfl;exact qad.panic (he'.trans rfl) zhr ⟨rfl,rfl⟩;have hb:b=true:=by simpa using hc
 subst hb;refine gab ?_;exact rO rfl rN zhr ⟨rfl,rfl⟩
theorem qlz(op:List UInt8):LCalls (KC B0 w0) 258 [str op] [] (Ret (int .i64 (qbw op))):=by
 refine zcI Tryz.func258 rfl (n:=15) rfl rfl rfl ?_;refine gar ?_;refine oS (S.kvNew λom=>oS (S.kvInsE (m:=opKV.take 0) (k:=[110,117,109]) (lv:=int .i64 (0)) (opKV.take 1) rfl rfl rfl pH zk λc0=>?_) rfl) rfl;refine oS (S.kvInsE (m:=opKV.take 1) (k:=[118,97,114]) (lv:=int .i64 (0)) (opKV.take 2) rfl rfl rfl pH zk λc1=>oS (S.kvInsE (m:=opKV.take 2) (k:=[101,108,101,109]) (lv:=int .i64 (1)) (opKV.take 3) rfl rfl rfl pH zk λc2=>?_) rfl) rfl;refine oS (S.kvInsE (m:=opKV.take 3) (k:=[110,101,103]) (lv:=int .i64 (1)) (opKV.take 4) rfl rfl rfl pH zk λc3=>oS (S.kvInsE (m:=opKV.take 4) (k:=[110,111,116]) (lv:=int .i64 (1)) (opKV.take 5) rfl rfl rfl pH zk λc4=>?_) rfl) rfl;refine oS (S.kvInsE (m:=opKV.take 5) (k:=[99,97,108,108]) (lv:=int .i64 (-1)) (opKV.take 6) rfl rfl rfl pH zk λc5=>oS (S.kvInsE (m:=opKV.take 6) (k:=[124,124]) (lv:=int .i64 (2)) (opKV.take 7) rfl rfl rfl pH zk λc6=>?_) rfl) rfl;refine oS (S.kvInsE (m:=opKV.take 7) (k:=[38,38]) (lv:=int .i64 (2)) (opKV.take 8) rfl rfl rfl pH zk λc7=>oS (S.kvInsE (m:=opKV.take 8) (k:=[61,61]) (lv:=int .i64 (2)) (opKV.take 9) rfl rfl rfl pH zk λc8=>?_) rfl) rfl;refine oS (S.kvInsE (m:=opKV.take 9) (k:=[33,61]) (lv:=int .i64 (2)) (opKV.take 10) rfl rfl rfl pH zk λc9=>oS (S.kvInsE (m:=opKV.take 10) (k:=[60]) (lv:=int .i64 (2)) (opKV.take 11) rfl rfl rfl pH zk λc10=>?_) rfl) rfl;refine oS (S.kvInsE (m:=opKV.take 11) (k:=[62]) (lv:=int .i64 (2)) (opKV.take 12) rfl rfl rfl pH zk λc11=>oS (S.kvInsE (m:=opKV.take 12) (k:=[60,61]) (lv:=int .i64 (2)) (opKV.take 13) rfl rfl rfl pH zk λc12=>?_) rfl) rfl;refine oS (S.kvInsE (m:=opKV.take 13) (k:=[62,61]) (lv:=int .i64 (2)) (opKV.take 14) rfl rfl rfl pH zk λc13=>oS (S.kvInsE (m:=opKV.take 14) (k:=[94]) (lv:=int .i64 (2)) (opKV.take 15) rfl rfl rfl pH zk λc14=>?_) rfl) rfl;refine oS (S.kvInsE (m:=opKV.take 15) (k:=[43]) (lv:=int .i64 (2)) (opKV.take 16) rfl rfl rfl pH zk λc15=>oS (S.kvInsE (m:=opKV.take 16) (k:=[45]) (lv:=int .i64 (2)) (opKV.take 17) rfl rfl rfl pH zk λc16=>?_) rfl) rfl;refine oS (S.kvInsE (m:=opKV.take 17) (k:=[42]) (lv:=int .i64 (2)) (opKV.take 18) rfl rfl rfl pH zk λc17=>oS (S.kvInsE (m:=opKV.take 18) (k:=[47]) (lv:=int .i64 (2)) (opKV.take 19) rfl rfl rfl pH zk λc18=>?_) rfl) rfl;refine oS (S.kvInsE (m:=opKV.take 19) (k:=[37]) (lv:=int .i64 (2)) (opKV.take 20) rfl rfl rfl pH zk λc19=>?_) rfl;refine LOps.weak (H':=[(om,.map (kvs opKV) c19)]) zhr ?_;refine gaj ?_;have hg:=quX op
 by_cases h0:qbw op = -2
 rw[zp h0] at hg;refine oP (Pure.kvMiss2 rfl rfl zm0 (show GL.kvGet opKV op=none from hg)) rfl<|gaa ?_;refine zoC rfl (λ_=>?_) (λhc=>by cases hc);refine gap ?_;exact rR rfl (zra rfl) zhn ⟨by rw[h0];rfl,rfl⟩;rw[zn h0] at hg;refine oP (Pure.kvHit2 rfl rfl zm0 (show GL.kvGet opKV op=some (int .i64 (qbw op)) from hg)) rfl<|gaa ?_;refine zoC rfl (λhc=>by cases hc) (λ_=>?_);refine gac ?_;exact rR rfl (zra rfl) zhn ⟨rfl,rfl⟩
theorem qe5(s:List UInt8):LCalls (KC B0 w0) 175 [str s] [] (Ret (bool (isNm s))):=by
 refine zcI Tryz.func175 rfl (n:=65) rfl rfl rfl ?_;refine gac ?_
 have retF:∀ (h:isNm s=false) {e:Env} {C:Ctx} {n:Nat},e.ds=[]->e.s 2=bool false->qad C n [ResultVar.tmp 2] (Ret (bool (isNm s))) .ret e []:=λh {e C n} hd he=>by
  rw[h];exact qac hd (rC (rT he zsr) rN) rfl
 refine zoB 7 rfl (λh1=>?_) (λh1=>?_);have h0:s=[]:=zt h1;refine gab ?_;refine zoC rfl (λ_=>?_) (λhc=>by cases hc);refine gap ?_;exact retF (by rw[h0];rfl) rfl rfl;have h0:s≠[]:=zf h1;refine gad ?_;refine zoB 12 rfl (λh2=>?_) (λh2=>?_)
 have hl:24<s.length:=by
  have:=zt h2;omega
 refine gab ?_;refine zoC rfl (λ_=>?_) (λhc=>by cases hc);refine gap ?_;exact retF (by unfold isNm;rw[decide_eq_false zo];rfl) rfl rfl
 have hl:s.length<=24:=by
  have:=zf h2;omega
 refine gab ?_;refine zoB 16 rfl (λh3=>?_) (λh3=>?_);have h4:s=[105,110]:=zt h3;refine gab ?_;refine zoC rfl (λ_=>?_) (λhc=>by cases hc);refine gap ?_;exact retF (by rw[h4];rfl) rfl rfl;refine gab ?_;refine zoB 20 rfl (λh5=>?_) (λh5=>?_);have h4:s=[111,117,116]:=zt h5;refine gab ?_;refine zoC rfl (λ_=>?_) (λhc=>by cases hc);refine gap ?_;exact retF (by rw[h4];rfl) rfl rfl;refine gaj ?_;refine oS (sF [] rfl qhl ?_) rfl;refine gaj ?_;refine oS (sF [_,_] rfl (qdP qdn s zDd) ?_) rfl;refine gab ?_;have hnn:=qsf s;rw[h3,h5,Bool.or_false,Bool.or_false] at hnn;refine zoC rfl (λhk=>?_) (λhk=>?_);have hk':qdn.contains s=true:=hk;refine gap ?_
 exact retF (by
  unfold isNm
  rw[hnn,hk',Bool.not_true,Bool.and_false,Bool.false_and]) rfl rfl
 have hk':qdn.contains s=false:=hk;rw[hk'] at hnn;have heq:=qwK h0 hl hnn;refine gaa ?_
 refine zoL (λk ls H'=>∃ pre l1,s=pre++l1/\k=l1.length/\ls=[(0,str s),(26,int .i64 (s.length:Int)),(27,int .i64 (pre.length:Int))]/\H'=[]/\isNm s=chkN pre.length l1)
  ⟨s.length,_,_,⟨[],s,rfl,rfl,rfl,rfl,heq⟩,⟨rfl,rfl,rfl,trivial⟩,zhR _⟩ ?_
 rintro k ls H' ⟨pre,l1,hLe,rfl,rfl,rfl,hI⟩ j hj
 have hb2:pre.length<=24:=by
  rw[hLe,zLa] at hl;omega
 refine gai ?_;refine zoC rfl (λhc=>?_) (λhc=>?_);rotate_left;have hlen:=zf hc;rw[hLe,zLa] at hlen
 obtain rfl:l1=[]:=by
  cases l1 with
  |nil=>rfl
  |cons a l2=>simp at hlen;omega
 refine gac ?_;exact qac hj (zra rfl) (by rw[hI];rfl);have hlen:=zt hc;rw[hLe,zLa] at hlen
 obtain⟨a,l2,rfl⟩:∃ a l2,l1=a::l2:=by
  cases l1 with
  |nil=>simp at hlen
  |cons a l2=>exact⟨a,l2,rfl⟩
 have hget:s[((pre.length:Nat):Int).toNat]? = some a:=by
  rw[Int.toNat_natCast,hLe,List.getElem?_append_right (zNr _),Nat.sub_self];rfl
 rw[chkN] at hI
 have next:∀ {e:Env} {ds:List Deferred} (h:(if pre.length=0 then qaV a else qaW a)=true),e.ds=ds->e.s 0=str s->e.s 26=int .i64 (s.length:Int)->e.s 27=int .i64 ((pre.length:Int)+1)->qvV (λk ls H'=>∃ pre l1,s=pre++l1/\k=l1.length/\ls=[(0,str s),(26,int .i64 (s.length:Int)),(27,int .i64 (pre.length:Int))]/\H'=[]/\isNm s=chkN pre.length l1) (a::l2).length ds e []:=λ{e ds} h hd e0 e26 e27=>by
  rw[h,Bool.true_and] at hI;exact⟨l2.length,_,_,Nat.lt_succ_self _,⟨pre++[a],l2,by rw[hLe];simp,rfl,rfl,rfl,by rw[hI,zLa];rfl⟩,⟨e0,e26,e27.trans (qap (by simp)),trivial⟩,zhR _,hd⟩
 refine gac ?_;refine zQ52 ?_;refine LOps.cut [(0,str s),(3,int .i64 (pre.length:Int)),(4,bool (qaV a)),(26,int .i64 (s.length:Int)),(27,int .i64 (pre.length:Int))] ?_ (λj2 hj2=>?_);refine zoB 34 rfl (λh6=>?_) (λh6=>?_);refine gaj ?_;refine zQ52 ?_;exact⟨⟨rfl,rfl,qau (by unfold qaV;rw[show decide (97<=cv a)=true from h6,Bool.true_and]),rfl,rfl,trivial⟩,rfl,rfl⟩;refine gab ?_;exact⟨⟨rfl,rfl,qau (by unfold qaV;rw[show decide (97<=cv a)=false from h6,Bool.false_and]),rfl,rfl,trivial⟩,rfl,rfl⟩;refine gaa ?_;refine zoB 42 rfl (λh7=>?_) (λh7=>?_);rotate_left
 ·have hl1:qaV a=true:=by simpa using h7
  refine gad ?_;refine zoC rfl (λhc=>by cases hc) (λ_=>?_);refine gac ?_;refine next ?_ ?_ ?_ ?_ ?_
  rw[hl1];unfold qaW;rw[hl1];split <;> rfl;exact hj2.trans hj;rfl;rfl;rfl
 have hl0:qaV a=false:=by simpa using h7
 refine gab ?_;refine zoB 45 rfl (λh8=>?_) (λh8=>?_);have hp0:pre.length=0:=by have:=zt h8;omega
 refine gad ?_;refine zoC rfl (λ_=>?_) (λhc=>by cases hc);refine gac ?_;exact retF (by rw[hI,zp hp0,hl0,Bool.false_and]) (hj2.trans hj) rfl;have hp0:¬ pre.length=0:=by have:=zf h8;omega
 rw[zn hp0] at hI;refine gaj ?_;refine zQ52 ?_;refine zoB 50 rfl (λh9=>?_) (λh9=>?_);rotate_left
 ·have h95:decide (cv a=95)=true:=by simpa using h9
  refine gad ?_;refine zoC rfl (λhc=>by cases hc) (λ_=>?_);refine gac ?_;refine next ?_ ?_ ?_ ?_ ?_
  rw[zn hp0];unfold qaW;rw[h95,Bool.or_true];exact hj2.trans hj;rfl;rfl;rfl
 have h95:decide (cv a=95)=false:=by simpa using h9
 refine gaj ?_;refine oP (pI (c:=a) rfl rfl zo hget) rfl<|gab ?_;refine zoB 55 rfl (λh10=>?_) (λh10=>?_)
 have h48:decide (48<=cv a)=false:=by
  have:cv a<48:=zt h10;exact decide_eq_false zo
 refine gab ?_;refine zoC rfl (λ_=>?_) (λhc=>by cases hc);refine gac ?_;exact retF (by rw[hI];unfold qaW qao;rw[hl0,h95,h48];rfl) (hj2.trans hj) rfl
 have h48:decide (48<=cv a)=true:=by
  have:¬ cv a<48:=zf h10;exact decide_eq_true zo
 refine gaj ?_;refine zQ52 ?_;refine zoC rfl (λh11=>?_) (λh11=>?_)
 have h57:decide (cv a<=57)=false:=by
  have:57<cv a:=zt h11;exact decide_eq_false zo
 refine gac ?_;exact retF (by rw[hI];unfold qaW qao;rw[hl0,h95,h57,Bool.and_false];rfl) (hj2.trans hj) rfl
 have h57:decide (cv a<=57)=true:=by
  have:¬ 57<cv a:=zf h11;exact decide_eq_true zo
 refine gac ?_;refine next ?_ ?_ ?_ ?_ ?_
 rw[zn hp0];unfold qaW qao;rw[h48,h57];simp;exact hj2.trans hj;rfl;rfl;rfl
end
structure KB where
 cb:Nat
 gm:Nat
 vm:Nat
 am:Nat
 fm:Nat
 om:Nat
 G:KV
 V:KV
 A:KV
 F:KV
 O:KV
 g1:Nat
 g2:Nat
 g3:Nat
 g4:Nat
 g5:Nat
 name:List UInt8
def qjs(f:FSum):LV:=.agg [int .i64 (f.params:Int),int .i64 (f.need:Int),int .i64 (f.depth:Int)]
structure KBok(k:KB)(c:CEnv):Prop where
 G:qdR k.G c.globals
 V:qdR k.V c.vars
 A:qdR k.A c.arrays
 O:qdR k.O c.own
 F:∀ n,GL.kvGet k.F n=(c.fn n).map qjs
def ckH(k:KB)(d:Nat):Heap:=[(k.cb,.cells 126 [.atom (.map (some k.gm)),.atom (.map (some k.vm)),.atom (.map (some k.am)),.atom (.map (some k.fm)),str k.name,.atom (.map (some k.om)),int .i64 (d:Int)]),(k.gm,.map (kvs k.G) k.g1),(k.vm,.map (kvs k.V) k.g2),(k.am,.map (kvs k.A) k.g3),(k.fm,.map (kvs k.F) k.g4),(k.om,.map (kvs k.O) k.g5)]
def qhY(err:Int)(lv:LV)(H':Heap)(r:LRes)(H:Heap):Prop:=(err=0/\r=.ret lv/\H=H')∨(err≠0/\(∃ nm,r=.panic (vio nm err))/\H=[])
section
variable{C:Ctx}{n:Nat}{e:Env}{H:Heap}{dst:Option Nat}{ty:TypeId}{pos:String}{aft:Array Edge}{g:Option (Nat×Bool)}{K:LV->Heap->Prop}{X:List PanicEntry->Heap->Prop}
theorem zsK{err:Int}{lv:LV}{H1 F:Heap}{f:FuncId} [TEnter C.P f](args:List Operand){ats:Array TypeId}{av:List LV}(has:args.map e.ev=av)(hp:H.Perm (H1++F))
  (hc:LCalls C f av H1 (qhY err lv H')) (hk:err=0->K lv (H'++F)) (hx:∀ nm,err≠0->X (vio nm err) F):qae C ⟨dst,.call { callee:=.value (.func f),args:=args.toArray,argTypes:=ats },ty,pos,aft,g⟩ e H K X:=by
 refine S.callH args has hp hc ?_ ?_;rintro v H2 (⟨h1,h2,rfl⟩|⟨_,⟨nm,h2⟩,_⟩);cases h2;exact hk h1;cases h2;rintro ch H2 (⟨_,h2,_⟩|⟨h1,⟨nm,h2⟩,rfl⟩);cases h2;cases h2;exact hx nm h1
theorem qae.callK{err:Int}{lv:LV}{f:FuncId} [TEnter C.P f](args:List Operand){ats:Array TypeId}{av:List LV}(has:args.map e.ev=av)
  (hc:LCalls C f av H (qhY err lv H')) (hk:err=0->K lv H') (hx:∀ nm,err≠0->X (vio nm err) []):qae C ⟨dst,.call { callee:=.value (.func f),args:=args.toArray,argTypes:=ats },ty,pos,aft,g⟩ e H K X:=by
 refine qae.conseq (zsK (F:=[]) (K:=λlv H'=>K lv H') (X:=X) args has (by rw[zLz]) hc (λh=>by rw[zLz];exact hk h) hx) (λlv H' h=>⟨lv,H',vR _,zhR _,h⟩)
theorem retK{err:Int}{lv:LV}{vs:List LV}(hd:e.ds=[])(h:qbX C n e H rs vs)(he:err=0)(hv:qbJ vs=lv)(hH:HSub H' H):qad C n rs (qhY err lv H') .ret e H:=
 rR hd h hH (.inl ⟨he,by rw[hv],rfl⟩)
theorem qvZ{err:Int}{lv:LV}{vs:List LV}(hd:e.ds=[])(h:qbX C n e H rs vs)(he:err=0)(hv:qbJ vs=lv)(hH:HSub H' H):qad C n rs (qhY err lv H') .normal e H:=
 rO hd h hH (.inl ⟨he,by rw[hv],rfl⟩)
theorem panK{err er:Int}{lv:LV}{nm:List UInt8}(hd:e.ds=[])(he:err=er)(h0:er≠0):qad C n rs (qhY err lv H') (.panic (vio nm er)) e H:=
 qad.panic hd zhn (.inr ⟨by rw[he];exact h0,⟨nm,by rw[he]⟩,rfl⟩)
end
section
variable{B0:Nat}{w0:World}
theorem qav(b:Bool)(nm:List UInt8)(er:Int)(h0:er≠0):LCalls (KC B0 w0) 133 [bool b,str nm,int .i64 er] [] (qhY (if b=true then 0 else er) (.tuple []) []):=
 LCalls.mono (qmZ b nm er) λr H ⟨h1,h2⟩=>by
  cases b with
  |true=>exact .inl ⟨rfl,h2,h1⟩
  |false=>exact .inr ⟨h0,⟨nm,h2⟩,h1⟩
theorem qde{k:KB}{c:CEnv}(hk:KBok k c)(d:Nat)(name:List UInt8):LCalls (KC B0 w0) 239 [ptr k.cb 0,str name] (ckH k d) (qhY (qcg c name) (.tuple []) (ckH k d)):=by
 generalize hI:qcg c name=E;unfold qcg at hI;refine zcI Tryz.func239 rfl (n:=34) rfl rfl rfl ?_;refine gac ?_;refine oP (Pure.setHas rfl rfl zm2 hk.V) rfl ?_;have both:∀ {e:Env} {Q:Post} {ops:Array Oper} {rest:List Oper} {n:Nat},True:=λ{_ _ _ _ _}=>trivial;refine zoB 10 rfl (λh1=>?_) (λh1=>?_);have hin:name∈c.vars∨name∈c.own:=.inl (zt h1);refine gac ?_;refine oS (zsK (H1:=[]) (F:=ckH k d) [_,_,_] rfl zpr (qav true name 10 zDd) (λ_=>?_) (λnm h=>absurd rfl h)) rfl;refine gam ?_;refine oS (zsK (H1:=[]) (F:=ckH k d) [_,_,_] rfl zpr (qav true name 7 zDd) (λ_=>?_) (λnm h=>absurd rfl h)) rfl;refine gaf ?_;exact qvZ rfl rN (by rw[<-hI,zp hin]) rfl zhr;have hv:name ∉ c.vars:=zf h1;refine gab ?_;refine oP (Pure.setHas rfl rfl zm5 hk.O) rfl<|zoB 17 rfl (λh2=>?_) (λh2=>?_);have hin:name∈c.vars∨name∈c.own:=.inr (zt h2);refine gac ?_;refine oS (zsK (H1:=[]) (F:=ckH k d) [_,_,_] rfl zpr (qav true name 10 zDd) (λ_=>?_) (λnm h=>absurd rfl h)) rfl;refine gam ?_;refine oS (zsK (H1:=[]) (F:=ckH k d) [_,_,_] rfl zpr (qav true name 7 zDd) (λ_=>?_) (λnm h=>absurd rfl h)) rfl;refine gaf ?_;exact qvZ rfl rN (by rw[<-hI,zp hin]) rfl zhr;have ho:name ∉ c.own:=zf h2;rw[zn (λh=>h.elim hv ho)] at hI;refine gac ?_;refine oP (Pure.setHas rfl rfl zm1 hk.G) rfl<|zoB 26 rfl (λh3=>?_) (λh3=>?_);rw[zp (zt h3)] at hI;refine gad ?_;refine oS (zsK (H1:=[]) (F:=ckH k d) [_,_,_] rfl zpr (qav false name 10 zDd) (λh=>absurd h zDd) (λnm _ e' he'=>?_)) rfl;refine gal ?_;exact panK (he'.trans rfl) (by rw[<-hI];rfl) zDd;rw[zn (zf h3)] at hI;refine gad ?_;refine oS (zsK (H1:=[]) (F:=ckH k d) [_,_,_] rfl zpr (qav true name 10 zDd) (λ_=>?_) (λnm h=>absurd rfl h)) rfl;refine gam ?_;refine oS (zsK (H1:=[]) (F:=ckH k d) [_,_,_] rfl zpr (qav false name 7 zDd) (λh=>absurd h zDd) (λnm _ e' he'=>?_)) rfl;exact panK (he'.trans rfl) (by rw[<-hI];rfl) zDd
theorem qeP{k:KB}{c:CEnv}(hk:KBok k c)(d:Nat)(name:List UInt8):LCalls (KC B0 w0) 240 [ptr k.cb 0,str name] (ckH k d) (qhY (qeU c name) (.tuple []) (ckH k d)):=by
 generalize hI:qeU c name=E;unfold qeU at hI;refine zcI Tryz.func240 rfl (n:=35) rfl rfl rfl ?_;refine gac ?_;refine oP (Pure.setHas rfl rfl zm3 hk.A) rfl<|zoB 10 rfl (λh1=>?_) (λh1=>?_);refine gaa ?_;refine oS (zsK (H1:=[]) (F:=ckH k d) [_,_,_] rfl zpr (qav true name 10 zDd) (λ_=>?_) (λnm h=>absurd rfl h)) rfl;refine gam ?_;refine oS (zsK (H1:=[]) (F:=ckH k d) [_,_,_] rfl zpr (qav true name 7 zDd) (λ_=>?_) (λnm h=>absurd rfl h)) rfl;refine gaf ?_;exact qvZ rfl rN (by rw[<-hI,zp (zt h1)]) rfl zhr;rw[zn (zf h1)] at hI;refine gac ?_;refine oP (Pure.setHas rfl rfl zm1 hk.G) rfl<|zoB 18 rfl (λh2=>?_) (λh2=>?_);have hin:name∈c.globals∨name∈c.own:=.inl (zt h2);refine gad ?_;refine oS (zsK (H1:=[]) (F:=ckH k d) [_,_,_] rfl zpr (qav false name 10 zDd) (λh=>absurd h zDd) (λnm _ e' he'=>?_)) rfl;refine gal ?_;exact panK (he'.trans rfl) (by rw[<-hI,zp hin];rfl) zDd;refine gad ?_;refine oP (Pure.setHas rfl rfl zm5 hk.O) rfl<|zoB 26 rfl (λh3=>?_) (λh3=>?_);have hin:name∈c.globals∨name∈c.own:=.inr (zt h3);refine gad ?_;refine oS (zsK (H1:=[]) (F:=ckH k d) [_,_,_] rfl zpr (qav false name 10 zDd) (λh=>absurd h zDd) (λnm _ e' he'=>?_)) rfl;refine gal ?_;exact panK (he'.trans rfl) (by rw[<-hI,zp hin];rfl) zDd;rw[zn (λh=>h.elim (zf h2) (zf h3))] at hI;refine gad ?_;refine oS (zsK (H1:=[]) (F:=ckH k d) [_,_,_] rfl zpr (qav true name 10 zDd) (λ_=>?_) (λnm h=>absurd rfl h)) rfl;refine gam ?_;refine oS (zsK (H1:=[]) (F:=ckH k d) [_,_,_] rfl zpr (qav false name 7 zDd) (λh=>absurd h zDd) (λnm _ e' he'=>?_)) rfl;exact panK (he'.trans rfl) (by rw[<-hI];rfl) zDd
end
@[reducible] def iv(n:Nat):LV:=int .i64 (n:Int)
section
variable{B0:Nat}{w0:World}
theorem qq7{k:KB}{c:CEnv}(hk:KBok k c){B D:Nat}(hB:KnB B D c.funcs)(hB8:B<=100000000)(hD8:D<=100000000)(d:Nat)(hd:d<=1000000000)(name:List UInt8)(ns:List Nat)(hl:ns.length<=2000000)(hns:∀ n∈ns,n<=1000000000) :
  LCalls (KC B0 w0) 259 [ptr k.cb 0,str name,.list (ns.map iv)] (ckH k d) (qhY (callE c name ns.length) (iv (qiI c name ns)) (ckH k (max d (qgl c qbB name)))):=by
 generalize hI:callE c name ns.length=E;generalize hN:qiI c name ns=N;generalize hDD:qgl c qbB name=DD;unfold callE at hI;unfold qiI at hN;unfold qgl at hDD;have hll:(ns.map iv).length=ns.length:=zLm _;refine zcI Tryz.func259 rfl (n:=110) rfl rfl rfl ?_;refine gac ?_
 by_cases hin:name=[105,110]
 rw[zp hin] at hI hN;rw[zn (λh=>h.2.1 hin)] at hDD;subst hDD;refine zoC rfl (λ_=>?_) (λhc=>absurd hin (zf hc));refine gaa ?_;refine oS (zsK (H1:=[]) (F:=ckH k d) [_,_,_] rfl zpr (qav (decide (((ns.map iv).length:Int)=0)) name 1 zDd) (λh=>?_) (λnm h e' he'=>?_)) rfl
 have h0:ns.length=0:=by
  by_cases h1:((ns.map iv).length:Int)=0
  omega;rw[decide_eq_false h1] at h;cases h
 refine gac ?_;exact retK rfl (zra rfl) (by rw[<-hI,zp h0]) (by rw[<-hN];rfl) (by rw[Nat.max_zero];exact zhR _)
 have h0:¬ ns.length=0:=by
  intro h1;rw[decide_eq_true (show((ns.map iv).length:Int)=0 by omega)] at h;exact h rfl
 rw[show(if decide (((ns.map iv).length:Int)=0)=true then (0:Int) else 1)=1 by rw[zn];simp only[zDe];omega];refine gae ?_;exact panK (he'.trans rfl) (by rw[<-hI,zn h0]) zDd;rw[zn hin] at hI hN;refine zoC rfl (λhc=>absurd (zt hc) hin) (λ_=>?_);refine gas ?_
 by_cases hout:name=[111,117,116]
 rw[zp hout] at hI hN;rw[zn (λh=>h.2.2 hout)] at hDD;subst hDD;refine zoC rfl (λ_=>?_) (λhc=>absurd hout (zf hc));refine gaa ?_;refine oS (zsK (H1:=[]) (F:=ckH k d) [_,_,_] rfl zpr (qav (decide (((ns.map iv).length:Int)=1)) name 1 zDd) (λh=>?_) (λnm h e' he'=>?_)) rfl
 have h0:ns.length=1:=by
  by_cases h1:((ns.map iv).length:Int)=1
  omega;rw[decide_eq_false h1] at h;cases h
 obtain⟨a,l,rfl⟩:∃ a l,ns=a::l:=by
  cases ns with
  |nil=>simp at h0
  |cons a l=>exact⟨a,l,rfl⟩
 refine gac ?_;refine oP (xR (el':=iv a) (cs:=[iv a]) rfl rfl zo rfl rfl rfl) rfl<|gad ?_;exact retK rfl (zra rfl) (by rw[<-hI,zp h0]) (by rw[<-hN];rfl) (by rw[Nat.max_zero];exact zhR _)
 have h0:¬ ns.length=1:=by
  intro h1;rw[decide_eq_true (show((ns.map iv).length:Int)=1 by omega)] at h;exact h rfl
 rw[show(if decide (((ns.map iv).length:Int)=1)=true then (0:Int) else 1)=1 by rw[zn];simp only[zDe];omega];refine gae ?_;exact panK (he'.trans rfl) (by rw[<-hI,zn h0]) zDd;rw[zn hout] at hI hN;rw[zp ⟨rfl,hin,hout⟩] at hDD;refine zoC rfl (λhc=>absurd (zt hc) hout) (λ_=>?_);refine gac ?_;have hF:=hk.F name
 cases hfn:c.fn name with
 |none=>
  rw[hfn] at hI hF;refine oP (Pure.kvMiss2 rfl rfl zm4 hF) rfl<|gad ?_;refine oS (zsA λb7=>?_) rfl;refine gaa ?_;refine oP (Pure.setHas rfl rfl zm3 hk.V) rfl<|zoB 46 rfl (λh2=>?_) (λh2=>?_);have hbad:name∈c.vars∨name∈c.arrays∨name∈c.own:=.inl (zt h2);refine gad ?_;refine oS (zsK (H1:=[]) (F:=_::ckH k d) [_,_,_] rfl zpr (qav false name 10 zDd) (λh=>absurd h zDd) (λnm _ e' he'=>?_)) rfl;refine gal ?_;exact panK (he'.trans rfl) (by rw[<-hI];exact zp hbad) zDd;refine gad ?_;refine oP (Pure.setHas rfl rfl zm4 hk.A) rfl<|zoB 54 rfl (λh3=>?_) (λh3=>?_);have hbad:name∈c.vars∨name∈c.arrays∨name∈c.own:=.inr (.inl (zt h3));refine gad ?_;refine oS (zsK (H1:=[]) (F:=_::ckH k d) [_,_,_] rfl zpr (qav false name 10 zDd) (λh=>absurd h zDd) (λnm _ e' he'=>?_)) rfl;refine gal ?_;exact panK (he'.trans rfl) (by rw[<-hI];exact zp hbad) zDd;refine gad ?_;refine oP (Pure.setHas rfl rfl zm6 hk.O) rfl<|zoB 63 rfl (λh4=>?_) (λh4=>?_);have hbad:name∈c.vars∨name∈c.arrays∨name∈c.own:=.inr (.inr (zt h4));refine gad ?_;refine oS (zsK (H1:=[]) (F:=_::ckH k d) [_,_,_] rfl zpr (qav false name 10 zDd) (λh=>absurd h zDd) (λnm _ e' he'=>?_)) rfl;refine gal ?_;exact panK (he'.trans rfl) (by rw[<-hI];exact zp hbad) zDd;refine gad ?_;refine oS (zsK (H1:=[]) (F:=_::ckH k d) [_,_,_] rfl zpr (qav true name 10 zDd) (λ_=>?_) (λnm h=>absurd rfl h)) rfl;refine gam ?_;refine oS (zsK (H1:=[]) (F:=_::ckH k d) [_,_,_] rfl zpr (qav false name 7 zDd) (λh=>absurd h zDd) (λnm _ e' he'=>?_)) rfl;refine gal ?_
  exact panK (he'.trans rfl) (by rw[<-hI];exact zn (λh=>h.elim (zf h2) (λh=>h.elim (zf h3) (zf h4)))) zDd
 |some f=>
  rw[hfn] at hI hF hN hDD;have hkb:=hB f (List.mem_of_find?_eq_some hfn);refine oP (Pure.kvHit2 rfl rfl zm4 hF) rfl<|gad ?_;refine oS (zsA λb7=>?_) rfl;refine gaa ?_;refine oS (zsK (H1:=[]) (F:=_::ckH k d) [_,_,_] rfl zpr (qav true name 10 zDd) (λ_=>?_) (λnm h=>absurd rfl h)) rfl;refine gam ?_;refine oS (zsK (H1:=[]) (F:=_::ckH k d) [_,_,_] rfl zpr (qav true name 7 zDd) (λ_=>?_) (λnm h=>absurd rfl h)) rfl;refine gaa ?_
  by_cases h0:ns.length=f.params
  rotate_left;have h0':¬ ((ns.map iv).length:Int)=(f.params:Int):=by omega
  refine zoB 76 rfl (λh=>absurd (zt h) h0') (λ_=>?_);refine oS (zsK (H1:=[]) (F:=_::ckH k d) [_,_,_] rfl zpr (qav false name 1 zDd) (λh=>absurd h zDd) (λnm _ e' he'=>?_)) rfl;refine gal ?_;exact panK (he'.trans rfl) (by rw[<-hI];exact zn h0) zDd;have h0':((ns.map iv).length:Int)=(f.params:Int):=by omega
  refine zoB 76 rfl (λ_=>?_) (λh=>absurd h0' (zf h));have hI0:E=0:=by rw[<-hI];exact zp h0
  refine oS (zsK (H1:=[]) (F:=_::ckH k d) [_,_,_] rfl zpr (qav true name 1 zDd) (λ_=>?_) (λnm h=>absurd rfl h)) rfl;refine gab ?_;refine cD (m:=12) rfl [(b7,.cells 160 [iv f.params,iv f.need,iv f.depth])]<|zQ38 ?_;refine aT 7 rfl rfl (Pure.add rfl rfl zo)<|aL ?_ zhp;refine lO 4 (lH rfl rfl (pL (c:=iv d) rfl zm1 rfl) ?_);refine lO 8 (lH rfl rfl (Pure.max2e d (f.depth+1) rfl rfl zo zo) ?_);refine lO 9 (lH rfl rfl (pN rfl) ?_);refine lO 10 (lH rfl rfl (pF rfl) ?_);refine lO 11 (lS (H1:=[(k.cb,.cells 126 [.atom (.map (some k.gm)),.atom (.map (some k.vm)),.atom (.map (some k.am)),.atom (.map (some k.fm)),str k.name,.atom (.map (some k.om)),int .i64 (d:Int)])]) rfl (.inl rfl) rfl (show Pick _ _ _ from pT pH) zhp (sS (n:=1) (cs':=[_,_,_,_,_,_,iv (max d (f.depth+1))]) rfl pH rfl rfl rfl rfl rfl ?_));refine lD zk ?_;have hdd:max d DD=max d (f.depth+1):=by rw[<-hDD]
  rw[hdd];refine qN ?_;refine qag.perm (H':=(b7,.cells 160 [iv f.params,iv f.need,iv f.depth])::ckH k (max d (f.depth+1))) (List.Perm.swap _ _ _) ?_;refine gac ?_;refine oP (Pure.max2e (f.params+1) f.need rfl rfl zo zo) rfl<|gaa ?_
  refine zoL (λkk ls H'=>∃ (pre l1:List Nat) (m:Nat),ns=pre++l1/\kk=l1.length/\ls=[(9,iv m),(96,.list (ns.map iv)),(97,int .i64 ((ns.map iv).length:Int)),(98,iv pre.length)]/\H'=ckH k (max d (f.depth+1))/\qhK pre.length l1 m=N)
   ⟨ns.length,_,_,⟨[],ns,max (f.params+1) f.need,rfl,rfl,rfl,rfl,hN⟩,⟨rfl,rfl,rfl,rfl,trivial⟩,zhD zhr⟩ ?_
  rintro kk ls H' ⟨pre,l1,m,hLe,rfl,rfl,rfl,hS⟩ j hj
  have hb2:pre.length<=2000000:=by
   rw[hLe,zLa] at hl;omega
  refine gai ?_;refine zoC rfl (λhc=>?_) (λhc=>?_);have hlen:=zt hc;rw[zLm,hLe,zLa] at hlen
  obtain⟨a,l2,rfl⟩:∃ a l2,l1=a::l2:=by
   cases l1 with
   |nil=>simp at hlen
   |cons a l2=>exact⟨a,l2,rfl⟩
  have ha:a<=1000000000:=hns a (by rw[hLe];exact List.mem_append_right _ zMs);rw[qhK] at hS;refine gac ?_;refine oP (xR (el':=iv a) (cs:=[iv a]) rfl rfl zo (by rw[hLe];exact get_mid iv pre a l2) rfl rfl) rfl<|gaa ?_;refine oP (Pure.max2e m (pre.length+a) rfl rfl zo zo) rfl<|gac ?_;exact⟨l2.length,_,_,Nat.lt_succ_self _,⟨pre++[a],l2,max m (pre.length+a),by rw[hLe];simp,rfl,rfl,rfl,by rw[zLa];exact hS⟩,⟨rfl,rfl,rfl,qap (by simp),trivial⟩,zhR _,hj⟩;have hlen:=zf hc;rw[zLm,hLe,zLa] at hlen
  obtain rfl:l1=[]:=by
   cases l1 with
   |nil=>rfl
   |cons a l2=>simp at hlen;omega
  rw[qhK] at hS;refine gac ?_;exact retK hj (zra rfl) hI0 (by rw[<-hS];rfl) zhr
end
end Go.Proofs.YtkihibnffkpnkaaGreatDoor.Chk
