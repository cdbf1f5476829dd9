import Derived.Deep.WholeRow
import Derived.Test.YtmnjklgnhpnckaaGreatDoorBRowLV9
set_option linter.unusedVariables false
set_option linter.unusedSimpArgs false
set_option maxRecDepth 100000
set_option maxHeartbeats 4000000
open Go.GL (zk)
open List (perm_append_singleton not_mem_nil length_singleton)
open Nat (zero_le)
namespace Go.Proofs.YtmnjklgnhpnckaaGreatDoor
open Go.GL Go.RowKit Go.ia
variable{Hc:Heap}{ib first:Array Value}{f:FuncId}{sb:Nat}
inductive GA (sb:Nat):Nat->FuncId->Array Value->Array Value->Heap->Prop
 |un:GA sb 6 252 #[.pointer (some ⟨sb,0,none⟩)] #[] []
 |bin {k bo bs bp bn:Nat} {f:FuncId} {first ib:Array Value} {H:Heap} (h:GA sb (k+1) f first ib H):GA sb k 272 #[] #[.pointer (some ⟨bo,0,none⟩),.pointer (some ⟨bs,0,none⟩),.pointer (some ⟨bp,0,none⟩),.pointer (some ⟨bn,0,none⟩)]
   ((bo,.cells 249 [.atom (.func (.func f) first ib)])::(bs,.cells 104 [ptr sb 0])::(bp,.cells 30 [.list ((yi k).map str)])::(bn,.cells 4 [bool (decide ((k:Int)=2))])::H)
def bX{A:Type}(sb:Nat)(T:List Tok)(enc:A->LV)(Hc:Heap)(Cn:Jj A)(r:Ie)(H:Heap):Prop:=match Cn with
 |.ok v i op=>r=.ret (enc v)/\H=Gb sb T i op::Hc
 |.err l e=>r=.panic (nN l e)/\∃ i op:Nat,H=Gb sb T i op::Hc
def SG(B0:Nat)(w0:World)(sb:Nat)(T:List Tok)(f:Nat):Prop:=
 ∀ k fn first ib Hc i op r,GA sb k fn first ib Hc->i<=T.length->op<=100->Eg T f k i op=some r ->
  ca (KC B0 w0) fn (first.toList.map .atom++ib.toList.map .atom) (Gb sb T i op::Hc) (bX sb T Ab Hc r)
section steps
variable{C:Ctx}{e:Env}{H:Heap}{dst:Option Nat}{ty:TypeId}{ra:String}{ua:Array Edge}{g:Option (Nat×Bool)}{K:LV->Heap->Prop}{X:List PanicEntry->Heap->Prop}
theorem qzP(a b:List LV){e:Env}:a++([]:List Operand).map e.ev++b=a++b:=by simp
theorem S.Jo{A:Type}{enc:A->LV}{Cn:Jj A}{sb i op:Nat}{T:List Tok}{fo:Operand}{f:FuncId} [Tb C.P f]{first ib:Array Value}{Rd:Array TypeId}{Hc F:Heap}(hf:e.ev fo=.atom (.func (.func f) first ib))(hp:xd (Gb sb T i op) H (F++Hc))
  (hc:ca C f (first.toList.map .atom++ib.toList.map .atom) (Gb sb T i op::Hc) (bX sb T enc Hc Cn)) (hk:∀ v i' Qa,Cn=.ok v i' Qa->K (enc v) (Gb sb T i' Qa::(F++Hc))) (hx:∀ l er i' Qa,Cn=.err l er->X (nN l er) (Gb sb T i' Qa::Hc++F)) :
  Ya C ⟨dst,.call { callee:=.value fo,args:=#[],argTypes:=Rd },ty,ra,ua,g⟩ e H K X:=by
 have Xk:H.Perm ((Gb sb T i op::Hc)++F):=hp.trans (Vs _ gi);refine Ya.Zc (K:=λv H'=>∃ u i' Qa,Cn=.ok u i' Qa/\v=enc u/\H'=Gb sb T i' Qa::Hc++F) (S.Ml (H1:=Gb sb T i op::Hc) (F:=F) [] hf (qzP _ _) Xk hc ?_ ?_) ?_;intro v H' h;cases hr:Cn with
 |ok u i' Qa=>rw[hr] at h;obtain⟨h1,rfl⟩:=h;cases h1;exact⟨u,i',Qa,rfl,rfl,rfl⟩
 |err l er=>rw[hr] at h;obtain⟨h1,_⟩:=h;cases h1
 intro ch H' h;cases hr:Cn with
 |ok u i' Qa=>rw[hr] at h;obtain⟨h1,_⟩:=h;cases h1
 |err l er=>rw[hr] at h;obtain⟨h1,i',Qa,rfl⟩:=h;cases h1;exact hx _ _ _ _ hr
 rintro v H' ⟨u,i',Qa,h1,rfl,rfl⟩;exact⟨_,_,vR _,⟨[],by simpa using gi⟩,hk u i' Qa h1⟩
end steps
theorem GA.enter{k:Nat}{H:Heap}(h:GA sb k f first ib H):Tb Tryz.prog f:=by cases h <;> infer_instance
theorem GA.le{k:Nat}{H:Heap}(h:GA sb k f first ib H):k<=6:=by
 induction h with
 |un=>exact Jb _
 |bin _ ih=>omega
attribute [local irreducible] Ea fb Ya ca Go.GL.Pure ve Oe Kd LQ yb nh db
theorem qvF{s:Nat×ma}{A B:Heap}:HSub (s::(B++Hc)) ((s::Hc++[])++(A++B)):=by refine⟨A,?_⟩;have h1:(Hc++(A++B)).Perm ((B++Hc)++A):=gi.trans (by rw[Sc];exact gi);simpa using Vs s h1
theorem qn2{s u:Nat×ma}{A:Heap}:HSub (u::s::(A++Hc)) (u::((s::([]++Hc))++A)):=by refine⟨[],?_⟩;have h1:(Hc++A).Perm (A++Hc):=gi;simpa using Vs u (Vs s h1)
theorem HSub.KG{H' l1 l2:Heap}(h:HSub H' l2):HSub H' (l1++l2):=by obtain⟨G,hG⟩:=h;refine⟨G++l1,?_⟩;have h1:(l1++l2).Perm (l2++l1):=gi;have h2:(l2++l1).Perm ((H'++G)++l1):=hG.append_right l1;simpa using h1.trans h2
theorem qp5{a:Nat×ma}{l1 l2:Heap}:([]++(l1++a::l2)).Perm ([a]++(l1++l2)):=by exact(List.nil_append _).symm▸List.perm_middle
theorem qwo(k:Nat):(yi k).length<=1000:=by unfold yi;split <;> simp
theorem quv{T:List Tok}{i:Nat}(h:i<T.length):bH T i=T[i].text:=by rw[bH,jh h]
variable{B0:Nat}{w0:World}
theorem qwM(hG:GW B0 w0)(sb:Nat)(T:List Tok)(hT:Rs T)(f:Nat)(hC:∀ g,g<f->SG B0 w0 sb T g)(k bo bs bp bn:Nat)(fn:FuncId)(first ib:Array Value)(Hc:Heap)(Wn:GA sb (k+1) fn first ib Hc)(i op:Nat)(r:Jj Ex)
  (hi:i<=T.length) (ho:op<=100) (hr:Eg T f k i op=some r) :
  ca (KC B0 w0) 272 [ptr bo 0,ptr bs 0,ptr bp 0,ptr bn 0] (Gb sb T i op::(bo,.cells 249 [.atom (.func (.func fn) first ib)])::(bs,.cells 104 [ptr sb 0])::(bp,.cells 30 [.list ((yi k).map str)])::(bn,.cells 4 [bool (decide ((k:Int)=2))])::Hc)
   (bX sb T Ab ((bo,.cells 249 [.atom (.func (.func fn) first ib)])::(bs,.cells 104 [ptr sb 0])::(bp,.cells 30 [.list ((yi k).map str)])::(bn,.cells 4 [bool (decide ((k:Int)=2))])::Hc) r):=by
 have hl:=hT.len;have EC:=Wn.le;have BI:=Wn.enter;obtain⟨f,rfl⟩:∃ g,f=g+1:=by
  cases f with
  |zero=>rw[Eg] at hr;cases hr
  |succ g=>exact⟨g,rfl⟩
 rw[Eg,zn zo] at hr;obtain⟨r1,oe⟩:=Ek hr;refine kb Tryz.func272 rfl (n:=38) rfl rfl rfl ?_;refine qe ?_;refine oS (Jd λb=>?_);refine wa ?_;refine oS (S.Jo (F:=[(b,_),(bo,_),(bs,_),(bp,_),(bn,_)]) (Hc:=Hc) rfl Od (hC f zo _ _ _ _ _ _ _ r1 Wn hi ho oe) (λv i1 Nc h1=>?_) λl er i1 Nc h1 e' Ka=>?_);rw[oe,h1,Ee] at hr;obtain⟨g1,_,g3,rfl⟩:=(ux T f).1 _ _ _ _ (oe.trans (congrArg some h1));have g4:=g3 hi;refine oS (Jd λb5=>?_);refine Na ?_
 refine oL (λq ls H=>∃ (ex:Ex) (i2:Nat),q<=f/\ls=[(0,ptr bo 0),(1,ptr bs 0),(2,ptr bp 0),(3,ptr bn 0),(4,ptr b 0),(5,ptr b5 0)] /\
   H=(b5,.cells 220 [str (vi ex),int .u32 (Hr ex),str (Lr ex),.list (jq ex)])::Gb sb T i2 Nc::(b,.cells 220 [str [],int .u32 0,str [],Yb])::([(bo,.cells 249 [.atom (.func (.func fn) first ib)]),(bs,.cells 104 [ptr sb 0]),(bp,.cells 30 [.list ((yi k).map str)]),(bn,.cells 4 [bool (decide ((k:Int)=2))])]++Hc)/\i2<=T.length/\zD T q k ex i2 Nc=some r)
  ⟨f,_,_,⟨v,i1,Jb _,rfl,rfl,g4,hr⟩,lb,Kb _⟩ ?_
 rintro q ls H ⟨ex,i2,hqf,rfl,rfl,xw,hI⟩ j hj;obtain⟨q,rfl⟩:∃ q',q=q'+1:=by
  cases q with
  |zero=>rw[zD] at hI;cases hI
  |succ q=>exact⟨q,rfl⟩
 rw[zD] at hI;refine wa ?_;refine oS (sH [_,_] rfl Od (Jt sb T i2 Nc (yi k) hl zo (qwo k)) ?_);refine dd ?_;refine Ma (λhc=>?_) λhc=>?_;have Ja:=Dk hc;rw[zp hc] at hI;refine Da ?_;refine Sz [(0,ptr bo 0),(1,ptr bs 0),(2,ptr bp 0),(3,ptr bn 0),(4,ptr b 0),(5,ptr b5 0),(6,str (bH T i2))] ?_ λj2 wc=>?_;refine qm ?_;refine qP (xR (ke:=It T[i2]) (cs:=[_,_,_]) rfl rfl zo (Ln _ _ _ Ja) rfl rfl) rfl ?_;refine Na ?_;exact⟨⟨rfl,rfl,rfl,rfl,rfl,rfl,vP (quv Ja).symm,trivial⟩,rfl,rfl⟩;obtain⟨r2,ae⟩:=Ek hI;refine wa ?_;refine cD (m:=7) rfl [(bo,.cells 249 [.atom (.func (.func fn) first ib)])] ?_;have Ho:HSub [(bo,.cells 249 [.atom (.func (.func fn) first ib)])] (Gb sb T (i2+1) Nc::(b5,.cells 220 [str (vi ex),int .u32 (Hr ex),str (Lr ex),.list (jq ex)])::(b,.cells 220 [str [],int .u32 0,str [],Yb])::(bo,.cells 249 [.atom (.func (.func fn) first ib)])::[(bs,.cells 104 [ptr sb 0]),(bp,.cells 30 [.list ((yi k).map str)]),(bn,.cells 4 [bool (decide ((k:Int)=2))])]++Hc):=tc HA yd;refine yb.take (i:=0) Ho rfl zk zk zk rfl (pM (lv:=.atom _) rfl)<|yb.take (i:=2) Ho rfl zk zk zk rfl (pL (c:=.atom _) rfl nc rfl)<|aL ?_ Ho;refine Zq (i:=1) (j:=3) zk ?_ ?_;have pC:(Gb sb T (i2+1) Nc::(b5,ma.cells 220 [str (vi ex),int .u32 (Hr ex),str (Lr ex),.list (jq ex)])::(b,ma.cells 220 [str [],int .u32 0,str [],Yb])::([(bo,ma.cells 249 [.atom (.func (.func fn) first ib)]),(bs,ma.cells 104 [ptr sb 0]),(bp,ma.cells 30 [.list ((yi k).map str)]),(bn,ma.cells 4 [bool (decide ((k:Int)=2))])]++Hc)).Perm ((Gb sb T (i2+1) Nc::Hc)++[(b5,ma.cells 220 [str (vi ex),int .u32 (Hr ex),str (Lr ex),.list (jq ex)]),(b,ma.cells 220 [str [],int .u32 0,str [],Yb]),(bo,ma.cells 249 [.atom (.func (.func fn) first ib)]),(bs,ma.cells 104 [ptr sb 0]),(bp,ma.cells 30 [.list ((yi k).map str)]),(bn,ma.cells 4 [bool (decide ((k:Int)=2))])]):=Vs _ (show([(b5,ma.cells 220 [str (vi ex),int .u32 (Hr ex),str (Lr ex),.list (jq ex)]),(b,ma.cells 220 [str [],int .u32 0,str [],Yb]),(bo,ma.cells 249 [.atom (.func (.func fn) first ib)]),(bs,ma.cells 104 [ptr sb 0]),(bp,ma.cells 30 [.list ((yi k).map str)]),(bn,ma.cells 4 [bool (decide ((k:Int)=2))])]++Hc).Perm (Hc++[(b5,ma.cells 220 [str (vi ex),int .u32 (Hr ex),str (Lr ex),.list (jq ex)]),(b,ma.cells 220 [str [],int .u32 0,str [],Yb]),(bo,ma.cells 249 [.atom (.func (.func fn) first ib)]),(bs,ma.cells 104 [ptr sb 0]),(bp,ma.cells 30 [.list ((yi k).map str)]),(bn,ma.cells 4 [bool (decide ((k:Int)=2))])]) from gi);refine lH rfl rfl (pG (Ob:=[_,_,_,_]) rfl Oh rfl rfl)<|lO 3 (lS (H1:=Gb sb T (i2+1) Nc::Hc) (F:=[(b5,ma.cells 220 [str (vi ex),int .u32 (Hr ex),str (Lr ex),.list (jq ex)]),(b,ma.cells 220 [str [],int .u32 0,str [],Yb]),(bo,ma.cells 249 [.atom (.func (.func fn) first ib)]),(bs,ma.cells 104 [ptr sb 0]),(bp,ma.cells 30 [.list ((yi k).map str)]),(bn,ma.cells 4 [bool (decide ((k:Int)=2))])]) rfl (.inl rfl) rfl (pC) (tc Fi yd) (S.Jo (F:=[]) (Hc:=Hc) rfl pH (hC q zo _ _ _ _ _ _ _ r2 Wn zo ho ae) (λe2 i3 yg h3=>?_) λl er i3 yg h3 e' Ka=>?_));rw[ae,h3,Ee] at hI;obtain⟨q1,q2,q3,rfl⟩:=(ux T q).1 _ _ _ _ (ae.trans (congrArg some h3));have q4:=q3 zo;refine lO 4 (lS (H1:=[]) (F:=(Gb sb T i3 yg::([]++Hc))++[(b5,ma.cells 220 [str (vi ex),int .u32 (Hr ex),str (Lr ex),.list (jq ex)]),(b,ma.cells 220 [str [],int .u32 0,str [],Yb]),(bo,ma.cells 249 [.atom (.func (.func fn) first ib)]),(bs,ma.cells 104 [ptr sb 0]),(bp,ma.cells 30 [.list ((yi k).map str)]),(bn,ma.cells 4 [bool (decide ((k:Int)=2))])]) rfl (.inl rfl) rfl mc (HSub.KG (tc Fi yd)) (sL (es:=[Ab ex,Ab e2]) [_,_] rfl (gd rfl rfl (gd rfl rfl Ch)) rfl rfl rfl ?_))
 refine lO 5 (lH rfl rfl (pB _ (cs:=[_,_,_,_]) rfl) ?_);refine lO 6 (lS (H1:=[(b5,ma.cells 220 [str (vi ex),int .u32 (Hr ex),str (Lr ex),.list (jq ex)])]) (F:=(Gb sb T i3 yg::([]++Hc))++[(b,ma.cells 220 [str [],int .u32 0,str [],Yb]),(bo,ma.cells 249 [.atom (.func (.func fn) first ib)]),(bs,ma.cells 104 [ptr sb 0]),(bp,ma.cells 30 [.list ((yi k).map str)]),(bn,ma.cells 4 [bool (decide ((k:Int)=2))])]) rfl (.inl rfl) rfl qp5 (HSub.KG (tc Od yd)) (sS (Ob:=[_,_,_,_]) rfl pH rfl rfl rfl rfl rfl ?_));refine fq ?_;refine cW (H':=(b5,ma.cells 220 [str (bH T i2),int .u32 0,str [],.list [Ab ex,Ab e2]])::Gb sb T i3 yg::(b,ma.cells 220 [str [],int .u32 0,str [],Yb])::([(bo,ma.cells 249 [.atom (.func (.func fn) first ib)]),(bs,ma.cells 104 [ptr sb 0]),(bp,ma.cells 30 [.list ((yi k).map str)]),(bn,ma.cells 4 [bool (decide ((k:Int)=2))])]++Hc)) (qn2 (A:=[(b,ma.cells 220 [str [],int .u32 0,str [],Yb]),(bo,ma.cells 249 [.atom (.func (.func fn) first ib)]),(bs,ma.cells 104 [ptr sb 0]),(bp,ma.cells 30 [.list ((yi k).map str)]),(bn,ma.cells 4 [bool (decide ((k:Int)=2))])])) ?_;refine wa ?_;refine Ma (λNg=>?_) λNg=>?_;exact aO;exact dO;exact Y6;have pC:(Gb sb T (i2+1) Nc::(b5,ma.cells 220 [str (vi ex),int .u32 (Hr ex),str (Lr ex),.list (jq ex)])::(b,ma.cells 220 [str [],int .u32 0,str [],Yb])::([(bo,ma.cells 249 [.atom (.func (.func fn) first ib)]),(bs,ma.cells 104 [ptr sb 0]),(bp,ma.cells 30 [.list ((yi k).map str)]),(bn,ma.cells 4 [bool (decide ((k:Int)=2))])]++Hc)).Perm ((Gb sb T (i2+1) Nc::Hc)++[(b5,ma.cells 220 [str (vi ex),int .u32 (Hr ex),str (Lr ex),.list (jq ex)]),(b,ma.cells 220 [str [],int .u32 0,str [],Yb]),(bo,ma.cells 249 [.atom (.func (.func fn) first ib)]),(bs,ma.cells 104 [ptr sb 0]),(bp,ma.cells 30 [.list ((yi k).map str)]),(bn,ma.cells 4 [bool (decide ((k:Int)=2))])]):=Vs _ (show([(b5,ma.cells 220 [str (vi ex),int .u32 (Hr ex),str (Lr ex),.list (jq ex)]),(b,ma.cells 220 [str [],int .u32 0,str [],Yb]),(bo,ma.cells 249 [.atom (.func (.func fn) first ib)]),(bs,ma.cells 104 [ptr sb 0]),(bp,ma.cells 30 [.list ((yi k).map str)]),(bn,ma.cells 4 [bool (decide ((k:Int)=2))])]++Hc).Perm (Hc++[(b5,ma.cells 220 [str (vi ex),int .u32 (Hr ex),str (Lr ex),.list (jq ex)]),(b,ma.cells 220 [str [],int .u32 0,str [],Yb]),(bo,ma.cells 249 [.atom (.func (.func fn) first ib)]),(bs,ma.cells 104 [ptr sb 0]),(bp,ma.cells 30 [.list ((yi k).map str)]),(bn,ma.cells 4 [bool (decide ((k:Int)=2))])]) from gi);refine(lS (H1:=Gb sb T (i2+1) Nc::Hc) (F:=[(b5,ma.cells 220 [str (vi ex),int .u32 (Hr ex),str (Lr ex),.list (jq ex)]),(b,ma.cells 220 [str [],int .u32 0,str [],Yb]),(bo,ma.cells 249 [.atom (.func (.func fn) first ib)]),(bs,ma.cells 104 [ptr sb 0]),(bp,ma.cells 30 [.list ((yi k).map str)]),(bn,ma.cells 4 [bool (decide ((k:Int)=2))])]) rfl (.inl rfl) rfl (pC) (tc Fi yd) (S.Jo (F:=[]) (Hc:=Hc) rfl pH (hC q zo _ _ _ _ _ _ _ r2 Wn zo ho ae) (λe2 i3 yg h3=>?_) λl er i3 yg h3 e' Ka=>?_));rw[ae,h3,Ee] at hI;obtain⟨q1,q2,q3,rfl⟩:=(ux T q).1 _ _ _ _ (ae.trans (congrArg some h3));have q4:=q3 zo;refine lO 1 (lH rfl rfl (pG (Ob:=[_,_,_,_]) rfl (List.mem_append_right _ nc) rfl rfl) ?_);refine lO 4 (lS (H1:=[]) (F:=(Gb sb T i3 yg::([]++Hc))++[(b5,ma.cells 220 [str (vi ex),int .u32 (Hr ex),str (Lr ex),.list (jq ex)]),(b,ma.cells 220 [str [],int .u32 0,str [],Yb]),(bo,ma.cells 249 [.atom (.func (.func fn) first ib)]),(bs,ma.cells 104 [ptr sb 0]),(bp,ma.cells 30 [.list ((yi k).map str)]),(bn,ma.cells 4 [bool (decide ((k:Int)=2))])]) rfl (.inl rfl) rfl mc (HSub.KG (tc Fi yd)) (sL (es:=[Ab ex,Ab e2]) [_,_] rfl (gd rfl rfl (gd rfl rfl Ch)) rfl rfl rfl ?_))
 refine lO 5 (lH rfl rfl (pB _ (cs:=[_,_,_,_]) rfl) ?_);refine lO 6 (lS (H1:=[(b5,ma.cells 220 [str (vi ex),int .u32 (Hr ex),str (Lr ex),.list (jq ex)])]) (F:=(Gb sb T i3 yg::([]++Hc))++[(b,ma.cells 220 [str [],int .u32 0,str [],Yb]),(bo,ma.cells 249 [.atom (.func (.func fn) first ib)]),(bs,ma.cells 104 [ptr sb 0]),(bp,ma.cells 30 [.list ((yi k).map str)]),(bn,ma.cells 4 [bool (decide ((k:Int)=2))])]) rfl (.inl rfl) rfl qp5 (HSub.KG (tc Od yd)) (sS (Ob:=[_,_,_,_]) rfl pH rfl rfl rfl rfl rfl ?_));refine fq ?_;refine cW (H':=(b5,ma.cells 220 [str (bH T i2),int .u32 0,str [],.list [Ab ex,Ab e2]])::Gb sb T i3 yg::(b,ma.cells 220 [str [],int .u32 0,str [],Yb])::([(bo,ma.cells 249 [.atom (.func (.func fn) first ib)]),(bs,ma.cells 104 [ptr sb 0]),(bp,ma.cells 30 [.list ((yi k).map str)]),(bn,ma.cells 4 [bool (decide ((k:Int)=2))])]++Hc)) (qn2 (A:=[(b,ma.cells 220 [str [],int .u32 0,str [],Yb]),(bo,ma.cells 249 [.atom (.func (.func fn) first ib)]),(bs,ma.cells 104 [ptr sb 0]),(bp,ma.cells 30 [.list ((yi k).map str)]),(bn,ma.cells 4 [bool (decide ((k:Int)=2))])])) ?_;refine wa ?_;refine Ma (λNg=>?_) λNg=>?_;exact aO;exact dO;exact Y6;have Il:nf T i2 (yi k)=false:=hc;rw[zn (by rw[Il];decide)] at hI;refine wa ?_;exact rR hj (rC (rA rfl nc rfl Nd) rN) (Pg (tc pH (Pg ob))) (by cases hI;exact⟨rfl,rfl⟩);rw[oe,h1,zh] at hr;refine Ei ?_;refine Kd.panic (Ka.trans rfl) (H':=Gb sb T i1 Nc::(bo,.cells 249 [.atom (.func (.func fn) first ib)])::(bs,.cells 104 [ptr sb 0])::(bp,.cells 30 [.list ((yi k).map str)])::(bn,.cells 4 [bool (decide ((k:Int)=2))])::Hc) ?_ (by cases hr;exact⟨rfl,i1,Nc,rfl⟩);exact tc pH ⟨[(b,_)],gi.trans (by exact List.Perm.refl _ |>.trans (perm_append_singleton _ _).symm)⟩
def lz(k:Nat):LV:=.list ((yi k).map str)
def NP:List LV:=[lz 0,lz 1,lz 2,lz 3,lz 4,lz 5]
theorem qpd:ca (KC B0 w0) 254 [] [] (Qb (.list NP)):=by refine kb Tryz.func254 rfl (n:=8) rfl rfl rfl ?_;refine Yn ?_;refine oS (sL (es:=[str [124,124]]) [_] rfl (gd rfl rfl Ch) rfl rfl rfl<|oS (sL (es:=[str [38,38]]) [_] rfl (gd rfl rfl Ch) rfl rfl rfl ?_));refine oS (sL (es:=[str [61,61],str [33,61],str [60],str [62],str [60,61],str [62,61]]) [_,_,_,_,_,_] rfl (gd rfl rfl (gd rfl rfl (gd rfl rfl (gd rfl rfl (gd rfl rfl (gd rfl rfl Ch)))))) rfl rfl rfl<|oS (sL (es:=[str [94]]) [_] rfl (gd rfl rfl Ch) rfl rfl rfl ?_));refine oS (sL (es:=[str [43],str [45]]) [_,_] rfl (gd rfl rfl (gd rfl rfl Ch)) rfl rfl rfl<|oS (sL (es:=[str [42],str [47],str [37]]) [_,_,_] rfl (gd rfl rfl (gd rfl rfl (gd rfl rfl Ch))) rfl rfl rfl ?_));refine oS (sL (es:=NP) [_,_,_,_,_,_] rfl (gd rfl rfl (gd rfl rfl (gd rfl rfl (gd rfl rfl (gd rfl rfl (gd rfl rfl Ch)))))) rfl rfl rfl ?_);refine Na ?_;exact qb rfl (rC (rT (v:=.list _) rfl Nd) rN) rfl
theorem J0(sb:Nat)(Sa:List LV)(once:Bool)(fn:FuncId)(first ib:Array Value):ca (KC B0 w0) 255 [ptr sb 0,.list Sa,bool once,.atom (.func (.func fn) first ib)] []
  (λr H=>∃ bo bs bp bn:Nat,r=.ret (.atom (.func (.func 272) #[] #[.pointer (some ⟨bo,0,none⟩),.pointer (some ⟨bs,0,none⟩),.pointer (some ⟨bp,0,none⟩),.pointer (some ⟨bn,0,none⟩)])) /\
   H=[(bo,.cells 249 [.atom (.func (.func fn) first ib)]),(bs,.cells 104 [ptr sb 0]),(bp,.cells 30 [.list Sa]),(bn,.cells 4 [bool once])]):=by
 refine kb Tryz.func255 rfl (n:=10) rfl rfl rfl ?_;refine qe ?_;refine oS (sB rfl λbs=>oS (sB rfl λbp=>?_));refine oS (sB rfl λbn=>oS (sB rfl λbo=>?_));refine wa ?_;exact rR rfl (eb rfl) (tc pH (tc Fi (tc Od qd))) ⟨bo,bs,bp,bn,rfl,rfl⟩
theorem qlV(es:List LV):ca (KC B0 w0) 253 [.list es] [] (λr H=>∃ b:Nat,r=.ret (.atom (.func (.func 271) #[] #[.pointer (some ⟨b,0,none⟩)]))/\H=[(b,.cells 212 [.list es])]):=by refine kb Tryz.func253 rfl (n:=4) rfl rfl rfl ?_;refine qe ?_;refine oS (sB rfl λb=>?_);refine wa ?_;exact rR rfl (eb rfl) ob ⟨b,rfl,rfl⟩
def HY(ls:List (List (List UInt8)))(q:Nat):List LV:=[int .i64 ((ls.length:Int)-1-q),.list (((ls[ls.length-1-q]?).getD []).map str)]
theorem qtQ(b:Nat)(ls:List (List (List UInt8)))(hl:ls.length<=100000):gX (KC B0 w0) 271 [ptr b 0] [(b,.cells 212 [.list (ls.map λl=>.list (l.map str))])] ls.length (HY ls):=by
 intro l J hY H0 h0;have Mx:(ls.map λl=>LV.list (l.map str)).length=ls.length:=Db _;refine kb Tryz.func271 rfl (n:=19) rfl rfl rfl ?_;refine fb.perm (H':=(b,.cells 212 [.list (ls.map λl=>.list (l.map str))])::H0) (perm_append_singleton _ _) ?_;refine wa ?_
 refine oL (λk lsl H=>∃ (q:Nat) (Hq:Heap),q<=ls.length/\k=ls.length-q/\lsl=[(0,.atom (.func (.yield l) #[] #[])),(1,ptr b 0),(3,int .i64 ((ls.length:Int)-1-q))]/\H=(b,.cells 212 [.list (ls.map λl=>.list (l.map str))])::Hq/\J q Hq)
  ⟨_,_,_,⟨0,H0,zero_le _,rfl,rfl,rfl,h0⟩,⟨rfl,rfl,Kg (by simp),trivial⟩,Kb _⟩ ?_
 rintro k lsl H ⟨q,Hq,hq,rfl,rfl,rfl,hJ⟩ j hj;refine wa ?_;refine Ma (λhc=>?_) λhc=>?_;have Ja:q<ls.length:=by have:=zt hc;omega
 have vI:((ls.length:Int)-1-q).toNat=ls.length-1-q:=by omega
 have uw:ls.length-1-q<ls.length:=by omega
 have Mm:(ls.map λl=>LV.list (l.map str))[((ls.length:Int)-1-q).toNat]? = some (.list (((ls[ls.length-1-q]?).getD []).map str)):=by rw[vI,List.getElem?_map,jh uw];rfl
 refine Da ?_;refine fb.WE ?_;refine Na ?_;refine Dt.pure (xR (cs:=[_]) rfl rfl zo Mm rfl rfl) rfl ?_;refine Na ?_;refine Dt.yield (H:=(b,.cells 212 [.list (ls.map λl=>.list (l.map str))])::Hq) (args:=[_,_]) rfl rfl (qB.frame (H:=Hq) (F:=[(b,.cells 212 [.list (ls.map λl=>.list (l.map str))])]) (perm_append_singleton _ _).symm (K:=λH'=>∃ H1,H'=H1++[(b,.cells 212 [.list (ls.map λl=>.list (l.map str))])]/\J (q+1) H1) (qB.mono (hY q Hq Ja hJ) λH' h=>⟨H',rfl,h⟩)) rfl ?_;rintro H' ⟨H1,rfl,hJ1⟩;refine Na ?_;refine Dt.nil ?_;refine qN ?_;refine cW (H':=(b,.cells 212 [.list (ls.map λl=>.list (l.map str))])::H1) ⟨[],by rw[de];exact perm_append_singleton _ _⟩ ?_;refine Ma (λTe=>?_) λTe=>?_;cases Te;refine wa ?_;exact⟨_,_,_,by omega,⟨q+1,H1,Ja,rfl,rfl,rfl,hJ1⟩,lb,Kb _,hj⟩;have Pq:q=ls.length:=by have:=zf hc;omega
 subst Pq;refine Da ?_;exact rO hj rN ⟨[],by rw[de];exact(perm_append_singleton _ _).symm⟩ ⟨⟨_,rfl⟩,Hq,rfl,hJ⟩
end Go.Proofs.YtmnjklgnhpnckaaGreatDoor
namespace Go.Proofs.YtmnjklgnhpnckaaGreatDoor
open Go.GL Go.RowKit Go.ia
def BH(b:Nat)(l:List UInt8)(H:Heap):Prop:=∃ p v Hv,(p=LV.atom (.pointer none)∨p=ptr b 0)/\bh 5 v l Hv/\H=(b,.cells 92 [p,.atom v])::Hv
theorem G':Lays.n240 Tryz.prog Tryz.Kh:={ Tryz.Ao with }
section
variable{B0:Nat}{w0:World}
theorem qgx(b:Nat)(p v:LV)(hp:p=LV.atom (.pointer none)∨p=ptr b 0):ca (KC B0 w0) 72 [ptr b 0] [(b,.cells 92 [p,v])]
  (λr H'=>(∃ x,r=.ret (.atom x))/\H'=[(b,.cells 92 [ptr b 0,v])]):=λxs w L hv hH=>by
 simp only[oa] at hv;obtain⟨y,ys,rfl,hy,rfl⟩:=hv;simp only[xb] at hy;subst hy;obtain⟨Le,Of,hl,zs,td,Gd⟩:=hH.uc _ (Mo rfl);simp only at Le Of hl td Gd;have hz:=Gd;simp only[oa] at hz;obtain⟨a,as1,rfl,ha,c,as2,rfl,hc,rfl⟩:=hz;rcases hp with rfl|rfl;simp only[xb] at ha;subst ha;have h0:w.cell? ⟨b,0,none⟩=some (.pointer none):=by simp[World.cell?,td]
 have G3:w.shape? b=some (92,2):=by simp[World.shape?,td]
 have hfz:w.frozen? ⟨b,0,none⟩=false:=Go.Lib.frozen_of_heap td 0;refine(Any.Builder_copyCheck_fresh (P:=Tryz.prog) G' Tryz.Cc.toX72 b w h0 G3 hfz).mono λe w' he=>?_;obtain⟨rfl,rfl⟩:=he;refine sQ (w:=w) (w':=w.setCell ⟨b,0,none⟩ (.pointer (some ⟨b,0,none⟩))) (OA:=[.pointer (some ⟨b,0,none⟩),c]) (Ob:=[ptr b 0,v]) (lv:=.atom (.tuple #[])) hH rfl rfl rfl (by simp[World.setCell]) (λd hd=>by simp[World.setCell,Array.getElem?_modify,Ne.symm hd]) (by rw[qiU (xs:=[.pointer none,c]) td];rfl) rfl ?_ zd ⟨⟨_,rfl⟩,rfl⟩;simp only[oa] at Gd ⊢;exact⟨_,_,rfl,zd,c,[],rfl,hc,rfl⟩;simp only[xb] at ha;subst ha;have h0:w.cell? ⟨b,0,none⟩=some (.pointer (some ⟨b,0,none⟩)):=by simp[World.cell?,td]
 refine(Any.Builder_copyCheck_used (P:=Tryz.prog) G' Tryz.Cc.toX72 b w h0).mono λe w' he=>?_;obtain⟨rfl,rfl⟩:=he;exact⟨.atom (.tuple #[]),_,L,Fr.refl _ _ _,hH,zd,⟨_,rfl⟩,rfl⟩
attribute [local irreducible] Ea fb Ya ca Go.GL.Pure ve Oe Kd LQ yb nh db
theorem qfm(b:Nat)(l m:List UInt8)(H:Heap)(hB:BH b l H)(na:l.length+m.length<=10000000000):ca (KC B0 w0) 38 [ptr b 0,str m] H (λr H'=>(∃ x,r=.ret x)/\BH b (l++m) H'):=by
 obtain⟨p,v,Hv,hp,Ra,rfl⟩:=hB;refine kb Tryz.func38 rfl (n:=19) rfl rfl rfl ?_;refine di ?_;refine oS (S.Tc (H1:=[(b,_)]) (F:=Hv) [_] rfl mc (qgx b p (.atom v) hp) (λx H' h=>?_) λch H' h=>?_);obtain⟨⟨x',Rn⟩,rfl⟩:=h;cases Rn;refine xa ?_;refine oS (S.VS (q:=(b,.cells 92 [ptr b 0,.atom v])) (l:=l) (m:=m) rfl Ra rfl zo λv' H' ab=>?_);refine Da ?_;have ie:=ab;generalize l++m=lm at ab ie ⊢
 cases ab with
 |nil=>refine wa ?_;exact rR rfl (rC (Fc rfl) (eb rfl)) ob ⟨⟨_,rfl⟩,ptr b 0,_,_,.inr rfl,ie,rfl⟩
 |row h0 h1 h2=>refine wa ?_;exact rR rfl (rC (Fc rfl) (eb rfl)) ob ⟨⟨_,rfl⟩,ptr b 0,_,_,.inr rfl,ie,rfl⟩
 obtain⟨⟨x',Rn⟩,_⟩:=h;cases Rn
end
open Go Go.Shelf Go.RowKit
section
variable{P:Program}{ρ:Ren}
set_option maxHeartbeats 4000000 in
set_option maxRecDepth 100000 in
theorem qg2(L:Lays.n169 P ρ)(X:Builder.Extra P ρ)(b g:Nat)(p:Value)(l:List UInt8)(cur:Array Value)(w:World)(D5:w.heap[b]? = some (.cells #[p,.slice (some ⟨g,0,none⟩) l.length cur.size] (ρ.t 72) (0,0)))
  (hg:w.heap[g]? = some (.cells cur (ρ.t 5) (0,0))) (h0:l≠[]) (hn:l.length<=cur.size) (E5:l.length<=9223372036854775807) (OC:∀ (j:Nat) (x:UInt8),l[j]? = some x->cur[j]? = some (.int .u8 x.toNat)) :
  Calls P (ρ.f 169) #[.pointer (some ⟨b,0,none⟩)] w λe w'=>e=.returned (.string ⟨l.toArray⟩)/\w'=w.drew.freeze ⟨g,0,none⟩ l.length:=by
 have BC:l.length≠0:=by simpa using h0
 have c1:w.drew.cell? ⟨b,1,none⟩=some (.slice (some ⟨g,0,none⟩) l.length cur.size):=by have:w.drew.heap[b]? = some (.cells #[p,.slice (some ⟨g,0,none⟩) l.length cur.size] (ρ.t 72) (0,0)):=D5;rw[Lib.cell_of_heap this];rfl
 have hSD:(Builtin.unsafeSliceData_ #[(ρ.t 37)] (ρ.t 127) #[.slice (some ⟨g,0,none⟩) l.length cur.size]).run P w.drew=.ok (.pointer (some ⟨g,0,none⟩)) w.drew:=
  Lib.run_unsafeSliceData_row _ _ _ _ _ _ ga
 have hUS:(Builtin.unsafeString_ #[(ρ.t 127),(ρ.t 3)] (ρ.t 9) #[.pointer (some ⟨g,0,none⟩),.int .i64 l.length]).run P w.drew=.ok (.string ⟨l.toArray⟩) (w.drew.freeze ⟨g,0,none⟩ l.length):=by refine Lib.run_unsafeString_row w.drew (ρ.t 127) (ρ.t 3) (ρ.t 9) (ρ.t 5) L.t127 X.cellsByte g cur.size (by have Tx:w.drew.heap[g]? = some (.cells cur (ρ.t 5) (0,0)):=hg;simp[World.shape?,Tx]) l h0 hn E5 ?_;intro j x hx;have Tx:w.drew.heap[g]? = some (.cells cur (ρ.t 5) (0,0)):=hg;have:=OC j x hx;rw[Go.GL.Cf];simp[World.cell?,Tx,this]
 have mixed:=L.mixed;have t72:=L.t72;have a72:=L.a72;have z72:=L.z72;have v72:=L.v72;have u72:=run_underlying L.t72;have t70:=L.t70;have a70:=L.a70;have z70:=L.z70;have v70:=L.v70;have u70:=run_underlying L.t70;have t37:=L.t37;have a37:=L.a37;have z37:=L.z37;have v37:=L.v37;have u37:=run_underlying L.t37;have t127:=L.t127;have a127:=L.a127;have z127:=L.z127;have v127:=L.v127;have aai:=run_underlying L.t127;have t3:=L.t3;have a3:=L.a3;have z3:=L.z3;have v3:=L.v3;have u3:=run_underlying L.t3;have t9:=L.t9;have a9:=L.a9;have z9:=L.z9;have v9:=L.v9;have u9:=run_underlying L.t9;have t5:=X.t5;have a5:=X.a5;have z5:=X.z5;have v5:=X.v5;have u5:=run_underlying X.t5
 go_enter L.f169,Body.n169_ntmps ρ
 go_wp2
 go_region_o
 all_goals (go_wp2;go_ret;exact⟨rfl,rfl⟩)
end
open Go.GL Go.ia
variable{C:Ctx}{F H H' X Y Z:Heap}{R:Ie->Heap->Prop}{e:Env}{n:Nat}{rs:List ResultVar}{vs:List LV}
theorem qs7:Lays.n169 Tryz.prog Tryz.Kh:={ Tryz.Ao with }
variable{B0:Nat}{w0:World}
theorem qu7{w:World}{L:Live}(hH:Ta C w L H){g:Nat}(hm:g∈keys H)(hb:C.B0<=g):Fr (keys H) w L (w.drew.freeze ⟨g,0,none⟩ n) L []/\Ta C (w.drew.freeze ⟨g,0,none⟩ n) L []:=by
 have NN:∀ c,c≠g->(w.drew.freeze ⟨g,0,none⟩ n).heap[c]? = w.heap[c]? := λc hc=>by unfold World.freeze;split;rfl;simp only[Array.getElem?_modify];rw[zn (Ne.symm hc)];rfl
 have ld:(w.drew.freeze ⟨g,0,none⟩ n).heap.size=w.heap.size:=by unfold World.freeze;split;rfl;simp
 have G3:∀ c,(w.drew.freeze ⟨g,0,none⟩ n).shape? c=w.shape? c:=λc=>by
  by_cases hc:c=g;subst hc;unfold World.freeze;split;rfl;simp only[World.shape?,Array.getElem?_modify,if_true];show(match Option.map _ w.heap[c]? with|some (Obj.cells c e _)=>some (e,c.size)|_=>none)=_
  cases w.heap[c]? with
  |none=>rfl
  |some o=>cases o <;> rfl
  exact BF (NN c hc)
 have hce:∀ c i,(w.drew.freeze ⟨g,0,none⟩ n).cell? ⟨c,i,none⟩=w.cell? ⟨c,i,none⟩:=λc i=>by
  by_cases hc:c=g;subst hc;unfold World.freeze;split;rfl;simp only[World.cell?,Array.getElem?_modify,if_true];show(match Option.map _ w.heap[c]? with|some (Obj.cells c e _)=>_|_=>none)=_
  cases w.heap[c]? with
  |none=>rfl
  |some o=>cases o <;> rfl
  exact cell_of_heap (NN c hc) i
 have EN:(w.drew.freeze ⟨g,0,none⟩ n).os=w.os/\(w.drew.freeze ⟨g,0,none⟩ n).tape=w.tape/\(w.drew.freeze ⟨g,0,none⟩ n).output=w.output:=by unfold World.freeze;split <;> exact⟨rfl,rfl,rfl⟩
 exact⟨⟨EN.1,EN.2.1,EN.2.2,⟨Nat.le_of_eq ld.symm,λc _=>G3 c,λc i _=>hce c i,λ_=>Jb _⟩,λc _ hc=>NN c λh=>hc (h▸hm),λ_ _ _=>rfl,by simp⟩,
  ⟨hH.base.trans ⟨EN.1,EN.2.1,EN.2.2,Nat.le_of_eq ld.symm,λc hc=>NN c zo⟩,hH.ui,by rw[ld];exact hH.b0,λc hc=>hH.wf c (by rw[ld] at hc;exact hc),List.nodup_nil,by simp⟩⟩
theorem G0(b:Nat)(l:List UInt8)(H:Heap)(hB:BH b l H)(na:l.length<=10000000000):ca (KC B0 w0) 39 [ptr b 0] H (Qb (str l)):=λxs w L hv hH=>by
 obtain⟨p,v,Hv,hp,Ra,rfl⟩:=hB;simp only[oa] at hv;obtain⟨y,ys,rfl,hy,rfl⟩:=hv;simp only[xb] at hy;subst hy;obtain⟨Le,Of,hl,zs,td,Gd⟩:=hH.uc _ We;simp only at Le Of hl td Gd;simp only[oa] at Gd;obtain⟨a,as1,rfl,ha,c,as2,rfl,hc,rfl⟩:=Gd;simp only[xb] at hc;subst hc;cases Ra with
 |nil=>
  refine(Any.Builder_String_nil (P:=Tryz.prog) qs7 Tryz.Cc w.heap.size b a w td).mono λe w' he=>?_;obtain⟨rfl,hb⟩:=he;obtain⟨h1,h2⟩:=GU (hH.sub (List.nil_sublist _)) hb
  exact⟨str [],[],L,h1.wide (by simp),h2,zd,rfl,rfl⟩
 |row h0 h1 h2=>
  rename_i g xs;obtain⟨hg0,S4,hgl,ws,ft,VQ⟩:=hH.uc _ (Pc _ (Mo rfl));simp only at hg0 S4 hgl ft;have:=lN VQ;subst this;have OC:∀ (j:Nat) (x:UInt8),l[j]? = some x->ws.toArray[j]? = some (Value.int .u8 x.toNat):=λj x hx=>by
   have hj:(xc l)[j]? = some (Value.int .u8 x.toNat):=by simp[xc,hx]
   rw[<-h2,List.getElem?_take] at hj;split at hj;simpa using hj;cases hj
  refine(qg2 (P:=Tryz.prog) qs7 Tryz.Cc b g a l ws.toArray w td ft h0 (by simpa using h1) zo OC).mono λe w' he=>?_;obtain⟨rfl,rfl⟩:=he;obtain⟨f1,f2⟩:=qu7 (n:=l.length) hH (g:=g) (by simp) hg0;exact⟨str l,[],L,f1,f2,zd,rfl,rfl⟩
attribute [local irreducible] Ea fb Ya ca Go.GL.Pure ve Oe Kd LQ yb nh db Ht Dt ND gX qB
def QB:List (List (List UInt8)):=[yi 0,yi 1,yi 2,yi 3,yi 4,yi 5]
theorem W8(q:Nat)(h:q<6):HY QB q=[int .i64 (((5-q:Nat):Int)),.list ((yi (5-q)).map str)]:=by
 have:q=0∨q=1∨q=2∨q=3∨q=4∨q=5:=by omega
 rcases this with rfl|rfl|rfl|rfl|rfl|rfl <;> rfl
theorem ND.GQ{D:Nat}(hd:e.ds=[{ target:=.collected D,args:=#[] }])(F:Heap)(hp:H.Perm ((D,.obj (.deferred (some [])))::F))(h:Dm C n e F rs vs)(hH:HSub H' F)(hR:R (.ret (Dh vs)) H') :
  ND C n rs R .ret e H:=by
 unfold ND;exact⟨D,F,hd,hp,vs,H',h,hH,hR⟩
theorem ND.LF{ch:List PanicEntry}{D:Nat}(hd:e.ds=[{ target:=.collected D,args:=#[] }])(F:Heap)(hp:H.Perm ((D,.obj (.deferred (some [])))::F))(hH:HSub H' F)(hR:R (.panic ch) H') :
  ND C n rs R (.panic ch) e H:=by
 unfold ND;exact .inr ⟨D,F,hd,hp,H',hH,hR⟩
theorem SJ(sb:Nat)(T:List Tok)(f:Nat)(hC:SG B0 w0 sb T f):ZE B0 w0 sb T f:=by
 intro i op r hi ho hr;refine ca.DK Tryz.func225 rfl (n:=20) rfl rfl rfl ?_;refine qe ?_;refine oS (sB rfl λb1=>oS (Jd λb2=>?_));refine wa ?_;refine oS (Jd λb3=>?_);refine wa ?_;refine oS (sF [] rfl qpd<|oS (S.Uq [_] rfl (qlV NP) (λv H' h=>?_) λch H' h=>?_))
 ·obtain⟨bB,h,rfl⟩:=h;cases h;refine Da ?_;have RR:∀ (first ib:Array Value) (fn:FuncId) (Gp F:Heap),GA sb 0 fn first ib Gp->Tb Tryz.prog fn:=λ_ _ _ _ _ h=>h.enter
  refine fb.rangeFunc (g:=.tmp 9) (ps:=[10,11]) (ib:=#[.pointer (some ⟨bB,0,none⟩)]) (by rfl) QB.length (HY QB)
   [(b3,.cells 249 [.atom (.func (.func 252) #[.pointer (some ⟨sb,0,none⟩)] #[])]),(b2,.cells 220 [str [],int .u32 0,str [],Yb]),(b1,.cells 104 [ptr sb 0]),Gb sb T i op] [(bB,.cells 212 [.list NP])]
   (perm_append_singleton _ _).symm (qtQ bB QB fa) (λk hk=>by rw[W8 k hk];rfl) (by rfl)
   (λq Hq=>∃ (fn:FuncId) (first ib:Array Value) (Gp:Heap),GA sb (6-q) fn first ib Gp/\Hq=(b3,.cells 249 [.atom (.func (.func fn) first ib)])::(b2,.cells 220 [str [],int .u32 0,str [],Yb])::(b1,.cells 104 [ptr sb 0])::Gb sb T i op::Gp)
   ⟨_,_,_,[],.un,rfl⟩ ?_ ?_
  rintro q Hq hq ⟨fn,first,ib,Gp,Wn,rfl⟩ j hjd hja l D o oD;have R3:q<6:=hq;have pd:j.s 1=ptr b1 0:=hja 1 _ rfl;have qn:j.s 3=ptr b3 0:=hja 3 _ rfl;rw[W8 q R3,<-Env.ue (e:=j) (l:=[(1,ptr b1 0),(3,ptr b3 0)]) (by
   intro p hp;simp only[zc,not_mem_nil,or_false] at hp;rcases hp with rfl|rfl;exact pd;exact qn)]
  refine Ht.seq ?_;refine Ht.region rfl ?_;refine dd ?_;refine Ht.region rfl ?_;refine Na ?_;refine⟨hjd,_,rfl,λo'=>?_⟩;refine Ht.block ?_;refine Ht.region rfl ?_;refine Na ?_;refine oS (S.Uq [_,_,_,_] rfl (J0 sb ((yi (5-q)).map str) (decide (((5-q:Nat):Int)=2)) fn first ib) (λv H' h=>?_) λch H' h=>?_);obtain⟨bo,bs,bp,bn,h,rfl⟩:=h;cases h;refine Na ?_
  refine⟨(b3,.cells 249 [.atom (.func (.func 272) #[] #[.pointer (some ⟨bo,0,none⟩),.pointer (some ⟨bs,0,none⟩),.pointer (some ⟨bp,0,none⟩),.pointer (some ⟨bn,0,none⟩)])])::(b2,.cells 220 [str [],int .u32 0,str [],Yb])::(b1,.cells 104 [ptr sb 0])::Gb sb T i op ::
   (bo,.cells 249 [.atom (.func (.func fn) first ib)])::(bs,.cells 104 [ptr sb 0])::(bp,.cells 30 [.list ((yi (5-q)).map str)])::(bn,.cells 4 [bool (decide (((5-q:Nat):Int)=2))])::Gp,?_,_,_,_,_,?_,rfl⟩
  exact tc DW (tc DW (tc pH (tc WN (tc WN (tc WN ob)))));have e1:6-(q+1)=5-q:=by omega
  have e2:6-q=5-q+1:=by omega
  rw[e1];rw[e2] at Wn;exact .bin Wn;obtain⟨_,_,_,_,h,_⟩:=h;cases h;rintro D H' ⟨fn,first,ib,Gp,Wn,rfl⟩;have FI:GA sb 0 fn first ib Gp:=Wn
  have BI:=RR _ _ _ _ [] FI;refine Da ?_;refine cW (H':=(D,.obj (.deferred (some [])))::(b3,.cells 249 [.atom (.func (.func fn) first ib)])::(b2,.cells 220 [str [],int .u32 0,str [],Yb])::(b1,.cells 104 [ptr sb 0])::Gb sb T i op::Gp) ⟨[(bB,.cells 212 [.list NP])],List.Perm.refl _⟩ ?_;refine wa ?_;refine oS (S.Jo (F:=[(D,.obj (.deferred (some []))),(b3,.cells 249 [.atom (.func (.func fn) first ib)]),(b2,.cells 220 [str [],int .u32 0,str [],Yb]),(b1,.cells 104 [ptr sb 0])]) (Hc:=Gp) rfl WN (hC _ _ _ _ _ _ _ r FI hi ho hr) (λv i1 Nc h1=>?_) λl er i1 Nc h1 e' Ka=>?_);refine Na ?_;exact ND.GQ rfl _ Fi (rC (rA rfl nc rfl Nd) rN) (tc Od yd) (by rw[h1];exact⟨rfl,rfl⟩);refine Ei ?_;refine ND.LF (Ka.trans rfl) (Gb sb T i1 Nc::(Gp++[(b3,.cells 249 [.atom (.func (.func fn) first ib)]),(b2,.cells 220 [str [],int .u32 0,str [],Yb]),(b1,.cells 104 [ptr sb 0])])) ?_ qd (by rw[h1];exact⟨rfl,i1,Nc,rfl⟩);exact(Vs _ List.perm_middle).trans (cr _ _ _)
 obtain⟨bB,h,_⟩:=h;cases h
theorem XY(hG:GW B0 w0)(sb:Nat)(T:List Tok)(hT:Rs T):∀ f:Nat,SG B0 w0 sb T f/\ZE B0 w0 sb T f:=by
 intro f;induction f using Nat.strongRecOn with
 |_ f ih=>
  have hC:SG B0 w0 sb T f:=by
   intro k fn first ib Hc i op r Wn hi ho hr
   cases Wn with
   |un=>
    obtain⟨f,rfl⟩:∃ g,f=g+1:=by
     cases f with
     |zero=>rw[Eg] at hr;cases hr
     |succ g=>exact⟨g,rfl⟩
    rw[Eg,zp rfl] at hr;refine ca.mono (qrA hG sb T hT f (λg hg=>(ih g zo).2) i op r hi ho hr) ?_;intro r' H h
    cases r with
    |ok v i' Qa=>exact h
    |err l e=>exact h
   |bin h=>exact qwM hG sb T hT f (λg hg=>(ih g hg).1) _ _ _ _ _ _ _ _ _ h i op r hi ho hr
  exact⟨hC,SJ sb T f hC⟩
def E7(l:List Sm):LV:=.list (l.map lc)
def BX(B0:Nat)(w0:World)(sb:Nat)(T:List Tok)(f:Nat):Prop:=
 ∀ i op r,i<=T.length->op<=100->jB T f i op=some r->ca (KC B0 w0) 226 [ptr sb 0] [Gb sb T i op] (Gn sb T E7 r)
def uX(B0:Nat)(w0:World)(sb:Nat)(T:List Tok)(f:Nat):Prop:=
 ∀ i op r,i<=T.length->op<=100->Sy T f [] i op=some r->ca (KC B0 w0) 153 [ptr sb 0] [Gb sb T i op] (Gn sb T E7 r)
def lX(B0:Nat)(w0:World)(sb:Nat)(T:List Tok)(f:Nat):Prop:=
 ∀ i op r,i<=T.length->op<=100->YE T f i op=some r->ca (KC B0 w0) 200 [ptr sb 0] [Gb sb T i op] (Gn sb T lc r)
def mY(B0:Nat)(w0:World)(sb:Nat)(T:List Tok)(f:Nat):Prop:=
 ∀ i op r,i<=T.length->op<=100->nF T f i op=some r->ca (KC B0 w0) 227 [ptr sb 0] [Gb sb T i op] (Gn sb T lc r)
theorem mV(sb:Nat)(T:List Tok)(hT:Rs T)(f:Nat)(hS:uX B0 w0 sb T f):BX B0 w0 sb T (f+1):=by intro i op r hi ho hr;have hl:=hT.len;rw[jB] at hr;refine kb Tryz.func226 rfl (n:=11) rfl rfl rfl ?_;refine di ?_;refine oS (sP [_,_] rfl pH (wF sb T i op [123] hl zo zo) (λv i1 Nc h1=>?_) λl er i1 Nc h1 e9 lj=>?_);rotate_left;exact rE;rw[h1,Ee] at hr;obtain⟨rfl,rfl,pw,zA⟩:=Pv h1;refine Di ?_;obtain⟨r1,oe⟩:=Ek hr;refine oS (sP [_] rfl pH (hS _ _ r1 zo zo oe) (λl i2 Lg h2=>?_) λl er i2 Lg h2 e9 lj=>?_);rotate_left;rw[oe,h2,zh] at hr;refine Qd ?_;exact Gc po (by cases hr;rfl) qd;rw[oe,h2,Ee] at hr;obtain⟨g1,_,g3,rfl⟩:=(KJ T f).2.1 _ _ _ _ (oe.trans (congrArg some h2));have g4:=g3 zo;refine wa ?_;refine oS (sP [_,_] rfl pH (NJ sb T i2 (op+1) [125] hl zo zo zo) (λu i3 yg h3=>?_) λl er i3 yg h3 e9 lj=>?_);rotate_left;exact qE;rw[h3,Ee] at hr;refine wa ?_;exact Hf (v:=l) rfl (rC (rT (v:=.list _) rfl Nd) rN) (by cases hr;rfl) rfl ob
theorem yQ(sb:Nat)(T:List Tok)(hT:Rs T)(f:Nat)(hS:∀ g,g<f->lX B0 w0 sb T g):uX B0 w0 sb T f:=by
 intro i op r hi ho hr;have hl:=hT.len;refine kb Tryz.func153 rfl (n:=14) rfl rfl rfl ?_;refine xa ?_;refine oL (λk ls H=>∃ (v:LV) (l:List Sm) (i2:Nat) (Ha:Heap),k<=f/\ls=[(0,ptr sb 0),(3,v)]/\H=Gb sb T i2 op::Ha/\Acc 6 v (l.map lc) Ha []/\i2<=T.length/\l.length<=i2+1/\Sy T k l i2 op=some r)
  ⟨f,_,Gb sb T i op::[],⟨Yb,[],i,_,Jb _,rfl,rfl,Acc.nil,by omega,by simp,hr⟩,lb,Kb _⟩ ?_
 rintro k ls H ⟨v,l,i2,Ha,L4,rfl,rfl,Ra,xw,aE,hI⟩ j hj;obtain⟨k,rfl⟩:∃ k',k=k'+1:=by
  cases k with
  |zero=>rw[Sy] at hI;cases hI
  |succ k=>exact⟨k,rfl⟩
 rw[Sy] at hI;refine Bd ?_;refine tj ?_;refine oS (sH [_,_] rfl pH (Jt sb T i2 op [[125]] hl zo (by simp)) ?_);refine Na ?_;refine Ma (λhc=>?_) λhc=>?_
 ·have Il:nf T i2 [[125]]=false:=by simpa using hc
  rw[zn (by rw[Il];decide)] at hI;refine vy ?_;obtain⟨r2,ae⟩:=Ek hI;refine oS (sP [_] rfl pH (hS k zo _ _ r2 zo zo ae) (λe2 i4 jn h4=>?_) λl er i4 jn h4 e9 lj=>?_);rotate_left;rw[ae,h4,zh] at hI;refine Qd ?_;exact Gc po (by cases hI;rfl) qd;rw[ae,h4,Ee] at hI;obtain⟨g1,g2,g3,rfl⟩:=(KJ T k).2.2.1 _ _ _ (ae.trans (congrArg some h4));have g5:=g3 zo;have g6:=g2 rfl;refine tj ?_;refine oS (S.Jw rfl Ra rfl (by simp;rfl) rfl (by simp;omega) λv' H' ab=>?_);refine rm ?_;refine Da ?_;exact⟨k,_,_,by omega,⟨v',l++[e2],i4,H',by omega,rfl,rfl,by rw[Je];exact ab,by omega,by simp;omega,hI⟩,lb,Kb _,hj⟩
 have Il:nf T i2 [[125]]=true:=by simpa using hc
 rw[zp Il] at hI;refine xa ?_;refine LA ?_;exact Hf (v:=l) hj (rC (rT (v:=v) rfl Ra.sub) rN) (by cases hI;rfl) rfl qd
theorem qyw(s:List UInt8)(l:List Ex):lc (.mk 6 [] [] [.mk eg 0 s l] [] [])=.agg [int .i64 6,str [],.list [],.list [.agg [str eg,int .u32 0,str s,.list (l.map Ab)]],.list [],.list []]:=by rw[Mv,jd,uB];rfl
theorem qoq(sb:Nat)(T:List Tok)(hT:Rs T)(f:Nat)(hE:∀ g,g<=f->ZE B0 w0 sb T g):mY B0 w0 sb T (f+1):=by
 intro i op r hi ho hr;have hl:=hT.len;obtain⟨gL,_,_,_,gI,gA,_⟩:=ux T f;rw[nF] at hr;refine kb Tryz.func227 rfl (n:=46) rfl rfl rfl ?_;refine qe ?_;refine oS (Jd λb2=>?_);refine xa ?_;refine oS (sH [_,_] rfl Od (QD sb T i op qqw hl zo) ?_);refine dd ?_;refine Ma (λhc=>?_) λhc=>?_
 ·have Ja:=Dk hc;rw[zp hc] at hr;simp only[hc,if_true];refine Bd ?_;obtain⟨r1,oe⟩:=Ek hr;refine oS (sP [_] rfl pH (hE f zo _ _ r1 zo zo oe) (λv i1 Nc h1=>?_) λl er i1 Nc h1 e9 lj=>?_);rotate_left;exact yE;rw[oe,h1,Ee] at hr;refine tj ?_;refine Na ?_;exact Hf (v:=.mk 5 [] [] [v] [] []) rfl (rC (rA (k:=6) rfl nc rfl (vA (bs:=[_,_,.list [],_,.list [],.list []]) ⟨vR _,vR _,vN,vR _,vN,vN,trivial⟩)) rN) (by cases hr;rfl) (by rw[Mv];rfl) (tc Od yd)
 rw[zn (by rw[hc];decide)] at hr;simp only[hc,Uk,if_false];refine Bd ?_;refine oS (sH [_,_] rfl pH (QD sb T i op A8 hl zo) ?_);refine dd ?_;refine Ma (λef=>?_) λef=>?_;have Ja:=Dk ef;rw[zp ef] at hr;simp only[ef,if_true];refine wa ?_;exact Hf (v:=.mk 7 [] [] [] [] []) rfl (rC (rA (k:=6) rfl nc rfl (vA (bs:=[_,_,.list [],.list [],.list [],.list []]) ⟨vR _,vR _,vN,vN,vN,vN,trivial⟩)) rN) (by cases hr;rfl) (by rw[Mv];rfl) (tc Od yd);rw[zn (by rw[ef];decide)] at hr;simp only[ef,Uk,if_false];refine xa ?_;refine oS (sP [_,_] rfl pH (gn sb T i op 2 hl zo) (λs i1 Nc h1=>?_) λl er i1 Nc h1 e9 lj=>?_);rotate_left;exact rE;rw[h1,Ee] at hr;obtain⟨rfl,rfl,t,ht,_,_⟩:=oF h1;have:=BJ ht;refine wa ?_;refine oS (Jd λb4=>?_);refine wa ?_;refine tj ?_;refine oS (sH [_,_] rfl Od (Jt sb T (i+1) Nc [[40]] hl zo (by simp)) ?_);refine dd ?_;refine Ma (λHl=>?_) λHl=>?_
 ·rw[zp Hl] at hr;refine Bd ?_;obtain⟨r1,oe⟩:=Ek hr;refine oS (sP [_] rfl pH (qne sb T hT f (λg hg=>hE g zo) (i+1) Nc r1 zo zo oe) (λl i2 Lg h2=>?_) λl er i2 Lg h2 e9 lj=>?_);rotate_left;rw[oe,h2,zh] at hr;refine Qd ?_;exact Gc po (by cases hr;rfl) qd;rw[oe,h2,Ee] at hr;refine Na ?_;refine tj ?_;refine Na ?_;exact Hf (v:=.mk 6 [] [] [.mk eg 0 s l] [] []) rfl (rC (rA (k:=6) rfl nc rfl (vA (bs:=[_,_,.list [],_,.list [],.list []]) ⟨vR _,vR _,vN,vR _,vN,vN,trivial⟩)) rN) (by cases hr;rfl) (by rw[qyw];rfl) (tc Od yd)
 rw[zn (by rw[Hl];decide)] at hr;refine Bd ?_;refine tj ?_;refine oS (sH [_,_] rfl pH (Jt sb T (i+1) Nc [[91]] hl zo (by simp)) ?_);refine dd ?_;refine Ma (λGl=>?_) λGl=>?_
 ·rw[zp Gl] at hr;refine Bd ?_;obtain⟨r1,oe⟩:=Ek hr;refine oS (sP [_] rfl pH (qjS sb T hT f (λg hg=>hE g zo) (i+1) Nc r1 zo zo oe) (λx i2 Lg h2=>?_) λl er i2 Lg h2 e9 lj=>?_);rotate_left;rw[oe,h2,zh] at hr;refine Qd ?_;exact Gc po (by cases hr;rfl) qd;rw[oe,h2,Ee] at hr;obtain⟨q1,q2,q3,rfl⟩:=gI _ _ _ (oe.trans (congrArg some h2));have q4:=q3 zo;refine tj ?_;refine wa ?_;refine oS (sP [_,_] rfl Od (bK sb T i2 Lg [61] hl zo) (λu i3 yg h3=>?_) λl er i3 yg h3 e9 lj=>?_);rotate_left;exact qE;rw[h3,Ee] at hr;have wI:=yx T [61] i2 Lg;rw[h3] at wI;obtain⟨k1,k2,k3,rfl⟩:=wI;have k4:=k3 q4;refine Di ?_;obtain⟨r2,ae⟩:=Ek hr;refine oS (sP [_] rfl pH (hE f zo _ _ r2 zo zo ae) (λv i4 jn h4=>?_) λl er i4 jn h4 e9 lj=>?_);rotate_left;rw[ae,h4,zh] at hr;refine Qd ?_;exact Gc po (by cases hr;rfl) qd;rw[ae,h4,Ee] at hr;refine tj ?_;refine wa ?_;exact Hf (v:=.mk 2 s [x] [v] [] []) rfl (rC (rA (k:=6) rfl nc rfl (vA (bs:=[_,_,_,_,.list [],.list []]) ⟨vR _,vR _,vR _,vR _,vN,vN,trivial⟩)) rN) (by cases hr;rfl) (by rw[Mv];rfl) (tc Fi yd)
 rw[zn (by rw[Gl];decide)] at hr;refine xa ?_;refine oS (sP [_,_] rfl pH (bK sb T (i+1) Nc [61] hl zo) (λu i3 yg h3=>?_) λl er i3 yg h3 e9 lj=>?_);rotate_left;exact qE;rw[h3,Ee] at hr;have wI:=yx T [61] (i+1) Nc;rw[h3] at wI;obtain⟨k1,k2,k3,rfl⟩:=wI;have k4:=k3 zo;refine Di ?_;obtain⟨r2,ae⟩:=Ek hr;refine oS (sP [_] rfl pH (hE f zo _ _ r2 zo zo ae) (λv i4 jn h4=>?_) λl er i4 jn h4 e9 lj=>?_);rotate_left;rw[ae,h4,zh] at hr;refine Qd ?_;exact Gc po (by cases hr;rfl) qd;rw[ae,h4,Ee] at hr;refine tj ?_;refine wa ?_;exact Hf (v:=.mk 1 s [] [v] [] []) rfl (rC (rA (k:=6) rfl nc rfl (vA (bs:=[_,_,.list [],_,.list [],.list []]) ⟨vR _,vR _,vN,vR _,vN,vN,trivial⟩)) rN) (by cases hr;rfl) (by rw[Mv];rfl) (tc Fi yd)
theorem WU(sb:Nat)(T:List Tok)(hT:Rs T)(f:Nat)(hE:∀ g,g<=f->ZE B0 w0 sb T g)(hB:BX B0 w0 sb T f)(hM:mY B0 w0 sb T f):lX B0 w0 sb T (f+1):=by
 intro i op r hi ho hr;have hl:=hT.len;obtain⟨gL,_,_,_,gI,gA,_⟩:=ux T f;obtain⟨kB,kL,kS,kM⟩:=KJ T f;rw[YE] at hr;refine kb Tryz.func200 rfl (n:=38) rfl rfl rfl ?_;refine qe ?_;refine oS (Jd λb2=>?_);refine xa ?_;refine oS (sH [_,_] rfl Od (QD sb T i op MQ hl zo) ?_);refine dd ?_;refine Ma (λhc=>?_) λhc=>?_
 ·have Ja:=Dk hc;rw[zp hc] at hr;simp only[hc,if_true];refine Bd ?_;obtain⟨r1,oe⟩:=Ek hr;refine oS (sP [_] rfl pH (hE f zo _ _ r1 zo zo oe) (λv i1 Nc h1=>?_) λl er i1 Nc h1 e9 lj=>?_);rotate_left;exact yE;rw[oe,h1,Ee] at hr;obtain⟨g1,g2,g3,rfl⟩:=gL 0 _ _ _ (oe.trans (congrArg some h1));have g4:=g3 zo;refine tj ?_;refine Na ?_;refine oS (Jd λb3=>?_);refine wa ?_;obtain⟨r2,ae⟩:=Ek hr;refine oS (sP [_] rfl Od (hB _ _ r2 zo zo ae) (λth i2 Lg h2=>?_) λl er i2 Lg h2 e9 lj=>?_);rotate_left;rw[ae,h2,zh] at hr;refine Qd ?_;exact Gc po (by cases hr;rfl) qd;rw[ae,h2,Ee] at hr;obtain⟨q1,q2,q3,rfl⟩:=kB _ _ _ (ae.trans (congrArg some h2));have q4:=q3 zo;refine wa ?_;refine oS (sH [_,_] rfl Od (QD sb T i2 Lg Y8 hl zo) ?_);refine dd ?_;refine Ma (λef=>?_) λef=>?_
  ·have uw:=Dk ef;rw[zp ef] at hr;simp only[ef,if_true];refine Bd ?_;obtain⟨r3,nC⟩:=Ek hr;refine oS (sP [_] rfl pH (hB _ _ r3 zo zo nC) (λel i3 yg h3=>?_) λl er i3 yg h3 e9 lj=>?_);rotate_left;rw[nC,h3,zh] at hr;refine Qd ?_;exact Gc po (by cases hr;rfl) qd;rw[nC,h3,Ee] at hr;refine wa ?_;exact Hf (v:=.mk 3 [] [] [v] th el) rfl (rC (rA (k:=6) rfl nc rfl (vA (bs:=[_,_,.list [],_,_,_]) ⟨vR _,vR _,vN,vR _,vR _,vR _,trivial⟩)) rN) (by cases hr;rfl) (by rw[Mv];rfl) (tc Fi yd)
  rw[zn (by rw[ef];decide)] at hr;simp only[ef,Uk,if_false];refine wa ?_;exact Hf (v:=.mk 3 [] [] [v] th []) rfl (rC (rA (k:=6) rfl nc rfl (vA (bs:=[_,_,.list [],_,_,.list []]) ⟨vR _,vR _,vN,vR _,vR _,vN,trivial⟩)) rN) (by cases hr;rfl) (by rw[Mv];rfl) (tc Od yd)
 rw[zn (by rw[hc];decide)] at hr;simp only[hc,Uk,if_false];refine Bd ?_;refine oS (sH [_,_] rfl pH (QD sb T i op W9 hl zo) ?_);refine dd ?_;refine Ma (λef=>?_) λef=>?_
 ·have Ja:=Dk ef;rw[zp ef] at hr;simp only[ef,if_true];refine Bd ?_;obtain⟨r1,oe⟩:=Ek hr;refine oS (sP [_] rfl pH (hE f zo _ _ r1 zo zo oe) (λv i1 Nc h1=>?_) λl er i1 Nc h1 e9 lj=>?_);rotate_left;exact yE;rw[oe,h1,Ee] at hr;obtain⟨g1,g2,g3,rfl⟩:=gL 0 _ _ _ (oe.trans (congrArg some h1));have g4:=g3 zo;refine tj ?_;refine Na ?_;refine oS (Jd λb3=>?_);refine wa ?_;obtain⟨r2,ae⟩:=Ek hr;refine oS (sP [_] rfl Od (hB _ _ r2 zo zo ae) (λth i2 Lg h2=>?_) λl er i2 Lg h2 e9 lj=>?_);rotate_left;rw[ae,h2,zh] at hr;refine Qd ?_;exact Gc po (by cases hr;rfl) qd;rw[ae,h2,Ee] at hr;refine wa ?_;exact Hf (v:=.mk 4 [] [] [v] th []) rfl (rC (rA (k:=6) rfl nc rfl (vA (bs:=[_,_,.list [],_,_,.list []]) ⟨vR _,vR _,vN,vR _,vR _,vN,trivial⟩)) rN) (by cases hr;rfl) (by rw[Mv];rfl) (tc Fi yd)
 rw[zn (by rw[ef];decide)] at hr;simp only[ef,Uk,if_false];refine xa ?_;obtain⟨r1,oe⟩:=Ek hr;refine oS (sP [_] rfl pH (hM _ _ r1 zo zo oe) (λv i1 Nc h1=>?_) λl er i1 Nc h1 e9 lj=>?_);rotate_left;exact yE;rw[oe,h1,Ee] at hr;obtain⟨g1,g2,g3,rfl⟩:=kM _ _ _ (oe.trans (congrArg some h1));have g4:=g3 zo;refine oS (Jd λb5=>?_);refine wa ?_;refine oS (sP [_,_] rfl Od (bK sb T i1 Nc [59] hl zo) (λu i2 Lg h2=>?_) λl er i2 Lg h2 e9 lj=>?_);rotate_left;rw[h2,zh] at hr;refine Qd ?_;exact Gc po (by cases hr;rfl) qd;rw[h2,Ee] at hr;refine wa ?_;exact Hf (v:=v) rfl (rC (rA rfl nc rfl Nd) rN) (by cases hr;rfl) rfl (tc Od yd)
theorem qAf(hG:GW B0 w0)(sb:Nat)(T:List Tok)(hT:Rs T):∀ f:Nat,BX B0 w0 sb T f/\uX B0 w0 sb T f/\lX B0 w0 sb T f/\mY B0 w0 sb T f:=by
 intro f;induction f using Nat.strongRecOn with
 |_ f ih=>
  have hE:=λg=>(XY (B0:=B0) (w0:=w0) hG sb T hT g).2
  cases f with
  |zero=>refine⟨?_,yQ sb T hT 0 (λg hg=>by omega),?_,?_⟩;intro i op r _ _ hr;rw[jB] at hr;cases hr;intro i op r _ _ hr;rw[YE] at hr;cases hr;intro i op r _ _ hr;rw[nF] at hr;cases hr
  |succ f=>have h:=ih f zo;exact⟨mV sb T hT f h.2.1,yQ sb T hT _ λg hg=>(ih g hg).2.2.1,WU sb T hT f (λg _=>hE g) h.1 h.2.2.2,qoq sb T hT f λg _=>hE g⟩
theorem qhR(T:List Tok):∀ (f:Nat) (acc:List (List UInt8)) (i op:Nat) (l:List (List UInt8)) (i' Qa:Nat),nA T f acc i op=some (.ok l i' Qa)->l.length+i<=acc.length+i'
 |0,_,_,_,_,_,_,h=>by rw[nA] at h;cases h
 |f+1,acc,i,op,l,i',Qa,h=>by rw[nA] at h;split at h;rcases Zo h with⟨s,i1,Nc,h1,h2⟩|⟨l,e,_,hh⟩;injection h1 with h1;obtain⟨rfl,rfl,_⟩:=oF h1;have:=qhR T f _ _ _ _ _ _ h2;rw[Ga,length_singleton] at this;omega;cases hh;cases h;omega
theorem qmV{T:List Tok}{f i op:Nat}{l:List (List UInt8)}{i' Qa:Nat}(h:dH T f i op=some (.ok l i' Qa)):l.length+i<=i':=by unfold dH at h;rcases Zo h with⟨s,i1,Nc,h1,h2⟩|⟨l,e,_,hh⟩;injection h1 with h1;obtain⟨rfl,rfl,_⟩:=oF h1;have:=qhR T f _ _ _ _ _ _ h2;rw[length_singleton] at this;omega;cases hh
theorem vY(T:List Tok):∀ (f:Nat) (acc:List (List UInt8)) (i op:Nat) (l:List (List UInt8)) (i' Qa:Nat),Cv T f acc i op=some (.ok l i' Qa)->l.length+i<=acc.length+i'
 |0,_,_,_,_,_,_,h=>by rw[Cv] at h;cases h
 |f+1,acc,i,op,l,i',Qa,h=>by rw[Cv] at h;split at h;rcases Zo h with⟨s,i1,Nc,h1,h2⟩|⟨l,e,_,hh⟩;have:=qmV h1;rcases Zo h2 with⟨u,i2,Lg,h3,h4⟩|⟨l,e,_,hh⟩;injection h3 with h3;have hg:=yx T [59] i1 Nc;rw[h3] at hg;have hv:=vY T f _ _ _ _ _ _ h4;have:=hg.1;rw[Ga] at hv;omega;cases hh;cases hh;cases h;omega
theorem mZ(sb:Nat)(T:List Tok)(hT:Rs T)(f i op:Nat)(r:Jj (List (List UInt8)))(hi:i<=T.length)(hr:Cv T f [] i op=some r) :
  ca (KC B0 w0) 77 [ptr sb 0] [Gb sb T i op] (Gn sb T qp3 r):=by
 have hl:=hT.len;refine kb Tryz.func77 rfl (n:=13) rfl rfl rfl ?_;refine xa ?_;refine oL (λk ls H=>∃ (v:LV) (l:List (List UInt8)) (i2:Nat) (Ha:Heap),k<=f/\ls=[(0,ptr sb 0),(3,v)]/\H=Gb sb T i2 op::Ha/\Acc 1 v (l.map str) Ha []/\i2<=T.length/\l.length<=i2/\Cv T k l i2 op=some r)
  ⟨f,_,Gb sb T i op::[],⟨Yb,[],i,_,Jb _,rfl,rfl,Acc.nil,by omega,by simp,hr⟩,lb,Kb _⟩ ?_
 rintro k ls H ⟨v,l,i2,Ha,L4,rfl,rfl,Ra,xw,aE,hI⟩ j hj;obtain⟨k,rfl⟩:∃ k',k=k'+1:=by
  cases k with
  |zero=>rw[Cv] at hI;cases hI
  |succ k=>exact⟨k,rfl⟩
 rw[Cv] at hI;refine Bd ?_;refine oS (sH [_,_] rfl pH (QD sb T i2 op cP hl zo) ?_);refine dd ?_;refine Ma (λhc=>?_) λhc=>?_
 ·have Ja:=Dk hc;rw[zp hc] at hI;simp only[hc,if_true];refine vy ?_;obtain⟨r2,ae⟩:=Ek hI;refine oS (sP [_] rfl pH (qjF sb T hT k (i2+1) op r2 zo ae) (λns i4 jn h4=>?_) λl er i4 jn h4 e9 lj=>?_);rotate_left;rw[ae,h4,zh] at hI;refine Qd ?_;exact Gc po (by cases hI;rfl) qd;rw[ae,h4,Ee] at hI;obtain⟨g1,g2,g3,rfl⟩:=jK T k _ _ _ (ae.trans (congrArg some h4));have g5:=g3 zo;have g6:=qmV (ae.trans (congrArg some h4));refine oS (S.Jw (ms:=ns.map str) rfl Ra rfl (zH ns) (MJ ns) (by simp;omega) λv' H' ab=>?_);refine rm ?_;refine Di ?_;refine oS (sP [_,_] rfl pH (bK sb T i4 jn [59] hl zo) (λu i5 qK h5=>?_) λl er i5 qK h5 e9 lj=>?_);rotate_left;rw[h5,zh] at hI;refine Qd ?_;exact Gc po (by cases hI;rfl) qd;rw[h5,Ee] at hI;have hg5:=yx T [59] i4 jn;rw[h5] at hg5;obtain⟨k1,k2,k3,rfl⟩:=hg5;have k4:=k3 g5;refine Da ?_;exact⟨k,_,_,by omega,⟨v',l++ns,i5,H',by omega,rfl,rfl,by rw[Je];exact ab,by omega,by rw[Ga];omega,hI⟩,lb,Kb _,hj⟩
 rw[zn (by rw[hc];decide)] at hI;simp only[hc,Uk,if_false];refine xa ?_;refine LA ?_;exact Hf (v:=l) hj (rC (rT (v:=v) rfl Ra.sub) rN) (by cases hI;rfl) rfl qd
theorem uQ(hG:GW B0 w0)(sb:Nat)(T:List Tok)(hT:Rs T)(i op:Nat)(r:Jj Ar)(hi:i<=T.length)(ho:op<=100)(hr:HJ T i op=some r) :
  ca (KC B0 w0) 79 [ptr sb 0] [Gb sb T i op] (Gn sb T zJ r):=by
 have hl:=hT.len;unfold HJ at hr;refine kb Tryz.func79 rfl (n:=18) rfl rfl rfl ?_;refine qe ?_;refine oS (Jd λb2=>?_);refine Di ?_;refine oS (sP [_,_] rfl Od (gn sb T i op 2 hl zo) (λs i1 Nc h1=>?_) λl er i1 Nc h1 e9 lj=>?_);rotate_left;exact rE;rw[h1,Ee] at hr;obtain⟨rfl,rfl,t,ht,_,_⟩:=oF h1;have:=BJ ht;refine Na ?_;refine oS (Jd λb3=>?_);refine wa ?_;refine oS (sP [_,_] rfl Od (wF sb T (i+1) Nc [91] hl zo zo) (λv i2 Lg h2=>?_) λl er i2 Lg h2 e9 lj=>?_);rotate_left;rw[h2,zh] at hr;refine Qd ?_;exact Gc po (by cases hr;rfl) qd;rw[h2,Ee] at hr;obtain⟨rfl,rfl,pw,zA⟩:=Pv h2;refine Di ?_;refine oS (sP [_] rfl pH (qiZ hG sb T hT (i+1+1) (Nc+1) zo) (λm i3 yg h3=>?_) λl er i3 yg h3 e9 lj=>?_);rotate_left;exact qE;rw[h3,Ee] at hr;have wI:=X0 T (i+1+1) (Nc+1);rw[h3] at wI;obtain⟨k1,k2,k3,rfl⟩:=wI;have k4:=k3 zo
 have hm:m<=4294967295:=by unfold tH at h3;unfold Jj.bind at h3;split at h3;rename_i s2 i6 P1 h6;cases h3;obtain⟨_,_,t6,ht6,EC,rfl⟩:=oF h6;obtain⟨u,hu,hp⟩:=hT.num t6 (List.mem_of_getElem? ht6) EC;rw[Lu,hp];simp only;omega;cases h3
 have hw:IntKind.i64.wrap (m:Int)=(m:Int):=Nt zo;refine wa ?_;refine oS (sP [_,_] rfl Od (NJ sb T i3 (Nc+1) [93] hl zo zo zo) (λu i4 jn h4=>?_) λl er i4 jn h4 e9 lj=>?_);rotate_left;rw[h4,zh] at hr;refine Qd ?_;exact Gc po (by cases hr;rfl) qd;rw[h4,Ee] at hr;obtain⟨rfl,rfl,HN⟩:=JJ h4;refine Di ?_;refine oS (sP [_,_] rfl pH (bK sb T (i3+1) jn [59] hl zo) (λu2 i5 qK h5=>?_) λl er i5 qK h5 e9 lj=>?_);rotate_left;rw[h5,zh] at hr;refine Qd ?_;exact Gc po (by cases hr;rfl) qd;rw[h5,Ee] at hr;refine wa ?_;exact Hf (v:=⟨s,m⟩) rfl (rC (rA (k:=2) rfl nc rfl Nd) rN) (by cases hr;rfl) (by show LV.agg [str s,int .i64 (IntKind.i64.wrap m)]=zJ ⟨s,m⟩;rw[hw];rfl) (tc Od yd)
theorem qnE(hG:GW B0 w0)(sb:Nat)(T:List Tok)(hT:Rs T)(f i op:Nat)(r:Jj Pb)(hi:i<=T.length)(ho:op<=100)(hr:xJ T f i op=some r) :
  ca (KC B0 w0) 80 [ptr sb 0] [Gb sb T i op] (Gn sb T pg r):=by
 have hl:=hT.len;unfold xJ at hr;refine kb Tryz.func80 rfl (n:=29) rfl rfl rfl ?_;refine qe ?_;refine oS (Jd λb2=>?_);refine Di ?_;refine oS (sP [_,_] rfl Od (gn sb T i op 2 hl zo) (λs i1 Nc h1=>?_) λl er i1 Nc h1 e9 lj=>?_);rotate_left;exact rE;rw[h1,Ee] at hr;obtain⟨rfl,rfl,t,ht,_,_⟩:=oF h1;have:=BJ ht;refine Na ?_;refine oS (Jd λb3=>?_);refine wa ?_;refine oS (sP [_,_] rfl Od (wF sb T (i+1) Nc [40] hl zo zo) (λv i2 Lg h2=>?_) λl er i2 Lg h2 e9 lj=>?_);rotate_left;rw[h2,zh] at hr;refine Qd ?_;exact Gc po (by cases hr;rfl) qd;rw[h2,Ee] at hr;obtain⟨rfl,rfl,pw,zA⟩:=Pv h2;refine Di ?_;refine tj ?_;refine oS (sH [_,_] rfl pH (Jt sb T (i+1+1) (Nc+1) [[41]] hl zo (by simp)) ?_);refine Na ?_;obtain⟨r3,nC⟩:=Ek hr
 refine fb.mid (A:=List (List UInt8)×Nat) (λ_=>[(0,ptr sb 0),(2,ptr b2 0),(3,ptr b3 0)]) (λa=>(b3,.cells 168 [str s,.list (a.1.map str),Yb,Yb])::Gb sb T a.2 (Nc+1)::[(b2,.cells 168 [str [],Yb,Yb,Yb])])
  (λa=>i+1+1<=a.2/\a.2<=T.length/\r3=.ok a.1 a.2 (Nc+1)) ?_ ?_
 refine Ma (λhc=>?_) λhc=>?_;have Il:nf T (i+1+1) [[41]]=false:=by simpa using hc
 rw[zn (by rw[Il];decide)] at nC;refine Bd ?_;refine oS (sP [_] rfl pH (qjF sb T hT f (i+1+1) (Nc+1) r3 zo nC) (λns i3 yg h3=>?_) λl er i3 yg h3 e9 lj=>?_);obtain⟨g1,g2,g3,rfl⟩:=jK T f _ _ _ (nC.trans (congrArg some h3));have g5:=g3 zo;refine Na ?_;exact⟨(ns,i3),⟨by omega,g5,h3⟩,lb,rfl,rfl⟩;rw[zn (by rw[Il];decide),nC,h3,zh] at hr;refine Ei ?_;exact Gc (lj.trans rfl) (by cases hr;rfl) qd;have Il:nf T (i+1+1) [[41]]=true:=by simpa using hc
 rw[zp Il] at nC;cases nC;refine fb.gy Od (Ob:=[str s,.list [],Yb,Yb]) ⟨vR _,vN,vR _,vR _,trivial⟩ ?_;refine Da ?_;exact⟨([],i+1+1),⟨Jb _,by omega,rfl⟩,lb,rfl,rfl⟩;rintro⟨ps,i3⟩ ⟨hi3,aav,rfl⟩ j hj;rw[nC,Ee] at hr;refine Bd ?_;refine oS (sP [_,_] rfl Od (NJ sb T i3 (Nc+1) [41] hl zo zo zo) (λu i4 jn h4=>?_) λl er i4 jn h4 e9 lj=>?_);rotate_left;rw[h4,zh] at hr;refine Qd ?_;exact Gc po (by cases hr;rfl) qd;rw[h4,Ee] at hr;obtain⟨rfl,rfl,HN⟩:=JJ h4;refine Di ?_;refine oS (sP [_,_] rfl pH (wF sb T (i3+1) jn [123] hl zo zo) (λu2 i5 qK h5=>?_) λl er i5 qK h5 e9 lj=>?_);rotate_left;rw[h5,zh] at hr;refine Qd ?_;exact Gc po (by cases hr;rfl) qd;rw[h5,Ee] at hr;obtain⟨rfl,rfl,ho5,hi5⟩:=Pv h5;refine Di ?_;obtain⟨r6,VV⟩:=Ek hr;refine oS (sP [_] rfl pH (mZ sb T hT f (i3+1+1) (jn+1) r6 zo VV) (λvs i6 P1 h6=>?_) λl er i6 P1 h6 e9 lj=>?_);rotate_left;rw[VV,h6,zh] at hr;refine Qd ?_;exact Gc po (by cases hr;rfl) qd;rw[VV,h6,Ee] at hr;obtain⟨g1,g2,g3,rfl⟩:=MH T f _ _ _ _ (VV.trans (congrArg some h6));have g4:=g3 zo;refine wa ?_;obtain⟨r7,SV⟩:=Ek hr;refine oS (sP [_] rfl Od ((qAf hG sb T hT f).2.1 i6 (jn+1) r7 zo zo SV) (λss i7 op7 h7=>?_) λl er i7 op7 h7 e9 lj=>?_);rotate_left;rw[SV,h7,zh] at hr;refine Qd ?_;exact Gc po (by cases hr;rfl) qd;rw[SV,h7,Ee] at hr;obtain⟨q1,q2,q3,rfl⟩:=(KJ T f).2.1 _ _ _ _ (SV.trans (congrArg some h7));have q4:=q3 zo;refine wa ?_;refine oS (sP [_,_] rfl Od (NJ sb T i7 (jn+1) [125] hl zo zo zo) (λu3 i8 op8 h8=>?_) λl er i8 op8 h8 e9 lj=>?_);rotate_left;rw[h8,zh] at hr;refine Qd ?_;exact Gc po (by cases hr;rfl) qd;rw[h8,Ee] at hr;refine wa ?_;exact Hf (v:=⟨s,ps,vs,ss⟩) hj (rC (rA (k:=4) rfl nc rfl Nd) rN) (by cases hr;rfl) rfl (tc Od yd)
theorem qAo{a b c:Nat×ma}:(a::b::c::(X++(Y++Z))).Perm (X++(a::b::c::(Y++Z))):=List.perm_append_comm_assoc [a,b,c] X (Y++Z)
theorem aX{a b c:Nat×ma}:(a::b::c::(X++(Y++Z))).Perm (Y++(a::b::c::(X++Z))):=
 (((List.perm_append_comm_assoc X Y Z).cons c).cons b |>.cons a).trans (List.perm_append_comm_assoc [a,b,c] Y (X++Z))
theorem iX{a b c:Nat×ma}:(a::b::c::(X++(Y++Z))).Perm (Z++(a::b::c::(X++Y))):=
 ((((show(X++(Y++Z)).Perm (Z++(X++Y)) from by rw[<-Sc];exact gi).cons c).cons b).cons a).trans (List.perm_append_comm_assoc [a,b,c] Z (X++Y))
theorem P7{a b c:Nat×ma}:HSub (a::b::c::(X++(Y++Z))) (b::a::c::((Y++Z)++X)):=
 ⟨[],by rw[de];exact(cr _ _ _).trans ((((gi).cons c).cons b).cons a)⟩
theorem jX{a b c:Nat×ma}:HSub (a::b::c::(X++(Y++Z))) (b::a::c::((X++Z)++Y)):=
 ⟨[],by rw[de];exact(cr _ _ _).trans ((((show((X++Z)++Y).Perm (X++(Y++Z)) from by rw[Sc];exact gi.append_left X).cons c).cons b).cons a)⟩
theorem qX{a b c:Nat×ma}:HSub (a::b::c::(X++(Y++Z))) (b::a::c::((X++Y)++Z)):=
 ⟨[],by rw[de,Sc];exact cr _ _ _⟩
theorem Acc.cell{s:Nat}{v:LV}{es:List LV}(h:Acc s v es H F):v.cells? = some [v]/\[v].all yq=true:=by cases h <;> exact⟨rfl,rfl⟩
theorem eK(hG:GW B0 w0)(sb:Nat)(T:List Tok)(hT:Rs T)(f:Nat)(r:Jj Pr)(hr:yD T f ⟨[],[],[]⟩ 0 0=some r) :
  ca (KC B0 w0) 42 [ptr sb 0] [Gb sb T 0 0] (Gn sb T Av r):=by
 have hl:=hT.len;have Mx:(T.map It).length=T.length:=Db _;refine kb Tryz.func42 rfl (n:=47) rfl rfl rfl ?_;refine qe ?_;refine oS (Jd λb2=>?_);refine Zg ?_;refine oS (Jd λb3=>?_);refine Da ?_;refine oL (λk ls H=>∃ (p:Pr) (v1 v2 v3:LV) (i2:Nat) (H1 H2 H3:Heap),k<=f/\ls=[(0,ptr sb 0),(2,ptr b2 0),(3,ptr b3 0)]/\H=Gb sb T i2 0::(b3,.cells 68 [v1,v2,v3])::(b2,.cells 68 [Yb,Yb,Yb])::(H1++(H2++H3)) /\
   Acc 1 v1 (p.vars.map str) H1 []/\Acc 2 v2 (p.ba.map zJ) H2 []/\Acc 4 v3 (p.funcs.map pg) H3 []/\i2<=T.length/\p.vars.length<=i2/\p.ba.length<=i2/\p.funcs.length<=i2/\yD T k p i2 0=some r)
  ⟨f,_,_,⟨⟨[],[],[]⟩,Yb,Yb,Yb,0,[],[],[],Jb _,rfl,rfl,Acc.nil,Acc.nil,Acc.nil,zero_le _,zero_le _,zero_le _,zero_le _,hr⟩,lb,tc Fi ob⟩ ?_
 rintro k ls H ⟨p,v1,v2,v3,i2,H1,H2,H3,L4,rfl,rfl,Xx,pq,Bw,xw,xA,qp,TK,hI⟩ j hj;obtain⟨k,rfl⟩:∃ k',k=k'+1:=by
  cases k with
  |zero=>rw[yD] at hI;cases hI
  |succ k=>exact⟨k,rfl⟩
 rw[yD] at hI;refine Da ?_;refine Sz [(0,ptr sb 0),(2,ptr b2 0),(3,ptr b3 0),(13,bool (decide (i2<T.length)))] ?_ λj2 wc=>?_;refine qm ?_;exact⟨⟨rfl,rfl,rfl,xe (by rw[decide_eq_decide];simp),trivial⟩,rfl,rfl⟩
 skip
 refine Ma (λhc=>?_) λhc=>?_;have Ja:i2<T.length:=zt hc;rw[zn zo] at hI;refine xa ?_;refine tj ?_;refine oS (sH [_,_] rfl pH (Jt sb T i2 0 [cP] hl zo (by simp)) ?_);refine dd ?_;refine Ma (λhv=>?_) λhv=>?_;rw[zp hv] at hI;obtain⟨r2,ae⟩:=Ek hI;refine cD (m:=7) rfl []<|aT 0 rfl rfl (pF rfl)<|mv ?_;refine aL ?_ yd;refine Zq (i:=1) (j:=3) zk ?_ ?_;refine lH rfl rfl (pL (c:=v1) rfl Oh rfl)<|lO 3 (lW rfl (.inl rfl) rfl (sP [_] rfl pH (mZ sb T hT k i2 0 r2 xw ae) (λl i3 yg h3=>?_) λl er i3 yg h3 e' Ka=>?_));obtain⟨g1,g2,g3,rfl⟩:=MH T k _ _ _ _ (ae.trans (congrArg some h3));have g4:=g3 xw;have g5:=g2 hv;have g6:=vY T _ _ _ _ _ _ _ (ae.trans (congrArg some h3));rw[ae,h3,Ee] at hI;rw[oc] at g6;refine lO 4 (lW rfl (.inl rfl) rfl (sG qAo rfl Xx rfl (zH l) (MJ l) (by simp;omega) λv' H' Fo=>?_));refine uO ?_;exact⟨k,_,_,by omega,⟨{ p with vars:=p.vars++l },v',v2,v3,i3,H',H2,H3,by omega,rfl,rfl,by rw[Je];exact Fo,pq,Bw,g4,by rw[Ga];omega,Qf qp zo,Qf TK zo,hI⟩,lb,P7,wc.trans hj⟩;exact ML;refine lW rfl (.inl rfl) rfl (sP [_] rfl pH (mZ sb T hT k i2 0 r2 xw ae) (λl i3 yg h3=>?_) λl er i3 yg h3 e' Ka=>?_);refine lO 1 (lH rfl rfl (pL (c:=v1) rfl Oh rfl) ?_);obtain⟨g1,g2,g3,rfl⟩:=MH T k _ _ _ _ (ae.trans (congrArg some h3));have g4:=g3 xw;have g5:=g2 hv;have g6:=vY T _ _ _ _ _ _ _ (ae.trans (congrArg some h3));rw[ae,h3,Ee] at hI;rw[oc] at g6;refine lO 4 (lW rfl (.inl rfl) rfl (sG qAo rfl Xx rfl (zH l) (MJ l) (by simp;omega) λv' H' Fo=>?_));refine uO ?_;exact⟨k,_,_,by omega,⟨{ p with vars:=p.vars++l },v',v2,v3,i3,H',H2,H3,by omega,rfl,rfl,by rw[Je];exact Fo,pq,Bw,g4,by rw[Ga];omega,Qf qp zo,Qf TK zo,hI⟩,lb,P7,wc.trans hj⟩;exact ML;rw[zn (by rw[hv];decide)] at hI;refine Bd ?_;refine oS (sH [_,_] rfl pH (QD sb T i2 0 P' hl zo) ?_);refine dd ?_;refine Ma (λhw=>?_) λhw=>?_;have uw:=Dk hw;rw[zp hw] at hI;simp only[hw,if_true];obtain⟨r2,ae⟩:=Ek hI;refine cD (m:=8) rfl []<|aT 0 rfl rfl (pF rfl)<|mv ?_;refine aL ?_ yd;refine Zq (i:=1) (j:=3) zk ?_ ?_;refine lH rfl rfl (pL (c:=v2) rfl Oh rfl)<|lO 3 (lW rfl (.inl rfl) rfl (sP [_] rfl pH (uQ hG sb T hT (i2+1) 0 r2 zo zo ae) (λl i3 yg h3=>?_) λl er i3 yg h3 e' Ka=>?_));obtain⟨g1,g2,g3,rfl⟩:=wV T _ _ _ (ae.trans (congrArg some h3));have g4:=g3 zo;rw[ae,h3,Ee] at hI;refine JE ?_;refine lO 5 (lW rfl (.inl rfl) rfl (sG aX rfl pq rfl (by simp;rfl) rfl (by simp;omega) λv' H' Fo=>?_));refine jJ ?_;exact⟨k,_,_,by omega,⟨{ p with ba:=p.ba++[l] },v1,v',v3,i3,H1,H',H3,by omega,rfl,rfl,Xx,by rw[Je];exact Fo,Bw,g4,Qf xA zo,by rw[Ga,length_singleton];omega,Qf TK zo,hI⟩,lb,jX,wc.trans hj⟩;exact ML;refine lW rfl (.inl rfl) rfl (sP [_] rfl pH (uQ hG sb T hT (i2+1) 0 r2 zo zo ae) (λl i3 yg h3=>?_) λl er i3 yg h3 e' Ka=>?_);refine Zq (i:=1) (j:=4) zk ?_ ?_;refine lH rfl rfl (pL (c:=v2) rfl Oh rfl) ?_;obtain⟨g1,g2,g3,rfl⟩:=wV T _ _ _ (ae.trans (congrArg some h3));have g4:=g3 zo;rw[ae,h3,Ee] at hI;refine JE ?_;refine lO 5 (lW rfl (.inl rfl) rfl (sG aX rfl pq rfl (by simp;rfl) rfl (by simp;omega) λv' H' Fo=>?_));refine jJ ?_;exact⟨k,_,_,by omega,⟨{ p with ba:=p.ba++[l] },v1,v',v3,i3,H1,H',H3,by omega,rfl,rfl,Xx,by rw[Je];exact Fo,Bw,g4,Qf xA zo,by rw[Ga,length_singleton];omega,Qf TK zo,hI⟩,lb,jX,wc.trans hj⟩;obtain⟨g1,g2,g3,rfl⟩:=wV T _ _ _ (ae.trans (congrArg some h3));have g4:=g3 zo;rw[ae,h3,Ee] at hI;refine MA ?_;refine lO 1 (lH rfl rfl (pL (c:=v2) rfl Oh rfl) ?_);refine lO 5 (lW rfl (.inl rfl) rfl (sG aX rfl pq rfl (by simp;rfl) rfl (by simp;omega) λv' H' Fo=>?_))
 refine jJ ?_;exact⟨k,_,_,by omega,⟨{ p with ba:=p.ba++[l] },v1,v',v3,i3,H1,H',H3,by omega,rfl,rfl,Xx,by rw[Je];exact Fo,Bw,g4,Qf xA zo,by rw[Ga,length_singleton];omega,Qf TK zo,hI⟩,lb,jX,wc.trans hj⟩;exact ML;rw[zn (by rw[hw];decide)] at hI;simp only[hw,Uk,if_false];refine Bd ?_;refine oS (sH [_,_] rfl pH (QD sb T i2 0 Q8 hl zo) ?_);refine dd ?_;refine Ma (λhu=>?_) λhu=>?_;have uw:=Dk hu;rw[zp hu] at hI;simp only[hu,if_true];obtain⟨r2,ae⟩:=Ek hI;refine cD (m:=8) rfl []<|aT 0 rfl rfl (pF rfl)<|mv ?_;refine aL ?_ yd;refine Zq (i:=1) (j:=3) zk ?_ ?_;refine lH rfl rfl (pL (c:=v3) rfl Oh rfl)<|lO 3 (lW rfl (.inl rfl) rfl (sP [_] rfl pH (qnE hG sb T hT k (i2+1) 0 r2 zo zo ae) (λl i3 yg h3=>?_) λl er i3 yg h3 e' Ka=>?_));obtain⟨g1,g2,g3,rfl⟩:=qV T k _ _ _ (ae.trans (congrArg some h3));have g4:=g3 zo;rw[ae,h3,Ee] at hI;refine JE ?_;refine lO 5 (lW rfl (.inl rfl) rfl (sG iX rfl Bw rfl (by simp;rfl) rfl (by simp;omega) λv' H' Fo=>?_));refine iJ ?_;exact⟨k,_,_,by omega,⟨{ p with funcs:=p.funcs++[l] },v1,v2,v',i3,H1,H2,H',by omega,rfl,rfl,Xx,pq,by rw[Je];exact Fo,g4,Qf xA zo,Qf qp zo,by rw[Ga,length_singleton];omega,hI⟩,lb,qX,wc.trans hj⟩;exact ML;refine lW rfl (.inl rfl) rfl (sP [_] rfl pH (qnE hG sb T hT k (i2+1) 0 r2 zo zo ae) (λl i3 yg h3=>?_) λl er i3 yg h3 e' Ka=>?_);refine Zq (i:=1) (j:=4) zk ?_ ?_;refine lH rfl rfl (pL (c:=v3) rfl Oh rfl) ?_;obtain⟨g1,g2,g3,rfl⟩:=qV T k _ _ _ (ae.trans (congrArg some h3));have g4:=g3 zo;rw[ae,h3,Ee] at hI;refine JE ?_;refine lO 5 (lW rfl (.inl rfl) rfl (sG iX rfl Bw rfl (by simp;rfl) rfl (by simp;omega) λv' H' Fo=>?_));refine iJ ?_;exact⟨k,_,_,by omega,⟨{ p with funcs:=p.funcs++[l] },v1,v2,v',i3,H1,H2,H',by omega,rfl,rfl,Xx,pq,by rw[Je];exact Fo,g4,Qf xA zo,Qf qp zo,by rw[Ga,length_singleton];omega,hI⟩,lb,qX,wc.trans hj⟩;obtain⟨g1,g2,g3,rfl⟩:=qV T k _ _ _ (ae.trans (congrArg some h3));have g4:=g3 zo;rw[ae,h3,Ee] at hI;refine MA ?_;refine lO 1 (lH rfl rfl (pL (c:=v3) rfl Oh rfl) ?_);refine lO 5 (lW rfl (.inl rfl) rfl (sG iX rfl Bw rfl (by simp;rfl) rfl (by simp;omega) λv' H' Fo=>?_));refine iJ ?_;exact⟨k,_,_,by omega,⟨{ p with funcs:=p.funcs++[l] },v1,v2,v',i3,H1,H2,H',by omega,rfl,rfl,Xx,pq,by rw[Je];exact Fo,g4,Qf xA zo,Qf qp zo,by rw[Ga,length_singleton];omega,hI⟩,lb,qX,wc.trans hj⟩;exact ML;rw[zn (by rw[hu];decide)] at hI;simp only[hu,Uk,if_false];refine Bd ?_;refine oS (sP [_,_] rfl pH (lQ Av sb T i2 0 3 hl zo) (λ_ _ _ h=>by cases h) λl er i' Qa h e' Ka=>?_);cases h;refine Qd ?_;exact Gc (Ka.trans (wc.trans hj)) (by cases hI;rfl) qd;have Pq:T.length<=i2:=by have:=zf hc;omega
 rw[zp Pq] at hI;refine fb.gy Od (Ob:=[.list (p.vars.map str),.list (p.ba.map zJ),.list (p.funcs.map pg)]) ⟨Xx.sub,pq.sub,Bw.sub,trivial⟩ ?_;refine wa ?_;exact Hf (v:=p) (wc.trans hj) (rC (rA (k:=3) rfl nc rfl Nd) rN) (by cases hI;rfl) rfl (tc Fi yd)
theorem qyc{s:List UInt8}{T:List Tok}(h:KD s=.ok T):Rs T:=by
 unfold KD at h;split at h;cases h;obtain⟨h1,h2⟩:=nY _ _ _ _ h;exact⟨by omega,λt ht=>by have:=(h2 t ht).1;omega,λt ht hk=>by
  obtain⟨u,h3,h4,_⟩:=(h2 t ht).2 hk;exact⟨u,h3,h4⟩⟩
instance:yh Tk 20:=.of zk
def Fk:Pr:=⟨[],[],[]⟩
def Ru(s:List UInt8):Pr×Int×Int:=match KD s with
 |.error (l,e)=>(Fk,l,e)
 |.ok T=>match yD T (10 * T.length+20) Fk 0 0 with
  |some (.ok p _ _)=>(p,0,0)
  |some (.err l e)=>(Fk,l,e)
  |none=>(Fk,0,0)
def uY(r:Pr×Int×Int):LV:=.tuple [Av r.1,int .i64 r.2.1,int .i64 r.2.2]
theorem Lv.Wj{H' H1 H2:Heap}{f:FuncId}{ib:Array Value} [BI:Tb C.P f](hd:e.ds=[{ target:=.fn (.func f) ib,args:=#[] }])(hp:H.Perm (H1++F))
  (hc:Kn C f (ib.toList.map .atom) .returning H1 λu H'=>u=.returning/\H'=H2) (h:Dm C n e (H2++F) rs vs) (hH:HSub H' (H2++F)) (hR:R (.ret (Dh vs)) H'):Lv C n rs R .ret e H:=by
 unfold Lv;simp only[hd];refine⟨by simp,f,ib,H1,F,rfl,BI,hp,Kn.mono hc ?_⟩;rintro u Bh ⟨rfl,rfl⟩;exact⟨vs,H',h,hH,hR⟩
theorem Lv.Rr{H' H1 H2:Heap}{f:FuncId}{ib:Array Value}{ch:List PanicEntry} [BI:Tb C.P f](hd:e.ds=[{ target:=.fn (.func f) ib,args:=#[] }])(hp:H.Perm (H1++F))
  (hc:Kn C f (ib.toList.map .atom) (.panicking ch) H1 λu H'=>settle u=.returning/\H'=H2) (h:Dm C n e (H2++F) rs vs) (hH:HSub H' (H2++F)) (hR:R (.ret (Dh vs)) H'):Lv C n rs R (.panic ch) e H:=by
 unfold Lv;simp only[hd];refine⟨by simp,f,ib,H1,F,rfl,BI,hp,Kn.mono hc ?_⟩;rintro u Bh ⟨hu,rfl⟩;rw[hu];exact⟨vs,H',h,hH,hR⟩
def ZW:Jj Pr->Pr×Int×Int
 |.ok p _ _=>(p,0,0)
 |.err l e=>(Fk,l,e)
theorem GY:∀ (f:Nat) (s:List UInt8) (line l e:Int),Ik f s line=.error (l,e)->¬ e=0
 |0,s,line,l,e,h=>by rw[Ik] at h;cases h
 |f+1,s,line,l,e,h=>by
  rw[Ik] at h;split at h;cases h;split at h;split at h;rename_i he;cases h;exact he;cases hx:Ik f (s.drop (uk s).2.1) (line+((s.take (uk s).2.1).count 10:Nat)) with
  |ok T=>rw[hx] at h;cases h
  |error p=>rw[hx] at h;cases h;exact GY f _ _ _ _ hx
  exact GY f _ _ _ _ h
theorem qpy{s:List UInt8}{l e:Int}(h:KD s=.error (l,e)):¬ e=0:=by unfold KD at h;split at h;cases h;decide;exact GY _ _ _ _ _ h
theorem Pn{A:Type}{p:A}{H:List A}(h:p∈H:=by first|exact Fg|exact List.Mem.tail _ nc|exact List.Mem.tail _ Oh|exact List.Mem.tail _ sy|exact List.Mem.tail _ XN|exact List.Mem.tail _ jT|exact List.Mem.tail _ iT):p∈H:=h
attribute [local irreducible] dj xg Gv Kn
theorem eU(b2 b3 b4:Nat)(cs:List LV)(c d:LV):Kn (KC B0 w0) 41 [ptr b2 0,ptr b3 0,ptr b4 0] .returning [(b2,.cells 68 cs),(b3,.cells 3 [c]),(b4,.cells 23 [d])]
  (λu H=>u=.returning/\H=[(b2,.cells 68 cs),(b3,.cells 3 [c]),(b4,.cells 23 [d])]):=by
 refine Kn.intro Tryz.func41 rfl (n:=22) rfl rfl rfl ?_;refine xy ?_;refine wa ?_;refine Ma (λhc=>?_) λhc=>?_;cases hc;refine Da ?_;exact⟨rfl,_,Kb _,rfl,rfl⟩
theorem ZT(b2 b3 b4:Nat)(c1 c2 c3 c d:LV)(l er:Int):Kn (KC B0 w0) 41 [ptr b2 0,ptr b3 0,ptr b4 0] (.panicking (nN l er)) [(b2,.cells 68 [c1,c2,c3]),(b3,.cells 3 [c]),(b4,.cells 23 [d])]
  (λu H=>settle u=.returning/\H=[(b2,.cells 68 [Yb,Yb,Yb]),(b3,.cells 3 [int .i64 l]),(b4,.cells 23 [int .i64 er])]):=by
 refine Kn.intro Tryz.func41 rfl (n:=22) rfl rfl rfl ?_;refine xy ?_;refine wa ?_;refine Ma (λhc=>?_) λhc=>?_;refine Bd ?_;refine la (Pure.Ep (vs:=[.int .i64 l,.int .i64 er]) rfl)<|Na ?_;refine oS (Jd λb5=>?_);refine wa ?_;refine Ma (λhd=>?_) λhd=>?_;cases hd;refine Da ?_;refine cD (m:=8) rfl [(b5,.cells 102 [int .i64 l,int .i64 er])]<|aT 0 rfl rfl (pB _ (cs:=[_,_,_]) rfl)<|aT 1 rfl rfl (pF rfl)<|aT 2 rfl rfl (pL (c:=.atom _) rfl nc rfl)<|aT 3 rfl rfl (pF rfl)<|aT 4 rfl rfl (pL (c:=.atom _) rfl nc rfl)<|aL ?_ qd;refine lO 5 (lS (H1:=[(b2,.cells 68 [c1,c2,c3])]) (F:=[(b5,.cells 102 [int .i64 l,int .i64 er]),(b3,.cells 3 [c]),(b4,.cells 23 [d])]) rfl (.inl rfl) rfl Od qd (sS (Ob:=[_,_,_]) rfl pH rfl rfl rfl rfl rfl ?_));refine lO 6 (lS (H1:=[(b3,.cells 3 [c])]) (F:=[(b2,.cells 68 [Yb,Yb,Yb]),(b5,.cells 102 [int .i64 l,int .i64 er]),(b4,.cells 23 [d])]) rfl (.inl rfl) rfl Fi (tc Od yd) (sS (Ob:=[_]) rfl pH rfl rfl rfl rfl rfl ?_));refine lO 7 (lS (H1:=[(b4,.cells 23 [d])]) (F:=[(b3,.cells 3 [int .i64 l]),(b2,.cells 68 [Yb,Yb,Yb]),(b5,.cells 102 [int .i64 l,int .i64 er])]) rfl (.inl rfl) rfl HA (tc Fi yd) (sS (Ob:=[_]) rfl pH rfl rfl rfl rfl rfl ?_));refine lD zk ?_;exact⟨rfl,_,tc Fi (tc Od qd),rfl,rfl⟩;cases hc
theorem qnf(hG:GW B0 w0)(s:List UInt8):ca (KC B0 w0) 26 [str s] [] (Qb (uY (Ru s))):=by
 refine ca.aw Tryz.func26 rfl (n:=24) rfl rfl rfl ?_;refine An ?_;refine qe ?_;refine oS (Jd λb2=>oS (Jd λb3=>?_));refine oS (Jd λb4=>?_);refine dd ?_;refine An ?_;refine Bd ?_;refine oS (sF [_] rfl (qq6 hG s) ?_)
 cases hL:KD s with
 |error le=>
  obtain⟨l,er⟩:=le;have he0:¬ er=0:=qpy hL;simp only[UT];refine Na ?_;refine An ?_;refine wa ?_;refine Ma (λhc=>?_) λhc=>?_;refine Da ?_;refine cD (m:=6) rfl []<|aT 0 rfl rfl (pB _ (cs:=[_,_,_]) rfl)<|aL ?_ yd;refine nh.three (i:=1) (j:=2) (k:=3) zk ?_ ?_ ?_;refine HE ?_;refine Zq (i:=2) (j:=3) zk ?_ ?_;refine lH rfl rfl (pL (c:=.atom _) rfl nc rfl) ?_;exact W6;refine ME ?_;refine Zq (i:=2) (j:=4) zk ?_ ?_;exact kO;exact jO;refine lH rfl rfl (pL (c:=.atom _) rfl nc rfl)<|Zq (i:=1) (j:=3) zk ?_ ?_;refine HE ?_;exact W6;refine ME ?_;exact X6;refine ME ?_;refine Zq (i:=1) (j:=2) zk ?_ ?_;refine lH rfl rfl (pL (c:=.atom _) rfl sy rfl)<|Zq (i:=2) (j:=4) zk ?_ ?_;exact kO;exact jO;refine HE ?_;exact X6;have:er=0:=by simpa using hc
  exact absurd this he0
 |ok T=>
  have hT:=qyc hL;simp only[UT];refine Na ?_;refine An ?_;refine wa ?_;refine Ma (λhc=>?_) λhc=>?_;cases hc;refine Da ?_;refine ov ?_;refine dj.defer rfl rfl ?_;refine jr ?_;refine An ?_;refine wa ?_;refine oS (sB rfl λsb=>?_);refine dd ?_;refine ov ?_;obtain⟨r,hr⟩:=jV T (10 * T.length+20) Fk 0 0 (zero_le _) zo
  have hp:Ru s=ZW r:=by rw[Ru,hL];simp only[hr];cases r <;> rfl
  rw[hp];refine dj.step (sP (T:=T) (i:=0) (op:=0) [_] rfl pH (eK hG sb T hT _ r hr) (λv i1 Nc h1=>?_) λl er i1 Nc h1=>?_) rfl;subst h1;refine dj.step (sS (Ob:=[_,_,_]) rfl HA rfl rfl rfl rfl rfl ?_) rfl;refine dj.step (sS (Ob:=[_]) rfl HA rfl rfl rfl rfl rfl ?_) rfl;refine dj.step (sS (Ob:=[_]) rfl HA rfl rfl rfl rfl rfl ?_) rfl;refine jr ?_;refine xg.ret ?_
  exact Lv.Wj (vs:=[Av v,int .i64 0,int .i64 0]) (H2:=[(b2,.cells 68 [.list (v.vars.map str),.list (v.ba.map zJ),.list (v.funcs.map pg)]),(b3,.cells 3 [int .i64 0]),(b4,.cells 23 [int .i64 0])]) rfl (Fi.trans (Vs _ (Od.trans (Vs _ mc)))) (eU b2 b3 b4 _ _ _)
   (rC (rA (k:=3) rfl nc rfl Nd) (rC (Am.Bc rfl Oh rfl Nd) (rC (Am.Bc rfl sy rfl Nd) rN))) yd ⟨rfl,rfl⟩
  subst h1;refine ve.panic ?_;exact Lv.Rr (vs:=[Av Fk,int .i64 l,int .i64 er]) (H2:=[(b2,.cells 68 [Yb,Yb,Yb]),(b3,.cells 3 [int .i64 l]),(b4,.cells 23 [int .i64 er])]) rfl (HA.trans (Vs _ (Fi.trans (Vs _ (Od.trans mc))))) (ZT b2 b3 b4 _ _ _ _ _ l er)
   (rC (rA (k:=3) rfl nc rfl (vA (bs:=[.list [],.list [],.list []]) ⟨vN,vN,vN,trivial⟩)) (rC (Am.Bc rfl Oh rfl Nd) (rC (Am.Bc rfl sy rfl Nd) rN))) yd ⟨rfl,rfl⟩
end Go.Proofs.YtmnjklgnhpnckaaGreatDoor
namespace Go.Proofs.YtmnjklgnhpnckaaGreatDoor.sj
open Go.GL Go.RowKit Go.ia
variable{H':Heap}{c:Bb}{err:Int}{lv:LV}{rs:List ResultVar}
def QE(nm:List UInt8)(e:Int):List PanicEntry:=[{ v:=.iface 109 (.agg #[.string ⟨nm.toArray⟩,.int .i64 e]),recovered:=false }]
def Du:Nat->List UInt8->Bool
 |_,[]=>true
 |i,c::r=>(if i=0 then tl c else Ni c) && Du (i+1) r
theorem qlF:∀ (r:List UInt8) (i:Nat),i≠0->Du i r=r.all Ni
 |[],_,_=>rfl
 |c::r,i,h=>by rw[Du,zn h,qlF r (i+1) zo];rfl
theorem qyR{s:List UInt8}(h0:s≠[])(h1:s.length<=24)(h2:uP.contains s=false):cf s=Du 0 s:=by
 unfold cf;rw[Nf h1,h2];cases s with
 |nil=>exact absurd rfl h0
 |cons c r=>rw[Du,zp rfl,qlF r 1 fa];rfl
theorem qtz(s:List UInt8):uP.contains s=(LD.contains s || decide (s=[105,110]) || decide (s=[111,117,116])):=by
 have h:uP.contains s=(LD.contains s || (decide (s=[105,110]) || decide (s=[111,117,116]))):=by unfold uP;rw[Bool.eq_iff_iff];simp
 rw[h,Bool.or_assoc]
instance:jo Tk 119 3 (.int .i64 0) (int .i64 0):=⟨⟨9,zk,zk⟩,λw=>(Go.zero_of_info (P:=Tk) (n:=1) zk).1 w,λ_ _=>zd⟩
instance:jo Tk 112 4 (.bool false) (bool false):=⟨⟨9,zk,zk⟩,λw=>(Go.zero_of_info (P:=Tk) (n:=1) zk).1 w,λ_ _=>zd⟩
instance:jo Tk 113 175 (.agg [.int .i64 0,.int .i64 0,.int .i64 0].toArray) (.agg ([.int .i64 0,.int .i64 0,.int .i64 0].map .atom)):=⟨⟨9,zk,zk⟩,λw=>(Go.zero_of_info (P:=Tk) (n:=3) zk).1 w,λw L=>qwJ w L _⟩
def Uc:KV:=[([110,117,109],int .i64 0),([118,97,114],int .i64 0),([101,108,101,109],int .i64 1),([110,101,103],int .i64 1),([110,111,116],int .i64 1),([99,97,108,108],int .i64 (-1)),([124,124],int .i64 2),([38,38],int .i64 2),([61,61],int .i64 2),([33,61],int .i64 2),([60],int .i64 2),([62],int .i64 2),([60,61],int .i64 2),([62,61],int .i64 2),([94],int .i64 2),([43],int .i64 2),([45],int .i64 2),([42],int .i64 2),([47],int .i64 2),([37],int .i64 2)]
theorem qwH(op:List UInt8):GL.wb Uc op=if fg op = -2 then none else some (int .i64 (fg op)):=by
 have key:∀ x∈[[110,117,109],[118,97,114],[101,108,101,109],[110,101,103],[110,111,116],[99,97,108,108],[124,124],[38,38],[61,61],[33,61],[60],[62],[60,61],[62,61],[94],[43],[45],[42],[47],[37]],GL.wb Uc x=if fg x = -2 then none else some (int .i64 (fg x)):=by intro x hx;simp only[zc,not_mem_nil,or_false] at hx;rcases hx with rfl|rfl|rfl|rfl|rfl|rfl|rfl|rfl|rfl|rfl|rfl|rfl|rfl|rfl|rfl|rfl|rfl|rfl|rfl|rfl <;> rfl
 by_cases h:op∈[[110,117,109],[118,97,114],[101,108,101,109],[110,101,103],[110,111,116],[99,97,108,108],[124,124],[38,38],[61,61],[33,61],[60],[62],[60,61],[62,61],[94],[43],[45],[42],[47],[37]];exact key op h;simp only[zc,not_mem_nil,or_false,not_or] at h;have h2:fg op = -2:=by obtain⟨a1,a2,a3,a4,a5,a6,a7,a8,a9,YS,XS,a12,P6,O6,N6,M6,L6,K6,J6,a20⟩:=h;unfold fg;rw[zn λh=>h.elim a1 a2,zn λh=>h.elim a3 λh=>h.elim a4 a5,zn (show ¬ op=eg from a6),zn];unfold Fv;simp only[zc,not_mem_nil,or_false,not_or];exact⟨a7,a8,a9,YS,XS,a12,P6,O6,N6,M6,L6,K6,J6,a20⟩
 rw[zp h2];obtain⟨a1,a2,a3,a4,a5,a6,a7,a8,a9,YS,XS,a12,P6,O6,N6,M6,L6,K6,J6,a20⟩:=h;unfold Uc;simp only[GL.wb];rw[zn (Ne.symm a1),zn (Ne.symm a2),zn (Ne.symm a3),zn (Ne.symm a4),zn (Ne.symm a5),zn (Ne.symm a6),zn (Ne.symm a7),zn (Ne.symm a8),zn (Ne.symm a9),zn (Ne.symm YS),zn (Ne.symm XS),zn (Ne.symm a12),zn (Ne.symm P6),zn (Ne.symm O6),zn (Ne.symm N6),zn (Ne.symm M6),zn (Ne.symm L6),zn (Ne.symm K6),zn (Ne.symm J6),zn (Ne.symm a20)]
attribute [local irreducible] Ea fb Ya ca Go.GL.Pure ve Oe Kd LQ yb nh db LS
section
variable{B0:Nat}{w0:World}{H:Heap}
theorem qnR(b:Bool)(nm:List UInt8)(e:Int):ca (KC B0 w0) 83 [bool b,str nm,int .i64 e] H (λr H'=>H'=H/\r=if b=true then .ret (.tuple []) else .panic (QE nm e)):=by
 refine kb Tryz.func83 rfl (n:=12) rfl rfl rfl ?_;refine wa ?_;refine Ma (λhc=>?_) λhc=>?_;have hb:b=false:=by simpa using hc
 subst hb;refine wa ?_;refine oS (Ya.panic rfl λe' Ka=>?_);exact Kd.panic (Ka.trans rfl) ob ⟨rfl,rfl⟩;have hb:b=true:=by simpa using hc
 subst hb;refine Da ?_;exact rO rfl rN ob ⟨rfl,rfl⟩
theorem qme(op:List UInt8):ca (KC B0 w0) 258 [str op] [] (Qb (int .i64 (fg op))):=by
 refine kb Tryz.func258 rfl (n:=15) rfl rfl rfl ?_;refine Yn ?_;refine oS (S.Al λom=>oS (S.Ed (m:=Uc.take 0) (k:=[110,117,109]) (lv:=int .i64 (0)) (Uc.take 1) rfl rfl rfl pH zk λc0=>?_));refine oS (S.Ed (m:=Uc.take 1) (k:=[118,97,114]) (lv:=int .i64 (0)) (Uc.take 2) rfl rfl rfl pH zk λc1=>oS (S.Ed (m:=Uc.take 2) (k:=[101,108,101,109]) (lv:=int .i64 (1)) (Uc.take 3) rfl rfl rfl pH zk λc2=>?_));refine oS (S.Ed (m:=Uc.take 3) (k:=[110,101,103]) (lv:=int .i64 (1)) (Uc.take 4) rfl rfl rfl pH zk λc3=>oS (S.Ed (m:=Uc.take 4) (k:=[110,111,116]) (lv:=int .i64 (1)) (Uc.take 5) rfl rfl rfl pH zk λc4=>?_));refine oS (S.Ed (m:=Uc.take 5) (k:=[99,97,108,108]) (lv:=int .i64 (-1)) (Uc.take 6) rfl rfl rfl pH zk λc5=>oS (S.Ed (m:=Uc.take 6) (k:=[124,124]) (lv:=int .i64 (2)) (Uc.take 7) rfl rfl rfl pH zk λc6=>?_));refine oS (S.Ed (m:=Uc.take 7) (k:=[38,38]) (lv:=int .i64 (2)) (Uc.take 8) rfl rfl rfl pH zk λc7=>oS (S.Ed (m:=Uc.take 8) (k:=[61,61]) (lv:=int .i64 (2)) (Uc.take 9) rfl rfl rfl pH zk λc8=>?_));refine oS (S.Ed (m:=Uc.take 9) (k:=[33,61]) (lv:=int .i64 (2)) (Uc.take 10) rfl rfl rfl pH zk λc9=>oS (S.Ed (m:=Uc.take 10) (k:=[60]) (lv:=int .i64 (2)) (Uc.take 11) rfl rfl rfl pH zk λc10=>?_));refine oS (S.Ed (m:=Uc.take 11) (k:=[62]) (lv:=int .i64 (2)) (Uc.take 12) rfl rfl rfl pH zk λc11=>oS (S.Ed (m:=Uc.take 12) (k:=[60,61]) (lv:=int .i64 (2)) (Uc.take 13) rfl rfl rfl pH zk λc12=>?_));refine oS (S.Ed (m:=Uc.take 13) (k:=[62,61]) (lv:=int .i64 (2)) (Uc.take 14) rfl rfl rfl pH zk λc13=>oS (S.Ed (m:=Uc.take 14) (k:=[94]) (lv:=int .i64 (2)) (Uc.take 15) rfl rfl rfl pH zk λc14=>?_));refine oS (S.Ed (m:=Uc.take 15) (k:=[43]) (lv:=int .i64 (2)) (Uc.take 16) rfl rfl rfl pH zk λc15=>oS (S.Ed (m:=Uc.take 16) (k:=[45]) (lv:=int .i64 (2)) (Uc.take 17) rfl rfl rfl pH zk λc16=>?_));refine oS (S.Ed (m:=Uc.take 17) (k:=[42]) (lv:=int .i64 (2)) (Uc.take 18) rfl rfl rfl pH zk λc17=>oS (S.Ed (m:=Uc.take 18) (k:=[47]) (lv:=int .i64 (2)) (Uc.take 19) rfl rfl rfl pH zk λc18=>?_));refine oS (S.Ed (m:=Uc.take 19) (k:=[37]) (lv:=int .i64 (2)) (Uc.take 20) rfl rfl rfl pH zk λc19=>?_);refine Ea.qc (H':=[(om,.map (Pe Uc) c19)]) ob ?_;refine fi ?_;have hg:=qwH op
 by_cases h0:fg op = -2;rw[zp h0] at hg;refine la (Pure.Yr rfl rfl nc (show GL.wb Uc op=none from hg))<|wa ?_;refine oC rfl (λ_=>?_) (λhc=>by cases hc);refine Gj ?_;exact rR rfl (eb rfl) yd ⟨by rw[h0];rfl,rfl⟩;rw[zn h0] at hg;refine la (Pure.Yv rfl rfl nc (show GL.wb Uc op=some (int .i64 (fg op)) from hg))<|wa ?_;refine oC rfl (λhc=>by cases hc) λ_=>?_;refine xa ?_;exact rR rfl (eb rfl) yd ⟨rfl,rfl⟩
theorem vV(s:List UInt8):ca (KC B0 w0) 154 [str s] [] (Qb (bool (cf s))):=by
 refine kb Tryz.func154 rfl (n:=65) rfl rfl rfl ?_;refine xa ?_;have Ct:∀ (h:cf s=false) {e:Env} {C:Ctx} {n:Nat},e.ds=[]->e.s 2=bool false->Kd C n [ResultVar.tmp 2] (Qb (bool (cf s))) .ret e []:=λh {e C n} hd he=>by rw[h];exact qb hd (rC (rT he Nd) rN) rfl
 refine oB 7 rfl (λh1=>?_) λh1=>?_;have h0:s=[]:=zt h1;refine Da ?_;refine oC rfl (λ_=>?_) (λhc=>by cases hc);refine Gj ?_;exact Ct (by rw[h0];rfl) rfl rfl;have h0:s≠[]:=zf h1;refine Na ?_;refine oB 12 rfl (λh2=>?_) λh2=>?_
 have hl:24<s.length:=by have:=zt h2;omega
 refine Da ?_;refine oC rfl (λ_=>?_) (λhc=>by cases hc);refine Gj ?_;exact Ct (by unfold cf;rw[decide_eq_false zo];rfl) rfl rfl;have hl:s.length<=24:=by have:=zf h2;omega
 refine Da ?_;refine oB 16 rfl (λh3=>?_) λh3=>?_;have h4:s=[105,110]:=zt h3;refine Da ?_;refine oC rfl (λ_=>?_) (λhc=>by cases hc);refine Gj ?_;exact Ct (by rw[h4];rfl) rfl rfl;refine Da ?_;refine oB 20 rfl (λh5=>?_) λh5=>?_;have h4:s=[111,117,116]:=zt h5;refine Da ?_;refine oC rfl (λ_=>?_) (λhc=>by cases hc);refine Gj ?_;exact Ct (by rw[h4];rfl) rfl rfl;refine fi ?_;refine oS (sF [] rfl qhJ ?_);refine fi ?_;refine oS (sF [_,_] rfl (BV LD s fa) ?_);refine Da ?_;have nG:=qtz s;rw[h3,h5,Bool.or_false,Bool.or_false] at nG;refine Ma (λhk=>?_) λhk=>?_;have Eo:LD.contains s=true:=hk;refine Gj ?_
 exact Ct (by
  unfold cf;rw[nG,Eo,Bool.not_true,Bool.and_false,Ui]) rfl rfl
 have Eo:LD.contains s=false:=hk;rw[Eo] at nG;have xG:=qyR h0 hl nG;refine wa ?_;refine oL (λk ls H'=>∃ pre l1,s=pre++l1/\k=l1.length/\ls=[(0,str s),(26,int .i64 (s.length:Int)),(27,int .i64 (pre.length:Int))]/\H'=[]/\cf s=Du pre.length l1)
  ⟨s.length,_,_,⟨[],s,rfl,rfl,rfl,rfl,xG⟩,lb,Kb _⟩ ?_
 rintro k ls H' ⟨pre,l1,Xb,rfl,rfl,rfl,hI⟩ j hj;have Kl:pre.length<=24:=by rw[Xb,Ga] at hl;omega
 refine Zg ?_;refine Ma (λhc=>?_) λhc=>?_;rotate_left;have na:=zf hc;rw[Xb,Ga] at na
 obtain rfl:l1=[]:=by
  cases l1 with
  |nil=>rfl
  |cons a l2=>simp at na;omega
 refine xa ?_;exact qb hj (eb rfl) (by rw[hI];rfl);have na:=zt hc;rw[Xb,Ga] at na;obtain⟨a,l2,rfl⟩:∃ a l2,l1=a::l2:=by
  cases l1 with
  |nil=>simp at na
  |cons a l2=>exact⟨a,l2,rfl⟩
 have Vh:s[((pre.length:Nat):Int).toNat]? = some a:=by rw[Int.toNat_natCast,Xb,List.getElem?_append_right (Jb _),Nat.sub_self];rfl
 rw[Du] at hI;have next:∀ {e:Env} {ds:List Deferred} (h:(if pre.length=0 then tl a else Ni a)=true),e.ds=ds->e.s 0=str s->e.s 26=int .i64 (s.length:Int)->e.s 27=int .i64 ((pre.length:Int)+1)->nX (λk ls H'=>∃ pre l1,s=pre++l1/\k=l1.length/\ls=[(0,str s),(26,int .i64 (s.length:Int)),(27,int .i64 (pre.length:Int))]/\H'=[]/\cf s=Du pre.length l1) (a::l2).length ds e []:=λ{e ds} h hd e0 e26 e27=>by rw[h,Bool.true_and] at hI;exact⟨l2.length,_,_,Nat.lt_succ_self _,⟨pre++[a],l2,by rw[Xb];simp,rfl,rfl,rfl,by rw[hI,Ga];rfl⟩,⟨e0,e26,e27.trans (Kg (by simp)),trivial⟩,Kb _,hd⟩
 refine xa ?_;refine EE ?_;refine Ea.cut [(0,str s),(3,int .i64 (pre.length:Int)),(4,bool (tl a)),(26,int .i64 (s.length:Int)),(27,int .i64 (pre.length:Int))] ?_ λj2 wc=>?_;refine oB 34 rfl (λh6=>?_) λh6=>?_;refine fi ?_;refine EE ?_;exact⟨⟨rfl,rfl,xe (by unfold tl;rw[show decide (97<=cv a)=true from h6,Bool.true_and]),rfl,rfl,trivial⟩,rfl,rfl⟩;refine Da ?_;exact⟨⟨rfl,rfl,xe (by unfold tl;rw[show decide (97<=cv a)=false from h6,Ui]),rfl,rfl,trivial⟩,rfl,rfl⟩;refine wa ?_;refine oB 42 rfl (λh7=>?_) λh7=>?_;rotate_left
 ·have xA:tl a=true:=by simpa using h7
  refine Na ?_;refine oC rfl (λhc=>by cases hc) λ_=>?_;refine xa ?_;refine next ?_ ?_ ?_ ?_ ?_
  rw[xA];unfold Ni;rw[xA];split <;> rfl;exact wc.trans hj;rfl;rfl;rfl
 have BC:tl a=false:=by simpa using h7
 refine Da ?_;refine oB 45 rfl (λh8=>?_) λh8=>?_;have WD:pre.length=0:=by have:=zt h8;omega
 refine Na ?_;refine oC rfl (λ_=>?_) (λhc=>by cases hc);refine xa ?_;exact Ct (by rw[hI,zp WD,BC,Ui]) (wc.trans hj) rfl;have WD:¬ pre.length=0:=by have:=zf h8;omega
 rw[zn WD] at hI;refine fi ?_;refine EE ?_;refine oB 50 rfl (λh9=>?_) λh9=>?_;rotate_left
 ·have uW:decide (cv a=95)=true:=by simpa using h9
  refine Na ?_;refine oC rfl (λhc=>by cases hc) λ_=>?_;refine xa ?_;refine next ?_ ?_ ?_ ?_ ?_
  rw[zn WD];unfold Ni;rw[uW,Bool.or_true];exact wc.trans hj;rfl;rfl;rfl
 have uW:decide (cv a=95)=false:=by simpa using h9
 refine fi ?_;refine la (pI (c:=a) rfl rfl zo Vh)<|Da ?_;refine oB 55 rfl (λYx=>?_) λYx=>?_
 have U5:decide (48<=cv a)=false:=by have:cv a<48:=zt Yx;exact decide_eq_false zo
 refine Da ?_;refine oC rfl (λ_=>?_) (λhc=>by cases hc);refine xa ?_;exact Ct (by rw[hI];unfold Ni me;rw[BC,uW,U5];rfl) (wc.trans hj) rfl;have U5:decide (48<=cv a)=true:=by have:¬ cv a<48:=zf Yx;exact Nf zo
 refine fi ?_;refine EE ?_;refine Ma (λX5=>?_) λX5=>?_
 have S5:decide (cv a<=57)=false:=by have:57<cv a:=zt X5;exact decide_eq_false zo
 refine xa ?_;exact Ct (by rw[hI];unfold Ni me;rw[BC,uW,S5,Bool.and_false];rfl) (wc.trans hj) rfl;have S5:decide (cv a<=57)=true:=by have:¬ 57<cv a:=zf X5;exact Nf zo
 refine xa ?_;refine next ?_ ?_ ?_ ?_ ?_;rw[zn WD];unfold Ni me;rw[U5,S5];simp;exact wc.trans hj;rfl;rfl;rfl
end
structure KB where
 cb:Nat
 gm:Nat
 vm:Nat
 am:Nat
 fm:Nat
 om:Nat
 G:KV
 V:KV
 A:KV
 F:KV
 O:KV
 g1:Nat
 g2:Nat
 g3:Nat
 g4:Nat
 g5:Nat
 name:List UInt8
def IJ(f:fe):LV:=.agg [int .i64 (f.params:Int),int .i64 (f.need:Int),int .i64 (f.depth:Int)]
structure Pz(k:KB)(c:Bb):Prop where
 G:so k.G c.globals
 V:so k.V c.vars
 A:so k.A c.ba
 O:so k.O c.own
 F:∀ n,GL.wb k.F n=(c.fn n).map IJ
def Xf(k:KB)(d:Nat):Heap:=[(k.cb,.cells 115 [.atom (.map (some k.gm)),.atom (.map (some k.vm)),.atom (.map (some k.am)),.atom (.map (some k.fm)),str k.name,.atom (.map (some k.om)),int .i64 (d:Int)]),(k.gm,.map (Pe k.G) k.g1),(k.vm,.map (Pe k.V) k.g2),(k.am,.map (Pe k.A) k.g3),(k.fm,.map (Pe k.F) k.g4),(k.om,.map (Pe k.O) k.g5)]
def Gy(err:Int)(lv:LV)(H':Heap)(r:Ie)(H:Heap):Prop:=(err=0/\r=.ret lv/\H=H')∨(err≠0/\(∃ nm,r=.panic (QE nm err))/\H=[])
section
variable{C:Ctx}{n:Nat}{e:Env}{H:Heap}{dst:Option Nat}{ty:TypeId}{ra:String}{ua:Array Edge}{g:Option (Nat×Bool)}{K:LV->Heap->Prop}{X:List PanicEntry->Heap->Prop}
theorem sK{H1 F:Heap}{f:FuncId} [Tb C.P f](args:List Operand){Rd:Array TypeId}{av:List LV}(has:args.map e.ev=av)(hp:H.Perm (H1++F))
  (hc:ca C f av H1 (Gy err lv H')) (hk:err=0->K lv (H'++F)) (hx:∀ nm,err≠0->X (QE nm err) F):Ya C ⟨dst,.call { callee:=.value (.func f),args:=args.toArray,argTypes:=Rd },ty,ra,ua,g⟩ e H K X:=by
 refine S.Tc args has hp hc ?_ ?_;rintro v H2 (⟨h1,h2,rfl⟩|⟨_,⟨nm,h2⟩,_⟩);cases h2;exact hk h1;cases h2;rintro ch H2 (⟨_,h2,_⟩|⟨h1,⟨nm,h2⟩,rfl⟩);cases h2;cases h2;exact hx nm h1
theorem Ya.Nl{f:FuncId} [Tb C.P f](args:List Operand){Rd:Array TypeId}{av:List LV}(has:args.map e.ev=av)
  (hc:ca C f av H (Gy err lv H')) (hk:err=0->K lv H') (hx:∀ nm,err≠0->X (QE nm err) []):Ya C ⟨dst,.call { callee:=.value (.func f),args:=args.toArray,argTypes:=Rd },ty,ra,ua,g⟩ e H K X:=by
 refine Ya.Zc (sK (F:=[]) (K:=λlv H'=>K lv H') (X:=X) args has (by rw[de]) hc (λh=>by rw[de];exact hk h) hx) λlv H' h=>⟨lv,H',vR _,Kb _,h⟩
theorem xm{vs:List LV}(hd:e.ds=[])(h:Dm C n e H rs vs)(he:err=0)(hv:Dh vs=lv)(hH:HSub H' H):Kd C n rs (Gy err lv H') .ret e H:=
 rR hd h hH (.inl ⟨he,by rw[hv],rfl⟩)
theorem mX{vs:List LV}(hd:e.ds=[])(h:Dm C n e H rs vs)(he:err=0)(hv:Dh vs=lv)(hH:HSub H' H):Kd C n rs (Gy err lv H') .normal e H:=
 rO hd h hH (.inl ⟨he,by rw[hv],rfl⟩)
theorem Tf{er:Int}{nm:List UInt8}(hd:e.ds=[])(he:err=er)(h0:er≠0):Kd C n rs (Gy err lv H') (.panic (QE nm er)) e H:=
 Kd.panic hd yd (.inr ⟨by rw[he];exact h0,⟨nm,by rw[he]⟩,rfl⟩)
end
variable{B0:Nat}{w0:World}
theorem Jg(b:Bool)(nm:List UInt8)(er:Int)(h0:er≠0):ca (KC B0 w0) 83 [bool b,str nm,int .i64 er] [] (Gy (if b=true then 0 else er) (.tuple []) []):=
 ca.mono (qnR b nm er) λr H ⟨h1,h2⟩=>by
  cases b with
  |true=>exact .inl ⟨rfl,h2,h1⟩
  |false=>exact .inr ⟨h0,⟨nm,h2⟩,h1⟩
theorem YM{k:KB}(hk:Pz k c)(d:Nat)(name:List UInt8):ca (KC B0 w0) 230 [ptr k.cb 0,str name] (Xf k d) (Gy (Zs c name) (.tuple []) (Xf k d)):=by generalize hI:Zs c name=E;unfold Zs at hI;refine kb Tryz.func230 rfl (n:=34) rfl rfl rfl ?_;refine xa ?_;refine la (Pure.wg rfl rfl sy hk.V) ?_;have both:∀ {e:Env} {Q:Jc} {Sa:Array Oper} {da:List Oper} {n:Nat},True:=λ{_ _ _ _ _}=>trivial;refine oB 10 rfl (λh1=>?_) λh1=>?_;have Wf:name∈c.vars∨name∈c.own:=.inl (zt h1);refine xa ?_;refine oS (sK (H1:=[]) (F:=Xf k d) [_,_,_] rfl mc (Jg true name 10 fa) (λ_=>?_) λnm h=>absurd rfl h);refine Di ?_;refine oS (sK (H1:=[]) (F:=Xf k d) [_,_,_] rfl mc (Jg true name 7 fa) (λ_=>?_) λnm h=>absurd rfl h);refine dd ?_;exact mX rfl rN (by rw[<-hI,zp Wf]) rfl ob;have hv:name ∉ c.vars:=zf h1;refine Da ?_;refine la (Pure.wg rfl rfl iT hk.O)<|oB 17 rfl (λh2=>?_) λh2=>?_;have Wf:name∈c.vars∨name∈c.own:=.inr (zt h2);refine xa ?_;refine oS (sK (H1:=[]) (F:=Xf k d) [_,_,_] rfl mc (Jg true name 10 fa) (λ_=>?_) λnm h=>absurd rfl h);refine Di ?_;refine oS (sK (H1:=[]) (F:=Xf k d) [_,_,_] rfl mc (Jg true name 7 fa) (λ_=>?_) λnm h=>absurd rfl h);refine dd ?_;exact mX rfl rN (by rw[<-hI,zp Wf]) rfl ob;have ho:name ∉ c.own:=zf h2;rw[zn (λh=>h.elim hv ho)] at hI;refine xa ?_;refine la (Pure.wg rfl rfl Oh hk.G)<|oB 26 rfl (λh3=>?_) λh3=>?_;rw[zp (zt h3)] at hI;refine Na ?_;refine oS (sK (H1:=[]) (F:=Xf k d) [_,_,_] rfl mc (Jg false name 10 fa) (λh=>absurd h fa) λnm _ e' Ka=>?_);refine Ei ?_;exact Tf (Ka.trans rfl) (by rw[<-hI];rfl) fa;rw[zn (zf h3)] at hI;refine Na ?_;refine oS (sK (H1:=[]) (F:=Xf k d) [_,_,_] rfl mc (Jg true name 10 fa) (λ_=>?_) λnm h=>absurd rfl h);refine Di ?_;refine oS (sK (H1:=[]) (F:=Xf k d) [_,_,_] rfl mc (Jg false name 7 fa) (λh=>absurd h fa) λnm _ e' Ka=>?_);exact Tf (Ka.trans rfl) (by rw[<-hI];rfl) fa
theorem uQ{k:KB}(hk:Pz k c)(d:Nat)(name:List UInt8):ca (KC B0 w0) 231 [ptr k.cb 0,str name] (Xf k d) (Gy (Qy c name) (.tuple []) (Xf k d)):=by generalize hI:Qy c name=E;unfold Qy at hI;refine kb Tryz.func231 rfl (n:=35) rfl rfl rfl ?_;refine xa ?_;refine la (Pure.wg rfl rfl XN hk.A)<|oB 10 rfl (λh1=>?_) λh1=>?_;refine wa ?_;refine oS (sK (H1:=[]) (F:=Xf k d) [_,_,_] rfl mc (Jg true name 10 fa) (λ_=>?_) λnm h=>absurd rfl h);refine Di ?_;refine oS (sK (H1:=[]) (F:=Xf k d) [_,_,_] rfl mc (Jg true name 7 fa) (λ_=>?_) λnm h=>absurd rfl h);refine dd ?_;exact mX rfl rN (by rw[<-hI,zp (zt h1)]) rfl ob;rw[zn (zf h1)] at hI;refine xa ?_;refine la (Pure.wg rfl rfl Oh hk.G)<|oB 18 rfl (λh2=>?_) λh2=>?_;have Wf:name∈c.globals∨name∈c.own:=.inl (zt h2);refine Na ?_;refine oS (sK (H1:=[]) (F:=Xf k d) [_,_,_] rfl mc (Jg false name 10 fa) (λh=>absurd h fa) λnm _ e' Ka=>?_);refine Ei ?_;exact Tf (Ka.trans rfl) (by rw[<-hI,zp Wf];rfl) fa;refine Na ?_;refine la (Pure.wg rfl rfl iT hk.O)<|oB 26 rfl (λh3=>?_) λh3=>?_;have Wf:name∈c.globals∨name∈c.own:=.inr (zt h3);refine Na ?_;refine oS (sK (H1:=[]) (F:=Xf k d) [_,_,_] rfl mc (Jg false name 10 fa) (λh=>absurd h fa) λnm _ e' Ka=>?_);refine Ei ?_;exact Tf (Ka.trans rfl) (by rw[<-hI,zp Wf];rfl) fa;rw[zn (λh=>h.elim (zf h2) (zf h3))] at hI;refine Na ?_;refine oS (sK (H1:=[]) (F:=Xf k d) [_,_,_] rfl mc (Jg true name 10 fa) (λ_=>?_) λnm h=>absurd rfl h);refine Di ?_;refine oS (sK (H1:=[]) (F:=Xf k d) [_,_,_] rfl mc (Jg false name 7 fa) (λh=>absurd h fa) λnm _ e' Ka=>?_);exact Tf (Ka.trans rfl) (by rw[<-hI];rfl) fa
@[reducible] def iv(n:Nat):LV:=int .i64 (n:Int)
theorem qsj{k:KB}(hk:Pz k c){B D:Nat}(hB:pt B D c.funcs)(tL:B<=100000000)(ZC:D<=100000000)(d:Nat)(hd:d<=1000000000)(name:List UInt8)(ns:List Nat)(hl:ns.length<=2000000)(NK:∀ n∈ns,n<=1000000000) :
  ca (KC B0 w0) 259 [ptr k.cb 0,str name,.list (ns.map iv)] (Xf k d) (Gy (Lc c name ns.length) (iv (Uz c name ns)) (Xf k (max d (Mu c eg name)))):=by
 generalize hI:Lc c name ns.length=E;generalize hN:Uz c name ns=N;generalize wj:Mu c eg name=DD;unfold Lc at hI;unfold Uz at hN;unfold Mu at wj;have aE:(ns.map iv).length=ns.length:=Db _;refine kb Tryz.func259 rfl (n:=110) rfl rfl rfl ?_;refine xa ?_;by_cases Wf:name=[105,110];rw[zp Wf] at hI hN;rw[zn (λh=>h.2.1 Wf)] at wj;subst wj;refine oC rfl (λ_=>?_) λhc=>absurd Wf (zf hc);refine xa ?_;refine oS (sK (H1:=[]) (F:=Xf k d) [_,_,_] rfl mc (Jg (decide (((ns.map iv).length:Int)=0)) name 1 fa) (λh=>?_) λnm h e' Ka=>?_)
 have h0:ns.length=0:=by by_cases h1:((ns.map iv).length:Int)=0;omega;rw[decide_eq_false h1] at h;cases h
 refine xa ?_;exact xm rfl (eb rfl) (by rw[<-hI,zp h0]) (by rw[<-hN];rfl) (by rw[Nat.max_zero];exact Kb _);have h0:¬ ns.length=0:=by intro h1;rw[Nf (show((ns.map iv).length:Int)=0 by omega)] at h;exact h rfl
 rw[show(if decide (((ns.map iv).length:Int)=0)=true then (0:Int) else 1)=1 by rw[zn];simp only[Gg];omega];refine Qd ?_;exact Tf (Ka.trans rfl) (by rw[<-hI,zn h0]) fa;rw[zn Wf] at hI hN;refine oC rfl (λhc=>absurd (zt hc) Wf) λ_=>?_;refine Rm ?_
 by_cases kg:name=[111,117,116];rw[zp kg] at hI hN;rw[zn (λh=>h.2.2 kg)] at wj;subst wj;refine oC rfl (λ_=>?_) λhc=>absurd kg (zf hc);refine xa ?_;refine oS (sK (H1:=[]) (F:=Xf k d) [_,_,_] rfl mc (Jg (decide (((ns.map iv).length:Int)=1)) name 1 fa) (λh=>?_) λnm h e' Ka=>?_)
 have h0:ns.length=1:=by by_cases h1:((ns.map iv).length:Int)=1;omega;rw[decide_eq_false h1] at h;cases h
 obtain⟨a,l,rfl⟩:∃ a l,ns=a::l:=by
  cases ns with
  |nil=>simp at h0
  |cons a l=>exact⟨a,l,rfl⟩
 refine xa ?_;refine la (xR (ke:=iv a) (cs:=[iv a]) rfl rfl zo rfl rfl rfl)<|Na ?_;exact xm rfl (eb rfl) (by rw[<-hI,zp h0]) (by rw[<-hN];rfl) (by rw[Nat.max_zero];exact Kb _);have h0:¬ ns.length=1:=by intro h1;rw[Nf (show((ns.map iv).length:Int)=1 by omega)] at h;exact h rfl
 rw[show(if decide (((ns.map iv).length:Int)=1)=true then (0:Int) else 1)=1 by rw[zn];simp only[Gg];omega];refine Qd ?_;exact Tf (Ka.trans rfl) (by rw[<-hI,zn h0]) fa;rw[zn kg] at hI hN;rw[zp ⟨rfl,Wf,kg⟩] at wj;refine oC rfl (λhc=>absurd (zt hc) kg) λ_=>?_;refine xa ?_;have hF:=hk.F name
 cases Vc:c.fn name with
 |none=>
  rw[Vc] at hI hF;refine la (Pure.Yr rfl rfl jT hF)<|Na ?_;refine oS (Jd λb7=>?_);refine wa ?_;refine la (Pure.wg rfl rfl XN hk.V)<|oB 46 rfl (λh2=>?_) λh2=>?_;have Ap:name∈c.vars∨name∈c.ba∨name∈c.own:=.inl (zt h2);refine Na ?_;refine oS (sK (H1:=[]) (F:=_::Xf k d) [_,_,_] rfl mc (Jg false name 10 fa) (λh=>absurd h fa) λnm _ e' Ka=>?_);refine Ei ?_;exact Tf (Ka.trans rfl) (by rw[<-hI];exact zp Ap) fa;refine Na ?_;refine la (Pure.wg rfl rfl jT hk.A)<|oB 54 rfl (λh3=>?_) λh3=>?_;have Ap:name∈c.vars∨name∈c.ba∨name∈c.own:=.inr (.inl (zt h3));refine Na ?_;refine oS (sK (H1:=[]) (F:=_::Xf k d) [_,_,_] rfl mc (Jg false name 10 fa) (λh=>absurd h fa) λnm _ e' Ka=>?_);refine Ei ?_;exact Tf (Ka.trans rfl) (by rw[<-hI];exact zp Ap) fa;refine Na ?_;refine la (Pure.wg rfl rfl U6 hk.O)<|oB 63 rfl (λh4=>?_) λh4=>?_;have Ap:name∈c.vars∨name∈c.ba∨name∈c.own:=.inr (.inr (zt h4));refine Na ?_;refine oS (sK (H1:=[]) (F:=_::Xf k d) [_,_,_] rfl mc (Jg false name 10 fa) (λh=>absurd h fa) λnm _ e' Ka=>?_);refine Ei ?_;exact Tf (Ka.trans rfl) (by rw[<-hI];exact zp Ap) fa;refine Na ?_;refine oS (sK (H1:=[]) (F:=_::Xf k d) [_,_,_] rfl mc (Jg true name 10 fa) (λ_=>?_) λnm h=>absurd rfl h);refine Di ?_;refine oS (sK (H1:=[]) (F:=_::Xf k d) [_,_,_] rfl mc (Jg false name 7 fa) (λh=>absurd h fa) λnm _ e' Ka=>?_);refine Ei ?_
  exact Tf (Ka.trans rfl) (by rw[<-hI];exact zn λh=>h.elim (zf h2) λh=>h.elim (zf h3) (zf h4)) fa
 |some f=>
  rw[Vc] at hI hF hN wj;have M4:=hB f (List.mem_of_find?_eq_some Vc);refine la (Pure.Yv rfl rfl jT hF)<|Na ?_;refine oS (Jd λb7=>?_);refine wa ?_;refine oS (sK (H1:=[]) (F:=_::Xf k d) [_,_,_] rfl mc (Jg true name 10 fa) (λ_=>?_) λnm h=>absurd rfl h);refine Di ?_;refine oS (sK (H1:=[]) (F:=_::Xf k d) [_,_,_] rfl mc (Jg true name 7 fa) (λ_=>?_) λnm h=>absurd rfl h);refine xa ?_
  by_cases h0:ns.length=f.params;rotate_left;have yL:¬ ((ns.map iv).length:Int)=(f.params:Int):=by omega
  refine oB 76 rfl (λh=>absurd (zt h) yL) λ_=>?_;refine oS (sK (H1:=[]) (F:=_::Xf k d) [_,_,_] rfl mc (Jg false name 1 fa) (λh=>absurd h fa) λnm _ e' Ka=>?_);refine Ei ?_;exact Tf (Ka.trans rfl) (by rw[<-hI];exact zn h0) fa;have yL:((ns.map iv).length:Int)=(f.params:Int):=by omega
  refine oB 76 rfl (λ_=>?_) λh=>absurd yL (zf h);have hI0:E=0:=by rw[<-hI];exact zp h0
  refine oS (sK (H1:=[]) (F:=_::Xf k d) [_,_,_] rfl mc (Jg true name 1 fa) (λ_=>?_) λnm h=>absurd rfl h);refine Da ?_;refine cD (m:=12) rfl [(b7,.cells 175 [iv f.params,iv f.need,iv f.depth])]<|dJ ?_;refine aT 7 rfl rfl (Pure.add rfl rfl zo)<|aL ?_ qd;refine lO 4 (lH rfl rfl (pL (c:=iv d) rfl Oh rfl) ?_);refine lO 8 (lH rfl rfl (Pure.Ej d (f.depth+1) rfl rfl zo zo) ?_);refine lO 9 (lH rfl rfl (pN rfl) ?_);refine lO 10 (lH rfl rfl (pF rfl) ?_);refine lO 11 (lS (H1:=[(k.cb,.cells 115 [.atom (.map (some k.gm)),.atom (.map (some k.vm)),.atom (.map (some k.am)),.atom (.map (some k.fm)),str k.name,.atom (.map (some k.om)),int .i64 (d:Int)])]) rfl (.inl rfl) rfl (show xd _ _ _ from pT pH) qd (sS (n:=1) (Ob:=[_,_,_,_,_,_,iv (max d (f.depth+1))]) rfl pH rfl rfl rfl rfl rfl ?_));refine lD zk ?_;have MC:max d DD=max d (f.depth+1):=by rw[<-wj]
  rw[MC];refine qN ?_;refine fb.perm (H':=(b7,.cells 175 [iv f.params,iv f.need,iv f.depth])::Xf k (max d (f.depth+1))) (cr _ _ _) ?_;refine xa ?_;refine la (Pure.Ej (f.params+1) f.need rfl rfl zo zo)<|xa ?_;refine oL (λkk ls H'=>∃ (pre l1:List Nat) (m:Nat),ns=pre++l1/\kk=l1.length/\ls=[(9,iv m),(96,.list (ns.map iv)),(97,int .i64 ((ns.map iv).length:Int)),(98,iv pre.length)]/\H'=Xf k (max d (f.depth+1))/\Ky pre.length l1 m=N)
   ⟨ns.length,_,_,⟨[],ns,max (f.params+1) f.need,rfl,rfl,rfl,rfl,hN⟩,lb,Pg ob⟩ ?_
  rintro kk ls H' ⟨pre,l1,m,Xb,rfl,rfl,rfl,hS⟩ j hj;have Kl:pre.length<=2000000:=by rw[Xb,Ga] at hl;omega
  refine Zg ?_;refine Ma (λhc=>?_) λhc=>?_;have na:=zt hc;rw[Db,Xb,Ga] at na
  obtain⟨a,l2,rfl⟩:∃ a l2,l1=a::l2:=by
   cases l1 with
   |nil=>simp at na
   |cons a l2=>exact⟨a,l2,rfl⟩
  have ha:a<=1000000000:=NK a (by rw[Xb];exact List.mem_append_right _ We);rw[Ky] at hS;refine xa ?_;refine la (xR (ke:=iv a) (cs:=[iv a]) rfl rfl zo (by rw[Xb];exact Td iv pre a l2) rfl rfl)<|wa ?_;refine la (Pure.Ej m (pre.length+a) rfl rfl zo zo)<|xa ?_;exact⟨l2.length,_,_,Nat.lt_succ_self _,⟨pre++[a],l2,max m (pre.length+a),by rw[Xb];simp,rfl,rfl,rfl,by rw[Ga];exact hS⟩,⟨rfl,rfl,rfl,Kg (by simp),trivial⟩,Kb _,hj⟩;have na:=zf hc;rw[Db,Xb,Ga] at na;obtain rfl:l1=[]:=by
   cases l1 with
   |nil=>rfl
   |cons a l2=>simp at na;omega
  rw[Ky] at hS;refine xa ?_;exact xm hj (eb rfl) hI0 (by rw[<-hS];rfl) ob
end Go.Proofs.YtmnjklgnhpnckaaGreatDoor.sj
