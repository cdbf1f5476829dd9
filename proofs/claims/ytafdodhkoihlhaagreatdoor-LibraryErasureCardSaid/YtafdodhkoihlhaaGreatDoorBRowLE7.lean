import Derived.Shelf.Strings.SlTrimAscii
import Derived.Test.YtafdodhkoihlhaaGreatDoorBRowLE6
set_option linter.unusedVariables false
set_option linter.unusedSimpArgs false
set_option maxRecDepth 100000
set_option maxHeartbeats 0
open Go.GL (zk)
open List (perm_append_singleton not_mem_nil length_singleton map_map all_reverse)
open Nat (zero_le max_zero)
namespace Go.Proofs.Y
open Go.GL Go.RowKit Go.ia
variable{Hc:Heap}{T:List Tok}{db first:Array Value}{f:FuncId}{i sb:Nat}
attribute [local irreducible] Ea kb ab ca Go.GL.Pure Ie pf ke LQ Rb oi Nj
def SB:MapEntry:={ key:=.string ⟨#[45]⟩,val:=.string ⟨#[110,101,103]⟩,born:=0 }
def lE:MapEntry:={ key:=.string ⟨#[33]⟩,val:=.string ⟨#[110,111,116]⟩,born:=1 }
variable{B0:Nat}{w0:World}
def qBc(B0:Nat)(w0:World)(sb:Nat)(T:List Tok)(f:Nat):Prop:=
 ∀ i op r,i<=T.length->op<=100->Vn T f i op=some r->ca (KC B0 w0) 252 [ptr sb 0] [Hb sb T i op] (Ho sb T Ab r)
def pQ(T:List Tok)(i:Nat)(seen:Array Nat):Prop:=
 seen=#[]∨(seen=#[0]/\Ja T i [[45]]=false)∨(seen=#[1]/\Ja T i [[33]]=false)∨((seen=#[0,1]∨seen=#[1,0])/\Ja T i [[45]]=false/\Ja T i [[33]]=false)
theorem qsA{seen:Array Nat}(h:pQ T i seen)(ho:#[SB,lE].filter (λe=>!seen.contains e.born)=#[]):Ja T i [[45]]=false/\Ja T i [[33]]=false:=by have h1:=Array.filter_eq_empty_iff.1 ho SB (by simp);have h2:=Array.filter_eq_empty_iff.1 ho lE (by simp);rcases h with rfl|⟨rfl,_⟩|⟨rfl,_⟩|⟨_,h3,h4⟩;simp[SB] at h1;simp[lE] at h2;simp[SB] at h1;exact⟨h3,h4⟩
theorem qsF{seen:Array Nat}{e:MapEntry}(h:pQ T i seen)(he:e∈(#[SB,lE].filter λe=>!seen.contains e.born).toList) :
  seen.size<2/\((e=SB/\(Ja T i [[45]]=false->pQ T i (seen.push 0)))∨(e=lE/\(Ja T i [[33]]=false->pQ T i (seen.push 1)))):=by
 have Na:=Array.mem_filter.1 (Array.mem_toList_iff.1 he);have UL:e=SB∨e=lE:=by simpa using Na.1
 have mJ:=Na.2;rcases h with rfl|⟨rfl,h1⟩|⟨rfl,h1⟩|⟨rfl|rfl,_,_⟩;rcases UL with rfl|rfl;exact⟨by decide,.inl ⟨rfl,λh=>.inr (.inl ⟨rfl,h⟩)⟩⟩;exact⟨by decide,.inr ⟨rfl,λh=>.inr (.inr (.inl ⟨rfl,h⟩))⟩⟩;rcases UL with rfl|rfl;simp[SB] at mJ;exact⟨by decide,.inr ⟨rfl,λh=>.inr (.inr (.inr ⟨.inl rfl,h1,h⟩))⟩⟩;rcases UL with rfl|rfl;exact⟨by decide,.inl ⟨rfl,λh=>.inr (.inr (.inr ⟨.inr rfl,h,h1⟩))⟩⟩;simp[lE] at mJ;rcases UL with rfl|rfl;simp[SB] at mJ;simp[lE] at mJ;rcases UL with rfl|rfl;simp[SB] at mJ;simp[lE] at mJ
theorem qrx(h:Ja T i [[33]]=true):Ja T i [[45]]=false:=by
 unfold Ja at h ⊢;split at h;rename_i t ht;simp only[Ed] at h;have h2:t.text=[33]:=by simpa using h.2
 rw[h2];simp;cases h
theorem qrR(hG:GW B0 w0)(sb:Nat)(T:List Tok)(hT:Xt T):∀ f:Nat,(∀ g,g<f->cG B0 w0 sb T g)->qBc B0 w0 sb T f:=by
 intro f;induction f with
 |zero=>intro _ i op r _ _ hr;rw[Vn] at hr;cases hr
 |succ f ih=>
  intro hE i op r hi ho hr;have hl:=hT.len;rw[Vn] at hr;refine jb Tryz.func252 rfl (n:=36) rfl rfl rfl ?_;refine Xe ?_;refine oS (Sd λb=>?_);refine wh ?_;refine oS (S.makeMap λmb=>oS (S.insert (k:=⟨#[45]⟩) (v:=.string ⟨#[110,101,103]⟩) (kt:=9) (el:=9) zk zk rfl rfl rfl pH (by simp) ?_));refine oS (S.insert (k:=⟨#[33]⟩) (v:=.string ⟨#[110,111,116]⟩) (kt:=9) (el:=9) zk zk rfl rfl rfl pH (λe he=>⟨⟨#[45]⟩,by simp at he;rw[he],by decide⟩)<|qa (Cc (lv:=.atom _) rfl)<|oS (S.range (kt:=9) (el:=9) zk rfl xc λrb=>?_));refine Aa ?_
  refine oL (λk ls H=>∃ seen:Array Nat,k=2-seen.size/\ls=[(0,ptr sb 0),(2,ptr b 0),(8,ptr rb 0)]/\H=[(rb,.obj (.mapIter (some mb) 2 seen 2)),(mb,.obj (.map #[SB,lE] 2)),(b,.cells 219 [str [],int .u32 0,str [],fc]),Hb sb T i op]/\pQ T i seen)
   ⟨_,_,_,⟨#[],rfl,rfl,rfl,.inl rfl⟩,Kb,bc _⟩ ?_
  rintro k ls H ⟨seen,rfl,rfl,rfl,hS⟩ j hj;refine Xe ?_;refine oS (S.next (F:=[(b,.cells 219 [str [],int .u32 0,str [],fc]),Hb sb T i op]) rfl dc ea (λhov=>?_) λen yJ=>?_);obtain⟨zx,CD⟩:=qsA hS hov;rw[zn (by rw[zx];decide),zn (by rw[CD];decide)] at hr;refine Aa ?_;refine Oa (λfv=>?_) λfv=>?_;cases fv;refine wa ?_;refine oS (sP [_] rfl XB (qvu hG sb T hT f (λg hg=>hE g zo) i op r hi ho hr) (λv i1 yc h1=>?_) λl er i1 yc h1 e' Na=>?_);refine Ra ?_;exact Of (v:=v) hj (rC (rA rfl xc rfl ie) rN) h1 rfl (Fc Vd sd);refine Yi ?_;exact Mc (Na.trans hj) h1 Gd;obtain⟨ae,⟨rfl,jq⟩|⟨rfl,jq⟩⟩:=qsF hS yJ;refine Aa ?_;refine Oa (λfv=>?_) λfv=>?_;refine Zi ?_;refine qa (Pure.entry (en:=SB) (stamp:=0) rfl xc Xh rfl (by show(seen.push 0).back? = _;simp) rfl) ?_;refine wa ?_;refine Kj ?_;refine oS (sH [_,_] rfl XB (Cu sb T i op [[45]] hl zo (by simp)) ?_);refine Ad ?_;refine Oa (λhc=>?_) λhc=>?_;rw[zp hc] at hr;refine Yd ?_;refine oS (sP [_,_] rfl pH (DG sb T i op [45] hl zo zo) (λv i1 yc h1=>?_) λl er i1 yc h1 e' Na=>?_);rw[h1,Je] at hr;obtain⟨rfl,rfl,vx,NB⟩:=Pw h1;refine Xi ?_;obtain⟨r1,Ae⟩:=ql hr;refine oS (sP [_] rfl pH (ih (λg hg=>hE g zo) _ _ r1 zo zo Ae) (λe2 i2 xg h2=>?_) λl er i2 xg h2 e' Na=>?_);rw[Ae,h2,Je] at hr;obtain⟨g1,_,g3,rfl⟩:=(Ky T f).2.2.1 _ _ _ (Ae.trans (congrArg some h2));have g4:=g3 zo;refine Kj ?_;refine Ra ?_;refine oS (Sd λb2=>?_);refine xa ?_
  exact Of (v:=.mk Ng 0 [] [e2]) hj (rC (rA rfl xc rfl ie) rN) (by cases hr;rfl) (by rw[GC];rfl) (by
   rw[show(((op+1:Nat):Int)-1)=((op+1-1:Nat):Int) by omega];exact Fc Vd sd)
  exact CF;rw[h1,Ih] at hr;refine Zd ?_;exact Mc (Na.trans hj) (by cases hr;rfl) Gd;refine Aa ?_;exact⟨_,_,_,by have:=ae;simp;omega,⟨seen.push 0,rfl,rfl,rfl,jq hc⟩,Kb,Fc Vd (Fc Vd (Fc Vd Gd)),hj⟩;cases fv;refine Aa ?_;refine Oa (λfv=>?_) λfv=>?_;refine Zi ?_;refine qa (Pure.entry (en:=lE) (stamp:=1) rfl xc Xh rfl (by show(seen.push 1).back? = _;simp) rfl) ?_;refine wa ?_;refine Kj ?_;refine oS (sH [_,_] rfl XB (Cu sb T i op [[33]] hl zo (by simp)) ?_);refine Ad ?_;refine Oa (λhc=>?_) λhc=>?_;rw[zn (by rw[qrx hc];decide),zp hc] at hr;refine Yd ?_;refine oS (sP [_,_] rfl pH (DG sb T i op [33] hl zo zo) (λv i1 yc h1=>?_) λl er i1 yc h1 e' Na=>?_);rw[h1,Je] at hr;obtain⟨rfl,rfl,vx,NB⟩:=Pw h1;refine Xi ?_;obtain⟨r1,Ae⟩:=ql hr;refine oS (sP [_] rfl pH (ih (λg hg=>hE g zo) _ _ r1 zo zo Ae) (λe2 i2 xg h2=>?_) λl er i2 xg h2 e' Na=>?_);rw[Ae,h2,Je] at hr;obtain⟨g1,_,g3,rfl⟩:=(Ky T f).2.2.1 _ _ _ (Ae.trans (congrArg some h2));have g4:=g3 zo;refine Kj ?_;refine Ra ?_;refine oS (Sd λb2=>?_);refine xa ?_
  exact Of (v:=.mk yg 0 [] [e2]) hj (rC (rA rfl xc rfl ie) rN) (by cases hr;rfl) (by rw[GC];rfl) (by
   rw[show(((op+1:Nat):Int)-1)=((op+1-1:Nat):Int) by omega];exact Fc Vd sd)
  exact CF;rw[h1,Ih] at hr;refine Zd ?_;exact Mc (Na.trans hj) (by cases hr;rfl) Gd;refine Aa ?_;exact⟨_,_,_,by have:=ae;simp;omega,⟨seen.push 1,rfl,rfl,rfl,jq hc⟩,Kb,Fc Vd (Fc Vd (Fc Vd Gd)),hj⟩;cases fv
inductive WB (sb:Nat):Nat->FuncId->Array Value->Array Value->Heap->Prop
 |un:WB sb 6 252 #[.pointer (some ⟨sb,0,none⟩)] #[] []
 |bin {k bo bs bp bn:Nat} {f:FuncId} {first db:Array Value} {H:Heap} (h:WB sb (k+1) f first db H):WB sb k 272 #[] #[.pointer (some ⟨bo,0,none⟩),.pointer (some ⟨bs,0,none⟩),.pointer (some ⟨bp,0,none⟩),.pointer (some ⟨bn,0,none⟩)]
   ((bo,.cells 250 [.atom (.func (.func f) first db)])::(bs,.cells 109 [ptr sb 0])::(bp,.cells 42 [.list ((Oi k).map str)])::(bn,.cells 4 [bool (decide ((k:Int)=2))])::H)
def DY{A:Type}(sb:Nat)(T:List Tok)(enc:A->LV)(Hc:Heap)(Eo:pk A)(r:Pe)(H:Heap):Prop:=match Eo with
 |.ok v i op=>r=.ret (enc v)/\H=Hb sb T i op::Hc
 |.err l e=>r=.panic (mO l e)/\∃ i op:Nat,H=Hb sb T i op::Hc
def TH(B0:Nat)(w0:World)(sb:Nat)(T:List Tok)(f:Nat):Prop:=
 ∀ k fn first db Hc i op r,WB sb k fn first db Hc->i<=T.length->op<=100->Dd T f k i op=some r ->
  ca (KC B0 w0) fn (first.toList.map .atom++db.toList.map .atom) (Hb sb T i op::Hc) (DY sb T Ab Hc r)
section steps
variable{C:Ctx}{e:Env}{H:Heap}{dst:Option Nat}{ty:TypeId}{ra:String}{ua:Array Edge}{g:Option (Nat×Bool)}{K:LV->Heap->Prop}{X:List PanicEntry->Heap->Prop}
theorem qBm(a b:List LV){e:Env}:a++([]:List Operand).map e.ev++b=a++b:=by simp
theorem S.Gp{A:Type}{enc:A->LV}{Eo:pk A}{sb i op:Nat}{T:List Tok}{fo:Operand}{f:FuncId} [Wb C.P f]{first db:Array Value}{nh:Array TypeId}{Hc F:Heap}(hf:e.ev fo=.atom (.func (.func f) first db))(hp:xd (Hb sb T i op) H (F++Hc))
  (hc:ca C f (first.toList.map .atom++db.toList.map .atom) (Hb sb T i op::Hc) (DY sb T enc Hc Eo)) (hk:∀ v i' La,Eo=.ok v i' La->K (enc v) (Hb sb T i' La::(F++Hc))) (hx:∀ l er i' La,Eo=.err l er->X (mO l er) (Hb sb T i' La::Hc++F)) :
  ab C ⟨dst,.call { callee:=.value fo,args:=#[],argTypes:=nh },ty,ra,ua,g⟩ e H K X:=by
 have jr:H.Perm ((Hb sb T i op::Hc)++F):=hp.trans (au _ Lh);refine ab.qd (K:=λv H'=>∃ u i' La,Eo=.ok u i' La/\v=enc u/\H'=Hb sb T i' La::Hc++F) (S.Cm (H1:=Hb sb T i op::Hc) (F:=F) [] hf (qBm _ _) jr hc ?_ ?_) ?_;intro v H' h;cases hr:Eo with
 |ok u i' La=>rw[hr] at h;obtain⟨h1,rfl⟩:=h;cases h1;exact⟨u,i',La,rfl,rfl,rfl⟩
 |err l er=>rw[hr] at h;obtain⟨h1,_⟩:=h;cases h1
 intro ch H' h;cases hr:Eo with
 |ok u i' La=>rw[hr] at h;obtain⟨h1,_⟩:=h;cases h1
 |err l er=>rw[hr] at h;obtain⟨h1,i',La,rfl⟩:=h;cases h1;exact hx _ _ _ _ hr
 rintro v H' ⟨u,i',La,h1,rfl,rfl⟩;exact⟨_,_,vR _,⟨[],by simpa using Lh⟩,hk u i' La h1⟩
end steps
theorem WB.enter{k:Nat}{H:Heap}(h:WB sb k f first db H):Wb Tryz.prog f:=by cases h <;> infer_instance
theorem WB.le{k:Nat}{H:Heap}(h:WB sb k f first db H):k<=6:=by
 induction h with
 |un=>exact Pb _
 |bin _ ih=>omega
theorem qws{s:Nat×ja}{A B:Heap}:HSub (s::(B++Hc)) ((s::Hc++[])++(A++B)):=by refine⟨A,?_⟩;have h1:(Hc++(A++B)).Perm ((B++Hc)++A):=Lh.trans (by rw[Yc];exact Lh);simpa using au s h1
theorem qn9{s u:Nat×ja}{A:Heap}:HSub (u::s::(A++Hc)) (u::((s::([]++Hc))++A)):=by refine⟨[],?_⟩;have h1:(Hc++A).Perm (A++Hc):=Lh;simpa using au u (au s h1)
theorem HSub.LH{H' l1 l2:Heap}(h:HSub H' l2):HSub H' (l1++l2):=by obtain⟨G,hG⟩:=h;refine⟨G++l1,?_⟩;have h1:(l1++l2).Perm (l2++l1):=Lh;have h2:(l2++l1).Perm ((H'++G)++l1):=hG.append_right l1;simpa using h1.trans h2
theorem qqb{a:Nat×ja}{l1 l2:Heap}:([]++(l1++a::l2)).Perm ([a]++(l1++l2)):=by exact(List.nil_append _).symm▸List.perm_middle
theorem qxk(k:Nat):(Oi k).length<=1000:=by unfold Oi;split <;> simp
theorem qu9(h:i<T.length):Sz T i=T[i].text:=by rw[Sz,Yh h]
variable{B0:Nat}{w0:World}
theorem qxL(hG:GW B0 w0)(sb:Nat)(T:List Tok)(hT:Xt T)(f:Nat)(hC:∀ g,g<f->TH B0 w0 sb T g)(k bo bs bp bn:Nat)(fn:FuncId)(first db:Array Value)(Hc:Heap)(Wo:WB sb (k+1) fn first db Hc)(i op:Nat)(r:pk Ex)
  (hi:i<=T.length) (ho:op<=100) (hr:Dd T f k i op=some r) :
  ca (KC B0 w0) 272 [ptr bo 0,ptr bs 0,ptr bp 0,ptr bn 0] (Hb sb T i op::(bo,.cells 250 [.atom (.func (.func fn) first db)])::(bs,.cells 109 [ptr sb 0])::(bp,.cells 42 [.list ((Oi k).map str)])::(bn,.cells 4 [bool (decide ((k:Int)=2))])::Hc)
   (DY sb T Ab ((bo,.cells 250 [.atom (.func (.func fn) first db)])::(bs,.cells 109 [ptr sb 0])::(bp,.cells 42 [.list ((Oi k).map str)])::(bn,.cells 4 [bool (decide ((k:Int)=2))])::Hc) r):=by
 have hl:=hT.len;have AO:=Wo.le;have yJ:=Wo.enter;obtain⟨f,rfl⟩:∃ g,f=g+1:=by
  cases f with
  |zero=>rw[Dd] at hr;cases hr
  |succ g=>exact⟨g,rfl⟩
 rw[Dd,zn zo] at hr;obtain⟨r1,Ae⟩:=ql hr;refine jb Tryz.func272 rfl (n:=38) rfl rfl rfl ?_;refine Xe ?_;refine oS (Sd λb=>?_);refine xa ?_;refine oS (S.Gp (F:=[(b,_),(bo,_),(bs,_),(bp,_),(bn,_)]) (Hc:=Hc) rfl Vd (hC f zo _ _ _ _ _ _ _ r1 Wo hi ho Ae) (λv i1 yc h1=>?_) λl er i1 yc h1 e' Na=>?_);rw[Ae,h1,Je] at hr;obtain⟨g1,_,g3,rfl⟩:=(Ky T f).1 _ _ _ _ (Ae.trans (congrArg some h1));have g4:=g3 hi;refine oS (Sd λb5=>?_);refine Ra ?_
 refine oL (λq ls H=>∃ (ex:Ex) (i2:Nat),q<=f/\ls=[(0,ptr bo 0),(1,ptr bs 0),(2,ptr bp 0),(3,ptr bn 0),(4,ptr b 0),(5,ptr b5 0)] /\
   H=(b5,.cells 219 [str (Li ex),int .u32 (Qs ex),str (Us ex),.list (Xq ex)])::Hb sb T i2 yc::(b,.cells 219 [str [],int .u32 0,str [],fc])::([(bo,.cells 250 [.atom (.func (.func fn) first db)]),(bs,.cells 109 [ptr sb 0]),(bp,.cells 42 [.list ((Oi k).map str)]),(bn,.cells 4 [bool (decide ((k:Int)=2))])]++Hc)/\i2<=T.length/\qp T q k ex i2 yc=some r)
  ⟨f,_,_,⟨v,i1,Pb _,rfl,rfl,g4,hr⟩,Kb,bc _⟩ ?_
 rintro q ls H ⟨ex,i2,hqf,rfl,rfl,Dx,hI⟩ j hj;obtain⟨q,rfl⟩:∃ q',q=q'+1:=by
  cases q with
  |zero=>rw[qp] at hI;cases hI
  |succ q=>exact⟨q,rfl⟩
 rw[qp] at hI;refine xa ?_;refine oS (sH [_,_] rfl Vd (Cu sb T i2 yc (Oi k) hl zo (qxk k)) ?_);refine Ad ?_;refine Oa (λhc=>?_) λhc=>?_;have Ka:=Wj hc;rw[zp hc] at hI;refine Aa ?_;refine ZB [(0,ptr bo 0),(1,ptr bs 0),(2,ptr bp 0),(3,ptr bn 0),(4,ptr b 0),(5,ptr b5 0),(6,str (Sz T i2))] ?_ λj2 Gc=>?_;refine Tq ?_;refine qP (xR (Ud:=Bu T[i2]) (cs:=[_,_,_]) rfl rfl zo (Mo _ _ _ Ka) rfl rfl) rfl ?_;refine Ra ?_;exact⟨⟨rfl,rfl,rfl,rfl,rfl,rfl,vQ (qu9 Ka).symm,trivial⟩,rfl,rfl⟩;obtain⟨r2,De⟩:=ql hI;refine xa ?_;refine cD (m:=7) rfl [(bo,.cells 250 [.atom (.func (.func fn) first db)])] ?_;have Kt:HSub [(bo,.cells 250 [.atom (.func (.func fn) first db)])] (Hb sb T (i2+1) yc::(b5,.cells 219 [str (Li ex),int .u32 (Qs ex),str (Us ex),.list (Xq ex)])::(b,.cells 219 [str [],int .u32 0,str [],fc])::(bo,.cells 250 [.atom (.func (.func fn) first db)])::[(bs,.cells 109 [ptr sb 0]),(bp,.cells 42 [.list ((Oi k).map str)]),(bn,.cells 4 [bool (decide ((k:Int)=2))])]++Hc):=Fc XB sd;refine Rb.take (i:=0) Kt rfl zk zk zk rfl (Cc (lv:=.atom _) rfl)<|Rb.take (i:=2) Kt rfl zk zk zk rfl (pL (c:=.atom _) rfl xc rfl)<|aL ?_ Kt;refine wq (i:=1) (j:=3) zk ?_ ?_;have AD:(Hb sb T (i2+1) yc::(b5,ja.cells 219 [str (Li ex),int .u32 (Qs ex),str (Us ex),.list (Xq ex)])::(b,ja.cells 219 [str [],int .u32 0,str [],fc])::([(bo,ja.cells 250 [.atom (.func (.func fn) first db)]),(bs,ja.cells 109 [ptr sb 0]),(bp,ja.cells 42 [.list ((Oi k).map str)]),(bn,ja.cells 4 [bool (decide ((k:Int)=2))])]++Hc)).Perm ((Hb sb T (i2+1) yc::Hc)++[(b5,ja.cells 219 [str (Li ex),int .u32 (Qs ex),str (Us ex),.list (Xq ex)]),(b,ja.cells 219 [str [],int .u32 0,str [],fc]),(bo,ja.cells 250 [.atom (.func (.func fn) first db)]),(bs,ja.cells 109 [ptr sb 0]),(bp,ja.cells 42 [.list ((Oi k).map str)]),(bn,ja.cells 4 [bool (decide ((k:Int)=2))])]):=au _ (show([(b5,ja.cells 219 [str (Li ex),int .u32 (Qs ex),str (Us ex),.list (Xq ex)]),(b,ja.cells 219 [str [],int .u32 0,str [],fc]),(bo,ja.cells 250 [.atom (.func (.func fn) first db)]),(bs,ja.cells 109 [ptr sb 0]),(bp,ja.cells 42 [.list ((Oi k).map str)]),(bn,ja.cells 4 [bool (decide ((k:Int)=2))])]++Hc).Perm (Hc++[(b5,ja.cells 219 [str (Li ex),int .u32 (Qs ex),str (Us ex),.list (Xq ex)]),(b,ja.cells 219 [str [],int .u32 0,str [],fc]),(bo,ja.cells 250 [.atom (.func (.func fn) first db)]),(bs,ja.cells 109 [ptr sb 0]),(bp,ja.cells 42 [.list ((Oi k).map str)]),(bn,ja.cells 4 [bool (decide ((k:Int)=2))])]) from Lh);refine lH rfl rfl (pG (Zb:=[_,_,_,_]) rfl Xh rfl rfl)<|lO 3 (lS (H1:=Hb sb T (i2+1) yc::Hc) (F:=[(b5,ja.cells 219 [str (Li ex),int .u32 (Qs ex),str (Us ex),.list (Xq ex)]),(b,ja.cells 219 [str [],int .u32 0,str [],fc]),(bo,ja.cells 250 [.atom (.func (.func fn) first db)]),(bs,ja.cells 109 [ptr sb 0]),(bp,ja.cells 42 [.list ((Oi k).map str)]),(bn,ja.cells 4 [bool (decide ((k:Int)=2))])]) rfl (.inl rfl) rfl (AD) (Fc Hl sd) (S.Gp (F:=[]) (Hc:=Hc) rfl pH (hC q zo _ _ _ _ _ _ _ r2 Wo zo ho De) (λe2 i3 wg h3=>?_) λl er i3 wg h3 e' Na=>?_));rw[De,h3,Je] at hI;obtain⟨q1,q2,q3,rfl⟩:=(Ky T q).1 _ _ _ _ (De.trans (congrArg some h3));have q4:=q3 zo;refine lO 4 (lS (H1:=[]) (F:=(Hb sb T i3 wg::([]++Hc))++[(b5,ja.cells 219 [str (Li ex),int .u32 (Qs ex),str (Us ex),.list (Xq ex)]),(b,ja.cells 219 [str [],int .u32 0,str [],fc]),(bo,ja.cells 250 [.atom (.func (.func fn) first db)]),(bs,ja.cells 109 [ptr sb 0]),(bp,ja.cells 42 [.list ((Oi k).map str)]),(bn,ja.cells 4 [bool (decide ((k:Int)=2))])]) rfl (.inl rfl) rfl dc (HSub.LH (Fc Hl sd)) (sL (es:=[Ab ex,Ab e2]) [_,_] rfl (Qd rfl rfl (Qd rfl rfl pj)) rfl rfl rfl ?_))
 refine lO 5 (lH rfl rfl (pB _ (cs:=[_,_,_,_]) rfl) ?_);refine lO 6 (lS (H1:=[(b5,ja.cells 219 [str (Li ex),int .u32 (Qs ex),str (Us ex),.list (Xq ex)])]) (F:=(Hb sb T i3 wg::([]++Hc))++[(b,ja.cells 219 [str [],int .u32 0,str [],fc]),(bo,ja.cells 250 [.atom (.func (.func fn) first db)]),(bs,ja.cells 109 [ptr sb 0]),(bp,ja.cells 42 [.list ((Oi k).map str)]),(bn,ja.cells 4 [bool (decide ((k:Int)=2))])]) rfl (.inl rfl) rfl qqb (HSub.LH (Fc Vd sd)) (sS (Zb:=[_,_,_,_]) rfl pH rfl rfl rfl rfl rfl ?_));refine lD zk ?_;refine qN ?_;refine cW (H':=(b5,ja.cells 219 [str (Sz T i2),int .u32 0,str [],.list [Ab ex,Ab e2]])::Hb sb T i3 wg::(b,ja.cells 219 [str [],int .u32 0,str [],fc])::([(bo,ja.cells 250 [.atom (.func (.func fn) first db)]),(bs,ja.cells 109 [ptr sb 0]),(bp,ja.cells 42 [.list ((Oi k).map str)]),(bn,ja.cells 4 [bool (decide ((k:Int)=2))])]++Hc)) (qn9 (A:=[(b,ja.cells 219 [str [],int .u32 0,str [],fc]),(bo,ja.cells 250 [.atom (.func (.func fn) first db)]),(bs,ja.cells 109 [ptr sb 0]),(bp,ja.cells 42 [.list ((Oi k).map str)]),(bn,ja.cells 4 [bool (decide ((k:Int)=2))])])) ?_;refine xa ?_;refine Oa (λfi=>?_) λfi=>?_;exact YO;exact bP;exact A9;have AD:(Hb sb T (i2+1) yc::(b5,ja.cells 219 [str (Li ex),int .u32 (Qs ex),str (Us ex),.list (Xq ex)])::(b,ja.cells 219 [str [],int .u32 0,str [],fc])::([(bo,ja.cells 250 [.atom (.func (.func fn) first db)]),(bs,ja.cells 109 [ptr sb 0]),(bp,ja.cells 42 [.list ((Oi k).map str)]),(bn,ja.cells 4 [bool (decide ((k:Int)=2))])]++Hc)).Perm ((Hb sb T (i2+1) yc::Hc)++[(b5,ja.cells 219 [str (Li ex),int .u32 (Qs ex),str (Us ex),.list (Xq ex)]),(b,ja.cells 219 [str [],int .u32 0,str [],fc]),(bo,ja.cells 250 [.atom (.func (.func fn) first db)]),(bs,ja.cells 109 [ptr sb 0]),(bp,ja.cells 42 [.list ((Oi k).map str)]),(bn,ja.cells 4 [bool (decide ((k:Int)=2))])]):=au _ (show([(b5,ja.cells 219 [str (Li ex),int .u32 (Qs ex),str (Us ex),.list (Xq ex)]),(b,ja.cells 219 [str [],int .u32 0,str [],fc]),(bo,ja.cells 250 [.atom (.func (.func fn) first db)]),(bs,ja.cells 109 [ptr sb 0]),(bp,ja.cells 42 [.list ((Oi k).map str)]),(bn,ja.cells 4 [bool (decide ((k:Int)=2))])]++Hc).Perm (Hc++[(b5,ja.cells 219 [str (Li ex),int .u32 (Qs ex),str (Us ex),.list (Xq ex)]),(b,ja.cells 219 [str [],int .u32 0,str [],fc]),(bo,ja.cells 250 [.atom (.func (.func fn) first db)]),(bs,ja.cells 109 [ptr sb 0]),(bp,ja.cells 42 [.list ((Oi k).map str)]),(bn,ja.cells 4 [bool (decide ((k:Int)=2))])]) from Lh);refine(lS (H1:=Hb sb T (i2+1) yc::Hc) (F:=[(b5,ja.cells 219 [str (Li ex),int .u32 (Qs ex),str (Us ex),.list (Xq ex)]),(b,ja.cells 219 [str [],int .u32 0,str [],fc]),(bo,ja.cells 250 [.atom (.func (.func fn) first db)]),(bs,ja.cells 109 [ptr sb 0]),(bp,ja.cells 42 [.list ((Oi k).map str)]),(bn,ja.cells 4 [bool (decide ((k:Int)=2))])]) rfl (.inl rfl) rfl (AD) (Fc Hl sd) (S.Gp (F:=[]) (Hc:=Hc) rfl pH (hC q zo _ _ _ _ _ _ _ r2 Wo zo ho De) (λe2 i3 wg h3=>?_) λl er i3 wg h3 e' Na=>?_));rw[De,h3,Je] at hI;obtain⟨q1,q2,q3,rfl⟩:=(Ky T q).1 _ _ _ _ (De.trans (congrArg some h3));have q4:=q3 zo;refine lO 1 (lH rfl rfl (pG (Zb:=[_,_,_,_]) rfl (List.mem_append_right _ xc) rfl rfl) ?_);refine lO 4 (lS (H1:=[]) (F:=(Hb sb T i3 wg::([]++Hc))++[(b5,ja.cells 219 [str (Li ex),int .u32 (Qs ex),str (Us ex),.list (Xq ex)]),(b,ja.cells 219 [str [],int .u32 0,str [],fc]),(bo,ja.cells 250 [.atom (.func (.func fn) first db)]),(bs,ja.cells 109 [ptr sb 0]),(bp,ja.cells 42 [.list ((Oi k).map str)]),(bn,ja.cells 4 [bool (decide ((k:Int)=2))])]) rfl (.inl rfl) rfl dc (HSub.LH (Fc Hl sd)) (sL (es:=[Ab ex,Ab e2]) [_,_] rfl (Qd rfl rfl (Qd rfl rfl pj)) rfl rfl rfl ?_))
 refine lO 5 (lH rfl rfl (pB _ (cs:=[_,_,_,_]) rfl) ?_);refine lO 6 (lS (H1:=[(b5,ja.cells 219 [str (Li ex),int .u32 (Qs ex),str (Us ex),.list (Xq ex)])]) (F:=(Hb sb T i3 wg::([]++Hc))++[(b,ja.cells 219 [str [],int .u32 0,str [],fc]),(bo,ja.cells 250 [.atom (.func (.func fn) first db)]),(bs,ja.cells 109 [ptr sb 0]),(bp,ja.cells 42 [.list ((Oi k).map str)]),(bn,ja.cells 4 [bool (decide ((k:Int)=2))])]) rfl (.inl rfl) rfl qqb (HSub.LH (Fc Vd sd)) (sS (Zb:=[_,_,_,_]) rfl pH rfl rfl rfl rfl rfl ?_));refine lD zk ?_;refine qN ?_;refine cW (H':=(b5,ja.cells 219 [str (Sz T i2),int .u32 0,str [],.list [Ab ex,Ab e2]])::Hb sb T i3 wg::(b,ja.cells 219 [str [],int .u32 0,str [],fc])::([(bo,ja.cells 250 [.atom (.func (.func fn) first db)]),(bs,ja.cells 109 [ptr sb 0]),(bp,ja.cells 42 [.list ((Oi k).map str)]),(bn,ja.cells 4 [bool (decide ((k:Int)=2))])]++Hc)) (qn9 (A:=[(b,ja.cells 219 [str [],int .u32 0,str [],fc]),(bo,ja.cells 250 [.atom (.func (.func fn) first db)]),(bs,ja.cells 109 [ptr sb 0]),(bp,ja.cells 42 [.list ((Oi k).map str)]),(bn,ja.cells 4 [bool (decide ((k:Int)=2))])])) ?_;refine xa ?_;refine Oa (λfi=>?_) λfi=>?_;exact YO;exact bP;exact A9;have Xo:Ja T i2 (Oi k)=false:=hc;rw[zn (by rw[Xo];decide)] at hI;refine xa ?_;exact rR hj (rC (rA rfl xc rfl ie) rN) (Yg (Fc pH (Yg ob))) (by cases hI;exact⟨rfl,rfl⟩);rw[Ae,h1,Ih] at hr;refine Yi ?_;refine ke.panic (Na.trans rfl) (H':=Hb sb T i1 yc::(bo,.cells 250 [.atom (.func (.func fn) first db)])::(bs,.cells 109 [ptr sb 0])::(bp,.cells 42 [.list ((Oi k).map str)])::(bn,.cells 4 [bool (decide ((k:Int)=2))])::Hc) ?_ (by cases hr;exact⟨rfl,i1,yc,rfl⟩);exact Fc pH ⟨[(b,_)],Lh.trans (by exact List.Perm.refl _ |>.trans (perm_append_singleton _ _).symm)⟩
def qA(k:Nat):LV:=.list ((Oi k).map str)
def WQ:List LV:=[qA 0,qA 1,qA 2,qA 3,qA 4,qA 5]
theorem qpo:ca (KC B0 w0) 254 [] [] (Ub (.list WQ)):=by refine jb Tryz.func254 rfl (n:=8) rfl rfl rfl ?_;refine Ep ?_;refine oS (sL (es:=[str [124,124]]) [_] rfl (Qd rfl rfl pj) rfl rfl rfl<|oS (sL (es:=[str [38,38]]) [_] rfl (Qd rfl rfl pj) rfl rfl rfl ?_));refine oS (sL (es:=[str [61,61],str [33,61],str [60],str [62],str [60,61],str [62,61]]) [_,_,_,_,_,_] rfl (Qd rfl rfl (Qd rfl rfl (Qd rfl rfl (Qd rfl rfl (Qd rfl rfl (Qd rfl rfl pj)))))) rfl rfl rfl<|oS (sL (es:=[str [94]]) [_] rfl (Qd rfl rfl pj) rfl rfl rfl ?_));refine oS (sL (es:=[str [43],str [45]]) [_,_] rfl (Qd rfl rfl (Qd rfl rfl pj)) rfl rfl rfl<|oS (sL (es:=[str [42],str [47],str [37]]) [_,_,_] rfl (Qd rfl rfl (Qd rfl rfl (Qd rfl rfl pj))) rfl rfl rfl ?_));refine oS (sL (es:=WQ) [_,_,_,_,_,_] rfl (Qd rfl rfl (Qd rfl rfl (Qd rfl rfl (Qd rfl rfl (Qd rfl rfl (Qd rfl rfl pj)))))) rfl rfl rfl ?_);refine Ra ?_;exact qb rfl (rC (rT (v:=.list _) rfl ie) rN) rfl
theorem u4(sb:Nat)(Sa:List LV)(once:Bool)(fn:FuncId)(first db:Array Value):ca (KC B0 w0) 255 [ptr sb 0,.list Sa,bool once,.atom (.func (.func fn) first db)] []
  (λr H=>∃ bo bs bp bn:Nat,r=.ret (.atom (.func (.func 272) #[] #[.pointer (some ⟨bo,0,none⟩),.pointer (some ⟨bs,0,none⟩),.pointer (some ⟨bp,0,none⟩),.pointer (some ⟨bn,0,none⟩)])) /\
   H=[(bo,.cells 250 [.atom (.func (.func fn) first db)]),(bs,.cells 109 [ptr sb 0]),(bp,.cells 42 [.list Sa]),(bn,.cells 4 [bool once])]):=by
 refine jb Tryz.func255 rfl (n:=10) rfl rfl rfl ?_;refine Xe ?_;refine oS (sB rfl λbs=>oS (sB rfl λbp=>?_));refine oS (sB rfl λbn=>oS (sB rfl λbo=>?_));refine xa ?_;exact rR rfl (eb rfl) (Fc pH (Fc Hl (Fc Vd Gd))) ⟨bo,bs,bp,bn,rfl,rfl⟩
theorem ql0(es:List LV):ca (KC B0 w0) 253 [.list es] [] (λr H=>∃ b:Nat,r=.ret (.atom (.func (.func 271) #[] #[.pointer (some ⟨b,0,none⟩)]))/\H=[(b,.cells 211 [.list es])]):=by refine jb Tryz.func253 rfl (n:=4) rfl rfl rfl ?_;refine Xe ?_;refine oS (sB rfl λb=>?_);refine xa ?_;exact rR rfl (eb rfl) ob ⟨b,rfl,rfl⟩
def I0(ls:List (List (List UInt8)))(q:Nat):List LV:=[int .i64 ((ls.length:Int)-1-q),.list (((ls[ls.length-1-q]?).getD []).map str)]
theorem qul(b:Nat)(ls:List (List (List UInt8)))(hl:ls.length<=100000):l5 (KC B0 w0) 271 [ptr b 0] [(b,.cells 211 [.list (ls.map λl=>.list (l.map str))])] ls.length (I0 ls):=by
 intro l J hY H0 h0;have IB:(ls.map λl=>LV.list (l.map str)).length=ls.length:=Mb _;refine jb Tryz.func271 rfl (n:=19) rfl rfl rfl ?_;refine kb.perm (H':=(b,.cells 211 [.list (ls.map λl=>.list (l.map str))])::H0) (perm_append_singleton _ _) ?_;refine xa ?_
 refine oL (λk lsl H=>∃ (q:Nat) (Hq:Heap),q<=ls.length/\k=ls.length-q/\lsl=[(0,.atom (.func (.yield l) #[] #[])),(1,ptr b 0),(3,int .i64 ((ls.length:Int)-1-q))]/\H=(b,.cells 211 [.list (ls.map λl=>.list (l.map str))])::Hq/\J q Hq)
  ⟨_,_,_,⟨0,H0,zero_le _,rfl,rfl,rfl,h0⟩,⟨rfl,rfl,qf (by simp),trivial⟩,bc _⟩ ?_
 rintro k lsl H ⟨q,Hq,hq,rfl,rfl,rfl,hJ⟩ j hj;refine xa ?_;refine Oa (λhc=>?_) λhc=>?_;have Ka:q<ls.length:=by have:=zt hc;omega
 have DX:((ls.length:Int)-1-q).toNat=ls.length-1-q:=by omega
 have Ax:ls.length-1-q<ls.length:=by omega
 have um:(ls.map λl=>LV.list (l.map str))[((ls.length:Int)-1-q).toNat]? = some (.list (((ls[ls.length-1-q]?).getD []).map str)):=by rw[DX,List.getElem?_map,Yh Ax];rfl
 refine Aa ?_;refine kb.aG ?_;refine Ra ?_;refine xu.pure (xR (cs:=[_]) rfl rfl zo um rfl rfl) rfl ?_;refine Ra ?_;refine xu.yield (H:=(b,.cells 211 [.list (ls.map λl=>.list (l.map str))])::Hq) (args:=[_,_]) rfl rfl (EC.frame (H:=Hq) (F:=[(b,.cells 211 [.list (ls.map λl=>.list (l.map str))])]) (perm_append_singleton _ _).symm (K:=λH'=>∃ H1,H'=H1++[(b,.cells 211 [.list (ls.map λl=>.list (l.map str))])]/\J (q+1) H1) (EC.mono (hY q Hq Ka hJ) λH' h=>⟨H',rfl,h⟩)) rfl ?_;rintro H' ⟨H1,rfl,hJ1⟩;refine Ra ?_;refine xu.nil ?_;refine qN ?_;refine cW (H':=(b,.cells 211 [.list (ls.map λl=>.list (l.map str))])::H1) ⟨[],by rw[ue];exact perm_append_singleton _ _⟩ ?_;refine Oa (λfv=>?_) λfv=>?_;cases fv;refine xa ?_;exact⟨_,_,_,by omega,⟨q+1,H1,Ka,rfl,rfl,rfl,hJ1⟩,Kb,bc _,hj⟩;have ku:q=ls.length:=by have:=zf hc;omega
 subst ku;refine Aa ?_;exact rO hj rN ⟨[],by rw[ue];exact(perm_append_singleton _ _).symm⟩ ⟨⟨_,rfl⟩,Hq,rfl,hJ⟩
end Go.Proofs.Y
namespace Go.Proofs.Y
open Go.GL Go.RowKit Go.ia
def BH(b:Nat)(l:List UInt8)(H:Heap):Prop:=∃ p v Hv,(p=LV.atom (.pointer none)∨p=ptr b 0)/\ph 5 v l Hv/\H=(b,.cells 97 [p,.atom v])::Hv
theorem qsP:Lays.n240 Tryz.prog Tryz.bi:={ Tryz.Cp with }
section
variable{B0:Nat}{w0:World}
theorem qgE(b:Nat)(p v:LV)(hp:p=LV.atom (.pointer none)∨p=ptr b 0):ca (KC B0 w0) 73 [ptr b 0] [(b,.cells 97 [p,v])]
  (λr H'=>(∃ x,r=.ret (.atom x))/\H'=[(b,.cells 97 [ptr b 0,v])]):=λxs w L hv hH=>by
 simp only[oa] at hv;obtain⟨y,ys,rfl,hy,rfl⟩:=hv;simp only[Fb] at hy;subst hy;obtain⟨Wf,vh,hl,zs,Kd,me⟩:=hH.Bc _ (Sq rfl);simp only at Wf vh hl Kd me;have hz:=me;simp only[oa] at hz;obtain⟨a,as1,rfl,ha,c,as2,rfl,hc,rfl⟩:=hz;rcases hp with rfl|rfl;simp only[Fb] at ha;subst ha;have h0:w.cell? ⟨b,0,none⟩=some (.pointer none):=by simp[World.cell?,Kd]
 have J6:w.shape? b=some (97,2):=by simp[World.shape?,Kd]
 have hfz:w.frozen? ⟨b,0,none⟩=false:=Go.Lib.frozen_of_heap Kd 0;refine(Any.Builder_copyCheck_fresh (P:=Tryz.prog) qsP Tryz.Jc.toX72 b w h0 J6 hfz).mono λe w' he=>?_;obtain⟨rfl,rfl⟩:=he;refine wR (w:=w) (w':=w.setCell ⟨b,0,none⟩ (.pointer (some ⟨b,0,none⟩))) (zP:=[.pointer (some ⟨b,0,none⟩),c]) (Zb:=[ptr b 0,v]) (lv:=.atom (.tuple #[])) hH rfl rfl rfl (by simp[World.setCell]) (λd hd=>by simp[World.setCell,Array.getElem?_modify,Ne.symm hd]) (by rw[qiQ (xs:=[.pointer none,c]) Kd];rfl) rfl ?_ Ld ⟨⟨_,rfl⟩,rfl⟩;simp only[oa] at me ⊢;exact⟨_,_,rfl,Ld,c,[],rfl,hc,rfl⟩;simp only[Fb] at ha;subst ha;have h0:w.cell? ⟨b,0,none⟩=some (.pointer (some ⟨b,0,none⟩)):=by simp[World.cell?,Kd]
 refine(Any.Builder_copyCheck_used (P:=Tryz.prog) qsP Tryz.Jc.toX72 b w h0).mono λe w' he=>?_;obtain⟨rfl,rfl⟩:=he;exact⟨.atom (.tuple #[]),_,L,Fr.refl _ _ _,hH,Ld,⟨_,rfl⟩,rfl⟩
attribute [local irreducible] Ea kb ab ca Go.GL.Pure Ie pf ke LQ Rb oi Nj
theorem qfD(b:Nat)(l m:List UInt8)(H:Heap)(hB:BH b l H)(ma:l.length+m.length<=10000000000):ca (KC B0 w0) 42 [ptr b 0,str m] H (λr H'=>(∃ x,r=.ret x)/\BH b (l++m) H'):=by
 obtain⟨p,v,Hv,hp,Eb,rfl⟩:=hB;refine jb Tryz.func42 rfl (n:=19) rfl rfl rfl ?_;refine cl ?_;refine oS (S.Uc (H1:=[(b,_)]) (F:=Hv) [_] rfl dc (qgE b p (.atom v) hp) (λx H' h=>?_) λch H' h=>?_);obtain⟨⟨x',To⟩,rfl⟩:=h;cases To;refine wa ?_;refine oS (S.nU (q:=(b,.cells 97 [ptr b 0,.atom v])) (l:=l) (m:=m) rfl Eb rfl zo λv' H' Ob=>?_);refine Aa ?_;have ud:=Ob;generalize l++m=lm at Ob ud ⊢
 cases Ob with
 |nil=>refine xa ?_;exact rR rfl (rC (Xc rfl) (eb rfl)) ob ⟨⟨_,rfl⟩,ptr b 0,_,_,.inr rfl,ud,rfl⟩
 |row h0 h1 h2=>refine xa ?_;exact rR rfl (rC (Xc rfl) (eb rfl)) ob ⟨⟨_,rfl⟩,ptr b 0,_,_,.inr rfl,ud,rfl⟩
 obtain⟨⟨x',To⟩,_⟩:=h;cases To
end
open Go Go.Shelf Go.RowKit
section
variable{P:Program}{ρ:Ren}
set_option maxHeartbeats 4000000 in
set_option maxRecDepth 100000 in
theorem qg7(L:Lays.n169 P ρ)(X:Builder.Extra P ρ)(b g:Nat)(p:Value)(l:List UInt8)(cur:Array Value)(w:World)(W7:w.heap[b]? = some (.cells #[p,.slice (some ⟨g,0,none⟩) l.length cur.size] (ρ.t 72) (0,0)))
  (hg:w.heap[g]? = some (.cells cur (ρ.t 5) (0,0))) (h0:l≠[]) (hn:l.length<=cur.size) (X7:l.length<=9223372036854775807) (PD:∀ (j:Nat) (x:UInt8),l[j]? = some x->cur[j]? = some (.int .u8 x.toNat)) :
  Calls P (ρ.f 169) #[.pointer (some ⟨b,0,none⟩)] w λe w'=>e=.returned (.string ⟨l.toArray⟩)/\w'=w.drew.freeze ⟨g,0,none⟩ l.length:=by
 have LB:l.length≠0:=by simpa using h0
 have c1:w.drew.cell? ⟨b,1,none⟩=some (.slice (some ⟨g,0,none⟩) l.length cur.size):=by have:w.drew.heap[b]? = some (.cells #[p,.slice (some ⟨g,0,none⟩) l.length cur.size] (ρ.t 72) (0,0)):=W7;rw[Lib.cell_of_heap this];rfl
 have hSD:(Builtin.unsafeSliceData_ #[(ρ.t 37)] (ρ.t 127) #[.slice (some ⟨g,0,none⟩) l.length cur.size]).run P w.drew=.ok (.pointer (some ⟨g,0,none⟩)) w.drew:=
  Lib.run_unsafeSliceData_row _ _ _ _ _ _ ga
 have hUS:(Builtin.unsafeString_ #[(ρ.t 127),(ρ.t 3)] (ρ.t 9) #[.pointer (some ⟨g,0,none⟩),.int .i64 l.length]).run P w.drew=.ok (.string ⟨l.toArray⟩) (w.drew.freeze ⟨g,0,none⟩ l.length):=by refine Lib.run_unsafeString_row w.drew (ρ.t 127) (ρ.t 3) (ρ.t 9) (ρ.t 5) L.t127 X.cellsByte g cur.size (by have bz:w.drew.heap[g]? = some (.cells cur (ρ.t 5) (0,0)):=hg;simp[World.shape?,bz]) l h0 hn X7 ?_;intro j x hx;have bz:w.drew.heap[g]? = some (.cells cur (ρ.t 5) (0,0)):=hg;have:=PD j x hx;rw[Go.GL.Pg];simp[World.cell?,bz,this]
 have mixed:=L.mixed;have t72:=L.t72;have a72:=L.a72;have z72:=L.z72;have v72:=L.v72;have u72:=run_underlying L.t72;have t70:=L.t70;have a70:=L.a70;have z70:=L.z70;have v70:=L.v70;have u70:=run_underlying L.t70;have t37:=L.t37;have a37:=L.a37;have z37:=L.z37;have v37:=L.v37;have u37:=run_underlying L.t37;have t127:=L.t127;have a127:=L.a127;have z127:=L.z127;have v127:=L.v127;have aai:=run_underlying L.t127;have t3:=L.t3;have a3:=L.a3;have z3:=L.z3;have v3:=L.v3;have u3:=run_underlying L.t3;have t9:=L.t9;have a9:=L.a9;have z9:=L.z9;have v9:=L.v9;have u9:=run_underlying L.t9;have t5:=X.t5;have a5:=X.a5;have z5:=X.z5;have v5:=X.v5;have u5:=run_underlying X.t5
 go_enter L.f169,Body.n169_ntmps ρ
 go_wp2
 go_region_o
 all_goals (go_wp2;go_ret;exact⟨rfl,rfl⟩)
end
open Go.GL Go.ia
variable{C:Ctx}{F H H' X Y Z:Heap}{R:Pe->Heap->Prop}{e:Env}{n:Nat}{rs:List ResultVar}{vs:List LV}
theorem qtu:Lays.n169 Tryz.prog Tryz.bi:={ Tryz.Cp with }
variable{B0:Nat}{w0:World}
theorem qvP{w:World}{L:Live}(hH:Ta C w L H){g:Nat}(hm:g∈keys H)(hb:C.B0<=g):Fr (keys H) w L (w.drew.freeze ⟨g,0,none⟩ n) L []/\Ta C (w.drew.freeze ⟨g,0,none⟩ n) L []:=by
 have uT:∀ c,c≠g->(w.drew.freeze ⟨g,0,none⟩ n).heap[c]? = w.heap[c]? := λc hc=>by unfold World.freeze;split;rfl;simp only[Array.getElem?_modify];rw[zn (Ne.symm hc)];rfl
 have ae:(w.drew.freeze ⟨g,0,none⟩ n).heap.size=w.heap.size:=by unfold World.freeze;split;rfl;simp
 have J6:∀ c,(w.drew.freeze ⟨g,0,none⟩ n).shape? c=w.shape? c:=λc=>by
  by_cases hc:c=g;subst hc;unfold World.freeze;split;rfl;simp only[World.shape?,Array.getElem?_modify,if_true];show(match Option.map _ w.heap[c]? with|some (Obj.cells c e _)=>some (e,c.size)|_=>none)=_
  cases w.heap[c]? with
  |none=>rfl
  |some o=>cases o <;> rfl
  exact QI (uT c hc)
 have hce:∀ c i,(w.drew.freeze ⟨g,0,none⟩ n).cell? ⟨c,i,none⟩=w.cell? ⟨c,i,none⟩:=λc i=>by
  by_cases hc:c=g;subst hc;unfold World.freeze;split;rfl;simp only[World.cell?,Array.getElem?_modify,if_true];show(match Option.map _ w.heap[c]? with|some (Obj.cells c e _)=>_|_=>none)=_
  cases w.heap[c]? with
  |none=>rfl
  |some o=>cases o <;> rfl
  exact cell_of_heap (uT c hc) i
 have xO:(w.drew.freeze ⟨g,0,none⟩ n).os=w.os/\(w.drew.freeze ⟨g,0,none⟩ n).tape=w.tape/\(w.drew.freeze ⟨g,0,none⟩ n).output=w.output:=by unfold World.freeze;split <;> exact⟨rfl,rfl,rfl⟩
 exact⟨⟨xO.1,xO.2.1,xO.2.2,⟨Nat.le_of_eq ae.symm,λc _=>J6 c,λc i _=>hce c i,λ_=>Pb _⟩,λc _ hc=>uT c λh=>hc (h▸hm),λ_ _ _=>rfl,by simp⟩,
  ⟨hH.base.trans ⟨xO.1,xO.2.1,xO.2.2,Nat.le_of_eq ae.symm,λc hc=>uT c zo⟩,hH.sj,by rw[ae];exact hH.b0,λc hc=>hH.wf c (by rw[ae] at hc;exact hc),List.nodup_nil,by simp⟩⟩
theorem X3(b:Nat)(l:List UInt8)(H:Heap)(hB:BH b l H)(ma:l.length<=10000000000):ca (KC B0 w0) 43 [ptr b 0] H (Ub (str l)):=λxs w L hv hH=>by
 obtain⟨p,v,Hv,hp,Eb,rfl⟩:=hB;simp only[oa] at hv;obtain⟨y,ys,rfl,hy,rfl⟩:=hv;simp only[Fb] at hy;subst hy;obtain⟨Wf,vh,hl,zs,Kd,me⟩:=hH.Bc _ Qe;simp only at Wf vh hl Kd me;simp only[oa] at me;obtain⟨a,as1,rfl,ha,c,as2,rfl,hc,rfl⟩:=me;simp only[Fb] at hc;subst hc;cases Eb with
 |nil=>
  refine(Any.Builder_String_nil (P:=Tryz.prog) qtu Tryz.Jc w.heap.size b a w Kd).mono λe w' he=>?_;obtain⟨rfl,hb⟩:=he;obtain⟨h1,h2⟩:=eW (hH.sub (List.nil_sublist _)) hb
  exact⟨str [],[],L,h1.wide (by simp),h2,Ld,rfl,rfl⟩
 |row h0 h1 h2=>
  rename_i g xs;obtain⟨EX,L7,hgl,ws,Vy,fS⟩:=hH.Bc _ (Oc _ (Sq rfl));simp only at EX L7 hgl Vy;have:=iO fS;subst this;have PD:∀ (j:Nat) (x:UInt8),l[j]? = some x->ws.toArray[j]? = some (Value.int .u8 x.toNat):=λj x hx=>by
   have hj:(zc l)[j]? = some (Value.int .u8 x.toNat):=by simp[zc,hx]
   rw[<-h2,List.getElem?_take] at hj;split at hj;simpa using hj;cases hj
  refine(qg7 (P:=Tryz.prog) qtu Tryz.Jc b g a l ws.toArray w Kd Vy h0 (by simpa using h1) zo PD).mono λe w' he=>?_;obtain⟨rfl,rfl⟩:=he;obtain⟨f1,f2⟩:=qvP (n:=l.length) hH (g:=g) (by simp) EX;exact⟨str l,[],L,f1,f2,Ld,rfl,rfl⟩
attribute [local irreducible] Ea kb ab ca Go.GL.Pure Ie pf ke LQ Rb oi Nj Au xu SE l5 EC
def bD:List (List (List UInt8)):=[Oi 0,Oi 1,Oi 2,Oi 3,Oi 4,Oi 5]
theorem qx8(q:Nat)(h:q<6):I0 bD q=[int .i64 (((5-q:Nat):Int)),.list ((Oi (5-q)).map str)]:=by
 have:q=0∨q=1∨q=2∨q=3∨q=4∨q=5:=by omega
 rcases this with rfl|rfl|rfl|rfl|rfl|rfl <;> rfl
theorem SE.QR{D:Nat}(hd:e.ds=[{ target:=.collected D,args:=#[] }])(F:Heap)(hp:H.Perm ((D,.obj (.deferred (some [])))::F))(h:tn C n e F rs vs)(hH:HSub H' F)(hR:R (.ret (Oh vs)) H') :
  SE C n rs R .ret e H:=by
 unfold SE;exact⟨D,F,hd,hp,vs,H',h,hH,hR⟩
theorem SE.PG{ch:List PanicEntry}{D:Nat}(hd:e.ds=[{ target:=.collected D,args:=#[] }])(F:Heap)(hp:H.Perm ((D,.obj (.deferred (some [])))::F))(hH:HSub H' F)(hR:R (.panic ch) H') :
  SE C n rs R (.panic ch) e H:=by
 unfold SE;exact .inr ⟨D,F,hd,hp,H',hH,hR⟩
theorem QK(sb:Nat)(T:List Tok)(f:Nat)(hC:TH B0 w0 sb T f):cG B0 w0 sb T f:=by
 intro i op r hi ho hr;refine ca.KL Tryz.func225 rfl (n:=20) rfl rfl rfl ?_;refine Xe ?_;refine oS (sB rfl λb1=>oS (Sd λb2=>?_));refine xa ?_;refine oS (Sd λb3=>?_);refine xa ?_;refine oS (sF [] rfl qpo<|oS (S.Wr [_] rfl (ql0 WQ) (λv H' h=>?_) λch H' h=>?_))
 ·obtain⟨bB,h,rfl⟩:=h;cases h;refine Aa ?_;have gT:∀ (first db:Array Value) (fn:FuncId) (uq F:Heap),WB sb 0 fn first db uq->Wb Tryz.prog fn:=λ_ _ _ _ _ h=>h.enter
  refine kb.rangeFunc (g:=.tmp 9) (ps:=[10,11]) (db:=#[.pointer (some ⟨bB,0,none⟩)]) (by rfl) bD.length (I0 bD)
   [(b3,.cells 250 [.atom (.func (.func 252) #[.pointer (some ⟨sb,0,none⟩)] #[])]),(b2,.cells 219 [str [],int .u32 0,str [],fc]),(b1,.cells 109 [ptr sb 0]),Hb sb T i op] [(bB,.cells 211 [.list WQ])]
   (perm_append_singleton _ _).symm (qul bB bD ea) (λk hk=>by rw[qx8 k hk];rfl) (by rfl)
   (λq Hq=>∃ (fn:FuncId) (first db:Array Value) (uq:Heap),WB sb (6-q) fn first db uq/\Hq=(b3,.cells 250 [.atom (.func (.func fn) first db)])::(b2,.cells 219 [str [],int .u32 0,str [],fc])::(b1,.cells 109 [ptr sb 0])::Hb sb T i op::uq)
   ⟨_,_,_,[],.un,rfl⟩ ?_ ?_
  rintro q Hq hq ⟨fn,first,db,uq,Wo,rfl⟩ j hjd hja l D o oD;have P6:q<6:=hq;have Me:j.s 1=ptr b1 0:=hja 1 _ rfl;have Uo:j.s 3=ptr b3 0:=hja 3 _ rfl;rw[qx8 q P6,<-Env.Ce (e:=j) (l:=[(1,ptr b1 0),(3,ptr b3 0)]) (by
   intro p hp;simp only[Dc,not_mem_nil,or_false] at hp;rcases hp with rfl|rfl;exact Me;exact Uo)]
  refine Au.seq ?_;refine Au.region rfl ?_;refine Ad ?_;refine Au.region rfl ?_;refine Ra ?_;refine⟨hjd,_,rfl,λo'=>?_⟩;refine Au.block ?_;refine Au.region rfl ?_;refine Ra ?_;refine oS (S.Wr [_,_,_,_] rfl (u4 sb ((Oi (5-q)).map str) (decide (((5-q:Nat):Int)=2)) fn first db) (λv H' h=>?_) λch H' h=>?_);obtain⟨bo,bs,bp,bn,h,rfl⟩:=h;cases h;refine Ra ?_
  refine⟨(b3,.cells 250 [.atom (.func (.func 272) #[] #[.pointer (some ⟨bo,0,none⟩),.pointer (some ⟨bs,0,none⟩),.pointer (some ⟨bp,0,none⟩),.pointer (some ⟨bn,0,none⟩)])])::(b2,.cells 219 [str [],int .u32 0,str [],fc])::(b1,.cells 109 [ptr sb 0])::Hb sb T i op ::
   (bo,.cells 250 [.atom (.func (.func fn) first db)])::(bs,.cells 109 [ptr sb 0])::(bp,.cells 42 [.list ((Oi (5-q)).map str)])::(bn,.cells 4 [bool (decide (((5-q:Nat):Int)=2))])::uq,?_,_,_,_,_,?_,rfl⟩
  exact Fc ZX (Fc ZX (Fc pH (Fc UO (Fc UO (Fc UO ob)))));have e1:6-(q+1)=5-q:=by omega
  have e2:6-q=5-q+1:=by omega
  rw[e1];rw[e2] at Wo;exact .bin Wo;obtain⟨_,_,_,_,h,_⟩:=h;cases h;rintro D H' ⟨fn,first,db,uq,Wo,rfl⟩;have CJ:WB sb 0 fn first db uq:=Wo
  have yJ:=gT _ _ _ _ [] CJ;refine Aa ?_;refine cW (H':=(D,.obj (.deferred (some [])))::(b3,.cells 250 [.atom (.func (.func fn) first db)])::(b2,.cells 219 [str [],int .u32 0,str [],fc])::(b1,.cells 109 [ptr sb 0])::Hb sb T i op::uq) ⟨[(bB,.cells 211 [.list WQ])],List.Perm.refl _⟩ ?_;refine xa ?_;refine oS (S.Gp (F:=[(D,.obj (.deferred (some []))),(b3,.cells 250 [.atom (.func (.func fn) first db)]),(b2,.cells 219 [str [],int .u32 0,str [],fc]),(b1,.cells 109 [ptr sb 0])]) (Hc:=uq) rfl UO (hC _ _ _ _ _ _ _ r CJ hi ho hr) (λv i1 yc h1=>?_) λl er i1 yc h1 e' Na=>?_);refine Ra ?_;exact SE.QR rfl _ Hl (rC (rA rfl xc rfl ie) rN) (Fc Vd sd) (by rw[h1];exact⟨rfl,rfl⟩);refine Yi ?_;refine SE.PG (Na.trans rfl) (Hb sb T i1 yc::(uq++[(b3,.cells 250 [.atom (.func (.func fn) first db)]),(b2,.cells 219 [str [],int .u32 0,str [],fc]),(b1,.cells 109 [ptr sb 0])])) ?_ Gd (by rw[h1];exact⟨rfl,i1,yc,rfl⟩);exact(au _ List.perm_middle).trans (yq _ _ _)
 obtain⟨bB,h,_⟩:=h;cases h
theorem X0(hG:GW B0 w0)(sb:Nat)(T:List Tok)(hT:Xt T):∀ f:Nat,TH B0 w0 sb T f/\cG B0 w0 sb T f:=by
 intro f;induction f using Nat.strongRecOn with
 |_ f ih=>
  have hC:TH B0 w0 sb T f:=by
   intro k fn first db Hc i op r Wo hi ho hr
   cases Wo with
   |un=>
    obtain⟨f,rfl⟩:∃ g,f=g+1:=by
     cases f with
     |zero=>rw[Dd] at hr;cases hr
     |succ g=>exact⟨g,rfl⟩
    rw[Dd,zp rfl] at hr;refine ca.mono (qrR hG sb T hT f (λg hg=>(ih g zo).2) i op r hi ho hr) ?_;intro r' H h
    cases r with
    |ok v i' La=>exact h
    |err l e=>exact h
   |bin h=>exact qxL hG sb T hT f (λg hg=>(ih g hg).1) _ _ _ _ _ _ _ _ _ h i op r hi ho hr
  exact⟨hC,QK sb T f hC⟩
def qAN(l:List Sm):LV:=.list (l.map uc)
def fZ(B0:Nat)(w0:World)(sb:Nat)(T:List Tok)(f:Nat):Prop:=
 ∀ i op r,i<=T.length->op<=100->xp T f i op=some r->ca (KC B0 w0) 226 [ptr sb 0] [Hb sb T i op] (Ho sb T qAN r)
def PY(B0:Nat)(w0:World)(sb:Nat)(T:List Tok)(f:Nat):Prop:=
 ∀ i op r,i<=T.length->op<=100->Lm T f [] i op=some r->ca (KC B0 w0) 153 [ptr sb 0] [Hb sb T i op] (Ho sb T qAN r)
def HY(B0:Nat)(w0:World)(sb:Nat)(T:List Tok)(f:Nat):Prop:=
 ∀ i op r,i<=T.length->op<=100->Fq T f i op=some r->ca (KC B0 w0) 200 [ptr sb 0] [Hb sb T i op] (Ho sb T uc r)
def FZ(B0:Nat)(w0:World)(sb:Nat)(T:List Tok)(f:Nat):Prop:=
 ∀ i op r,i<=T.length->op<=100->Mq T f i op=some r->ca (KC B0 w0) 227 [ptr sb 0] [Hb sb T i op] (Ho sb T uc r)
theorem JW(sb:Nat)(T:List Tok)(hT:Xt T)(f:Nat)(hS:PY B0 w0 sb T f):fZ B0 w0 sb T (f+1):=by intro i op r hi ho hr;have hl:=hT.len;rw[xp] at hr;refine jb Tryz.func226 rfl (n:=11) rfl rfl rfl ?_;refine cl ?_;refine oS (sP [_,_] rfl pH (DG sb T i op [123] hl zo zo) (λv i1 yc h1=>?_) λl er i1 yc h1 e9 Fj=>?_);rotate_left;exact xF;rw[h1,Je] at hr;obtain⟨rfl,rfl,vx,NB⟩:=Pw h1;refine Xi ?_;obtain⟨r1,Ae⟩:=ql hr;refine oS (sP [_] rfl pH (hS _ _ r1 zo zo Ae) (λl i2 xg h2=>?_) λl er i2 xg h2 e9 Fj=>?_);rotate_left;rw[Ae,h2,Ih] at hr;refine Zd ?_;exact Mc gp (by cases hr;rfl) Gd;rw[Ae,h2,Je] at hr;obtain⟨g1,_,g3,rfl⟩:=(DK T f).2.1 _ _ _ _ (Ae.trans (congrArg some h2));have g4:=g3 zo;refine xa ?_;refine oS (sP [_,_] rfl pH (GK sb T i2 (op+1) [125] hl zo zo zo) (λu i3 wg h3=>?_) λl er i3 wg h3 e9 Fj=>?_);rotate_left;exact wF;rw[h3,Je] at hr;refine xa ?_;exact Of (v:=l) rfl (rC (rT (v:=.list _) rfl ie) rN) (by cases hr;rfl) rfl ob
theorem tR(sb:Nat)(T:List Tok)(hT:Xt T)(f:Nat)(hS:∀ g,g<f->HY B0 w0 sb T g):PY B0 w0 sb T f:=by
 intro i op r hi ho hr;have hl:=hT.len;refine jb Tryz.func153 rfl (n:=14) rfl rfl rfl ?_;refine wa ?_;refine oL (λk ls H=>∃ (v:LV) (l:List Sm) (i2:Nat) (Ha:Heap),k<=f/\ls=[(0,ptr sb 0),(3,v)]/\H=Hb sb T i2 op::Ha/\Acc 6 v (l.map uc) Ha []/\i2<=T.length/\l.length<=i2+1/\Lm T k l i2 op=some r)
  ⟨f,_,Hb sb T i op::[],⟨fc,[],i,_,Pb _,rfl,rfl,Acc.nil,by omega,by simp,hr⟩,Kb,bc _⟩ ?_
 rintro k ls H ⟨v,l,i2,Ha,D7,rfl,rfl,Eb,Dx,fF,hI⟩ j hj;obtain⟨k,rfl⟩:∃ k',k=k'+1:=by
  cases k with
  |zero=>rw[Lm] at hI;cases hI
  |succ k=>exact⟨k,rfl⟩
 rw[Lm] at hI;refine Yd ?_;refine Kj ?_;refine oS (sH [_,_] rfl pH (Cu sb T i2 op [[125]] hl zo (by simp)) ?_);refine Ra ?_;refine Oa (λhc=>?_) λhc=>?_
 ·have Xo:Ja T i2 [[125]]=false:=by simpa using hc
  rw[zn (by rw[Xo];decide)] at hI;refine Zi ?_;refine Cs ?_;obtain⟨r2,De⟩:=ql hI;refine oS (sP [_] rfl pH (hS k zo _ _ r2 zo zo De) (λe2 i4 Zn h4=>?_) λl er i4 Zn h4 e9 Fj=>?_);rotate_left;rw[De,h4,Ih] at hI;refine Zd ?_;exact Mc gp (by cases hI;rfl) Gd;rw[De,h4,Je] at hI;obtain⟨g1,g2,g3,rfl⟩:=(DK T k).2.2.1 _ _ _ (De.trans (congrArg some h4));have g5:=g3 zo;have g6:=g2 rfl;refine Kj ?_;refine oS (S.Yx rfl Eb rfl (by simp;rfl) rfl (by simp;omega) λv' H' Ob=>?_);refine Ql ?_;refine Aa ?_;exact⟨k,_,_,by omega,⟨v',l++[e2],i4,H',by omega,rfl,rfl,by rw[Te];exact Ob,by omega,by simp;omega,hI⟩,Kb,bc _,hj⟩
 have Xo:Ja T i2 [[125]]=true:=by simpa using hc
 rw[zp Xo] at hI;refine wa ?_;refine gC ?_;exact Of (v:=l) hj (rC (rT (v:=v) rfl Eb.sub) rN) (by cases hI;rfl) rfl Gd
theorem qzP(s:List UInt8)(l:List Ex):uc (.mk 6 [] [] [.mk tg 0 s l] [] [])=.agg [int .i64 6,str [],.list [],.list [.agg [str tg,int .u32 0,str s,.list (l.map Ab)]],.list [],.list []]:=by rw[Kw,yd,GC];rfl
theorem qoy(sb:Nat)(T:List Tok)(hT:Xt T)(f:Nat)(hE:∀ g,g<=f->cG B0 w0 sb T g):FZ B0 w0 sb T (f+1):=by
 intro i op r hi ho hr;have hl:=hT.len;obtain⟨gL,_,_,_,gI,gA,_⟩:=Ky T f;rw[Mq] at hr;refine jb Tryz.func227 rfl (n:=46) rfl rfl rfl ?_;refine Xe ?_;refine oS (Sd λb2=>?_);refine wa ?_;refine oS (sH [_,_] rfl Vd (XE sb T i op qqE hl zo) ?_);refine Ad ?_;refine Oa (λhc=>?_) λhc=>?_
 ·have Ka:=Wj hc;rw[zp hc] at hr;simp only[hc,if_true];refine Yd ?_;obtain⟨r1,Ae⟩:=ql hr;refine oS (sP [_] rfl pH (hE f zo _ _ r1 zo zo Ae) (λv i1 yc h1=>?_) λl er i1 yc h1 e9 Fj=>?_);rotate_left;exact zF;rw[Ae,h1,Je] at hr;refine Kj ?_;refine Ra ?_;exact Of (v:=.mk 5 [] [] [v] [] []) rfl (rC (rA (k:=6) rfl xc rfl (vA (bs:=[_,_,.list [],_,.list [],.list []]) ⟨vR _,vR _,vN,vR _,vN,vN,trivial⟩)) rN) (by cases hr;rfl) (by rw[Kw];rfl) (Fc Vd sd)
 rw[zn (by rw[hc];decide)] at hr;simp only[hc,Il,if_false];refine Yd ?_;refine oS (sH [_,_] rfl pH (XE sb T i op X9 hl zo) ?_);refine Ad ?_;refine Oa (λWe=>?_) λWe=>?_;have Ka:=Wj We;rw[zp We] at hr;simp only[We,if_true];refine xa ?_;exact Of (v:=.mk 7 [] [] [] [] []) rfl (rC (rA (k:=6) rfl xc rfl (vA (bs:=[_,_,.list [],.list [],.list [],.list []]) ⟨vR _,vR _,vN,vN,vN,vN,trivial⟩)) rN) (by cases hr;rfl) (by rw[Kw];rfl) (Fc Vd sd);rw[zn (by rw[We];decide)] at hr;simp only[We,Il,if_false];refine wa ?_;refine oS (sP [_,_] rfl pH (Xn sb T i op 2 hl zo) (λs i1 yc h1=>?_) λl er i1 yc h1 e9 Fj=>?_);rotate_left;exact xF;rw[h1,Je] at hr;obtain⟨rfl,rfl,t,ht,_,_⟩:=CG h1;have:=wK ht;refine xa ?_;refine oS (Sd λb4=>?_);refine xa ?_;refine Kj ?_;refine oS (sH [_,_] rfl Vd (Cu sb T (i+1) yc [[40]] hl zo (by simp)) ?_);refine Ad ?_;refine Oa (λxm=>?_) λxm=>?_
 ·rw[zp xm] at hr;refine Yd ?_;obtain⟨r1,Ae⟩:=ql hr;refine oS (sP [_] rfl pH (qni sb T hT f (λg hg=>hE g zo) (i+1) yc r1 zo zo Ae) (λl i2 xg h2=>?_) λl er i2 xg h2 e9 Fj=>?_);rotate_left;rw[Ae,h2,Ih] at hr;refine Zd ?_;exact Mc gp (by cases hr;rfl) Gd;rw[Ae,h2,Je] at hr;refine Ra ?_;refine Kj ?_;refine Ra ?_;exact Of (v:=.mk 6 [] [] [.mk tg 0 s l] [] []) rfl (rC (rA (k:=6) rfl xc rfl (vA (bs:=[_,_,.list [],_,.list [],.list []]) ⟨vR _,vR _,vN,vR _,vN,vN,trivial⟩)) rN) (by cases hr;rfl) (by rw[qzP];rfl) (Fc Vd sd)
 rw[zn (by rw[xm];decide)] at hr;refine Yd ?_;refine Kj ?_;refine oS (sH [_,_] rfl pH (Cu sb T (i+1) yc [[91]] hl zo (by simp)) ?_);refine Ad ?_;refine Oa (λwm=>?_) λwm=>?_
 ·rw[zp wm] at hr;refine Yd ?_;obtain⟨r1,Ae⟩:=ql hr;refine oS (sP [_] rfl pH (qjO sb T hT f (λg hg=>hE g zo) (i+1) yc r1 zo zo Ae) (λx i2 xg h2=>?_) λl er i2 xg h2 e9 Fj=>?_);rotate_left;rw[Ae,h2,Ih] at hr;refine Zd ?_;exact Mc gp (by cases hr;rfl) Gd;rw[Ae,h2,Je] at hr;obtain⟨q1,q2,q3,rfl⟩:=gI _ _ _ (Ae.trans (congrArg some h2));have q4:=q3 zo;refine Kj ?_;refine xa ?_;refine oS (sP [_,_] rfl Vd (TK sb T i2 xg [61] hl zo) (λu i3 wg h3=>?_) λl er i3 wg h3 e9 Fj=>?_);rotate_left;exact wF;rw[h3,Je] at hr;have uJ:=Mw T [61] i2 xg;rw[h3] at uJ;obtain⟨k1,k2,k3,rfl⟩:=uJ;have k4:=k3 q4;refine Xi ?_;obtain⟨r2,De⟩:=ql hr;refine oS (sP [_] rfl pH (hE f zo _ _ r2 zo zo De) (λv i4 Zn h4=>?_) λl er i4 Zn h4 e9 Fj=>?_);rotate_left;rw[De,h4,Ih] at hr;refine Zd ?_;exact Mc gp (by cases hr;rfl) Gd;rw[De,h4,Je] at hr;refine Kj ?_;refine xa ?_;exact Of (v:=.mk 2 s [x] [v] [] []) rfl (rC (rA (k:=6) rfl xc rfl (vA (bs:=[_,_,_,_,.list [],.list []]) ⟨vR _,vR _,vR _,vR _,vN,vN,trivial⟩)) rN) (by cases hr;rfl) (by rw[Kw];rfl) (Fc Hl sd)
 rw[zn (by rw[wm];decide)] at hr;refine wa ?_;refine oS (sP [_,_] rfl pH (TK sb T (i+1) yc [61] hl zo) (λu i3 wg h3=>?_) λl er i3 wg h3 e9 Fj=>?_);rotate_left;exact wF;rw[h3,Je] at hr;have uJ:=Mw T [61] (i+1) yc;rw[h3] at uJ;obtain⟨k1,k2,k3,rfl⟩:=uJ;have k4:=k3 zo;refine Xi ?_;obtain⟨r2,De⟩:=ql hr;refine oS (sP [_] rfl pH (hE f zo _ _ r2 zo zo De) (λv i4 Zn h4=>?_) λl er i4 Zn h4 e9 Fj=>?_);rotate_left;rw[De,h4,Ih] at hr;refine Zd ?_;exact Mc gp (by cases hr;rfl) Gd;rw[De,h4,Je] at hr;refine Kj ?_;refine xa ?_;exact Of (v:=.mk 1 s [] [v] [] []) rfl (rC (rA (k:=6) rfl xc rfl (vA (bs:=[_,_,.list [],_,.list [],.list []]) ⟨vR _,vR _,vN,vR _,vN,vN,trivial⟩)) rN) (by cases hr;rfl) (by rw[Kw];rfl) (Fc Hl sd)
theorem uW(sb:Nat)(T:List Tok)(hT:Xt T)(f:Nat)(hE:∀ g,g<=f->cG B0 w0 sb T g)(hB:fZ B0 w0 sb T f)(hM:FZ B0 w0 sb T f):HY B0 w0 sb T (f+1):=by
 intro i op r hi ho hr;have hl:=hT.len;obtain⟨gL,_,_,_,gI,gA,_⟩:=Ky T f;obtain⟨kB,kL,kS,kM⟩:=DK T f;rw[Fq] at hr;refine jb Tryz.func200 rfl (n:=38) rfl rfl rfl ?_;refine Xe ?_;refine oS (Sd λb2=>?_);refine wa ?_;refine oS (sH [_,_] rfl Vd (XE sb T i op WR hl zo) ?_);refine Ad ?_;refine Oa (λhc=>?_) λhc=>?_
 ·have Ka:=Wj hc;rw[zp hc] at hr;simp only[hc,if_true];refine Yd ?_;obtain⟨r1,Ae⟩:=ql hr;refine oS (sP [_] rfl pH (hE f zo _ _ r1 zo zo Ae) (λv i1 yc h1=>?_) λl er i1 yc h1 e9 Fj=>?_);rotate_left;exact zF;rw[Ae,h1,Je] at hr;obtain⟨g1,g2,g3,rfl⟩:=gL 0 _ _ _ (Ae.trans (congrArg some h1));have g4:=g3 zo;refine Kj ?_;refine Ra ?_;refine oS (Sd λb3=>?_);refine xa ?_;obtain⟨r2,De⟩:=ql hr;refine oS (sP [_] rfl Vd (hB _ _ r2 zo zo De) (λth i2 xg h2=>?_) λl er i2 xg h2 e9 Fj=>?_);rotate_left;rw[De,h2,Ih] at hr;refine Zd ?_;exact Mc gp (by cases hr;rfl) Gd;rw[De,h2,Je] at hr;obtain⟨q1,q2,q3,rfl⟩:=kB _ _ _ (De.trans (congrArg some h2));have q4:=q3 zo;refine xa ?_;refine oS (sH [_,_] rfl Vd (XE sb T i2 xg qx4 hl zo) ?_);refine Ad ?_;refine Oa (λWe=>?_) λWe=>?_
  ·have Ax:=Wj We;rw[zp We] at hr;simp only[We,if_true];refine Yd ?_;obtain⟨r3,zD⟩:=ql hr;refine oS (sP [_] rfl pH (hB _ _ r3 zo zo zD) (λel i3 wg h3=>?_) λl er i3 wg h3 e9 Fj=>?_);rotate_left;rw[zD,h3,Ih] at hr;refine Zd ?_;exact Mc gp (by cases hr;rfl) Gd;rw[zD,h3,Je] at hr;refine xa ?_;exact Of (v:=.mk 3 [] [] [v] th el) rfl (rC (rA (k:=6) rfl xc rfl (vA (bs:=[_,_,.list [],_,_,_]) ⟨vR _,vR _,vN,vR _,vR _,vR _,trivial⟩)) rN) (by cases hr;rfl) (by rw[Kw];rfl) (Fc Hl sd)
  rw[zn (by rw[We];decide)] at hr;simp only[We,Il,if_false];refine xa ?_;exact Of (v:=.mk 3 [] [] [v] th []) rfl (rC (rA (k:=6) rfl xc rfl (vA (bs:=[_,_,.list [],_,_,.list []]) ⟨vR _,vR _,vN,vR _,vR _,vN,trivial⟩)) rN) (by cases hr;rfl) (by rw[Kw];rfl) (Fc Vd sd)
 rw[zn (by rw[hc];decide)] at hr;simp only[hc,Il,if_false];refine Yd ?_;refine oS (sH [_,_] rfl pH (XE sb T i op quh hl zo) ?_);refine Ad ?_;refine Oa (λWe=>?_) λWe=>?_
 ·have Ka:=Wj We;rw[zp We] at hr;simp only[We,if_true];refine Yd ?_;obtain⟨r1,Ae⟩:=ql hr;refine oS (sP [_] rfl pH (hE f zo _ _ r1 zo zo Ae) (λv i1 yc h1=>?_) λl er i1 yc h1 e9 Fj=>?_);rotate_left;exact zF;rw[Ae,h1,Je] at hr;obtain⟨g1,g2,g3,rfl⟩:=gL 0 _ _ _ (Ae.trans (congrArg some h1));have g4:=g3 zo;refine Kj ?_;refine Ra ?_;refine oS (Sd λb3=>?_);refine xa ?_;obtain⟨r2,De⟩:=ql hr;refine oS (sP [_] rfl Vd (hB _ _ r2 zo zo De) (λth i2 xg h2=>?_) λl er i2 xg h2 e9 Fj=>?_);rotate_left;rw[De,h2,Ih] at hr;refine Zd ?_;exact Mc gp (by cases hr;rfl) Gd;rw[De,h2,Je] at hr;refine xa ?_;exact Of (v:=.mk 4 [] [] [v] th []) rfl (rC (rA (k:=6) rfl xc rfl (vA (bs:=[_,_,.list [],_,_,.list []]) ⟨vR _,vR _,vN,vR _,vR _,vN,trivial⟩)) rN) (by cases hr;rfl) (by rw[Kw];rfl) (Fc Hl sd)
 rw[zn (by rw[We];decide)] at hr;simp only[We,Il,if_false];refine wa ?_;obtain⟨r1,Ae⟩:=ql hr;refine oS (sP [_] rfl pH (hM _ _ r1 zo zo Ae) (λv i1 yc h1=>?_) λl er i1 yc h1 e9 Fj=>?_);rotate_left;exact zF;rw[Ae,h1,Je] at hr;obtain⟨g1,g2,g3,rfl⟩:=kM _ _ _ (Ae.trans (congrArg some h1));have g4:=g3 zo;refine oS (Sd λb5=>?_);refine xa ?_;refine oS (sP [_,_] rfl Vd (TK sb T i1 yc [59] hl zo) (λu i2 xg h2=>?_) λl er i2 xg h2 e9 Fj=>?_);rotate_left;rw[h2,Ih] at hr;refine Zd ?_;exact Mc gp (by cases hr;rfl) Gd;rw[h2,Je] at hr;refine xa ?_;exact Of (v:=v) rfl (rC (rA rfl xc rfl ie) rN) (by cases hr;rfl) rfl (Fc Vd sd)
theorem qBQ(hG:GW B0 w0)(sb:Nat)(T:List Tok)(hT:Xt T):∀ f:Nat,fZ B0 w0 sb T f/\PY B0 w0 sb T f/\HY B0 w0 sb T f/\FZ B0 w0 sb T f:=by
 intro f;induction f using Nat.strongRecOn with
 |_ f ih=>
  have hE:=λg=>(X0 hG sb T hT g).2
  cases f with
  |zero=>refine⟨?_,tR sb T hT 0 (λg hg=>by omega),?_,?_⟩;intro i op r _ _ hr;rw[xp] at hr;cases hr;intro i op r _ _ hr;rw[Fq] at hr;cases hr;intro i op r _ _ hr;rw[Mq] at hr;cases hr
  |succ f=>have h:=ih f zo;exact⟨JW sb T hT f h.2.1,tR sb T hT _ λg hg=>(ih g hg).2.2.1,uW sb T hT f (λg _=>hE g) h.1 h.2.2.2,qoy sb T hT f λg _=>hE g⟩
theorem qhS(T:List Tok):∀ (f:Nat) (acc:List (List UInt8)) (i op:Nat) (l:List (List UInt8)) (i' La:Nat),Nq T f acc i op=some (.ok l i' La)->l.length+i<=acc.length+i'
 |0,_,_,_,_,_,_,h=>by rw[Nq] at h;cases h
 |f+1,acc,i,op,l,i',La,h=>by rw[Nq] at h;split at h;rcases Kk h with⟨s,i1,yc,h1,h2⟩|⟨l,e,_,hh⟩;injection h1 with h1;obtain⟨rfl,rfl,_⟩:=CG h1;have:=qhS T f _ _ _ _ _ _ h2;rw[Ga,length_singleton] at this;omega;cases hh;cases h;omega
theorem qmZ{T:List Tok}{f i op:Nat}{l:List (List UInt8)}{i' La:Nat}(h:Hy T f i op=some (.ok l i' La)):l.length+i<=i':=by unfold Hy at h;rcases Kk h with⟨s,i1,yc,h1,h2⟩|⟨l,e,_,hh⟩;injection h1 with h1;obtain⟨rfl,rfl,_⟩:=CG h1;have:=qhS T f _ _ _ _ _ _ h2;rw[length_singleton] at this;omega;cases hh
theorem PZ(T:List Tok):∀ (f:Nat) (acc:List (List UInt8)) (i op:Nat) (l:List (List UInt8)) (i' La:Nat),Fk T f acc i op=some (.ok l i' La)->l.length+i<=acc.length+i'
 |0,_,_,_,_,_,_,h=>by rw[Fk] at h;cases h
 |f+1,acc,i,op,l,i',La,h=>by rw[Fk] at h;split at h;rcases Kk h with⟨s,i1,yc,h1,h2⟩|⟨l,e,_,hh⟩;have:=qmZ h1;rcases Kk h2 with⟨u,i2,xg,h3,h4⟩|⟨l,e,_,hh⟩;injection h3 with h3;have hg:=Mw T [59] i1 yc;rw[h3] at hg;have hv:=PZ T f _ _ _ _ _ _ h4;have:=hg.1;rw[Ga] at hv;omega;cases hh;cases hh;cases h;omega
theorem Z1(sb:Nat)(T:List Tok)(hT:Xt T)(f i op:Nat)(r:pk (List (List UInt8)))(hi:i<=T.length)(hr:Fk T f [] i op=some r) :
  ca (KC B0 w0) 78 [ptr sb 0] [Hb sb T i op] (Ho sb T qp9 r):=by
 have hl:=hT.len;refine jb Tryz.func78 rfl (n:=13) rfl rfl rfl ?_;refine wa ?_;refine oL (λk ls H=>∃ (v:LV) (l:List (List UInt8)) (i2:Nat) (Ha:Heap),k<=f/\ls=[(0,ptr sb 0),(3,v)]/\H=Hb sb T i2 op::Ha/\Acc 1 v (l.map str) Ha []/\i2<=T.length/\l.length<=i2/\Fk T k l i2 op=some r)
  ⟨f,_,Hb sb T i op::[],⟨fc,[],i,_,Pb _,rfl,rfl,Acc.nil,by omega,by simp,hr⟩,Kb,bc _⟩ ?_
 rintro k ls H ⟨v,l,i2,Ha,D7,rfl,rfl,Eb,Dx,fF,hI⟩ j hj;obtain⟨k,rfl⟩:∃ k',k=k'+1:=by
  cases k with
  |zero=>rw[Fk] at hI;cases hI
  |succ k=>exact⟨k,rfl⟩
 rw[Fk] at hI;refine Yd ?_;refine oS (sH [_,_] rfl pH (XE sb T i2 op ME hl zo) ?_);refine Ad ?_;refine Oa (λhc=>?_) λhc=>?_
 ·have Ka:=Wj hc;rw[zp hc] at hI;simp only[hc,if_true];refine Zi ?_;refine Cs ?_;obtain⟨r2,De⟩:=ql hI;refine oS (sP [_] rfl pH (qjG sb T hT k (i2+1) op r2 zo De) (λns i4 Zn h4=>?_) λl er i4 Zn h4 e9 Fj=>?_);rotate_left;rw[De,h4,Ih] at hI;refine Zd ?_;exact Mc gp (by cases hI;rfl) Gd;rw[De,h4,Je] at hI;obtain⟨g1,g2,g3,rfl⟩:=MI T k _ _ _ (De.trans (congrArg some h4));have g5:=g3 zo;have g6:=qmZ (De.trans (congrArg some h4));refine oS (S.Yx (ms:=ns.map str) rfl Eb rfl (CI ns) (EK ns) (by simp;omega) λv' H' Ob=>?_);refine Ql ?_;refine Xi ?_;refine oS (sP [_,_] rfl pH (TK sb T i4 Zn [59] hl zo) (λu i5 rL h5=>?_) λl er i5 rL h5 e9 Fj=>?_);rotate_left;rw[h5,Ih] at hI;refine Zd ?_;exact Mc gp (by cases hI;rfl) Gd;rw[h5,Je] at hI;have hg5:=Mw T [59] i4 Zn;rw[h5] at hg5;obtain⟨k1,k2,k3,rfl⟩:=hg5;have k4:=k3 g5;refine Aa ?_;exact⟨k,_,_,by omega,⟨v',l++ns,i5,H',by omega,rfl,rfl,by rw[Te];exact Ob,by omega,by rw[Ga];omega,hI⟩,Kb,bc _,hj⟩
 rw[zn (by rw[hc];decide)] at hI;simp only[hc,Il,if_false];refine wa ?_;refine gC ?_;exact Of (v:=l) hj (rC (rT (v:=v) rfl Eb.sub) rN) (by cases hI;rfl) rfl Gd
theorem AR(hG:GW B0 w0)(sb:Nat)(T:List Tok)(hT:Xt T)(i op:Nat)(r:pk Ar)(hi:i<=T.length)(ho:op<=100)(hr:Vz T i op=some r) :
  ca (KC B0 w0) 80 [ptr sb 0] [Hb sb T i op] (Ho sb T mK r):=by
 have hl:=hT.len;unfold Vz at hr;refine jb Tryz.func80 rfl (n:=18) rfl rfl rfl ?_;refine Xe ?_;refine oS (Sd λb2=>?_);refine Xi ?_;refine oS (sP [_,_] rfl Vd (Xn sb T i op 2 hl zo) (λs i1 yc h1=>?_) λl er i1 yc h1 e9 Fj=>?_);rotate_left;exact xF;rw[h1,Je] at hr;obtain⟨rfl,rfl,t,ht,_,_⟩:=CG h1;have:=wK ht;refine Ra ?_;refine oS (Sd λb3=>?_);refine xa ?_;refine oS (sP [_,_] rfl Vd (DG sb T (i+1) yc [91] hl zo zo) (λv i2 xg h2=>?_) λl er i2 xg h2 e9 Fj=>?_);rotate_left;rw[h2,Ih] at hr;refine Zd ?_;exact Mc gp (by cases hr;rfl) Gd;rw[h2,Je] at hr;obtain⟨rfl,rfl,vx,NB⟩:=Pw h2;refine Xi ?_;refine oS (sP [_] rfl pH (qiV hG sb T hT (i+1+1) (yc+1) zo) (λm i3 wg h3=>?_) λl er i3 wg h3 e9 Fj=>?_);rotate_left;exact wF;rw[h3,Je] at hr;have uJ:=R4 T (i+1+1) (yc+1);rw[h3] at uJ;obtain⟨k1,k2,k3,rfl⟩:=uJ;have k4:=k3 zo
 have hm:m<=4294967295:=by unfold My at h3;unfold pk.bind at h3;split at h3;rename_i s2 i6 D5 h6;cases h3;obtain⟨_,_,t6,ht6,AO,rfl⟩:=CG h6;obtain⟨u,hu,hp⟩:=hT.num t6 (List.mem_of_getElem? ht6) AO;rw[Uv,hp];simp only;omega;cases h3
 have hw:IntKind.i64.wrap (m:Int)=(m:Int):=cA zo;refine xa ?_;refine oS (sP [_,_] rfl Vd (GK sb T i3 (yc+1) [93] hl zo zo zo) (λu i4 Zn h4=>?_) λl er i4 Zn h4 e9 Fj=>?_);rotate_left;rw[h4,Ih] at hr;refine Zd ?_;exact Mc gp (by cases hr;rfl) Gd;rw[h4,Je] at hr;obtain⟨rfl,rfl,hi4⟩:=CK h4;refine Xi ?_;refine oS (sP [_,_] rfl pH (TK sb T (i3+1) Zn [59] hl zo) (λu2 i5 rL h5=>?_) λl er i5 rL h5 e9 Fj=>?_);rotate_left;rw[h5,Ih] at hr;refine Zd ?_;exact Mc gp (by cases hr;rfl) Gd;rw[h5,Je] at hr;refine xa ?_;exact Of (v:=⟨s,m⟩) rfl (rC (rA (k:=2) rfl xc rfl ie) rN) (by cases hr;rfl) (by show LV.agg [str s,int .i64 (IntKind.i64.wrap m)]=mK ⟨s,m⟩;rw[hw];rfl) (Fc Vd sd)
theorem qnJ(hG:GW B0 w0)(sb:Nat)(T:List Tok)(hT:Xt T)(f i op:Nat)(r:pk yb)(hi:i<=T.length)(ho:op<=100)(hr:Vv T f i op=some r) :
  ca (KC B0 w0) 81 [ptr sb 0] [Hb sb T i op] (Ho sb T Eg r):=by
 have hl:=hT.len;unfold Vv at hr;refine jb Tryz.func81 rfl (n:=29) rfl rfl rfl ?_;refine Xe ?_;refine oS (Sd λb2=>?_);refine Xi ?_;refine oS (sP [_,_] rfl Vd (Xn sb T i op 2 hl zo) (λs i1 yc h1=>?_) λl er i1 yc h1 e9 Fj=>?_);rotate_left;exact xF;rw[h1,Je] at hr;obtain⟨rfl,rfl,t,ht,_,_⟩:=CG h1;have:=wK ht;refine Ra ?_;refine oS (Sd λb3=>?_);refine xa ?_;refine oS (sP [_,_] rfl Vd (DG sb T (i+1) yc [40] hl zo zo) (λv i2 xg h2=>?_) λl er i2 xg h2 e9 Fj=>?_);rotate_left;rw[h2,Ih] at hr;refine Zd ?_;exact Mc gp (by cases hr;rfl) Gd;rw[h2,Je] at hr;obtain⟨rfl,rfl,vx,NB⟩:=Pw h2;refine Xi ?_;refine Kj ?_;refine oS (sH [_,_] rfl pH (Cu sb T (i+1+1) (yc+1) [[41]] hl zo (by simp)) ?_);refine Ra ?_;obtain⟨r3,zD⟩:=ql hr
 refine kb.mid (A:=List (List UInt8)×Nat) (λ_=>[(0,ptr sb 0),(2,ptr b2 0),(3,ptr b3 0)]) (λa=>(b3,.cells 167 [str s,.list (a.1.map str),fc,fc])::Hb sb T a.2 (yc+1)::[(b2,.cells 167 [str [],fc,fc,fc])])
  (λa=>i+1+1<=a.2/\a.2<=T.length/\r3=.ok a.1 a.2 (yc+1)) ?_ ?_
 refine Oa (λhc=>?_) λhc=>?_;have Xo:Ja T (i+1+1) [[41]]=false:=by simpa using hc
 rw[zn (by rw[Xo];decide)] at zD;refine Yd ?_;refine oS (sP [_] rfl pH (qjG sb T hT f (i+1+1) (yc+1) r3 zo zD) (λns i3 wg h3=>?_) λl er i3 wg h3 e9 Fj=>?_);obtain⟨g1,g2,g3,rfl⟩:=MI T f _ _ _ (zD.trans (congrArg some h3));have g5:=g3 zo;refine Ra ?_;exact⟨(ns,i3),⟨by omega,g5,h3⟩,Kb,rfl,rfl⟩;rw[zn (by rw[Xo];decide),zD,h3,Ih] at hr;refine Yi ?_;exact Mc (Fj.trans rfl) (by cases hr;rfl) Gd;have Xo:Ja T (i+1+1) [[41]]=true:=by simpa using hc
 rw[zp Xo] at zD;cases zD;refine kb.mz Vd (Zb:=[str s,.list [],fc,fc]) ⟨vR _,vN,vR _,vR _,trivial⟩ ?_;refine Aa ?_;exact⟨([],i+1+1),⟨Pb _,by omega,rfl⟩,Kb,rfl,rfl⟩;rintro⟨ps,i3⟩ ⟨hi3,aav,rfl⟩ j hj;rw[zD,Je] at hr;refine Yd ?_;refine oS (sP [_,_] rfl Vd (GK sb T i3 (yc+1) [41] hl zo zo zo) (λu i4 Zn h4=>?_) λl er i4 Zn h4 e9 Fj=>?_);rotate_left;rw[h4,Ih] at hr;refine Zd ?_;exact Mc gp (by cases hr;rfl) Gd;rw[h4,Je] at hr;obtain⟨rfl,rfl,hi4⟩:=CK h4;refine Xi ?_;refine oS (sP [_,_] rfl pH (DG sb T (i3+1) Zn [123] hl zo zo) (λu2 i5 rL h5=>?_) λl er i5 rL h5 e9 Fj=>?_);rotate_left;rw[h5,Ih] at hr;refine Zd ?_;exact Mc gp (by cases hr;rfl) Gd;rw[h5,Je] at hr;obtain⟨rfl,rfl,ho5,hi5⟩:=Pw h5;refine Xi ?_;obtain⟨r6,vX⟩:=ql hr;refine oS (sP [_] rfl pH (Z1 sb T hT f (i3+1+1) (Zn+1) r6 zo vX) (λvs i6 D5 h6=>?_) λl er i6 D5 h6 e9 Fj=>?_);rotate_left;rw[vX,h6,Ih] at hr;refine Zd ?_;exact Mc gp (by cases hr;rfl) Gd;rw[vX,h6,Je] at hr;obtain⟨g1,g2,g3,rfl⟩:=EG T f _ _ _ _ (vX.trans (congrArg some h6));have g4:=g3 zo;refine xa ?_;obtain⟨r7,uX⟩:=ql hr;refine oS (sP [_] rfl Vd ((qBQ hG sb T hT f).2.1 i6 (Zn+1) r7 zo zo uX) (λss i7 op7 h7=>?_) λl er i7 op7 h7 e9 Fj=>?_);rotate_left;rw[uX,h7,Ih] at hr;refine Zd ?_;exact Mc gp (by cases hr;rfl) Gd;rw[uX,h7,Je] at hr;obtain⟨q1,q2,q3,rfl⟩:=(DK T f).2.1 _ _ _ _ (uX.trans (congrArg some h7));have q4:=q3 zo;refine xa ?_;refine oS (sP [_,_] rfl Vd (GK sb T i7 (Zn+1) [125] hl zo zo zo) (λu3 i8 op8 h8=>?_) λl er i8 op8 h8 e9 Fj=>?_);rotate_left;rw[h8,Ih] at hr;refine Zd ?_;exact Mc gp (by cases hr;rfl) Gd;rw[h8,Je] at hr;refine xa ?_;exact Of (v:=⟨s,ps,vs,ss⟩) hj (rC (rA (k:=4) rfl xc rfl ie) rN) (by cases hr;rfl) rfl (Fc Vd sd)
theorem qB0{a b c:Nat×ja}:(a::b::c::(X++(Y++Z))).Perm (X++(a::b::c::(Y++Z))):=List.perm_append_comm_assoc [a,b,c] X (Y++Z)
theorem CY{a b c:Nat×ja}:(a::b::c::(X++(Y++Z))).Perm (Y++(a::b::c::(X++Z))):=
 (((List.perm_append_comm_assoc X Y Z).cons c).cons b |>.cons a).trans (List.perm_append_comm_assoc [a,b,c] Y (X++Z))
theorem FY{a b c:Nat×ja}:(a::b::c::(X++(Y++Z))).Perm (Z++(a::b::c::(X++Y))):=
 ((((show(X++(Y++Z)).Perm (Z++(X++Y)) from by rw[<-Yc];exact Lh).cons c).cons b).cons a).trans (List.perm_append_comm_assoc [a,b,c] Z (X++Y))
theorem qBz{a b c:Nat×ja}:HSub (a::b::c::(X++(Y++Z))) (b::a::c::((Y++Z)++X)):=
 ⟨[],by rw[ue];exact(yq _ _ _).trans ((((Lh).cons c).cons b).cons a)⟩
theorem X4{a b c:Nat×ja}:HSub (a::b::c::(X++(Y++Z))) (b::a::c::((X++Z)++Y)):=
 ⟨[],by rw[ue];exact(yq _ _ _).trans ((((show((X++Z)++Y).Perm (X++(Y++Z)) from by rw[Yc];exact Lh.append_left X).cons c).cons b).cons a)⟩
theorem yY{a b c:Nat×ja}:HSub (a::b::c::(X++(Y++Z))) (b::a::c::((X++Y)++Z)):=
 ⟨[],by rw[ue,Yc];exact yq _ _ _⟩
theorem Acc.cell{s:Nat}{v:LV}{es:List LV}(h:Acc s v es H F):v.cells? = some [v]/\[v].all Vs=true:=by cases h <;> exact⟨rfl,rfl⟩
theorem XK(hG:GW B0 w0)(sb:Nat)(T:List Tok)(hT:Xt T)(f:Nat)(r:pk Pr)(hr:Ll T f ⟨[],[],[]⟩ 0 0=some r) :
  ca (KC B0 w0) 46 [ptr sb 0] [Hb sb T 0 0] (Ho sb T Cw r):=by
 have hl:=hT.len;have IB:(T.map Bu).length=T.length:=Mb _;refine jb Tryz.func46 rfl (n:=47) rfl rfl rfl ?_;refine Xe ?_;refine oS (Sd λb2=>?_);refine wh ?_;refine oS (Sd λb3=>?_);refine Aa ?_;refine oL (λk ls H=>∃ (p:Pr) (v1 v2 v3:LV) (i2:Nat) (H1 H2 H3:Heap),k<=f/\ls=[(0,ptr sb 0),(2,ptr b2 0),(3,ptr b3 0)]/\H=Hb sb T i2 0::(b3,.cells 71 [v1,v2,v3])::(b2,.cells 71 [fc,fc,fc])::(H1++(H2++H3)) /\
   Acc 1 v1 (p.vars.map str) H1 []/\Acc 2 v2 (p.ba.map mK) H2 []/\Acc 4 v3 (p.funcs.map Eg) H3 []/\i2<=T.length/\p.vars.length<=i2/\p.ba.length<=i2/\p.funcs.length<=i2/\Ll T k p i2 0=some r)
  ⟨f,_,_,⟨⟨[],[],[]⟩,fc,fc,fc,0,[],[],[],Pb _,rfl,rfl,Acc.nil,Acc.nil,Acc.nil,zero_le _,zero_le _,zero_le _,zero_le _,hr⟩,Kb,Fc Hl ob⟩ ?_
 rintro k ls H ⟨p,v1,v2,v3,i2,H1,H2,H3,D7,rfl,rfl,QB,Nr,Lx,Dx,EA,Et,YL,hI⟩ j hj;obtain⟨k,rfl⟩:∃ k',k=k'+1:=by
  cases k with
  |zero=>rw[Ll] at hI;cases hI
  |succ k=>exact⟨k,rfl⟩
 rw[Ll] at hI;refine Aa ?_;refine ZB [(0,ptr sb 0),(2,ptr b2 0),(3,ptr b3 0),(13,bool (decide (i2<T.length)))] ?_ λj2 Gc=>?_;refine Tq ?_;exact⟨⟨rfl,rfl,rfl,Re (by rw[decide_eq_decide];simp),trivial⟩,rfl,rfl⟩
 skip
 refine Oa (λhc=>?_) λhc=>?_;have Ka:i2<T.length:=zt hc;rw[zn zo] at hI;refine wa ?_;refine Kj ?_;refine oS (sH [_,_] rfl pH (Cu sb T i2 0 [ME] hl zo (by simp)) ?_);refine Ad ?_;refine Oa (λhv=>?_) λhv=>?_;rw[zp hv] at hI;obtain⟨r2,De⟩:=ql hI;refine cD (m:=7) rfl []<|aT 0 rfl rfl (pF rfl)<|qw ?_;refine aL ?_ sd;refine wq (i:=1) (j:=3) zk ?_ ?_;refine lH rfl rfl (pL (c:=v1) rfl Xh rfl)<|lO 3 (lW rfl (.inl rfl) rfl (sP [_] rfl pH (Z1 sb T hT k i2 0 r2 Dx De) (λl i3 wg h3=>?_) λl er i3 wg h3 e' Na=>?_));obtain⟨g1,g2,g3,rfl⟩:=EG T k _ _ _ _ (De.trans (congrArg some h3));have g4:=g3 Dx;have g5:=g2 hv;have g6:=PZ T _ _ _ _ _ _ _ (De.trans (congrArg some h3));rw[De,h3,Je] at hI;rw[qc] at g6;refine lO 4 (lW rfl (.inl rfl) rfl (sG qB0 rfl QB rfl (CI l) (EK l) (by simp;omega) λv' H' Wm=>?_));refine rP ?_;exact⟨k,_,_,by omega,⟨{ p with vars:=p.vars++l },v',v2,v3,i3,H',H2,H3,by omega,rfl,rfl,by rw[Te];exact Wm,Nr,Lx,g4,by rw[Ga];omega,Xf Et zo,Xf YL zo,hI⟩,Kb,qBz,Gc.trans hj⟩;exact IM;refine lW rfl (.inl rfl) rfl (sP [_] rfl pH (Z1 sb T hT k i2 0 r2 Dx De) (λl i3 wg h3=>?_) λl er i3 wg h3 e' Na=>?_);refine lO 1 (lH rfl rfl (pL (c:=v1) rfl Xh rfl) ?_);obtain⟨g1,g2,g3,rfl⟩:=EG T k _ _ _ _ (De.trans (congrArg some h3));have g4:=g3 Dx;have g5:=g2 hv;have g6:=PZ T _ _ _ _ _ _ _ (De.trans (congrArg some h3));rw[De,h3,Je] at hI;rw[qc] at g6;refine lO 4 (lW rfl (.inl rfl) rfl (sG qB0 rfl QB rfl (CI l) (EK l) (by simp;omega) λv' H' Wm=>?_));refine rP ?_;exact⟨k,_,_,by omega,⟨{ p with vars:=p.vars++l },v',v2,v3,i3,H',H2,H3,by omega,rfl,rfl,by rw[Te];exact Wm,Nr,Lx,g4,by rw[Ga];omega,Xf Et zo,Xf YL zo,hI⟩,Kb,qBz,Gc.trans hj⟩;exact IM;rw[zn (by rw[hv];decide)] at hI;refine Yd ?_;refine oS (sH [_,_] rfl pH (XE sb T i2 0 GQ hl zo) ?_);refine Ad ?_;refine Oa (λhw=>?_) λhw=>?_;have Ax:=Wj hw;rw[zp hw] at hI;simp only[hw,if_true];obtain⟨r2,De⟩:=ql hI;refine cD (m:=8) rfl []<|aT 0 rfl rfl (pF rfl)<|qw ?_;refine aL ?_ sd;refine wq (i:=1) (j:=3) zk ?_ ?_;refine lH rfl rfl (pL (c:=v2) rfl Xh rfl)<|lO 3 (lW rfl (.inl rfl) rfl (sP [_] rfl pH (AR hG sb T hT (i2+1) 0 r2 zo zo De) (λl i3 wg h3=>?_) λl er i3 wg h3 e' Na=>?_));obtain⟨g1,g2,g3,rfl⟩:=nR T _ _ _ (De.trans (congrArg some h3));have g4:=g3 zo;rw[De,h3,Je] at hI;refine KF ?_;refine lO 5 (lW rfl (.inl rfl) rfl (sG CY rfl Nr rfl (by simp;rfl) rfl (by simp;omega) λv' H' Wm=>?_));refine ZJ ?_;exact⟨k,_,_,by omega,⟨{ p with ba:=p.ba++[l] },v1,v',v3,i3,H1,H',H3,by omega,rfl,rfl,QB,by rw[Te];exact Wm,Lx,g4,Xf EA zo,by rw[Ga,length_singleton];omega,Xf YL zo,hI⟩,Kb,X4,Gc.trans hj⟩;exact IM;refine lW rfl (.inl rfl) rfl (sP [_] rfl pH (AR hG sb T hT (i2+1) 0 r2 zo zo De) (λl i3 wg h3=>?_) λl er i3 wg h3 e' Na=>?_);refine wq (i:=1) (j:=4) zk ?_ ?_;refine lH rfl rfl (pL (c:=v2) rfl Xh rfl) ?_;obtain⟨g1,g2,g3,rfl⟩:=nR T _ _ _ (De.trans (congrArg some h3));have g4:=g3 zo;rw[De,h3,Je] at hI;refine KF ?_;refine lO 5 (lW rfl (.inl rfl) rfl (sG CY rfl Nr rfl (by simp;rfl) rfl (by simp;omega) λv' H' Wm=>?_));refine ZJ ?_;exact⟨k,_,_,by omega,⟨{ p with ba:=p.ba++[l] },v1,v',v3,i3,H1,H',H3,by omega,rfl,rfl,QB,by rw[Te];exact Wm,Lx,g4,Xf EA zo,by rw[Ga,length_singleton];omega,Xf YL zo,hI⟩,Kb,X4,Gc.trans hj⟩;obtain⟨g1,g2,g3,rfl⟩:=nR T _ _ _ (De.trans (congrArg some h3));have g4:=g3 zo;rw[De,h3,Je] at hI;refine iC ?_;refine lO 1 (lH rfl rfl (pL (c:=v2) rfl Xh rfl) ?_);refine lO 5 (lW rfl (.inl rfl) rfl (sG CY rfl Nr rfl (by simp;rfl) rfl (by simp;omega) λv' H' Wm=>?_))
 refine ZJ ?_;exact⟨k,_,_,by omega,⟨{ p with ba:=p.ba++[l] },v1,v',v3,i3,H1,H',H3,by omega,rfl,rfl,QB,by rw[Te];exact Wm,Lx,g4,Xf EA zo,by rw[Ga,length_singleton];omega,Xf YL zo,hI⟩,Kb,X4,Gc.trans hj⟩;exact IM;rw[zn (by rw[hw];decide)] at hI;simp only[hw,Il,if_false];refine Yd ?_;refine oS (sH [_,_] rfl pH (XE sb T i2 0 bZ hl zo) ?_);refine Ad ?_;refine Oa (λhu=>?_) λhu=>?_;have Ax:=Wj hu;rw[zp hu] at hI;simp only[hu,if_true];obtain⟨r2,De⟩:=ql hI;refine cD (m:=8) rfl []<|aT 0 rfl rfl (pF rfl)<|qw ?_;refine aL ?_ sd;refine wq (i:=1) (j:=3) zk ?_ ?_;refine lH rfl rfl (pL (c:=v3) rfl Xh rfl)<|lO 3 (lW rfl (.inl rfl) rfl (sP [_] rfl pH (qnJ hG sb T hT k (i2+1) 0 r2 zo zo De) (λl i3 wg h3=>?_) λl er i3 wg h3 e' Na=>?_));obtain⟨g1,g2,g3,rfl⟩:=uR T k _ _ _ (De.trans (congrArg some h3));have g4:=g3 zo;rw[De,h3,Je] at hI;refine KF ?_;refine lO 5 (lW rfl (.inl rfl) rfl (sG FY rfl Lx rfl (by simp;rfl) rfl (by simp;omega) λv' H' Wm=>?_));refine YJ ?_;exact⟨k,_,_,by omega,⟨{ p with funcs:=p.funcs++[l] },v1,v2,v',i3,H1,H2,H',by omega,rfl,rfl,QB,Nr,by rw[Te];exact Wm,g4,Xf EA zo,Xf Et zo,by rw[Ga,length_singleton];omega,hI⟩,Kb,yY,Gc.trans hj⟩;exact IM;refine lW rfl (.inl rfl) rfl (sP [_] rfl pH (qnJ hG sb T hT k (i2+1) 0 r2 zo zo De) (λl i3 wg h3=>?_) λl er i3 wg h3 e' Na=>?_);refine wq (i:=1) (j:=4) zk ?_ ?_;refine lH rfl rfl (pL (c:=v3) rfl Xh rfl) ?_;obtain⟨g1,g2,g3,rfl⟩:=uR T k _ _ _ (De.trans (congrArg some h3));have g4:=g3 zo;rw[De,h3,Je] at hI;refine KF ?_;refine lO 5 (lW rfl (.inl rfl) rfl (sG FY rfl Lx rfl (by simp;rfl) rfl (by simp;omega) λv' H' Wm=>?_));refine YJ ?_;exact⟨k,_,_,by omega,⟨{ p with funcs:=p.funcs++[l] },v1,v2,v',i3,H1,H2,H',by omega,rfl,rfl,QB,Nr,by rw[Te];exact Wm,g4,Xf EA zo,Xf Et zo,by rw[Ga,length_singleton];omega,hI⟩,Kb,yY,Gc.trans hj⟩;obtain⟨g1,g2,g3,rfl⟩:=uR T k _ _ _ (De.trans (congrArg some h3));have g4:=g3 zo;rw[De,h3,Je] at hI;refine iC ?_;refine lO 1 (lH rfl rfl (pL (c:=v3) rfl Xh rfl) ?_);refine lO 5 (lW rfl (.inl rfl) rfl (sG FY rfl Lx rfl (by simp;rfl) rfl (by simp;omega) λv' H' Wm=>?_));refine YJ ?_;exact⟨k,_,_,by omega,⟨{ p with funcs:=p.funcs++[l] },v1,v2,v',i3,H1,H2,H',by omega,rfl,rfl,QB,Nr,by rw[Te];exact Wm,g4,Xf EA zo,Xf Et zo,by rw[Ga,length_singleton];omega,hI⟩,Kb,yY,Gc.trans hj⟩;exact IM;rw[zn (by rw[hu];decide)] at hI;simp only[hu,Il,if_false];refine Yd ?_;refine oS (sP [_,_] rfl pH (jR Cw sb T i2 0 3 hl zo) (λ_ _ _ h=>by cases h) λl er i' La h e' Na=>?_);cases h;refine Zd ?_;exact Mc (Na.trans (Gc.trans hj)) (by cases hI;rfl) Gd;have ku:T.length<=i2:=by have:=zf hc;omega
 rw[zp ku] at hI;refine kb.mz Vd (Zb:=[.list (p.vars.map str),.list (p.ba.map mK),.list (p.funcs.map Eg)]) ⟨QB.sub,Nr.sub,Lx.sub,trivial⟩ ?_;refine xa ?_;exact Of (v:=p) (Gc.trans hj) (rC (rA (k:=3) rfl xc rfl ie) rN) (by cases hI;rfl) rfl (Fc Hl sd)
theorem qzy{s:List UInt8}{T:List Tok}(h:aA s=.ok T):Xt T:=by
 unfold aA at h;split at h;cases h;obtain⟨h1,h2⟩:=mZ _ _ _ _ h;exact⟨by omega,λt ht=>by have:=(h2 t ht).1;omega,λt ht hk=>by
  obtain⟨u,h3,h4,_⟩:=(h2 t ht).2 hk;exact⟨u,h3,h4⟩⟩
instance:Hh Gm 20:=.of zk
def Ej:Pr:=⟨[],[],[]⟩
def Di(s:List UInt8):Pr×Int×Int:=match aA s with
 |.error (l,e)=>(Ej,l,e)
 |.ok T=>match Ll T (10 * T.length+20) Ej 0 0 with
  |some (.ok p _ _)=>(p,0,0)
  |some (.err l e)=>(Ej,l,e)
  |none=>(Ej,0,0)
def OZ(r:Pr×Int×Int):LV:=.tuple [Cw r.1,int .i64 r.2.1,int .i64 r.2.2]
theorem Jw.Ek{H' H1 H2:Heap}{f:FuncId}{db:Array Value} [yJ:Wb C.P f](hd:e.ds=[{ target:=.fn (.func f) db,args:=#[] }])(hp:H.Perm (H1++F))
  (hc:Ko C f (db.toList.map .atom) .returning H1 λu H'=>u=.returning/\H'=H2) (h:tn C n e (H2++F) rs vs) (hH:HSub H' (H2++F)) (hR:R (.ret (Oh vs)) H'):Jw C n rs R .ret e H:=by
 unfold Jw;simp only[hd];refine⟨by simp,f,db,H1,F,rfl,yJ,hp,Ko.mono hc ?_⟩;rintro u Kh ⟨rfl,rfl⟩;exact⟨vs,H',h,hH,hR⟩
theorem Jw.Zs{H' H1 H2:Heap}{f:FuncId}{db:Array Value}{ch:List PanicEntry} [yJ:Wb C.P f](hd:e.ds=[{ target:=.fn (.func f) db,args:=#[] }])(hp:H.Perm (H1++F))
  (hc:Ko C f (db.toList.map .atom) (.panicking ch) H1 λu H'=>settle u=.returning/\H'=H2) (h:tn C n e (H2++F) rs vs) (hH:HSub H' (H2++F)) (hR:R (.ret (Oh vs)) H'):Jw C n rs R (.panic ch) e H:=by
 unfold Jw;simp only[hd];refine⟨by simp,f,db,H1,F,rfl,yJ,hp,Ko.mono hc ?_⟩;rintro u Kh ⟨hu,rfl⟩;rw[hu];exact⟨vs,H',h,hH,hR⟩
def wY:pk Pr->Pr×Int×Int
 |.ok p _ _=>(p,0,0)
 |.err l e=>(Ej,l,e)
theorem G0:∀ (f:Nat) (s:List UInt8) (line l e:Int),Ke f s line=.error (l,e)->¬ e=0
 |0,s,line,l,e,h=>by rw[Ke] at h;cases h
 |f+1,s,line,l,e,h=>by
  rw[Ke] at h;split at h;cases h;split at h;split at h;rename_i he;cases h;exact he;cases hx:Ke f (s.drop (eh s).2.1) (line+((s.take (eh s).2.1).count 10:Nat)) with
  |ok T=>rw[hx] at h;cases h
  |error p=>rw[hx] at h;cases h;exact G0 f _ _ _ _ hx
  exact G0 f _ _ _ _ h
theorem qkE{s:List UInt8}{l e:Int}(h:aA s=.error (l,e)):¬ e=0:=by unfold aA at h;split at h;cases h;decide;exact G0 _ _ _ _ _ h
theorem Qo{A:Type}{p:A}{H:List A}(h:p∈H:=by first|exact Qg|exact List.Mem.tail _ xc|exact List.Mem.tail _ Xh|exact List.Mem.tail _ YB|exact List.Mem.tail _ VO|exact List.Mem.tail _ AU|exact List.Mem.tail _ zU):p∈H:=h
attribute [local irreducible] Cj Kg Gw Ko
theorem uV(b2 b3 b4:Nat)(cs:List LV)(c d:LV):Ko (KC B0 w0) 45 [ptr b2 0,ptr b3 0,ptr b4 0] .returning [(b2,.cells 71 cs),(b3,.cells 3 [c]),(b4,.cells 30 [d])]
  (λu H=>u=.returning/\H=[(b2,.cells 71 cs),(b3,.cells 3 [c]),(b4,.cells 30 [d])]):=by
 refine Ko.intro Tryz.func45 rfl (n:=22) rfl rfl rfl ?_;refine xz ?_;refine xa ?_;refine Oa (λhc=>?_) λhc=>?_;cases hc;refine Aa ?_;exact⟨rfl,_,bc _,rfl,rfl⟩
theorem qV(b2 b3 b4:Nat)(c1 c2 c3 c d:LV)(l er:Int):Ko (KC B0 w0) 45 [ptr b2 0,ptr b3 0,ptr b4 0] (.panicking (mO l er)) [(b2,.cells 71 [c1,c2,c3]),(b3,.cells 3 [c]),(b4,.cells 30 [d])]
  (λu H=>settle u=.returning/\H=[(b2,.cells 71 [fc,fc,fc]),(b3,.cells 3 [int .i64 l]),(b4,.cells 30 [int .i64 er])]):=by
 refine Ko.intro Tryz.func45 rfl (n:=22) rfl rfl rfl ?_;refine xz ?_;refine xa ?_;refine Oa (λhc=>?_) λhc=>?_;refine Yd ?_;refine qa (Pure.tq (vs:=[.int .i64 l,.int .i64 er]) rfl)<|Ra ?_;refine oS (Sd λb5=>?_);refine xa ?_;refine Oa (λhd=>?_) λhd=>?_;cases hd;refine Aa ?_;refine cD (m:=8) rfl [(b5,.cells 107 [int .i64 l,int .i64 er])]<|aT 0 rfl rfl (pB _ (cs:=[_,_,_]) rfl)<|aT 1 rfl rfl (pF rfl)<|aT 2 rfl rfl (pL (c:=.atom _) rfl xc rfl)<|aT 3 rfl rfl (pF rfl)<|aT 4 rfl rfl (pL (c:=.atom _) rfl xc rfl)<|aL ?_ Gd;refine lO 5 (lS (H1:=[(b2,.cells 71 [c1,c2,c3])]) (F:=[(b5,.cells 107 [int .i64 l,int .i64 er]),(b3,.cells 3 [c]),(b4,.cells 30 [d])]) rfl (.inl rfl) rfl Vd Gd (sS (Zb:=[_,_,_]) rfl pH rfl rfl rfl rfl rfl ?_));refine lO 6 (lS (H1:=[(b3,.cells 3 [c])]) (F:=[(b2,.cells 71 [fc,fc,fc]),(b5,.cells 107 [int .i64 l,int .i64 er]),(b4,.cells 30 [d])]) rfl (.inl rfl) rfl Hl (Fc Vd sd) (sS (Zb:=[_]) rfl pH rfl rfl rfl rfl rfl ?_));refine lO 7 (lS (H1:=[(b4,.cells 30 [d])]) (F:=[(b3,.cells 3 [int .i64 l]),(b2,.cells 71 [fc,fc,fc]),(b5,.cells 107 [int .i64 l,int .i64 er])]) rfl (.inl rfl) rfl XB (Fc Hl sd) (sS (Zb:=[_]) rfl pH rfl rfl rfl rfl rfl ?_));refine lD zk ?_;exact⟨rfl,_,Fc Hl (Fc Vd Gd),rfl,rfl⟩;cases hc
theorem qnj(hG:GW B0 w0)(s:List UInt8):ca (KC B0 w0) 26 [str s] [] (Ub (OZ (Di s))):=by
 refine ca.dx Tryz.func26 rfl (n:=24) rfl rfl rfl ?_;refine Bo ?_;refine Xe ?_;refine oS (Sd λb2=>oS (Sd λb3=>?_));refine oS (Sd λb4=>?_);refine Ad ?_;refine Bo ?_;refine Yd ?_;refine oS (sF [_] rfl (qrl hG s) ?_)
 cases hL:aA s with
 |error le=>
  obtain⟨l,er⟩:=le;have he0:¬ er=0:=qkE hL;simp only[jV];refine Ra ?_;refine Bo ?_;refine xa ?_;refine Oa (λhc=>?_) λhc=>?_;refine Aa ?_;refine cD (m:=6) rfl []<|aT 0 rfl rfl (pB _ (cs:=[_,_,_]) rfl)<|aL ?_ sd;refine oi.three (i:=1) (j:=2) (k:=3) zk ?_ ?_ ?_;refine IF ?_;refine wq (i:=2) (j:=3) zk ?_ ?_;refine lH rfl rfl (pL (c:=.atom _) rfl xc rfl) ?_;exact x9;refine NF ?_;refine wq (i:=2) (j:=4) zk ?_ ?_;exact iP;exact fP;refine lH rfl rfl (pL (c:=.atom _) rfl xc rfl)<|wq (i:=1) (j:=3) zk ?_ ?_;refine IF ?_;exact x9;refine NF ?_;exact y9;refine NF ?_;refine wq (i:=1) (j:=2) zk ?_ ?_;refine lH rfl rfl (pL (c:=.atom _) rfl YB rfl)<|wq (i:=2) (j:=4) zk ?_ ?_;exact iP;exact fP;refine IF ?_;exact y9;have:er=0:=by simpa using hc
  exact absurd this he0
 |ok T=>
  have hT:=qzy hL;simp only[jV];refine Ra ?_;refine Bo ?_;refine xa ?_;refine Oa (λhc=>?_) λhc=>?_;cases hc;refine Aa ?_;refine sw ?_;refine Cj.defer rfl rfl ?_;refine Es ?_;refine Bo ?_;refine xa ?_;refine oS (sB rfl λsb=>?_);refine Ad ?_;refine sw ?_;obtain⟨r,hr⟩:=dO T (10 * T.length+20) Ej 0 0 (zero_le _) zo
  have hp:Di s=wY r:=by rw[Di,hL];simp only[hr];cases r <;> rfl
  rw[hp];refine Cj.step (sP (T:=T) (i:=0) (op:=0) [_] rfl pH (XK hG sb T hT _ r hr) (λv i1 yc h1=>?_) λl er i1 yc h1=>?_) rfl;subst h1;refine Cj.step (sS (Zb:=[_,_,_]) rfl XB rfl rfl rfl rfl rfl ?_) rfl;refine Cj.step (sS (Zb:=[_]) rfl XB rfl rfl rfl rfl rfl ?_) rfl;refine Cj.step (sS (Zb:=[_]) rfl XB rfl rfl rfl rfl rfl ?_) rfl;refine Es ?_;refine Kg.ret ?_
  exact Jw.Ek (vs:=[Cw v,int .i64 0,int .i64 0]) (H2:=[(b2,.cells 71 [.list (v.vars.map str),.list (v.ba.map mK),.list (v.funcs.map Eg)]),(b3,.cells 3 [int .i64 0]),(b4,.cells 30 [int .i64 0])]) rfl (Hl.trans (au _ (Vd.trans (au _ dc)))) (uV b2 b3 b4 _ _ _)
   (rC (rA (k:=3) rfl xc rfl ie) (rC (pn.Ic rfl Xh rfl ie) (rC (pn.Ic rfl YB rfl ie) rN))) sd ⟨rfl,rfl⟩
  subst h1;refine Ie.panic ?_;exact Jw.Zs (vs:=[Cw Ej,int .i64 l,int .i64 er]) (H2:=[(b2,.cells 71 [fc,fc,fc]),(b3,.cells 3 [int .i64 l]),(b4,.cells 30 [int .i64 er])]) rfl (XB.trans (au _ (Hl.trans (au _ (Vd.trans dc))))) (qV b2 b3 b4 _ _ _ _ _ l er)
   (rC (rA (k:=3) rfl xc rfl (vA (bs:=[.list [],.list [],.list []]) ⟨vN,vN,vN,trivial⟩)) (rC (pn.Ic rfl Xh rfl ie) (rC (pn.Ic rfl YB rfl ie) rN))) sd ⟨rfl,rfl⟩
end Go.Proofs.Y
namespace Go.Proofs.Y.sk
open Go.GL Go.RowKit Go.ia
variable{A B H':Heap}{c:Cb}{Bb Ua:List Sm}{err:Int}{index value:List Ex}{lv:LV}{name:List UInt8}{rs:List ResultVar}
def SF(nm:List UInt8)(e:Int):List PanicEntry:=[{ v:=.iface 114 (.agg #[.string ⟨nm.toArray⟩,.int .i64 e]),recovered:=false }]
def Gv:Nat->List UInt8->Bool
 |_,[]=>true
 |i,c::r=>(if i=0 then Ml c else Si c) && Gv (i+1) r
theorem qlI:∀ (r:List UInt8) (i:Nat),i≠0->Gv i r=r.all Si
 |[],_,_=>rfl
 |c::r,i,h=>by rw[Gv,zn h,qlI r (i+1) zo];rfl
theorem qAc{s:List UInt8}(h0:s≠[])(h1:s.length<=24)(h2:uQ.contains s=false):kf s=Gv 0 s:=by
 unfold kf;rw[Dg h1,h2];cases s with
 |nil=>exact absurd rfl h0
 |cons c r=>rw[Gv,zp rfl,qlI r 1 ea];rfl
theorem qtZ(s:List UInt8):uQ.contains s=(PE.contains s || decide (s=[105,110]) || decide (s=[111,117,116])):=by
 have h:uQ.contains s=(PE.contains s || (decide (s=[105,110]) || decide (s=[111,117,116]))):=by unfold uQ;rw[Bool.eq_iff_iff];simp
 rw[h,Bool.or_assoc]
instance:dp Gm 124 3 (.int .i64 0) (int .i64 0):=⟨⟨9,zk,zk⟩,λw=>(Go.zero_of_info (P:=Gm) (n:=1) zk).1 w,λ_ _=>Ld⟩
instance:dp Gm 117 4 (.bool false) (bool false):=⟨⟨9,zk,zk⟩,λw=>(Go.zero_of_info (P:=Gm) (n:=1) zk).1 w,λ_ _=>Ld⟩
instance:dp Gm 118 174 (.agg [.int .i64 0,.int .i64 0,.int .i64 0].toArray) (.agg ([.int .i64 0,.int .i64 0,.int .i64 0].map .atom)):=⟨⟨9,zk,zk⟩,λw=>(Go.zero_of_info (P:=Gm) (n:=3) zk).1 w,λw L=>qxH w L _⟩
def cd:KV:=[([110,117,109],int .i64 0),([118,97,114],int .i64 0),([101,108,101,109],int .i64 1),([110,101,103],int .i64 1),([110,111,116],int .i64 1),([99,97,108,108],int .i64 (-1)),([124,124],int .i64 2),([38,38],int .i64 2),([61,61],int .i64 2),([33,61],int .i64 2),([60],int .i64 2),([62],int .i64 2),([60,61],int .i64 2),([62,61],int .i64 2),([94],int .i64 2),([43],int .i64 2),([45],int .i64 2),([42],int .i64 2),([47],int .i64 2),([37],int .i64 2)]
theorem qxF(op:List UInt8):GL.wb cd op=if ug op = -2 then none else some (int .i64 (ug op)):=by
 have key:∀ x∈[[110,117,109],[118,97,114],[101,108,101,109],[110,101,103],[110,111,116],[99,97,108,108],[124,124],[38,38],[61,61],[33,61],[60],[62],[60,61],[62,61],[94],[43],[45],[42],[47],[37]],GL.wb cd x=if ug x = -2 then none else some (int .i64 (ug x)):=by intro x hx;simp only[Dc,not_mem_nil,or_false] at hx;rcases hx with rfl|rfl|rfl|rfl|rfl|rfl|rfl|rfl|rfl|rfl|rfl|rfl|rfl|rfl|rfl|rfl|rfl|rfl|rfl|rfl <;> rfl
 by_cases h:op∈[[110,117,109],[118,97,114],[101,108,101,109],[110,101,103],[110,111,116],[99,97,108,108],[124,124],[38,38],[61,61],[33,61],[60],[62],[60,61],[62,61],[94],[43],[45],[42],[47],[37]];exact key op h;simp only[Dc,not_mem_nil,or_false,not_or] at h;have h2:ug op = -2:=by obtain⟨a1,a2,a3,a4,a5,a6,a7,a8,a9,rU,qU,a12,o9,l9,k9,Z8,Y8,X8,W8,a20⟩:=h;unfold ug;rw[zn λh=>h.elim a1 a2,zn λh=>h.elim a3 λh=>h.elim a4 a5,zn (show ¬ op=tg from a6),zn];unfold Fw;simp only[Dc,not_mem_nil,or_false,not_or];exact⟨a7,a8,a9,rU,qU,a12,o9,l9,k9,Z8,Y8,X8,W8,a20⟩
 rw[zp h2];obtain⟨a1,a2,a3,a4,a5,a6,a7,a8,a9,rU,qU,a12,o9,l9,k9,Z8,Y8,X8,W8,a20⟩:=h;unfold cd;simp only[GL.wb];rw[zn (Ne.symm a1),zn (Ne.symm a2),zn (Ne.symm a3),zn (Ne.symm a4),zn (Ne.symm a5),zn (Ne.symm a6),zn (Ne.symm a7),zn (Ne.symm a8),zn (Ne.symm a9),zn (Ne.symm rU),zn (Ne.symm qU),zn (Ne.symm a12),zn (Ne.symm o9),zn (Ne.symm l9),zn (Ne.symm k9),zn (Ne.symm Z8),zn (Ne.symm Y8),zn (Ne.symm X8),zn (Ne.symm W8),zn (Ne.symm a20)]
attribute [local irreducible] Ea kb ab ca Go.GL.Pure Ie pf ke LQ Rb oi Nj LS
section
variable{B0:Nat}{w0:World}{H:Heap}
theorem qnW(b:Bool)(nm:List UInt8)(e:Int):ca (KC B0 w0) 84 [bool b,str nm,int .i64 e] H (λr H'=>H'=H/\r=if b=true then .ret (.tuple []) else .panic (SF nm e)):=by
 refine jb Tryz.func84 rfl (n:=12) rfl rfl rfl ?_;refine xa ?_;refine Oa (λhc=>?_) λhc=>?_;have hb:b=false:=by simpa using hc
 subst hb;refine xa ?_;refine oS (ab.panic rfl λe' Na=>?_);exact ke.panic (Na.trans rfl) ob ⟨rfl,rfl⟩;have hb:b=true:=by simpa using hc
 subst hb;refine Aa ?_;exact rO rfl rN ob ⟨rfl,rfl⟩
theorem qmi(op:List UInt8):ca (KC B0 w0) 258 [str op] [] (Ub (int .i64 (ug op))):=by
 refine jb Tryz.func258 rfl (n:=15) rfl rfl rfl ?_;refine Ep ?_;refine oS (S.im λom=>oS (S.Od (m:=cd.take 0) (k:=[110,117,109]) (lv:=int .i64 (0)) (cd.take 1) rfl rfl rfl pH zk λc0=>?_));refine oS (S.Od (m:=cd.take 1) (k:=[118,97,114]) (lv:=int .i64 (0)) (cd.take 2) rfl rfl rfl pH zk λc1=>oS (S.Od (m:=cd.take 2) (k:=[101,108,101,109]) (lv:=int .i64 (1)) (cd.take 3) rfl rfl rfl pH zk λc2=>?_));refine oS (S.Od (m:=cd.take 3) (k:=[110,101,103]) (lv:=int .i64 (1)) (cd.take 4) rfl rfl rfl pH zk λc3=>oS (S.Od (m:=cd.take 4) (k:=[110,111,116]) (lv:=int .i64 (1)) (cd.take 5) rfl rfl rfl pH zk λc4=>?_));refine oS (S.Od (m:=cd.take 5) (k:=[99,97,108,108]) (lv:=int .i64 (-1)) (cd.take 6) rfl rfl rfl pH zk λc5=>oS (S.Od (m:=cd.take 6) (k:=[124,124]) (lv:=int .i64 (2)) (cd.take 7) rfl rfl rfl pH zk λc6=>?_));refine oS (S.Od (m:=cd.take 7) (k:=[38,38]) (lv:=int .i64 (2)) (cd.take 8) rfl rfl rfl pH zk λc7=>oS (S.Od (m:=cd.take 8) (k:=[61,61]) (lv:=int .i64 (2)) (cd.take 9) rfl rfl rfl pH zk λc8=>?_));refine oS (S.Od (m:=cd.take 9) (k:=[33,61]) (lv:=int .i64 (2)) (cd.take 10) rfl rfl rfl pH zk λc9=>oS (S.Od (m:=cd.take 10) (k:=[60]) (lv:=int .i64 (2)) (cd.take 11) rfl rfl rfl pH zk λc10=>?_));refine oS (S.Od (m:=cd.take 11) (k:=[62]) (lv:=int .i64 (2)) (cd.take 12) rfl rfl rfl pH zk λc11=>oS (S.Od (m:=cd.take 12) (k:=[60,61]) (lv:=int .i64 (2)) (cd.take 13) rfl rfl rfl pH zk λc12=>?_));refine oS (S.Od (m:=cd.take 13) (k:=[62,61]) (lv:=int .i64 (2)) (cd.take 14) rfl rfl rfl pH zk λc13=>oS (S.Od (m:=cd.take 14) (k:=[94]) (lv:=int .i64 (2)) (cd.take 15) rfl rfl rfl pH zk λc14=>?_));refine oS (S.Od (m:=cd.take 15) (k:=[43]) (lv:=int .i64 (2)) (cd.take 16) rfl rfl rfl pH zk λc15=>oS (S.Od (m:=cd.take 16) (k:=[45]) (lv:=int .i64 (2)) (cd.take 17) rfl rfl rfl pH zk λc16=>?_));refine oS (S.Od (m:=cd.take 17) (k:=[42]) (lv:=int .i64 (2)) (cd.take 18) rfl rfl rfl pH zk λc17=>oS (S.Od (m:=cd.take 18) (k:=[47]) (lv:=int .i64 (2)) (cd.take 19) rfl rfl rfl pH zk λc18=>?_));refine oS (S.Od (m:=cd.take 19) (k:=[37]) (lv:=int .i64 (2)) (cd.take 20) rfl rfl rfl pH zk λc19=>?_);refine Ea.Yb (H':=[(om,.map (Ve cd) c19)]) ob ?_;refine Aa ?_;have hg:=qxF op
 by_cases h0:ug op = -2;rw[zp h0] at hg;refine qa (Pure.vt rfl rfl xc (show GL.wb cd op=none from hg))<|xa ?_;refine oC rfl (λ_=>?_) (λhc=>by cases hc);refine Ak ?_;exact rR rfl (eb rfl) sd ⟨by rw[h0];rfl,rfl⟩;rw[zn h0] at hg;refine qa (Pure.bx rfl rfl xc (show GL.wb cd op=some (int .i64 (ug op)) from hg))<|xa ?_;refine oC rfl (λhc=>by cases hc) λ_=>?_;refine wa ?_;exact rR rfl (eb rfl) sd ⟨rfl,rfl⟩
theorem NW(s:List UInt8):ca (KC B0 w0) 154 [str s] [] (Ub (bool (kf s))):=by
 refine jb Tryz.func154 rfl (n:=65) rfl rfl rfl ?_;refine wa ?_;have uu:∀ (h:kf s=false) {e:Env} {C:Ctx} {n:Nat},e.ds=[]->e.s 2=bool false->ke C n [ResultVar.tmp 2] (Ub (bool (kf s))) .ret e []:=λh {e C n} hd he=>by rw[h];exact qb hd (rC (rT he ie) rN) rfl
 refine oB 7 rfl (λh1=>?_) λh1=>?_;have h0:s=[]:=zt h1;refine Aa ?_;refine oC rfl (λ_=>?_) (λhc=>by cases hc);refine Ak ?_;exact uu (by rw[h0];rfl) rfl rfl;have h0:s≠[]:=zf h1;refine Ra ?_;refine oB 12 rfl (λh2=>?_) λh2=>?_
 have hl:24<s.length:=by have:=zt h2;omega
 refine Aa ?_;refine oC rfl (λ_=>?_) (λhc=>by cases hc);refine Ak ?_;exact uu (by unfold kf;rw[decide_eq_false zo];rfl) rfl rfl;have hl:s.length<=24:=by have:=zf h2;omega
 refine Aa ?_;refine oB 16 rfl (λh3=>?_) λh3=>?_;have h4:s=[105,110]:=zt h3;refine Aa ?_;refine oC rfl (λ_=>?_) (λhc=>by cases hc);refine Ak ?_;exact uu (by rw[h4];rfl) rfl rfl;refine Aa ?_;refine oB 20 rfl (λh5=>?_) λh5=>?_;have h4:s=[111,117,116]:=zt h5;refine Aa ?_;refine oC rfl (λ_=>?_) (λhc=>by cases hc);refine Ak ?_;exact uu (by rw[h4];rfl) rfl rfl;refine Aa ?_;refine oS (sF [] rfl qhK ?_);refine Aa ?_;refine oS (sF [_,_] rfl (XW PE s ea) ?_);refine Aa ?_;have qH:=qtZ s;rw[h3,h5,Bool.or_false,Bool.or_false] at qH;refine Oa (λhk=>?_) λhk=>?_;have Dp:PE.contains s=true:=hk;refine Ak ?_
 exact uu (by
  unfold kf;rw[qH,Dp,Bool.not_true,Bool.and_false,wj]) rfl rfl
 have Dp:PE.contains s=false:=hk;rw[Dp] at qH;have yH:=qAc h0 hl qH;refine xa ?_;refine oL (λk ls H'=>∃ pre l1,s=pre++l1/\k=l1.length/\ls=[(0,str s),(26,int .i64 (s.length:Int)),(27,int .i64 (pre.length:Int))]/\H'=[]/\kf s=Gv pre.length l1)
  ⟨s.length,_,_,⟨[],s,rfl,rfl,rfl,rfl,yH⟩,Kb,bc _⟩ ?_
 rintro k ls H' ⟨pre,l1,ec,rfl,rfl,rfl,hI⟩ j hj;have oo:pre.length<=24:=by rw[ec,Ga] at hl;omega
 refine wh ?_;refine Oa (λhc=>?_) λhc=>?_;rotate_left;have ma:=zf hc;rw[ec,Ga] at ma
 obtain rfl:l1=[]:=by
  cases l1 with
  |nil=>rfl
  |cons a l2=>simp at ma;omega
 refine wa ?_;exact qb hj (eb rfl) (by rw[hI];rfl);have ma:=zt hc;rw[ec,Ga] at ma;obtain⟨a,l2,rfl⟩:∃ a l2,l1=a::l2:=by
  cases l1 with
  |nil=>simp at ma
  |cons a l2=>exact⟨a,l2,rfl⟩
 have lq:s[((pre.length:Nat):Int).toNat]? = some a:=by rw[Int.toNat_natCast,ec,List.getElem?_append_right (Pb _),Nat.sub_self];rfl
 rw[Gv] at hI;have next:∀ {e:Env} {ds:List Deferred} (h:(if pre.length=0 then Ml a else Si a)=true),e.ds=ds->e.s 0=str s->e.s 26=int .i64 (s.length:Int)->e.s 27=int .i64 ((pre.length:Int)+1)->AY (λk ls H'=>∃ pre l1,s=pre++l1/\k=l1.length/\ls=[(0,str s),(26,int .i64 (s.length:Int)),(27,int .i64 (pre.length:Int))]/\H'=[]/\kf s=Gv pre.length l1) (a::l2).length ds e []:=λ{e ds} h hd e0 e26 e27=>by rw[h,Bool.true_and] at hI;exact⟨l2.length,_,_,Nat.lt_succ_self _,⟨pre++[a],l2,by rw[ec];simp,rfl,rfl,rfl,by rw[hI,Ga];rfl⟩,⟨e0,e26,e27.trans (qf (by simp)),trivial⟩,bc _,hd⟩
 refine wa ?_;refine FF ?_;refine Ea.cut [(0,str s),(3,int .i64 (pre.length:Int)),(4,bool (Ml a)),(26,int .i64 (s.length:Int)),(27,int .i64 (pre.length:Int))] ?_ λj2 Gc=>?_;refine oB 34 rfl (λh6=>?_) λh6=>?_;refine Aa ?_;refine FF ?_;exact⟨⟨rfl,rfl,Re (by unfold Ml;rw[show decide (97<=cv a)=true from h6,Bool.true_and]),rfl,rfl,trivial⟩,rfl,rfl⟩;refine Aa ?_;exact⟨⟨rfl,rfl,Re (by unfold Ml;rw[show decide (97<=cv a)=false from h6,wj]),rfl,rfl,trivial⟩,rfl,rfl⟩;refine xa ?_;refine oB 42 rfl (λh7=>?_) λh7=>?_;rotate_left
 ·have EA:Ml a=true:=by simpa using h7
  refine Ra ?_;refine oC rfl (λhc=>by cases hc) λ_=>?_;refine wa ?_;refine next ?_ ?_ ?_ ?_ ?_
  rw[EA];unfold Si;rw[EA];split <;> rfl;exact Gc.trans hj;rfl;rfl;rfl
 have LB:Ml a=false:=by simpa using h7
 refine Aa ?_;refine oB 45 rfl (λh8=>?_) λh8=>?_;have cF:pre.length=0:=by have:=zt h8;omega
 refine Ra ?_;refine oC rfl (λ_=>?_) (λhc=>by cases hc);refine wa ?_;exact uu (by rw[hI,zp cF,LB,wj]) (Gc.trans hj) rfl;have cF:¬ pre.length=0:=by have:=zf h8;omega
 rw[zn cF] at hI;refine Aa ?_;refine FF ?_;refine oB 50 rfl (λh9=>?_) λh9=>?_;rotate_left
 ·have RX:decide (cv a=95)=true:=by simpa using h9
  refine Ra ?_;refine oC rfl (λhc=>by cases hc) λ_=>?_;refine wa ?_;refine next ?_ ?_ ?_ ?_ ?_
  rw[zn cF];unfold Si;rw[RX,Bool.or_true];exact Gc.trans hj;rfl;rfl;rfl
 have RX:decide (cv a=95)=false:=by simpa using h9
 refine Aa ?_;refine qa (pI (c:=a) rfl rfl zo lq)<|Aa ?_;refine oB 55 rfl (λfw=>?_) λfw=>?_
 have C8:decide (48<=cv a)=false:=by have:cv a<48:=zt fw;exact decide_eq_false zo
 refine Aa ?_;refine oC rfl (λ_=>?_) (λhc=>by cases hc);refine wa ?_;exact uu (by rw[hI];unfold Si qe;rw[LB,RX,C8];rfl) (Gc.trans hj) rfl;have C8:decide (48<=cv a)=true:=by have:¬ cv a<48:=zf fw;exact Dg zo
 refine Aa ?_;refine FF ?_;refine Oa (λRT=>?_) λRT=>?_
 have B8:decide (cv a<=57)=false:=by have:57<cv a:=zt RT;exact decide_eq_false zo
 refine wa ?_;exact uu (by rw[hI];unfold Si qe;rw[LB,RX,B8,Bool.and_false];rfl) (Gc.trans hj) rfl;have B8:decide (cv a<=57)=true:=by have:¬ 57<cv a:=zf RT;exact Dg zo
 refine wa ?_;refine next ?_ ?_ ?_ ?_ ?_;rw[zn cF];unfold Si qe;rw[C8,B8];simp;exact Gc.trans hj;rfl;rfl;rfl
end
structure KB where
 cb:Nat
 gm:Nat
 vm:Nat
 am:Nat
 fm:Nat
 om:Nat
 G:KV
 V:KV
 A:KV
 F:KV
 O:KV
 g1:Nat
 g2:Nat
 g3:Nat
 g4:Nat
 g5:Nat
 name:List UInt8
def xK(f:ye):LV:=.agg [int .i64 (f.params:Int),int .i64 (f.need:Int),int .i64 (f.depth:Int)]
structure XA(k:KB)(c:Cb):Prop where
 G:rp k.G c.globals
 V:rp k.V c.vars
 A:rp k.A c.ba
 O:rp k.O c.own
 F:∀ n,GL.wb k.F n=(c.fn n).map xK
def eg(k:KB)(d:Nat):Heap:=[(k.cb,.cells 120 [.atom (.map (some k.gm)),.atom (.map (some k.vm)),.atom (.map (some k.am)),.atom (.map (some k.fm)),str k.name,.atom (.map (some k.om)),int .i64 (d:Int)]),(k.gm,.map (Ve k.G) k.g1),(k.vm,.map (Ve k.V) k.g2),(k.am,.map (Ve k.A) k.g3),(k.fm,.map (Ve k.F) k.g4),(k.om,.map (Ve k.O) k.g5)]
def Iz(err:Int)(lv:LV)(H':Heap)(r:Pe)(H:Heap):Prop:=(err=0/\r=.ret lv/\H=H')∨(err≠0/\(∃ nm,r=.panic (SF nm err))/\H=[])
section
variable{C:Ctx}{n:Nat}{e:Env}{H:Heap}{dst:Option Nat}{ty:TypeId}{ra:String}{ua:Array Edge}{g:Option (Nat×Bool)}{K:LV->Heap->Prop}{X:List PanicEntry->Heap->Prop}
theorem sK{H1 F:Heap}{f:FuncId} [Wb C.P f](args:List Operand){nh:Array TypeId}{av:List LV}(has:args.map e.ev=av)(hp:H.Perm (H1++F))
  (hc:ca C f av H1 (Iz err lv H')) (hk:err=0->K lv (H'++F)) (hx:∀ nm,err≠0->X (SF nm err) F):ab C ⟨dst,.call { callee:=.value (.func f),args:=args.toArray,argTypes:=nh },ty,ra,ua,g⟩ e H K X:=by
 refine S.Uc args has hp hc ?_ ?_;rintro v H2 (⟨h1,h2,rfl⟩|⟨_,⟨nm,h2⟩,_⟩);cases h2;exact hk h1;cases h2;rintro ch H2 (⟨_,h2,_⟩|⟨h1,⟨nm,h2⟩,rfl⟩);cases h2;cases h2;exact hx nm h1
theorem ab.Dm{f:FuncId} [Wb C.P f](args:List Operand){nh:Array TypeId}{av:List LV}(has:args.map e.ev=av)
  (hc:ca C f av H (Iz err lv H')) (hk:err=0->K lv H') (hx:∀ nm,err≠0->X (SF nm err) []):ab C ⟨dst,.call { callee:=.value (.func f),args:=args.toArray,argTypes:=nh },ty,ra,ua,g⟩ e H K X:=by
 refine ab.qd (sK (F:=[]) (K:=λlv H'=>K lv H') (X:=X) args has (by rw[ue]) hc (λh=>by rw[ue];exact hk h) hx) λlv H' h=>⟨lv,H',vR _,bc _,h⟩
theorem gn{vs:List LV}(hd:e.ds=[])(h:tn C n e H rs vs)(he:err=0)(hv:Oh vs=lv)(hH:HSub H' H):ke C n rs (Iz err lv H') .ret e H:=
 rR hd h hH (.inl ⟨he,by rw[hv],rfl⟩)
theorem zY{vs:List LV}(hd:e.ds=[])(h:tn C n e H rs vs)(he:err=0)(hv:Oh vs=lv)(hH:HSub H' H):ke C n rs (Iz err lv H') .normal e H:=
 rO hd h hH (.inl ⟨he,by rw[hv],rfl⟩)
theorem Zf{er:Int}{nm:List UInt8}(hd:e.ds=[])(he:err=er)(h0:er≠0):ke C n rs (Iz err lv H') (.panic (SF nm er)) e H:=
 ke.panic hd sd (.inr ⟨by rw[he];exact h0,⟨nm,by rw[he]⟩,rfl⟩)
end
variable{B0:Nat}{w0:World}
theorem Ug(b:Bool)(nm:List UInt8)(er:Int)(h0:er≠0):ca (KC B0 w0) 84 [bool b,str nm,int .i64 er] [] (Iz (if b=true then 0 else er) (.tuple []) []):=
 ca.mono (qnW b nm er) λr H ⟨h1,h2⟩=>by
  cases b with
  |true=>exact .inl ⟨rfl,h2,h1⟩
  |false=>exact .inr ⟨h0,⟨nm,h2⟩,h1⟩
theorem UN{k:KB}(hk:XA k c)(d:Nat)(name:List UInt8):ca (KC B0 w0) 230 [ptr k.cb 0,str name] (eg k d) (Iz (du c name) (.tuple []) (eg k d)):=by generalize hI:du c name=E;unfold du at hI;refine jb Tryz.func230 rfl (n:=34) rfl rfl rfl ?_;refine wa ?_;refine qa (Pure.Jg rfl rfl YB hk.V) ?_;have both:∀ {e:Env} {Q:Vc} {Sa:Array Oper} {rest:List Oper} {n:Nat},True:=λ{_ _ _ _ _}=>trivial;refine oB 10 rfl (λh1=>?_) λh1=>?_;have Og:name∈c.vars∨name∈c.own:=.inl (zt h1);refine wa ?_;refine oS (sK (H1:=[]) (F:=eg k d) [_,_,_] rfl dc (Ug true name 10 ea) (λ_=>?_) λnm h=>absurd rfl h);refine Xi ?_;refine oS (sK (H1:=[]) (F:=eg k d) [_,_,_] rfl dc (Ug true name 7 ea) (λ_=>?_) λnm h=>absurd rfl h);refine Ad ?_;exact zY rfl rN (by rw[<-hI,zp Og]) rfl ob;have hv:name ∉ c.vars:=zf h1;refine Aa ?_;refine qa (Pure.Jg rfl rfl zU hk.O)<|oB 17 rfl (λh2=>?_) λh2=>?_;have Og:name∈c.vars∨name∈c.own:=.inr (zt h2);refine wa ?_;refine oS (sK (H1:=[]) (F:=eg k d) [_,_,_] rfl dc (Ug true name 10 ea) (λ_=>?_) λnm h=>absurd rfl h);refine Xi ?_;refine oS (sK (H1:=[]) (F:=eg k d) [_,_,_] rfl dc (Ug true name 7 ea) (λ_=>?_) λnm h=>absurd rfl h);refine Ad ?_;exact zY rfl rN (by rw[<-hI,zp Og]) rfl ob;have ho:name ∉ c.own:=zf h2;rw[zn (λh=>h.elim hv ho)] at hI;refine wa ?_;refine qa (Pure.Jg rfl rfl Xh hk.G)<|oB 26 rfl (λh3=>?_) λh3=>?_;rw[zp (zt h3)] at hI;refine Ra ?_;refine oS (sK (H1:=[]) (F:=eg k d) [_,_,_] rfl dc (Ug false name 10 ea) (λh=>absurd h ea) λnm _ e' Na=>?_);refine Yi ?_;exact Zf (Na.trans rfl) (by rw[<-hI];rfl) ea;rw[zn (zf h3)] at hI;refine Ra ?_;refine oS (sK (H1:=[]) (F:=eg k d) [_,_,_] rfl dc (Ug true name 10 ea) (λ_=>?_) λnm h=>absurd rfl h);refine Xi ?_;refine oS (sK (H1:=[]) (F:=eg k d) [_,_,_] rfl dc (Ug false name 7 ea) (λh=>absurd h ea) λnm _ e' Na=>?_);exact Zf (Na.trans rfl) (by rw[<-hI];rfl) ea
theorem AR{k:KB}(hk:XA k c)(d:Nat)(name:List UInt8):ca (KC B0 w0) 231 [ptr k.cb 0,str name] (eg k d) (Iz (Xz c name) (.tuple []) (eg k d)):=by generalize hI:Xz c name=E;unfold Xz at hI;refine jb Tryz.func231 rfl (n:=35) rfl rfl rfl ?_;refine wa ?_;refine qa (Pure.Jg rfl rfl VO hk.A)<|oB 10 rfl (λh1=>?_) λh1=>?_;refine xa ?_;refine oS (sK (H1:=[]) (F:=eg k d) [_,_,_] rfl dc (Ug true name 10 ea) (λ_=>?_) λnm h=>absurd rfl h);refine Xi ?_;refine oS (sK (H1:=[]) (F:=eg k d) [_,_,_] rfl dc (Ug true name 7 ea) (λ_=>?_) λnm h=>absurd rfl h);refine Ad ?_;exact zY rfl rN (by rw[<-hI,zp (zt h1)]) rfl ob;rw[zn (zf h1)] at hI;refine wa ?_;refine qa (Pure.Jg rfl rfl Xh hk.G)<|oB 18 rfl (λh2=>?_) λh2=>?_;have Og:name∈c.globals∨name∈c.own:=.inl (zt h2);refine Ra ?_;refine oS (sK (H1:=[]) (F:=eg k d) [_,_,_] rfl dc (Ug false name 10 ea) (λh=>absurd h ea) λnm _ e' Na=>?_);refine Yi ?_;exact Zf (Na.trans rfl) (by rw[<-hI,zp Og];rfl) ea;refine Ra ?_;refine qa (Pure.Jg rfl rfl zU hk.O)<|oB 26 rfl (λh3=>?_) λh3=>?_;have Og:name∈c.globals∨name∈c.own:=.inr (zt h3);refine Ra ?_;refine oS (sK (H1:=[]) (F:=eg k d) [_,_,_] rfl dc (Ug false name 10 ea) (λh=>absurd h ea) λnm _ e' Na=>?_);refine Yi ?_;exact Zf (Na.trans rfl) (by rw[<-hI,zp Og];rfl) ea;rw[zn (λh=>h.elim (zf h2) (zf h3))] at hI;refine Ra ?_;refine oS (sK (H1:=[]) (F:=eg k d) [_,_,_] rfl dc (Ug true name 10 ea) (λ_=>?_) λnm h=>absurd rfl h);refine Xi ?_;refine oS (sK (H1:=[]) (F:=eg k d) [_,_,_] rfl dc (Ug false name 7 ea) (λh=>absurd h ea) λnm _ e' Na=>?_);exact Zf (Na.trans rfl) (by rw[<-hI];rfl) ea
@[reducible] def iv(n:Nat):LV:=int .i64 (n:Int)
theorem qsC{k:KB}(hk:XA k c){B D:Nat}(hB:nu B D c.funcs)(vM:B<=100000000)(YD:D<=100000000)(d:Nat)(hd:d<=1000000000)(name:List UInt8)(ns:List Nat)(hl:ns.length<=2000000)(VL:∀ n∈ns,n<=1000000000) :
  ca (KC B0 w0) 259 [ptr k.cb 0,str name,.list (ns.map iv)] (eg k d) (Iz (Qc c name ns.length) (iv (aB c name ns)) (eg k (max d (Qv c tg name)))):=by
 generalize hI:Qc c name ns.length=E;generalize hN:aB c name ns=N;generalize Oj:Qv c tg name=DD;unfold Qc at hI;unfold aB at hN;unfold Qv at Oj;have fF:(ns.map iv).length=ns.length:=Mb _;refine jb Tryz.func259 rfl (n:=110) rfl rfl rfl ?_;refine wa ?_;by_cases Og:name=[105,110];rw[zp Og] at hI hN;rw[zn (λh=>h.2.1 Og)] at Oj;subst Oj;refine oC rfl (λ_=>?_) λhc=>absurd Og (zf hc);refine wa ?_;refine oS (sK (H1:=[]) (F:=eg k d) [_,_,_] rfl dc (Ug (decide (((ns.map iv).length:Int)=0)) name 1 ea) (λh=>?_) λnm h e' Na=>?_)
 have h0:ns.length=0:=by by_cases h1:((ns.map iv).length:Int)=0;omega;rw[decide_eq_false h1] at h;cases h
 refine wa ?_;exact gn rfl (eb rfl) (by rw[<-hI,zp h0]) (by rw[<-hN];rfl) (by rw[max_zero];exact bc _);have h0:¬ ns.length=0:=by intro h1;rw[Dg (show((ns.map iv).length:Int)=0 by omega)] at h;exact h rfl
 rw[show(if decide (((ns.map iv).length:Int)=0)=true then (0:Int) else 1)=1 by rw[zn];simp only[Rg];omega];refine Zd ?_;exact Zf (Na.trans rfl) (by rw[<-hI,zn h0]) ea;rw[zn Og] at hI hN;refine oC rfl (λhc=>absurd (zt hc) Og) λ_=>?_;refine Mn ?_
 by_cases zg:name=[111,117,116];rw[zp zg] at hI hN;rw[zn (λh=>h.2.2 zg)] at Oj;subst Oj;refine oC rfl (λ_=>?_) λhc=>absurd zg (zf hc);refine wa ?_;refine oS (sK (H1:=[]) (F:=eg k d) [_,_,_] rfl dc (Ug (decide (((ns.map iv).length:Int)=1)) name 1 ea) (λh=>?_) λnm h e' Na=>?_)
 have h0:ns.length=1:=by by_cases h1:((ns.map iv).length:Int)=1;omega;rw[decide_eq_false h1] at h;cases h
 obtain⟨a,l,rfl⟩:∃ a l,ns=a::l:=by
  cases ns with
  |nil=>simp at h0
  |cons a l=>exact⟨a,l,rfl⟩
 refine wa ?_;refine qa (xR (Ud:=iv a) (cs:=[iv a]) rfl rfl zo rfl rfl rfl)<|Ra ?_;exact gn rfl (eb rfl) (by rw[<-hI,zp h0]) (by rw[<-hN];rfl) (by rw[max_zero];exact bc _);have h0:¬ ns.length=1:=by intro h1;rw[Dg (show((ns.map iv).length:Int)=1 by omega)] at h;exact h rfl
 rw[show(if decide (((ns.map iv).length:Int)=1)=true then (0:Int) else 1)=1 by rw[zn];simp only[Rg];omega];refine Zd ?_;exact Zf (Na.trans rfl) (by rw[<-hI,zn h0]) ea;rw[zn zg] at hI hN;rw[zp ⟨rfl,Og,zg⟩] at Oj;refine oC rfl (λhc=>absurd (zt hc) zg) λ_=>?_;refine wa ?_;have hF:=hk.F name
 cases ed:c.fn name with
 |none=>
  rw[ed] at hI hF;refine qa (Pure.vt rfl rfl AU hF)<|Ra ?_;refine oS (Sd λb7=>?_);refine xa ?_;refine qa (Pure.Jg rfl rfl VO hk.V)<|oB 46 rfl (λh2=>?_) λh2=>?_;have nq:name∈c.vars∨name∈c.ba∨name∈c.own:=.inl (zt h2);refine Ra ?_;refine oS (sK (H1:=[]) (F:=_::eg k d) [_,_,_] rfl dc (Ug false name 10 ea) (λh=>absurd h ea) λnm _ e' Na=>?_);refine Yi ?_;exact Zf (Na.trans rfl) (by rw[<-hI];exact zp nq) ea;refine Ra ?_;refine qa (Pure.Jg rfl rfl AU hk.A)<|oB 54 rfl (λh3=>?_) λh3=>?_;have nq:name∈c.vars∨name∈c.ba∨name∈c.own:=.inr (.inl (zt h3));refine Ra ?_;refine oS (sK (H1:=[]) (F:=_::eg k d) [_,_,_] rfl dc (Ug false name 10 ea) (λh=>absurd h ea) λnm _ e' Na=>?_);refine Yi ?_;exact Zf (Na.trans rfl) (by rw[<-hI];exact zp nq) ea;refine Ra ?_;refine qa (Pure.Jg rfl rfl r9 hk.O)<|oB 63 rfl (λh4=>?_) λh4=>?_;have nq:name∈c.vars∨name∈c.ba∨name∈c.own:=.inr (.inr (zt h4));refine Ra ?_;refine oS (sK (H1:=[]) (F:=_::eg k d) [_,_,_] rfl dc (Ug false name 10 ea) (λh=>absurd h ea) λnm _ e' Na=>?_);refine Yi ?_;exact Zf (Na.trans rfl) (by rw[<-hI];exact zp nq) ea;refine Ra ?_;refine oS (sK (H1:=[]) (F:=_::eg k d) [_,_,_] rfl dc (Ug true name 10 ea) (λ_=>?_) λnm h=>absurd rfl h);refine Xi ?_;refine oS (sK (H1:=[]) (F:=_::eg k d) [_,_,_] rfl dc (Ug false name 7 ea) (λh=>absurd h ea) λnm _ e' Na=>?_);refine Yi ?_
  exact Zf (Na.trans rfl) (by rw[<-hI];exact zn λh=>h.elim (zf h2) λh=>h.elim (zf h3) (zf h4)) ea
 |some f=>
  rw[ed] at hI hF hN Oj;have E7:=hB f (List.mem_of_find?_eq_some ed);refine qa (Pure.bx rfl rfl AU hF)<|Ra ?_;refine oS (Sd λb7=>?_);refine xa ?_;refine oS (sK (H1:=[]) (F:=_::eg k d) [_,_,_] rfl dc (Ug true name 10 ea) (λ_=>?_) λnm h=>absurd rfl h);refine Xi ?_;refine oS (sK (H1:=[]) (F:=_::eg k d) [_,_,_] rfl dc (Ug true name 7 ea) (λ_=>?_) λnm h=>absurd rfl h);refine wa ?_
  by_cases h0:ns.length=f.params;rotate_left;have HJ:¬ ((ns.map iv).length:Int)=(f.params:Int):=by omega
  refine oB 76 rfl (λh=>absurd (zt h) HJ) λ_=>?_;refine oS (sK (H1:=[]) (F:=_::eg k d) [_,_,_] rfl dc (Ug false name 1 ea) (λh=>absurd h ea) λnm _ e' Na=>?_);refine Yi ?_;exact Zf (Na.trans rfl) (by rw[<-hI];exact zn h0) ea;have HJ:((ns.map iv).length:Int)=(f.params:Int):=by omega
  refine oB 76 rfl (λ_=>?_) λh=>absurd HJ (zf h);have hI0:E=0:=by rw[<-hI];exact zp h0
  refine oS (sK (H1:=[]) (F:=_::eg k d) [_,_,_] rfl dc (Ug true name 1 ea) (λ_=>?_) λnm h=>absurd rfl h);refine Aa ?_;refine cD (m:=12) rfl [(b7,.cells 174 [iv f.params,iv f.need,iv f.depth])]<|VJ ?_;refine aT 7 rfl rfl (Pure.add rfl rfl zo)<|aL ?_ Gd;refine lO 4 (lH rfl rfl (pL (c:=iv d) rfl Xh rfl) ?_);refine lO 8 (lH rfl rfl (Pure.ck d (f.depth+1) rfl rfl zo zo) ?_);refine lO 9 (lH rfl rfl (pN rfl) ?_);refine lO 10 (lH rfl rfl (pF rfl) ?_);refine lO 11 (lS (H1:=[(k.cb,.cells 120 [.atom (.map (some k.gm)),.atom (.map (some k.vm)),.atom (.map (some k.am)),.atom (.map (some k.fm)),str k.name,.atom (.map (some k.om)),int .i64 (d:Int)])]) rfl (.inl rfl) rfl (show xd _ _ _ from pT pH) Gd (sS (n:=1) (Zb:=[_,_,_,_,_,_,iv (max d (f.depth+1))]) rfl pH rfl rfl rfl rfl rfl ?_));refine lD zk ?_;have fM:max d DD=max d (f.depth+1):=by rw[<-Oj]
  rw[fM];refine qN ?_;refine kb.perm (H':=(b7,.cells 174 [iv f.params,iv f.need,iv f.depth])::eg k (max d (f.depth+1))) (yq _ _ _) ?_;refine wa ?_;refine qa (Pure.ck (f.params+1) f.need rfl rfl zo zo)<|wa ?_;refine oL (λkk ls H'=>∃ (pre l1:List Nat) (m:Nat),ns=pre++l1/\kk=l1.length/\ls=[(9,iv m),(96,.list (ns.map iv)),(97,int .i64 ((ns.map iv).length:Int)),(98,iv pre.length)]/\H'=eg k (max d (f.depth+1))/\Mz pre.length l1 m=N)
   ⟨ns.length,_,_,⟨[],ns,max (f.params+1) f.need,rfl,rfl,rfl,rfl,hN⟩,Kb,Yg ob⟩ ?_
  rintro kk ls H' ⟨pre,l1,m,ec,rfl,rfl,rfl,hS⟩ j hj;have oo:pre.length<=2000000:=by rw[ec,Ga] at hl;omega
  refine wh ?_;refine Oa (λhc=>?_) λhc=>?_;have ma:=zt hc;rw[Mb,ec,Ga] at ma
  obtain⟨a,l2,rfl⟩:∃ a l2,l1=a::l2:=by
   cases l1 with
   |nil=>simp at ma
   |cons a l2=>exact⟨a,l2,rfl⟩
  have ha:a<=1000000000:=VL a (by rw[ec];exact List.mem_append_right _ Qe);rw[Mz] at hS;refine wa ?_;refine qa (xR (Ud:=iv a) (cs:=[iv a]) rfl rfl zo (by rw[ec];exact de iv pre a l2) rfl rfl)<|xa ?_;refine qa (Pure.ck m (pre.length+a) rfl rfl zo zo)<|wa ?_;exact⟨l2.length,_,_,Nat.lt_succ_self _,⟨pre++[a],l2,max m (pre.length+a),by rw[ec];simp,rfl,rfl,rfl,by rw[Ga];exact hS⟩,⟨rfl,rfl,rfl,qf (by simp),trivial⟩,bc _,hj⟩;have ma:=zf hc;rw[Mb,ec,Ga] at ma;obtain rfl:l1=[]:=by
   cases l1 with
   |nil=>rfl
   |cons a l2=>simp at ma;omega
  rw[Mz] at hS;refine wa ?_;exact gn hj (eb rfl) hI0 (by rw[<-hS];rfl) ob
theorem qra{x y:Nat×ja}:List.Perm (x::y::(A++B)) (A++(x::y::B)):=by have h:List.Perm (([x,y]++A)++B) ((A++[x,y])++B):=Lh.append_right B;rw[Yc A] at h;exact h
theorem R2{x:Nat×ja}:List.Perm (x::(A++B)) (A++(x::B)):=by have h:List.Perm (([x]++A)++B) ((A++[x])++B):=Lh.append_right B;rw[Yc A] at h;exact h
theorem qAl{x y:Nat×ja}:List.Perm (A++(x::y::B)) (B++(x::y::A)):=by refine qra.symm.trans ?_;exact(Lh (l₁:=x::y::A) (l₂:=B))
theorem qAQ(n:Nat):∀ v∈[iv n],v.cells.length=1:=λv hv=>by rw[aj hv];rfl
theorem D3(c:Cb):∀ l:List Ex,(zh c l).length=l.length
 |[]=>rfl
 |x::l=>by rw[zh,Ma,Ma,D3 c l]
theorem qlz(c:Cb)(x:Ex):∀ l:List Ex,zh c (l++[x])=zh c l++[Sf c x]
 |[]=>rfl
 |y::l=>by show zh c (y::(l++[x]))=_;rw[zh,qlz c x l,zh];rfl
theorem qog(c:Cb)(x:Ex):∀ l:List Ex,Qi c (l++[x])=max (Qi c l) (Hj c x)
 |[]=>by show max (Hj c x) 0=max 0 (Hj c x);omega
 |y::l=>by show Qi c (y::(l++[x]))=_;rw[Qi,qog c x l,Qi,Nat.max_assoc]
theorem qle{c:Cb}{B D:Nat}(hB:nu B D c.funcs):∀ {l:List Ex} {n:Nat},n∈zh c l->n<=4 * Vb l+B
 |[],n,h=>by rw[zh] at h;cases h
 |x::l,n,h=>by rw[zh] at h;rw[Vb];rcases Dc.1 h with rfl|h;have:=HN B D c hB x;omega;have:=qle hB h;omega
def qBf(B0:Nat)(w0:World)(k:KB)(c:Cb)(n:Nat):Prop:=∀ (x:Ex) (d:Nat),Zl x<=n->d<=200000000->ca (KC B0 w0) 229 [ptr k.cb 0,Ab x] (eg k d) (Iz (Gf c x) (iv (Sf c x)) (eg k (max d (Hj c x))))
theorem QK{k:KB}{c:Cb}(hk:XA k c){B D:Nat}(hB:nu B D c.funcs)(vM:B<=100000000)(YD:D<=100000000):∀ n:Nat,n<=2000000->qBf B0 w0 k c n
 |0,_=>λx d h _=>by have:=wV x;omega
 |n+1,hn6=>by
  have ih:=QK hk hB vM YD n zo;intro x d Bh hd;obtain⟨op,num,name,args⟩:=x;rw[Zl] at Bh;have TD:=GN args;have Tf:(args.map Ab).length=args.length:=Mb _;generalize hI:Gf c (Ex.mk op num name args)=E;rw[Gf] at hI;rw[Sf,Hj];rw[GC];refine jb Tryz.func229 rfl (n:=121) rfl rfl rfl ?_;refine Xe ?_;refine oS (sB rfl λb3=>?_);refine wa ?_;refine oS (sF [_] rfl (qmi op) ?_);refine Aa ?_;refine cM (A:=Unit) (λ_=>[(0,ptr k.cb 0),(3,ptr b3 0)]) (λ_=>(b3,.cells 219 [str op,int .u32 (num:Int),str name,.list (args.map Ab)])::eg k d) (λ_=>ug op = -1∨ug op=args.length) ?_ λ_ ld j hj=>?_;refine cD (m:=14) rfl [(b3,.cells 219 [str op,int .u32 (num:Int),str name,.list (args.map Ab)]),(k.cb,.cells 120 [.atom (.map (some k.gm)),.atom (.map (some k.vm)),.atom (.map (some k.am)),.atom (.map (some k.fm)),str k.name,.atom (.map (some k.om)),int .i64 (d:Int)])]<|aT 0 rfl rfl (Cc (lv:=.atom _) rfl) ?_
  by_cases h1:ug op = -1;refine Rb.take (i:=1) (Fc pH Gd) rfl zk zk zk rfl (Pure.XT h1 rfl rfl)<|qw ?_;refine vP ?_;refine Rb.Ai (i:=7) rfl rfl rfl rfl zk zk zk rfl<|aT 8 rfl rfl (Pure.Wp (lv:=.atom _) rfl rfl)<|aK ?_;refine lO 13 (lS (H1:=[]) rfl (.inl rfl) rfl dc (Fc pH Gd) (ab.Dm [_,_,_] rfl (Ug true k.name 3 ea) (λ_=>?_) λnm h=>absurd rfl h));refine lD zk ?_;refine qN ?_;exact⟨(),.inl h1,Kb,bc _,rfl⟩;refine Rb.take (i:=1) (Fc pH Gd) rfl zk zk zk rfl (Pure.YT h1 rfl rfl)<|qw ?_;refine Rb.su 3 rfl rfl rfl rfl (Cc (lv:=.atom _) rfl)<|Rb.su 4 rfl rfl rfl rfl (pF rfl)<|Rb.su 5 rfl rfl rfl rfl (pL (c:=.list _) rfl xc rfl)<|Rb.su 6 rfl rfl rfl rfl (Pure.Ro rfl) ?_
  by_cases h2:ug op=args.length;refine Rb.Ip (i:=7) (Fc pH Gd) rfl rfl rfl zk zk zk rfl (Pure.XT (show ug op=((args.map Ab).length:Int) by rw[Tf];exact h2) rfl rfl)<|aT 8 rfl rfl (Pure.Yl (lv:=.atom _) rfl rfl)<|aK ?_;refine lO 13 (lS (H1:=[]) rfl (.inl rfl) rfl dc (Fc pH Gd) (ab.Dm [_,_,_] rfl (Ug true k.name 3 ea) (λ_=>?_) λnm h=>absurd rfl h));refine lD zk ?_;refine qN ?_;exact⟨(),.inr h2,Kb,bc _,rfl⟩;refine Rb.Ip (i:=7) (Fc pH Gd) rfl rfl rfl zk zk zk rfl (Pure.YT (show ¬ ug op=((args.map Ab).length:Int) by rw[Tf];exact h2) rfl rfl)<|aT 8 rfl rfl (Pure.Yl (lv:=.atom _) rfl rfl)<|aK ?_;refine lO 13 (lS (H1:=[]) rfl (.inl rfl) rfl dc (Fc pH Gd) (ab.Dm [_,_,_] rfl (Ug false k.name 3 ea) (λh=>absurd h ea) λnm _ e' Na=>?_));refine Yi ?_;exact Zf (Na.trans rfl) (by rw[<-hI,zn (λh=>h.elim h1 h2)];rfl) ea;rw[zp ld] at hI;refine xa ?_
  refine oL (λkk ls H'=>∃ (pre l1:List Ex) (v:LV) (Ha:Heap),args=pre++l1/\kk=l1.length/\ls=[(0,ptr k.cb 0),(3,ptr b3 0),(6,v),(29,.list (args.map Ab)),(30,int .i64 ((args.map Ab).length:Int)),(31,int .i64 (pre.length:Int))] /\
    H'=(b3,.cells 219 [str op,int .u32 (num:Int),str name,.list (args.map Ab)])::(eg k (max d (Qi c pre))++Ha)/\GL.Acc 1 v ((zh c pre).map iv) Ha []/\ej (vg c l1) (yz c op name args.length)=E)
   ⟨args.length,_,_,⟨[],args,fc,[],rfl,rfl,rfl,rfl,Acc.nil,hI⟩,Kb,⟨[],by
    rw[ue,ue,Qi,max_zero]⟩⟩ ?_
  rintro kk ls H' ⟨pre,l1,v,Ha,ec,rfl,rfl,rfl,Eb,EH⟩ j2 Gc;have oo:pre.length<=2000000:=by have:=congrArg List.length ec;rw[Ga] at this;omega
  have hdp:max d (Qi c pre)<=200000000:=by have:=dR B D c hB pre;omega
  refine wh ?_;refine Oa (λhc=>?_) λhc=>?_;have ma:=zt hc;rw[Mb,ec,Ga] at ma
  obtain⟨a,l2,rfl⟩:∃ a l2,l1=a::l2:=by
   cases l1 with
   |nil=>simp at ma
   |cons a l2=>exact⟨a,l2,rfl⟩
  have SD:Zl a<=Vb args:=Y0 (by rw[ec];exact List.mem_append_right _ Qe);rw[vg] at EH;refine Zi ?_;refine qa (xR (Ud:=Ab a) (cs:=[_,_,_,_]) rfl rfl zo (by rw[ec];exact de Ab pre a l2) rfl rfl)<|Ra ?_;refine oS (Sd λb8=>?_);refine xa ?_;refine qu ?_;refine Ra ?_;refine oS (sK [_,_] rfl qra (ih a _ zo hdp) (λh0=>?_) λnm h0 e' Na=>?_);rw[h0] at EH;refine oS (sL (es:=[iv (Sf c a)]) [_] rfl (Qd rfl rfl pj) rfl rfl rfl<|oS (sG qAl rfl Eb rfl (qAQ _) rfl (by rw[Mb,D3,Ma,qc];omega) λv' Ha' Ob=>?_));refine Ql ?_;refine zm ?_
  exact⟨l2.length,_,_,Nat.lt_succ_self _,⟨pre++[a],l2,v',Ha',by rw[ec];simp,rfl,rfl,rfl,by rw[qlz,Te];exact Ob,by rw[<-EH];rfl⟩,⟨rfl,rfl,rfl,rfl,rfl,qf (by simp),trivial⟩,by
   rw[qog,<-Nat.max_assoc];exact Yg ob,Gc⟩
  refine Zd ?_;exact Zf ((Na.trans Gc).trans hj) (by rw[<-EH];unfold ej;rw[zp h0,zp h0]) h0;have ma:=zf hc;rw[Mb,ec,Ga] at ma;obtain rfl:l1=[]:=by
   cases l1 with
   |nil=>rfl
   |cons a l2=>simp at ma;omega
  rw[ue] at ec;subst ec;have qM:yz c op name args.length=E:=by rw[<-EH];rfl
  have Ft:j2.ds=[]:=Gc.trans hj;generalize Lr:max d (Qi c args)=d1 at hdp ⊢;have fM:max d (max (Qi c args) (Qv c op name))=max d1 (Qv c op name):=by rw[<-Lr,Nat.max_assoc]
  rw[fM];generalize VL:zh c args=ns at Eb ⊢;have Ir:ns.length=args.length:=by rw[<-VL,D3]
  have WL:∀ m∈ns,m<=1000000000:=λm hm=>by rw[<-VL] at hm;have:=qle hB hm;omega
  have um:=Eb.elems;refine wa ?_;have Ek:∀ (nd:LV) {e:Env} {H:Heap},E=0->e.ds=[]->e.s 4=nd->HSub (eg k d1) H->Qv c op name=0->iv (UC c op name ns)=nd->ke (KC B0 w0) 121 [ResultVar.tmp 4] (Iz E (iv (UC c op name ns)) (eg k (max d1 (Qv c op name)))) .ret e H:=λnd {e H} h0 hd he hH It hn=>by rw[It,max_zero];exact gn hd (rC (rT he ie) rN) h0 hn.symm hH
  have Jt:¬ op=tg->Qv c op name=0:=λh=>by unfold Qv;rw[zn (λh2=>h h2.1)]
  have sM:¬ op=bg->¬ op=Vj->¬ op=tg->E=0:=λa1 a2 a3=>by rw[<-qM];unfold yz;rw[zn a1,zn a2,zn a3]
  have HS:HSub (eg k d1) ((b3,.cells 219 [str op,int .u32 (num:Int),str name,.list (args.map Ab)])::(eg k d1++Ha)):=Yg uG;by_cases h1:op=[110,117,109];refine oC rfl (λ_=>?_) λhc=>absurd h1 (zf hc);refine wa ?_;refine Ek (iv 1) ?_ ?_ ?_ ?_ ?_ ?_;subst h1;exact sM ea ea ea;exact Ft;rfl;exact HS;subst h1;exact Jt ea;subst h1;rfl;refine oC rfl (λhc=>absurd (zt hc) h1) λ_=>?_;refine Mn ?_
  by_cases h2:op=[118,97,114];refine oC rfl (λ_=>?_) λhc=>absurd h2 (zf hc);have ew:du c name=E:=by rw[<-qM];subst h2;rfl
  refine wa ?_;refine oS (sK [_,_] rfl R2 (UN hk d1 name) (λh0=>?_) λnm h0 e' Na=>?_);rw[ew] at h0;refine wa ?_;refine Ek (iv 1) h0 ?_ ?_ ?_ ?_ ?_;exact Ft;rfl;exact uG;subst h2;exact Jt ea;subst h2;rfl;refine Zd ?_;exact Zf (Na.trans Ft) ew.symm h0;refine oC rfl (λhc=>absurd (zt hc) h2) λ_=>?_;refine Mn ?_
  by_cases h3:op=[101,108,101,109];refine oC rfl (λ_=>?_) λhc=>absurd h3 (zf hc);have ew:Xz c name=E:=by rw[<-qM];subst h3;rfl
  obtain⟨n0,rfl⟩:∃ n0,ns=[n0]:=by
   have h9:ns.length=1:=by rcases ld with h|h;subst h3;exact absurd h ea;subst h3;have h9:(1:Int)=(args.length:Int):=h;omega
   cases ns with
   |nil=>cases h9
   |cons a l=>
    cases l with
    |nil=>exact⟨a,rfl⟩
    |cons b l=>simp at h9
  have Zu:=WL n0 Qe;refine wa ?_;refine oS (sK [_,_] rfl R2 (AR hk d1 name) (λh0=>?_) λnm h0 e' Na=>?_);rw[ew] at h0;refine wh ?_;refine WJ ?_;refine Ek (int .i64 (1+(n0:Int))) h0 ?_ ?_ ?_ ?_ ?_;exact Ft;rfl;exact uG;subst h3;exact Jt ea;subst h3;exact qf (show((1+n0:Nat):Int)=_ by omega);refine Zd ?_;exact Zf (Na.trans Ft) ew.symm h0;refine oC rfl (λhc=>absurd (zt hc) h3) λ_=>?_;refine Mn ?_
  by_cases h4:op=[99,97,108,108];refine oC rfl (λ_=>?_) λhc=>absurd h4 (zf hc);have ew:Qc c name ns.length=E:=by rw[<-qM,Ir];subst h4;rfl
  have hN4:UC c op name ns=aB c name ns:=by subst h4;rfl
  have KT:Qv c op name=Qv c tg name:=by subst h4;rfl
  refine wa ?_;refine qu ?_;refine Ea.sub 67 rfl Eb.sub ?_;refine oS (sK [_,_,_] rfl R2 (qsC hk hB vM YD d1 zo name ns zo WL) (λh0=>?_) λnm h0 e' Na=>?_);rw[ew] at h0;refine Aa ?_;rw[hN4,KT];exact gn Ft (eb rfl) h0 rfl uG;refine Zd ?_;exact Zf (Na.trans Ft) ew.symm h0;refine oC rfl (λhc=>absurd (zt hc) h4) λ_=>?_;have tv:=sM h2 h3 h4;have It:=Jt h4;refine Mn ?_
  by_cases h5:op=[110,101,103];refine oC rfl (λ_=>?_) λhc=>absurd h5 (zf hc)
  obtain⟨n0,rfl⟩:∃ n0,ns=[n0]:=by
   have h9:ns.length=1:=by rcases ld with h|h;subst h5;exact absurd h ea;subst h5;have h9:(1:Int)=(args.length:Int):=h;omega
   cases ns with
   |nil=>cases h9
   |cons a l=>
    cases l with
    |nil=>exact⟨a,rfl⟩
    |cons b l=>simp at h9
  have Zu:=WL n0 Qe;refine Xe ?_;refine WJ ?_;refine Ek (int .i64 (1+(n0:Int))) tv ?_ ?_ ?_ It ?_;exact Ft;rfl;exact HS;subst h5;exact qf (show((1+n0:Nat):Int)=_ by omega);refine oC rfl (λhc=>absurd (zt hc) h5) λ_=>?_;have h5n:=h5;clear h5;refine Mn ?_
  by_cases h5:op=[110,111,116];refine oC rfl (λ_=>?_) λhc=>absurd h5 (zf hc)
  obtain⟨n0,rfl⟩:∃ n0,ns=[n0]:=by
   have h9:ns.length=1:=by rcases ld with h|h;subst h5;exact absurd h ea;subst h5;have h9:(1:Int)=(args.length:Int):=h;omega
   cases ns with
   |nil=>cases h9
   |cons a l=>
    cases l with
    |nil=>exact⟨a,rfl⟩
    |cons b l=>simp at h9
  have Zu:=WL n0 Qe;refine Xe ?_;refine WJ ?_;refine qa (Pure.ck 2 n0 rfl rfl rfl rfl)<|Aa ?_;refine Ek (iv (max 2 n0)) tv ?_ ?_ ?_ It ?_;exact Ft;rfl;exact HS;subst h5;rfl;refine oC rfl (λhc=>absurd (zt hc) h5) λ_=>?_
  have gv:ns.length=2:=by unfold ug at ld;rw[zn λh=>h.elim h1 h2,zn λh=>h.elim h3 λh=>h.elim h5n h5,zn (show ¬ op=tg from h4)] at ld;split at ld;rcases ld with h|h <;> omega;rcases ld with h|h <;> omega
  obtain⟨a,b,rfl⟩:∃ a b,ns=[a,b]:=by
   match ns,gv with
   |[a,b],_=>exact⟨a,b,rfl⟩
  have ha:=WL a Qe;have hb:=WL b (Oc _ Qe);refine Aa ?_;refine kb.quiet zk ?_;refine qP (Cc (lv:=v) rfl) rfl ?_;refine qP (xR (Ud:=iv a) (cs:=[iv a]) um rfl zo rfl rfl rfl) rfl ?_;refine Ra ?_;refine qP (Cc (lv:=v) rfl) rfl ?_;refine qP (xR (Ud:=iv b) (cs:=[iv b]) um rfl zo rfl rfl rfl) rfl ?_;refine xa ?_;by_cases h6:op=[62];refine oC rfl (λ_=>?_) λhc=>absurd h6 (zf hc);refine Aa ?_;refine oC rfl (λ_=>?_) λhc=>absurd h6 (zf hc);refine wa ?_;refine qa (Pure.Hr 3 a (1+b) rfl rfl rfl rfl rfl zo)<|Aa ?_;refine Ek (iv (max (max 3 a) (1+b))) tv ?_ ?_ ?_ It ?_;exact Ft;rfl;exact HS;subst h6;rfl;refine oC rfl (λhc=>absurd (zt hc) h6) λ_=>?_;have h6n:=h6;clear h6;refine Mn ?_
  by_cases h6:op=[60,61];refine oC rfl (λ_=>?_) λhc=>absurd h6 (zf hc);refine wa ?_;refine qa (Pure.Hr 3 a (1+b) rfl rfl rfl rfl rfl zo)<|Aa ?_;refine Ek (iv (max (max 3 a) (1+b))) tv ?_ ?_ ?_ It ?_;exact Ft;rfl;exact HS;subst h6;rfl;refine oC rfl (λhc=>absurd (zt hc) h6) λ_=>?_;refine Mn ?_
  by_cases h7:op=[33,61];refine oC rfl (λ_=>?_) λhc=>absurd h7 (zf hc);refine wa ?_;refine qa (Pure.Hr 3 (1+a) (2+b) rfl rfl rfl rfl zo zo)<|Aa ?_;refine Ek (iv (max (max 3 (1+a)) (2+b))) tv ?_ ?_ ?_ It ?_;exact Ft;rfl;exact HS;subst h7;rfl;refine oC rfl (λhc=>absurd (zt hc) h7) λ_=>?_;refine Mn ?_
  by_cases h8:op=[38,38];refine oC rfl (λ_=>?_) λhc=>absurd h8 (zf hc);refine wa ?_;refine qa (Pure.ck (1+a) (2+b) rfl rfl zo zo)<|Aa ?_;refine Ek (iv (max (1+a) (2+b))) tv ?_ ?_ ?_ It ?_;exact Ft;rfl;exact HS;subst h8;rfl;refine oC rfl (λhc=>absurd (zt hc) h8) λ_=>?_;refine Mn ?_
  by_cases h9:op=[124,124];refine oC rfl (λ_=>?_) λhc=>absurd h9 (zf hc);refine wa ?_;refine qa (Pure.ck (2+a) (3+b) rfl rfl zo zo)<|Aa ?_;refine Ek (iv (max (2+a) (3+b))) tv ?_ ?_ ?_ It ?_;exact Ft;rfl;exact HS;subst h9;rfl;refine oC rfl (λhc=>absurd (zt hc) h9) λ_=>?_;refine wa ?_;refine qa (Pure.Hr 2 a (1+b) rfl rfl rfl rfl rfl zo)<|Ad ?_;refine Ek (iv (max (max 2 a) (1+b))) tv ?_ ?_ ?_ It ?_;exact Ft;rfl;exact HS;unfold UC;rw[zn λh=>h.elim h1 h2,zn λh=>h.elim h3 h5n,zn (show ¬ op=tg from h4),zn (show ¬ op=yg from h5),zn λh=>h.elim h6n h6,zn h7,zn h8,zn h9];rfl
theorem qBw:Zh (.mk 1 name index value Ua Bb)=((!decide (name=[])) && decide (((index.map Ab).length:Int)=0) && decide (((value.map Ab).length:Int)=1) && decide (((Ua.map uc).length:Int)=0) && decide (((Bb.map uc).length:Int)=0)):=by rw[Bool.eq_iff_iff];simp only[Zh,Ed,Rg,Bool.not_eq_true',decide_eq_false_iff_not,Mb];constructor;exact EF;exact DF
theorem qA1:Zh (.mk 2 name index value Ua Bb)=((!decide (name=[])) && decide (((index.map Ab).length:Int)=1) && decide (((value.map Ab).length:Int)=1) && decide (((Ua.map uc).length:Int)=0) && decide (((Bb.map uc).length:Int)=0)):=by rw[Bool.eq_iff_iff];simp only[Zh,Ed,Rg,Bool.not_eq_true',decide_eq_false_iff_not,Mb];constructor;exact EF;exact DF
theorem qB1:Zh (.mk 3 name index value Ua Bb)=((!!decide (name=[])) && decide (((index.map Ab).length:Int)=0) && decide (((value.map Ab).length:Int)=1)):=by rw[Bool.eq_iff_iff];simp only[Zh,Ed,Rg,Bool.not_eq_true',decide_eq_false_iff_not,Mb];constructor;intro h;have h':_:=zt h;obtain⟨a1,a2,a3⟩:=h';exact⟨⟨by simpa using a1,by omega⟩,by omega⟩;rintro⟨⟨a1,a2⟩,a3⟩;exact Dg ⟨by simpa using a1,by omega,by omega⟩
theorem qAV:Zh (.mk 4 name index value Ua Bb)=((!!decide (name=[])) && decide (((index.map Ab).length:Int)=0) && decide (((value.map Ab).length:Int)=1) && decide (((Bb.map uc).length:Int)=0)):=by rw[Bool.eq_iff_iff];simp only[Zh,Ed,Rg,Bool.not_eq_true',decide_eq_false_iff_not,Mb];constructor;intro h;have h':_:=zt h;obtain⟨a1,a2,a3,a4⟩:=h';exact⟨⟨⟨by simpa using a1,by omega⟩,by omega⟩,by omega⟩;rintro⟨⟨⟨a1,a2⟩,a3⟩,a4⟩;exact Dg ⟨by simpa using a1,by omega,by omega,by omega⟩
theorem qBC:Zh (.mk 5 name index value Ua Bb)=((!!decide (name=[])) && decide (((index.map Ab).length:Int)=0) && decide (((value.map Ab).length:Int)=1) && decide (((Ua.map uc).length:Int)=0) && decide (((Bb.map uc).length:Int)=0)):=by rw[Bool.eq_iff_iff];simp only[Zh,Ed,Rg,Bool.not_eq_true',decide_eq_false_iff_not,Mb];constructor;exact EF;exact DF
theorem qBJ:Zh (.mk 6 name index value Ua Bb)=((!!decide (name=[])) && decide (((index.map Ab).length:Int)=0) && decide (((value.map Ab).length:Int)=1) && decide (((Ua.map uc).length:Int)=0) && decide (((Bb.map uc).length:Int)=0) && decide (Li (value.headD default)=[99,97,108,108])):=by rw[Bool.eq_iff_iff];simp only[Zh,Ed,Rg,Bool.not_eq_true',decide_eq_false_iff_not,Mb];constructor;intro h;have h':_:=zt h;obtain⟨a1,a2,a3,a4,a5,a6⟩:=h';exact⟨⟨⟨⟨⟨by simpa using a1,by omega⟩,by omega⟩,by omega⟩,by omega⟩,a6⟩;rintro⟨⟨⟨⟨⟨a1,a2⟩,a3⟩,a4⟩,a5⟩,a6⟩;exact Dg ⟨by simpa using a1,by omega,by omega,by omega,by omega,a6⟩
theorem qBA:Zh (.mk 7 name index value Ua Bb)=((!!decide (name=[])) && decide (((index.map Ab).length:Int)=0) && decide (((value.map Ab).length:Int)=0) && decide (((Ua.map uc).length:Int)=0) && decide (((Bb.map uc).length:Int)=0)):=by rw[Bool.eq_iff_iff];simp only[Zh,Ed,Rg,Bool.not_eq_true',decide_eq_false_iff_not,Mb];constructor;exact EF;exact DF
theorem qoS(s:Sm):ca (KC B0 w0) 228 [uc s] [] (Ub (bool (Zh s))):=by
 obtain⟨kind,name,index,value,Ua,Bb⟩:=s;rw[Kw];refine jb Tryz.func228 rfl (n:=159) rfl rfl rfl ?_;refine Xe ?_;refine oS (sB rfl λb1=>?_);refine Aa ?_;refine kb.quiet zk ?_;refine xa ?_;by_cases ju:kind=1
 ·subst ju;refine oC rfl (λ_=>?_) (λhc=>by cases hc);rw[qBw];refine Yd ?_;refine oB 28 rfl (λq1=>?_) λq1=>?_;rotate_left;exact QJ;refine Aa ?_;refine oB 32 rfl (λq2=>?_) λq2=>?_;rotate_left;exact RJ;refine Aa ?_;refine oB 36 rfl (λq3=>?_) λq3=>?_;rotate_left;exact vz;refine Aa ?_;refine oB 40 rfl (λq4=>?_) λq4=>?_;rotate_left;exact bC;refine jC ?_;simp only[q1,q2,q3,q4,Bool.true_and];rfl
 refine oC rfl (λhc=>absurd (zt hc) ju) λ_=>?_;refine Pj ?_
 by_cases fi:kind=2
 ·subst fi;refine oC rfl (λ_=>?_) (λhc=>by cases hc);rw[qA1];refine Yd ?_;refine oB 47 rfl (λq1=>?_) λq1=>?_;rotate_left;exact QJ;refine Aa ?_;refine oB 51 rfl (λq2=>?_) λq2=>?_;rotate_left;exact RJ;refine Aa ?_;refine oB 55 rfl (λq3=>?_) λq3=>?_;rotate_left;exact vz;refine Aa ?_;refine oB 59 rfl (λq4=>?_) λq4=>?_;rotate_left;exact bC;refine jC ?_;simp only[q1,q2,q3,q4,Bool.true_and];rfl
 refine oC rfl (λhc=>absurd (zt hc) fi) λ_=>?_;refine Pj ?_
 by_cases iF:kind=3
 ·subst iF;refine oC rfl (λ_=>?_) (λhc=>by cases hc);rw[qB1];refine xa ?_;refine oB 67 rfl (λq1=>?_) λq1=>?_;rotate_left;exact QJ;refine Aa ?_;refine oB 71 rfl (λq2=>?_) λq2=>?_;rotate_left;exact RJ;refine jC ?_;simp only[q1,q2,Bool.true_and];rfl
 refine oC rfl (λhc=>absurd (zt hc) iF) λ_=>?_;refine Pj ?_
 by_cases wH:kind=4
 ·subst wH;refine oC rfl (λ_=>?_) (λhc=>by cases hc);rw[qAV];refine xa ?_;refine oB 79 rfl (λq1=>?_) λq1=>?_;rotate_left;exact QJ;refine Aa ?_;refine oB 83 rfl (λq2=>?_) λq2=>?_;rotate_left;exact RJ;refine Aa ?_;refine oB 87 rfl (λq3=>?_) λq3=>?_;rotate_left;exact vz;refine jC ?_;simp only[q1,q2,q3,Bool.true_and];rfl
 refine oC rfl (λhc=>absurd (zt hc) wH) λ_=>?_;refine Pj ?_
 by_cases ZL:kind=5
 ·subst ZL;refine oC rfl (λ_=>?_) (λhc=>by cases hc);rw[qBC];refine xa ?_;refine oB 95 rfl (λq1=>?_) λq1=>?_;rotate_left;exact QJ;refine Aa ?_;refine oB 99 rfl (λq2=>?_) λq2=>?_;rotate_left;exact RJ;refine Aa ?_;refine oB 103 rfl (λq3=>?_) λq3=>?_;rotate_left;exact vz;refine Aa ?_;refine oB 107 rfl (λq4=>?_) λq4=>?_;rotate_left;exact bC;refine jC ?_;simp only[q1,q2,q3,q4,Bool.true_and];rfl
 refine oC rfl (λhc=>absurd (zt hc) ZL) λ_=>?_;refine Pj ?_
 by_cases AO:kind=6
 ·subst AO;refine oC rfl (λ_=>?_) (λhc=>by cases hc);rw[qBJ];refine xa ?_;refine oB 115 rfl (λq1=>?_) λq1=>?_;rotate_left;exact QJ;refine Aa ?_;refine oB 119 rfl (λq2=>?_) λq2=>?_;rotate_left;exact RJ;refine Aa ?_;refine oB 123 rfl (λq3=>?_) λq3=>?_;rotate_left;exact vz;refine Aa ?_;refine oB 127 rfl (λq4=>?_) λq4=>?_;rotate_left;exact bC;refine Aa ?_;refine oB 131 rfl (λq5=>?_) λq5=>?_;rotate_left;refine jC ?_;simp only[q1,q2,q3,q4,q5,wj,Bool.and_false,Bool.true_and];rfl;refine Ra ?_
  obtain⟨x0,rfl⟩:∃ x,value=[x]:=by
   have h1:((value.map Ab).length:Int)=1:=zt q3;rw[Mb] at h1;cases value with
   |nil=>simp at h1
   |cons x l=>
    cases l with
    |nil=>exact⟨x,rfl⟩
    |cons y l=>simp at h1;omega
  first|refine Ea.want rfl rfl ?_|skip
  refine qa (xR (Ud:=Ab x0) (cs:=[_,_,_,_]) rfl rfl zo rfl rfl rfl)<|Ra ?_;refine rR rfl (eb rfl) sd ⟨?_,rfl⟩;simp only[q1,q2,q3,q4,q5,Bool.true_and];rfl
 refine oC rfl (λhc=>absurd (zt hc) AO) λ_=>?_;refine Pj ?_
 by_cases G7:kind=7
 ·subst G7;refine oC rfl (λ_=>?_) (λhc=>by cases hc);rw[qBA];refine xa ?_;refine oB 143 rfl (λq1=>?_) λq1=>?_;rotate_left;exact QJ;refine Aa ?_;refine oB 147 rfl (λq2=>?_) λq2=>?_;rotate_left;exact RJ;refine Aa ?_;refine oB 151 rfl (λq3=>?_) λq3=>?_;rotate_left;exact vz;refine Aa ?_;refine oB 155 rfl (λq4=>?_) λq4=>?_;rotate_left;exact bC;refine jC ?_;simp only[q1,q2,q3,q4,Bool.true_and];rfl
 refine oC rfl (λhc=>absurd (zt hc) G7) λ_=>?_;refine wa ?_;refine rR rfl (eb rfl) sd ⟨?_,rfl⟩
 have hf:Zh (.mk kind name index value Ua Bb)=false:=by simp only[Zh];rw[zn ju,zn fi,zn iF,zn wH,zn ZL,zn AO,zn G7]
 rw[hf];rfl
end Go.Proofs.Y.sk
namespace Go.GL
open Go.RowKit
theorem Zv:∀ l:List (List UInt8),uB 1 (l.map str)
 |[]=>pj
 |a::l=>Qd rfl rfl (Zv l)
theorem ca.xC{C:Ctx}{f:FuncId}{vs:List Value}{l:List (List UInt8)}{t:TypeId}
  (h:∀ w,Below C.B0 C.w0 w->Calls C.P f vs.toArray w λe w'=>e=.returned (.slice (some ⟨w.heap.size,0,none⟩) l.length l.length)/\w'=w.alloc (.cells (l.map λs=>Value.string ⟨s.toArray⟩).toArray t)):ca C f (vs.map .atom) [] (Ub (.list (l.map str))):=λxs w L hv hH=>by
 have hx:xs=vs:=by
  clear h hH;induction vs generalizing xs with
  |nil=>simpa [oa] using hv
  |cons v vs ih=>simp only[yd,oa,Fb] at hv;obtain⟨y,ys,rfl,rfl,hv⟩:=hv;rw[ih _ hv]
 subst hx;refine(h w hH.base).mono λe w' he=>?_;obtain⟨rfl,rfl⟩:=he
 have hr:oa w L (l.map str) (l.map λs=>Value.string ⟨s.toArray⟩):=by have:=Ys (w:=w) (L:=L) (l.map λs=>Value.string ⟨s.toArray⟩);rw[map_map] at this;exact this
 have Kc:uB 1 (l.map str):=Zv l;have hl:(l.map str).length=l.length:=Mb _;have:=qj7 (K:=λlv H=>∃ b,lv=.app b l.length 1 (l.map str)) (t:=t) (cap:=l.length) (rest:=[]) hH hr Kc zo (by simp) λb=>⟨b,rfl⟩
 have e1:((l.map λs=>Value.string ⟨s.toArray⟩).flatMap λv=>v.cells.toList)++[]=l.map λs=>Value.string ⟨s.toArray⟩:=by
  rw[ue];clear this Kc hr h hv hl;induction l with
  |nil=>rfl
  |cons a l ih=>rw[yd,List.flatMap_cons,ih];try rfl
 rw[e1,hl] at this;obtain⟨lv,H',L',r1,r2,r3,b,rfl⟩:=this;exact⟨.list (l.map str),[],L',r1.Yb sd,r2.Yb sd,LV.Sub.app _ _ _ _ _ _ _ r3,rfl,rfl⟩
end Go.GL
namespace Go.Proofs.Y
open Go.GL Go.RowKit Go.ia
namespace As
def GM(w0:World):Prop:=∃ m,w0.cell? ⟨0,0,none⟩=some (.int .i64 m)
theorem qlC{w:World}{L:Live}{b:Nat}:∀ (k off:Nat) (ws:List (List UInt8)),Zc w L b k off (ws.map str)->∀ (j:Nat) x,(ws.map λl=>(⟨l.toArray⟩:ByteArray))[j]? = some x->k=1/\w.cell? ⟨b,off+j,none⟩=some (.string x)
 |k,off,[],_,j,x,h=>by simp at h
 |k,off,s::ws,h,0,x,hx=>by simp only[yd,Zc] at h;obtain⟨⟨hk,_,y,hy,hr⟩,_⟩:=h;simp only[Fb] at hr;simp at hx;rw[<-hx,Nat.add_zero,hy,hr];exact⟨hk.symm,rfl⟩
 |k,off,s::ws,h,j+1,x,hx=>by simp only[yd,Zc] at h;obtain⟨⟨hk,_⟩,h2⟩:=h;have:=qlC k (off+k) ws h2 j x (by simpa using hx);refine⟨hk.symm,?_⟩;rw[<-this.2,<-hk,Nat.add_assoc,Nat.add_comm 1 j]
variable{B0:Nat}{w0:World}
theorem Jf(s p:List UInt8):ca (KC B0 w0) 162 [str s,str p] [] (Ub (.tuple [str (Go.Lib.trimPrefix s p),bool (Go.Lib.hasPrefix s p)])):=by refine ca.mono (ca.uh (vs:=[.string ⟨s.toArray⟩,.string ⟨p.toArray⟩]) (p:=λus=>us=[.string ⟨(Go.Lib.trimPrefix s p).toArray⟩,.bool (Go.Lib.hasPrefix s p)]) λw hw=>?_) ?_;refine(Tryz.strings_CutPrefix ⟨s.toArray⟩ ⟨p.toArray⟩ w).mono λe w' he=>⟨_,he.1,rfl,by rw[he.2];exact Below.refl _ _⟩;rintro r H ⟨v,rfl,⟨us,rfl,rfl⟩,rfl⟩;exact⟨rfl,rfl⟩
theorem Hf(s p:List UInt8)(hs:s.length<=1000000000):ca (KC B0 w0) 172 [str s,str p] [] (Ub (.tuple [str (Go.Lib.trimSuffix s p),bool (Go.Lib.hasSuffix s p)])):=by refine ca.mono (ca.uh (vs:=[.string ⟨s.toArray⟩,.string ⟨p.toArray⟩]) (p:=λus=>us=[.string ⟨(Go.Lib.trimSuffix s p).toArray⟩,.bool (Go.Lib.hasSuffix s p)]) λw hw=>?_) ?_;refine(Tryz.strings_CutSuffix ⟨s.toArray⟩ ⟨p.toArray⟩ w (by show s.toArray.size<=_;simp;omega)).mono λe w' he=>⟨_,he.1,rfl,by rw[he.2];exact Below.refl _ _⟩;rintro r H ⟨v,rfl,⟨us,rfl,rfl⟩,rfl⟩;exact⟨rfl,rfl⟩
theorem Ah(sep:List UInt8)(ws:List (List UInt8))(hn:ws.length<=1000000000)(hl:(Go.Lib.join ws sep).length<=1000000000):ca (KC B0 w0) 53 [.list (ws.map str),str sep] [] (Ub (str (Go.Lib.join ws sep))):=λxs w L hv hH=>by
 simp only[oa] at hv;obtain⟨y,ys,rfl,hy,z,zs,rfl,hz,rfl⟩:=hv;simp only[Fb] at hy hz;obtain⟨a,cap,rfl,ri,tS⟩:=hy;subst hz;rw[Mb] at ri;have dv:(ws.map λl=>(⟨l.toArray⟩:ByteArray)).map (·.data.toList)=ws:=by
  rw[map_map]
  conv=>rhs;rw[<-List.map_id ws]
  rfl
 have hc:Calls Tryz.prog 53 #[.slice a ws.length cap,.string ⟨sep.toArray⟩] w λe w'=>e=.returned (.string ⟨(Go.Lib.join ws sep).toArray⟩)/\Below w.heap.size w w':=by
  by_cases xb:ws=[]
  ·subst xb;exact(Tryz.strings_Join_none a cap ⟨sep.toArray⟩ w).mono λe w' he=>⟨by rw[he.1];try rfl,by rw[he.2];exact Below.refl _ _⟩
  obtain⟨b,off,k,rfl,hr⟩:=tS (by simpa using xb);have Ht:=λj x hx=>(qlC k off ws hr j x hx).2
  have hb:b<w.heap.size:=by obtain⟨s,r,rfl⟩:=List.exists_cons_of_ne_nil xb;have:=Ht 0 _ rfl;exact World.block_lt_of_cell? _ _ this
  have:=Tryz.strings_Join b off cap (ws.map λl=>(⟨l.toArray⟩:ByteArray)) ⟨sep.toArray⟩ w Ht hb (by rw[Mb];omega) (by rw[Mb];exact ri) (by rw[dv];show(Go.Lib.join ws sep).length<=_;omega);rw[Mb,dv] at this;exact this
 rw[Mb];refine hc.mono λe w' he=>?_;obtain⟨rfl,hb⟩:=he;obtain⟨h1,h2⟩:=eW hH hb;exact⟨str (Go.Lib.join ws sep),[],L,h1,h2,Ld,rfl,rfl⟩
theorem GM.at(hG:GW B0 w0)(h:GM w0){w:World}(hb:Below B0 w0 w):∃ m,w.cell? ⟨0,0,none⟩=some (.int .i64 m):=by obtain⟨m,hm⟩:=h;exact⟨m,(cell_of_heap (hb.block 0 (Nat.lt_of_lt_of_le ea hG.VX)) 0).trans hm⟩
theorem qly(hG:GW B0 w0)(hM:GM w0)(s:List UInt8)(c:UInt8)(hs:s.length<=1000000000):ca (KC B0 w0) 105 [str s,str [c]] [] (Ub (.list ((Fg c s).map str))):=by
 rw[<-qsy];refine ca.xC (vs:=[.string ⟨s.toArray⟩,.string ⟨#[c]⟩]) (t:=9) λw hw=>?_;obtain⟨m,hm⟩:=GM.at hG hM hw;have h1:=Tryz.strings_Split ⟨s.toArray⟩ ⟨#[c]⟩ m w (by show s.toArray.size<_;simp;omega) hm (Pb 1)
 have e1:(Go.Lib.splitB ⟨#[c]⟩ 0 (Go.Lib.countB ⟨s.toArray⟩ ⟨#[c]⟩) ⟨s.toArray⟩).map Value.string=(Go.Lib.split s [c]).map λs=>Value.string ⟨s.toArray⟩:=by have:=Go.Lib.splitB_data ⟨#[c]⟩ 0 (Go.Lib.countB ⟨s.toArray⟩ ⟨#[c]⟩) ⟨s.toArray⟩;have e2:Go.Lib.split s [c]=Go.Lib.splitK (⟨#[c]⟩:ByteArray).data.toList 0 (Go.Lib.countB ⟨s.toArray⟩ ⟨#[c]⟩) (⟨s.toArray⟩:ByteArray).data.toList:=rfl;rw[e2,<-this,map_map];try rfl
 have e3:(Go.Lib.split s [c]).length=Go.Lib.countB ⟨s.toArray⟩ ⟨#[c]⟩+1:=by have:=congrArg List.length e1;rw[Mb,Mb,Go.Lib.splitB_all ⟨#[c]⟩ (Pb 1) 0 _ _ rfl] at this;exact this.symm
 rw[e1] at h1;rw[e3];exact h1
theorem qw2(hG:GW B0 w0)(hM:GM w0)(s:List UInt8)(c:UInt8)(hs:s.length<=1000000000):ca (KC B0 w0) 106 [str s,str [c]] [] (wy λlv=>∃ a b,lv=.tuple [str (s.takeWhile λd=>decide (d≠c)),str a,bool b]):=by rw[<-qyW];refine ca.mono (ca.uh (vs:=[.string ⟨s.toArray⟩,.string ⟨#[c]⟩]) (p:=λus=>us=[.string ⟨(Go.Lib.cut s [c]).1.toArray⟩,.string ⟨(Go.Lib.cut s [c]).2.1.toArray⟩,.bool (Go.Lib.cut s [c]).2.2]) λw hw=>?_) ?_;obtain⟨m,hm⟩:=GM.at hG hM hw;refine(Tryz.strings_Cut ⟨s.toArray⟩ ⟨#[c]⟩ m w (by show s.toArray.size<_;simp;omega) hm).mono λe w' he=>?_;obtain⟨rfl,n,rfl⟩:=he;exact⟨_,rfl,rfl,below_drewN (Below.refl _ _) n⟩;rintro r H ⟨v,rfl,⟨us,rfl,rfl⟩,rfl⟩;exact⟨_,rfl,⟨_,_,rfl⟩,rfl⟩
def Lj(p:Wd×Nat):LV:=.agg [str p.1,int .i64 p.2]
def T0:List UInt8:=[97,98,99,100,101,102,103,104,105,106,107,108,109,110,111,112,113,114,115,116,117,118,119,120,121,122,95,48,49,50,51,52,53,54,55,56,57]
theorem qsc(c:UInt8):T0.contains c=Si c:=by
 have:∀ n:Nat,n<256->T0.contains (UInt8.ofNat n)=Si (UInt8.ofNat n):=by decide +kernel
 have h:=this c.toNat c.toNat_lt;rwa [UInt8.ofNat_toNat] at h
theorem qqk{st:List UInt8}{p:UInt8->Bool}(he:∀ c,st.contains c=p c)(s:List UInt8):(Go.Lib.trimS s st=[]) ↔ s.all p=true:=by
 have he:(λc=>st.contains c)=p:=funext he;unfold Go.Lib.trimS Go.Lib.trimLeftS Go.Lib.trimRightS;rw[he,cL];constructor;intro h;by_cases h2:s.reverse.dropWhile p=[];rw[cL] at h2;rw[all_reverse] at h2;exact h2;exfalso;obtain⟨c,r,zJ⟩:=List.exists_cons_of_ne_nil h2;have h3:p c=false:=by have:=List.head?_dropWhile_not p s.reverse;rw[zJ] at this;simpa using this
 rw[zJ,all_reverse,List.all_cons,h3] at h;cases h;intro h;have h2:s.reverse.dropWhile p=[]:=by rw[cL,all_reverse];exact h
 rw[h2];try rfl
def sn(o:Option Wd)(lv:LV):Prop:=∃ s,lv=.tuple [str s,bool o.isSome]/\∀ l,o=some l->s=l
theorem sn.mk{o:Option Wd}{s:Wd}{b:Bool}(hb:o.isSome=b)(hs:∀ l,o=some l->s=l):sn o (.tuple [str s,bool b]):=⟨s,by rw[hb],hs⟩
theorem Yq{p q:Bool}{s:Wd}{o:Option Wd}(h:o=if p=true/\q=true then some s else none):o.isSome=(p && q)/\∀ l,o=some l->s=l:=by subst h;cases p <;> cases q <;> simp
attribute [local irreducible] Ea kb ab ca Go.GL.Pure Ie pf ke LQ Rb oi Nj
theorem qqY(s st:List UInt8)(hs:s.length<=1000000000)(h1:st.length<=100)(h3:st.all (λb=>decide (b.toNat<128))=true):ca (KC B0 w0) 174 [str s,str st] [] (Ub (str (Go.Lib.trimS s st))):=
 ca.dn (vs:=[.string ⟨s.toArray⟩,.string ⟨st.toArray⟩]) λw hw=>(Go.Proofs.Any.strings_Trim_laid Tryz.Ry zk ⟨s.toArray⟩ ⟨st.toArray⟩ w (by show s.toArray.size<=_;simp;omega) (by show st.toArray.size<_;simp;omega) (Go.Proofs.ascii_of_all h3))
theorem qm6(s:List UInt8)(hs:s.length<=1000000000):ca (KC B0 w0) 173 [str s] [] (Ub (bool (Sv s))):=by
 have hT:=qqY (B0:=B0) (w0:=w0) s T0 hs ea ea;have xx:=qqk qsc s;refine jb Tryz.func173 rfl (n:=23) rfl rfl rfl ?_;refine wa ?_;refine oB 5 rfl (λh1=>?_) λh1=>?_;have e:s=[]:=qg h1;subst e;refine Aa ?_;refine oC rfl (λh=>?_) (λh=>by cases h);refine Ak ?_;exact qb rfl (rC (rT (v:=.atom _) rfl (vR _)) rN) rfl;have SX:¬ s=[]:=of_decide_eq_false h1
 obtain⟨c,r,rfl⟩:∃ c r,s=c::r:=by
  cases s with
  |nil=>exact absurd rfl SX
  |cons c r=>exact⟨c,r,rfl⟩
 have hN:=qp0 c r;refine Ra ?_;refine oB 10 rfl (λh2=>?_) λh2=>?_;have RB:¬ (c::r).length<=40:=by have:=qg h2;omega
 rw[decide_eq_false RB,wj,wj] at hN;refine Aa ?_;refine oC rfl (λh=>?_) (λh=>by cases h);refine Ak ?_;exact qb rfl (rC (rT (v:=.atom _) rfl (vR _)) rN) (Re hN.symm);have RB:(c::r).length<=40:=by have:=of_decide_eq_false h2;omega
 rw[Dg RB,Bool.true_and] at hN;refine Aa ?_;refine qa (pI (c:=c) rfl rfl ga rfl)<|Aa ?_;refine oB 15 rfl (λh3=>?_) λh3=>?_
 have Nt:Ml c=false:=by unfold Ml;rw[decide_eq_false (by have:cv c<97:=qg h3;omega),wj]
 rw[Nt,wj] at hN;refine Aa ?_;refine oC rfl (λh=>?_) (λh=>by cases h);refine Ak ?_;exact qb rfl (rC (rT (v:=.atom _) rfl (vR _)) rN) (Re hN.symm);refine Aa ?_;refine qa (pI (c:=c) rfl rfl ga rfl)<|Ra ?_;refine Oa (λh=>?_) λh=>?_
 have Nt:Ml c=false:=by unfold Ml;rw[decide_eq_false (p:=cv c<=122) (by have:cv c > 122:=qg h;omega),Bool.and_false]
 rw[Nt,wj] at hN;refine Ak ?_;exact qb rfl (rC (rT (v:=.atom _) rfl (vR _)) rN) (Re hN.symm);have Nt:Ml c=true:=by unfold Ml;rw[Dg (by have:¬ cv c<97:=of_decide_eq_false h3;omega),Dg (by have:¬ cv c > 122:=of_decide_eq_false h;omega)];try rfl
 rw[Nt,Bool.true_and] at hN;refine wa ?_;refine oS (sF [_,_] rfl hT ?_);refine Aa ?_;exact qb rfl (rC (rT (v:=.atom _) rfl (vR _)) rN) (Re (by
  rw[hN,Bool.eq_iff_iff,decide_eq_true_iff];exact xx))
theorem J4(p:Wd×Nat)(hs:p.1.length<=1000000000):ca (KC B0 w0) 107 [Lj p] [] (wy (sn (ya p.1))):=by
 obtain⟨w,ln⟩:=p;simp only at hs ⊢;obtain⟨r1,r2⟩:=Yq (qxZ w);have ma:(Go.Lib.trimSuffix w [58]).length<=1000000000:=by unfold Go.Lib.trimSuffix;split;rw[List.length_take];omega;exact hs
 unfold Lj;refine jb Tryz.func107 rfl (n:=18) rfl rfl rfl ?_;refine Xe ?_;refine oS (sB (cs:=[str w,int .i64 ln]) rfl λb1=>?_);refine wa ?_;refine oS (sF [_,_] rfl (Hf w [58] hs) ?_);refine wa ?_;refine oB 14 rfl (λh=>?_) λh=>?_;exact aP;rw[h,wj] at r1;refine Aa ?_;exact Iy rfl (rC (rT (v:=.atom _) rfl (vR _)) (rC (rT (v:=.atom _) rfl (vR _)) rN)) (sn.mk r1 r2)
theorem qkq(p:Wd×Nat)(hs:p.1.length<=1000000000):ca (KC B0 w0) 108 [Lj p] [] (wy (sn (Va p.1))):=by
 obtain⟨w,ln⟩:=p;simp only at hs ⊢;obtain⟨r1,r2⟩:=Yq (qyG w);have ma:(Go.Lib.trimPrefix w [38]).length<=1000000000:=by unfold Go.Lib.trimPrefix;split;rw[List.length_drop];omega;exact hs
 unfold Lj;refine jb Tryz.func108 rfl (n:=18) rfl rfl rfl ?_;refine Xe ?_;refine oS (sB (cs:=[str w,int .i64 ln]) rfl λb1=>?_);refine wa ?_;refine oS (sF [_,_] rfl (Jf w [38]) ?_);refine wa ?_;refine oB 14 rfl (λh=>?_) λh=>?_;exact aP;rw[h,wj] at r1;refine Aa ?_;exact Iy rfl (rC (rT (v:=.atom _) rfl (vR _)) (rC (rT (v:=.atom _) rfl (vR _)) rN)) (sn.mk r1 r2)
theorem qn0(p:Wd×Nat)(hs:p.1.length<=1000000000):ca (KC B0 w0) 109 [Lj p] [] (Ub (bool (Ay p.1))):=by
 obtain⟨w,ln⟩:=p;simp only at hs ⊢;have hT:=qqY (B0:=B0) (w0:=w0) w tB hs ea ea;have xx:(Go.Lib.trimS w tB=[]) ↔ Ay w=true:=qqk (p:=λc=>tB.contains c) (λc=>rfl) w;unfold Lj;refine jb Tryz.func109 rfl (n:=7) rfl rfl rfl ?_;refine Xe ?_;refine oS (sB (cs:=[str w,int .i64 ln]) rfl λb1=>?_);refine wa ?_;refine oS (sF [_,_] rfl hT ?_);refine Aa ?_
 exact qb rfl (rC (rT (v:=.atom _) rfl (vR _)) rN) (Re (by
  rw[Bool.eq_iff_iff,decide_eq_true_iff];exact xx))
theorem qhm(c:UInt8):ca (KC B0 w0) 112 [int .u8 c.toNat] [] (Ub (bool (qe c))):=by have hD:qe c=(decide (48<=cv c) && decide (cv c<=57)):=rfl;refine jb Tryz.func112 rfl (n:=9) rfl rfl rfl ?_;refine xa ?_;refine oB 5 rfl (λh=>?_) λh=>?_;have h':cv c ≥ 48:=qg h;rw[Dg (show 48<=cv c from h'),Bool.true_and] at hD;refine Ra ?_;exact qb rfl (rC (rT (v:=.atom _) rfl (vR _)) rN) (Re hD.symm);have h':¬ cv c ≥ 48:=of_decide_eq_false h;rw[decide_eq_false (show ¬ 48<=cv c from h'),wj] at hD;refine Aa ?_;exact qb rfl (rC (rT (v:=.atom _) rfl (vR _)) rN) (Re hD.symm)
theorem N4(hG:GW B0 w0)(n:Nat)(hn:n<=1000000000000):ca (KC B0 w0) 111 [int .i64 n] [] (Ub (str (Iq n))):=by
 have hi:=KI hG n ga;have xb:=WK n;have hl:(Go.Lib.decDigits n).length<=20:=by rw[Go.Lib.decDigits_length];exact Xf (LW 12 n ga) ea
 have hA:Iq n=([48,48,48,48,48]++Go.Lib.decDigits n).drop (([48,48,48,48,48]++Go.Lib.decDigits n).length-6):=rfl;generalize Go.Lib.decDigits n=d at hi xb hl hA;have AA:=List.length_pos_iff.2 xb;have gr:([48,48,48,48,48]++d:List UInt8).length=d.length+5:=by simp
 refine jb Tryz.func111 rfl (n:=12) rfl rfl rfl ?_;refine cl ?_;refine oS (sF [_] rfl hi ?_);refine xa ?_;refine qa (Pure.kl (l:=[48,48,48,48,48]++d) (i:=(([48,48,48,48,48]++d:List UInt8).length:Int)-6) (j:=(([48,48,48,48,48]++d:List UInt8).length:Int)) rfl ⟨_,rfl⟩ rfl ga ga ga)<|Ad ?_;exact qb rfl (rC (rT (v:=.atom _) rfl (vR _)) rN) (by
  rw[hA];have e1:(((([48,48,48,48,48]++d:List UInt8).length:Nat):Int)-6).toNat=([48,48,48,48,48]++d:List UInt8).length-6:=by omega
  show str (List.drop (((([48,48,48,48,48]++d:List UInt8).length:Nat):Int)-6).toNat (List.take ((([48,48,48,48,48]++d:List UInt8).length:Nat):Int).toNat ([48,48,48,48,48]++d)))=_;rw[e1,Int.toNat_natCast,List.take_length])
theorem qkD(b:Nat)(l:List UInt8)(H:Heap)(hB:BH b l H):ca (KC B0 w0) 110 [ptr b 0] H (λr H'=>r=.ret (int .i64 l.length)/\H'=H):=by obtain⟨p,v,Hv,hp,Eb,rfl⟩:=hB;refine jb Tryz.func110 rfl (n:=8) rfl rfl rfl ?_;refine wa ?_;refine qa (Pure.S8 rfl Eb)<|Ad ?_;exact rR rfl (rC (rT (v:=.atom _) rfl (vR _)) rN) (bc _) ⟨rfl,rfl⟩
theorem qkU(b:Nat)(l:List UInt8)(c:UInt8)(H:Heap)(hB:BH b l H)(ma:l.length<=10000000000):ca (KC B0 w0) 113 [ptr b 0,int .u8 c.toNat] H (λr H'=>(∃ x,r=.ret x)/\BH b (l++[c]) H'):=by
 obtain⟨p,v,Hv,hp,Eb,rfl⟩:=hB;refine jb Tryz.func113 rfl (n:=17) rfl rfl rfl ?_;refine cl ?_;refine oS (S.Uc (H1:=[(b,_)]) (F:=Hv) [_] rfl (List.Perm.refl _) (qgE b p (.atom v) hp) (λx H' h=>?_) λch H' h=>?_);obtain⟨⟨x',To⟩,rfl⟩:=h;cases To;refine wa ?_;refine Kj ?_;refine oS (S.FM (q:=(b,.cells 97 [ptr b 0,.atom v])) (l:=l) (m:=[c]) rfl Eb rfl (by simp) (by simp;omega) λv' H' Ob=>?_);refine Aa ?_;have ud:=Ob;generalize l++[c]=lm at Ob ud ⊢
 cases Ob with
 |nil=>refine xa ?_;exact rR rfl (rC (rT (v:=.atom _) rfl (vR _)) rN) (bc _) ⟨⟨_,rfl⟩,ptr b 0,_,_,.inr rfl,ud,rfl⟩
 |row h0 h1 h2=>refine xa ?_;exact rR rfl (rC (rT (v:=.atom _) rfl (vR _)) rN) (bc _) ⟨⟨_,rfl⟩,ptr b 0,_,_,.inr rfl,ud,rfl⟩
 obtain⟨⟨x',To⟩,_⟩:=h;cases To
