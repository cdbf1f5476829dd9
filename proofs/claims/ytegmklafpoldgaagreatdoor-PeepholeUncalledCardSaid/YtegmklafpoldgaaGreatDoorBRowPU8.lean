/- Texts joined: ParP6, GlRange, ParP7, ParP8, ParS1, ParS2, ParS3, ParS4. -/
import Derived.RangeFuncFrom
import Derived.RangeFuncLeaves
import Derived.TacticsIn
import Derived.Test.YtegmklafpoldgaaGreatDoorBRowPU3
import Derived.Test.YtegmklafpoldgaaGreatDoorBRowPU4
import Derived.Test.YtegmklafpoldgaaGreatDoorBRowPU7
set_option linter.unusedVariables false
set_option linter.unusedSimpArgs false
set_option maxRecDepth 100000
set_option maxHeartbeats 4000000
namespace Go.Proofs.YtegmklafpoldgaaGreatDoor
open Go.GL Go.RowKit Go.Stele
inductive Clo (sb:Nat):Nat→FuncId→Array Value→Array Value→Heap→Prop
 |un:Clo sb 6 229 #[.pointer (some ⟨sb,0,none⟩)] #[] []
 |bin {k bo bs bp bn:Nat} {f:FuncId} {first caps:Array Value} {H:Heap} (h:Clo sb (k+1) f first caps H):Clo sb k 244 #[] #[.pointer (some ⟨bo,0,none⟩),.pointer (some ⟨bs,0,none⟩),.pointer (some ⟨bp,0,none⟩),.pointer (some ⟨bn,0,none⟩)]
   ((bo,.cells 246 [.atom (.func (.func f) first caps)])::(bs,.cells 58 [ptr sb 0])::(bp,.cells 24 [.list ((lvOps k).map str)])::(bn,.cells 4 [bool (decide ((k:Int)=2))])::H)
def PostH {A:Type} (sb:Nat) (T:List Tok) (enc:A→LV) (Hc:Heap) (res:Res A) (r:LRes) (H:Heap):Prop:=match res with
 |.ok v i op=>r=.ret (enc v)∧H=srcH sb T i op::Hc
 |.err l e=>r=.panic (pan l e)∧∃ i op:Nat,H=srcH sb T i op::Hc
def CloC (B0:Nat) (w0:World) (sb:Nat) (T:List Tok) (f:Nat):Prop:=
 ∀ k fn first caps Hc i op r,Clo sb k fn first caps Hc→i≤T.length→op≤100→eLev T f k i op=some r →
  LCalls (KC B0 w0) fn (first.toList.map .atom++caps.toList.map .atom) (srcH sb T i op::Hc) (PostH sb T encE Hc r)
section steps
variable {C:Ctx} {e:Env} {H:Heap} {dst:Option Nat} {ty:TypeId} {pos:String} {aft:Array Edge} {g:Option (Nat×Bool)} {K:LV→Heap→Prop} {X:List PanicEntry→Heap→Prop}
theorem av_nil (a b:List LV) {e:Env}:a++([]:List Operand).map e.ev++b=a++b:=by simp
theorem S.callClo {A:Type} {enc:A→LV} {res:Res A} {sb i op:Nat} {T:List Tok} {fo:Operand} {f:FuncId} [TEnter C.P f] {first caps:Array Value} {ats:Array TypeId} {Hc F:Heap} (hf:e.ev fo=.atom (.func (.func f) first caps)) (hp:Pick (srcH sb T i op) H (F++Hc))
  (hc:LCalls C f (first.toList.map .atom++caps.toList.map .atom) (srcH sb T i op::Hc) (PostH sb T enc Hc res)) (hk:∀ v i' op',res=.ok v i' op'→K (enc v) (srcH sb T i' op'::(F++Hc))) (hx:∀ l er i' op',res=.err l er→X (pan l er) (srcH sb T i' op'::Hc++F)) :
  LStep C ⟨dst,.call { callee:=.value fo,args:=#[],argTypes:=ats },ty,pos,aft,g⟩ e H K X:=by
 have hp':H.Perm ((srcH sb T i op::Hc)++F):=hp.trans (List.Perm.cons _ zPc)
 refine LStep.conseq (K:=fun v H'=>∃ u i' op',res=.ok u i' op'∧v=enc u∧H'=srcH sb T i' op'::Hc++F) (S.callV (H1:=srcH sb T i op::Hc) (F:=F) [] hf (av_nil _ _) hp' hc ?_ ?_) ?_
 ·intro v H' h
  cases hr:res with
  |ok u i' op'=>rw[hr] at h;obtain ⟨h1,rfl⟩:=h;cases h1;exact ⟨u,i',op',rfl,rfl,rfl⟩
  |err l er=>rw[hr] at h;obtain ⟨h1,_⟩:=h;cases h1
 ·intro ch H' h
  cases hr:res with
  |ok u i' op'=>rw[hr] at h;obtain ⟨h1,_⟩:=h;cases h1
  |err l er=>rw[hr] at h;obtain ⟨h1,i',op',rfl⟩:=h;cases h1;exact hx _ _ _ _ hr
 ·rintro v H' ⟨u,i',op',h1,rfl,rfl⟩
  exact ⟨_,_,vR _,⟨[],by simpa using zPc⟩,hk u i' op' h1⟩
end steps
theorem Clo.enter {sb k:Nat} {f:FuncId} {first caps:Array Value} {H:Heap} (h:Clo sb k f first caps H):TEnter Tryz.prog f:=by
 cases h <;> infer_instance
theorem Clo.le {sb k:Nat} {f:FuncId} {first caps:Array Value} {H:Heap} (h:Clo sb k f first caps H):k≤6:=by
 induction h with
 |un=>exact zNr _
 |bin _ ih=>omega
attribute [local irreducible] LOps LCode LStep LCalls Go.GL.Pure QThen QBlock RetPost LQ LAny LLate LLateOp
theorem hsub_clo {s:Nat×LObj} {A B Hc:Heap}:HSub (s::(B++Hc)) ((s::Hc++[])++(A++B)):=by
 refine ⟨A,?_⟩
 have h1:(Hc++(A++B)).Perm ((B++Hc)++A):=zPc.trans (by rw[zAs];exact zPc)
 simpa using List.Perm.cons s h1
theorem hsub_clo2 {s u:Nat×LObj} {A Hc:Heap}:HSub (u::s::(A++Hc)) (u::((s::([]++Hc))++A)):=by
 refine ⟨[],?_⟩
 have h1:(Hc++A).Perm (A++Hc):=zPc
 simpa using List.Perm.cons u (List.Perm.cons s h1)
theorem HSub.appR {H' l1 l2:Heap} (h:HSub H' l2):HSub H' (l1++l2):=by
 obtain ⟨G,hG⟩:=h
 refine ⟨G++l1,?_⟩
 have h1:(l1++l2).Perm (l2++l1):=zPc
 have h2:(l2++l1).Perm ((H'++G)++l1):=hG.append_right l1
 simpa using h1.trans h2
theorem perm_mid {a:Nat×LObj} {l1 l2:Heap}:([]++(l1++a::l2)).Perm ([a]++(l1++l2)):=by
 exact (List.nil_append _).symm▸List.perm_middle
theorem lvOps_le (k:Nat):(lvOps k).length≤1000:=by
 unfold lvOps
 split <;> simp
theorem textAt_eq {T:List Tok} {i:Nat} (h:i<T.length):textAt T i=T[i].text:=by rw[textAt,List.getElem?_eq_getElem h]
section
variable {B0:Nat} {w0:World}
theorem bin_spec (hG:GW B0 w0) (sb:Nat) (T:List Tok) (hT:TOK T) (f:Nat) (hC:∀ g,g<f→CloC B0 w0 sb T g) (k bo bs bp bn:Nat) (fn:FuncId) (first caps:Array Value) (Hc:Heap) (hclo:Clo sb (k+1) fn first caps Hc) (i op:Nat) (r:Res Ex)
  (hi:i≤T.length) (ho:op≤100) (hr:eLev T f k i op=some r) :
  LCalls (KC B0 w0) 244 [ptr bo 0,ptr bs 0,ptr bp 0,ptr bn 0] (srcH sb T i op::(bo,.cells 246 [.atom (.func (.func fn) first caps)])::(bs,.cells 58 [ptr sb 0])::(bp,.cells 24 [.list ((lvOps k).map str)])::(bn,.cells 4 [bool (decide ((k:Int)=2))])::Hc)
   (PostH sb T encE ((bo,.cells 246 [.atom (.func (.func fn) first caps)])::(bs,.cells 58 [ptr sb 0])::(bp,.cells 24 [.list ((lvOps k).map str)])::(bn,.cells 4 [bool (decide ((k:Int)=2))])::Hc) r):=by
 have hl:=hT.len
 have hk6:=hclo.le
 have hen:=hclo.enter
 obtain ⟨f,rfl⟩:∃ g,f=g+1:=by
  cases f with
  |zero=>rw[eLev] at hr;cases hr
  |succ g=>exact ⟨g,rfl⟩
 rw[eLev,if_neg zo] at hr
 obtain ⟨r1,hr1⟩:=obind_is hr
 refine cI Tryz.func244 rfl (n:=38) rfl rfl rfl ?_
 refine gac ?_
 refine oS (sA fun b=>?_) rfl
 refine gjp ?_
 refine oS (S.callClo (F:=[(b,_),(bo,_),(bs,_),(bp,_),(bn,_)]) (Hc:=Hc) rfl zp1 (hC f zo _ _ _ _ _ _ _ r1 hclo hi ho hr1) (fun v i1 op1 h1=>?_) (fun l er i1 op1 h1 e' he'=>?_)) rfl
 ·rw[hr1,h1,obind_ok] at hr
  obtain ⟨g1,_,g3,rfl⟩:=(ex_good T f).1 _ _ _ _ (hr1.trans (congrArg some h1))
  have g4:=g3 hi
  refine oS (sA fun b5=>?_) rfl
  refine gjq ?_
  refine oL (fun q ls H=>∃ (ex:Ex) (i2:Nat),q≤f∧ls=[(0,ptr bo 0),(1,ptr bs 0),(2,ptr bp 0),(3,ptr bn 0),(4,ptr b 0),(5,ptr b5 0)] ∧
    H=(b5,.cells 170 [str (exOp ex),int .u32 (exNum ex),str (exName ex),.list (encArgs ex)])::srcH sb T i2 op1::(b,.cells 170 [str [],int .u32 0,str [],nilSlice])::([(bo,.cells 246 [.atom (.func (.func fn) first caps)]),(bs,.cells 58 [ptr sb 0]),(bp,.cells 24 [.list ((lvOps k).map str)]),(bn,.cells 4 [bool (decide ((k:Int)=2))])]++Hc)∧i2≤T.length∧eLoop T q k ex i2 op1=some r)
   ⟨f,_,_,⟨v,i1,zNr _,rfl,rfl,g4,hr⟩,⟨rfl,rfl,rfl,rfl,rfl,rfl,trivial⟩,zhR _⟩ ?_
  rintro q ls H ⟨ex,i2,hqf,rfl,rfl,hi2,hI⟩ j hj
  obtain ⟨q,rfl⟩:∃ q',q=q'+1:=by
   cases q with
   |zero=>rw[eLoop] at hI;cases hI
   |succ q=>exact ⟨q,rfl⟩
  rw[eLoop] at hI
  refine gjr ?_
  refine oS (sH [_,_] rfl zp1 (is_spec sb T i2 op1 (lvOps k) hl zo (lvOps_le k)) ?_) rfl
  refine gaq ?_
  refine oC rfl (fun hc=>?_) (fun hc=>?_)
  ·have hlt:=isTok_lt hc
   rw[if_pos hc] at hI
   refine gey ?_
   refine cC [(0,ptr bo 0),(1,ptr bs 0),(2,ptr bp 0),(3,ptr bn 0),(4,ptr b 0),(5,ptr b5 0),(6,str (textAt T i2))] ?_ (fun j2 hj2=>?_)
   ·refine LCode.quiet zk ?_
    refine gjs ?_
    refine qP (xR (el':=encTok T[i2]) (cs:=[_,_,_]) rfl rfl zo (map_get _ _ _ hlt) rfl rfl) rfl ?_
    refine gc2 ?_
    exact ⟨⟨rfl,rfl,rfl,rfl,rfl,rfl,str_eq (textAt_eq hlt).symm,trivial⟩,rfl,rfl⟩
   ·obtain ⟨r2,hr2⟩:=obind_is hI
    refine gjt ?_
    refine cD (m:=7) rfl [(bo,.cells 246 [.atom (.func (.func fn) first caps)])] ?_
    have hHF:HSub [(bo,.cells 246 [.atom (.func (.func fn) first caps)])] (srcH sb T (i2+1) op1::(b5,.cells 170 [str (exOp ex),int .u32 (exNum ex),str (exName ex),.list (encArgs ex)])::(b,.cells 170 [str [],int .u32 0,str [],nilSlice])::(bo,.cells 246 [.atom (.func (.func fn) first caps)])::[(bs,.cells 58 [ptr sb 0]),(bp,.cells 24 [.list ((lvOps k).map str)]),(bn,.cells 4 [bool (decide ((k:Int)=2))])]++Hc):=zhP zp3 zhn
    refine LAny.take (i:=0) hHF rfl zk zk zk rfl (pM (lv:=.atom _) rfl) ?_
    refine LAny.take (i:=2) hHF rfl zk zk zk rfl (pL (c:=.atom _) rfl zm0 rfl) ?_
    refine aL ?_ hHF
    refine zl2 (i:=1) (j:=3) zk ?_ ?_
    ·have hperm:(srcH sb T (i2+1) op1::(b5,LObj.cells 170 [str (exOp ex),int .u32 (exNum ex),str (exName ex),.list (encArgs ex)])::(b,LObj.cells 170 [str [],int .u32 0,str [],nilSlice])::([(bo,LObj.cells 246 [.atom (.func (.func fn) first caps)]),(bs,LObj.cells 58 [ptr sb 0]),(bp,LObj.cells 24 [.list ((lvOps k).map str)]),(bn,LObj.cells 4 [bool (decide ((k:Int)=2))])]++Hc)).Perm ((srcH sb T (i2+1) op1::Hc)++[(b5,LObj.cells 170 [str (exOp ex),int .u32 (exNum ex),str (exName ex),.list (encArgs ex)]),(b,LObj.cells 170 [str [],int .u32 0,str [],nilSlice]),(bo,LObj.cells 246 [.atom (.func (.func fn) first caps)]),(bs,LObj.cells 58 [ptr sb 0]),(bp,LObj.cells 24 [.list ((lvOps k).map str)]),(bn,LObj.cells 4 [bool (decide ((k:Int)=2))])]):=List.Perm.cons _ (show ([(b5,LObj.cells 170 [str (exOp ex),int .u32 (exNum ex),str (exName ex),.list (encArgs ex)]),(b,LObj.cells 170 [str [],int .u32 0,str [],nilSlice]),(bo,LObj.cells 246 [.atom (.func (.func fn) first caps)]),(bs,LObj.cells 58 [ptr sb 0]),(bp,LObj.cells 24 [.list ((lvOps k).map str)]),(bn,LObj.cells 4 [bool (decide ((k:Int)=2))])]++Hc).Perm (Hc++[(b5,LObj.cells 170 [str (exOp ex),int .u32 (exNum ex),str (exName ex),.list (encArgs ex)]),(b,LObj.cells 170 [str [],int .u32 0,str [],nilSlice]),(bo,LObj.cells 246 [.atom (.func (.func fn) first caps)]),(bs,LObj.cells 58 [ptr sb 0]),(bp,LObj.cells 24 [.list ((lvOps k).map str)]),(bn,LObj.cells 4 [bool (decide ((k:Int)=2))])]) from zPc)
     refine lH rfl rfl (pG (cs':=[_,_,_,_]) rfl zm1 rfl rfl) ?_
     refine lO 3 (lS (H1:=srcH sb T (i2+1) op1::Hc) (F:=[(b5,LObj.cells 170 [str (exOp ex),int .u32 (exNum ex),str (exName ex),.list (encArgs ex)]),(b,LObj.cells 170 [str [],int .u32 0,str [],nilSlice]),(bo,LObj.cells 246 [.atom (.func (.func fn) first caps)]),(bs,LObj.cells 58 [ptr sb 0]),(bp,LObj.cells 24 [.list ((lvOps k).map str)]),(bn,LObj.cells 4 [bool (decide ((k:Int)=2))])]) rfl (.inl rfl) rfl (hperm) (zhP zp2 zhn) (S.callClo (F:=[]) (Hc:=Hc) rfl pH (hC q zo _ _ _ _ _ _ _ r2 hclo zo ho hr2) (fun e2 i3 op3 h3=>?_) (fun l er i3 op3 h3 e' he'=>?_)))
     ·rw[hr2,h3,obind_ok] at hI
      obtain ⟨q1,q2,q3,rfl⟩:=(ex_good T q).1 _ _ _ _ (hr2.trans (congrArg some h3))
      have q4:=q3 zo
      refine lO 4 (lS (H1:=[]) (F:=(srcH sb T i3 op3::([]++Hc))++[(b5,LObj.cells 170 [str (exOp ex),int .u32 (exNum ex),str (exName ex),.list (encArgs ex)]),(b,LObj.cells 170 [str [],int .u32 0,str [],nilSlice]),(bo,LObj.cells 246 [.atom (.func (.func fn) first caps)]),(bs,LObj.cells 58 [ptr sb 0]),(bp,LObj.cells 24 [.list ((lvOps k).map str)]),(bn,LObj.cells 4 [bool (decide ((k:Int)=2))])]) rfl (.inl rfl) rfl zpr (HSub.appR (zhP zp2 zhn)) (sL (es:=[encE ex,encE e2]) [_,_] rfl (eC rfl rfl (eC rfl rfl eN)) rfl rfl rfl ?_))
      refine lO 5 (lH rfl rfl (pB _ (cs:=[_,_,_,_]) rfl) ?_)
      refine lO 6 (lS (H1:=[(b5,LObj.cells 170 [str (exOp ex),int .u32 (exNum ex),str (exName ex),.list (encArgs ex)])]) (F:=(srcH sb T i3 op3::([]++Hc))++[(b,LObj.cells 170 [str [],int .u32 0,str [],nilSlice]),(bo,LObj.cells 246 [.atom (.func (.func fn) first caps)]),(bs,LObj.cells 58 [ptr sb 0]),(bp,LObj.cells 24 [.list ((lvOps k).map str)]),(bn,LObj.cells 4 [bool (decide ((k:Int)=2))])]) rfl (.inl rfl) rfl perm_mid (HSub.appR (zhP zp1 zhn)) (sS (cs':=[_,_,_,_]) rfl pH rfl rfl rfl rfl rfl ?_))
      refine lD zk ?_
      refine qN ?_
      refine cW (H':=(b5,LObj.cells 170 [str (textAt T i2),int .u32 0,str [],.list [encE ex,encE e2]])::srcH sb T i3 op3::(b,LObj.cells 170 [str [],int .u32 0,str [],nilSlice])::([(bo,LObj.cells 246 [.atom (.func (.func fn) first caps)]),(bs,LObj.cells 58 [ptr sb 0]),(bp,LObj.cells 24 [.list ((lvOps k).map str)]),(bn,LObj.cells 4 [bool (decide ((k:Int)=2))])]++Hc)) (hsub_clo2 (A:=[(b,LObj.cells 170 [str [],int .u32 0,str [],nilSlice]),(bo,LObj.cells 246 [.atom (.func (.func fn) first caps)]),(bs,LObj.cells 58 [ptr sb 0]),(bp,LObj.cells 24 [.list ((lvOps k).map str)]),(bn,LObj.cells 4 [bool (decide ((k:Int)=2))])])) ?_
      refine gez ?_
      refine oC rfl (fun hk2=>?_) (fun hk2=>?_)
      ·exact zT22
      ·exact zT17
     ·exact zT7
    ·have hperm:(srcH sb T (i2+1) op1::(b5,LObj.cells 170 [str (exOp ex),int .u32 (exNum ex),str (exName ex),.list (encArgs ex)])::(b,LObj.cells 170 [str [],int .u32 0,str [],nilSlice])::([(bo,LObj.cells 246 [.atom (.func (.func fn) first caps)]),(bs,LObj.cells 58 [ptr sb 0]),(bp,LObj.cells 24 [.list ((lvOps k).map str)]),(bn,LObj.cells 4 [bool (decide ((k:Int)=2))])]++Hc)).Perm ((srcH sb T (i2+1) op1::Hc)++[(b5,LObj.cells 170 [str (exOp ex),int .u32 (exNum ex),str (exName ex),.list (encArgs ex)]),(b,LObj.cells 170 [str [],int .u32 0,str [],nilSlice]),(bo,LObj.cells 246 [.atom (.func (.func fn) first caps)]),(bs,LObj.cells 58 [ptr sb 0]),(bp,LObj.cells 24 [.list ((lvOps k).map str)]),(bn,LObj.cells 4 [bool (decide ((k:Int)=2))])]):=List.Perm.cons _ (show ([(b5,LObj.cells 170 [str (exOp ex),int .u32 (exNum ex),str (exName ex),.list (encArgs ex)]),(b,LObj.cells 170 [str [],int .u32 0,str [],nilSlice]),(bo,LObj.cells 246 [.atom (.func (.func fn) first caps)]),(bs,LObj.cells 58 [ptr sb 0]),(bp,LObj.cells 24 [.list ((lvOps k).map str)]),(bn,LObj.cells 4 [bool (decide ((k:Int)=2))])]++Hc).Perm (Hc++[(b5,LObj.cells 170 [str (exOp ex),int .u32 (exNum ex),str (exName ex),.list (encArgs ex)]),(b,LObj.cells 170 [str [],int .u32 0,str [],nilSlice]),(bo,LObj.cells 246 [.atom (.func (.func fn) first caps)]),(bs,LObj.cells 58 [ptr sb 0]),(bp,LObj.cells 24 [.list ((lvOps k).map str)]),(bn,LObj.cells 4 [bool (decide ((k:Int)=2))])]) from zPc)
     refine (lS (H1:=srcH sb T (i2+1) op1::Hc) (F:=[(b5,LObj.cells 170 [str (exOp ex),int .u32 (exNum ex),str (exName ex),.list (encArgs ex)]),(b,LObj.cells 170 [str [],int .u32 0,str [],nilSlice]),(bo,LObj.cells 246 [.atom (.func (.func fn) first caps)]),(bs,LObj.cells 58 [ptr sb 0]),(bp,LObj.cells 24 [.list ((lvOps k).map str)]),(bn,LObj.cells 4 [bool (decide ((k:Int)=2))])]) rfl (.inl rfl) rfl (hperm) (zhP zp2 zhn) (S.callClo (F:=[]) (Hc:=Hc) rfl pH (hC q zo _ _ _ _ _ _ _ r2 hclo zo ho hr2) (fun e2 i3 op3 h3=>?_) (fun l er i3 op3 h3 e' he'=>?_)))
     ·rw[hr2,h3,obind_ok] at hI
      obtain ⟨q1,q2,q3,rfl⟩:=(ex_good T q).1 _ _ _ _ (hr2.trans (congrArg some h3))
      have q4:=q3 zo
      refine lO 1 (lH rfl rfl (pG (cs':=[_,_,_,_]) rfl (List.mem_append_right _ zm0) rfl rfl) ?_)
      refine lO 4 (lS (H1:=[]) (F:=(srcH sb T i3 op3::([]++Hc))++[(b5,LObj.cells 170 [str (exOp ex),int .u32 (exNum ex),str (exName ex),.list (encArgs ex)]),(b,LObj.cells 170 [str [],int .u32 0,str [],nilSlice]),(bo,LObj.cells 246 [.atom (.func (.func fn) first caps)]),(bs,LObj.cells 58 [ptr sb 0]),(bp,LObj.cells 24 [.list ((lvOps k).map str)]),(bn,LObj.cells 4 [bool (decide ((k:Int)=2))])]) rfl (.inl rfl) rfl zpr (HSub.appR (zhP zp2 zhn)) (sL (es:=[encE ex,encE e2]) [_,_] rfl (eC rfl rfl (eC rfl rfl eN)) rfl rfl rfl ?_))
      refine lO 5 (lH rfl rfl (pB _ (cs:=[_,_,_,_]) rfl) ?_)
      refine lO 6 (lS (H1:=[(b5,LObj.cells 170 [str (exOp ex),int .u32 (exNum ex),str (exName ex),.list (encArgs ex)])]) (F:=(srcH sb T i3 op3::([]++Hc))++[(b,LObj.cells 170 [str [],int .u32 0,str [],nilSlice]),(bo,LObj.cells 246 [.atom (.func (.func fn) first caps)]),(bs,LObj.cells 58 [ptr sb 0]),(bp,LObj.cells 24 [.list ((lvOps k).map str)]),(bn,LObj.cells 4 [bool (decide ((k:Int)=2))])]) rfl (.inl rfl) rfl perm_mid (HSub.appR (zhP zp1 zhn)) (sS (cs':=[_,_,_,_]) rfl pH rfl rfl rfl rfl rfl ?_))
      refine lD zk ?_
      refine qN ?_
      refine cW (H':=(b5,LObj.cells 170 [str (textAt T i2),int .u32 0,str [],.list [encE ex,encE e2]])::srcH sb T i3 op3::(b,LObj.cells 170 [str [],int .u32 0,str [],nilSlice])::([(bo,LObj.cells 246 [.atom (.func (.func fn) first caps)]),(bs,LObj.cells 58 [ptr sb 0]),(bp,LObj.cells 24 [.list ((lvOps k).map str)]),(bn,LObj.cells 4 [bool (decide ((k:Int)=2))])]++Hc)) (hsub_clo2 (A:=[(b,LObj.cells 170 [str [],int .u32 0,str [],nilSlice]),(bo,LObj.cells 246 [.atom (.func (.func fn) first caps)]),(bs,LObj.cells 58 [ptr sb 0]),(bp,LObj.cells 24 [.list ((lvOps k).map str)]),(bn,LObj.cells 4 [bool (decide ((k:Int)=2))])])) ?_
      refine gez ?_
      refine oC rfl (fun hk2=>?_) (fun hk2=>?_)
      ·exact zT22
      ·exact zT17
     ·exact zT7
  ·have hc':isTok T i2 (lvOps k)=false:=hc
   rw[if_neg (by rw[hc'];decide)] at hI
   refine gju ?_
   exact rR hj (rC (rA rfl zm0 rfl zsr) rN) (zhD (zhP pH (zhD zhr))) (by cases hI;exact ⟨rfl,rfl⟩)
 ·rw[hr1,h1,obind_err] at hr
  refine gad ?_
  refine RetPost.panic (he'.trans rfl) (H':=srcH sb T i1 op1::(bo,.cells 246 [.atom (.func (.func fn) first caps)])::(bs,.cells 58 [ptr sb 0])::(bp,.cells 24 [.list ((lvOps k).map str)])::(bn,.cells 4 [bool (decide ((k:Int)=2))])::Hc) ?_ (by cases hr;exact ⟨rfl,i1,op1,rfl⟩)
  exact zhP pH ⟨[(b,_)],zPc.trans (by exact List.Perm.refl _ |>.trans (List.perm_append_singleton _ _).symm)⟩
end
end Go.Proofs.YtegmklafpoldgaaGreatDoor
namespace Go.GL
open Go.RowKit
def noDefer:Op→Bool
 |.defer _=>false
 |_=>true
theorem callsIn_round {l n:Nat} {P:Program} {f:FuncId} {args:Array Value} {w:World} {R:Ending→World→Prop} (h:Calls P f args w R):CallsIn (Fence.wide.inRound l) n P f args w R:=(callsIn_wide (n:=n)).2 h
theorem rowsIn_round {l n:Nat} {P:Program} {row:String} {args:Array Value} {w:World} {R:Value→World→Prop} (h:Rows P row args w R):RowsIn (Fence.wide.inRound l) n P row args w R:=fun c cs _=>
 let ⟨v,w',r,s⟩:=h c cs
 ⟨v,w',r,stepsIn_wide.2 s⟩
theorem operIn_round {l n:Nat} {P:Program} {o:Oper} {a:Act} {w:World} {next next':Act→World→Prop} {Q:Exit→Act→World→Prop} (ho:noDefer o.op=true)
  (hn:∀ a w,next a w→next' a w) (h:o.wp P a w next Q):o.wpIn (Fence.wide.inRound l) n P a w next' Q:=by
 refine ⟨fun _ _=>trivial,?_⟩
 have hs:o.semAt (Fence.wide.inRound l).round a.eval=execOp a.eval o:=Oper.semAt_eq _ _ _ fun c hc=>by rw[hc] at ho;cases ho
 rw[hs]
 unfold Oper.wp at h
 revert h
 generalize (execOp a.eval o).run P w=r
 intro h
 cases r with
 |ok x w'=>
  cases x with
  |value v=>exact hn _ _ h
  |skip=>exact hn _ _ h
  |defer d=>exact hn _ _ h
  |enter f args=>
   refine ⟨fun hd=>(by cases hd),callsIn_round (Calls.mono h ?_)⟩
   intro e w'' he
   cases e with
   |returned v=>exact hn _ _ he
   |panicked ch=>exact he
   |outgrown=>exact he
  |row row args=>
   refine ⟨fun hd=>(by cases hd),rowsIn_round (Rows.mono h ?_)⟩
   intro v w'' he
   exact hn _ _ he
  |_=>exact h.elim
 |halt x w'=>
  cases x <;> first|exact h|exact h.elim
theorem listIn_round {l n:Nat} {P:Program} {ops:Array Oper} {Q:Exit→Act→World→Prop} (hQ:¬ LetsOut Q):∀ (rest:List Oper) (a:Act) (w:World),(∀ o∈rest,noDefer o.op=true)→wpList P ops Q rest a w→wpListIn (Fence.wide.inRound l) n P ops Q rest a w
 |[],_,_,_,h=>h
 |o::rest,a,w,ho,h=>by
  unfold wpList at h
  unfold wpListIn
  split at h
  ·rename_i hw
   rw[if_pos hw]
   rcases h with h|⟨_,h⟩
   ·exact operIn_round (ho o List.mem_cons_self) (fun a w h=>listIn_round hQ rest a w (fun o h=>ho o (zMo _ h)) h) h
   ·exact absurd h hQ
  ·rename_i hw
   rw[if_neg hw]
   exact ⟨fun _ _=>trivial,listIn_round hQ rest _ _ (fun o h=>ho o (zMo _ h)) h⟩
theorem regionIn_round {l n id:Nat} {P:Program} {ops:List Oper} {Q:Exit→Act→World→Prop} {a:Act} {w:World} (hQ:¬ LetsOut Q) (ho:ops.all (fun o=>noDefer o.op)=true) (h:wpList P ops.toArray Q ops a w) :
  (Code.region id ops.toArray false).wpIn (Fence.wide.inRound l) n P Q a w:=wpIn_region_lit (listIn_round hQ ops a w (by simpa using ho) h)
end Go.GL
/- A small logic over the walk's 'Code.wp': a range over a function whose rounds all go on. -/
namespace Go.GL
open Go.RowKit
theorem turn_obj {C:Ctx} {w:World} {L:Live} {b:Nat} {o o':Obj} {F:Heap} (hH:RelH C w L ((b,.obj o)::F)) (ho':noCells o'=true) :
  Fr (keys ((b,LObj.obj o)::F)) w L (w.putObj b o') L ((b,.obj o')::F)∧RelH C (w.putObj b o') L ((b,.obj o')::F):=by
 have h1:RelH C w L ([(b,.obj o)]++F):=hH
 have hlt:b<w.heap.size:=(hH.objs _ List.mem_cons_self).2.1
 have h2:Left C w L [(b,.obj o)] (w.putObj b o') undef (fun _ H'=>H'=[(b,.obj o')]):=
  left_obj (w':=w.putObj b o') h1.left ho' rfl rfl rfl (by simp[World.putObj]) (fun c hc=>World.putObj_heap_other hc) (World.putObj_heap_same hlt) (v:=undef) (lv:=.atom undef) (fun _=>rep_atom) rfl
 obtain ⟨lv,H',L',g1,g2,g3,rfl⟩:=h2
 have hL:L'=L:=by
  funext c
  obtain ⟨_,_,hl,_⟩:=h1.left.objs _ List.mem_cons_self
  obtain ⟨_,_,hl',_⟩:=g2.objs _ List.mem_cons_self
  by_cases he:c=b
  ·subst he;rw[hl,hl']
  ·rcases Nat.lt_or_ge c w.heap.size with hc|hc
   ·exact g1.lsame c hc (by simpa using he)
   ·rw[h1.wf c hc,g2.wf c (by simpa [World.putObj] using hc)]
 subst hL
 have:=h1.frame g1 g2
 exact ⟨this.2,this.1⟩
theorem alloc_obj {C:Ctx} {w:World} {L:Live} {o:Obj} {F:Heap} (hH:RelH C w L F) (ho:noCells o=true) :
  ∃ L',Fr (keys F) w L (w.alloc o) L' ((w.heap.size,.obj o)::F)∧RelH C (w.alloc o) L' ((w.heap.size,.obj o)::F):=by
 have h1:RelH C w L ([]++F):=hH
 have:=fr_push h1.left o 0 [(w.heap.size,.obj o)] (fun p hp=>by
  simp only[List.mem_singleton] at hp
  subst hp
  exact ⟨rfl,by simp[Live.upd],heap_push_self,shape_none heap_push_self ho⟩) (by simp)
 have:=h1.frame this.1 this.2
 exact ⟨_,this.2,this.1⟩
def LCodeR (C:Ctx) (l n:Nat) (c:Code) (Q:Post) (e:Env) (H:Heap):Prop:=
 ∀ a w L,RelE n a e w L→RelH C w L H→∀ m,c.wpIn (Fence.wide.inRound l) m C.P (lift C n w L (keys H) Q) a w
def QOn (k:Env→Heap→Prop):Post
 |.normal,e,H=>k e H
 |_,_,_=>False
section round
variable {C:Ctx} {l n:Nat} {e:Env} {H:Heap} {k:Env→Heap→Prop}
theorem LCodeR.region {id:Nat} {ops:List Oper} (ho:ops.all (fun o=>noDefer o.op)=true) (h:LOps C n ops.toArray (QThen k (QOn k)) ops e H):LCodeR C l n (.region id ops.toArray false) (QOn k) e H:=fun a w L hE hH m=>by
 refine regionIn_round ?_ ho (wpList_mono ?_ _ _ _ (h a w L hE hH))
 ·rintro ⟨a',w',e',H',L',_,_,_,hq⟩
  exact hq
 ·rintro ex a' w' hq
  refine lift_mono ?_ hq
  intro x e H h
  cases x <;> exact h
theorem LCodeR.seq {x y:Code} (h:LCodeR C l n x (QOn fun e H=>LCodeR C l n y (QOn k) e H) e H):LCodeR C l n (.seq x y) (QOn k) e H:=fun a w L hE hH m=>by
 refine wpIn_seq (wpIn_mono (h a w L hE hH m) fun ex a' w' hq=>?_)
 obtain ⟨e',H',L',h1,h2,h3,h4⟩:=hq
 cases ex with
 |normal=>exact wpIn_mono (h4 a' w' L' h3 h2 m) fun _ _ _=>lift_trans h1
 |exit id=>exact h4.elim
 |goto id=>exact h4.elim
 |ret=>exact h4.elim
 |panic ch=>exact h4.elim
 |outgrown=>exact h4.elim
theorem LCodeR.block {id:Nat} {c:Code} (h:LCodeR C l n c (QOn k) e H):LCodeR C l n (.block id c) (QOn k) e H:=fun a w L hE hH m=>by
 refine wpIn_block (wpIn_mono (h a w L hE hH m) fun ex a' w' hq=>?_)
 obtain ⟨e',H',L',h1,h2,h3,h4⟩:=hq
 cases ex with
 |normal=>exact ⟨e',H',L',h1,h2,h3,h4⟩
 |exit id=>exact h4.elim
 |goto id=>exact h4.elim
 |ret=>exact h4.elim
 |panic ch=>exact h4.elim
 |outgrown=>exact h4.elim
end round
theorem yieldAt_mono {F:Fence} {m:Nat} {P:Program} {l:Nat} {args:Array Value} {W:World} {R R':Ending→World→Prop} (h:YieldAt F m P l args W R) (hr:∀ e w,R e w→R' e w):YieldAt F m P l args W R':=by
 obtain ⟨fn,tmps,assign,body,hy,hR⟩:=h
 exact ⟨fn,tmps,assign,body,hy,hR.mono hr⟩
def LYield (C:Ctx) (l:Nat) (args:List LV) (H:Heap) (K:Heap→Prop):Prop:=
 ∀ (vs:List Value) w L,RepL w L args vs→RelH C w L H→∀ m,YieldAt Fence.wide m C.P l vs.toArray w fun e w'=>e=.returned (.bool true)∧LeftX C w L H w' K
theorem LYield.frame {C:Ctx} {l:Nat} {args:List LV} {G H F:Heap} {K:Heap→Prop} (p:G.Perm (H++F)) (h:LYield C l args H fun H'=>K (H'++F)):LYield C l args G K:=fun vs w L h1 h2 m=>by
 have h3:=h2.perm p
 refine yieldAt_mono (h vs w L h1 h3.left m) ?_
 rintro e w' ⟨he,hx⟩
 obtain ⟨H',L',g1,g2,g3⟩:=LeftX.frame h3 hx
 exact ⟨he,H',L',g1.perm p.symm,g2,g3⟩
theorem LYield.mono {C:Ctx} {l:Nat} {args:List LV} {H:Heap} {K K':Heap→Prop} (h:LYield C l args H K) (hk:∀ H,K H→K' H):LYield C l args H K':=fun vs w L h1 h2 m=>yieldAt_mono (h vs w L h1 h2 m) fun _ _ hx=>⟨hx.1,hx.2.mono hk⟩
def LIter (C:Ctx) (gf:FuncId) (caps:List LV) (Hc:Heap) (N:Nat) (xs:Nat→List LV):Prop:=
 ∀ (l:Nat) (J:Nat→Heap→Prop),(∀ k H,k<N→J k H→LYield C l (xs k) H (J (k+1)))→∀ H0,J 0 H0 →
  LCalls C gf (.atom (.func (.yield l) #[] #[])::caps) (H0++Hc) (fun r H'=>(∃ v,r=.ret v)∧∃ H1,H'=H1++Hc∧J N H1)
def Env.round (j:Env):List (Nat×LV)→Env
 |[]=>j
 |(d,v)::r=>Env.round (j.upd d v) r
theorem RelE.rounds {n:Nat} {w:World} {L:Live}:∀ (ps:List Nat) (lvs:List LV) (vs:List Value) (tmps:Array Value) (j:Env),RelE n { tmps,defers:=[] } j w L→RepL w L lvs vs→ps.length=lvs.length→ps.all (fun p=>Nat.blt p n)=true →
  RelE n { tmps:=(ps.zip vs).foldl (fun t p=>t.setIfInBounds p.1 p.2) tmps,defers:=[] } (Env.round j (ps.zip lvs)) w L
 |[],lvs,vs,tmps,j,h,_,_,_=>by simpa [Env.round] using h
 |p::ps,[],vs,tmps,j,h,_,hl,_=>by simp at hl
 |p::ps,lv::lvs,vs,tmps,j,h,hr,hl,hp=>by
  simp only[RepL] at hr
  obtain ⟨y,ys,rfl,hy,hr⟩:=hr
  simp only[List.all_cons,zBa] at hp
  have:=RelE.put (dst:=some p) h (by simp only[dstOk,dstB];exact hp.1) hy
  simp only[List.zip_cons_cons,List.foldl_cons,Env.round]
  exact RelE.rounds ps lvs ys _ _ this hr (by simpa using hl) hp.2
def Act.flat (a:Act):Env:=⟨fun i=>.atom (a.tmps.getD i undef),[]⟩
theorem Act.flat_rel {n:Nat} {a:Act} {w:World} {L:Live} (hn:a.tmps.size=n):RelE n { tmps:=a.tmps,defers:=[] } (Act.flat a) w L:=⟨hn,rfl,fun _=>rep_atom⟩
section range
variable {C:Ctx} {n:Nat} {e:Env} {H:Heap} {Q:Post}
theorem LCode.rangeFunc {g:Operand} {ps:List Nat} {assign body:Code} {gf:FuncId} [TEnter C.P gf] {caps:Array Value} (hg:e.ev g=.atom (.func (.func gf) #[] caps)) (N:Nat) (xs:Nat→List LV) (H0 Hc:Heap) (hp:H.Perm (H0++Hc))
  (hiter:LIter C gf (caps.toList.map .atom) Hc N xs) (hps:∀ k,k<N→ps.length=(xs k).length) (hpn:ps.all (fun p=>Nat.blt p n)=true)
  (J:Nat→Heap→Prop) (h0:J 0 H0)
  (round:∀ k H,k<N→J k H→∀ j:Env,j.ds=[]→(∀ i v,e.s i=.atom v→j.s i=.atom v)→∀ (l D:Nat) (o oD:LObj),LCodeR C l n assign (QOn fun e1 H1=>e1.ds=[]∧∃ H1',H1=(l,o)::(D,oD)::H1'∧(∀ o':LObj,LCodeR C l n body (QOn fun _ H2=>∃ H2',HSub ((l,o')::(D,oD)::H2') H2∧J (k+1) H2') e1 ((l,o')::(D,oD)::H1'))) (Env.round j (ps.zip (xs k))) ((l,o)::(D,oD)::H))
  (done:∀ D H',J N H'→Q .normal ⟨e.s,{ target:=.collected D,args:=#[] }::e.ds⟩ ((D,.obj (.deferred (some [])))::(H'++Hc))) :
  LCode C n (.rangeFunc g ps.toArray assign body) Q e H:=fun a w L hE hH=>by
 refine wpIn_wide (n:=1) |>.1 (wpIn_rangeFunc fun fn _=>?_)
 have hgv:a.eval g=.func (.func gf) #[] caps:=by
  have:=hE.ev g
  rw[hg] at this
  simpa only[Rep] using this
 obtain ⟨rec,hrec⟩:∃ rec:LoopState→Option Code→Loop,rec=fun st pe=>{ state:=st,pending:=pe,fn,tmps:=a.tmps,params:=ps.toArray,assign,body,defers:=w.heap.size }:=⟨_,rfl⟩
 obtain ⟨L1,f1,r1⟩:=alloc_obj (o:=.deferred (some [])) (hH.perm hp) rfl
 obtain ⟨L2,f2,r2⟩:=alloc_obj (o:=.loop (rec .ready none)) r1 rfl
 have hsz:(w.alloc (.deferred (some []))).heap.size=w.heap.size+1:=World.size_alloc ..
 rw[hsz] at f2 r2
 have hrec0:rec .ready none={ state:=.ready,pending:=none,fn,tmps:=a.tmps,params:=ps.toArray,assign,body,defers:=w.heap.size }:=by rw[hrec]
 refine ⟨w.heap.size+1,[{ target:=.collected w.heap.size,args:=#[] }],(w.alloc (.deferred (some []))).alloc (.loop (rec .ready none)),{ target:=.fn (.func gf) caps,args:=#[.func (.yield (w.heap.size+1)) #[] #[]] },(w.alloc (.deferred (some []))).alloc (.loop (rec .ready none)),gf,
  #[.func (.yield (w.heap.size+1)) #[] #[]]++caps,(w.alloc (.deferred (some []))).alloc (.loop (rec .ready none)),?_,?_,fun _ _=>trivial,?_,fun _=>zNr _,callsIn_wide.2 ?_⟩
 ·rw[hrec0];exact run_enterLoop_outer _ _ _ _ _
 ·simp only[resolve,hgv]
  simp[go_sem]
 ·simp only[invoke]
  exact run_callFunc _ _
 ·obtain ⟨l,hl⟩:∃ l,l=w.heap.size+1:=⟨_,rfl⟩
  obtain ⟨D,hD⟩:∃ D,D=w.heap.size:=⟨_,rfl⟩
  rw[←hl,←hD] at f2 r2 ⊢
  rw[←hD] at r1 f1
  have hc:=hiter l (fun k H=>∃ H1,H=(l,.obj (.loop (rec .ready none)))::(D,.obj (.deferred (some [])))::H1∧J k H1) ?_ ((l,.obj (.loop (rec .ready none)))::(D,.obj (.deferred (some [])))::H0) ⟨H0,rfl,h0⟩
  ·have h1:=hc (.func (.yield l) #[] #[]::caps.toList) _ L2 (by simp only[RepL,Rep];exact ⟨_,_,rfl,rfl,repL_atoms _⟩) r2
   have e1:(Value.func (.yield l) #[] #[]::caps.toList).toArray=#[.func (.yield l) #[] #[]]++caps:=by
    apply Array.ext'
    simp
   rw[e1] at h1
   refine Calls.mono h1 ?_
   rintro ex w' hx
   cases ex with
   |returned v=>
    obtain ⟨lv,H',L',g1,g2,g3,_,H1,rfl,H1',rfl,hJ⟩:=hx
    have g2':RelH C w' L' ((l,.obj (.loop (rec .ready none)))::((D,.obj (.deferred (some [])))::(H1'++Hc))):=g2
    obtain ⟨_,_,_,hlo,_⟩:=g2'.objs _ List.mem_cons_self
    have hlo':w'.heap[l]? = some (.loop (rec .ready none)):=hlo
    have hpe:(rec .ready none).pending=none:=by rw[hrec]
    have hend:=(run_endLoop (P:=C.P) hlo' (by rw[hrec];simp)).trans (congrArg (fun p=>Result.ok p _) hpe)
    have ht:=turn_obj (o':=.loop { rec .ready none with state:=.exhausted }) g2' rfl
    refine ⟨none,_,hend,?_⟩
    have hs:HSub ((D,LObj.obj (.deferred (some [])))::(H1'++Hc)) ((l,.obj (.loop { rec .ready none with state:=.exhausted }))::((D,.obj (.deferred (some [])))::(H1'++Hc))):=zhD zhr
    refine ⟨⟨e.s,{ target:=.collected D,args:=#[] }::e.ds⟩,(D,.obj (.deferred (some [])))::(H1'++Hc),L',?_,ht.2.weak hs,⟨?_,?_,?_⟩,done D H1' hJ⟩
    ·exact Fr.perm hp.symm ((f1.trans (f2.trans (g1.trans ht.1))).weak hs)
    ·exact hE.size
    ·show _::a.defers=_
     rw[hE.ds]
    ·exact fun i=>(hE.vals i).mono (f1.ext.trans (f2.ext.trans (g1.ext.trans ht.1.ext))) _ _
   |panicked ch=>
    obtain ⟨H',L',g1,g2,⟨v,hv⟩,_⟩:=hx
    cases hv
   |outgrown=>exact hx.elim
  ·rintro k H hk ⟨H1,rfl,hJ⟩ vs w1 Lw hvs hr m
   obtain ⟨_,_,_,hlo,_⟩:=hr.objs _ List.mem_cons_self
   have hlo':w1.heap[l]? = some (.loop (rec .ready none)):=hlo
   have hlen:=hvs.length
   have hpk:=hps k hk
   have hy:=run_yield (P:=C.P) (args:=vs.toArray) hlo' (by rw[hrec];simp;omega)
   rw[hrec] at hy
   refine ⟨fn,_,assign,body,hy,roundIn_of_wpIn trivial ?_⟩
   have htm:RelE n { tmps:=a.tmps,defers:=[] } (Act.flat a) w1 Lw:=Act.flat_rel hE.size
   have htm2:=RelE.rounds ps (xs k) vs a.tmps (Act.flat a) htm hvs hpk hpn
   have e2:(ps.toArray.zip vs.toArray).foldl (fun tmps (t,a)=>tmps.setIfInBounds t a) a.tmps=(ps.zip vs).foldl (fun t p=>t.setIfInBounds p.1 p.2) a.tmps:=by
    simp
   simp only[e2]
   refine wpIn_mono (round k H1 hk hJ (Act.flat a) rfl ?_ l D _ _ _ w1 Lw htm2 hr m) ?_
   ·intro i v hv
    have:=hE.vals i
    rw[hv] at this
    simp only[Rep] at this
    simp only[Act.flat,this]
   ·rintro ex a1 w2 ⟨e1,H2,L2',q1,q2,q3,q4⟩
    cases ex with
    |normal=>
     obtain ⟨hds,H2',rfl,hb⟩:=q4
     obtain ⟨_,_,_,hlo2,_⟩:=q2.objs _ List.mem_cons_self
     have hlo2':w2.heap[l]? = some (.loop (rec .ready none)):=hlo2
     have ht:=turn_obj (o':=.loop { rec .ready none with state:=.busy }) q2 rfl
     refine ⟨_,run_beginRound hlo2' (by rw[hrec]),?_⟩
     refine wpIn_mono (hb (.obj (.loop { rec .ready none with state:=.busy })) a1 _ L2' (q3.mono ht.1.ext) ht.2 m) ?_
     rintro ex a3 w3 ⟨e3,H3,L3,p1,p2,p3,p4⟩
     cases ex with
     |normal=>
      obtain ⟨H3',hs3,hJ3⟩:=p4
      have p2':=p2.weak hs3
      obtain ⟨_,_,_,hlo3,_⟩:=p2'.objs _ List.mem_cons_self
      have hlo3':w3.heap[l]? = some (.loop { rec .ready none with state:=.busy }):=hlo3
      have ht3:=turn_obj (o':=.loop (rec .ready none)) p2' rfl
      have hend:=run_endRound (P:=C.P) none hlo3'
      have e3:({ { rec .ready none with state:=.busy } with state:=if (none:Option Code).isNone then .ready else .done,pending:=none }:Loop)=rec .ready none:=by rw[hrec];try rfl
      rw[e3] at hend
      refine ⟨.bool true,_,hend,rfl,?_⟩
      exact ⟨_,L3,q1.trans (ht.1.trans ((p1.weak hs3).trans ht3.1)),ht3.2,H3',rfl,hJ3⟩
     |exit id=>exact p4.elim
     |goto id=>exact p4.elim
     |ret=>exact p4.elim
     |panic ch=>exact p4.elim
     |outgrown=>exact p4.elim
    |exit id=>exact q4.elim
    |goto id=>exact q4.elim
    |ret=>exact q4.elim
    |panic ch=>exact q4.elim
    |outgrown=>exact q4.elim
end range
/-! ### The iterator's own call of yield -/
def LOpsW (C:Ctx) (n:Nat) (ops:Array Oper) (Q:Post) (rest:List Oper) (e:Env) (H:Heap):Prop:=
 ∀ a w L,RelE n a e w L→RelH C w L H→wpListIn Fence.wide 1 C.P ops (lift C n w L (keys H) Q) rest a w
section W
variable {C:Ctx} {n:Nat} {ops:Array Oper} {Q:Post} {e:Env} {H:Heap}
theorem LOpsW.nil (h:Q .normal e H):LOpsW C n ops Q [] e H:=fun _ _ L hE hH=>⟨e,H,L,Fr.refl _ _ _,hH,hE,h⟩
theorem wpListIn_mono {F:Fence} {m:Nat} {P:Program} {Q Q':Exit→Act→World→Prop} (h:∀ e a w,Q e a w→Q' e a w) (ho:LetsOut Q→LetsOut Q'):∀ (l:List Oper) (a:Act) (w:World),wpListIn F m P ops Q l a w→wpListIn F m P ops Q' l a w
 |[],_,_,k=>h _ _ _ k
 |o::l,a,w,k=>by
  unfold wpListIn at k ⊢
  split at k
  ·rename_i hw
   rw[if_pos hw]
   refine ⟨k.1,?_⟩
   have k2:=k.2
   generalize (o.semAt F.round a.eval).run P w=r at k2 ⊢
   cases r with
   |ok x w'=>
    cases x with
    |value v=>exact wpListIn_mono h ho l _ _ k2
    |skip=>exact wpListIn_mono h ho l _ _ k2
    |defer d=>exact wpListIn_mono h ho l _ _ k2
    |enter f args=>
     refine ⟨k2.1,k2.2.mono fun e w'' he=>?_⟩
     cases e with
     |returned v=>exact wpListIn_mono h ho l _ _ he
     |panicked ch=>exact h _ _ _ he
     |outgrown=>exact ho he
    |row row args=>
     refine ⟨k2.1,fun c cs hr=>?_⟩
     obtain ⟨v,w2,r2,s2⟩:=k2.2 c cs hr
     exact ⟨v,w2,wpListIn_mono h ho l _ _ r2,s2⟩
    |round l' f tmps avs bd=>
     refine ⟨k2.1,k2.2.mono fun e w'' he=>?_⟩
     cases e with
     |returned v=>exact wpListIn_mono h ho l _ _ he
     |panicked ch=>exact h _ _ _ he
     |outgrown=>exact ho he
    |_=>exact k2.elim
   |halt x w'=>cases x <;> first|exact h _ _ _ k2|exact k2.elim
  ·rename_i hw
   rw[if_neg hw]
   exact ⟨k.1,wpListIn_mono h ho l _ _ k.2⟩
theorem lift_out {w w1:World} {L L1:Live} {K:List Nat} {H1:Heap} (f:Fr K w L w1 L1 H1):LetsOut (lift C n w1 L1 (keys H1) Q)→LetsOut (lift C n w L K Q):=fun ⟨a,w',h⟩=>⟨a,w',lift_trans f h⟩
theorem LOpsW.pure {dst:Option Nat} {op:Op} {ty:TypeId} {pos:String} {aft:Array Edge} {rest:List Oper} {lv:LV}
  (h:Pure C ⟨dst,op,ty,pos,aft,none⟩ e H lv) (hd:dstOk n dst) (k:LOpsW C n ops Q rest (e.put dst lv) H):LOpsW C n ops Q (⟨dst,op,ty,pos,aft,none⟩::rest) e H:=fun a w L hE hH=>by
 obtain ⟨v,hv,hr⟩:=h a.eval w L hE.ev hH
 unfold wpListIn
 rw[if_pos (by simp[Region.wanted])]
 refine ⟨fun _ _=>trivial,?_⟩
 have hs:Oper.semAt (Fence.wide).round a.eval ⟨dst,op,ty,pos,aft,none⟩=execOp a.eval ⟨dst,op,ty,pos,aft,none⟩:=rfl
 rw[hs,hr w ⟨fun _ _=>rfl,fun _ _ _=>rfl⟩]
 exact k _ w L (hE.put hd hv) hH
theorem LOpsW.yield {dst:Option Nat} {fo:Operand} {l:Nat} {args:List Operand} {ats:Array TypeId} {avs:List LV} {ty:TypeId} {pos:String} {aft:Array Edge} {rest:List Oper} {K:Heap→Prop} (hf:e.ev fo=.atom (.func (.yield l) #[] #[]))
  (has:args.map e.ev=avs) (hy:LYield C l avs H K) (hd:dstOk n dst) (k:∀ H',K H'→LOpsW C n ops Q rest (e.put dst (bool true)) H'):LOpsW C n ops Q (⟨dst,.call { callee:=.value fo,args:=args.toArray,argTypes:=ats },ty,pos,aft,none⟩::rest) e H:=fun a w L hE hH=>by
 subst has
 have hv:=hE.ev fo
 rw[hf] at hv
 simp only[Rep] at hv
 obtain ⟨fn,tmps,assign,body,h1,h2⟩:=hy (args.map a.eval) w L (repL_ev hE.ev _) hH 0
 unfold wpListIn
 rw[if_pos (by simp[Region.wanted])]
 refine ⟨fun _ _=>trivial,?_⟩
 have h3:Oper.semAt (Fence.wide).round a.eval ⟨dst,.call { callee:=.value fo,args:=args.toArray,argTypes:=ats },ty,pos,aft,none⟩=(do let d ←Deferred.ofValue (a.eval fo) (args.toArray.map a.eval);invoke d.target d.args):=rfl
 have h4:(do let d ←Deferred.ofValue (.func (.yield l) #[] #[]) (args.toArray.map a.eval);invoke d.target d.args:Sem Next).run C.P w=.ok (.round l fn tmps assign body) w:=by
  simp only[Deferred.ofValue,Sem.run_bind,Sem.run_pure,Result.andThen_ok,invoke]
  rw[←h1]
  simp
 rw[h3,hv,h4]
 refine ⟨fun _=>zNr _,h2.mono ?_⟩
 rintro ex w' ⟨rfl,H',L',g1,g2,g3⟩
 exact wpListIn_mono (fun _ _ _=>lift_trans g1) (lift_out g1) _ _ _ (k H' g3 _ w' L' ((hE.mono g1.ext).put hd rep_atom) g2)
theorem LCode.regionW {id:Nat} {l:List Oper} (h:LOpsW C n l.toArray Q l e H):LCode C n (.region id l.toArray false) Q e H:=fun a w L hE hH=>wpIn_wide (n:=1) |>.1 (wpIn_region_lit (h a w L hE hH))
end W
def RetPostM (C:Ctx) (n:Nat) (rs:List ResultVar) (R:LRes→Heap→Prop):Post
 |.normal,e,H|.ret,e,H=>∃ D F,e.ds=[{ target:=.collected D,args:=#[] }]∧H.Perm ((D,.obj (.deferred (some [])))::F)∧∃ vs H',AllRes C n e F rs vs∧HSub H' F∧R (.ret (resLV vs)) H'
 |.panic ch,e,H=>(e.ds=[]∧∃ H',HSub H' H∧R (.panic ch) H')∨∃ D F,e.ds=[{ target:=.collected D,args:=#[] }]∧H.Perm ((D,.obj (.deferred (some [])))::F)∧∃ H',HSub H' F∧R (.panic ch) H'
 |_,_,_=>False
theorem LCalls.introM {C:Ctx} {f:FuncId} {fn:Func} {c:Code} {n:Nat} {args:List LV} {H:Heap} {R:LRes→Heap→Prop} (hf:C.P.funcs[f]? = some fn) (hb:fn.body=some c) (hn:fn.ntmps=n) (h3:Nat.ble fn.results.size 3=true)
  (hl:Nat.ble args.length n=true) (h:LCode C n c (RetPostM C n fn.results.toList R) (argsEnv args) H):LCalls C f args H R:=fun vs w L hv hH=>by
 subst hn
 have hl':args.length≤fn.ntmps:=by simpa using hl
 have h3':fn.results.size≤3:=by simpa using h3
 have hlen:=hv.length
 refine callsIn_wide.1 (callsIn_of_wp_marks (F:=Fence.wide) (n:=1) hf hb trivial (wpIn_wide.2 (Go.wp_mono (h _ w L ⟨?_,rfl,fun i=>?_⟩ hH) fun ex a' w' hq=>?_)))
 ·simp;omega
 ·exact zT1
 ·obtain ⟨e',H',L',g1,g2,g3,g4⟩:=hq
  have turn:∀ {D F},H'.Perm ((D,LObj.obj (.deferred (some [])))::F)→(Instr.takeDeferred D).run C.P w'=.ok [] (w'.putObj D (.deferred none))∧Fr (keys H) w L (w'.putObj D (.deferred none)) L' F∧RelH C (w'.putObj D (.deferred none)) L' F∧Ext w' L' (w'.putObj D (.deferred none)) L':=fun {D F} hp=>by
   have g2':=g2.perm hp
   obtain ⟨_,_,_,hlo,_⟩:=g2'.objs _ List.mem_cons_self
   have hlo':w'.heap[D]? = some (.deferred (some [])):=hlo
   have ht:=turn_obj (o':=.deferred none) g2' rfl
   have hs:HSub F ((D,LObj.obj (.deferred none))::F):=zhD zhr
   have hkp:Fr (keys H) w L w' L' ((D,LObj.obj (.deferred (some [])))::F):=g1.weak ⟨[],by simpa using hp⟩
   exact ⟨run_takeDeferred hlo',(hkp.trans ht.1).weak hs,ht.2.weak hs,ht.1.ext⟩
  have ret:RelE fn.ntmps a' e' w' L'→(∃ D F,e'.ds=[{ target:=.collected D,args:=#[] }]∧H'.Perm ((D,.obj (.deferred (some [])))::F)∧∃ vs H'',AllRes C fn.ntmps e' F fn.results.toList vs∧HSub H'' F∧R (.ret (resLV vs)) H'') →
    LeavesInM Fence.wide 1 C.P fn a'.tmps (CallPost C w L H (fun v=>R (.ret v)) (fun ch=>R (.panic ch))) a'.defers .returning w':=fun hE hr=>by
   obtain ⟨D,F,h1,hp,vs',H'',h2,h4,h5⟩:=hr
   rw[hE.ds,h1]
   obtain ⟨t1,t2,t3,t4⟩:=turn hp
   refine ⟨by simp,.inl ⟨D,_,rfl,t1,?_⟩⟩
   obtain ⟨v,r1,r2⟩:=results_of (hE.mono t4) t3 h2 h3'
   exact ⟨v,r1,resLV vs',H'',L',t2.weak h4,t3.weak h4,r2,h5⟩
  cases ex with
  |normal=>exact ret g3 g4
  |ret=>exact ret g3 g4
  |panic ch=>
   rcases g4 with ⟨h1,H'',h4,h5⟩|⟨D,F,h1,hp,H'',h4,h5⟩
   ·show LeavesInM _ _ _ _ _ _ a'.defers _ _
    rw[show a'.defers=[] from (show a'.defers=e'.ds from g3).trans h1]
    exact ⟨H'',L',g1.weak h4,g2.weak h4,h5⟩
   ·show LeavesInM _ _ _ _ _ _ a'.defers _ _
    rw[show a'.defers=[{ target:=.collected D,args:=#[] }] from (show a'.defers=e'.ds from g3).trans h1]
    obtain ⟨t1,t2,t3,t4⟩:=turn hp
    exact ⟨by simp,.inl ⟨D,_,rfl,t1,⟨H'',L',t2.weak h4,t3.weak h4,h5⟩⟩⟩
  |exit id=>exact g4.elim
  |goto id=>exact g4.elim
  |outgrown=>exact g4.elim
end Go.GL
namespace Go.Proofs.YtegmklafpoldgaaGreatDoor
open Go.GL Go.RowKit Go.Stele
attribute [local irreducible] LOps LCode LStep LCalls Go.GL.Pure QThen QBlock RetPost LQ LAny LLate LLateOp
def lvLV (k:Nat):LV:=.list ((lvOps k).map str)
def levelsLV:List LV:=[lvLV 0,lvLV 1,lvLV 2,lvLV 3,lvLV 4,lvLV 5]
section
variable {B0:Nat} {w0:World}
theorem levels_spec:LCalls (KC B0 w0) 231 [] [] (Ret (.list levelsLV)):=by
 refine cI Tryz.func231 rfl (n:=8) rfl rfl rfl ?_
 refine ga1 ?_
 refine oS (sL (es:=[str [124,124]]) [_] rfl (eC rfl rfl eN) rfl rfl rfl ?_) rfl
 refine oS (sL (es:=[str [38,38]]) [_] rfl (eC rfl rfl eN) rfl rfl rfl ?_) rfl
 refine oS (sL (es:=[str [61,61],str [33,61],str [60],str [62],str [60,61],str [62,61]]) [_,_,_,_,_,_] rfl (eC rfl rfl (eC rfl rfl (eC rfl rfl (eC rfl rfl (eC rfl rfl (eC rfl rfl eN)))))) rfl rfl rfl ?_) rfl
 refine oS (sL (es:=[str [94]]) [_] rfl (eC rfl rfl eN) rfl rfl rfl ?_) rfl
 refine oS (sL (es:=[str [43],str [45]]) [_,_] rfl (eC rfl rfl (eC rfl rfl eN)) rfl rfl rfl ?_) rfl
 refine oS (sL (es:=[str [42],str [47],str [37]]) [_,_,_] rfl (eC rfl rfl (eC rfl rfl (eC rfl rfl eN))) rfl rfl rfl ?_) rfl
 refine oS (sL (es:=levelsLV) [_,_,_,_,_,_] rfl (eC rfl rfl (eC rfl rfl (eC rfl rfl (eC rfl rfl (eC rfl rfl (eC rfl rfl eN)))))) rfl rfl rfl ?_) rfl
 refine gcq ?_
 exact retRet rfl (rC (rT (v:=.list _) rfl zsr) rN) rfl
theorem binary_spec (sb:Nat) (ops:List LV) (once:Bool) (fn:FuncId) (first caps:Array Value):LCalls (KC B0 w0) 232 [ptr sb 0,.list ops,bool once,.atom (.func (.func fn) first caps)] []
  (fun r H=>∃ bo bs bp bn:Nat,r=.ret (.atom (.func (.func 244) #[] #[.pointer (some ⟨bo,0,none⟩),.pointer (some ⟨bs,0,none⟩),.pointer (some ⟨bp,0,none⟩),.pointer (some ⟨bn,0,none⟩)])) ∧
   H=[(bo,.cells 246 [.atom (.func (.func fn) first caps)]),(bs,.cells 58 [ptr sb 0]),(bp,.cells 24 [.list ops]),(bn,.cells 4 [bool once])]):=by
 refine cI Tryz.func232 rfl (n:=10) rfl rfl rfl ?_
 refine gac ?_
 refine oS (sB rfl fun bs=>?_) rfl
 refine oS (sB rfl fun bp=>?_) rfl
 refine oS (sB rfl fun bn=>?_) rfl
 refine oS (sB rfl fun bo=>?_) rfl
 refine ge1 ?_
 exact rR rfl (zra rfl) (zhP pH (zhP zp2 (zhP zp1 zhp))) ⟨bo,bs,bp,bn,rfl,rfl⟩
theorem backward_spec (es:List LV):LCalls (KC B0 w0) 230 [.list es] [] (fun r H=>∃ b:Nat,r=.ret (.atom (.func (.func 243) #[] #[.pointer (some ⟨b,0,none⟩)]))∧H=[(b,.cells 190 [.list es])]):=by
 refine cI Tryz.func230 rfl (n:=4) rfl rfl rfl ?_
 refine gac ?_
 refine oS (sB rfl fun b=>?_) rfl
 refine ge1 ?_
 exact rR rfl (zra rfl) zhr ⟨b,rfl,rfl⟩
def backArgs (ls:List (List (List UInt8))) (q:Nat):List LV:=[int .i64 ((ls.length:Int)-1-q),.list (((ls[ls.length-1-q]?).getD []).map str)]
theorem iter_spec (b:Nat) (ls:List (List (List UInt8))) (hl:ls.length≤100000):LIter (KC B0 w0) 243 [ptr b 0] [(b,.cells 190 [.list (ls.map fun l=>.list (l.map str))])] ls.length (backArgs ls):=by
 intro l J hY H0 h0
 have hml:(ls.map fun l=>LV.list (l.map str)).length=ls.length:=zLm _
 refine cI Tryz.func243 rfl (n:=19) rfl rfl rfl ?_
 refine LCode.perm (H':=(b,.cells 190 [.list (ls.map fun l=>.list (l.map str))])::H0) (List.perm_append_singleton _ _) ?_
 refine gjv ?_
 refine oL (fun k lsl H=>∃ (q:Nat) (Hq:Heap),q≤ls.length∧k=ls.length-q∧lsl=[(0,.atom (.func (.yield l) #[] #[])),(1,ptr b 0),(3,int .i64 ((ls.length:Int)-1-q))]∧H=(b,.cells 190 [.list (ls.map fun l=>.list (l.map str))])::Hq∧J q Hq)
  ⟨_,_,_,⟨0,H0,Nat.zero_le _,rfl,rfl,rfl,h0⟩,⟨rfl,rfl,int_eq (by simp),trivial⟩,zhR _⟩ ?_
 rintro k lsl H ⟨q,Hq,hq,rfl,rfl,rfl,hJ⟩ j hj
 refine ge2 ?_
 refine oC rfl (fun hc=>?_) (fun hc=>?_)
 ·have hlt:q<ls.length:=by have:=zt hc;omega
  have hix:((ls.length:Int)-1-q).toNat=ls.length-1-q:=by omega
  have hlt2:ls.length-1-q<ls.length:=by omega
  have hel:(ls.map fun l=>LV.list (l.map str))[((ls.length:Int)-1-q).toNat]? = some (.list (((ls[ls.length-1-q]?).getD []).map str)):=by
   rw[hix,List.getElem?_map,List.getElem?_eq_getElem hlt2]
   rfl
  refine gey ?_
  refine LCode.regionW ?_
  refine gjw ?_
  refine LOpsW.pure (xR (cs:=[_]) rfl rfl zo hel rfl rfl) rfl ?_
  refine gjx ?_
  refine LOpsW.yield (H:=(b,.cells 190 [.list (ls.map fun l=>.list (l.map str))])::Hq) (args:=[_,_]) rfl rfl (LYield.frame (H:=Hq) (F:=[(b,.cells 190 [.list (ls.map fun l=>.list (l.map str))])]) (List.perm_append_singleton _ _).symm (K:=fun H'=>∃ H1,H'=H1++[(b,.cells 190 [.list (ls.map fun l=>.list (l.map str))])]∧J (q+1) H1) (LYield.mono (hY q Hq hlt hJ) fun H' h=>⟨H',rfl,h⟩)) rfl ?_
  rintro H' ⟨H1,rfl,hJ1⟩
  refine gjy ?_
  refine LOpsW.nil ?_
  refine qN ?_
  refine cW (H':=(b,.cells 190 [.list (ls.map fun l=>.list (l.map str))])::H1) ⟨[],by rw[zLz];exact List.perm_append_singleton _ _⟩ ?_
  refine oC rfl (fun hcc=>?_) (fun hcc=>?_)
  ·cases hcc
  ·refine gjz ?_
   exact ⟨_,_,_,by omega,⟨q+1,H1,hlt,rfl,rfl,rfl,hJ1⟩,⟨rfl,rfl,int_eq zo,trivial⟩,zhR _,hj⟩
 ·have hge:q=ls.length:=by have:=zf hc;omega
  subst hge
  refine gb3 ?_
  exact rO hj rN ⟨[],by rw[zLz];exact (List.perm_append_singleton _ _).symm⟩ ⟨⟨_,rfl⟩,Hq,rfl,hJ⟩
end
end Go.Proofs.YtegmklafpoldgaaGreatDoor
namespace Go.Proofs.YtegmklafpoldgaaGreatDoor
open Go.GL Go.RowKit Go.Stele
attribute [local irreducible] LOps LCode LStep LCalls Go.GL.Pure QThen QBlock RetPost LQ LAny LLate LLateOp LCodeR LOpsW RetPostM LIter LYield
def lvs:List (List (List UInt8)):=[lvOps 0,lvOps 1,lvOps 2,lvOps 3,lvOps 4,lvOps 5]
theorem lvs_at (q:Nat) (h:q<6):backArgs lvs q=[int .i64 (((5-q:Nat):Int)),.list ((lvOps (5-q)).map str)]:=by
 have:q=0∨q=1∨q=2∨q=3∨q=4∨q=5:=by omega
 rcases this with rfl|rfl|rfl|rfl|rfl|rfl <;> rfl
theorem RetPostM.mkRet {C:Ctx} {n:Nat} {e:Env} {H H':Heap} {R:LRes→Heap→Prop} {rs:List ResultVar} {vs:List LV} {D:Nat} (hd:e.ds=[{ target:=.collected D,args:=#[] }]) (F:Heap) (hp:H.Perm ((D,.obj (.deferred (some [])))::F)) (h:AllRes C n e F rs vs) (hH:HSub H' F) (hR:R (.ret (resLV vs)) H') :
  RetPostM C n rs R .ret e H:=by
 unfold RetPostM
 exact ⟨D,F,hd,hp,vs,H',h,hH,hR⟩
theorem RetPostM.mkPanic {C:Ctx} {n:Nat} {e:Env} {H H':Heap} {R:LRes→Heap→Prop} {rs:List ResultVar} {ch:List PanicEntry} {D:Nat} (hd:e.ds=[{ target:=.collected D,args:=#[] }]) (F:Heap) (hp:H.Perm ((D,.obj (.deferred (some [])))::F)) (hH:HSub H' F) (hR:R (.panic ch) H') :
  RetPostM C n rs R (.panic ch) e H:=by
 unfold RetPostM
 exact .inr ⟨D,F,hd,hp,H',hH,hR⟩
section
variable {B0:Nat} {w0:World}
theorem expr_spec (sb:Nat) (T:List Tok) (f:Nat) (hC:CloC B0 w0 sb T f):ExprC B0 w0 sb T f:=by
 intro i op r hi ho hr
 refine LCalls.introM Tryz.func204 rfl (n:=20) rfl rfl rfl ?_
 refine gac ?_
 refine oS (sB rfl fun b1=>?_) rfl
 refine oS (sA fun b2=>?_) rfl
 refine gj0 ?_
 refine oS (sA fun b3=>?_) rfl
 refine gj1 ?_
 refine oS (sF [] rfl levels_spec ?_) rfl
 refine oS (S.call0 [_] rfl (backward_spec levelsLV) (fun v H' h=>?_) (fun ch H' h=>?_)) rfl
 ·obtain ⟨bB,h,rfl⟩:=h
  cases h
  refine geu ?_
  have hexit:∀ (first caps:Array Value) (fn:FuncId) (Hclo F:Heap),Clo sb 0 fn first caps Hclo→TEnter Tryz.prog fn:=fun _ _ _ _ _ h=>h.enter
  refine LCode.rangeFunc (g:=.tmp 9) (ps:=[10,11]) (caps:=#[.pointer (some ⟨bB,0,none⟩)]) (by rfl) lvs.length (backArgs lvs)
   [(b3,.cells 246 [.atom (.func (.func 229) #[.pointer (some ⟨sb,0,none⟩)] #[])]),(b2,.cells 170 [str [],int .u32 0,str [],nilSlice]),(b1,.cells 58 [ptr sb 0]),srcH sb T i op] [(bB,.cells 190 [.list levelsLV])]
   (List.perm_append_singleton _ _).symm (iter_spec bB lvs zDd) (fun k hk=>by rw[lvs_at k hk];rfl) (by rfl)
   (fun q Hq=>∃ (fn:FuncId) (first caps:Array Value) (Hclo:Heap),Clo sb (6-q) fn first caps Hclo∧Hq=(b3,.cells 246 [.atom (.func (.func fn) first caps)])::(b2,.cells 170 [str [],int .u32 0,str [],nilSlice])::(b1,.cells 58 [ptr sb 0])::srcH sb T i op::Hclo)
   ⟨_,_,_,[],.un,rfl⟩ ?_ ?_
  ·rintro q Hq hq ⟨fn,first,caps,Hclo,hclo,rfl⟩ j hjd hja l D o oD
   have hq6:q<6:=hq
   have hj1:j.s 1=ptr b1 0:=hja 1 _ rfl
   have hj3:j.s 3=ptr b3 0:=hja 3 _ rfl
   rw[lvs_at q hq6,←Env.slots_self (e:=j) (l:=[(1,ptr b1 0),(3,ptr b3 0)]) (by
    intro p hp
    simp only[zMi,List.not_mem_nil,or_false] at hp
    rcases hp with rfl|rfl
    ·exact hj1
    ·exact hj3)]
   refine LCodeR.seq ?_
   refine LCodeR.region rfl ?_
   refine gar ?_
   refine LCodeR.region rfl ?_
   refine gj2 ?_
   refine ⟨hjd,_,rfl,fun o'=>?_⟩
   refine LCodeR.block ?_
   refine LCodeR.region rfl ?_
   refine gj3 ?_
   refine oS (S.call0 [_,_,_,_] rfl (binary_spec sb ((lvOps (5-q)).map str) (decide (((5-q:Nat):Int)=2)) fn first caps) (fun v H' h=>?_) (fun ch H' h=>?_)) rfl
   ·obtain ⟨bo,bs,bp,bn,h,rfl⟩:=h
    cases h
    refine gj4 ?_
    refine ⟨(b3,.cells 246 [.atom (.func (.func 244) #[] #[.pointer (some ⟨bo,0,none⟩),.pointer (some ⟨bs,0,none⟩),.pointer (some ⟨bp,0,none⟩),.pointer (some ⟨bn,0,none⟩)])])::(b2,.cells 170 [str [],int .u32 0,str [],nilSlice])::(b1,.cells 58 [ptr sb 0])::srcH sb T i op ::
     (bo,.cells 246 [.atom (.func (.func fn) first caps)])::(bs,.cells 58 [ptr sb 0])::(bp,.cells 24 [.list ((lvOps (5-q)).map str)])::(bn,.cells 4 [bool (decide (((5-q:Nat):Int)=2))])::Hclo,?_,_,_,_,_,?_,rfl⟩
    ·exact zhP zp5 (zhP zp5 (zhP pH (zhP zp4 (zhP zp4 (zhP zp4 zhr)))))
    ·have e1:6-(q+1)=5-q:=by omega
     have e2:6-q=5-q+1:=by omega
     rw[e1]
     rw[e2] at hclo
     exact .bin hclo
   ·obtain ⟨_,_,_,_,h,_⟩:=h
    cases h
  ·rintro D H' ⟨fn,first,caps,Hclo,hclo,rfl⟩
   have hclo0:Clo sb 0 fn first caps Hclo:=hclo
   have hen:=hexit _ _ _ _ [] hclo0
   refine gj5 ?_
   refine cW (H':=(D,.obj (.deferred (some [])))::(b3,.cells 246 [.atom (.func (.func fn) first caps)])::(b2,.cells 170 [str [],int .u32 0,str [],nilSlice])::(b1,.cells 58 [ptr sb 0])::srcH sb T i op::Hclo) ⟨[(bB,.cells 190 [.list levelsLV])],List.Perm.refl _⟩ ?_
   refine gj6 ?_
   refine oS (S.callClo (F:=[(D,.obj (.deferred (some []))),(b3,.cells 246 [.atom (.func (.func fn) first caps)]),(b2,.cells 170 [str [],int .u32 0,str [],nilSlice]),(b1,.cells 58 [ptr sb 0])]) (Hc:=Hclo) rfl zp4 (hC _ _ _ _ _ _ _ r hclo0 hi ho hr) (fun v i1 op1 h1=>?_) (fun l er i1 op1 h1 e' he'=>?_)) rfl
   ·refine gev ?_
    exact RetPostM.mkRet rfl _ zp2 (rC (rA rfl zm0 rfl zsr) rN) (zhP zp1 zhn) (by rw[h1];exact ⟨rfl,rfl⟩)
   ·refine gad ?_
    refine RetPostM.mkPanic (he'.trans rfl) (srcH sb T i1 op1::(Hclo++[(b3,.cells 246 [.atom (.func (.func fn) first caps)]),(b2,.cells 170 [str [],int .u32 0,str [],nilSlice]),(b1,.cells 58 [ptr sb 0])])) ?_ zhp (by rw[h1];exact ⟨rfl,i1,op1,rfl⟩)
    exact (List.Perm.cons _ List.perm_middle).trans (List.Perm.swap _ _ _)
 ·obtain ⟨bB,h,_⟩:=h
  cases h
theorem all_spec (hG:GW B0 w0) (sb:Nat) (T:List Tok) (hT:TOK T):∀ f:Nat,CloC B0 w0 sb T f∧ExprC B0 w0 sb T f:=by
 intro f
 induction f using Nat.strongRecOn with
 |_ f ih=>
  have hC:CloC B0 w0 sb T f:=by
   intro k fn first caps Hc i op r hclo hi ho hr
   cases hclo with
   |un=>
    obtain ⟨f,rfl⟩:∃ g,f=g+1:=by
     cases f with
     |zero=>rw[eLev] at hr;cases hr
     |succ g=>exact ⟨g,rfl⟩
    rw[eLev,if_pos rfl] at hr
    refine LCalls.mono (unary_spec hG sb T hT f (fun g hg=>(ih g zo).2) i op r hi ho hr) ?_
    intro r' H h
    cases r with
    |ok v i' op'=>exact h
    |err l e=>exact h
   |bin h=>exact bin_spec hG sb T hT f (fun g hg=>(ih g hg).1) _ _ _ _ _ _ _ _ _ h i op r hi ho hr
  exact ⟨hC,expr_spec sb T f hC⟩
end
end Go.Proofs.YtegmklafpoldgaaGreatDoor
namespace Go.Proofs.YtegmklafpoldgaaGreatDoor
open Go.GL Go.RowKit Go.Stele
attribute [local irreducible] LOps LCode LStep LCalls Go.GL.Pure QThen QBlock RetPost LQ LAny LLate LLateOp
def encSL (l:List Sm):LV:=.list (l.map encS)
section
variable {B0:Nat} {w0:World}
def BlockC (B0:Nat) (w0:World) (sb:Nat) (T:List Tok) (f:Nat):Prop:=
 ∀ i op r,i≤T.length→op≤100→sBlock T f i op=some r→LCalls (KC B0 w0) 205 [ptr sb 0] [srcH sb T i op] (PostP sb T encSL r)
def StmtsC (B0:Nat) (w0:World) (sb:Nat) (T:List Tok) (f:Nat):Prop:=
 ∀ i op r,i≤T.length→op≤100→sStmts T f [] i op=some r→LCalls (KC B0 w0) 123 [ptr sb 0] [srcH sb T i op] (PostP sb T encSL r)
def StmtC (B0:Nat) (w0:World) (sb:Nat) (T:List Tok) (f:Nat):Prop:=
 ∀ i op r,i≤T.length→op≤100→sStmt T f i op=some r→LCalls (KC B0 w0) 167 [ptr sb 0] [srcH sb T i op] (PostP sb T encS r)
def SimpleC (B0:Nat) (w0:World) (sb:Nat) (T:List Tok) (f:Nat):Prop:=
 ∀ i op r,i≤T.length→op≤100→sSimple T f i op=some r→LCalls (KC B0 w0) 206 [ptr sb 0] [srcH sb T i op] (PostP sb T encS r)
theorem block_spec (sb:Nat) (T:List Tok) (hT:TOK T) (f:Nat) (hS:StmtsC B0 w0 sb T f):BlockC B0 w0 sb T (f+1):=by
 intro i op r hi ho hr
 have hl:=hT.len
 rw[sBlock] at hr
 refine cI Tryz.func205 rfl (n:=11) rfl rfl rfl ?_
 refine gal ?_
 refine oS (sP [_,_] rfl pH (begin_spec sb T i op [123] hl zo zo) (fun v i1 op1 h1=>?_) (fun l er i1 op1 h1 e9 he9=>?_)) rfl
 rotate_left
 ·exact zT20
 rw[h1,obind_ok] at hr
 obtain ⟨rfl,rfl,ho1,hi1⟩:=sBegin_ok h1
 refine gak ?_
 obtain ⟨r1,hr1⟩:=obind_is hr
 refine oS (sP [_] rfl pH (hS _ _ r1 zo zo hr1) (fun l i2 op2 h2=>?_) (fun l er i2 op2 h2 e9 he9=>?_)) rfl
 rotate_left
 ·rw[hr1,h2,obind_err] at hr
  refine gaa ?_
  exact panP zb0 (by cases hr;rfl) zhp
 rw[hr1,h2,obind_ok] at hr
 obtain ⟨g1,_,g3,rfl⟩:=(st_good T f).2.1 _ _ _ _ (hr1.trans (congrArg some h2))
 have g4:=g3 zo
 refine gj7 ?_
 refine oS (sP [_,_] rfl pH (end_spec sb T i2 (op+1) [125] hl zo zo zo) (fun u i3 op3 h3=>?_) (fun l er i3 op3 h3 e9 he9=>?_)) rfl
 rotate_left
 ·exact zT21
 rw[h3,obind_ok] at hr
 refine gj8 ?_
 exact retP (v:=l) rfl (rC (rT (v:=.list _) rfl zsr) rN) (by cases hr;rfl) rfl zhr
theorem stmts_spec (sb:Nat) (T:List Tok) (hT:TOK T) (f:Nat) (hS:∀ g,g<f→StmtC B0 w0 sb T g):StmtsC B0 w0 sb T f:=by
 intro i op r hi ho hr
 have hl:=hT.len
 refine cI Tryz.func123 rfl (n:=14) rfl rfl rfl ?_
 refine gca ?_
 refine oL (fun k ls H=>∃ (v:LV) (l:List Sm) (i2:Nat) (Ha:Heap),k≤f∧ls=[(0,ptr sb 0),(3,v)]∧H=srcH sb T i2 op::Ha∧Acc 6 v (l.map encS) Ha []∧i2≤T.length∧l.length≤i2+1∧sStmts T k l i2 op=some r)
  ⟨f,_,srcH sb T i op::[],⟨nilSlice,[],i,_,zNr _,rfl,rfl,Acc.nil,by omega,by simp,hr⟩,⟨rfl,rfl,trivial⟩,zhR _⟩ ?_
 rintro k ls H ⟨v,l,i2,Ha,hkf,rfl,rfl,hacc,hi2,hll,hI⟩ j hj
 obtain ⟨k,rfl⟩:∃ k',k=k'+1:=by
  cases k with
  |zero=>rw[sStmts] at hI;cases hI
  |succ k=>exact ⟨k,rfl⟩
 rw[sStmts] at hI
 refine gab ?_
 refine oS (sL [_] rfl (eC rfl rfl eN) rfl rfl rfl ?_) rfl
 refine oS (sH [_,_] rfl pH (is_spec sb T i2 op [[125]] hl zo (by simp)) ?_) rfl
 refine ga8 ?_
 refine oC rfl (fun hc=>?_) (fun hc=>?_)
 ·have hc':isTok T i2 [[125]]=false:=by simpa using hc
  rw[if_neg (by rw[hc'];decide)] at hI
  refine ger ?_
  refine oP (pM (lv:=v) rfl) rfl ?_
  refine gat ?_
  obtain ⟨r2,hr2⟩:=obind_is hI
  refine oS (sP [_] rfl pH (hS k zo _ _ r2 zo zo hr2) (fun e2 i4 op4 h4=>?_) (fun l er i4 op4 h4 e9 he9=>?_)) rfl
  rotate_left
  ·rw[hr2,h4,obind_err] at hI
   refine gaa ?_
   exact panP zb0 (by cases hI;rfl) zhp
  rw[hr2,h4,obind_ok] at hI
  obtain ⟨g1,g2,g3,rfl⟩:=(st_good T k).2.2.1 _ _ _ (hr2.trans (congrArg some h4))
  have g5:=g3 zo
  have g6:=g2 rfl
  refine oS (sL [_] rfl (eC rfl rfl eN) rfl rfl rfl ?_) rfl
  refine oS (S.acc1 rfl hacc rfl (by simp;rfl) rfl (by simp;omega) fun v' H' hacc'=>?_) rfl
  refine oP (pA (lv:=v') rfl) rfl ?_
  refine gb2 ?_
  exact ⟨k,_,_,by omega,⟨v',l++[e2],i4,H',by omega,rfl,rfl,by rw[zMa];exact hacc',by omega,by simp;omega,hI⟩,⟨rfl,rfl,trivial⟩,zhR _,hj⟩
 ·have hc':isTok T i2 [[125]]=true:=by simpa using hc
  rw[if_pos hc'] at hI
  refine gbb ?_
  refine oP (pM (lv:=v) rfl) rfl ?_
  refine oP (pA (lv:=v) rfl) rfl ?_
  refine gbj ?_
  exact retP (v:=l) hj (rC (rT (v:=v) rfl hacc.sub) rN) (by cases hI;rfl) rfl zhp
end
end Go.Proofs.YtegmklafpoldgaaGreatDoor
namespace Go.Proofs.YtegmklafpoldgaaGreatDoor
open Go.GL Go.RowKit Go.Stele
attribute [local irreducible] LOps LCode LStep LCalls Go.GL.Pure QThen QBlock RetPost LQ LAny LLate LLateOp
section
variable {B0:Nat} {w0:World}
theorem encCall (s:List UInt8) (l:List Ex):encS (.mk 6 [] [] [.mk nCall 0 s l] [] [])=.agg [int .i64 6,str [],.list [],.list [.agg [str nCall,int .u32 0,str s,.list (l.map encE)]],.list [],.list []]:=by
 rw[encS_mk,zMc,encE_mk]
 rfl
theorem simple_spec (sb:Nat) (T:List Tok) (hT:TOK T) (f:Nat) (hE:∀ g,g≤f→ExprC B0 w0 sb T g):SimpleC B0 w0 sb T (f+1):=by
 intro i op r hi ho hr
 have hl:=hT.len
 obtain ⟨gL,_,_,_,gI,gA,_⟩:=ex_good T f
 rw[sSimple] at hr
 refine cI Tryz.func206 rfl (n:=46) rfl rfl rfl ?_
 refine gac ?_
 refine oS (sA fun b2=>?_) rfl
 refine ge3 ?_
 refine oS (sH [_,_] rfl zp1 (take_spec sb T i op kwReturn hl zo) ?_) rfl
 refine gar ?_
 refine oC rfl (fun hc=>?_) (fun hc=>?_)
 ·have hlt:=isTok_lt hc
  rw[if_pos hc] at hr
  simp only[hc,if_true]
  refine gab ?_
  obtain ⟨r1,hr1⟩:=obind_is hr
  refine oS (sP [_] rfl pH (hE f zo _ _ r1 zo zo hr1) (fun v i1 op1 h1=>?_) (fun l er i1 op1 h1 e9 he9=>?_)) rfl
  rotate_left
  ·exact zT18
  rw[hr1,h1,obind_ok] at hr
  refine oS (sL [_] rfl (eC rfl rfl eN) rfl rfl rfl ?_) rfl
  refine gj9 ?_
  exact retP (v:=.mk 5 [] [] [v] [] []) rfl (rC (rA (k:=6) rfl zm0 rfl (vA (bs:=[_,_,.list [],_,.list [],.list []]) ⟨vR _,vR _,vN,vR _,vN,vN,trivial⟩)) rN) (by cases hr;rfl) (by rw[encS_mk];rfl) (zhP zp1 zhn)
 ·rw[if_neg (by rw[hc];decide)] at hr
  simp only[hc,Bool.false_eq_true,if_false]
  refine gab ?_
  refine oS (sH [_,_] rfl pH (take_spec sb T i op kwHalt hl zo) ?_) rfl
  refine gar ?_
  refine oC rfl (fun hc2=>?_) (fun hc2=>?_)
  ·have hlt:=isTok_lt hc2
   rw[if_pos hc2] at hr
   simp only[hc2,if_true]
   refine gka ?_
   exact retP (v:=.mk 7 [] [] [] [] []) rfl (rC (rA (k:=6) rfl zm0 rfl (vA (bs:=[_,_,.list [],.list [],.list [],.list []]) ⟨vR _,vR _,vN,vN,vN,vN,trivial⟩)) rN) (by cases hr;rfl) (by rw[encS_mk];rfl) (zhP zp1 zhn)
  ·rw[if_neg (by rw[hc2];decide)] at hr
   simp only[hc2,Bool.false_eq_true,if_false]
   refine gb0 ?_
   refine oS (sP [_,_] rfl pH (word_spec sb T i op 2 hl zo) (fun s i1 op1 h1=>?_) (fun l er i1 op1 h1 e9 he9=>?_)) rfl
   rotate_left
   ·exact zT20
   rw[h1,obind_ok] at hr
   obtain ⟨rfl,rfl,t,ht,_,_⟩:=sWord_ok h1
   have:=get_lt ht
   refine gkb ?_
   refine oS (sA fun b4=>?_) rfl
   refine gkc ?_
   refine oS (sL [_] rfl (eC rfl rfl eN) rfl rfl rfl ?_) rfl
   refine oS (sH [_,_] rfl zp1 (is_spec sb T (i+1) op1 [[40]] hl zo (by simp)) ?_) rfl
   refine gar ?_
   refine oC rfl (fun hc3=>?_) (fun hc3=>?_)
   ·rw[if_pos hc3] at hr
    refine gab ?_
    obtain ⟨r1,hr1⟩:=obind_is hr
    refine oS (sP [_] rfl pH (args_spec sb T hT f (fun g hg=>hE g zo) (i+1) op1 r1 zo zo hr1) (fun l i2 op2 h2=>?_) (fun l er i2 op2 h2 e9 he9=>?_)) rfl
    rotate_left
    ·rw[hr1,h2,obind_err] at hr
     refine gaa ?_
     exact panP zb0 (by cases hr;rfl) zhp
    rw[hr1,h2,obind_ok] at hr
    refine gci ?_
    refine oS (sL [_] rfl (eC rfl rfl eN) rfl rfl rfl ?_) rfl
    refine gkd ?_
    exact retP (v:=.mk 6 [] [] [.mk nCall 0 s l] [] []) rfl (rC (rA (k:=6) rfl zm0 rfl (vA (bs:=[_,_,.list [],_,.list [],.list []]) ⟨vR _,vR _,vN,vR _,vN,vN,trivial⟩)) rN) (by cases hr;rfl) (by rw[encCall];rfl) (zhP zp1 zhn)
   ·rw[if_neg (by rw[hc3];decide)] at hr
    refine gab ?_
    refine oS (sL [_] rfl (eC rfl rfl eN) rfl rfl rfl ?_) rfl
    refine oS (sH [_,_] rfl pH (is_spec sb T (i+1) op1 [[91]] hl zo (by simp)) ?_) rfl
    refine gar ?_
    refine oC rfl (fun hc4=>?_) (fun hc4=>?_)
    ·rw[if_pos hc4] at hr
     refine gas ?_
     obtain ⟨r1,hr1⟩:=obind_is hr
     refine oS (sP [_] rfl pH (index_specL sb T hT f (fun g hg=>hE g zo) (i+1) op1 r1 zo zo hr1) (fun x i2 op2 h2=>?_) (fun l er i2 op2 h2 e9 he9=>?_)) rfl
     rotate_left
     ·rw[hr1,h2,obind_err] at hr
      refine gaa ?_
      exact panP zb0 (by cases hr;rfl) zhp
     rw[hr1,h2,obind_ok] at hr
     obtain ⟨q1,q2,q3,rfl⟩:=gI _ _ _ (hr1.trans (congrArg some h2))
     have q4:=q3 zo
     refine oS (sL [_] rfl (eC rfl rfl eN) rfl rfl rfl ?_) rfl
     refine gke ?_
     refine oS (sP [_,_] rfl zp1 (need_spec sb T i2 op2 [61] hl zo) (fun u i3 op3 h3=>?_) (fun l er i3 op3 h3 e9 he9=>?_)) rfl
     rotate_left
     ·exact zT21
     rw[h3,obind_ok] at hr
     have hg3:=sNeed_good T [61] i2 op2
     rw[h3] at hg3
     obtain ⟨k1,k2,k3,rfl⟩:=hg3
     have k4:=k3 q4
     refine gak ?_
     obtain ⟨r2,hr2⟩:=obind_is hr
     refine oS (sP [_] rfl pH (hE f zo _ _ r2 zo zo hr2) (fun v i4 op4 h4=>?_) (fun l er i4 op4 h4 e9 he9=>?_)) rfl
     rotate_left
     ·rw[hr2,h4,obind_err] at hr
      refine gaa ?_
      exact panP zb0 (by cases hr;rfl) zhp
     rw[hr2,h4,obind_ok] at hr
     refine oS (sL [_] rfl (eC rfl rfl eN) rfl rfl rfl ?_) rfl
     refine ge4 ?_
     exact retP (v:=.mk 2 s [x] [v] [] []) rfl (rC (rA (k:=6) rfl zm0 rfl (vA (bs:=[_,_,_,_,.list [],.list []]) ⟨vR _,vR _,vR _,vR _,vN,vN,trivial⟩)) rN) (by cases hr;rfl) (by rw[encS_mk];rfl) (zhP zp2 zhn)
    ·rw[if_neg (by rw[hc4];decide)] at hr
     refine gb0 ?_
     refine oS (sP [_,_] rfl pH (need_spec sb T (i+1) op1 [61] hl zo) (fun u i3 op3 h3=>?_) (fun l er i3 op3 h3 e9 he9=>?_)) rfl
     rotate_left
     ·exact zT21
     rw[h3,obind_ok] at hr
     have hg3:=sNeed_good T [61] (i+1) op1
     rw[h3] at hg3
     obtain ⟨k1,k2,k3,rfl⟩:=hg3
     have k4:=k3 zo
     refine gak ?_
     obtain ⟨r2,hr2⟩:=obind_is hr
     refine oS (sP [_] rfl pH (hE f zo _ _ r2 zo zo hr2) (fun v i4 op4 h4=>?_) (fun l er i4 op4 h4 e9 he9=>?_)) rfl
     rotate_left
     ·rw[hr2,h4,obind_err] at hr
      refine gaa ?_
      exact panP zb0 (by cases hr;rfl) zhp
     rw[hr2,h4,obind_ok] at hr
     refine oS (sL [_] rfl (eC rfl rfl eN) rfl rfl rfl ?_) rfl
     refine ge4 ?_
     exact retP (v:=.mk 1 s [] [v] [] []) rfl (rC (rA (k:=6) rfl zm0 rfl (vA (bs:=[_,_,.list [],_,.list [],.list []]) ⟨vR _,vR _,vN,vR _,vN,vN,trivial⟩)) rN) (by cases hr;rfl) (by rw[encS_mk];rfl) (zhP zp2 zhn)
theorem stmt_spec (sb:Nat) (T:List Tok) (hT:TOK T) (f:Nat) (hE:∀ g,g≤f→ExprC B0 w0 sb T g) (hB:BlockC B0 w0 sb T f) (hM:SimpleC B0 w0 sb T f):StmtC B0 w0 sb T (f+1):=by
 intro i op r hi ho hr
 have hl:=hT.len
 obtain ⟨gL,_,_,_,gI,gA,_⟩:=ex_good T f
 obtain ⟨kB,kL,kS,kM⟩:=st_good T f
 rw[sStmt] at hr
 refine cI Tryz.func167 rfl (n:=38) rfl rfl rfl ?_
 refine gac ?_
 refine oS (sA fun b2=>?_) rfl
 refine ge3 ?_
 refine oS (sH [_,_] rfl zp1 (take_spec sb T i op kwIf hl zo) ?_) rfl
 refine gar ?_
 refine oC rfl (fun hc=>?_) (fun hc=>?_)
 ·have hlt:=isTok_lt hc
  rw[if_pos hc] at hr
  simp only[hc,if_true]
  refine gab ?_
  obtain ⟨r1,hr1⟩:=obind_is hr
  refine oS (sP [_] rfl pH (hE f zo _ _ r1 zo zo hr1) (fun v i1 op1 h1=>?_) (fun l er i1 op1 h1 e9 he9=>?_)) rfl
  rotate_left
  ·exact zT18
  rw[hr1,h1,obind_ok] at hr
  obtain ⟨g1,g2,g3,rfl⟩:=gL 0 _ _ _ (hr1.trans (congrArg some h1))
  have g4:=g3 zo
  refine oS (sL [_] rfl (eC rfl rfl eN) rfl rfl rfl ?_) rfl
  refine gc5 ?_
  refine oS (sA fun b3=>?_) rfl
  refine gc6 ?_
  obtain ⟨r2,hr2⟩:=obind_is hr
  refine oS (sP [_] rfl zp1 (hB _ _ r2 zo zo hr2) (fun th i2 op2 h2=>?_) (fun l er i2 op2 h2 e9 he9=>?_)) rfl
  rotate_left
  ·rw[hr2,h2,obind_err] at hr
   refine gaa ?_
   exact panP zb0 (by cases hr;rfl) zhp
  rw[hr2,h2,obind_ok] at hr
  obtain ⟨q1,q2,q3,rfl⟩:=kB _ _ _ (hr2.trans (congrArg some h2))
  have q4:=q3 zo
  refine gkf ?_
  refine oS (sH [_,_] rfl zp1 (take_spec sb T i2 op2 kwElse hl zo) ?_) rfl
  refine gaq ?_
  refine oC rfl (fun hc2=>?_) (fun hc2=>?_)
  ·have hlt2:=isTok_lt hc2
   rw[if_pos hc2] at hr
   simp only[hc2,if_true]
   refine gas ?_
   obtain ⟨r3,hr3⟩:=obind_is hr
   refine oS (sP [_] rfl pH (hB _ _ r3 zo zo hr3) (fun el i3 op3 h3=>?_) (fun l er i3 op3 h3 e9 he9=>?_)) rfl
   rotate_left
   ·rw[hr3,h3,obind_err] at hr
    refine gaa ?_
    exact panP zb0 (by cases hr;rfl) zhp
   rw[hr3,h3,obind_ok] at hr
   refine ge5 ?_
   exact retP (v:=.mk 3 [] [] [v] th el) rfl (rC (rA (k:=6) rfl zm0 rfl (vA (bs:=[_,_,.list [],_,_,_]) ⟨vR _,vR _,vN,vR _,vR _,vR _,trivial⟩)) rN) (by cases hr;rfl) (by rw[encS_mk];rfl) (zhP zp2 zhn)
  ·rw[if_neg (by rw[hc2];decide)] at hr
   simp only[hc2,Bool.false_eq_true,if_false]
   refine gkg ?_
   exact retP (v:=.mk 3 [] [] [v] th []) rfl (rC (rA (k:=6) rfl zm0 rfl (vA (bs:=[_,_,.list [],_,_,.list []]) ⟨vR _,vR _,vN,vR _,vR _,vN,trivial⟩)) rN) (by cases hr;rfl) (by rw[encS_mk];rfl) (zhP zp1 zhn)
 ·rw[if_neg (by rw[hc];decide)] at hr
  simp only[hc,Bool.false_eq_true,if_false]
  refine gab ?_
  refine oS (sH [_,_] rfl pH (take_spec sb T i op kwWhile hl zo) ?_) rfl
  refine gar ?_
  refine oC rfl (fun hc2=>?_) (fun hc2=>?_)
  ·have hlt:=isTok_lt hc2
   rw[if_pos hc2] at hr
   simp only[hc2,if_true]
   refine gab ?_
   obtain ⟨r1,hr1⟩:=obind_is hr
   refine oS (sP [_] rfl pH (hE f zo _ _ r1 zo zo hr1) (fun v i1 op1 h1=>?_) (fun l er i1 op1 h1 e9 he9=>?_)) rfl
   rotate_left
   ·exact zT18
   rw[hr1,h1,obind_ok] at hr
   obtain ⟨g1,g2,g3,rfl⟩:=gL 0 _ _ _ (hr1.trans (congrArg some h1))
   have g4:=g3 zo
   refine oS (sL [_] rfl (eC rfl rfl eN) rfl rfl rfl ?_) rfl
   refine gc5 ?_
   refine oS (sA fun b3=>?_) rfl
   refine gc6 ?_
   obtain ⟨r2,hr2⟩:=obind_is hr
   refine oS (sP [_] rfl zp1 (hB _ _ r2 zo zo hr2) (fun th i2 op2 h2=>?_) (fun l er i2 op2 h2 e9 he9=>?_)) rfl
   rotate_left
   ·rw[hr2,h2,obind_err] at hr
    refine gaa ?_
    exact panP zb0 (by cases hr;rfl) zhp
   rw[hr2,h2,obind_ok] at hr
   refine ge5 ?_
   exact retP (v:=.mk 4 [] [] [v] th []) rfl (rC (rA (k:=6) rfl zm0 rfl (vA (bs:=[_,_,.list [],_,_,.list []]) ⟨vR _,vR _,vN,vR _,vR _,vN,trivial⟩)) rN) (by cases hr;rfl) (by rw[encS_mk];rfl) (zhP zp2 zhn)
  ·rw[if_neg (by rw[hc2];decide)] at hr
   simp only[hc2,Bool.false_eq_true,if_false]
   refine gb0 ?_
   obtain ⟨r1,hr1⟩:=obind_is hr
   refine oS (sP [_] rfl pH (hM _ _ r1 zo zo hr1) (fun v i1 op1 h1=>?_) (fun l er i1 op1 h1 e9 he9=>?_)) rfl
   rotate_left
   ·exact zT18
   rw[hr1,h1,obind_ok] at hr
   obtain ⟨g1,g2,g3,rfl⟩:=kM _ _ _ (hr1.trans (congrArg some h1))
   have g4:=g3 zo
   refine oS (sA fun b5=>?_) rfl
   refine gc6 ?_
   refine oS (sP [_,_] rfl zp1 (need_spec sb T i1 op1 [59] hl zo) (fun u i2 op2 h2=>?_) (fun l er i2 op2 h2 e9 he9=>?_)) rfl
   rotate_left
   ·rw[h2,obind_err] at hr
    refine gaa ?_
    exact panP zb0 (by cases hr;rfl) zhp
   rw[h2,obind_ok] at hr
   refine gkh ?_
   exact retP (v:=v) rfl (rC (rA rfl zm0 rfl zsr) rN) (by cases hr;rfl) rfl (zhP zp1 zhn)
theorem st_all (hG:GW B0 w0) (sb:Nat) (T:List Tok) (hT:TOK T):∀ f:Nat,BlockC B0 w0 sb T f∧StmtsC B0 w0 sb T f∧StmtC B0 w0 sb T f∧SimpleC B0 w0 sb T f:=by
 intro f
 induction f using Nat.strongRecOn with
 |_ f ih=>
  have hE:=fun g=>(all_spec (B0:=B0) (w0:=w0) hG sb T hT g).2
  cases f with
  |zero=>
   refine ⟨?_,stmts_spec sb T hT 0 (fun g hg=>by omega),?_,?_⟩
   ·intro i op r _ _ hr;rw[sBlock] at hr;cases hr
   ·intro i op r _ _ hr;rw[sStmt] at hr;cases hr
   ·intro i op r _ _ hr;rw[sSimple] at hr;cases hr
  |succ f=>
   have h:=ih f zo
   exact ⟨block_spec sb T hT f h.2.1,stmts_spec sb T hT _ (fun g hg=>(ih g hg).2.2.1),stmt_spec sb T hT f (fun g _=>hE g) h.1 h.2.2.2,simple_spec sb T hT f (fun g _=>hE g)⟩
end
end Go.Proofs.YtegmklafpoldgaaGreatDoor
namespace Go.Proofs.YtegmklafpoldgaaGreatDoor
open Go.GL Go.RowKit Go.Stele
theorem namesLoop_len (T:List Tok):∀ (f:Nat) (acc:List (List UInt8)) (i op:Nat) (l:List (List UInt8)) (i' op':Nat),sNamesLoop T f acc i op=some (.ok l i' op')→l.length+i≤acc.length+i'
 |0,_,_,_,_,_,_,h=>by rw[sNamesLoop] at h;cases h
 |f+1,acc,i,op,l,i',op',h=>by
  rw[sNamesLoop] at h
  split at h
  ·rcases obind_some h with ⟨s,i1,op1,h1,h2⟩|⟨l,e,_,hh⟩
   ·injection h1 with h1
    obtain ⟨rfl,rfl,_⟩:=sWord_ok h1
    have:=namesLoop_len T f _ _ _ _ _ _ h2
    rw[zLa,List.length_singleton] at this
    omega
   ·cases hh
  ·cases h
   omega
theorem names_len {T:List Tok} {f i op:Nat} {l:List (List UInt8)} {i' op':Nat} (h:sNames T f i op=some (.ok l i' op')):l.length+i≤i':=by
 unfold sNames at h
 rcases obind_some h with ⟨s,i1,op1,h1,h2⟩|⟨l,e,_,hh⟩
 ·injection h1 with h1
  obtain ⟨rfl,rfl,_⟩:=sWord_ok h1
  have:=namesLoop_len T f _ _ _ _ _ _ h2
  rw[List.length_singleton] at this
  omega
 ·cases hh
theorem vars_len (T:List Tok):∀ (f:Nat) (acc:List (List UInt8)) (i op:Nat) (l:List (List UInt8)) (i' op':Nat),sVars T f acc i op=some (.ok l i' op')→l.length+i≤acc.length+i'
 |0,_,_,_,_,_,_,h=>by rw[sVars] at h;cases h
 |f+1,acc,i,op,l,i',op',h=>by
  rw[sVars] at h
  split at h
  ·rcases obind_some h with ⟨s,i1,op1,h1,h2⟩|⟨l,e,_,hh⟩
   ·have:=names_len h1
    rcases obind_some h2 with ⟨u,i2,op2,h3,h4⟩|⟨l,e,_,hh⟩
    ·injection h3 with h3
     have hg:=sNeed_good T [59] i1 op1
     rw[h3] at hg
     have hv:=vars_len T f _ _ _ _ _ _ h4
     have:=hg.1
     rw[zLa] at hv
     omega
    ·cases hh
   ·cases hh
  ·cases h
   omega
attribute [local irreducible] LOps LCode LStep LCalls Go.GL.Pure QThen QBlock RetPost LQ LAny LLate LLateOp
section
variable {B0:Nat} {w0:World}
theorem vars_spec (sb:Nat) (T:List Tok) (hT:TOK T) (f i op:Nat) (r:Res (List (List UInt8))) (hi:i≤T.length) (hr:sVars T f [] i op=some r) :
  LCalls (KC B0 w0) 43 [ptr sb 0] [srcH sb T i op] (PostP sb T encNames r):=by
 have hl:=hT.len
 refine cI Tryz.func43 rfl (n:=13) rfl rfl rfl ?_
 refine gca ?_
 refine oL (fun k ls H=>∃ (v:LV) (l:List (List UInt8)) (i2:Nat) (Ha:Heap),k≤f∧ls=[(0,ptr sb 0),(3,v)]∧H=srcH sb T i2 op::Ha∧Acc 1 v (l.map str) Ha []∧i2≤T.length∧l.length≤i2∧sVars T k l i2 op=some r)
  ⟨f,_,srcH sb T i op::[],⟨nilSlice,[],i,_,zNr _,rfl,rfl,Acc.nil,by omega,by simp,hr⟩,⟨rfl,rfl,trivial⟩,zhR _⟩ ?_
 rintro k ls H ⟨v,l,i2,Ha,hkf,rfl,rfl,hacc,hi2,hll,hI⟩ j hj
 obtain ⟨k,rfl⟩:∃ k',k=k'+1:=by
  cases k with
  |zero=>rw[sVars] at hI;cases hI
  |succ k=>exact ⟨k,rfl⟩
 rw[sVars] at hI
 refine gab ?_
 refine oS (sH [_,_] rfl pH (take_spec sb T i2 op kwVar hl zo) ?_) rfl
 refine gaq ?_
 refine oC rfl (fun hc=>?_) (fun hc=>?_)
 ·have hlt:=isTok_lt hc
  rw[if_pos hc] at hI
  simp only[hc,if_true]
  refine gag ?_
  refine oP (pM (lv:=v) rfl) rfl ?_
  refine gat ?_
  obtain ⟨r2,hr2⟩:=obind_is hI
  refine oS (sP [_] rfl pH (names_specP sb T hT k (i2+1) op r2 zo hr2) (fun ns i4 op4 h4=>?_) (fun l er i4 op4 h4 e9 he9=>?_)) rfl
  rotate_left
  ·rw[hr2,h4,obind_err] at hI
   refine gaa ?_
   exact panP zb0 (by cases hI;rfl) zhp
  rw[hr2,h4,obind_ok] at hI
  obtain ⟨g1,g2,g3,rfl⟩:=sNames_good T k _ _ _ (hr2.trans (congrArg some h4))
  have g5:=g3 zo
  have g6:=names_len (hr2.trans (congrArg some h4))
  refine oS (S.acc1 (ms:=ns.map str) rfl hacc rfl (strs_len ns) (strs_ok ns) (by simp;omega) fun v' H' hacc'=>?_) rfl
  refine oP (pA (lv:=v') rfl) rfl ?_
  refine ga3 ?_
  refine oS (sP [_,_] rfl pH (need_spec sb T i4 op4 [59] hl zo) (fun u i5 op5 h5=>?_) (fun l er i5 op5 h5 e9 he9=>?_)) rfl
  rotate_left
  ·rw[h5,obind_err] at hI
   refine gaa ?_
   exact panP zb0 (by cases hI;rfl) zhp
  rw[h5,obind_ok] at hI
  have hg5:=sNeed_good T [59] i4 op4
  rw[h5] at hg5
  obtain ⟨k1,k2,k3,rfl⟩:=hg5
  have k4:=k3 g5
  refine gb2 ?_
  exact ⟨k,_,_,by omega,⟨v',l++ns,i5,H',by omega,rfl,rfl,by rw[zMa];exact hacc',by omega,by rw[zLa];omega,hI⟩,⟨rfl,rfl,trivial⟩,zhR _,hj⟩
 ·rw[if_neg (by rw[hc];decide)] at hI
  simp only[hc,Bool.false_eq_true,if_false]
  refine gbb ?_
  refine oP (pM (lv:=v) rfl) rfl ?_
  refine oP (pA (lv:=v) rfl) rfl ?_
  refine gbj ?_
  exact retP (v:=l) hj (rC (rT (v:=v) rfl hacc.sub) rN) (by cases hI;rfl) rfl zhp
theorem array_spec (hG:GW B0 w0) (sb:Nat) (T:List Tok) (hT:TOK T) (i op:Nat) (r:Res Ar) (hi:i≤T.length) (ho:op≤100) (hr:sArray T i op=some r) :
  LCalls (KC B0 w0) 45 [ptr sb 0] [srcH sb T i op] (PostP sb T encAr r):=by
 have hl:=hT.len
 unfold sArray at hr
 refine cI Tryz.func45 rfl (n:=18) rfl rfl rfl ?_
 refine gac ?_
 refine oS (sA fun b2=>?_) rfl
 refine gak ?_
 refine oS (sP [_,_] rfl zp1 (word_spec sb T i op 2 hl zo) (fun s i1 op1 h1=>?_) (fun l er i1 op1 h1 e9 he9=>?_)) rfl
 rotate_left
 ·exact zT20
 rw[h1,obind_ok] at hr
 obtain ⟨rfl,rfl,t,ht,_,_⟩:=sWord_ok h1
 have:=get_lt ht
 refine gki ?_
 refine oS (sA fun b3=>?_) rfl
 refine gkj ?_
 refine oS (sP [_,_] rfl zp1 (begin_spec sb T (i+1) op1 [91] hl zo zo) (fun v i2 op2 h2=>?_) (fun l er i2 op2 h2 e9 he9=>?_)) rfl
 rotate_left
 ·rw[h2,obind_err] at hr
  refine gaa ?_
  exact panP zb0 (by cases hr;rfl) zhp
 rw[h2,obind_ok] at hr
 obtain ⟨rfl,rfl,ho1,hi1⟩:=sBegin_ok h2
 refine gak ?_
 refine oS (sP [_] rfl pH (number_specP hG sb T hT (i+1+1) (op1+1) zo) (fun m i3 op3 h3=>?_) (fun l er i3 op3 h3 e9 he9=>?_)) rfl
 rotate_left
 ·exact zT21
 rw[h3,obind_ok] at hr
 have hg3:=sNumber_good T (i+1+1) (op1+1)
 rw[h3] at hg3
 obtain ⟨k1,k2,k3,rfl⟩:=hg3
 have k4:=k3 zo
 have hm:m≤4294967295:=by
  unfold sNumber at h3
  unfold Res.bind at h3
  split at h3
  ·rename_i s2 i6 op6 h6
   cases h3
   obtain ⟨_,_,t6,ht6,hk6,rfl⟩:=sWord_ok h6
   obtain ⟨u,hu,hp⟩:=hT.num t6 (List.mem_of_getElem? ht6) hk6
   rw[numOf,hp]
   simp only
   omega
  ·cases h3
 have hw:IntKind.i64.wrap (m:Int)=(m:Int):=wrap_i64 zo
 refine gkk ?_
 refine oS (sP [_,_] rfl zp1 (end_spec sb T i3 (op1+1) [93] hl zo zo zo) (fun u i4 op4 h4=>?_) (fun l er i4 op4 h4 e9 he9=>?_)) rfl
 rotate_left
 ·rw[h4,obind_err] at hr
  refine gaa ?_
  exact panP zb0 (by cases hr;rfl) zhp
 rw[h4,obind_ok] at hr
 obtain ⟨rfl,rfl,hi4⟩:=sEnd_ok h4
 refine gak ?_
 refine oS (sP [_,_] rfl pH (need_spec sb T (i3+1) op4 [59] hl zo) (fun u2 i5 op5 h5=>?_) (fun l er i5 op5 h5 e9 he9=>?_)) rfl
 rotate_left
 ·rw[h5,obind_err] at hr
  refine gaa ?_
  exact panP zb0 (by cases hr;rfl) zhp
 rw[h5,obind_ok] at hr
 refine gkl ?_
 exact retP (v:=⟨s,m⟩) rfl (rC (rA (k:=2) rfl zm0 rfl zsr) rN) (by cases hr;rfl) (by show LV.agg [str s,int .i64 (IntKind.i64.wrap m)]=encAr ⟨s,m⟩;rw[hw];rfl) (zhP zp1 zhn)
theorem func_spec (hG:GW B0 w0) (sb:Nat) (T:List Tok) (hT:TOK T) (f i op:Nat) (r:Res FnD) (hi:i≤T.length) (ho:op≤100) (hr:sFunc T f i op=some r) :
  LCalls (KC B0 w0) 46 [ptr sb 0] [srcH sb T i op] (PostP sb T encFn r):=by
 have hl:=hT.len
 unfold sFunc at hr
 refine cI Tryz.func46 rfl (n:=29) rfl rfl rfl ?_
 refine gac ?_
 refine oS (sA fun b2=>?_) rfl
 refine gak ?_
 refine oS (sP [_,_] rfl zp1 (word_spec sb T i op 2 hl zo) (fun s i1 op1 h1=>?_) (fun l er i1 op1 h1 e9 he9=>?_)) rfl
 rotate_left
 ·exact zT20
 rw[h1,obind_ok] at hr
 obtain ⟨rfl,rfl,t,ht,_,_⟩:=sWord_ok h1
 have:=get_lt ht
 refine gci ?_
 refine oS (sA fun b3=>?_) rfl
 refine gc3 ?_
 refine oS (sP [_,_] rfl zp1 (begin_spec sb T (i+1) op1 [40] hl zo zo) (fun v i2 op2 h2=>?_) (fun l er i2 op2 h2 e9 he9=>?_)) rfl
 rotate_left
 ·rw[h2,obind_err] at hr
  refine gaa ?_
  exact panP zb0 (by cases hr;rfl) zhp
 rw[h2,obind_ok] at hr
 obtain ⟨rfl,rfl,ho1,hi1⟩:=sBegin_ok h2
 refine gak ?_
 refine oS (sL [_] rfl (eC rfl rfl eN) rfl rfl rfl ?_) rfl
 refine oS (sH [_,_] rfl pH (is_spec sb T (i+1+1) (op1+1) [[41]] hl zo (by simp)) ?_) rfl
 refine ga8 ?_
 obtain ⟨r3,hr3⟩:=obind_is hr
 refine LCode.mid (A:=List (List UInt8)×Nat) (fun _=>[(0,ptr sb 0),(2,ptr b2 0),(3,ptr b3 0)]) (fun a=>(b3,.cells 89 [str s,.list (a.1.map str),nilSlice,nilSlice])::srcH sb T a.2 (op1+1)::[(b2,.cells 89 [str [],nilSlice,nilSlice,nilSlice])])
  (fun a=>i+1+1≤a.2∧a.2≤T.length∧r3=.ok a.1 a.2 (op1+1)) ?_ ?_
 ·refine oC rfl (fun hc=>?_) (fun hc=>?_)
  ·have hc':isTok T (i+1+1) [[41]]=false:=by simpa using hc
   rw[if_neg (by rw[hc'];decide)] at hr3
   refine gas ?_
   refine oS (sP [_] rfl pH (names_specP sb T hT f (i+1+1) (op1+1) r3 zo hr3) (fun ns i3 op3 h3=>?_) (fun l er i3 op3 h3 e9 he9=>?_)) rfl
   ·obtain ⟨g1,g2,g3,rfl⟩:=sNames_good T f _ _ _ (hr3.trans (congrArg some h3))
    have g5:=g3 zo
    refine gkm ?_
    exact ⟨(ns,i3),⟨by omega,g5,h3⟩,⟨rfl,rfl,rfl,trivial⟩,rfl,rfl⟩
   ·rw[if_neg (by rw[hc'];decide),hr3,h3,obind_err] at hr
    refine gad ?_
    exact panP (he9.trans rfl) (by cases hr;rfl) zhp
  ·have hc':isTok T (i+1+1) [[41]]=true:=by simpa using hc
   rw[if_pos hc'] at hr3
   cases hr3
   refine LCode.cellSub zp1 (cs':=[str s,.list [],nilSlice,nilSlice]) ⟨vR _,vN,vR _,vR _,trivial⟩ ?_
   refine ga6 ?_
   exact ⟨([],i+1+1),⟨zNr _,by omega,rfl⟩,⟨rfl,rfl,rfl,trivial⟩,rfl,rfl⟩
 ·rintro ⟨ps,i3⟩ ⟨hi3,hi3T,rfl⟩ j hj
  rw[hr3,obind_ok] at hr
  refine gab ?_
  refine oS (sP [_,_] rfl zp1 (end_spec sb T i3 (op1+1) [41] hl zo zo zo) (fun u i4 op4 h4=>?_) (fun l er i4 op4 h4 e9 he9=>?_)) rfl
  rotate_left
  ·rw[h4,obind_err] at hr
   refine gaa ?_
   exact panP zb0 (by cases hr;rfl) zhp
  rw[h4,obind_ok] at hr
  obtain ⟨rfl,rfl,hi4⟩:=sEnd_ok h4
  refine gak ?_
  refine oS (sP [_,_] rfl pH (begin_spec sb T (i3+1) op4 [123] hl zo zo) (fun u2 i5 op5 h5=>?_) (fun l er i5 op5 h5 e9 he9=>?_)) rfl
  rotate_left
  ·rw[h5,obind_err] at hr
   refine gaa ?_
   exact panP zb0 (by cases hr;rfl) zhp
  rw[h5,obind_ok] at hr
  obtain ⟨rfl,rfl,ho5,hi5⟩:=sBegin_ok h5
  refine gak ?_
  obtain ⟨r6,hr6⟩:=obind_is hr
  refine oS (sP [_] rfl pH (vars_spec sb T hT f (i3+1+1) (op4+1) r6 zo hr6) (fun vs i6 op6 h6=>?_) (fun l er i6 op6 h6 e9 he9=>?_)) rfl
  rotate_left
  ·rw[hr6,h6,obind_err] at hr
   refine gaa ?_
   exact panP zb0 (by cases hr;rfl) zhp
  rw[hr6,h6,obind_ok] at hr
  obtain ⟨g1,g2,g3,rfl⟩:=sVars_good T f _ _ _ _ (hr6.trans (congrArg some h6))
  have g4:=g3 zo
  refine ge6 ?_
  obtain ⟨r7,hr7⟩:=obind_is hr
  refine oS (sP [_] rfl zp1 ((st_all hG sb T hT f).2.1 i6 (op4+1) r7 zo zo hr7) (fun ss i7 op7 h7=>?_) (fun l er i7 op7 h7 e9 he9=>?_)) rfl
  rotate_left
  ·rw[hr7,h7,obind_err] at hr
   refine gaa ?_
   exact panP zb0 (by cases hr;rfl) zhp
  rw[hr7,h7,obind_ok] at hr
  obtain ⟨q1,q2,q3,rfl⟩:=(st_good T f).2.1 _ _ _ _ (hr7.trans (congrArg some h7))
  have q4:=q3 zo
  refine ge6 ?_
  refine oS (sP [_,_] rfl zp1 (end_spec sb T i7 (op4+1) [125] hl zo zo zo) (fun u3 i8 op8 h8=>?_) (fun l er i8 op8 h8 e9 he9=>?_)) rfl
  rotate_left
  ·rw[h8,obind_err] at hr
   refine gaa ?_
   exact panP zb0 (by cases hr;rfl) zhp
  rw[h8,obind_ok] at hr
  refine ges ?_
  exact retP (v:=⟨s,ps,vs,ss⟩) hj (rC (rA (k:=4) rfl zm0 rfl zsr) rN) (by cases hr;rfl) rfl (zhP zp1 zhn)
end
end Go.Proofs.YtegmklafpoldgaaGreatDoor
namespace Go.Proofs.YtegmklafpoldgaaGreatDoor
open Go.GL Go.RowKit Go.Stele
theorem permV {a b c:Nat×LObj} {X Y Z:Heap}:(a::b::c::(X++(Y++Z))).Perm (X++(a::b::c::(Y++Z))):=List.perm_append_comm_assoc [a,b,c] X (Y++Z)
theorem permA {a b c:Nat×LObj} {X Y Z:Heap}:(a::b::c::(X++(Y++Z))).Perm (Y++(a::b::c::(X++Z))):=
 (((List.perm_append_comm_assoc X Y Z).cons c).cons b |>.cons a).trans (List.perm_append_comm_assoc [a,b,c] Y (X++Z))
theorem permF {a b c:Nat×LObj} {X Y Z:Heap}:(a::b::c::(X++(Y++Z))).Perm (Z++(a::b::c::(X++Y))):=
 ((((show (X++(Y++Z)).Perm (Z++(X++Y)) from by rw[←zAs];exact zPc).cons c).cons b).cons a).trans (List.perm_append_comm_assoc [a,b,c] Z (X++Y))
theorem hsubV {a b c:Nat×LObj} {X Y Z:Heap}:HSub (a::b::c::(X++(Y++Z))) (b::a::c::((Y++Z)++X)):=
 ⟨[],by rw[zLz];exact (List.Perm.swap _ _ _).trans ((((zPc).cons c).cons b).cons a)⟩
theorem hsubA {a b c:Nat×LObj} {X Y Z:Heap}:HSub (a::b::c::(X++(Y++Z))) (b::a::c::((X++Z)++Y)):=
 ⟨[],by rw[zLz];exact (List.Perm.swap _ _ _).trans ((((show ((X++Z)++Y).Perm (X++(Y++Z)) from by rw[zAs];exact zPc.append_left X).cons c).cons b).cons a)⟩
theorem hsubF {a b c:Nat×LObj} {X Y Z:Heap}:HSub (a::b::c::(X++(Y++Z))) (b::a::c::((X++Y)++Z)):=
 ⟨[],by rw[zLz,zAs];exact List.Perm.swap _ _ _⟩
theorem Acc.cell {s:Nat} {v:LV} {es:List LV} {H F:Heap} (h:Acc s v es H F):v.cells? = some [v]∧[v].all cellOk=true:=by
 cases h <;> exact ⟨rfl,rfl⟩
attribute [local irreducible] LOps LCode LStep LCalls Go.GL.Pure QThen QBlock RetPost LQ LAny LLate LLateOp
section
variable {B0:Nat} {w0:World}
theorem program_spec (hG:GW B0 w0) (sb:Nat) (T:List Tok) (hT:TOK T) (f:Nat) (r:Res Pr) (hr:sProg T f ⟨[],[],[]⟩ 0 0=some r) :
  LCalls (KC B0 w0) 21 [ptr sb 0] [srcH sb T 0 0] (PostP sb T encPr r):=by
 have hl:=hT.len
 have hml:(T.map encTok).length=T.length:=zLm _
 refine cI Tryz.func21 rfl (n:=47) rfl rfl rfl ?_
 refine gac ?_
 refine oS (sA fun b2=>?_) rfl
 refine gcg ?_
 refine oS (sA fun b3=>?_) rfl
 refine gkn ?_
 refine oL (fun k ls H=>∃ (p:Pr) (v1 v2 v3:LV) (i2:Nat) (H1 H2 H3:Heap),k≤f∧ls=[(0,ptr sb 0),(2,ptr b2 0),(3,ptr b3 0)]∧H=srcH sb T i2 0::(b3,.cells 28 [v1,v2,v3])::(b2,.cells 28 [nilSlice,nilSlice,nilSlice])::(H1++(H2++H3)) ∧
   Acc 1 v1 (p.vars.map str) H1 []∧Acc 2 v2 (p.arrays.map encAr) H2 []∧Acc 4 v3 (p.funcs.map encFn) H3 []∧i2≤T.length∧p.vars.length≤i2∧p.arrays.length≤i2∧p.funcs.length≤i2∧sProg T k p i2 0=some r)
  ⟨f,_,_,⟨⟨[],[],[]⟩,nilSlice,nilSlice,nilSlice,0,[],[],[],zNr _,rfl,rfl,Acc.nil,Acc.nil,Acc.nil,Nat.zero_le _,Nat.zero_le _,Nat.zero_le _,Nat.zero_le _,hr⟩,⟨rfl,rfl,rfl,trivial⟩,zhP zp2 zhr⟩ ?_
 rintro k ls H ⟨p,v1,v2,v3,i2,H1,H2,H3,hkf,rfl,rfl,ha1,ha2,ha3,hi2,hl1,hl2,hl3,hI⟩ j hj
 obtain ⟨k,rfl⟩:∃ k',k=k'+1:=by
  cases k with
  |zero=>rw[sProg] at hI;cases hI
  |succ k=>exact ⟨k,rfl⟩
 rw[sProg] at hI
 refine gb4 ?_
 refine cC [(0,ptr sb 0),(2,ptr b2 0),(3,ptr b3 0),(13,bool (decide (i2<T.length)))] ?_ (fun j2 hj2=>?_)
 ·refine LCode.quiet zk ?_
  refine gko ?_
  exact ⟨⟨rfl,rfl,rfl,bool_eq (by rw[decide_eq_decide];simp),trivial⟩,rfl,rfl⟩
 ·skip
  refine oC rfl (fun hc=>?_) (fun hc=>?_)
  ·have hlt:i2<T.length:=zt hc
   rw[if_neg zo] at hI
   refine gbo ?_
   refine oS (sL [_] rfl (eC rfl rfl eN) rfl rfl rfl ?_) rfl
   refine oS (sH [_,_] rfl pH (is_spec sb T i2 0 [kwVar] hl zo (by simp)) ?_) rfl
   refine gar ?_
   refine oC rfl (fun hv=>?_) (fun hv=>?_)
   ·rw[if_pos hv] at hI
    obtain ⟨r2,hr2⟩:=obind_is hI
    refine cD (m:=7) rfl [] ?_
    refine aT 0 rfl rfl (pF rfl) ?_
    refine aT 2 rfl rfl (pM (lv:=.atom _) rfl) ?_
    refine aL ?_ zhn
    refine zl2 (i:=1) (j:=3) zk ?_ ?_
    ·refine lH rfl rfl (pL (c:=v1) rfl zm1 rfl) ?_
     refine lO 3 (lW rfl (.inl rfl) rfl (sP [_] rfl pH (vars_spec sb T hT k i2 0 r2 hi2 hr2) (fun l i3 op3 h3=>?_) (fun l er i3 op3 h3 e' he'=>?_)))
     ·obtain ⟨g1,g2,g3,rfl⟩:=sVars_good T k _ _ _ _ (hr2.trans (congrArg some h3))
      have g4:=g3 hi2
      have g5:=g2 hv
      have g6:=vars_len T _ _ _ _ _ _ _ (hr2.trans (congrArg some h3))
      rw[hr2,h3,obind_ok] at hI
      rw[zLn] at g6
      refine lO 4 (lW rfl (.inl rfl) rfl (sG permV rfl ha1 rfl (strs_len l) (strs_ok l) (by simp;omega) fun v' H' ha'=>?_))
      refine lO 5 (lH rfl rfl (pF rfl) ?_)
      refine lO 6 (lW rfl (.inl rfl) rfl (sS (cs':=[v',v2,v3]) rfl zp1 (Acc.cell ha').1 rfl rfl (Acc.cell ha').2 rfl ?_))
      refine lD zk ?_
      refine gbi ?_
      exact ⟨k,_,_,by omega,⟨{ p with vars:=p.vars++l },v',v2,v3,i3,H',H2,H3,by omega,rfl,rfl,by rw[zMa];exact ha',ha2,ha3,g4,by rw[zLa];omega,zNt hl2 zo,zNt hl3 zo,hI⟩,⟨rfl,rfl,rfl,trivial⟩,hsubV,hj2.trans hj⟩
     ·exact zT8
    ·refine lW rfl (.inl rfl) rfl (sP [_] rfl pH (vars_spec sb T hT k i2 0 r2 hi2 hr2) (fun l i3 op3 h3=>?_) (fun l er i3 op3 h3 e' he'=>?_))
     ·refine lO 1 (lH rfl rfl (pL (c:=v1) rfl zm1 rfl) ?_)
      obtain ⟨g1,g2,g3,rfl⟩:=sVars_good T k _ _ _ _ (hr2.trans (congrArg some h3))
      have g4:=g3 hi2
      have g5:=g2 hv
      have g6:=vars_len T _ _ _ _ _ _ _ (hr2.trans (congrArg some h3))
      rw[hr2,h3,obind_ok] at hI
      rw[zLn] at g6
      refine lO 4 (lW rfl (.inl rfl) rfl (sG permV rfl ha1 rfl (strs_len l) (strs_ok l) (by simp;omega) fun v' H' ha'=>?_))
      refine lO 5 (lH rfl rfl (pF rfl) ?_)
      refine lO 6 (lW rfl (.inl rfl) rfl (sS (cs':=[v',v2,v3]) rfl zp1 (Acc.cell ha').1 rfl rfl (Acc.cell ha').2 rfl ?_))
      refine lD zk ?_
      refine gbi ?_
      exact ⟨k,_,_,by omega,⟨{ p with vars:=p.vars++l },v',v2,v3,i3,H',H2,H3,by omega,rfl,rfl,by rw[zMa];exact ha',ha2,ha3,g4,by rw[zLa];omega,zNt hl2 zo,zNt hl3 zo,hI⟩,⟨rfl,rfl,rfl,trivial⟩,hsubV,hj2.trans hj⟩
     ·exact zT8
   ·rw[if_neg (by rw[hv];decide)] at hI
    refine gab ?_
    refine oS (sH [_,_] rfl pH (take_spec sb T i2 0 kwArray hl zo) ?_) rfl
    refine gar ?_
    refine oC rfl (fun hw=>?_) (fun hw=>?_)
    ·have hlt2:=isTok_lt hw
     rw[if_pos hw] at hI
     simp only[hw,if_true]
     obtain ⟨r2,hr2⟩:=obind_is hI
     refine cD (m:=8) rfl [] ?_
     refine aT 0 rfl rfl (pF rfl) ?_
     refine aT 2 rfl rfl (pM (lv:=.atom _) rfl) ?_
     refine aL ?_ zhn
     refine zl2 (i:=1) (j:=3) zk ?_ ?_
     ·refine lH rfl rfl (pL (c:=v2) rfl zm1 rfl) ?_
      refine lO 3 (lW rfl (.inl rfl) rfl (sP [_] rfl pH (array_spec hG sb T hT (i2+1) 0 r2 zo zo hr2) (fun l i3 op3 h3=>?_) (fun l er i3 op3 h3 e' he'=>?_)))
      ·obtain ⟨g1,g2,g3,rfl⟩:=sArray_good T _ _ _ (hr2.trans (congrArg some h3))
       have g4:=g3 zo
       rw[hr2,h3,obind_ok] at hI
       refine lO 4 (lW rfl (.inl rfl) rfl (sL [_] rfl (eC rfl rfl eN) rfl rfl rfl ?_))
       refine lO 5 (lW rfl (.inl rfl) rfl (sG permA rfl ha2 rfl (by simp;rfl) rfl (by simp;omega) fun v' H' ha'=>?_))
       refine lO 6 (lH rfl rfl (pF rfl) ?_)
       refine lO 7 (lW rfl (.inl rfl) rfl (sS (cs':=[v1,v',v3]) rfl zp1 (Acc.cell ha').1 rfl rfl (Acc.cell ha').2 rfl ?_))
       refine lD zk ?_
       refine gbi ?_
       exact ⟨k,_,_,by omega,⟨{ p with arrays:=p.arrays++[l] },v1,v',v3,i3,H1,H',H3,by omega,rfl,rfl,ha1,by rw[zMa];exact ha',ha3,g4,zNt hl1 zo,by rw[zLa,List.length_singleton];omega,zNt hl3 zo,hI⟩,⟨rfl,rfl,rfl,trivial⟩,hsubA,hj2.trans hj⟩
      ·exact zT8
     ·refine lW rfl (.inl rfl) rfl (sP [_] rfl pH (array_spec hG sb T hT (i2+1) 0 r2 zo zo hr2) (fun l i3 op3 h3=>?_) (fun l er i3 op3 h3 e' he'=>?_))
      ·refine zl2 (i:=1) (j:=4) zk ?_ ?_
       ·refine lH rfl rfl (pL (c:=v2) rfl zm1 rfl) ?_
        obtain ⟨g1,g2,g3,rfl⟩:=sArray_good T _ _ _ (hr2.trans (congrArg some h3))
        have g4:=g3 zo
        rw[hr2,h3,obind_ok] at hI
        refine lO 4 (lW rfl (.inl rfl) rfl (sL [_] rfl (eC rfl rfl eN) rfl rfl rfl ?_))
        refine lO 5 (lW rfl (.inl rfl) rfl (sG permA rfl ha2 rfl (by simp;rfl) rfl (by simp;omega) fun v' H' ha'=>?_))
        refine lO 6 (lH rfl rfl (pF rfl) ?_)
        refine lO 7 (lW rfl (.inl rfl) rfl (sS (cs':=[v1,v',v3]) rfl zp1 (Acc.cell ha').1 rfl rfl (Acc.cell ha').2 rfl ?_))
        refine lD zk ?_
        refine gbi ?_
        exact ⟨k,_,_,by omega,⟨{ p with arrays:=p.arrays++[l] },v1,v',v3,i3,H1,H',H3,by omega,rfl,rfl,ha1,by rw[zMa];exact ha',ha3,g4,zNt hl1 zo,by rw[zLa,List.length_singleton];omega,zNt hl3 zo,hI⟩,⟨rfl,rfl,rfl,trivial⟩,hsubA,hj2.trans hj⟩
       ·obtain ⟨g1,g2,g3,rfl⟩:=sArray_good T _ _ _ (hr2.trans (congrArg some h3))
        have g4:=g3 zo
        rw[hr2,h3,obind_ok] at hI
        refine lW rfl (.inl rfl) rfl (sL [_] rfl (eC rfl rfl eN) rfl rfl rfl ?_)
        refine lO 1 (lH rfl rfl (pL (c:=v2) rfl zm1 rfl) ?_)
        refine lO 5 (lW rfl (.inl rfl) rfl (sG permA rfl ha2 rfl (by simp;rfl) rfl (by simp;omega) fun v' H' ha'=>?_))
        refine lO 6 (lH rfl rfl (pF rfl) ?_)
        refine lO 7 (lW rfl (.inl rfl) rfl (sS (cs':=[v1,v',v3]) rfl zp1 (Acc.cell ha').1 rfl rfl (Acc.cell ha').2 rfl ?_))
        refine lD zk ?_
        refine gbi ?_
        exact ⟨k,_,_,by omega,⟨{ p with arrays:=p.arrays++[l] },v1,v',v3,i3,H1,H',H3,by omega,rfl,rfl,ha1,by rw[zMa];exact ha',ha3,g4,zNt hl1 zo,by rw[zLa,List.length_singleton];omega,zNt hl3 zo,hI⟩,⟨rfl,rfl,rfl,trivial⟩,hsubA,hj2.trans hj⟩
      ·exact zT8
    ·rw[if_neg (by rw[hw];decide)] at hI
     simp only[hw,Bool.false_eq_true,if_false]
     refine gab ?_
     refine oS (sH [_,_] rfl pH (take_spec sb T i2 0 kwFunc hl zo) ?_) rfl
     refine gar ?_
     refine oC rfl (fun hu=>?_) (fun hu=>?_)
     ·have hlt2:=isTok_lt hu
      rw[if_pos hu] at hI
      simp only[hu,if_true]
      obtain ⟨r2,hr2⟩:=obind_is hI
      refine cD (m:=8) rfl [] ?_
      refine aT 0 rfl rfl (pF rfl) ?_
      refine aT 2 rfl rfl (pM (lv:=.atom _) rfl) ?_
      refine aL ?_ zhn
      refine zl2 (i:=1) (j:=3) zk ?_ ?_
      ·refine lH rfl rfl (pL (c:=v3) rfl zm1 rfl) ?_
       refine lO 3 (lW rfl (.inl rfl) rfl (sP [_] rfl pH (func_spec hG sb T hT k (i2+1) 0 r2 zo zo hr2) (fun l i3 op3 h3=>?_) (fun l er i3 op3 h3 e' he'=>?_)))
       ·obtain ⟨g1,g2,g3,rfl⟩:=sFunc_good T k _ _ _ (hr2.trans (congrArg some h3))
        have g4:=g3 zo
        rw[hr2,h3,obind_ok] at hI
        refine lO 4 (lW rfl (.inl rfl) rfl (sL [_] rfl (eC rfl rfl eN) rfl rfl rfl ?_))
        refine lO 5 (lW rfl (.inl rfl) rfl (sG permF rfl ha3 rfl (by simp;rfl) rfl (by simp;omega) fun v' H' ha'=>?_))
        refine lO 6 (lH rfl rfl (pF rfl) ?_)
        refine lO 7 (lW rfl (.inl rfl) rfl (sS (cs':=[v1,v2,v']) rfl zp1 (Acc.cell ha').1 rfl rfl (Acc.cell ha').2 rfl ?_))
        refine lD zk ?_
        refine gbi ?_
        exact ⟨k,_,_,by omega,⟨{ p with funcs:=p.funcs++[l] },v1,v2,v',i3,H1,H2,H',by omega,rfl,rfl,ha1,ha2,by rw[zMa];exact ha',g4,zNt hl1 zo,zNt hl2 zo,by rw[zLa,List.length_singleton];omega,hI⟩,⟨rfl,rfl,rfl,trivial⟩,hsubF,hj2.trans hj⟩
       ·exact zT8
      ·refine lW rfl (.inl rfl) rfl (sP [_] rfl pH (func_spec hG sb T hT k (i2+1) 0 r2 zo zo hr2) (fun l i3 op3 h3=>?_) (fun l er i3 op3 h3 e' he'=>?_))
       ·refine zl2 (i:=1) (j:=4) zk ?_ ?_
        ·refine lH rfl rfl (pL (c:=v3) rfl zm1 rfl) ?_
         obtain ⟨g1,g2,g3,rfl⟩:=sFunc_good T k _ _ _ (hr2.trans (congrArg some h3))
         have g4:=g3 zo
         rw[hr2,h3,obind_ok] at hI
         refine lO 4 (lW rfl (.inl rfl) rfl (sL [_] rfl (eC rfl rfl eN) rfl rfl rfl ?_))
         refine lO 5 (lW rfl (.inl rfl) rfl (sG permF rfl ha3 rfl (by simp;rfl) rfl (by simp;omega) fun v' H' ha'=>?_))
         refine lO 6 (lH rfl rfl (pF rfl) ?_)
         refine lO 7 (lW rfl (.inl rfl) rfl (sS (cs':=[v1,v2,v']) rfl zp1 (Acc.cell ha').1 rfl rfl (Acc.cell ha').2 rfl ?_))
         refine lD zk ?_
         refine gbi ?_
         exact ⟨k,_,_,by omega,⟨{ p with funcs:=p.funcs++[l] },v1,v2,v',i3,H1,H2,H',by omega,rfl,rfl,ha1,ha2,by rw[zMa];exact ha',g4,zNt hl1 zo,zNt hl2 zo,by rw[zLa,List.length_singleton];omega,hI⟩,⟨rfl,rfl,rfl,trivial⟩,hsubF,hj2.trans hj⟩
        ·obtain ⟨g1,g2,g3,rfl⟩:=sFunc_good T k _ _ _ (hr2.trans (congrArg some h3))
         have g4:=g3 zo
         rw[hr2,h3,obind_ok] at hI
         refine lW rfl (.inl rfl) rfl (sL [_] rfl (eC rfl rfl eN) rfl rfl rfl ?_)
         refine lO 1 (lH rfl rfl (pL (c:=v3) rfl zm1 rfl) ?_)
         refine lO 5 (lW rfl (.inl rfl) rfl (sG permF rfl ha3 rfl (by simp;rfl) rfl (by simp;omega) fun v' H' ha'=>?_))
         refine lO 6 (lH rfl rfl (pF rfl) ?_)
         refine lO 7 (lW rfl (.inl rfl) rfl (sS (cs':=[v1,v2,v']) rfl zp1 (Acc.cell ha').1 rfl rfl (Acc.cell ha').2 rfl ?_))
         refine lD zk ?_
         refine gbi ?_
         exact ⟨k,_,_,by omega,⟨{ p with funcs:=p.funcs++[l] },v1,v2,v',i3,H1,H2,H',by omega,rfl,rfl,ha1,ha2,by rw[zMa];exact ha',g4,zNt hl1 zo,zNt hl2 zo,by rw[zLa,List.length_singleton];omega,hI⟩,⟨rfl,rfl,rfl,trivial⟩,hsubF,hj2.trans hj⟩
       ·exact zT8
     ·rw[if_neg (by rw[hu];decide)] at hI
      simp only[hu,Bool.false_eq_true,if_false]
      refine gas ?_
      refine oS (sP [_,_] rfl pH (fail_spec encPr sb T i2 0 3 hl zo) (fun _ _ _ h=>by cases h) (fun l er i' op' h e' he'=>?_)) rfl
      cases h
      refine gaa ?_
      exact panP (he'.trans (hj2.trans hj)) (by cases hI;rfl) zhp
  ·have hge:T.length≤i2:=by have:=zf hc;omega
   rw[if_pos hge] at hI
   refine LCode.cellSub zp1 (cs':=[.list (p.vars.map str),.list (p.arrays.map encAr),.list (p.funcs.map encFn)]) ⟨ha1.sub,ha2.sub,ha3.sub,trivial⟩ ?_
   refine gkp ?_
   exact retP (v:=p) (hj2.trans hj) (rC (rA (k:=3) rfl zm0 rfl zsr) rN) (by cases hI;rfl) rfl (zhP zp2 zhn)
end
end Go.Proofs.YtegmklafpoldgaaGreatDoor
