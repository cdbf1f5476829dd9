/- Texts joined: ParSpec2, ParEq, ParEnc, GlDraw2, GlAcc, GlMap, GlSet, GlInts, GlKv, GlArith, GlRows, GlGrow, GlPair, InpSpec, ChkSpec, FmtSpec. -/
import Derived.Laws.IdiomStrings
import Derived.StillTail
import Derived.DeepKeys
import Derived.Lib.Join
import Derived.Test.YtegmklafpoldgaaGreatDoorBRowPU2
set_option linter.unusedVariables false
set_option linter.unusedSimpArgs false
set_option maxRecDepth 100000
set_option maxHeartbeats 4000000
namespace Go.Stele
inductive Res (A:Type) where
 |ok (v:A) (at' op:Nat)
 |err (line e:Int)
def failLine (T:List Tok) (i:Nat):Int:=match T[min i (T.length-1)]? with
 |some t=>t.line
 |none=>1
def synErr {A:Type} (T:List Tok) (i:Nat):Res A:=.err (failLine T i) 3
def isTok (T:List Tok) (i:Nat) (xs:List (List UInt8)):Bool:=match T[i]? with
 |some t=>(decide (t.kind=3) || decide (t.kind=4)) && xs.contains t.text
 |none=>false
def sWord (T:List Tok) (k:Int) (i op:Nat):Res (List UInt8):=match T[i]? with
 |some t=>if t.kind=k then .ok t.text (i+1) op else synErr T i
 |none=>synErr T i
def sNeed (T:List Tok) (x:List UInt8) (i op:Nat):Res Unit:=if isTok T i [x] then .ok () (i+1) op else synErr T i
def sBegin (T:List Tok) (x:List UInt8) (i op:Nat):Res Unit:=
 if isTok T i [x] then (if 100≤op then .err (failLine T i) 6 else .ok () (i+1) (op+1)) else synErr T i
def Res.bind {A B:Type} (r:Res A) (f:A→Nat→Nat→Res B):Res B:=match r with
 |.ok v i op=>f v i op
 |.err l e=>.err l e
def numOf (s:List UInt8):Nat:=match Go.Lib.parseUintB 32 s with
 |.ok u=>u
 |_=>0
end Go.Stele
/- What the parser computes, in plain Lean: expressions and statements, by fuel. -/
namespace Go.Stele
inductive Ex where
 |mk (op:List UInt8) (num:Nat) (name:List UInt8) (args:List Ex)
 deriving Inhabited
inductive Sm where
 |mk (kind:Int) (name:List UInt8) (index value:List Ex) (thn els:List Sm)
 deriving Inhabited
structure FnD where
 name:List UInt8
 params:List (List UInt8)
 locals:List (List UInt8)
 body:List Sm
 deriving Inhabited
structure Ar where
 name:List UInt8
 size:Nat
 deriving Inhabited
structure Pr where
 vars:List (List UInt8)
 arrays:List Ar
 funcs:List FnD
 deriving Inhabited
def lvOps:Nat→List (List UInt8)
 |0=>[[124,124]]
 |1=>[[38,38]]
 |2=>[[61,61],[33,61],[60],[62],[60,61],[62,61]]
 |3=>[[94]]
 |4=>[[43],[45]]
 |5=>[[42],[47],[37]]
 |_=>[]
abbrev OR (A:Type):=Option (Res A)
def obind {A B:Type} (r:OR A) (f:A→Nat→Nat→OR B):OR B:=match r with
 |none=>none
 |some (.ok v i op)=>f v i op
 |some (.err l e)=>some (.err l e)
def textAt (T:List Tok) (i:Nat):List UInt8:=match T[i]? with
 |some t=>t.text
 |none=>[]
def kindAt (T:List Tok) (i:Nat):Int:=match T[i]? with
 |some t=>t.kind
 |none=>0
def sEnd (T:List Tok) (x:List UInt8) (i op:Nat):Res Unit:=(sNeed T x i op).bind fun _ i' op'=>.ok () i' (op'-1)
def sNumber (T:List Tok) (i op:Nat):Res Nat:=(sWord T 1 i op).bind fun s i' op'=>.ok (numOf s) i' op'
def sNamesLoop (T:List Tok):Nat→List (List UInt8)→Nat→Nat→OR (List (List UInt8))
 |0,_,_,_=>none
 |f+1,acc,i,op=>if isTok T i [[44]] then obind (some (sWord T 2 (i+1) op)) fun s i' op'=>sNamesLoop T f (acc++[s]) i' op' else some (.ok acc i op)
def sNames (T:List Tok) (f:Nat) (i op:Nat):OR (List (List UInt8)):=obind (some (sWord T 2 i op)) fun s i' op'=>sNamesLoop T f [s] i' op'
def nNeg:List UInt8:=[110,101,103]
def nNot:List UInt8:=[110,111,116]
def nNum:List UInt8:=[110,117,109]
def nElem:List UInt8:=[101,108,101,109]
def nCall:List UInt8:=[99,97,108,108]
def nVar:List UInt8:=[118,97,114]
mutual
def eLev (T:List Tok):Nat→Nat→Nat→Nat→OR Ex
 |0,_,_,_=>none
 |f+1,k,i,op=>if k=6 then eUnary T f i op else obind (eLev T f (k+1) i op) fun e i' op'=>eLoop T f k e i' op'
def eLoop (T:List Tok):Nat→Nat→Ex→Nat→Nat→OR Ex
 |0,_,_,_,_=>none
 |f+1,k,e,i,op=>
  if isTok T i (lvOps k) then obind (eLev T f (k+1) (i+1) op) fun e2 i' op'=>
   if k=2 then some (.ok (.mk (textAt T i) 0 [] [e,e2]) i' op') else eLoop T f k (.mk (textAt T i) 0 [] [e,e2]) i' op'
  else some (.ok e i op)
def eUnary (T:List Tok):Nat→Nat→Nat→OR Ex
 |0,_,_=>none
 |f+1,i,op=>
  if isTok T i [[45]] then obind (some (sBegin T [45] i op)) fun _ i' op'=>obind (eUnary T f i' op') fun e i' op'=>some (.ok (.mk nNeg 0 [] [e]) i' (op'-1))
  else if isTok T i [[33]] then obind (some (sBegin T [33] i op)) fun _ i' op'=>obind (eUnary T f i' op') fun e i' op'=>some (.ok (.mk nNot 0 [] [e]) i' (op'-1))
  else ePrim T f i op
def ePrim (T:List Tok):Nat→Nat→Nat→OR Ex
 |0,_,_=>none
 |f+1,i,op=>
  if isTok T i [[40]] then obind (some (sBegin T [40] i op)) fun _ i' op'=>obind (eLev T f 0 i' op') fun e i' op'=>obind (some (sEnd T [41] i' op')) fun _ i' op'=>some (.ok e i' op')
  else if kindAt T i=1 then obind (some (sNumber T i op)) fun n i' op'=>some (.ok (.mk nNum n [] []) i' op')
  else obind (some (sWord T 2 i op)) fun s i' op'=>
   if isTok T i' [[91]] then obind (eIndex T f i' op') fun e i' op'=>some (.ok (.mk nElem 0 s [e]) i' op')
   else if isTok T i' [[40]] then obind (eArgs T f i' op') fun l i' op'=>some (.ok (.mk nCall 0 s l) i' op')
   else some (.ok (.mk nVar 0 s []) i' op')
def eIndex (T:List Tok):Nat→Nat→Nat→OR Ex
 |0,_,_=>none
 |f+1,i,op=>obind (some (sBegin T [91] i op)) fun _ i' op'=>obind (eLev T f 0 i' op') fun e i' op'=>obind (some (sEnd T [93] i' op')) fun _ i' op'=>some (.ok e i' op')
def eArgs (T:List Tok):Nat→Nat→Nat→OR (List Ex)
 |0,_,_=>none
 |f+1,i,op=>obind (some (sBegin T [40] i op)) fun _ i' op'=>obind (eArgsLoop T f [] i' op') fun l i' op'=>obind (some (sEnd T [41] i' op')) fun _ i' op'=>some (.ok l i' op')
def eArgsLoop (T:List Tok):Nat→List Ex→Nat→Nat→OR (List Ex)
 |0,_,_,_=>none
 |f+1,acc,i,op=>
  if isTok T i [[41]] then some (.ok acc i op)
  else obind (some (if acc=[] then .ok () i op else sNeed T [44] i op)) fun _ i' op'=>obind (eLev T f 0 i' op') fun e i' op'=>eArgsLoop T f (acc++[e]) i' op'
end
def kwIf:List UInt8:=[105,102]
def kwElse:List UInt8:=[101,108,115,101]
def kwWhile:List UInt8:=[119,104,105,108,101]
def kwReturn:List UInt8:=[114,101,116,117,114,110]
def kwHalt:List UInt8:=[104,97,108,116]
def kwVar:List UInt8:=[118,97,114]
def kwArray:List UInt8:=[97,114,114,97,121]
def kwFunc:List UInt8:=[102,117,110,99]
end Go.Stele
namespace Go.Stele
mutual
def sBlock (T:List Tok):Nat→Nat→Nat→OR (List Sm)
 |0,_,_=>none
 |f+1,i,op=>obind (some (sBegin T [123] i op)) fun _ i' op'=>obind (sStmts T f [] i' op') fun l i' op'=>obind (some (sEnd T [125] i' op')) fun _ i' op'=>some (.ok l i' op')
def sStmts (T:List Tok):Nat→List Sm→Nat→Nat→OR (List Sm)
 |0,_,_,_=>none
 |f+1,acc,i,op=>if isTok T i [[125]] then some (.ok acc i op) else obind (sStmt T f i op) fun s i' op'=>sStmts T f (acc++[s]) i' op'
def sStmt (T:List Tok):Nat→Nat→Nat→OR Sm
 |0,_,_=>none
 |f+1,i,op=>
  if isTok T i [kwIf] then obind (eLev T f 0 (i+1) op) fun e i' op'=>obind (sBlock T f i' op') fun th i' op'=>
   if isTok T i' [kwElse] then obind (sBlock T f (i'+1) op') fun el i' op'=>some (.ok (.mk 3 [] [] [e] th el) i' op') else some (.ok (.mk 3 [] [] [e] th []) i' op')
  else if isTok T i [kwWhile] then obind (eLev T f 0 (i+1) op) fun e i' op'=>obind (sBlock T f i' op') fun th i' op'=>some (.ok (.mk 4 [] [] [e] th []) i' op')
  else obind (sSimple T f i op) fun s i' op'=>obind (some (sNeed T [59] i' op')) fun _ i' op'=>some (.ok s i' op')
def sSimple (T:List Tok):Nat→Nat→Nat→OR Sm
 |0,_,_=>none
 |f+1,i,op=>
  if isTok T i [kwReturn] then obind (eLev T f 0 (i+1) op) fun e i' op'=>some (.ok (.mk 5 [] [] [e] [] []) i' op')
  else if isTok T i [kwHalt] then some (.ok (.mk 7 [] [] [] [] []) (i+1) op)
  else obind (some (sWord T 2 i op)) fun s i' op'=>
   if isTok T i' [[40]] then obind (eArgs T f i' op') fun l i' op'=>some (.ok (.mk 6 [] [] [.mk nCall 0 s l] [] []) i' op')
   else if isTok T i' [[91]] then obind (eIndex T f i' op') fun x i' op'=>obind (some (sNeed T [61] i' op')) fun _ i' op'=>obind (eLev T f 0 i' op') fun e i' op'=>some (.ok (.mk 2 s [x] [e] [] []) i' op')
   else obind (some (sNeed T [61] i' op')) fun _ i' op'=>obind (eLev T f 0 i' op') fun e i' op'=>some (.ok (.mk 1 s [] [e] [] []) i' op')
end
def sVars (T:List Tok):Nat→List (List UInt8)→Nat→Nat→OR (List (List UInt8))
 |0,_,_,_=>none
 |f+1,acc,i,op=>if isTok T i [kwVar] then obind (sNames T f (i+1) op) fun l i' op'=>obind (some (sNeed T [59] i' op')) fun _ i' op'=>sVars T f (acc++l) i' op' else some (.ok acc i op)
def sFunc (T:List Tok) (f:Nat) (i op:Nat):OR FnD:=
 obind (some (sWord T 2 i op)) fun nm i' op'=>obind (some (sBegin T [40] i' op')) fun _ i' op'=>
 obind (if isTok T i' [[41]] then some (.ok [] i' op') else sNames T f i' op') fun ps i' op'=>obind (some (sEnd T [41] i' op')) fun _ i' op'=>
 obind (some (sBegin T [123] i' op')) fun _ i' op'=>obind (sVars T f [] i' op') fun ls i' op'=>obind (sStmts T f [] i' op') fun b i' op'=>
 obind (some (sEnd T [125] i' op')) fun _ i' op'=>some (.ok ⟨nm,ps,ls,b⟩ i' op')
def sArray (T:List Tok) (i op:Nat):OR Ar:=
 obind (some (sWord T 2 i op)) fun nm i' op'=>obind (some (sBegin T [91] i' op')) fun _ i' op'=>obind (some (sNumber T i' op')) fun n i' op'=>
 obind (some (sEnd T [93] i' op')) fun _ i' op'=>obind (some (sNeed T [59] i' op')) fun _ i' op'=>some (.ok ⟨nm,n⟩ i' op')
def sProg (T:List Tok):Nat→Pr→Nat→Nat→OR Pr
 |0,_,_,_=>none
 |f+1,p,i,op=>
  if T.length≤i then some (.ok p i op)
  else if isTok T i [kwVar] then obind (sVars T f [] i op) fun l i' op'=>sProg T f { p with vars:=p.vars++l } i' op'
  else if isTok T i [kwArray] then obind (sArray T (i+1) op) fun a i' op'=>sProg T f { p with arrays:=p.arrays++[a] } i' op'
  else if isTok T i [kwFunc] then obind (sFunc T f (i+1) op) fun a i' op'=>sProg T f { p with funcs:=p.funcs++[a] } i' op'
  else some (synErr T i)
end Go.Stele
namespace Go.Stele
def exOp:Ex→List UInt8|.mk o _ _ _=>o
def exNum:Ex→Nat|.mk _ n _ _=>n
def exName:Ex→List UInt8|.mk _ _ n _=>n
def smKind:Sm→Int|.mk k _ _ _ _ _=>k
def smName:Sm→List UInt8|.mk _ n _ _ _ _=>n
def smIndex:Sm→List Ex|.mk _ _ i _ _ _=>i
def smValue:Sm→List Ex|.mk _ _ _ v _ _=>v
mutual
def eqEx:Ex→Ex→Bool
 |.mk o n nm a,.mk o' n' nm' a'=>decide (o=o') && decide ((n:Int)=(n':Int)) && decide (nm=nm') && eqExs a a'
def eqExs:List Ex→List Ex→Bool
 |[],[]=>true
 |x::xs,y::ys=>eqEx x y && eqExs xs ys
 |_,_=>false
end
mutual
def eqSm:Sm→Sm→Bool
 |.mk k n i v t e,.mk k' n' i' v' t' e'=>decide (k=k') && decide (n=n') && eqExs i i' && eqExs v v' && eqSms t t' && eqSms e e'
def eqSms:List Sm→List Sm→Bool
 |[],[]=>true
 |x::xs,y::ys=>eqSm x y && eqSms xs ys
 |_,_=>false
end
def eqList {A:Type} (f:A→A→Bool):List A→List A→Bool
 |[],[]=>true
 |x::xs,y::ys=>f x y && eqList f xs ys
 |_,_=>false
def eqNames:List (List UInt8)→List (List UInt8)→Bool:=eqList fun a b=>decide (a=b)
def eqAr (a b:Ar):Bool:=decide (a.name=b.name) && decide ((a.size:Int)=(b.size:Int))
def eqFn (a b:FnD):Bool:=decide (a.name=b.name) && eqNames a.params b.params && eqNames a.locals b.locals && eqSms a.body b.body
def eqPr (a b:Pr):Bool:=eqNames a.vars b.vars && eqList eqAr a.arrays b.arrays && eqList eqFn a.funcs b.funcs
mutual
theorem eqEx_iff:∀ a b:Ex,eqEx a b=true ↔ a=b
 |.mk o n nm a,.mk o' n' nm' a'=>by
  rw[eqEx]
  simp only[zBa,zDe,eqExs_iff a a',Ex.mk.injEq]
  constructor
  ·rintro ⟨⟨⟨h1,h2⟩,h3⟩,h4⟩;exact ⟨h1,by omega,h3,h4⟩
  ·rintro ⟨h1,h2,h3,h4⟩;exact ⟨⟨⟨h1,by omega⟩,h3⟩,h4⟩
theorem eqExs_iff:∀ a b:List Ex,eqExs a b=true ↔ a=b
 |[],[]=>by simp[eqExs]
 |x::xs,[]=>by simp[eqExs]
 |[],y::ys=>by simp[eqExs]
 |x::xs,y::ys=>by rw[eqExs];simp[eqEx_iff x y,eqExs_iff xs ys]
end
mutual
theorem eqSm_iff:∀ a b:Sm,eqSm a b=true ↔ a=b
 |.mk k n i v t e,.mk k' n' i' v' t' e'=>by
  rw[eqSm]
  simp[eqExs_iff,eqSms_iff t t',eqSms_iff e e',and_assoc]
theorem eqSms_iff:∀ a b:List Sm,eqSms a b=true ↔ a=b
 |[],[]=>by simp[eqSms]
 |x::xs,[]=>by simp[eqSms]
 |[],y::ys=>by simp[eqSms]
 |x::xs,y::ys=>by rw[eqSms];simp[eqSm_iff x y,eqSms_iff xs ys]
end
theorem eqList_iff {A:Type} {f:A→A→Bool} (h:∀ a b,f a b=true ↔ a=b):∀ a b:List A,eqList f a b=true ↔ a=b
 |[],[]=>by simp[eqList]
 |x::xs,[]=>by simp[eqList]
 |[],y::ys=>by simp[eqList]
 |x::xs,y::ys=>by rw[eqList];simp[h x y,eqList_iff h xs ys]
theorem eqNames_iff (a b:List (List UInt8)):eqNames a b=true ↔ a=b:=eqList_iff (by simp) a b
theorem eqAr_iff (a b:Ar):eqAr a b=true ↔ a=b:=by
 obtain ⟨n,s⟩:=a
 obtain ⟨n',s'⟩:=b
 simp only[eqAr,zBa,zDe,Ar.mk.injEq]
 constructor
 ·rintro ⟨h1,h2⟩;exact ⟨h1,by omega⟩
 ·rintro ⟨h1,h2⟩;exact ⟨h1,by omega⟩
theorem eqFn_iff (a b:FnD):eqFn a b=true ↔ a=b:=by
 obtain ⟨n,p,l,c⟩:=a
 obtain ⟨n',p',l',c'⟩:=b
 simp[eqFn,eqNames_iff,eqSms_iff,and_assoc]
theorem eqPr_iff (a b:Pr):eqPr a b=true ↔ a=b:=by
 obtain ⟨v,r,f⟩:=a
 obtain ⟨v',r',f'⟩:=b
 simp[eqPr,eqNames_iff,eqList_iff eqAr_iff,eqList_iff eqFn_iff,and_assoc]
end Go.Stele
namespace Go.Proofs.YtegmklafpoldgaaGreatDoor
open Go.GL Go.RowKit Go.Stele
mutual
def encArgs:Ex→List LV
 |.mk _ _ _ a=>encEs a
def encEs:List Ex→List LV
 |[]=>[]
 |e::r=>.agg [str (exOp e),int .u32 (exNum e),str (exName e),.list (encArgs e)]::encEs r
end
def encE (e:Ex):LV:=.agg [str (exOp e),int .u32 (exNum e),str (exName e),.list (encArgs e)]
theorem encEs_map:∀ l:List Ex,encEs l=l.map encE
 |[]=>by simp[encEs]
 |e::r=>by rw[encEs,encEs_map r];try rfl
theorem encArgs_map (o:List UInt8) (n:Nat) (nm:List UInt8) (a:List Ex):encArgs (.mk o n nm a)=a.map encE:=by rw[encArgs,encEs_map]
theorem encE_mk (o:List UInt8) (n:Nat) (nm:List UInt8) (a:List Ex):encE (.mk o n nm a)=.agg [str o,int .u32 n,str nm,.list (a.map encE)]:=by rw[encE,encArgs_map];try rfl
mutual
def encThen:Sm→List LV
 |.mk _ _ _ _ t _=>encSs t
def encElse:Sm→List LV
 |.mk _ _ _ _ _ e=>encSs e
def encSs:List Sm→List LV
 |[]=>[]
 |s::r=>.agg [int .i64 (smKind s),str (smName s),.list ((smIndex s).map encE),.list ((smValue s).map encE),.list (encThen s),.list (encElse s)]::encSs r
end
def encS (s:Sm):LV:=.agg [int .i64 (smKind s),str (smName s),.list ((smIndex s).map encE),.list ((smValue s).map encE),.list (encThen s),.list (encElse s)]
theorem encSs_map:∀ l:List Sm,encSs l=l.map encS
 |[]=>by simp[encSs]
 |e::r=>by rw[encSs,encSs_map r];try rfl
theorem encS_mk (k:Int) (n:List UInt8) (i v:List Ex) (t e:List Sm):encS (.mk k n i v t e)=.agg [int .i64 k,str n,.list (i.map encE),.list (v.map encE),.list (t.map encS),.list (e.map encS)]:=by
 rw[encS,encThen,encElse,encSs_map,encSs_map];try rfl
def encAr (a:Ar):LV:=.agg [str a.name,int .i64 a.size]
def encFn (f:FnD):LV:=.agg [str f.name,.list (f.params.map str),.list (f.locals.map str),.list (f.body.map encS)]
def encPr (p:Pr):LV:=.agg [.list (p.vars.map str),.list (p.arrays.map encAr),.list (p.funcs.map encFn)]
end Go.Proofs.YtegmklafpoldgaaGreatDoor
namespace Go.GL
open Go.RowKit
class TIface (P:Program) (t:TypeId):Prop where
 und:∃ ms,P.underlying t=some (.interface ms)
def chkIface (P:Program) (t:Nat):Bool:=match P.underlying t with|some (.interface _)=>true|_=>false
theorem TIface.of {P:Program} {t:Nat} (h:chkIface P t=true):TIface P t:=by
 unfold chkIface at h
 refine ⟨?_⟩
 cases hu:P.underlying t with
 |none=>rw[hu] at h;simp at h
 |some d=>rw[hu] at h;cases d <;> simp_all
section
variable {C:Ctx} {e:Env} {H:Heap} {dst:Option Nat} {ty:TypeId} {pos:String} {aft:Array Edge} {g:Option (Nat×Bool)} {xT yT:TypeId} {x:Operand}
theorem equal_step (t:TypeId) (x y:Value):Op.equal t x y=Op.equalIn (9999+1) t x y:=rfl
theorem run_equal_nil {P:Program} {t:TypeId} [h:TIface P t] (w:World):(Op.equal t .nilIface .nilIface).run P w=.ok true w:=by
 obtain ⟨ms,hu⟩:=h.und
 rw[equal_step,Op.equalIn]
 simp only[Sem.run_bind,run_underlying' hu,Result.andThen_ok,Sem.run_pure]
theorem run_equal_iface {P:Program} {t:TypeId} [h:TIface P t] (u:TypeId) (p:Value) (w:World):(Op.equal t (.iface u p) .nilIface).run P w=.ok false w:=by
 obtain ⟨ms,hu⟩:=h.und
 rw[equal_step,Op.equalIn]
 simp only[Sem.run_bind,run_underlying' hu,Result.andThen_ok,Sem.run_pure]
theorem Pure.nilNeqNil [TIface C.P xT] (hx:e.ev x=.atom .nilIface):Pure C ⟨dst,.binOp .neq xT x (.const .nilIface) yT,ty,pos,aft,g⟩ e H (bool false):=
 .of_any fun ρ _ _ h=>⟨_,rep_atom,fun w'=>by
  have h1:=atom_of h hx
  have h2:=atom_of h (x:=.const .nilIface) rfl
  have he:eqGuard .neq xT x (.const .nilIface) .nilIface .nilIface=Pure.pure ():=by simp[eqGuard]
  have hb:binOp .neq xT .nilIface .nilIface=(do Pure.pure (.bool (!(←Op.equal xT .nilIface .nilIface)))):=rfl
  simp only[execOp,h1,h2,he,hb,Sem.run_bind,Sem.run_pure,Result.andThen_ok,run_equal_nil,Bool.not_true]⟩
theorem Pure.ifaceNeqNil [TIface C.P xT] {u:TypeId} {p:Value} (hx:e.ev x=.atom (.iface u p)):Pure C ⟨dst,.binOp .neq xT x (.const .nilIface) yT,ty,pos,aft,g⟩ e H (bool true):=
 .of_any fun ρ _ _ h=>⟨_,rep_atom,fun w'=>by
  have h1:=atom_of h hx
  have h2:=atom_of h (x:=.const .nilIface) rfl
  have he:eqGuard .neq xT x (.const .nilIface) (.iface u p) .nilIface=Pure.pure ():=by simp[eqGuard]
  have hb:binOp .neq xT (.iface u p) .nilIface=(do Pure.pure (.bool (!(←Op.equal xT (.iface u p) .nilIface)))):=rfl
  simp only[execOp,h1,h2,he,hb,Sem.run_bind,Sem.run_pure,Result.andThen_ok,run_equal_iface,Bool.not_false]⟩
theorem str_eq {a b:List UInt8} (h:a=b):str a=str b:=by rw[h]
theorem Pure.cvt {k k0 k':IntKind} {s d:TypeId} {n:Int} [hs:TKind C.P s k0] [hd:TKind C.P d k'] (hx:e.ev x=int k n):Pure C ⟨dst,.convert s d x,ty,pos,aft,g⟩ e H (int k' (k'.wrap n)):=Pure.convInt ⟨_,hs.und⟩ hx
end
end Go.GL
/- A small logic over the walk's 'Code.wp': drawn regions in which more than one operation may come up; division; bytes to a string. -/
namespace Go.GL
open Go.RowKit
section any
variable {C:Ctx} {n:Nat} {ops:Array Oper} {Q:Post} {HF:Heap} {fuel:Nat} {listed:Array Bool} {e:Env} {H:Heap}
def LLateOp (C:Ctx) (n:Nat) (ops:Array Oper) (Q:Post) (HF:Heap) (fuel:Nat) (listed:Array Bool) (e:Env) (H:Heap) (i:Nat):Prop:=
 ∀ w0 L0 a w L,(∀ b,L0 b≤L b)→Agree w0 L0 HF w→(∀ p∈HF,p.1<w.heap.size)→RelE n a e w L→RelH C w L H →
  wpOp C.P ops (lift C n w L (keys H) Q) i (fun a' w'=>Agree w0 L0 HF w'∧wpAnyH C.P .any ops (lift C n w L (keys H) Q) (Agree w0 L0 HF) fuel (listed.setIfInBounds i true) a' w') a w
theorem LLate.all {is:List Nat} (hr:Region.ready .any ops listed=is) (hne:is≠[]) (h:∀ i∈is,LLateOp C n ops Q HF fuel listed e H i):LLate C n ops Q HF (fuel+1) listed e H:=fun w0 L0 a w L hL hA hsz hE hH=>
 wpAnyH_all hr hne fun j hj=>h j hj w0 L0 a w L hL hA hsz hE hH
theorem lS {i:Nat} {dst:Option Nat} {op:Op} {ty:TypeId} {pos:String} {aft:Array Edge} {g:Option (Nat×Bool)} {H1 F:Heap} (hi:ops[i]? = some ⟨dst,op,ty,pos,aft,g⟩) (hg:g=none∨∃ j b d,g=some (j,b)∧(ops[j]?).bind (·.dst)=some d∧e.s d=.atom (.bool b)) (hd:dstOk n dst)
  (p:H.Perm (H1++F)) (hHF:HSub HF F)
  (h:LStep C ⟨dst,op,ty,pos,aft,g⟩ e H1 (fun lv H'=>LLate C n ops Q HF fuel (listed.setIfInBounds i true) (e.put dst lv) (H'++F)) (fun ch H'=>∀ e',e'.ds=e.ds→Q (.panic ch) e' (H'++F))) :
  LLateOp C n ops Q HF fuel listed e H i:=fun w0 L0 a w L hL hA hsz hE hH=>by
 have hH':=hH.perm p
 have hn:(keys H1++keys F).Nodup:=by simpa [keys] using hH'.nodup
 have hdis:∀ q∈HF,q.1 ∉ keys H1:=fun q hq hm=>(List.nodup_append.1 hn).2.2 _ hm _ (List.mem_map_of_mem (hHF.mem q hq)) rfl
 have hw:Region.wanted ⟨dst,op,ty,pos,aft,g⟩ (yielded ops a.tmps)=true:=by
  rcases hg with rfl|⟨j,b,d,rfl,hj,hb⟩
  ·simp[Region.wanted]
  ·simp[Region.wanted,yielded_env hE hj hb]
 unfold wpOp
 rw[hi]
 simp only
 rw[if_pos hw]
 refine .inl (step_wp (H:=H1) h hd hE hH'.left (fun lv H' L' w' a' h1 h2 h3 h4=>?_) (fun ch H' L' w' h1 h2 h3=>?_))
 ·have hfr:=hH'.frame h1 h2
  have hag:Agree w0 L0 HF w':=⟨fun q hq=>(h1.block q.1 (hsz q hq) (hdis q hq)).trans (hA.1 q hq),fun b i hi=>(h1.ext.live b i (Nat.lt_of_lt_of_le hi (hL b))).trans (hA.2 b i hi)⟩
  exact ⟨hag,wpAnyH_mono (fun _ _ _=>lift_trans (hfr.2.perm p.symm)) _ _ _ _ (h4 w0 L0 a' w' L' (fun b=>zNt (hL b) (h1.ext.mono b)) hag (fun q hq=>Nat.lt_of_lt_of_le (hsz q hq) h1.ext.size) h3 hfr.1)⟩
 ·have hfr:=hH'.frame h1 h2
  exact ⟨e,H'++F,L',hfr.2.perm p.symm,hfr.1,hE.ds,h3 e rfl⟩
theorem zl1 {i:Nat} (hr:Region.ready .any ops listed=[i]) (h:LLateOp C n ops Q HF fuel listed e H i):LLate C n ops Q HF (fuel+1) listed e H:=
 LLate.all hr (by simp) fun j hj=>by
  obtain rfl:=List.mem_singleton.1 hj
  exact h
theorem zl2 {i j:Nat} (hr:Region.ready .any ops listed=[i,j]) (h:LLateOp C n ops Q HF fuel listed e H i) (h':LLateOp C n ops Q HF fuel listed e H j):LLate C n ops Q HF (fuel+1) listed e H:=
 LLate.all hr (by simp) fun k hk=>by
  rcases zMi.1 hk with rfl|hk
  ·exact h
  ·obtain rfl:=List.mem_singleton.1 hk
   exact h'
theorem lW {i:Nat} {dst:Option Nat} {op:Op} {ty:TypeId} {pos:String} {aft:Array Edge} {g:Option (Nat×Bool)} (hi:ops[i]? = some ⟨dst,op,ty,pos,aft,g⟩) (hg:g=none∨∃ j b d,g=some (j,b)∧(ops[j]?).bind (·.dst)=some d∧e.s d=.atom (.bool b)) (hd:dstOk n dst)
  (h:LStep C ⟨dst,op,ty,pos,aft,g⟩ e H (fun lv H'=>LLate C n ops Q [] fuel (listed.setIfInBounds i true) (e.put dst lv) H') (fun ch H'=>∀ e',e'.ds=e.ds→Q (.panic ch) e' H')) :
  LLateOp C n ops Q [] fuel listed e H i:=lS (H1:=H) (F:=[]) hi hg hd (by simp) zhn (by simpa using h)
end any
theorem LQ.bcase {C:Ctx} {n:Nat} {ops:Array Oper} {K:Env→Prop} {e:Env} {H:Heap} {rest:List Oper} (d:Nat) {b:Bool} (hb:e.s d=bool b) (ht:b=true→LQ C n ops K rest (e.upd d (bool true)) H) (hf:b=false→LQ C n ops K rest (e.upd d (bool false)) H):LQ C n ops K rest e H:=by
 cases b
 ·have:=hf rfl;rwa [Env.upd_self hb] at this
 ·have:=ht rfl;rwa [Env.upd_self hb] at this
section pure
variable {C:Ctx} {e:Env} {H:Heap} {dst:Option Nat} {ty:TypeId} {pos:String} {aft:Array Edge} {g:Option (Nat×Bool)} {xT yT:TypeId} {x y:Operand} {k:IntKind} {a b:Int}
end pure
end Go.GL
namespace Go.GL
open Go.RowKit
theorem aT (i:Nat) {C:Ctx} {n:Nat} {ops:Array Oper} {Q:Post} {HF:Heap} {fuel:Nat} {listed:Array Bool} {e:Env} {H:Heap} {dst:Option Nat} {op:Op} {ty:TypeId} {pos:String} {aft:Array Edge} {lv:LV}
  (hi:ops[i]? = some ⟨dst,op,ty,pos,aft,none⟩) (hd:dstOk n dst) (hp:Pure C ⟨dst,op,ty,pos,aft,none⟩ e HF lv) (k:LAny C n ops Q HF fuel (listed.setIfInBounds i true) (e.put dst lv) H) (hs:Region.noSelect ops=true:=by kernel_rfl) (hf:Region.free .any ops listed i=true:=by kernel_rfl) (hr:(Region.ready .any ops listed).contains i=true:=by kernel_rfl)
  (hHF:HSub HF H:=by first|exact HSub.nil _|exact zhR _|exact zhD zhr|exact zhP pH zhn|exact zhP zp1 zhn|exact zhP zp2 zhn|exact zhP pH zhp|exact ⟨_,List.Perm.refl _⟩):LAny C n ops Q HF (fuel+1) listed e H:=LAny.take hHF hi hs hf hr hd hp k
theorem LAny.tkW (i:Nat) {C:Ctx} {n:Nat} {ops:Array Oper} {Q:Post} {HF:Heap} {fuel:Nat} {listed:Array Bool} {e:Env} {H:Heap} {j d:Nat} {b:Bool} {dst:Option Nat} {op:Op} {ty:TypeId} {pos:String} {aft:Array Edge} {lv:LV}
  (hi:ops[i]? = some ⟨dst,op,ty,pos,aft,some (j,b)⟩) (hj:(ops[j]?).bind (·.dst)=some d) (hb:e.s d=.atom (.bool b)) (hd:dstOk n dst) (hp:Pure C ⟨dst,op,ty,pos,aft,some (j,b)⟩ e HF lv) (k:LAny C n ops Q HF fuel (listed.setIfInBounds i true) (e.put dst lv) H) (hs:Region.noSelect ops=true:=by kernel_rfl) (hf:Region.free .any ops listed i=true:=by kernel_rfl) (hr:(Region.ready .any ops listed).contains i=true:=by kernel_rfl)
  (hHF:HSub HF H:=by first|exact HSub.nil _|exact zhR _|exact zhD zhr|exact zhP pH zhn|exact zhP zp1 zhn|exact zhP zp2 zhn|exact zhP pH zhp|exact ⟨_,List.Perm.refl _⟩):LAny C n ops Q HF (fuel+1) listed e H:=LAny.takeWant hHF hi hj hb hs hf hr hd hp k
theorem lO {C:Ctx} {n:Nat} {ops:Array Oper} {Q:Post} {HF:Heap} {fuel:Nat} {listed:Array Bool} {e:Env} {H:Heap} (i:Nat) (h:LLateOp C n ops Q HF fuel listed e H i) (hr:Region.ready .any ops listed=[i]:=by kernel_rfl):LLate C n ops Q HF (fuel+1) listed e H:=zl1 hr h
end Go.GL
namespace Go.GL
open Go.RowKit
section
variable {C:Ctx} {e:Env} {H:Heap} {dst:Option Nat} {ty:TypeId} {pos:String} {aft:Array Edge} {g:Option (Nat×Bool)} {K:LV→Heap→Prop} {X:List PanicEntry→Heap→Prop} {x y:Operand}
theorem sG {sT xT el s bytes:Nat} [ht:TSlice C.P sT el s] [hr:TRow C.P el s bytes] {e2 s2:Nat} [hx2:TSlice C.P xT e2 s2] {v:LV} {es ms:List LV} {H1 F A:Heap}
  (hp:H.Perm (H1++A)) (hx:e.ev x=v) (ha:Acc s v es H1 F) (hy:GL.elems (e.ev y)=some ms) (hs:∀ v∈ms,v.cells.length=s) (hok:(ms.flatMap LV.cells).all cellOk=true) (hroom:(es.length+ms.length) * bytes≤140737488355328)
  (hk:∀ v' H',Acc s v' (es++ms) H' F→K v' (A++H')):LStep C ⟨dst,.call { callee:=.builtin .append,args:=#[x,y],argTypes:=#[sT,xT] },ty,pos,aft,g⟩ e H K X:=by
 refine LStep.conseq (K:=fun lv H'=>∃ H2,H'=H2++A∧Acc s lv (es++ms) H2 F) (LStep.frame hp (S.acc hx ha hy hs hok hroom fun v' H' h=>⟨H',rfl,h⟩)) ?_
 rintro lv H' ⟨H2,rfl,h⟩
 exact ⟨lv,A++H2,vR _,⟨[],by simpa using zPc⟩,hk _ _ h⟩
theorem S.acc1 {sT xT el s bytes:Nat} [ht:TSlice C.P sT el s] [hr:TRow C.P el s bytes] {e2 s2:Nat} [hx2:TSlice C.P xT e2 s2] {v:LV} {es ms:List LV} {H1 F:Heap} {q:Nat×LObj}
  (hx:e.ev x=v) (ha:Acc s v es H1 F) (hy:GL.elems (e.ev y)=some ms) (hs:∀ v∈ms,v.cells.length=s) (hok:(ms.flatMap LV.cells).all cellOk=true) (hroom:(es.length+ms.length) * bytes≤140737488355328)
  (hk:∀ v' H',Acc s v' (es++ms) H' F→K v' (q::H')):LStep C ⟨dst,.call { callee:=.builtin .append,args:=#[x,y],argTypes:=#[sT,xT] },ty,pos,aft,g⟩ e (q::H1) K X:=
 sG (A:=[q]) ((List.perm_append_singleton _ _).symm) hx ha hy hs hok hroom hk
end
end Go.GL
namespace Go.GL
open Go.RowKit
def noCells:Obj→Bool
 |.cells _ _ _=>false
 |_=>true
theorem shape_none {w:World} {b:Nat} {o:Obj} (h:w.heap[b]? = some o) (ho:noCells o=true):w.shape? b=none:=by
 simp only[World.shape?,h]
 cases o <;> simp_all [noCells]
section
variable {C:Ctx} {e:Env} {H:Heap} {dst:Option Nat} {ty:TypeId} {pos:String} {aft:Array Edge} {g:Option (Nat×Bool)} {K:LV→Heap→Prop} {X:List PanicEntry→Heap→Prop} {x y:Operand}
theorem left_newObj {w:World} {L:Live} (hH:RelH C w L []) {o:Obj} (ho:noCells o=true) {v:Value} (hk:K (.atom v) [(w.heap.size,.obj o)]):Left C w L [] (World.push w o) v K:=by
 have:=fr_push hH o 0 [(w.heap.size,.obj o)] (fun p hp=>by
  simp only[List.mem_singleton] at hp
  subst hp
  exact ⟨rfl,by simp[Live.upd],heap_push_self,shape_none heap_push_self ho⟩) (by simp)
 exact ⟨_,_,_,this.1,this.2,rep_atom,hk⟩
theorem left_obj {w w':World} {L:Live} {b:Nat} {o o':Obj} (hH:RelH C w L [(b,.obj o)]) (ho':noCells o'=true) (h1:w'.os=w.os) (h2:w'.tape=w.tape) (h3:w'.output=w.output)
  (h4:w'.heap.size=w.heap.size) (h5:∀ c,c≠b→w'.heap[c]? = w.heap[c]?) (h6:w'.heap[b]? = some o') {v:Value} {lv:LV} (hv:∀ L,Rep w' L lv v) (hk:K lv [(b,.obj o')]):Left C w L [(b,.obj o)] w' v K:=by
 obtain ⟨hb0,hbs,hl,hx1,hx2⟩:=hH.objs _ (List.mem_singleton.2 rfl)
 simp only at hb0 hbs hl hx1 hx2
 have hx:Ext w L w' L:=by
  refine ⟨by rw[h4];exact zNr _,fun c hc=>?_,fun c i hi=>?_,fun _=>zNr _⟩
  ·by_cases he:c=b
   ·subst he
    rw[hx2]
    exact shape_none h6 ho'
   ·exact shape_of_heap (h5 c he)
  ·by_cases he:c=b
   ·subst he;rw[hl] at hi;omega
   ·exact cell_of_heap (h5 c he) i
 refine ⟨lv,[(b,.obj o')],L,⟨h1,h2,h3,hx,fun c hc hn=>h5 c (by simpa using hn),fun _ _ _=>rfl,fun p hp=>.inl (by simp only[List.mem_singleton] at hp;subst hp;simp)⟩,
  ⟨?_,hH.lbase,by rw[h4];exact hH.b0,by rw[h4];exact hH.wf,by simp,fun p hp=>?_⟩,hv L,hk⟩
 ·exact hH.base.trans ⟨h1,h2,h3,by rw[h4];exact zNr _,fun c hc=>h5 c zo⟩
 ·simp only[List.mem_singleton] at hp
  subst hp
  exact ⟨hb0,by rw[h4];exact hbs,hl,h6,shape_none h6 ho'⟩
theorem S.makeMap {t:TypeId} (hk:∀ b,K (.atom (.map (some b))) ((b,.obj (.map #[] 0))::H)):LStep C ⟨dst,.makeMap t none,ty,pos,aft,g⟩ e H K X:=by
 refine LStep.at0 fun ρ w L _ hH=>?_
 have h3:execOp ρ ⟨dst,.makeMap t none,ty,pos,aft,g⟩=(do Pure.pure (.value (←Instr.makeMap t none))):=rfl
 have h4:(Instr.makeMap t none).run C.P w=.ok (.map (some w.heap.size)) (World.push w (.map #[] 0)):=rfl
 rw[h3,Sem.run_bind,h4]
 exact left_newObj hH rfl (hk _)
def setW (w:World) (b:Nat) (o:Obj):World:={ w with heap:=w.heap.setIfInBounds b o }
theorem setW_other {w:World} {b c:Nat} {o:Obj} (h:c≠b):(setW w b o).heap[c]? = w.heap[c]? := by
 simp only[setW,Array.getElem?_setIfInBounds]
 rw[if_neg (Ne.symm h)]
theorem setW_self {w:World} {b:Nat} {o:Obj} (h:b<w.heap.size):(setW w b o).heap[b]? = some o:=by
 simp only[setW,Array.getElem?_setIfInBounds]
 simp[h]
theorem run_setObj {P:Program} {w:World} {b:Nat} {o o':Obj} (h:w.heap[b]? = some o) (ho:noCells o=true):(setObj b o').run P w=.ok () (setW w b o'):=by
 simp only[setObj,Sem.run,h]
 cases o <;> first|rfl|(simp[noCells] at ho)
theorem findNow_str (k:ByteArray):∀ (es:List MapEntry) (i:Nat),(∀ e∈es,∃ s,e.key=.string s∧¬ (k == s)=true)→Instr.findNow .string (.string k) es i=some none
 |[],_,_=>rfl
 |e::es,i,h=>by
  obtain ⟨s,hs,hne⟩:=h e List.mem_cons_self
  have hne':(k == s)=false:=by simpa using hne
  simp only[Instr.findNow,hs,Instr.sameNow,hne']
  exact findNow_str k es (i+1) (fun e he=>h e (zMo _ he))
theorem S.insert {t kt el:TypeId} (ht:C.P.underlying t=some (.map kt el)) (hkt:C.P.underlying kt=some .string) {b clock:Nat} {es:Array MapEntry} {F:Heap} {m z:Operand} {k:ByteArray} {v:Value} (hm:e.ev m=.atom (.map (some b))) (hx:e.ev x=.atom (.string k)) (hz:e.ev z=.atom v)
  (hp:Pick (b,.obj (.map es clock)) H F) (hnew:∀ e∈es.toList,∃ s,e.key=.string s∧¬ (k == s)=true) (hk:K (.atom undef) ((b,.obj (.map (es.push { key:=.string k,val:=v,born:=clock }) (clock+1)))::F)):LStep C ⟨dst,.insert t m x z,ty,pos,aft,g⟩ e H K X:=by
 refine LStep.at1 hp fun ρ w L h hH=>?_
 obtain ⟨hb0,hbs,hl,hx1,hx2⟩:=hH.objs _ (List.mem_singleton.2 rfl)
 simp only at hb0 hbs hl hx1 hx2
 have h3:execOp ρ ⟨dst,.insert t m x z,ty,pos,aft,g⟩=(do Instr.mapUpdate t (ρ m) (ρ x) (ρ z);Pure.pure .skip):=rfl
 have hf:(Instr.findKey kt (.string k) es.toList).run C.P w=.ok none w:=by
  simp only[Instr.findKey,Sem.run_bind,run_underlying' hkt,Result.andThen_ok,findNow_str k es.toList 0 hnew,Sem.run_pure]
 have hc:(Instr.checkKey false 10000 kt (.string k)).run C.P w=.ok () w:=by
  have hck:Instr.checkKey false 10000 kt (.string k)=Instr.checkKey false (9999+1) kt (.string k):=rfl
  rw[hck,Instr.checkKey]
  simp only[Sem.run_bind,run_underlying' hkt,Result.andThen_ok,Sem.run_pure]
 have hg:(getObj b).run C.P w=.ok (.map es clock) w:=by simp only[getObj,Sem.run,hx1]
 rw[h3,atom_of h hm,atom_of h hx,atom_of h hz]
 simp only[Instr.mapUpdate,Sem.run_bind,run_underlying' ht,Result.andThen_ok,hg,hc,hf]
 have hs:(setObj b (.map (es.push { key:=.string k,val:=v,born:=clock }) (clock+1))).run C.P w=.ok () (setW w b (.map (es.push { key:=.string k,val:=v,born:=clock }) (clock+1))):=run_setObj hx1 rfl
 rw[hs]
 exact left_obj (w':=setW w b (.map (es.push { key:=.string k,val:=v,born:=clock }) (clock+1))) hH rfl rfl rfl rfl (by simp[setW]) (fun c hc=>setW_other hc) (setW_self hbs) (fun _=>rep_atom) hk
theorem S.range {t kt el:TypeId} (ht:C.P.underlying t=some (.map kt el)) {b clock:Nat} {es:Array MapEntry} (hx:e.ev x=.atom (.map (some b))) (hm:(b,.obj (.map es clock))∈H)
  (hk:∀ r,K (ptr r 0) ((r,.obj (.mapIter (some b) clock #[] clock))::H)):LStep C ⟨dst,.range t x,ty,pos,aft,g⟩ e H K X:=by
 obtain ⟨F,hF⟩:∃ F,H.Perm ((b,.obj (.map es clock))::F):=by
  obtain ⟨l1,l2,rfl⟩:=List.append_of_mem hm
  exact ⟨l1++l2,List.perm_middle⟩
 have main:∀ X,LStep C ⟨dst,.range t x,ty,pos,aft,g⟩ e [(b,.obj (.map es clock))] (fun lv H'=>∃ r,lv=ptr r 0∧H'=[(r,.obj (.mapIter (some b) clock #[] clock)),(b,.obj (.map es clock))]) X:=fun X ρ w L h hH=>by
  obtain ⟨hb0,hbs,hl,hx1,hx2⟩:=hH.objs _ (List.mem_singleton.2 rfl)
  simp only at hb0 hbs hl hx1 hx2
  have h3:execOp ρ ⟨dst,.range t x,ty,pos,aft,g⟩=(do Pure.pure (.value (←Instr.range t (ρ x)))):=rfl
  have hg:(getObj b).run C.P w=.ok (.map es clock) w:=by simp only[getObj,Sem.run,hx1]
  have hn:∀ o,(newObj o).run C.P w=.ok w.heap.size (World.push w o):=fun _=>rfl
  rw[h3,atom_of h hx]
  simp only[Instr.range,Sem.run_bind,run_underlying' ht,Result.andThen_ok,hg,Sem.run_pure,hn]
  have:=Left.frame (F:=[(b,.obj (.map es clock))]) (K:=fun lv H'=>∃ r,lv=ptr r 0∧H'=[(r,.obj (.mapIter (some b) clock #[] clock)),(b,.obj (.map es clock))]) (v:=.pointer (some ⟨w.heap.size,0,none⟩)) (by simpa using hH) (left_newObj (w:=w) (L:=L) (hH.sub (List.nil_sublist _)) (o:=.mapIter (some b) clock #[] clock) rfl ⟨w.heap.size,rfl,rfl⟩)
  show Left C w L _ _ _ _
  simpa using this
 refine LStep.conseq (LStep.frame (H:=[(b,.obj (.map es clock))]) (F:=F) hF (K:=fun lv H'=>∃ r,lv=ptr r 0∧H'=[(r,.obj (.mapIter (some b) clock #[] clock)),(b,.obj (.map es clock))]++F) ?_) ?_
 ·exact LStep.conseq (main _) (fun lv H' ⟨r,h1,h2⟩=>⟨lv,H',vR _,zhR _,r,h1,by rw[h2]⟩)
 ·rintro lv H' ⟨r,rfl,rfl⟩
  exact ⟨ptr r 0,_,vR _,⟨[],by simpa using hF.symm⟩,hk r⟩
theorem S.next {r b since last clock:Nat} {seen:Array Nat} {es:Array MapEntry} {F:Heap} (hx:e.ev x=ptr r 0) (hp:H.Perm ((r,.obj (.mapIter (some b) since seen last))::(b,.obj (.map es clock))::F))
  (hold:∀ e∈es.toList,e.born<since∧e.born<last)
  (hover:es.filter (fun e=>!seen.contains e.born)=#[]→K (.tuple [bool false]) ((r,.obj (.mapIter (some b) since seen last))::(b,.obj (.map es clock))::F))
  (hstep:∀ e∈(es.filter (fun e=>!seen.contains e.born)).toList,K (.tuple [bool true,.atom e.key,.atom e.val]) ((r,.obj (.mapIter (some b) since (seen.push e.born) clock))::(b,.obj (.map es clock))::F)) :
  LStep C ⟨dst,.next x false,ty,pos,aft,g⟩ e H K X:=by
 refine LStep.frame (H:=[(r,.obj (.mapIter (some b) since seen last)),(b,.obj (.map es clock))]) (F:=F) hp fun ρ w L h hH=>?_
 have hr:=hH.objs (r,.obj (.mapIter (some b) since seen last)) zm0
 have hb:=hH.objs (b,.obj (.map es clock)) zm1
 obtain ⟨_,hrs,_,hr1,_⟩:=hr
 obtain ⟨_,hbs,_,hb1,_⟩:=hb
 simp only at hrs hr1 hbs hb1
 have h3:execOp ρ ⟨dst,.next x false,ty,pos,aft,g⟩=(do Pure.pure (.value (←Instr.next (ρ x) false ty))):=rfl
 have hg1:(getObj r).run C.P w=.ok (.mapIter (some b) since seen last) w:=by simp only[getObj,Sem.run,hr1]
 have hg2:(getObj b).run C.P w=.ok (.map es clock) w:=by simp only[getObj,Sem.run,hb1]
 have htest:(!seen.isEmpty && !es.isEmpty && es.all (fun e=>decide (e.born ≥ last)))=false:=by
  rw[Bool.eq_false_iff]
  intro hall
  simp only[zBa] at hall
  obtain ⟨⟨_,h1⟩,h2⟩:=hall
  have hne:0<es.size:=by
   rcases Nat.eq_zero_or_pos es.size with h0|h0
   ·have:es=#[]:=Array.eq_empty_of_size_eq_zero h0
    subst this
    simp at h1
   ·exact h0
  have h3:=(Array.all_eq_true.1 h2) 0 hne
  have h4:=(hold es[0] (by simp)).2
  simp at h3
  omega
 rw[h3,atom_of h hx]
 simp only[Instr.next,Sem.run_bind,Result.andThen_ok,hg1,hg2,htest,Bool.false_eq_true,if_false]
 generalize hL:es.filter (fun e=>!seen.contains e.born)=left at hover hstep ⊢
 have hmem:∀ x∈left.toList,x.born<since:=fun x hx=>by
  subst hL
  simp at hx
  exact (hold x (by simpa using hx.1)).1
 have e1:left.filter (fun x=>decide (x.born<since))=left:=Array.filter_eq_self.2 (fun x hx=>by simpa using hmem x (by simpa using hx))
 have e2:left.filter (fun x=>decide (x.born ≥ since))=#[]:=by
  rw[Array.filter_eq_empty_iff]
  intro x hx
  have:=hmem x (by simpa using hx)
  simp
  omega
 simp only[e1,e2,Array.append_empty]
 by_cases h0:left.size=0
 ·have:left=#[]:=Array.eq_empty_of_size_eq_zero h0
  subst this
  have hch:(choose (.mapNext 1)).run C.P w=.ok 0 w:=by simp[choose,Sem.run,Question.forced]
  simp only[Array.isEmpty_empty,if_true,Array.map_empty,Array.append_empty,List.size_toArray,List.length_singleton,hch,Sem.run_bind,Result.andThen_ok,Sem.run_pure]
  exact ⟨.tuple [bool false],_,L,Fr.refl _ _ _,hH,by simp only[Rep];exact ⟨[.bool false],rfl,by simp only[RepL,Rep];exact ⟨_,_,rfl,rfl,rfl⟩⟩,hover rfl⟩
 ·have hne:left.isEmpty=false:=by simp[Array.isEmpty,h0]
  simp only[hne,Bool.false_eq_true,if_false,Array.empty_append,Array.size_map]
  obtain ⟨j,w1,hj,hw1,hrun⟩:∃ (j:Nat) (w1:World),j<left.size∧(w1=w∨w1=w.drew)∧(choose (Question.mapNext left.size)).run C.P w=.ok j w1:=by
   by_cases hf:left.size≤1
   ·exact ⟨0,w,by omega,.inl rfl,by simp[choose,Sem.run,Question.forced,hf]⟩
   ·exact ⟨_,w.drew,Nat.mod_lt _ zo,.inr rfl,by
     simp only[choose,Sem.run,Question.forced,zDe,hf,if_false,Question.cut]
     rfl⟩
  have hr1':w1.heap[r]? = some (.mapIter (some b) since seen last):=by rcases hw1 with rfl|rfl <;> exact hr1
  have hsz:w1.heap.size=w.heap.size:=by rcases hw1 with rfl|rfl <;> rfl
  have hheap:w1.heap=w.heap:=by rcases hw1 with rfl|rfl <;> rfl
  simp only[hrun,Array.getElem?_map,Array.getElem?_eq_getElem hj,Option.map_some,Sem.run_bind,Result.andThen_ok,run_setObj hr1' rfl,Sem.run_pure]
  have hl:Left C w L [(r,.obj (.mapIter (some b) since seen last))] (setW w1 r (.mapIter (some b) since (seen.push left[j].born) clock)) (.tuple #[.bool true,left[j].key,left[j].val]) (fun lv H'=>K lv (H'++[(b,.obj (.map es clock))]++F)):=
   left_obj (lv:=.tuple [bool true,.atom left[j].key,.atom left[j].val]) (RelH.left (F:=[(b,.obj (.map es clock))]) hH) rfl (by rcases hw1 with rfl|rfl <;> rfl) (by rcases hw1 with rfl|rfl <;> rfl) (by rcases hw1 with rfl|rfl <;> rfl) (by simp[setW,hsz]) (fun c hc=>by rw[setW_other hc,hheap]) (setW_self zo)
    (fun _=>by simp only[Rep];exact ⟨[.bool true,left[j].key,left[j].val],rfl,by simp only[RepL,Rep];exact ⟨_,_,rfl,rfl,_,_,rfl,rfl,_,_,rfl,rfl,rfl⟩⟩) (hstep left[j] (by simp))
  exact Left.frame (F:=[(b,.obj (.map es clock))]) (K:=fun lv H'=>K lv (H'++F)) hH hl
theorem Pure.entry {r b since last clock stamp:Nat} {seen:Array Nat} {es:Array MapEntry} {en:MapEntry} (hx:e.ev x=ptr r 0) (hi:(r,LObj.obj (.mapIter (some b) since seen last))∈H) (hm:(b,LObj.obj (.map es clock))∈H)
  (hl:clock=last) (hb:seen.back? = some stamp) (hf:es.find? (·.born == stamp)=some en):Pure C ⟨dst,.entry x,ty,pos,aft,g⟩ e H (.tuple [.atom en.key,.atom en.val]):=fun ρ w L h hH=>by
 refine ⟨.tuple #[en.key,en.val],by simp only[Rep];exact ⟨[en.key,en.val],rfl,by simp only[RepL,Rep];exact ⟨_,_,rfl,rfl,_,_,rfl,rfl,rfl⟩⟩,fun w' ha=>?_⟩
 have h1:w'.heap[r]? = some (.mapIter (some b) since seen last):=(ha.1 _ hi).trans (hH.objs _ hi).2.2.2.1
 have h2:w'.heap[b]? = some (.map es clock):=(ha.1 _ hm).trans (hH.objs _ hm).2.2.2.1
 have h3:execOp ρ ⟨dst,.entry x,ty,pos,aft,g⟩=(do Pure.pure (.value (←Instr.entry (ρ x)))):=rfl
 have hg1:(getObj r).run C.P w'=.ok (.mapIter (some b) since seen last) w':=by simp only[getObj,Sem.run,h1]
 have hg2:(getObj b).run C.P w'=.ok (.map es clock) w':=by simp only[getObj,Sem.run,h2]
 have hne:(clock != last)=false:=by rw[hl];simp
 rw[h3,atom_of h hx]
 simp only[Instr.entry,Sem.run_bind,Result.andThen_ok,hg1,hb,hg2,hne,Bool.false_eq_true,if_false,Sem.run_pure,hf]
theorem lH {n:Nat} {ops:Array Oper} {Q:Post} {HF:Heap} {fuel:Nat} {listed:Array Bool} {i:Nat} {op:Op} {lv:LV} (hi:ops[i]? = some ⟨dst,op,ty,pos,aft,none⟩) (hd:dstOk n dst)
  (hp:Pure C ⟨dst,op,ty,pos,aft,none⟩ e H lv) (k:LLate C n ops Q HF fuel (listed.setIfInBounds i true) (e.put dst lv) H):LLateOp C n ops Q HF fuel listed e H i:=fun w0 L0 a w L hL hA hsz hE hH=>by
 obtain ⟨v,hv,hrun⟩:=hp a.eval w L hE.ev hH
 unfold wpOp
 rw[hi]
 simp only
 rw[if_pos (by simp[Region.wanted])]
 refine .inl ?_
 unfold Oper.wp
 rw[hrun w (Agree.refl _ _ _)]
 exact ⟨hA,k w0 L0 _ w L hL hA hsz (hE.put hd hv) hH⟩
end
end Go.GL
namespace Go.GL
open Go.RowKit
structure SetMap (es:Array MapEntry) (p:List UInt8→Bool):Prop where
 keys:∀ e∈es.toList,∃ s:List UInt8,e.key=.string ⟨s.toArray⟩∧e.val=.bool true∧p s=true
 all:∀ s,p s=true→∃ e∈es.toList,e.key=.string ⟨s.toArray⟩
theorem SetMap.nil:SetMap #[] fun _=>false:=⟨fun e he=>by simp at he,fun s h=>by cases h⟩
theorem bytes_beq (a b:List UInt8):((⟨a.toArray⟩:ByteArray) == ⟨b.toArray⟩)=decide (a=b):=by
 show (a.toArray == b.toArray)=_
 rw[Bool.eq_iff_iff]
 simp
theorem findNow_in (k:List UInt8):∀ (es:List MapEntry) (i:Nat),(∀ e∈es,∃ s:List UInt8,e.key=.string ⟨s.toArray⟩∧e.val=.bool true)→(∃ e∈es,e.key=.string ⟨k.toArray⟩) →
  ∃ (j:Nat) (e:MapEntry),Instr.findNow .string (.string ⟨k.toArray⟩) es i=some (some (i+j,.bool true))∧es[j]? = some e∧e.key=.string ⟨k.toArray⟩
 |[],_,_,h=>by obtain ⟨e,he,_⟩:=h;cases he
 |e::es,i,h,hk=>by
  obtain ⟨s,h1,h2⟩:=h e List.mem_cons_self
  by_cases hs:k=s
  ·refine ⟨0,e,?_,rfl,by rw[h1,hs]⟩
   have hb:((⟨k.toArray⟩:ByteArray) == ⟨s.toArray⟩)=true:=by rw[bytes_beq,decide_eq_true hs]
   simp only[Instr.findNow,h1,Instr.sameNow,hb,h2,Nat.add_zero]
  ·have hb:((⟨k.toArray⟩:ByteArray) == ⟨s.toArray⟩)=false:=by rw[bytes_beq,decide_eq_false hs]
   obtain ⟨e',he',hk'⟩:=hk
   have hin:e'∈es:=by
    rcases zMi.1 he' with rfl|h3
    ·rw[h1] at hk'
     have:s=k:=by simpa using hk'
     exact absurd this.symm hs
    ·exact h3
   obtain ⟨j,e2,g1,g2,g3⟩:=findNow_in k es (i+1) (fun x hx=>h x (zMo _ hx)) ⟨e',hin,hk'⟩
   refine ⟨j+1,e2,?_,g2,g3⟩
   simp only[Instr.findNow,h1,Instr.sameNow,hb]
   rw[g1]
   congr 3
   omega
section
variable {C:Ctx} {e:Env} {H:Heap} {dst:Option Nat} {ty:TypeId} {pos:String} {aft:Array Edge} {g:Option (Nat×Bool)} {K:LV→Heap→Prop} {X:List PanicEntry→Heap→Prop} {x y:Operand}
theorem run_checkStr {w:World} {kt:TypeId} (hkt:C.P.underlying kt=some .string) (b:Bool) (k:ByteArray):(Instr.checkKey b 10000 kt (.string k)).run C.P w=.ok () w:=by
 have hck:Instr.checkKey b 10000 kt (.string k)=Instr.checkKey b (9999+1) kt (.string k):=rfl
 rw[hck,Instr.checkKey]
 simp only[Sem.run_bind,run_underlying' hkt,Result.andThen_ok,Sem.run_pure]
theorem S.setAdd {t kt el:TypeId} (ht:C.P.underlying t=some (.map kt el)) (hkt:C.P.underlying kt=some .string) {b clock:Nat} {es:Array MapEntry} {p:List UInt8→Bool} {F:Heap} {m z:Operand} {k:List UInt8} (hm:e.ev m=.atom (.map (some b))) (hx:e.ev x=str k) (hz:e.ev z=bool true)
  (hp:Pick (b,.obj (.map es clock)) H F) (hs:SetMap es p) (hk:∀ es' clock',SetMap es' (fun s=>p s || decide (s=k))→K (.atom undef) ((b,.obj (.map es' clock'))::F)):LStep C ⟨dst,.insert t m x z,ty,pos,aft,g⟩ e H K X:=by
 by_cases hin:p k=true
 ·refine LStep.at1 hp fun ρ w L h hH=>?_
  obtain ⟨hb0,hbs,hl,hx1,hx2⟩:=hH.objs _ (List.mem_singleton.2 rfl)
  simp only at hb0 hbs hl hx1 hx2
  have h3:execOp ρ ⟨dst,.insert t m x z,ty,pos,aft,g⟩=(do Instr.mapUpdate t (ρ m) (ρ x) (ρ z);Pure.pure .skip):=rfl
  obtain ⟨j,e2,g1,g2,g3⟩:=findNow_in k es.toList 0 (fun e he=>by obtain ⟨s,h1,h2,_⟩:=hs.keys e he;exact ⟨s,h1,h2⟩) (hs.all k hin)
  have hf:(Instr.findKey kt (.string ⟨k.toArray⟩) es.toList).run C.P w=.ok (some (0+j,.bool true)) w:=by
   simp only[Instr.findKey,Sem.run_bind,run_underlying' hkt,Result.andThen_ok,g1,Sem.run_pure]
  have hg:(getObj b).run C.P w=.ok (.map es clock) w:=by simp only[getObj,Sem.run,hx1]
  have hg2:es[j]? = some e2:=by simpa using g2
  have hst:(Instr.keyThatStays (((es[0+j]?).map (·.key)).getD (.string ⟨k.toArray⟩)) (.string ⟨k.toArray⟩)).run C.P w=.ok (.string ⟨k.toArray⟩) w:=by
   rw[Nat.zero_add,hg2]
   simp only[Option.map_some,Option.getD_some,g3]
   unfold Instr.keyThatStays
   rw[if_pos (by simp only[Instr.sameBits];rw[bytes_beq];simp)]
   try rfl
  rw[h3,atom_of h hm,atom_of h hx,atom_of h hz]
  simp only[Instr.mapUpdate,Sem.run_bind,run_underlying' ht,Result.andThen_ok,hg,run_checkStr hkt,hf,hst]
  have hset:∀ o',(setObj b o').run C.P w=.ok () (setW w b o'):=fun o'=>run_setObj hx1 rfl
  rw[hset]
  refine left_obj (w':=setW w b _) hH rfl rfl rfl rfl (by simp[setW]) (fun c hc=>setW_other hc) (setW_self hbs) (fun _=>rep_atom) (hk _ clock ⟨fun e' he'=>?_,fun s hs'=>?_⟩)
  ·rw[Nat.zero_add] at he'
   obtain ⟨i,hi,rfl⟩:=List.mem_iff_getElem.1 he'
   simp only[Array.length_toList,Array.size_modify] at hi
   rw[Array.getElem_toList,Array.getElem_modify]
   split
   ·exact ⟨k,rfl,rfl,by simp⟩
   ·obtain ⟨s,h1,h2,h4⟩:=hs.keys es[i] (by simp)
    exact ⟨s,h1,h2,by simp[h4]⟩
  ·have hps:p s=true:=by
    rcases Bool.or_eq_true_iff.1 hs' with h4|h4
    ·exact h4
    ·rw[zt h4];exact hin
   obtain ⟨e3,h5,h6⟩:=hs.all s hps
   obtain ⟨i,hi,rfl⟩:=List.mem_iff_getElem.1 h5
   simp only[Array.length_toList] at hi
   rw[Array.getElem_toList] at h6
   rw[Nat.zero_add]
   by_cases hij:j=i
   ·refine ⟨{ es[i] with key:=.string ⟨k.toArray⟩,val:=.bool true },?_,?_⟩
    ·rw[List.mem_iff_getElem]
     refine ⟨i,by simpa using hi,?_⟩
     rw[Array.getElem_toList,Array.getElem_modify,if_pos hij]
    ·subst hij
     rw[Array.getElem?_eq_getElem hi] at hg2
     obtain rfl:=Option.some.inj hg2
     rw[g3] at h6
     exact h6
   ·refine ⟨es[i],?_,h6⟩
    rw[List.mem_iff_getElem]
    refine ⟨i,by simpa using hi,?_⟩
    rw[Array.getElem_toList,Array.getElem_modify,if_neg hij]
 ·refine S.insert ht hkt hm hx hz hp (fun e he=>?_) (hk _ _ ⟨fun e' he'=>?_,fun s hs'=>?_⟩)
  ·obtain ⟨s,h1,_,h2⟩:=hs.keys e he
   refine ⟨_,h1,?_⟩
   rw[bytes_beq]
   intro h3
   rw[zt h3] at hin
   exact hin h2
  ·rw[Array.toList_push] at he'
   rcases List.mem_append.1 he' with h1|h1
   ·obtain ⟨s,h2,h3,h4⟩:=hs.keys e' h1
    exact ⟨s,h2,h3,by simp[h4]⟩
   ·obtain rfl:=List.mem_singleton.1 h1
    exact ⟨k,rfl,rfl,by simp⟩
  ·rw[Array.toList_push]
   rcases Bool.or_eq_true_iff.1 hs' with h4|h4
   ·obtain ⟨e,h5,h6⟩:=hs.all s h4
    exact ⟨e,List.mem_append_left _ h5,h6⟩
   ·exact ⟨_,List.mem_append_right _ (List.mem_singleton.2 rfl),by rw[zt h4]⟩
theorem Pure.setGet {t kt el:TypeId} (ht:C.P.underlying t=some (.map kt el)) (hkt:C.P.underlying kt=some .string) (hz:∀ w,(zeroValue el).run C.P w=.ok (.bool false) w) {b clock:Nat} {es:Array MapEntry} {p:List UInt8→Bool} {k:List UInt8} (hm:e.ev x=.atom (.map (some b))) (hx:e.ev y=str k)
  (hb:(b,.obj (.map es clock))∈H) (hs:SetMap es p):Pure C ⟨dst,.lookup t x y false,ty,pos,aft,g⟩ e H (bool (p k)):=fun ρ w L h hH=>by
 obtain ⟨_,_,_,hx1,_⟩:=hH.objs _ hb
 simp only at hx1
 refine ⟨.bool (p k),rep_atom,fun w' ha=>?_⟩
 have hw:w'.heap[b]? = some (.map es clock):=(ha.1 _ hb).trans hx1
 have h3:execOp ρ ⟨dst,.lookup t x y false,ty,pos,aft,g⟩=(do Pure.pure (.value (←Instr.lookup t (ρ x) (ρ y) false))):=rfl
 have hg:(getObj b).run C.P w'=.ok (.map es clock) w':=by simp only[getObj,Sem.run,hw]
 rw[h3,atom_of h hm,atom_of h hx]
 by_cases hin:p k=true
 ·obtain ⟨j,e2,g1,g2,g3⟩:=findNow_in k es.toList 0 (fun e he=>by obtain ⟨s,h1,h2,_⟩:=hs.keys e he;exact ⟨s,h1,h2⟩) (hs.all k hin)
  have hf:(Instr.findKey kt (.string ⟨k.toArray⟩) es.toList).run C.P w'=.ok (some (0+j,.bool true)) w':=by
   simp only[Instr.findKey,Sem.run_bind,run_underlying' hkt,Result.andThen_ok,g1,Sem.run_pure]
  simp only[Instr.lookup,Sem.run_bind,run_underlying' ht,Result.andThen_ok,hg,Sem.run_pure,run_checkStr hkt,hf,hin]
  rfl
 ·have hf:(Instr.findKey kt (.string ⟨k.toArray⟩) es.toList).run C.P w'=.ok none w':=by
   have hmiss:=findNow_str ⟨k.toArray⟩ es.toList 0 fun e he=>by
    obtain ⟨s,h1,_,h2⟩:=hs.keys e he
    refine ⟨_,h1,?_⟩
    rw[bytes_beq]
    intro h3
    rw[zt h3] at hin
    exact hin h2
   simp only[Instr.findKey,Sem.run_bind,run_underlying' hkt,Result.andThen_ok,hmiss,Sem.run_pure]
  have hin':p k=false:=Bool.eq_false_iff.2 hin
  simp only[Instr.lookup,Sem.run_bind,run_underlying' ht,Result.andThen_ok,hg,Sem.run_pure,run_checkStr hkt,hf,hz,hin']
  rfl
end
end Go.GL
namespace Go.GL
open Go.RowKit
section
variable {C:Ctx} {e:Env} {H:Heap} {dst:Option Nat} {ty:TypeId} {pos:String} {aft:Array Edge} {g:Option (Nat×Bool)} {K:LV→Heap→Prop} {X:List PanicEntry→Heap→Prop} {x y:Operand}
theorem Pure.nilGet {t kt el:TypeId} (ht:C.P.underlying t=some (.map kt el)) (hkt:C.P.underlying kt=some .string) (hz:∀ w,(zeroValue el).run C.P w=.ok (.int .i64 0) w) {k:List UInt8} (hm:e.ev x=.atom (.map none)) (hx:e.ev y=str k):Pure C ⟨dst,.lookup t x y false,ty,pos,aft,g⟩ e H (int .i64 0):=fun ρ w L h hH=>by
 refine ⟨.int .i64 0,rep_atom,fun w' ha=>?_⟩
 have h3:execOp ρ ⟨dst,.lookup t x y false,ty,pos,aft,g⟩=(do Pure.pure (.value (←Instr.lookup t (ρ x) (ρ y) false))):=rfl
 rw[h3,atom_of h hm,atom_of h hx]
 have hf:(Instr.findKey kt (.string ⟨k.toArray⟩) []).run C.P w'=.ok none w':=by
  simp only[Instr.findKey,Sem.run_bind,run_underlying' hkt,Result.andThen_ok,Instr.findNow,Sem.run_pure]
 simp only[Instr.lookup,Sem.run_bind,run_underlying' ht,Result.andThen_ok,Sem.run_pure,run_checkStr hkt,hf,hz]
 rfl
end
end Go.GL
namespace Go.GL
open Go.RowKit
abbrev KV:=List (List UInt8×LV)
@[reducible] def strV (k:List UInt8):Value:=.string ⟨k.toArray⟩
def kvs (m:KV):List (Value×LV):=m.map fun p=>(strV p.1,p.2)
def kvGet:KV→List UInt8→Option LV
 |[],_=>none
 |p::r,k=>if p.1=k then some p.2 else kvGet r k
def kvPut:KV→List UInt8→LV→KV
 |[],k,v=>[(k,v)]
 |p::r,k,v=>if p.1=k then (k,v)::r else p::kvPut r k v
theorem kvGet_put (k k':List UInt8) (v:LV):∀ m:KV,kvGet (kvPut m k v) k'=if k=k' then some v else kvGet m k'
 |[]=>by simp only[kvPut,kvGet]
 |p::r=>by
  unfold kvPut
  by_cases h:p.1=k
  ·rw[if_pos h]
   by_cases h':k=k'
   ·simp only[kvGet,if_pos h']
   ·simp only[kvGet,if_neg h']
    rw[if_neg (by rw[h];exact h')]
  ·rw[if_neg h]
   simp only[kvGet]
   rw[kvGet_put k k' v r]
   by_cases h2:p.1=k'
   ·rw[if_pos h2,if_neg (by rw[←h2];exact fun h3=>h h3.symm)]
    simp only[if_pos h2]
   ·simp only[if_neg h2]
theorem kv_find (k:List UInt8):∀ (m:KV) (es:List MapEntry) (i:Nat),es.map (·.key)=(kvs m).map (·.1) →
  (kvGet m k=none∧(∀ v,kvPut m k v=m++[(k,v)])∧Instr.findNow .string (strV k) es i=some none) ∨
  ∃ (j:Nat) (e:MapEntry) (v:LV),Instr.findNow .string (strV k) es i=some (some (i+j,e.val))∧es[j]? = some e∧m[j]? = some (k,v)∧kvGet m k=some v∧∀ v',kvPut m k v'=m.set j (k,v')
 |[],[],i,_=>.inl ⟨rfl,fun _=>rfl,rfl⟩
 |[],_::_,_,h=>by cases h
 |_::_,[],_,h=>by cases h
 |p::m,e::es,i,h=>by
  have h1:e.key=strV p.1:=by
   have:=(List.cons.inj h).1
   exact this
  have h2:es.map (·.key)=(kvs m).map (·.1):=(List.cons.inj h).2
  by_cases hs:p.1=k
  ·right
   have hb:((⟨k.toArray⟩:ByteArray) == ⟨p.1.toArray⟩)=true:=by rw[bytes_beq,decide_eq_true hs.symm]
   refine ⟨0,e,p.2,?_,rfl,by rw[←hs];try rfl,by simp only[kvGet,if_pos hs],fun v'=>by simp only[kvPut,if_pos hs];rfl⟩
   simp only[Instr.findNow,h1,Instr.sameNow,hb,Nat.add_zero]
  ·have hb:((⟨k.toArray⟩:ByteArray) == ⟨p.1.toArray⟩)=false:=by rw[bytes_beq,decide_eq_false (fun h3=>hs h3.symm)]
   rcases kv_find k m es (i+1) h2 with ⟨g1,g2,g3⟩|⟨j,e2,v,g1,g2,g3,g4,g5⟩
   ·left
    refine ⟨by simp only[kvGet,if_neg hs];exact g1,fun v=>by simp only[kvPut,if_neg hs,g2];rfl,?_⟩
    simp only[Instr.findNow,h1,Instr.sameNow,hb]
    exact g3
   ·right
    refine ⟨j+1,e2,v,?_,g2,g3,by simp only[kvGet,if_neg hs];exact g4,fun v'=>by simp only[kvPut,if_neg hs,g5];rfl⟩
    simp only[Instr.findNow,h1,Instr.sameNow,hb]
    rw[g1]
    congr 3
    omega
theorem RepL.setAt {w:World} {L:Live}:∀ {cs:List LV} {xs:List Value},RepL w L cs xs→∀ (j:Nat) {c:LV} {x:Value},Rep w L c x→RepL w L (cs.set j c) (xs.set j x)
 |[],xs,h,j,c,x,hr=>by
  simp only[RepL] at h
  subst h
  simp only[List.set_nil,RepL]
 |d::cs,xs,h,j,c,x,hr=>by
  simp only[RepL] at h
  obtain ⟨y,ys,rfl,h1,h2⟩:=h
  cases j with
  |zero=>
   simp only[List.set_cons_zero,RepL]
   exact ⟨x,ys,rfl,hr,h2⟩
  |succ j=>
   simp only[List.set_cons_succ,RepL]
   exact ⟨y,_,rfl,h1,h2.setAt j hr⟩
section
variable {C:Ctx} {e:Env} {H:Heap} {dst:Option Nat} {ty:TypeId} {pos:String} {aft:Array Edge} {g:Option (Nat×Bool)} {K:LV→Heap→Prop} {X:List PanicEntry→Heap→Prop} {x y:Operand}
theorem left_map {w w':World} {L:Live} {b clock clock':Nat} {es es':List (Value×LV)} (hH:RelH C w L [(b,.map es clock)]) (h1:w'.os=w.os) (h2:w'.tape=w.tape) (h3:w'.output=w.output)
  (h4:w'.heap.size=w.heap.size) (h5:∀ c,c≠b→w'.heap[c]? = w.heap[c]?) (avs:List MapEntry) (h6:w'.heap[b]? = some (.map avs.toArray clock')) (h7:avs.map (·.key)=es'.map (·.1)) (h8:RepL w L (es'.map (·.2)) (avs.map (·.val)))
  (h9:∀ e∈avs,e.born<clock') (h10:(avs.map (·.born)).Nodup) {v:Value} {lv:LV} (hv:∀ L,Rep w' L lv v) (hk:K lv [(b,.map es' clock')]):Left C w L [(b,.map es clock)] w' v K:=by
 obtain ⟨hb0,hbs,hl,xs,hx1,_⟩:=hH.objs _ (List.mem_singleton.2 rfl)
 simp only at hb0 hbs hl hx1
 have hx:Ext w L w' L:=by
  refine ⟨by rw[h4];exact zNr _,fun c hc=>?_,fun c i hi=>?_,fun _=>zNr _⟩
  ·by_cases he:c=b
   ·subst he
    rw[shape_none hx1 rfl]
    exact shape_none h6 rfl
   ·exact shape_of_heap (h5 c he)
  ·by_cases he:c=b
   ·subst he;rw[hl] at hi;omega
   ·exact cell_of_heap (h5 c he) i
 refine ⟨lv,[(b,.map es' clock')],L,⟨h1,h2,h3,hx,fun c hc hn=>h5 c (by simpa using hn),fun _ _ _=>rfl,fun p hp=>.inl (by simp only[List.mem_singleton] at hp;subst hp;simp)⟩,
  ⟨?_,hH.lbase,by rw[h4];exact hH.b0,by rw[h4];exact hH.wf,by simp,fun p hp=>?_⟩,hv L,hk⟩
 ·exact hH.base.trans ⟨h1,h2,h3,by rw[h4];exact zNr _,fun c hc=>h5 c zo⟩
 ·simp only[List.mem_singleton] at hp
  subst hp
  exact ⟨hb0,by rw[h4];exact hbs,hl,avs,h6,h7,RepL.mono hx _ _ h8,h9,h10⟩
theorem S.kvNew {t:TypeId} (hk:∀ b,K (.atom (.map (some b))) ((b,.map (kvs []) 0)::H)):LStep C ⟨dst,.makeMap t none,ty,pos,aft,g⟩ e H K X:=by
 refine LStep.at0 fun ρ w L _ hH=>?_
 have h3:execOp ρ ⟨dst,.makeMap t none,ty,pos,aft,g⟩=(do Pure.pure (.value (←Instr.makeMap t none))):=rfl
 have h4:(Instr.makeMap t none).run C.P w=.ok (.map (some w.heap.size)) (World.push w (.map #[] 0)):=rfl
 rw[h3,Sem.run_bind,h4]
 have:=fr_push hH (.map #[] 0) 0 [(w.heap.size,.map (kvs []) 0)] (fun p hp=>by
  simp only[List.mem_singleton] at hp
  subst hp
  refine ⟨rfl,by simp[Live.upd],[],heap_push_self,rfl,?_,(fun e he=>by cases he),List.nodup_nil⟩
  show RepL _ _ [] []
  simp only[RepL]) (by simp)
 exact ⟨_,_,_,this.1,this.2,rep_atom,hk _⟩
theorem S.kvPut {t kt el:TypeId} (ht:C.P.underlying t=some (.map kt el)) (hkt:C.P.underlying kt=some .string) {b clock:Nat} {m:KV} {F:Heap} {mo z:Operand} {k:List UInt8} {lv:LV} (hm:e.ev mo=.atom (.map (some b))) (hx:e.ev x=str k) (hz:e.ev z=lv)
  (hp:Pick (b,.map (kvs m) clock) H F) (hk:∀ clock',K (.atom undef) ((b,.map (kvs (GL.kvPut m k lv)) clock')::F)):LStep C ⟨dst,.mapUpdate t mo x z,ty,pos,aft,g⟩ e H K X:=by
 refine LStep.at1 hp fun ρ w L h hH=>?_
 obtain ⟨hb0,hbs,hl,avs,hx1,hx2,hx3,hx4,hx5⟩:=hH.objs _ (List.mem_singleton.2 rfl)
 simp only at hb0 hbs hl hx1 hx2 hx3
 have hrz:Rep w L lv (ρ z):=hz▸h z
 have h3:execOp ρ ⟨dst,.mapUpdate t mo x z,ty,pos,aft,g⟩=(do Instr.mapUpdate t (ρ mo) (ρ x) (ρ z);Pure.pure .skip):=rfl
 have hg:(getObj b).run C.P w=.ok (.map avs.toArray clock) w:=by simp only[getObj,Sem.run,hx1]
 have hset:∀ o',(setObj b o').run C.P w=.ok () (setW w b o'):=fun o'=>run_setObj hx1 rfl
 rw[h3,atom_of h hm,atom_of h hx]
 rcases kv_find k m avs 0 hx2 with ⟨g1,g2,g3⟩|⟨j,e2,v,g1,g2,g3,g4,g5⟩
 ·have hf:(Instr.findKey kt (strV k) avs.toArray.toList).run C.P w=.ok none w:=by
   simp only[Instr.findKey,Sem.run_bind,run_underlying' hkt,Result.andThen_ok,g3,Sem.run_pure]
  simp only[Instr.mapUpdate,Sem.run_bind,run_underlying' ht,Result.andThen_ok,hg,run_checkStr hkt,hf]
  rw[hset]
  refine left_map (w':=setW w b _) hH rfl rfl rfl (by simp[setW]) (fun c hc=>setW_other hc) (avs++[⟨strV k,ρ z,clock⟩]) (clock':=clock+1) ((setW_self hbs).trans (by simp)) (es':=kvs (GL.kvPut m k lv)) ?_ ?_ ?_ ?_ (fun _=>rep_atom) (hk _)
  ·rw[g2,kvs,zMa,zMa,zMa,←kvs,hx2]
   try rfl
  ·rw[g2,kvs,zMa,zMa,zMa,←kvs]
   refine RepL.append hx3 ?_
   simp only[zMc,List.map_nil,RepL]
   exact ⟨_,_,rfl,hrz,rfl⟩
  ·intro e' he'
   rcases List.mem_append.1 he' with h1|h1
   ·exact Nat.lt_succ_of_lt (hx4 e' h1)
   ·obtain rfl:=List.mem_singleton.1 h1
    exact Nat.lt_succ_self _
  ·rw[zMa,List.nodup_append]
   refine ⟨hx5,by simp,fun a ha b' hb' he=>?_⟩
   obtain ⟨e',h1,rfl⟩:=List.mem_map.1 ha
   simp only[zMc,List.map_nil,List.mem_singleton] at hb'
   have:=hx4 e' h1
   omega
 ·have hf:(Instr.findKey kt (strV k) avs.toArray.toList).run C.P w=.ok (some (0+j,e2.val)) w:=by
   simp only[Instr.findKey,Sem.run_bind,run_underlying' hkt,Result.andThen_ok,g1,Sem.run_pure]
  have hkey:e2.key=strV k:=by
   have h1:(avs.map (·.key))[j]? = some e2.key:=by rw[List.getElem?_map,g2];try rfl
   rw[hx2,kvs,List.map_map,List.getElem?_map,g3] at h1
   exact (Option.some.inj h1).symm
  have hst:(Instr.keyThatStays (((avs.toArray[0+j]?).map (·.key)).getD (strV k)) (strV k)).run C.P w=.ok (strV k) w:=by
   rw[Nat.zero_add,List.getElem?_toArray,g2]
   simp only[Option.map_some,Option.getD_some,hkey]
   unfold Instr.keyThatStays
   rw[if_pos (by simp only[Instr.sameBits];rw[bytes_beq];simp)]
   try rfl
  simp only[Instr.mapUpdate,Sem.run_bind,run_underlying' ht,Result.andThen_ok,hg,run_checkStr hkt,hf,hst]
  rw[hset]
  have hmod:avs.toArray.modify (0+j) (fun e=>{ e with key:=strV k,val:=ρ z })=(avs.set j { e2 with key:=strV k,val:=ρ z }).toArray:=by
   rw[Nat.zero_add]
   apply Array.ext'
   simp only[Array.toList_modify]
   refine List.ext_getElem? fun i=>?_
   rw[List.getElem?_modify,List.getElem?_set]
   by_cases hi:j=i
   ·subst hi
    have hlt:j<avs.length:=(List.getElem?_eq_some_iff.1 g2).1
    rw[if_pos rfl,g2,if_pos hlt]
    show some _=_
    simp
   ·rw[if_neg hi]
    cases avs[i]? with
    |none=>rfl
    |some a=>
     show some _=_
     simp[hi]
  refine left_map (w':=setW w b _) hH rfl rfl rfl (by simp[setW]) (fun c hc=>setW_other hc) (avs.set j { e2 with key:=strV k,val:=ρ z }) ((setW_self hbs).trans (by rw[hmod])) (es':=kvs (GL.kvPut m k lv)) ?_ ?_ ?_ ?_ (fun _=>rep_atom) (hk _)
  ·rw[g5,kvs,List.map_set,List.map_set,List.map_set,hx2]
   try rfl
  ·rw[g5,kvs,List.map_set,List.map_set,List.map_set]
   exact RepL.setAt hx3 j hrz
  ·intro e' he'
   rcases List.mem_or_eq_of_mem_set he' with h1|h1
   ·exact hx4 e' h1
   ·rw[h1]
    exact hx4 e2 (List.mem_of_getElem? g2)
  ·rw[List.map_set]
   have:(avs.map (·.born)).set j e2.born=avs.map (·.born):=by
    refine List.ext_getElem? fun i=>?_
    rw[List.getElem?_set]
    split
    ·rename_i h1
     subst h1
     split
     ·rw[List.getElem?_map,g2];try rfl
     ·rename_i h2
      rw[List.getElem?_eq_none zo]
    ·rfl
   rw[this]
   exact hx5
theorem kv_look {t kt el:TypeId} (ht:C.P.underlying t=some (.map kt el)) (hkt:C.P.underlying kt=some .string) {zv:Value} {zl:LV} (hz:∀ w,(zeroValue el).run C.P w=.ok zv w) (hzl:∀ w L,Rep w L zl zv) {b clock:Nat} {m:KV} {k:List UInt8} {w:World} {L:Live}
  (hH:RelH C w L H) (hb:(b,.map (kvs m) clock)∈H):∃ v,Rep w L ((kvGet m k).getD zl) v∧∀ w',Agree w L H w'→∀ c,(Instr.lookup t (.map (some b)) (strV k) c).run C.P w'=.ok (if c=true then .tuple #[v,.bool (kvGet m k).isSome] else v) w':=by
 obtain ⟨_,_,_,avs,hx1,hx2,hx3,_⟩:=hH.objs _ hb
 simp only at hx1
 rcases kv_find k m avs 0 hx2 with ⟨g1,g2,g3⟩|⟨j,e2,v,g1,g2,g3,g4,g5⟩
 ·refine ⟨zv,by rw[g1];exact hzl w L,fun w' ha c=>?_⟩
  have hw:w'.heap[b]? = some (.map avs.toArray clock):=(ha.1 _ hb).trans hx1
  have hg:(getObj b).run C.P w'=.ok (.map avs.toArray clock) w':=by simp only[getObj,Sem.run,hw]
  have hf:(Instr.findKey kt (strV k) avs.toArray.toList).run C.P w'=.ok none w':=by
   simp only[Instr.findKey,Sem.run_bind,run_underlying' hkt,Result.andThen_ok,g3,Sem.run_pure]
  simp only[Instr.lookup,Sem.run_bind,run_underlying' ht,Result.andThen_ok,hg,Sem.run_pure,run_checkStr hkt,hf,hz,g1]
  rfl
 ·refine ⟨e2.val,?_,fun w' ha c=>?_⟩
  ·rw[g4]
   obtain ⟨x,h1,h2⟩:=hx3.get (i:=j) (c:=v) (by rw[kvs,List.map_map,List.getElem?_map,g3];try rfl)
   rw[List.getElem?_map,g2] at h1
   obtain rfl:=Option.some.inj h1
   exact h2
  ·have hw:w'.heap[b]? = some (.map avs.toArray clock):=(ha.1 _ hb).trans hx1
   have hg:(getObj b).run C.P w'=.ok (.map avs.toArray clock) w':=by simp only[getObj,Sem.run,hw]
   have hf:(Instr.findKey kt (strV k) avs.toArray.toList).run C.P w'=.ok (some (0+j,e2.val)) w':=by
    simp only[Instr.findKey,Sem.run_bind,run_underlying' hkt,Result.andThen_ok,g1,Sem.run_pure]
   simp only[Instr.lookup,Sem.run_bind,run_underlying' ht,Result.andThen_ok,hg,Sem.run_pure,run_checkStr hkt,hf,g4]
   rfl
theorem Pure.kvGet {t kt el:TypeId} (ht:C.P.underlying t=some (.map kt el)) (hkt:C.P.underlying kt=some .string) {zv:Value} {zl:LV} (hz:∀ w,(zeroValue el).run C.P w=.ok zv w) (hzl:∀ w L,Rep w L zl zv) {b clock:Nat} {m:KV} {k:List UInt8} (hm:e.ev x=.atom (.map (some b))) (hx:e.ev y=str k)
  (hb:(b,.map (kvs m) clock)∈H):Pure C ⟨dst,.lookup t x y false,ty,pos,aft,g⟩ e H ((GL.kvGet m k).getD zl):=fun ρ w L h hH=>by
 obtain ⟨v,h1,h2⟩:=kv_look ht hkt hz hzl (k:=k) hH hb
 refine ⟨v,h1,fun w' ha=>?_⟩
 have h3:execOp ρ ⟨dst,.lookup t x y false,ty,pos,aft,g⟩=(do Pure.pure (.value (←Instr.lookup t (ρ x) (ρ y) false))):=rfl
 rw[h3,atom_of h hm,atom_of h hx,Sem.run_bind,h2 w' ha false]
 try rfl
theorem Pure.kvGet2 {t kt el:TypeId} (ht:C.P.underlying t=some (.map kt el)) (hkt:C.P.underlying kt=some .string) {zv:Value} {zl:LV} (hz:∀ w,(zeroValue el).run C.P w=.ok zv w) (hzl:∀ w L,Rep w L zl zv) {b clock:Nat} {m:KV} {k:List UInt8} (hm:e.ev x=.atom (.map (some b))) (hx:e.ev y=str k)
  (hb:(b,.map (kvs m) clock)∈H):Pure C ⟨dst,.lookup t x y true,ty,pos,aft,g⟩ e H (.tuple [(GL.kvGet m k).getD zl,bool (GL.kvGet m k).isSome]):=fun ρ w L h hH=>by
 obtain ⟨v,h1,h2⟩:=kv_look ht hkt hz hzl (k:=k) hH hb
 refine ⟨.tuple #[v,.bool (GL.kvGet m k).isSome],?_,fun w' ha=>?_⟩
 ·simp only[Rep]
  refine ⟨[v,.bool (GL.kvGet m k).isSome],rfl,?_⟩
  simp only[RepL]
  exact ⟨_,_,rfl,h1,_,_,rfl,rfl,rfl⟩
 ·have h3:execOp ρ ⟨dst,.lookup t x y true,ty,pos,aft,g⟩=(do Pure.pure (.value (←Instr.lookup t (ρ x) (ρ y) true))):=rfl
  rw[h3,atom_of h hm,atom_of h hx,Sem.run_bind,h2 w' ha true]
  try rfl
end
/-! ### The same, by instances -/
class TMap (P:Program) (t:TypeId) (el:outParam TypeId) (zv:outParam Value) (zl:outParam LV):Prop where
 und:∃ kt,P.underlying t=some (.map kt el)∧P.underlying kt=some .string
 zero:∀ w,(zeroValue el).run P w=.ok zv w
 rep:∀ w L,Rep w L zl zv
theorem rep_aggs (w:World) (L:Live) (zs:List Value):Rep w L (.agg (zs.map .atom)) (.agg zs.toArray):=by
 simp only[Rep]
 exact ⟨zs,rfl,repL_atoms zs⟩
section
variable {C:Ctx} {e:Env} {H:Heap} {dst:Option Nat} {ty:TypeId} {pos:String} {aft:Array Edge} {g:Option (Nat×Bool)} {K:LV→Heap→Prop} {X:List PanicEntry→Heap→Prop} {x y:Operand}
theorem Pure.kvHit {t el:TypeId} {zv:Value} {zl lv:LV} [h:TMap C.P t el zv zl] {b clock:Nat} {m:KV} {k:List UInt8} (hm:e.ev x=.atom (.map (some b))) (hx:e.ev y=str k) (hb:(b,.map (kvs m) clock)∈H) (hg:GL.kvGet m k=some lv) :
  Pure C ⟨dst,.lookup t x y false,ty,pos,aft,g⟩ e H lv:=by
 obtain ⟨kt,h1,h2⟩:=h.und
 have:=Pure.kvGet (dst:=dst) (ty:=ty) (pos:=pos) (aft:=aft) (g:=g) h1 h2 h.zero h.rep hm hx hb
 rwa [hg] at this
theorem Pure.kvMiss {t el:TypeId} {zv:Value} {zl:LV} [h:TMap C.P t el zv zl] {b clock:Nat} {m:KV} {k:List UInt8} (hm:e.ev x=.atom (.map (some b))) (hx:e.ev y=str k) (hb:(b,.map (kvs m) clock)∈H) (hg:GL.kvGet m k=none) :
  Pure C ⟨dst,.lookup t x y false,ty,pos,aft,g⟩ e H zl:=by
 obtain ⟨kt,h1,h2⟩:=h.und
 have:=Pure.kvGet (dst:=dst) (ty:=ty) (pos:=pos) (aft:=aft) (g:=g) h1 h2 h.zero h.rep hm hx hb
 rwa [hg] at this
theorem Pure.kvHit2 {t el:TypeId} {zv:Value} {zl lv:LV} [h:TMap C.P t el zv zl] {b clock:Nat} {m:KV} {k:List UInt8} (hm:e.ev x=.atom (.map (some b))) (hx:e.ev y=str k) (hb:(b,.map (kvs m) clock)∈H) (hg:GL.kvGet m k=some lv) :
  Pure C ⟨dst,.lookup t x y true,ty,pos,aft,g⟩ e H (.tuple [lv,bool true]):=by
 obtain ⟨kt,h1,h2⟩:=h.und
 have:=Pure.kvGet2 (dst:=dst) (ty:=ty) (pos:=pos) (aft:=aft) (g:=g) h1 h2 h.zero h.rep hm hx hb
 rwa [hg] at this
theorem Pure.kvMiss2 {t el:TypeId} {zv:Value} {zl:LV} [h:TMap C.P t el zv zl] {b clock:Nat} {m:KV} {k:List UInt8} (hm:e.ev x=.atom (.map (some b))) (hx:e.ev y=str k) (hb:(b,.map (kvs m) clock)∈H) (hg:GL.kvGet m k=none) :
  Pure C ⟨dst,.lookup t x y true,ty,pos,aft,g⟩ e H (.tuple [zl,bool false]):=by
 obtain ⟨kt,h1,h2⟩:=h.und
 have:=Pure.kvGet2 (dst:=dst) (ty:=ty) (pos:=pos) (aft:=aft) (g:=g) h1 h2 h.zero h.rep hm hx hb
 rwa [hg] at this
theorem S.kvSet {t el:TypeId} {zv:Value} {zl:LV} [h:TMap C.P t el zv zl] {b clock:Nat} {m:KV} {F:Heap} {mo z:Operand} {k:List UInt8} {lv:LV} (hm:e.ev mo=.atom (.map (some b))) (hx:e.ev x=str k) (hz:e.ev z=lv)
  (hp:Pick (b,.map (kvs m) clock) H F) (hk:∀ clock',K (.atom undef) ((b,.map (kvs (GL.kvPut m k lv)) clock')::F)):LStep C ⟨dst,.mapUpdate t mo x z,ty,pos,aft,g⟩ e H K X:=by
 obtain ⟨kt,h1,h2⟩:=h.und
 exact S.kvPut h1 h2 hm hx hz hp hk
theorem S.kvIns {t el:TypeId} {zv:Value} {zl:LV} [h:TMap C.P t el zv zl] {b clock:Nat} {m:KV} {F:Heap} {mo z:Operand} {k:List UInt8} {lv:LV} (hm:e.ev mo=.atom (.map (some b))) (hx:e.ev x=str k) (hz:e.ev z=lv)
  (hp:Pick (b,.map (kvs m) clock) H F) (hk:∀ clock',K (.atom undef) ((b,.map (kvs (GL.kvPut m k lv)) clock')::F)):LStep C ⟨dst,.insert t mo x z,ty,pos,aft,g⟩ e H K X:=
 fun ρ w L h1 h2=>(S.kvSet (dst:=dst) (ty:=ty) (pos:=pos) (aft:=aft) (g:=g) (X:=X) hm hx hz hp hk) ρ w L h1 h2
theorem S.kvInsE {t el:TypeId} {zv:Value} {zl:LV} [h:TMap C.P t el zv zl] {b clock:Nat} {m:KV} {F:Heap} {mo z:Operand} {k:List UInt8} {lv:LV} (m':KV) (hm:e.ev mo=.atom (.map (some b))) (hx:e.ev x=str k) (hz:e.ev z=lv)
  (hp:Pick (b,.map (kvs m) clock) H F) (he:GL.kvPut m k lv=m') (hk:∀ clock',K (.atom undef) ((b,.map (kvs m') clock')::F)):LStep C ⟨dst,.insert t mo x z,ty,pos,aft,g⟩ e H K X:=
 S.kvIns hm hx hz hp (he▸hk)
theorem kv_new {k:List UInt8} {v:LV}:∀ {m:KV},k ∉ m.map (·.1)→GL.kvPut m k v=m++[(k,v)]
 |[],_=>rfl
 |p::r,h=>by
  rw[GL.kvPut,if_neg (fun he=>h (by rw[zMc];exact zMi.2 (.inl he.symm))),kv_new (fun hm=>h (by rw[zMc];exact zMo _ hm))]
  try rfl
end
end Go.GL
namespace Go.GL
open Go.RowKit
section
variable {C:Ctx} {e:Env} {H:Heap} {dst:Option Nat} {ty:TypeId} {pos:String} {aft:Array Edge} {g:Option (Nat×Bool)} {xT yT:TypeId} {x y:Operand} {k k2:IntKind} {a b:Int}
theorem run_int2 {P:Program} {op:BinOp} {xT yT:TypeId} {x y:Operand} {k k2:IntKind} {a b:Int} {ρ:Operand→Value} (hx:ρ x=.int k a) (hy:ρ y=.int k2 b) {s:Sem Value}
  (h:(binOp op xT (.int k a) (.int k2 b))=s) {v:Value} (hv:∀ w,s.run P w=.ok v w) (w:World):(execOp ρ ⟨dst,.binOp op xT x y yT,ty,pos,aft,g⟩).run P w=.ok (.value v) w:=by
 subst h
 have he:eqGuard op xT x y (.int k a) (.int k2 b)=Pure.pure ():=by
  unfold eqGuard
  cases op <;> rfl
 simp only[execOp,hx,hy,he,Sem.run_bind,Sem.run_pure,Result.andThen_ok,hv]
theorem Pure.quoW (hx:e.ev x=int k a) (hy:e.ev y=int k b) (hb:b≠0):Pure C ⟨dst,.binOp .quo xT x y yT,ty,pos,aft,g⟩ e H (int k (k.wrap (a.tdiv b))):=
 .of_any fun _ _ _ h=>⟨_,rep_atom,run_int2 (atom_of h hx) (atom_of h hy) (s:=Op.intDiv .quo k a b) (by simp only[binOp,ne_eq,not_true_eq_false,if_false]) (fun _=>by simp only[Op.intDiv,if_neg hb,Sem.run_pure])⟩
theorem Pure.remW (hx:e.ev x=int k a) (hy:e.ev y=int k b) (hb:b≠0):Pure C ⟨dst,.binOp .rem xT x y yT,ty,pos,aft,g⟩ e H (int k (a.tmod b)):=
 .of_any fun _ _ _ h=>⟨_,rep_atom,run_int2 (atom_of h hx) (atom_of h hy) (s:=Op.intDiv .rem k a b) (by simp only[binOp,ne_eq,not_true_eq_false,if_false]) (fun _=>by simp only[Op.intDiv,if_neg hb,Sem.run_pure])⟩
theorem Pure.xorW (hx:e.ev x=int k a) (hy:e.ev y=int k b):Pure C ⟨dst,.binOp .xor xT x y yT,ty,pos,aft,g⟩ e H (int k (k.wrap ((BitVec.ofInt k.bits a ^^^ BitVec.ofInt k.bits b).toNat:Nat))):=
 .of_any fun _ _ _ h=>⟨_,rep_atom,run_int2 (atom_of h hx) (atom_of h hy) (s:=Op.intBits .xor k a b) (by simp only[binOp,ne_eq,not_true_eq_false,if_false]) (fun _=>rfl)⟩
end
theorem wpAnyH_weakS {P:Program} {md:Region.Mode} {ops:Array Oper} {Q:Exit→Act→World→Prop} {S S':World→Prop} (hS:∀ w,S' w→S w):∀ (fuel:Nat) (listed:Array Bool) (a:Act) (w:World),
  wpAnyH P md ops Q S' fuel listed a w→wpAnyH P md ops Q S fuel listed a w
 |0,_,_,_,k=>k
 |fuel+1,_,_,_,k=>⟨k.1,fun i hi=>wpOp_mono (fun a' w' h=>⟨hS _ h.1,wpAnyH_weakS hS fuel _ a' w' h.2⟩) (k.2 i hi)⟩
theorem LLate.any {C:Ctx} {n:Nat} {ops:Array Oper} {Q:Post} {HF:Heap} {fuel:Nat} {listed:Array Bool} {e:Env} {H:Heap} (HF':Heap) (hs:∀ p∈HF,p∈HF') (h:LAny C n ops Q HF' fuel listed e H):LLate C n ops Q HF fuel listed e H:=fun w0 L0 a w L hL hA _ hE hH=>
 wpAnyH_weakS (fun w' hw'=>⟨fun p hp=>(hw'.1 p (hs p hp)).trans (hA.1 p hp),fun b i hi=>(hw'.2 b i (Nat.lt_of_lt_of_le hi (hL b))).trans (hA.2 b i hi)⟩) _ _ _ _ (h a w L hE hH)
/-! ### A drawn region whose last operations stand in a row: what is ahead of them only computes or reads. -/
def LS (C:Ctx) (n:Nat) (ops:Array Oper) (K:Env→Prop) (rest:List Oper) (e:Env) (H:Heap):Prop:=
 ∀ a w L,RelE n a e w L→RelH C w L H→wpStill C.P ops w (fun a'=>∃ e',RelE n a' e' w L∧K e') rest a
section still
variable {C:Ctx} {n:Nat} {ops:Array Oper} {K:Env→Prop} {e:Env} {H:Heap} {dst:Option Nat} {op:Op} {ty:TypeId} {pos:String} {aft:Array Edge} {rest:List Oper}
theorem LS.nil (h:K e):LS C n ops K [] e H:=fun _ _ _ hE _=>⟨e,hE,h⟩
theorem still_one {P:Program} {Q:Act→Prop} {a:Act} {w:World} {o:Oper} (hg:Region.wanted o (yielded ops a.tmps)=true) {v:Value} (h:(execOp a.eval o).run P w=.ok (.value v) w) (k:wpStill P ops w Q rest (a.put o.dst v)):wpStill P ops w Q (o::rest) a:=by
 unfold wpStill
 rw[if_pos hg]
 unfold Oper.still
 rw[h]
 exact ⟨rfl,k⟩
theorem lP {lv:LV} (h:Pure C ⟨dst,op,ty,pos,aft,none⟩ e H lv) (hd:dstOk n dst) (k:LS C n ops K rest (e.put dst lv) H):LS C n ops K (⟨dst,op,ty,pos,aft,none⟩::rest) e H:=fun a w L hE hH=>by
 obtain ⟨v,hv,hr⟩:=h a.eval w L hE.ev hH
 exact still_one (by simp[Region.wanted]) (hr w (Agree.refl _ _ _)) (k _ w L (hE.put hd hv) hH)
theorem wpStill_mono {P:Program} {w:World} {Q Q':Act→Prop} (h:∀ a,Q a→Q' a):∀ (l:List Oper) (a:Act),wpStill P ops w Q l a→wpStill P ops w Q' l a
 |[],a,k=>h a k
 |o::l,a,k=>by
  unfold wpStill at k ⊢
  split at k
  ·rename_i hw
   rw[if_pos hw]
   exact Oper.still_mono (fun a=>wpStill_mono h l a) k
  ·rename_i hw
   rw[if_neg hw]
   exact wpStill_mono h l _ k
theorem LCode.tail [hm:TMixed C.P] {id:Nat} {l:List Oper} {Q:Post} (m:Nat) (hB:Region.lexTailB .any l.toArray m=true) (h:LS C n l.toArray (fun e'=>LOps C n l.toArray Q (l.drop m) e' H) (l.take m) e H):LCode C n (.region id l.toArray true) Q e H:=fun a w L hE hH=>by
 refine wp_region_still_tail m hm.out hB ?_
 refine wpStill_mono (fun a' h'=>?_) _ _ (h a w.drew L (hE.mono (ext_drew w L)) hH.drew)
 obtain ⟨e',hE',hk⟩:=h'
 refine wpList_mono (fun x a2 w' hq=>?_) _ _ _ (hk a' w.drew L hE' hH.drew)
 obtain ⟨e2,H',L',h1,h2,h3,h4⟩:=hq
 exact ⟨e2,H',L',h1.of_drew,h2,h3,h4⟩
end still
end Go.GL
namespace Go.GL
open Go.RowKit
section
variable {C:Ctx} {e:Env} {H:Heap} {dst:Option Nat} {ty:TypeId} {pos:String} {aft:Array Edge} {g:Option (Nat×Bool)} {K:LV→Heap→Prop} {X:List PanicEntry→Heap→Prop} {x y:Operand}
theorem Pure.rowLen {t el s:Nat} [TSlice C.P t el s] {a:Option Addr} {m cap:Nat} (hx:e.ev x=.atom (.slice a m cap)):Pure C ⟨dst,.call { callee:=.builtin .len,args:=#[x],argTypes:=#[t] },ty,pos,aft,g⟩ e H (int .i64 m):=
 .of_any fun ρ _ _ h=>⟨_,rep_atom,fun w'=>by
  have hu:=run_underlying' (P:=C.P) (TSlice.und (t:=t)) w'
  rw[execOp_builtin',builtin_len']
  simp[Builtin.len_,hu,goInt,atom_of h hx]⟩
end
section shut
variable {C:Ctx} {n:Nat} {Q:Post} {e:Env} {H F:Heap}
end shut
end Go.GL
namespace Go.GL
open Go.RowKit
section
variable {C:Ctx} {e:Env} {H:Heap} {dst:Option Nat} {ty:TypeId} {pos:String} {aft:Array Edge} {g:Option (Nat×Bool)} {K:LV→Heap→Prop} {X:List PanicEntry→Heap→Prop} {x y:Operand}
theorem run_equal_slice {P:Program} {t el s:Nat} [h:TSlice P t el s] (a:Option Addr) (n m:Nat) (w:World):(Op.equal t (.slice a n m) (.slice none 0 0)).run P w=.ok a.isNone w:=by
 rw[equal_step,Op.equalIn]
 try cases a <;> simp only[Sem.run_bind,run_underlying' h.und,Result.andThen_ok,Sem.run_pure] <;> rfl
theorem S.sliceNil {t el s yT:Nat} [ht:TSlice C.P t el s] {es:List LV} (hx:elems (e.ev x)=some es) (hk:∀ b,(b=true→es=[])→K (bool b) H):LStep C ⟨dst,.binOp .eql t x (.const (.slice none 0 0)) yT,ty,pos,aft,g⟩ e H K X:=fun ρ w L h hH=>by
 obtain ⟨a,cap,hv,hc,hr⟩:=(h x).elems hx
 have h2:=atom_of h (x:=.const (.slice none 0 0)) rfl
 have he:eqGuard .eql t x (.const (.slice none 0 0)) (.slice a es.length cap) (.slice none 0 0)=Pure.pure ():=by simp[eqGuard]
 have hb:binOp .eql t (.slice a es.length cap) (.slice none 0 0)=(do Pure.pure (.bool (←Op.equal t (.slice a es.length cap) (.slice none 0 0)))):=rfl
 have hrun:(execOp ρ ⟨dst,.binOp .eql t x (.const (.slice none 0 0)) yT,ty,pos,aft,g⟩).run C.P w=.ok (.value (.bool a.isNone)) w:=by
  simp only[execOp,hv,h2,he,hb,Sem.run_bind,Sem.run_pure,Result.andThen_ok,run_equal_slice]
 rw[hrun]
 refine ⟨bool a.isNone,H,L,Fr.refl _ _ _,hH,rep_atom,hk _ fun hn=>?_⟩
 cases a with
 |some a=>cases hn
 |none=>
  cases es with
  |nil=>rfl
  |cons v es=>
   obtain ⟨b,off,k,h3,_⟩:=hr (by simp)
   cases h3
theorem Pure.rowCap {t el s:Nat} [TSlice C.P t el s] {a:Option Addr} {m cap:Nat} (hx:e.ev x=.atom (.slice a m cap)):Pure C ⟨dst,.call { callee:=.builtin .cap,args:=#[x],argTypes:=#[t] },ty,pos,aft,g⟩ e H (int .i64 cap):=
 .of_any fun ρ _ _ h=>⟨_,rep_atom,fun w'=>by
  have hu:=run_underlying' (P:=C.P) (TSlice.und (t:=t)) w'
  have h0:∀ (cs:Array Bool) (args:Array Value),builtin .cap #[t] ty cs args=(do Pure.pure (.value (←Builtin.cap_ #[t] ty args))):=fun _ _=>rfl
  rw[execOp_builtin',h0]
  simp[Builtin.cap_,hu,goInt,atom_of h hx]⟩
theorem Pure.rowSlice {t el s:Nat} [ht:TSlice C.P t el s] {a:Option Addr} {m cap n:Nat} {hi:Operand} {k:IntKind} (hx:e.ev x=.atom (.slice a m cap)) (hh:e.ev hi=int k n) (hn:n≤cap) :
  Pure C ⟨dst,.slice t x none (some hi) none,ty,pos,aft,g⟩ e H (.atom (.slice a n cap)):=.of_any fun ρ w L h=>by
 obtain ⟨ti,hti,hsz⟩:=ht.size
 refine ⟨_,rep_atom,fun w'=>?_⟩
 have hb:=run_sliceBounds (P:=C.P) (w':=w') (len:=m) (cap:=cap) (lo:=none) (hi:=some hi) (i:=0) (j:=n) h true rfl ⟨k,hh⟩ zo zo zo
 have h3:execOp ρ ⟨dst,.slice t x none (some hi) none,ty,pos,aft,g⟩=(do Pure.pure (.value (←Instr.sliceAt t (ρ x) none (some (ρ hi)) none))):=rfl
 rw[h3,atom_of h hx]
 simp only[Option.map_none,Option.map_some] at hb
 simp only[Instr.sliceAt,Instr.slice,Sem.run_bind,run_underlying' (P:=C.P) ht.und w',Result.andThen_ok,Sem.run_pure,hb,run_sizeOf' hti,hsz]
 have ha:∀ a:Addr,a.add 0=a:=fun a=>by
  obtain ⟨b,o,sp⟩:=a
  unfold Addr.add
  cases sp <;> simp
 simp[ha]
theorem S.appZeros {sT xT el bytes:Nat} {zv:Value} [ht:TSlice C.P sT el 1] [hr:TRow C.P el 1 bytes] [hz:TZero C.P el [zv]] [hk0:TKind C.P xT .i64] {n:Nat} (hx:e.ev x=nilSlice) (hy:e.ev y=int .i64 n) (hn:0<n) (hroom:n * bytes≤140737488355328)
  (hk:∀ b cap,n≤cap→K (.atom (.slice (some ⟨b,0,none⟩) n cap)) ((b,.cells el (List.replicate cap (.atom zv)))::H)) :
  LStep C ⟨dst,.call { callee:=.builtin .append,args:=#[x,y],argTypes:=#[sT,xT] },ty,pos,aft,g⟩ e H K X:=by
 refine LStep.at0 fun ρ w L h hH=>?_
 have h0:∀ (cs:Array Bool) (args:Array Value),builtin .append #[sT,xT] ty cs args=(do Pure.pure (.value (←Builtin.append_ #[sT,xT] ty args))):=fun _ _=>rfl
 obtain ⟨i,z,hi,hs,hb,hb0,hzz,hzs⟩:=hr.out
 obtain ⟨i',z',hi',hz',hc',hs'⟩:=hz.out
 rw[hi] at hi'
 obtain rfl:=Option.some.inj hi'
 rw[hzz] at hz'
 obtain rfl:=Option.some.inj hz'
 have hmul:n≤n * bytes:=Nat.le_mul_of_pos_right _ hb0
 have wn:IntKind.i64.wrap (n:Int)=n:=wrap_i64 zo
 have n1:¬ ((n:Int)<0):=by omega
 have n2:¬ ((281474976710656:Int)<(n:Int) * (i.bytes:Int)):=by
  rw[hb]
  have:((n * bytes:Nat):Int)≤140737488355328:=by omega
  rw[Int.natCast_mul] at this
  omega
 have h63':¬ (9223372036854775807<(n:Int)):=by omega
 have hfit:=growslice_fits (bytes:=bytes) (need:=n) (old:=0) hn hroom
 have h48':¬ (281474976710656<Builtin.nextslicecap n 0 * i.bytes):=by
  rw[hb]
  omega
 have hn0:¬ n=0:=by omega
 have hz1:∀ m,(Builtin.zeroCells #[zv] m)=(List.replicate m zv).toArray:=fun m=>by
  unfold Builtin.zeroCells
  apply Array.ext
  ·simp
  ·intro j h1 h2
   simp[Nat.mod_one]
 have hcap:n≤grownCap w n 0 el:=by simp[grownCap,Question.cut]
 have hrun:(Builtin.append_ #[sT,xT] ty #[.slice none 0 0,.int .i64 n]).run C.P w=.ok (.slice (some ⟨w.heap.size,0,none⟩) n (grownCap w n 0 el)) (World.push w.drew (.cells (List.replicate (grownCap w n 0 el) zv).toArray el)):=by
  simp[Builtin.append_,run_underlying' ht.und,run_underlying' hk0.und,sizeOf,typeInfo,zeroValue,hi,hs,hzz,hc',asInt,asIntOf,wn,n1,n2,hn0,h63',h48',Question.forced,newRow,grownCap,Builtin.firstCells,hz1]
  show World.push w.drew _=World.push w.drew _
  congr 2
  apply Array.ext'
  have:=hcap
  unfold grownCap at this
  congr 2
  omega
 rw[execOp_builtin',h0]
 simp only[List.map_toArray,zMc,List.map_nil,Sem.run_bind,atom_of h hx,atom_of h hy,hrun,Result.andThen_ok,Sem.run_pure]
 have hHd:=hH.drew
 have hrep:RepL w.drew L (List.replicate (grownCap w n 0 el) (.atom zv)) (List.replicate (grownCap w n 0 el) zv):=by
  have:=repL_atoms (w:=w.drew) (L:=L) (List.replicate (grownCap w n 0 el) zv)
  rwa [List.map_replicate] at this
 have hx':=ext_push hHd.wf (.cells (List.replicate (grownCap w n 0 el) zv).toArray el) 0
 have:=fr_push hHd (.cells (List.replicate (grownCap w n 0 el) zv).toArray el) 0 [(w.heap.size,.cells el (List.replicate (grownCap w n 0 el) (.atom zv)))] (fun p hp=>by
  simp only[List.mem_singleton] at hp
  subst hp
  exact ⟨rfl,by simp[Live.upd],List.replicate (grownCap w n 0 el) zv,heap_push_self,hrep.mono hx' _ _⟩) (by simp)
 exact ⟨_,_,_,this.1.of_drew,this.2,rep_atom,hk _ _ hcap⟩
end
section opened
variable {C:Ctx} {n:Nat} {Q:Post} {e:Env} {H F:Heap}
theorem row_open {w:World} {L:Live} {b el:Nat} {cs:List LV} (hp:Pick (b,.cells el cs) H F) (hH:RelH C w L H) (hl:∀ k cap,cap * k≤cs.length→∃ e s,w.shape? b=some (e,s)∧cap * k≤s):RelH C w L ((b,.row 0)::F):=by
 have hH1:=hH.perm hp
 obtain ⟨hb0,hbs,hlb,xs,hx1,hx2⟩:=hH1.objs _ List.mem_cons_self
 simp only at hb0 hbs hlb hx1 hx2
 refine ⟨hH1.base,hH1.lbase,hH1.b0,hH1.wf,hH1.nodup,fun p hp'=>?_⟩
 rcases zMi.1 hp' with rfl|hp'
 ·exact ⟨hb0,hbs,hlb,_,_,_,hx1,Nat.zero_le _,Nat.zero_le _⟩
 ·exact hH1.objs p (zMo _ hp')
theorem shape_cells {w:World} {L:Live} {b el:Nat} {cs:List LV} (hp:Pick (b,.cells el cs) H F) (hH:RelH C w L H):w.shape? b=some (el,cs.length):=by
 have hH1:=hH.perm hp
 obtain ⟨hb0,hbs,hlb,xs,hx1,hx2⟩:=hH1.objs _ List.mem_cons_self
 simp only at hx1
 simp only[World.shape?,hx1]
 rw[List.size_toArray,hx2.length]
theorem LOps.rowOpen {ops:Array Oper} {rest:List Oper} (d k:Nat) {b el cap:Nat} {cs:List LV} (hp:Pick (b,.cells el cs) H F) (hd:e.s d=.atom (.slice (some ⟨b,0,none⟩) 0 cap)) (hc:cap * k≤cs.length) (h:LOps C n ops Q rest (e.upd d (.app b cap k [])) ((b,.row 0)::F)):LOps C n ops Q rest e H:=fun a w L hE hH=>by
 have hs:=shape_cells hp hH
 have hk:∀ x,x∈keys ((b,LObj.row 0)::F)→x∈keys H:=fun x hx=>by
  have:=((hp.map (·.1)).mem_iff (a:=x)).2 (by simpa using hx)
  exact this
 refine wpList_mono (fun _ _ _=>lift_weak hk) _ _ _ (h a w L ⟨hE.size,hE.ds,fun i=>?_⟩ (row_open hp hH fun k2 cap2 h2=>⟨_,_,hs,h2⟩))
 have hv:=hE.vals i
 simp only[Env.upd]
 cases hb:Nat.beq i d with
 |false=>exact hv
 |true=>
  have hi:=Nat.eq_of_beq_eq_true hb
  subst hi
  rw[hd] at hv
  simp only[Rep] at hv
  rw[hv]
  show Rep w L (.app b cap k []) _
  simp only[Rep]
  refine ⟨rfl,Nat.zero_le _,?_,_,_,hs,hc⟩
  simp only[RepRows]
end opened
end Go.GL
namespace Go.GL
open Go.RowKit
section
variable {C:Ctx} {n:Nat} {Q:Post} {e:Env} {H:Heap} {k:Env→Heap→Prop}
theorem LCode.mid {A:Type} {c:Code} (l:A→List (Nat×LV)) (H1:A→Heap) (F:A→Prop) (hx:LCode C n c (QThen (fun e' H'=>∃ a,F a∧At (l a) (H1 a) e.ds e' H') Q) e H) (hy:∀ a,F a→∀ j:Env,j.ds=e.ds→k (Env.slots j (l a)) (H1 a)):LCode C n c (QThen k Q) e H:=by
 refine LCode.conseq hx ?_
 rintro ex e' H' hq
 cases ex with
 |normal=>
  obtain ⟨a,hF,h1,rfl,h3⟩:=hq
  have:=hy a hF e' h3
  rw[Env.slots_self h1.mem] at this
  exact this
 |exit id=>exact hq
 |goto id=>exact hq
 |ret=>exact hq
 |panic ch=>exact hq
 |outgrown=>exact hq
theorem cM {A:Type} {c c2:Code} {Q2:Post} (l:A→List (Nat×LV)) (H1:A→Heap) (F:A→Prop) (hx:LCode C n c (QThen (fun e' H'=>∃ a,F a∧AllSlots e' (l a)∧HSub (H1 a) H'∧e'.ds=e.ds) Q) e H) (hy:∀ a,F a→∀ j:Env,j.ds=e.ds→LCode C n c2 Q2 (Env.slots j (l a)) (H1 a)):LCode C n c (QThen (fun e H=>LCode C n c2 Q2 e H) Q) e H:=by
 refine LCode.conseq hx ?_
 rintro ex e' H' hq
 cases ex with
 |normal=>
  obtain ⟨a,hF,h1,h2,h3⟩:=hq
  have:=hy a hF e' h3
  rw[Env.slots_self h1.mem] at this
  exact cW h2 this
 |exit id=>exact hq
 |goto id=>exact hq
 |ret=>exact hq
 |panic ch=>exact hq
 |outgrown=>exact hq
theorem cells_sub {w:World} {L:Live} {b ty:Nat} {cs cs':List LV} {F:Heap} (hp:Pick (b,.cells ty cs) H F) (hs:SubL cs cs') (hH:RelH C w L H):RelH C w L ((b,.cells ty cs')::F):=by
 have h1:=hH.perm hp
 refine ⟨h1.base,h1.lbase,h1.b0,h1.wf,h1.nodup,fun p hp=>?_⟩
 rcases zMi.1 hp with rfl|hp
 ·obtain ⟨r1,r2,r3,xs,r4,r5⟩:=h1.objs _ List.mem_cons_self
  exact ⟨r1,r2,r3,xs,r4,hs.repL r5⟩
 ·exact h1.objs p (zMo _ hp)
theorem pick_keys {b ty:Nat} {cs cs':List LV} {F:Heap} (hp:Pick (b,.cells ty cs) H F):∀ x,x∈keys ((b,LObj.cells ty cs')::F)→x∈keys H:=fun x hx=>by
 have:keys ((b,LObj.cells ty cs')::F)=keys ((b,LObj.cells ty cs)::F):=rfl
 rw[this] at hx
 exact ((hp.map (·.1)).mem_iff).2 hx
theorem LCode.cellSub {c:Code} {b ty:Nat} {cs cs':List LV} {F:Heap} (hp:Pick (b,.cells ty cs) H F) (hs:SubL cs cs') (h:LCode C n c Q e ((b,.cells ty cs')::F)):LCode C n c Q e H:=fun a w L hE hH=>
 Go.wp_mono (h a w L hE (cells_sub hp hs hH)) fun _ _ _=>lift_weak (pick_keys hp)
theorem LOps.perm {ops:Array Oper} {rest:List Oper} {H':Heap} (s:H.Perm H') (h:LOps C n ops Q rest e H'):LOps C n ops Q rest e H:=LOps.weak ⟨[],by simpa using s⟩ h
end
section
variable {C:Ctx} {e:Env} {H:Heap} {dst:Option Nat} {ty:TypeId} {pos:String} {aft:Array Edge} {g:Option (Nat×Bool)} {x:Operand}
theorem Pure.assertOk {t xT:TypeId} [ht:TConcrete C.P t] {vs:List Value} (hx:e.ev x=.atom (.iface t (.agg vs.toArray))):Pure C ⟨dst,.typeAssert x xT t true,ty,pos,aft,g⟩ e H (.tuple [.agg (vs.map .atom),bool true]):=
 .of_any fun ρ w L h=>⟨.tuple #[.agg vs.toArray,.bool true],by
  simp only[Rep]
  exact ⟨[.agg vs.toArray,.bool true],rfl,by simp only[RepL,Rep];exact ⟨_,_,rfl,⟨vs,rfl,repL_atoms vs⟩,_,_,rfl,rfl,rfl⟩⟩,fun w'=>by
  obtain ⟨d,hd,hm⟩:=ht.out
  have h3:execOp ρ ⟨dst,.typeAssert x xT t true,ty,pos,aft,g⟩=(do Pure.pure (.value (←Instr.typeAssert (ρ x) xT t true))):=rfl
  rw[h3,atom_of h hx]
  simp only[Instr.typeAssert,Sem.run_bind,run_underlying' hd,Result.andThen_ok]
  cases d <;> simp_all⟩
end
theorem LLate.three {C:Ctx} {n:Nat} {ops:Array Oper} {Q:Post} {HF:Heap} {fuel:Nat} {listed:Array Bool} {e:Env} {H:Heap} {i j k:Nat} (hr:Region.ready .any ops listed=[i,j,k]) (h1:LLateOp C n ops Q HF fuel listed e H i) (h2:LLateOp C n ops Q HF fuel listed e H j) (h3:LLateOp C n ops Q HF fuel listed e H k):LLate C n ops Q HF (fuel+1) listed e H:=
 LLate.all hr (by simp) fun q hq=>by
  simp only[zMi,List.not_mem_nil,or_false] at hq
  rcases hq with rfl|rfl|rfl
  ·exact h1
  ·exact h2
  ·exact h3
theorem strs_len (l:List (List UInt8)):∀ v∈l.map str,v.cells.length=1:=fun v hv=>by
 obtain ⟨x,_,rfl⟩:=List.mem_map.1 hv
 rfl
theorem strs_ok:∀ l:List (List UInt8),((l.map str).flatMap LV.cells).all cellOk=true
 |[]=>rfl
 |x::l=>by
  rw[zMc,List.flatMap_cons,List.all_append,strs_ok l]
  try rfl
end Go.GL
/- A small logic over the walk's 'Code.wp': structs of a string and an int, compared. -/
namespace Go.GL
open Go.RowKit
section
variable {C:Ctx} {e:Env} {H:Heap} {dst:Option Nat} {ty:TypeId} {pos:String} {aft:Array Edge} {g:Option (Nat×Bool)} {xT yT:TypeId} {x y:Operand}
end
end Go.GL
namespace Go.Stele
def keyI (f:FnD) (name:List UInt8):List UInt8:=if name∈f.params∨name∈f.locals then f.name++[46]++name else name
def fnI (P:Pr) (name:List UInt8):FnD:=(P.funcs.find? fun f=>decide (f.name=name)).getD ⟨[],[],[],[]⟩
/-! ### A greater limit -/
/-! ### A run -/
def mainI (P:Pr):FnD:=P.funcs.getLast?.getD ⟨[],[],[],[]⟩
end Go.Stele
namespace Go.Stele
abbrev Nm:=List UInt8
def noName:List Nm:=keywords++[[105,110],[111,117,116]]
def isNm (s:Nm):Bool:=decide (s.length≤24) && !noName.contains s && (match s with
 |[]=>false
 |c::r=>isLetter c && r.all isInner)
structure FSum where
 name:Nm
 params:Nat
 need:Nat
 depth:Nat
structure CEnv where
 vars:List Nm
 arrays:List Nm
 later:List Nm
 own:List Nm
 funcs:List FSum
def CEnv.globals (c:CEnv):List Nm:=c.vars++c.arrays++c.later
def CEnv.fn (c:CEnv) (name:Nm):Option FSum:=c.funcs.find? fun f=>decide (f.name=name)
def orE (a b:Int):Int:=if a≠0 then a else b
def binOps:List Nm:=[[124,124],[38,38],[61,61],[33,61],[60],[62],[60,61],[62,61],[94],[43],[45],[42],[47],[37]]
def opnds (op:Nm):Int:=if op=nNum∨op=nVar then 0 else if op=nElem∨op=nNeg∨op=nNot then 1 else if op=nCall then -1 else if op∈binOps then 2 else -2
def scalarE (c:CEnv) (name:Nm):Int:=if name∈c.vars∨name∈c.own then 0 else if name∈c.globals then 10 else 7
def arrayE (c:CEnv) (name:Nm):Int:=if name∈c.arrays then 0 else if name∈c.globals∨name∈c.own then 10 else 7
def callE (c:CEnv) (name:Nm) (n:Nat):Int:=
 if name=[105,110] then (if n=0 then 0 else 1)
 else if name=[111,117,116] then (if n=1 then 0 else 1)
 else match c.fn name with
  |some f=>if n=f.params then 0 else 1
  |none=>if name∈c.vars∨name∈c.arrays∨name∈c.own then 10 else 7
def useE (c:CEnv) (op name:Nm) (n:Nat):Int:=if op=nVar then scalarE c name else if op=nElem then arrayE c name else if op=nCall then callE c name n else 0
mutual
def errE (c:CEnv):Ex→Int
 |.mk op num name args=>if opnds op = -1∨opnds op=args.length then orE (errEs c args) (useE c op name args.length) else 3
def errEs (c:CEnv):List Ex→Int
 |[]=>0
 |x::l=>orE (errE c x) (errEs c l)
end
def stair:Nat→List Nat→Nat→Nat
 |i,[],m=>m
 |i,n::l,m=>stair (i+1) l (max m (i+n))
def callN (c:CEnv) (name:Nm) (ns:List Nat):Nat:=
 if name=[105,110] then 1
 else if name=[111,117,116] then ns.headD 0
 else match c.fn name with
  |some f=>stair 0 ns (max (f.params+1) f.need)
  |none=>0
def opN (c:CEnv) (op name:Nm) (ns:List Nat):Nat:=
 if op=nNum∨op=nVar then 1
 else if op=nElem∨op=nNeg then 1+ns.headD 0
 else if op=nCall then callN c name ns
 else if op=nNot then max 2 (ns.headD 0)
 else if op=[62]∨op=[60,61] then max (max 3 (ns.headD 0)) (1+ns.tail.headD 0)
 else if op=[33,61] then max (max 3 (1+ns.headD 0)) (2+ns.tail.headD 0)
 else if op=[38,38] then max (1+ns.headD 0) (2+ns.tail.headD 0)
 else if op=[124,124] then max (2+ns.headD 0) (3+ns.tail.headD 0)
 else max (max 2 (ns.headD 0)) (1+ns.tail.headD 0)
mutual
def needE (c:CEnv):Ex→Nat
 |.mk op num name args=>opN c op name (needEs c args)
def needEs (c:CEnv):List Ex→List Nat
 |[]=>[]
 |x::l=>needE c x::needEs c l
end
def callD (c:CEnv) (op name:Nm):Nat:=if op=nCall∧name≠[105,110]∧name≠[111,117,116] then (match c.fn name with
 |some f=>f.depth+1
 |none=>0) else 0
mutual
def depE (c:CEnv):Ex→Nat
 |.mk op num name args=>max (depEs c args) (callD c op name)
def depEs (c:CEnv):List Ex→Nat
 |[]=>0
 |x::l=>max (depE c x) (depEs c l)
end
def exOp1:Ex→Nm
 |.mk op _ _ _=>op
def formS:Sm→Bool
 |.mk kind name index value thn els=>
  if kind=1 then decide (name≠[]∧index.length=0∧value.length=1∧thn.length=0∧els.length=0)
  else if kind=2 then decide (name≠[]∧index.length=1∧value.length=1∧thn.length=0∧els.length=0)
  else if kind=3 then decide (name=[]∧index.length=0∧value.length=1)
  else if kind=4 then decide (name=[]∧index.length=0∧value.length=1∧els.length=0)
  else if kind=5 then decide (name=[]∧index.length=0∧value.length=1∧thn.length=0∧els.length=0)
  else if kind=6 then decide (name=[]∧index.length=0∧value.length=1∧thn.length=0∧els.length=0∧exOp1 (value.headD default)=nCall)
  else if kind=7 then decide (name=[]∧index.length=0∧value.length=0∧thn.length=0∧els.length=0)
  else false
mutual
def errS (c:CEnv):Sm→Int
 |.mk kind name index value thn els=>if formS (.mk kind name index value thn els)=false then 3
  else orE (errEs c value) (orE (errEs c index) (orE (if kind=1 then scalarE c name else if kind=2 then arrayE c name else 0) (orE (errSs c thn) (errSs c els))))
def errSs (c:CEnv):List Sm→Int
 |[]=>0
 |s::l=>orE (errS c s) (errSs c l)
end
mutual
def needS (c:CEnv):Sm→Nat
 |.mk kind name index value thn els=>
  if kind=7 then 0
  else if kind=2 then max (needE c (value.headD default)) (2+needE c (index.headD default))
  else if kind=5 then needE c (value.headD default)
  else max 2 (max (max (needE c (value.headD default)) (needSs c thn)) (needSs c els))
def needSs (c:CEnv):List Sm→Nat
 |[]=>0
 |s::l=>max (needS c s) (needSs c l)
end
mutual
def depS (c:CEnv):Sm→Nat
 |.mk kind name index value thn els=>max (max (depEs c value) (depEs c index)) (max (depSs c thn) (depSs c els))
def depSs (c:CEnv):List Sm→Nat
 |[]=>0
 |s::l=>max (depS c s) (depSs c l)
end
def freshE:List Nm→List Nm→Int
 |known,[]=>0
 |known,s::l=>if isNm s=false then 7 else if s∈known then 8 else freshE (s::known) l
def sizesE:Int→List Int→Int
 |total,[]=>0
 |total,n::l=>if n≤0 then 2 else if 150000-total<n then 6 else sizesE (total+n) l
def envF (vars arrays later:List Nm) (known:List FSum) (f:FnD):CEnv:=⟨vars,arrays,later,f.params++f.locals,known⟩
def errF (vars arrays later:List Nm) (known:List FSum) (f:FnD):Int:=orE (freshE (vars++arrays++later) (f.params++f.locals)) (errSs (envF vars arrays later known f) f.body)
def sumF (vars arrays later:List Nm) (known:List FSum) (f:FnD):FSum:=⟨f.name,f.params.length,max (max 2 (f.params.length+1)) (needSs (envF vars arrays later known f) f.body),max 1 (depSs (envF vars arrays later known f) f.body)⟩
def errFs (vars arrays later:List Nm):List FSum→List FnD→Int
 |known,[]=>0
 |known,f::l=>orE (errF vars arrays later known f) (errFs vars arrays later (known++[sumF vars arrays later known f]) l)
def sumFs (vars arrays later:List Nm):List FSum→List FnD→List FSum
 |known,[]=>known
 |known,f::l=>sumFs vars arrays later (known++[sumF vars arrays later known f]) l
def scalarsP (vars:List Nm) (fs:List FnD):List Nm:=vars++(fs.map fun f=>(f.params++f.locals).map fun x=>f.name++[46]++x).flatten
def mainE (vars:List Nm) (fs:List FnD) (sums:List FSum):Int:=match fs.getLast?,sums.getLast? with
 |some f,some m=>if f.name=[109,97,105,110]∧f.params=[] then (if (scalarsP vars fs).length≤8000∧m.need≤200∧m.depth≤60 then 0 else 6) else 9
 |_,_=>9
def checkP (vars:List Nm) (arrays:List (Nm×Int)) (fs:List FnD):Int:=
 orE (freshE [] (vars++arrays.map (·.1)++fs.map (·.name))) (orE (sizesE 0 (arrays.map (·.2)))
  (orE (errFs vars (arrays.map (·.1)) (fs.map (·.name)) [] fs) (mainE vars fs (sumFs vars (arrays.map (·.1)) (fs.map (·.name)) [] fs))))
def checkPr (p:Pr):Int:=checkP p.vars (p.arrays.map fun a=>(a.name,(a.size:Int))) p.funcs
theorem orE_zero {a b:Int}:orE a b=0 ↔ a=0∧b=0:=by
 unfold orE
 split
 ·constructor
  ·intro h;contradiction
  ·rintro ⟨h,_⟩;contradiction
 ·constructor
  ·intro h;exact ⟨by omega,h⟩
  ·rintro ⟨_,h⟩;exact h
end Go.Stele
namespace Go.Stele
def leftLv (k:Nat):Nat:=if k=2 then k+1 else k
end Go.Stele
