/- What the parser computes, in plain Lean: its small steps. -/
import Derived.Test.YtfodkbchknknjaaDoorLexSpec2
namespace Go.Stele
/-- What a step of the parser hands back: a value, the place and the number of open constructs; or a line and an error. -/
inductive Res (A : Type) where
  | ok (v : A) (at' op : Nat)
  | err (line e : Int)
def failLine (T : List Tok) (i : Nat) : Int := match T[min i (T.length - 1)]? with
  | some t => t.line
  | none => 1
def synErr {A : Type} (T : List Tok) (i : Nat) : Res A := .err (failLine T i) 3
def isTok (T : List Tok) (i : Nat) (xs : List (List UInt8)) : Bool := match T[i]? with
  | some t => (decide (t.kind = 3) || decide (t.kind = 4)) && xs.contains t.text
  | none => false
def sWord (T : List Tok) (k : Int) (i op : Nat) : Res (List UInt8) := match T[i]? with
  | some t => if t.kind = k then .ok t.text (i + 1) op else synErr T i
  | none => synErr T i
def sNeed (T : List Tok) (x : List UInt8) (i op : Nat) : Res Unit := if isTok T i [x] then .ok () (i + 1) op else synErr T i
def sBegin (T : List Tok) (x : List UInt8) (i op : Nat) : Res Unit :=
  if isTok T i [x] then (if 100 ≤ op then .err (failLine T i) 6 else .ok () (i + 1) (op + 1)) else synErr T i
def Res.bind {A B : Type} (r : Res A) (f : A → Nat → Nat → Res B) : Res B := match r with
  | .ok v i op => f v i op
  | .err l e => .err l e
def numOf (s : List UInt8) : Nat := match Go.Lib.parseUintB 32 s with
  | .ok u => u
  | _ => 0
end Go.Stele
/- What the parser computes, in plain Lean: expressions and statements, by fuel. -/
namespace Go.Stele
inductive Ex where
  | mk (op : List UInt8) (num : Nat) (name : List UInt8) (args : List Ex)
  deriving Inhabited
inductive Sm where
  | mk (kind : Int) (name : List UInt8) (index value : List Ex) (thn els : List Sm)
  deriving Inhabited
structure FnD where
  name : List UInt8
  params : List (List UInt8)
  locals : List (List UInt8)
  body : List Sm
  deriving Inhabited
structure Ar where
  name : List UInt8
  size : Nat
  deriving Inhabited
structure Pr where
  vars : List (List UInt8)
  arrays : List Ar
  funcs : List FnD
  deriving Inhabited
def lvOps : Nat → List (List UInt8)
  | 0 => [[124, 124]]
  | 1 => [[38, 38]]
  | 2 => [[61, 61], [33, 61], [60], [62], [60, 61], [62, 61]]
  | 3 => [[94]]
  | 4 => [[43], [45]]
  | 5 => [[42], [47], [37]]
  | _ => []
abbrev OR (A : Type) := Option (Res A)
def obind {A B : Type} (r : OR A) (f : A → Nat → Nat → OR B) : OR B := match r with
  | none => none
  | some (.ok v i op) => f v i op
  | some (.err l e) => some (.err l e)
def textAt (T : List Tok) (i : Nat) : List UInt8 := match T[i]? with
  | some t => t.text
  | none => []
def kindAt (T : List Tok) (i : Nat) : Int := match T[i]? with
  | some t => t.kind
  | none => 0
def sEnd (T : List Tok) (x : List UInt8) (i op : Nat) : Res Unit := (sNeed T x i op).bind fun _ i' op' => .ok () i' (op' - 1)
def sNumber (T : List Tok) (i op : Nat) : Res Nat := (sWord T 1 i op).bind fun s i' op' => .ok (numOf s) i' op'
def sNamesLoop (T : List Tok) : Nat → List (List UInt8) → Nat → Nat → OR (List (List UInt8))
  | 0, _, _, _ => none
  | f + 1, acc, i, op => if isTok T i [[44]] then obind (some (sWord T 2 (i + 1) op)) fun s i' op' => sNamesLoop T f (acc ++ [s]) i' op' else some (.ok acc i op)
def sNames (T : List Tok) (f : Nat) (i op : Nat) : OR (List (List UInt8)) := obind (some (sWord T 2 i op)) fun s i' op' => sNamesLoop T f [s] i' op'
def nNeg : List UInt8 := [110, 101, 103]
def nNot : List UInt8 := [110, 111, 116]
def nNum : List UInt8 := [110, 117, 109]
def nElem : List UInt8 := [101, 108, 101, 109]
def nCall : List UInt8 := [99, 97, 108, 108]
def nVar : List UInt8 := [118, 97, 114]
mutual
def eLev (T : List Tok) : Nat → Nat → Nat → Nat → OR Ex
  | 0, _, _, _ => none
  | f + 1, k, i, op => if k = 6 then eUnary T f i op else obind (eLev T f (k + 1) i op) fun e i' op' => eLoop T f k e i' op'
def eLoop (T : List Tok) : Nat → Nat → Ex → Nat → Nat → OR Ex
  | 0, _, _, _, _ => none
  | f + 1, k, e, i, op =>
    if isTok T i (lvOps k) then obind (eLev T f (k + 1) (i + 1) op) fun e2 i' op' =>
      if k = 2 then some (.ok (.mk (textAt T i) 0 [] [e, e2]) i' op') else eLoop T f k (.mk (textAt T i) 0 [] [e, e2]) i' op'
    else some (.ok e i op)
def eUnary (T : List Tok) : Nat → Nat → Nat → OR Ex
  | 0, _, _ => none
  | f + 1, i, op =>
    if isTok T i [[45]] then obind (some (sBegin T [45] i op)) fun _ i' op' => obind (eUnary T f i' op') fun e i' op' => some (.ok (.mk nNeg 0 [] [e]) i' (op' - 1))
    else if isTok T i [[33]] then obind (some (sBegin T [33] i op)) fun _ i' op' => obind (eUnary T f i' op') fun e i' op' => some (.ok (.mk nNot 0 [] [e]) i' (op' - 1))
    else ePrim T f i op
def ePrim (T : List Tok) : Nat → Nat → Nat → OR Ex
  | 0, _, _ => none
  | f + 1, i, op =>
    if isTok T i [[40]] then obind (some (sBegin T [40] i op)) fun _ i' op' => obind (eLev T f 0 i' op') fun e i' op' => obind (some (sEnd T [41] i' op')) fun _ i' op' => some (.ok e i' op')
    else if kindAt T i = 1 then obind (some (sNumber T i op)) fun n i' op' => some (.ok (.mk nNum n [] []) i' op')
    else obind (some (sWord T 2 i op)) fun s i' op' =>
      if isTok T i' [[91]] then obind (eIndex T f i' op') fun e i' op' => some (.ok (.mk nElem 0 s [e]) i' op')
      else if isTok T i' [[40]] then obind (eArgs T f i' op') fun l i' op' => some (.ok (.mk nCall 0 s l) i' op')
      else some (.ok (.mk nVar 0 s []) i' op')
def eIndex (T : List Tok) : Nat → Nat → Nat → OR Ex
  | 0, _, _ => none
  | f + 1, i, op => obind (some (sBegin T [91] i op)) fun _ i' op' => obind (eLev T f 0 i' op') fun e i' op' => obind (some (sEnd T [93] i' op')) fun _ i' op' => some (.ok e i' op')
def eArgs (T : List Tok) : Nat → Nat → Nat → OR (List Ex)
  | 0, _, _ => none
  | f + 1, i, op => obind (some (sBegin T [40] i op)) fun _ i' op' => obind (eArgsLoop T f [] i' op') fun l i' op' => obind (some (sEnd T [41] i' op')) fun _ i' op' => some (.ok l i' op')
def eArgsLoop (T : List Tok) : Nat → List Ex → Nat → Nat → OR (List Ex)
  | 0, _, _, _ => none
  | f + 1, acc, i, op =>
    if isTok T i [[41]] then some (.ok acc i op)
    else obind (some (if acc = [] then .ok () i op else sNeed T [44] i op)) fun _ i' op' => obind (eLev T f 0 i' op') fun e i' op' => eArgsLoop T f (acc ++ [e]) i' op'
end
def kwIf : List UInt8 := [105, 102]
def kwElse : List UInt8 := [101, 108, 115, 101]
def kwWhile : List UInt8 := [119, 104, 105, 108, 101]
def kwReturn : List UInt8 := [114, 101, 116, 117, 114, 110]
def kwHalt : List UInt8 := [104, 97, 108, 116]
def kwVar : List UInt8 := [118, 97, 114]
def kwArray : List UInt8 := [97, 114, 114, 97, 121]
def kwFunc : List UInt8 := [102, 117, 110, 99]
end Go.Stele
namespace Go.Stele
mutual
def sBlock (T : List Tok) : Nat → Nat → Nat → OR (List Sm)
  | 0, _, _ => none
  | f + 1, i, op => obind (some (sBegin T [123] i op)) fun _ i' op' => obind (sStmts T f [] i' op') fun l i' op' => obind (some (sEnd T [125] i' op')) fun _ i' op' => some (.ok l i' op')
def sStmts (T : List Tok) : Nat → List Sm → Nat → Nat → OR (List Sm)
  | 0, _, _, _ => none
  | f + 1, acc, i, op => if isTok T i [[125]] then some (.ok acc i op) else obind (sStmt T f i op) fun s i' op' => sStmts T f (acc ++ [s]) i' op'
def sStmt (T : List Tok) : Nat → Nat → Nat → OR Sm
  | 0, _, _ => none
  | f + 1, i, op =>
    if isTok T i [kwIf] then obind (eLev T f 0 (i + 1) op) fun e i' op' => obind (sBlock T f i' op') fun th i' op' =>
      if isTok T i' [kwElse] then obind (sBlock T f (i' + 1) op') fun el i' op' => some (.ok (.mk 3 [] [] [e] th el) i' op') else some (.ok (.mk 3 [] [] [e] th []) i' op')
    else if isTok T i [kwWhile] then obind (eLev T f 0 (i + 1) op) fun e i' op' => obind (sBlock T f i' op') fun th i' op' => some (.ok (.mk 4 [] [] [e] th []) i' op')
    else obind (sSimple T f i op) fun s i' op' => obind (some (sNeed T [59] i' op')) fun _ i' op' => some (.ok s i' op')
def sSimple (T : List Tok) : Nat → Nat → Nat → OR Sm
  | 0, _, _ => none
  | f + 1, i, op =>
    if isTok T i [kwReturn] then obind (eLev T f 0 (i + 1) op) fun e i' op' => some (.ok (.mk 5 [] [] [e] [] []) i' op')
    else if isTok T i [kwHalt] then some (.ok (.mk 7 [] [] [] [] []) (i + 1) op)
    else obind (some (sWord T 2 i op)) fun s i' op' =>
      if isTok T i' [[40]] then obind (eArgs T f i' op') fun l i' op' => some (.ok (.mk 6 [] [] [.mk nCall 0 s l] [] []) i' op')
      else if isTok T i' [[91]] then obind (eIndex T f i' op') fun x i' op' => obind (some (sNeed T [61] i' op')) fun _ i' op' => obind (eLev T f 0 i' op') fun e i' op' => some (.ok (.mk 2 s [x] [e] [] []) i' op')
      else obind (some (sNeed T [61] i' op')) fun _ i' op' => obind (eLev T f 0 i' op') fun e i' op' => some (.ok (.mk 1 s [] [e] [] []) i' op')
end
def sVars (T : List Tok) : Nat → List (List UInt8) → Nat → Nat → OR (List (List UInt8))
  | 0, _, _, _ => none
  | f + 1, acc, i, op => if isTok T i [kwVar] then obind (sNames T f (i + 1) op) fun l i' op' => obind (some (sNeed T [59] i' op')) fun _ i' op' => sVars T f (acc ++ l) i' op' else some (.ok acc i op)
def sFunc (T : List Tok) (f : Nat) (i op : Nat) : OR FnD :=
  obind (some (sWord T 2 i op)) fun nm i' op' => obind (some (sBegin T [40] i' op')) fun _ i' op' =>
  obind (if isTok T i' [[41]] then some (.ok [] i' op') else sNames T f i' op') fun ps i' op' => obind (some (sEnd T [41] i' op')) fun _ i' op' =>
  obind (some (sBegin T [123] i' op')) fun _ i' op' => obind (sVars T f [] i' op') fun ls i' op' => obind (sStmts T f [] i' op') fun b i' op' =>
  obind (some (sEnd T [125] i' op')) fun _ i' op' => some (.ok ⟨nm, ps, ls, b⟩ i' op')
def sArray (T : List Tok) (i op : Nat) : OR Ar :=
  obind (some (sWord T 2 i op)) fun nm i' op' => obind (some (sBegin T [91] i' op')) fun _ i' op' => obind (some (sNumber T i' op')) fun n i' op' =>
  obind (some (sEnd T [93] i' op')) fun _ i' op' => obind (some (sNeed T [59] i' op')) fun _ i' op' => some (.ok ⟨nm, n⟩ i' op')
def sProg (T : List Tok) : Nat → Pr → Nat → Nat → OR Pr
  | 0, _, _, _ => none
  | f + 1, p, i, op =>
    if T.length ≤ i then some (.ok p i op)
    else if isTok T i [kwVar] then obind (sVars T f [] i op) fun l i' op' => sProg T f { p with vars := p.vars ++ l } i' op'
    else if isTok T i [kwArray] then obind (sArray T (i + 1) op) fun a i' op' => sProg T f { p with arrays := p.arrays ++ [a] } i' op'
    else if isTok T i [kwFunc] then obind (sFunc T f (i + 1) op) fun a i' op' => sProg T f { p with funcs := p.funcs ++ [a] } i' op'
    else some (synErr T i)
end Go.Stele
