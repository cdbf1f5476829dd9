/- A small logic over the walk's 'Code.wp': the rules in the forms in which they are typed. -/
import Derived.Test.YtfodkbchknknjaaDoorGlDraw
namespace Go.GL
open Go.RowKit

section pure
variable {C : Ctx} {e : Env} {H : Heap} {dst : Option Nat} {ty : TypeId} {pos : String} {aft : Array Edge} {g : Option (Nat × Bool)} {x y c a b : Operand} {xT : TypeId} {k : IntKind} {lv : LV}
theorem Pure.mv (hx : e.ev x = lv) : Pure C ⟨dst, .move x, ty, pos, aft, g⟩ e H lv := hx ▸ Pure.move
theorem Pure.as (hx : e.ev x = lv) : Pure C ⟨dst, .assign x, ty, pos, aft, g⟩ e H lv := hx ▸ Pure.assign
theorem Pure.pickT (hc : e.ev c = bool true) (ha : e.ev a = lv) : Pure C ⟨dst, .pick c a b, ty, pos, aft, g⟩ e H lv := by
  have := Pure.pick (C := C) (H := H) (dst := dst) (ty := ty) (pos := pos) (aft := aft) (g := g) (a := a) (b := b) hc
  simp only [if_true] at this
  exact ha ▸ this
theorem Pure.pickF (hc : e.ev c = bool false) (hb : e.ev b = lv) : Pure C ⟨dst, .pick c a b, ty, pos, aft, g⟩ e H lv := by
  have := Pure.pick (C := C) (H := H) (dst := dst) (ty := ty) (pos := pos) (aft := aft) (g := g) (a := a) (b := b) hc
  simp only [Bool.false_eq_true, if_false] at this
  exact hb ▸ this
theorem Pure.ldRefAgg {t n : Nat} [TAgg C.P t n] {cs cs' : List LV} (hx : e.ev x = .ref cs) (hn : Nat.ble n cs.length = true) (hc : cs.take n = cs') : Pure C ⟨dst, .load t x, ty, pos, aft, g⟩ e H (.agg cs') := by
  subst hc; exact Pure.loadRefAgg hx (by simpa using hn)
theorem Pure.ldHAgg {t n : Nat} [TAgg C.P t n] {b off ty' : Nat} {cs cs' : List LV} (hx : e.ev x = ptr b off) (hm : (b, LObj.cells ty' cs) ∈ H) (hn : Nat.ble (off + n) cs.length = true) (hc : (cs.drop off).take n = cs') :
    Pure C ⟨dst, .load t x, ty, pos, aft, g⟩ e H (.agg cs') := by
  subst hc; exact Pure.loadHAgg hx hm (by simpa using hn)
/-- An index of a list that is known whole. -/
theorem Pure.ixRef {t el s : Nat} [ht : TSlice C.P t el s] {es : List LV} {n : Int} {el' : LV} {cs : List LV} (hx : elems (e.ev x) = some es) (hy : e.ev y = int k n) (h0 : 0 ≤ n) (hn : es[n.toNat]? = some el') (hc : el'.cells = cs) (hs : cs.length = s) :
    Pure C ⟨dst, .indexAddr t x y, ty, pos, aft, g⟩ e H (.ref cs) := by
  subst hc; exact Pure.indexAddr hx hy h0 hn hs
theorem Pure.field1 {s f n : Nat} [TField C.P s f n] {cs cs' : List LV} (hx : e.ev x = .ref cs) (hc : cs.drop n = cs') : Pure C ⟨dst, .fieldAddr s x f, ty, pos, aft, g⟩ e H (.ref cs') := by
  subst hc; exact Pure.fieldRef hx
theorem Pure.bld {t : TypeId} {pl : List (Nat × Nat)} {zs : List Value} [hs : TStruct C.P t pl] [hz : TZero C.P t zs] (parts : List (Nat × Operand)) {cs : List LV}
    (h : fillL pl (zs.map .atom) (parts.map fun p => (p.1, e.ev p.2)) = some cs) : Pure C ⟨dst, .build t parts.toArray, ty, pos, aft, g⟩ e H (.agg cs) := Pure.build h
end pure

section steps
variable {C : Ctx} {e : Env} {H H' : Heap} {dst : Option Nat} {op : Op} {ty : TypeId} {pos : String} {aft : Array Edge} {g : Option (Nat × Bool)} {x y : Operand} {K K' : LV → Heap → Prop} {X : List PanicEntry → Heap → Prop}
theorem LStep.conseq {o : Oper} (h : LStep C o e H K X) (hk : ∀ lv H', K lv H' → ∃ lv' H'', lv.Sub lv' ∧ HSub H'' H' ∧ K' lv' H'') : LStep C o e H K' X := fun ρ w L h1 h2 => by
  have := h ρ w L h1 h2
  have lf : ∀ {w' v}, Left C w L H w' v K → Left C w L H w' v K' := fun h => by
    obtain ⟨lv, H', L', r1, r2, r3, r4⟩ := h
    obtain ⟨lv', H'', s1, s2, s3⟩ := hk _ _ r4
    exact ⟨lv', H'', L', r1.weak s2, r2.weak s2, s1 _ _ _ r3, s3⟩
  unfold StepOut at this ⊢
  split at this
  · exact lf this
  · exact lf this
  · refine ⟨this.1, this.2.mono fun e w' he => ?_⟩
    cases e with
    | returned v => exact lf he
    | panicked ch => exact he
    | outgrown => exact he
  · exact this
  · exact this.elim
/-- One entry, at its place in the heap. -/
theorem LStep.at1 {o : Oper} {p : Nat × LObj} {F : Heap} (hp : Pick p H F) (h : LStep C o e [p] (fun lv H' => K lv (H' ++ F)) (fun ch H' => X ch (H' ++ F))) : LStep C o e H K X := LStep.frame (H := [p]) hp h
theorem LStep.at0 {o : Oper} (h : LStep C o e [] (fun lv H' => K lv (H' ++ H)) (fun ch H' => X ch (H' ++ H))) : LStep C o e H K X := LStep.frame (H := []) (List.Perm.refl _) h

theorem S.alloc {t : TypeId} {zs : List Value} [hz : TZero C.P t zs] (hk : ∀ b, K (ptr b 0) ((b, .cells t (zs.map .atom)) :: H)) : LStep C ⟨dst, .alloc t, ty, pos, aft, g⟩ e H K X := LStep.at0 (LStep.alloc hk)
theorem S.box {t : TypeId} {cs : List LV} (hx : (e.ev x).cells? = some cs) (hk : ∀ b, K (ptr b 0) ((b, .cells t cs) :: H)) : LStep C ⟨dst, .box t x, ty, pos, aft, g⟩ e H K X := LStep.at0 (LStep.box hx hk)
/-- A literal slice that nobody appends to. -/
theorem S.lit {t el s : Nat} {zs : List Value} [ht : TSlice C.P t el s] [hz : TZero C.P el zs] (xs : List Operand) {es : List LV} (hes : xs.map e.ev = es) (hok : elemsOk s es) {len : Nat} {parts : List (Nat × Operand)} (hp : parts = (List.range xs.length).zip xs) (hlen : len = xs.length)
    (hsz : Nat.ble (len * s) 16777216 = true) (hk : K (.list es) H) : LStep C ⟨dst, .buildSlice t len parts.toArray, ty, pos, aft, g⟩ e H K X := by
  subst hes
  refine LStep.at0 (LStep.conseq (K := fun lv H' => ∃ b, lv = .app b len s (xs.map e.ev)) (LStep.buildSlice hok (by subst hlen; simpa using hsz) hp hlen fun b => ⟨b, rfl⟩) ?_)
  rintro lv H' ⟨b, rfl⟩
  exact ⟨_, [], LV.Sub.app _ _ _ _, HSub.nil _, hk⟩
/-- A literal slice that may be appended to. -/
theorem S.litA {t el s : Nat} {zs : List Value} [ht : TSlice C.P t el s] [hz : TZero C.P el zs] (xs : List Operand) {es : List LV} (hes : xs.map e.ev = es) (hok : elemsOk s es) {len : Nat} {parts : List (Nat × Operand)} (hp : parts = (List.range xs.length).zip xs) (hlen : len = xs.length)
    (hsz : Nat.ble (len * s) 16777216 = true) (hk : ∀ b, K (.app b len s es) ((b, .row (len * s)) :: H)) : LStep C ⟨dst, .buildSlice t len parts.toArray, ty, pos, aft, g⟩ e H K X := by
  subst hes
  exact LStep.at0 (LStep.buildSlice hok (by subst hlen; simpa using hsz) hp hlen fun b => hk b)
theorem S.store {t n : Nat} [ht : TSize C.P t n] {b off ty' : Nat} {cs vs cs' : List LV} {F : Heap} (hx : e.ev x = ptr b off) (hp : Pick (b, .cells ty' cs) H F) (hy : (e.ev y).cells? = some vs) (hn : vs.length = n) (hl : Nat.ble (off + n) cs.length = true) (hok : vs.all cellOk = true)
    (hc : setL cs off vs = cs') (hk : K (.atom undef) ((b, .cells ty' cs') :: F)) : LStep C ⟨dst, .store t x y, ty, pos, aft, g⟩ e H K X := by
  subst hc
  exact LStep.at1 hp (LStep.store hx hy hn (by simpa using hl) hok hk)
theorem S.appNil {sT xT el s bytes : Nat} [ht : TSlice C.P sT el s] [hr : TRow C.P el s bytes] {e2 s2 : Nat} [hx2 : TSlice C.P xT e2 s2] {ms : List LV}
    (hx : e.ev x = nilSlice) (hy : elems (e.ev y) = some ms) (hne : ms ≠ []) (hs : ∀ v ∈ ms, v.cells.length = s) (hroom : ms.length * bytes ≤ 140737488355328)
    (hk : ∀ b cap, K (.app b cap s ms) ((b, .row (ms.length * s)) :: H)) : LStep C ⟨dst, .call { callee := .builtin .append, args := #[x, y], argTypes := #[sT, xT] }, ty, pos, aft, g⟩ e H K X :=
  LStep.at0 (LStep.appendNil rfl ⟨e2, hx2.und⟩ hx hy hne hs hroom fun b cap => hk b cap)
theorem S.app {sT xT el s bytes : Nat} [ht : TSlice C.P sT el s] [hr : TRow C.P el s bytes] {e2 s2 : Nat} [hx2 : TSlice C.P xT e2 s2] {b cap n : Nat} {es ms : List LV} {F : Heap}
    (hx : e.ev x = .app b cap s es) (hp : Pick (b, .row n) H F) (hn : n = es.length * s) (hy : elems (e.ev y) = some ms) (hs : ∀ v ∈ ms, v.cells.length = s) (hok : (ms.flatMap LV.cells).all cellOk = true) (hroom : (es.length + ms.length) * bytes ≤ 140737488355328)
    (hk : ∀ b' cap', K (.app b' cap' s (es ++ ms)) ((b', .row ((es ++ ms).length * s)) :: F)) : LStep C ⟨dst, .call { callee := .builtin .append, args := #[x, y], argTypes := #[sT, xT] }, ty, pos, aft, g⟩ e H K X :=
  LStep.at1 hp (LStep.appendApp rfl ⟨e2, hx2.und⟩ hx hn hy hs hok hroom fun b' cap' => hk b' cap')
theorem S.appNilNil {sT xT el s : Nat} [ht : TSlice C.P sT el s] {e2 s2 : Nat} [hx2 : TSlice C.P xT e2 s2] (hx : e.ev x = nilSlice) (hy : elems (e.ev y) = some []) (hk : K nilSlice H) :
    LStep C ⟨dst, .call { callee := .builtin .append, args := #[x, y], argTypes := #[sT, xT] }, ty, pos, aft, g⟩ e H K X := LStep.appendNilNil rfl ⟨e2, hx2.und⟩ hx hy hk

/-- A list under construction: nil as long as it is empty, then one that may be appended to. -/
inductive Acc (s : Nat) : LV → List LV → Heap → Heap → Prop
  | nil {F : Heap} : Acc s nilSlice [] F F
  | row {b cap : Nat} {es : List LV} {F : Heap} : Acc s (.app b cap s es) es ((b, .row (es.length * s)) :: F) F
theorem Acc.sub {s : Nat} {lv : LV} {es : List LV} {H F : Heap} (h : Acc s lv es H F) : lv.Sub (.list es) := by
  cases h with
  | nil => exact LV.Sub.nil
  | row => exact LV.Sub.app _ _ _ _
theorem Acc.hsub {s : Nat} {lv : LV} {es : List LV} {H F : Heap} (h : Acc s lv es H F) : HSub F H := by
  cases h with
  | nil => exact HSub.refl _
  | row => exact HSub.drop (HSub.refl _)
theorem Acc.elems {s : Nat} {lv : LV} {es : List LV} {H F : Heap} (h : Acc s lv es H F) : GL.elems lv = some es := by
  cases h <;> rfl
/-- append onto such a list. The heap: its own entry ahead of F, F's part G anywhere. -/
theorem S.acc {sT xT el s bytes : Nat} [ht : TSlice C.P sT el s] [hr : TRow C.P el s bytes] {e2 s2 : Nat} [hx2 : TSlice C.P xT e2 s2] {v : LV} {es ms : List LV} {F : Heap}
    (hx : e.ev x = v) (ha : Acc s v es H F) (hy : GL.elems (e.ev y) = some ms) (hs : ∀ v ∈ ms, v.cells.length = s) (hok : (ms.flatMap LV.cells).all cellOk = true) (hroom : (es.length + ms.length) * bytes ≤ 140737488355328)
    (hk : ∀ v' H', Acc s v' (es ++ ms) H' F → K v' H') : LStep C ⟨dst, .call { callee := .builtin .append, args := #[x, y], argTypes := #[sT, xT] }, ty, pos, aft, g⟩ e H K X := by
  cases ha with
  | nil =>
    by_cases hne : ms = []
    · subst hne
      exact S.appNilNil hx hy (hk _ _ (by simpa using Acc.nil))
    · refine S.appNil hx hy hne hs (by simpa using hroom) fun b cap => hk _ _ ?_
      exact Acc.row
  | row => exact S.app hx Pick.here rfl hy hs hok hroom fun b' cap' => hk _ _ Acc.row

theorem S.call0 {f : FuncId} [TEnter C.P f] (args : List Operand) {ats : Array TypeId} {as : List LV} {R : LRes → Heap → Prop} (has : args.map e.ev = as)
    (hc : LCalls C f as [] R) (hk : ∀ v H', R (.ret v) H' → K v (H' ++ H)) (hx : ∀ ch H', R (.panic ch) H' → X ch (H' ++ H)) :
    LStep C ⟨dst, .call { callee := .value (.func f), args := args.toArray, argTypes := ats }, ty, pos, aft, g⟩ e H K X := by
  subst has
  exact LStep.at0 (LStep.call hc hk hx)
theorem S.call1 {f : FuncId} [TEnter C.P f] (args : List Operand) {ats : Array TypeId} {as : List LV} {R : LRes → Heap → Prop} {p : Nat × LObj} {F : Heap} (has : args.map e.ev = as) (hp : Pick p H F)
    (hc : LCalls C f as [p] R) (hk : ∀ v H', R (.ret v) H' → K v (H' ++ F)) (hx : ∀ ch H', R (.panic ch) H' → X ch (H' ++ F)) :
    LStep C ⟨dst, .call { callee := .value (.func f), args := args.toArray, argTypes := ats }, ty, pos, aft, g⟩ e H K X := by
  subst has
  exact LStep.at1 hp (LStep.call hc hk hx)
theorem S.callH {f : FuncId} [TEnter C.P f] (args : List Operand) {ats : Array TypeId} {as : List LV} {R : LRes → Heap → Prop} {H1 F : Heap} (has : args.map e.ev = as) (hp : H.Perm (H1 ++ F))
    (hc : LCalls C f as H1 R) (hk : ∀ v H', R (.ret v) H' → K v (H' ++ F)) (hx : ∀ ch H', R (.panic ch) H' → X ch (H' ++ F)) :
    LStep C ⟨dst, .call { callee := .value (.func f), args := args.toArray, argTypes := ats }, ty, pos, aft, g⟩ e H K X := by
  subst has
  exact LStep.frame hp (LStep.call hc hk hx)
/-- A call through a function value. -/
theorem S.callV {fo : Operand} {f : FuncId} [TEnter C.P f] {first caps : Array Value} (args : List Operand) {ats : Array TypeId} {as : List LV} {R : LRes → Heap → Prop} {H1 F : Heap} (hf : e.ev fo = .atom (.func (.func f) first caps))
    (has : first.toList.map .atom ++ args.map e.ev ++ caps.toList.map .atom = as) (hp : H.Perm (H1 ++ F)) (hc : LCalls C f as H1 R) (hk : ∀ v H', R (.ret v) H' → K v (H' ++ F)) (hx : ∀ ch H', R (.panic ch) H' → X ch (H' ++ F)) :
    LStep C ⟨dst, .call { callee := .value fo, args := args.toArray, argTypes := ats }, ty, pos, aft, g⟩ e H K X := by
  subst has
  exact LStep.frame hp (LStep.callV hf hc hk hx)
end steps

section ret
variable {C : Ctx} {n : Nat} {e : Env} {H H' : Heap} {R : LRes → Heap → Prop}
theorem AllRes.nil : AllRes C n e H [] [] := trivial
theorem AllRes.cons {r : ResultVar} {rs : List ResultVar} {v : LV} {vs : List LV} (h : ResIs C n e H r v) (k : AllRes C n e H rs vs) : AllRes C n e H (r :: rs) (v :: vs) := ⟨h, k⟩
theorem RetPost.ret {rs : List ResultVar} {vs : List LV} (hd : e.ds = []) (h : AllRes C n e H rs vs) (hH : HSub H' H) (hR : R (.ret (resLV vs)) H') : RetPost C n rs R .ret e H := ⟨hd, vs, H', h, hH, hR⟩
theorem RetPost.normal {rs : List ResultVar} {vs : List LV} (hd : e.ds = []) (h : AllRes C n e H rs vs) (hH : HSub H' H) (hR : R (.ret (resLV vs)) H') : RetPost C n rs R .normal e H := ⟨hd, vs, H', h, hH, hR⟩
theorem RetPost.panic {rs : List ResultVar} {ch : List PanicEntry} (hd : e.ds = []) (hH : HSub H' H) (hR : R (.panic ch) H') : RetPost C n rs R (.panic ch) e H := ⟨hd, H', hH, hR⟩
theorem ResIs.cellAgg {a t k : Nat} [TAgg C.P t k] {b off ty' : Nat} {cs : List LV} {lv : LV} (hx : e.s a = ptr b off) (hm : (b, LObj.cells ty' cs) ∈ H) (hn : Nat.ble (off + k) cs.length = true) (hs : (LV.agg ((cs.drop off).take k)).Sub lv) : ResIs C n e H (.cell a t) lv := fun ac w L hE hH => by
  obtain ⟨xs, h1, h2⟩ := hH.cells hm
  have hl := h2.length
  have hn' : off + k ≤ cs.length := by simpa using hn
  have hv := hE.vals a
  rw [hx] at hv
  simp only [Rep] at hv
  refine ⟨.agg ((xs.drop off).take k).toArray, ?_, hs _ _ _ (by simp only [Rep]; exact ⟨_, rfl, (h2.drop off).take k⟩)⟩
  have hlen : ((xs.drop off).take k).length = k := by simp; omega
  simp only [readRes, hv, asAddr, Sem.run_bind, Sem.run_pure, Result.andThen_ok]
  exact loadVar_agg (t := t) (w := w) (b := b) (off := off) hlen (fun j y hy => by
    rw [List.getElem?_take] at hy
    split at hy
    · simpa [World.cell?, h1, List.getElem?_drop] using hy
    · cases hy)
theorem ResIs.cellOne {a t : Nat} [TOne C.P t] {b off ty' : Nat} {c lv : LV} {cs : List LV} (hx : e.s a = ptr b off) (hm : (b, LObj.cells ty' cs) ∈ H) (hc : cs[off]? = some c) (hs : c.Sub lv) : ResIs C n e H (.cell a t) lv := fun ac w L hE hH => by
  obtain ⟨xs, h1, h2⟩ := hH.cells hm
  obtain ⟨v, h3, h4⟩ := h2.get hc
  have hv := hE.vals a
  rw [hx] at hv
  simp only [Rep] at hv
  refine ⟨v, ?_, hs _ _ _ h4⟩
  have hc' : w.cell? ⟨b, off, none⟩ = some v := by simp [World.cell?, h1, h3]
  simp only [readRes, hv, asAddr, Sem.run_bind, Sem.run_pure, Result.andThen_ok]
  exact loadVar_one hc'
end ret
end Go.GL
