/- The parser's Parse, walked: for every source. -/
import Derived.Test.YtfodkbchknknjaaDoorParS4
import Derived.Test.YtfodkbchknknjaaDoorParTok
import Derived.Test.YtfodkbchknknjaaDoorGlDefer
set_option linter.unusedVariables false
set_option linter.unusedSimpArgs false
namespace Go.Proofs.YtfodkbchknknjaaDoor
open Go.GL Go.RowKit Go.Stele
set_option maxRecDepth 100000
set_option maxHeartbeats 4000000
theorem tok_lex {s : List UInt8} {T : List Tok} (h : lexAllP s = .ok T) : TOK T := by
  unfold lexAllP at h
  split at h
  · cases h
  · obtain ⟨h1, h2⟩ := lexP_ok _ _ _ _ h
    exact ⟨by omega, fun t ht => by have := (h2 t ht).1; omega, fun t ht hk => by
      obtain ⟨u, h3, h4, _⟩ := (h2 t ht).2 hk
      exact ⟨u, h3, h4⟩⟩
instance : TIface Tryd.prog 20 := .of (by kernel_rfl)
def noPr : Pr := ⟨[], [], []⟩
/-- What Parse returns. -/
def parseP (s : List UInt8) : Pr × Int × Int := match lexAllP s with
  | .error (l, e) => (noPr, l, e)
  | .ok T => match sProg T (10 * T.length + 20) noPr 0 0 with
    | some (.ok p _ _) => (p, 0, 0)
    | some (.err l e) => (noPr, l, e)
    | none => (noPr, 0, 0)
def encParse (r : Pr × Int × Int) : LV := .tuple [encPr r.1, int .i64 r.2.1, int .i64 r.2.2]
theorem RetPostD.ret1 {C : Ctx} {n : Nat} {e : Env} {H H' H1 H2 F : Heap} {R : LRes → Heap → Prop} {rs : List ResultVar} {vs : List LV} {f : FuncId} {caps : Array Value} [hen : TEnter C.P f] (hd : e.ds = [{ target := .fn (.func f) caps, args := #[] }]) (hp : H.Perm (H1 ++ F))
    (hc : LCallsD C f (caps.toList.map .atom) .returning H1 (fun u H' => u = .returning ∧ H' = H2)) (h : AllRes C n e (H2 ++ F) rs vs) (hH : HSub H' (H2 ++ F)) (hR : R (.ret (resLV vs)) H') : RetPostD C n rs R .ret e H := by
  unfold RetPostD
  simp only [hd]
  refine ⟨by simp, f, caps, H1, F, rfl, hen, hp, LCallsD.mono hc ?_⟩
  rintro u H'' ⟨rfl, rfl⟩
  exact ⟨vs, H', h, hH, hR⟩
theorem RetPostD.panic1 {C : Ctx} {n : Nat} {e : Env} {H H' H1 H2 F : Heap} {R : LRes → Heap → Prop} {rs : List ResultVar} {vs : List LV} {f : FuncId} {caps : Array Value} {ch : List PanicEntry} [hen : TEnter C.P f] (hd : e.ds = [{ target := .fn (.func f) caps, args := #[] }]) (hp : H.Perm (H1 ++ F))
    (hc : LCallsD C f (caps.toList.map .atom) (.panicking ch) H1 (fun u H' => settle u = .returning ∧ H' = H2)) (h : AllRes C n e (H2 ++ F) rs vs) (hH : HSub H' (H2 ++ F)) (hR : R (.ret (resLV vs)) H') : RetPostD C n rs R (.panic ch) e H := by
  unfold RetPostD
  simp only [hd]
  refine ⟨by simp, f, caps, H1, F, rfl, hen, hp, LCallsD.mono hc ?_⟩
  rintro u H'' ⟨hu, rfl⟩
  rw [hu]
  exact ⟨vs, H', h, hH, hR⟩
def resP : Res Pr → Pr × Int × Int
  | .ok p _ _ => (p, 0, 0)
  | .err l e => (noPr, l, e)
theorem lexP_err : ∀ (f : Nat) (s : List UInt8) (line l e : Int), lexP f s line = .error (l, e) → ¬ e = 0
  | 0, s, line, l, e, h => by
    rw [lexP] at h
    cases h
  | f + 1, s, line, l, e, h => by
    rw [lexP] at h
    split at h
    · cases h
    · split at h
      · split at h
        · rename_i he
          cases h
          exact he
        · cases hx : lexP f (s.drop (lexToken s).2.1) (line + ((s.take (lexToken s).2.1).count 10 : Nat)) with
          | ok T => rw [hx] at h; cases h
          | error p =>
            rw [hx] at h
            cases h
            exact lexP_err f _ _ _ _ hx
      · exact lexP_err f _ _ _ _ h
theorem lexAllP_err {s : List UInt8} {l e : Int} (h : lexAllP s = .error (l, e)) : ¬ e = 0 := by
  unfold lexAllP at h
  split at h
  · cases h
    decide
  · exact lexP_err _ _ _ _ _ h
attribute [local irreducible] LOps LCode LStep LCalls Go.GL.Pure QThen QBlock RetPost LQ LAny LLate LLateOp LOpsP LCodeP LCodeS LCallsD
section
variable {B0 : Nat} {w0 : World}
theorem rec_ret (b2 b3 b4 : Nat) (cs : List LV) (c d : LV) : LCallsD (KC B0 w0) 12 [ptr b2 0, ptr b3 0, ptr b4 0] .returning [(b2, .cells 29 cs), (b3, .cells 3 [c]), (b4, .cells 30 [d])]
    (fun u H => u = .returning ∧ H = [(b2, .cells 29 cs), (b3, .cells 3 [c]), (b4, .cells 30 [d])]) := by
  refine LCallsD.intro Tryd.func12 rfl (n := 22) rfl rfl rfl ?_
  refine LCodeS.seq (LCodeS.recover rfl rfl ?_)
  refine LCodeS.of ?_
  repeat first
    | refine LOps.nil ?_
    | refine LCode.seq ?_
    | refine LCode.region ?_
    | refine QThen.normal ?_
    | refine LOps.pure (Pure.mv (lv := .atom _) rfl) rfl ?_
    | refine LOps.pure (Pure.nilNeqNil rfl) rfl ?_
  refine LCode.cond rfl (fun hc => ?_) (fun hc => ?_)
  · cases hc
  · repeat first
      | refine LCode.skip ?_
    exact ⟨rfl, _, HSub.refl _, rfl, rfl⟩
theorem rec_pan (b2 b3 b4 : Nat) (c1 c2 c3 c d : LV) (l er : Int) : LCallsD (KC B0 w0) 12 [ptr b2 0, ptr b3 0, ptr b4 0] (.panicking (pan l er)) [(b2, .cells 29 [c1, c2, c3]), (b3, .cells 3 [c]), (b4, .cells 30 [d])]
    (fun u H => settle u = .returning ∧ H = [(b2, .cells 29 [nilSlice, nilSlice, nilSlice]), (b3, .cells 3 [int .i64 l]), (b4, .cells 30 [int .i64 er])]) := by
  refine LCallsD.intro Tryd.func12 rfl (n := 22) rfl rfl rfl ?_
  refine LCodeS.seq (LCodeS.recover rfl rfl ?_)
  refine LCodeS.of ?_
  repeat first
    | refine LOps.nil ?_
    | refine LCode.seq ?_
    | refine LCode.region ?_
    | refine QThen.normal ?_
    | refine LOps.pure (Pure.mv (lv := .atom _) rfl) rfl ?_
    | refine LOps.pure (Pure.ifaceNeqNil rfl) rfl ?_
  refine LCode.cond rfl (fun hc => ?_) (fun hc => ?_)
  · repeat first
      | refine LCode.seq ?_
      | refine LCode.region ?_
      | refine LOps.pure (Pure.mv (lv := .atom _) rfl) rfl ?_
    refine LOps.pure (Pure.assertOk (vs := [.int .i64 l, .int .i64 er]) rfl) rfl ?_
    repeat first
      | refine LOps.pure (Pure.mv (lv := .tuple _) rfl) rfl ?_
      | refine LOps.pure (Pure.extract (c := .agg _) rfl rfl) rfl ?_
      | refine LOps.pure (Pure.extract (c := .atom _) rfl rfl) rfl ?_
    refine LOps.step (S.alloc fun b5 => ?_) rfl
    repeat first
      | refine LOps.nil ?_
      | refine LCode.seq ?_
      | refine LCode.region ?_
      | refine QThen.normal ?_
      | refine LOps.pure (Pure.as (lv := .atom _) rfl) rfl ?_
      | refine LOps.pure (Pure.mv (lv := .atom _) rfl) rfl ?_
      | refine LOps.pure (Pure.not rfl) rfl ?_
      | refine LOps.step (S.store (cs' := [_, _]) rfl Pick.here rfl rfl rfl rfl rfl ?_) rfl
    refine LCode.cond rfl (fun hd => ?_) (fun hd => ?_)
    · cases hd
    · repeat first
        | refine LCode.skip ?_
        | refine QThen.normal ?_
      refine LCode.draw (m := 8) rfl [(b5, .cells 47 [int .i64 l, int .i64 er])] ?_
      refine LAny.take (i := 0) (by first | exact HSub.nil _ | exact HSub.refl _ | exact HSub.drop (HSub.refl _) | exact HSub.pick Pick.here (HSub.nil _) | exact HSub.pick (Pick.there Pick.here) (HSub.nil _) | exact HSub.pick (Pick.there (Pick.there Pick.here)) (HSub.nil _)) rfl (by kernel_rfl) (by kernel_rfl) (by kernel_rfl) rfl (Pure.bld _ (cs := [_, _, _]) rfl) ?_
      refine LAny.take (i := 1) (by first | exact HSub.nil _ | exact HSub.refl _ | exact HSub.drop (HSub.refl _) | exact HSub.pick Pick.here (HSub.nil _) | exact HSub.pick (Pick.there Pick.here) (HSub.nil _) | exact HSub.pick (Pick.there (Pick.there Pick.here)) (HSub.nil _)) rfl (by kernel_rfl) (by kernel_rfl) (by kernel_rfl) rfl (Pure.fieldH rfl) ?_
      refine LAny.take (i := 2) (by first | exact HSub.nil _ | exact HSub.refl _ | exact HSub.drop (HSub.refl _) | exact HSub.pick Pick.here (HSub.nil _) | exact HSub.pick (Pick.there Pick.here) (HSub.nil _) | exact HSub.pick (Pick.there (Pick.there Pick.here)) (HSub.nil _)) rfl (by kernel_rfl) (by kernel_rfl) (by kernel_rfl) rfl (Pure.loadH (c := .atom _) rfl (List.Mem.head _) rfl) ?_
      refine LAny.take (i := 3) (by first | exact HSub.nil _ | exact HSub.refl _ | exact HSub.drop (HSub.refl _) | exact HSub.pick Pick.here (HSub.nil _) | exact HSub.pick (Pick.there Pick.here) (HSub.nil _) | exact HSub.pick (Pick.there (Pick.there Pick.here)) (HSub.nil _)) rfl (by kernel_rfl) (by kernel_rfl) (by kernel_rfl) rfl (Pure.fieldH rfl) ?_
      refine LAny.take (i := 4) (by first | exact HSub.nil _ | exact HSub.refl _ | exact HSub.drop (HSub.refl _) | exact HSub.pick Pick.here (HSub.nil _) | exact HSub.pick (Pick.there Pick.here) (HSub.nil _) | exact HSub.pick (Pick.there (Pick.there Pick.here)) (HSub.nil _)) rfl (by kernel_rfl) (by kernel_rfl) (by kernel_rfl) rfl (Pure.loadH (c := .atom _) rfl (List.Mem.head _) rfl) ?_
      refine LAny.late ?_ (HSub.pick Pick.here (HSub.nil _))
      refine LLate.one (i := 5) (by kernel_rfl) (LLateOp.step (H1 := [(b2, .cells 29 [c1, c2, c3])]) (F := [(b5, .cells 47 [int .i64 l, int .i64 er]), (b3, .cells 3 [c]), (b4, .cells 30 [d])]) rfl (.inl rfl) rfl (Pick.there Pick.here) (HSub.pick Pick.here (HSub.nil _)) (S.store (cs' := [_, _, _]) rfl Pick.here rfl rfl rfl rfl rfl ?_))
      refine LLate.one (i := 6) (by kernel_rfl) (LLateOp.step (H1 := [(b3, .cells 3 [c])]) (F := [(b2, .cells 29 [nilSlice, nilSlice, nilSlice]), (b5, .cells 47 [int .i64 l, int .i64 er]), (b4, .cells 30 [d])]) rfl (.inl rfl) rfl (Pick.there (Pick.there Pick.here)) (HSub.pick (Pick.there Pick.here) (HSub.nil _)) (S.store (cs' := [_]) rfl Pick.here rfl rfl rfl rfl rfl ?_))
      refine LLate.one (i := 7) (by kernel_rfl) (LLateOp.step (H1 := [(b4, .cells 30 [d])]) (F := [(b3, .cells 3 [int .i64 l]), (b2, .cells 29 [nilSlice, nilSlice, nilSlice]), (b5, .cells 47 [int .i64 l, int .i64 er])]) rfl (.inl rfl) rfl (Pick.there (Pick.there (Pick.there Pick.here))) (HSub.pick (Pick.there (Pick.there Pick.here)) (HSub.nil _)) (S.store (cs' := [_]) rfl Pick.here rfl rfl rfl rfl rfl ?_))
      refine LLate.done (by kernel_rfl) ?_
      exact ⟨rfl, _, HSub.pick (Pick.there (Pick.there Pick.here)) (HSub.pick (Pick.there Pick.here) (HSub.pick Pick.here (HSub.nil _))), rfl, rfl⟩
  · cases hc
theorem parse_spec (hG : GW B0 w0) (s : List UInt8) (hs : s.length ≤ 1000000000) : LCalls (KC B0 w0) 5 [str s] [] (Ret (encParse (parseP s))) := by
  refine LCalls.introD Tryd.func5 rfl (n := 24) rfl rfl rfl ?_
  refine LCodeP.seq (LCodeP.of ?_)
  repeat first
    | refine LCode.region ?_
  refine LOps.step (S.alloc fun b2 => ?_) rfl
  refine LOps.step (S.alloc fun b3 => ?_) rfl
  refine LOps.step (S.alloc fun b4 => ?_) rfl
  repeat first
    | refine LOps.nil ?_
    | refine QThen.normal ?_
  refine LCodeP.seq (LCodeP.of ?_)
  repeat first
    | refine LCode.region ?_
    | refine LOps.pure (Pure.mv (lv := .atom _) rfl) rfl ?_
  refine LOps.step (S.fn [_] rfl (Tokens_spec hG s hs) ?_) rfl
  cases hL : lexAllP s with
  | error le =>
    obtain ⟨l, er⟩ := le
    have he0 : ¬ er = 0 := lexAllP_err hL
    simp only [encLex]
    repeat first
      | refine LOps.nil ?_
      | refine QThen.normal ?_
      | refine LOps.pure (Pure.mv (lv := .tuple _) rfl) rfl ?_
      | refine LOps.pure (Pure.extract (c := .list _) rfl rfl) rfl ?_
      | refine LOps.pure (Pure.extract (c := .atom _) rfl rfl) rfl ?_
      | refine LOps.pure (Pure.as (lv := .list _) rfl) rfl ?_
      | refine LOps.step (S.store (cs' := [_]) rfl (Pick.there Pick.here) rfl rfl rfl rfl rfl ?_) rfl
    refine LCodeP.seq (LCodeP.of ?_)
    repeat first
      | refine LOps.nil ?_
      | refine LCode.seq ?_
      | refine LCode.region ?_
      | refine QThen.normal ?_
      | refine LOps.pure (Pure.loadH (c := .atom _) rfl (List.Mem.head _) rfl) rfl ?_
      | refine LOps.pure (Pure.neq rfl rfl) rfl ?_
    refine LCode.cond rfl (fun hc => ?_) (fun hc => ?_)
    · repeat first
        | refine LCode.seq ?_
      refine LCode.draw (m := 6) rfl [] ?_
      refine LAny.take (i := 0) (by first | exact HSub.nil _ | exact HSub.refl _ | exact HSub.drop (HSub.refl _) | exact HSub.pick Pick.here (HSub.nil _) | exact HSub.pick (Pick.there Pick.here) (HSub.nil _) | exact HSub.pick (Pick.there (Pick.there Pick.here)) (HSub.nil _)) rfl (by kernel_rfl) (by kernel_rfl) (by kernel_rfl) rfl (Pure.bld _ (cs := [_, _, _]) rfl) ?_
      refine LAny.late ?_ (HSub.nil _)
      refine LLate.three (i := 1) (j := 2) (k := 3) (by kernel_rfl) ?_ ?_ ?_
      · refine LLateOp.pureH rfl rfl (Pure.loadH (c := .atom _) rfl (List.Mem.tail _ (List.Mem.head _)) rfl) ?_
        refine LLate.two (i := 2) (j := 3) (by kernel_rfl) ?_ ?_
        · refine LLateOp.pureH rfl rfl (Pure.loadH (c := .atom _) rfl (List.Mem.head _) rfl) ?_
          refine LLate.one (i := 3) (by kernel_rfl) ?_
          refine LLateOp.whole rfl (.inl rfl) rfl (S.store (cs' := [_, _, _]) rfl (Pick.there (Pick.there Pick.here)) rfl rfl rfl rfl rfl ?_)
          refine LLate.one (i := 4) (by kernel_rfl) ?_
          refine LLateOp.whole rfl (.inl rfl) rfl (S.store (cs' := [_]) rfl (Pick.there (Pick.there Pick.here)) rfl rfl rfl rfl rfl ?_)
          refine LLate.one (i := 5) (by kernel_rfl) ?_
          refine LLateOp.whole rfl (.inl rfl) rfl (S.store (cs' := [_]) rfl (Pick.there (Pick.there Pick.here)) rfl rfl rfl rfl rfl ?_)
          refine LLate.done (by kernel_rfl) ?_
          repeat first
            | refine LCode.ret ?_
            | refine QThen.normal ?_
            | refine QThen.ret ?_
          have hp : parseP s = (noPr, l, er) := by rw [parseP, hL]
          rw [hp]
          exact ⟨[encPr noPr, int .i64 l, int .i64 er], [], AllRes.cons (ResIs.cellAgg (k := 3) (cs := [nilSlice, nilSlice, nilSlice]) rfl (by first | exact List.Mem.head _ | exact List.Mem.tail _ (List.Mem.head _) | exact List.Mem.tail _ (List.Mem.tail _ (List.Mem.head _)) | exact List.Mem.tail _ (List.Mem.tail _ (List.Mem.tail _ (List.Mem.head _))) | exact List.Mem.tail _ (List.Mem.tail _ (List.Mem.tail _ (List.Mem.tail _ (List.Mem.head _)))) | exact List.Mem.tail _ (List.Mem.tail _ (List.Mem.tail _ (List.Mem.tail _ (List.Mem.tail _ (List.Mem.head _))))) | exact List.Mem.tail _ (List.Mem.tail _ (List.Mem.tail _ (List.Mem.tail _ (List.Mem.tail _ (List.Mem.tail _ (List.Mem.head _))))))) rfl (LV.Sub.agg (bs := [.list [], .list [], .list []]) ⟨LV.Sub.nil, LV.Sub.nil, LV.Sub.nil, trivial⟩)) (AllRes.cons (ResIs.cellOne (cs := [int .i64 l]) rfl (by first | exact List.Mem.head _ | exact List.Mem.tail _ (List.Mem.head _) | exact List.Mem.tail _ (List.Mem.tail _ (List.Mem.head _)) | exact List.Mem.tail _ (List.Mem.tail _ (List.Mem.tail _ (List.Mem.head _))) | exact List.Mem.tail _ (List.Mem.tail _ (List.Mem.tail _ (List.Mem.tail _ (List.Mem.head _)))) | exact List.Mem.tail _ (List.Mem.tail _ (List.Mem.tail _ (List.Mem.tail _ (List.Mem.tail _ (List.Mem.head _))))) | exact List.Mem.tail _ (List.Mem.tail _ (List.Mem.tail _ (List.Mem.tail _ (List.Mem.tail _ (List.Mem.tail _ (List.Mem.head _))))))) rfl (LV.Sub.refl _)) (AllRes.cons (ResIs.cellOne (cs := [int .i64 er]) rfl (by first | exact List.Mem.head _ | exact List.Mem.tail _ (List.Mem.head _) | exact List.Mem.tail _ (List.Mem.tail _ (List.Mem.head _)) | exact List.Mem.tail _ (List.Mem.tail _ (List.Mem.tail _ (List.Mem.head _))) | exact List.Mem.tail _ (List.Mem.tail _ (List.Mem.tail _ (List.Mem.tail _ (List.Mem.head _)))) | exact List.Mem.tail _ (List.Mem.tail _ (List.Mem.tail _ (List.Mem.tail _ (List.Mem.tail _ (List.Mem.head _))))) | exact List.Mem.tail _ (List.Mem.tail _ (List.Mem.tail _ (List.Mem.tail _ (List.Mem.tail _ (List.Mem.tail _ (List.Mem.head _))))))) rfl (LV.Sub.refl _)) AllRes.nil)), HSub.nil _, rfl, rfl⟩
        · refine LLateOp.whole rfl (.inl rfl) rfl (S.store (cs' := [_, _, _]) rfl (Pick.there (Pick.there Pick.here)) rfl rfl rfl rfl rfl ?_)
          refine LLate.two (i := 2) (j := 4) (by kernel_rfl) ?_ ?_
          · refine LLateOp.pureH rfl rfl (Pure.loadH (c := .atom _) rfl (List.Mem.tail _ (List.Mem.head _)) rfl) ?_
            refine LLate.one (i := 4) (by kernel_rfl) ?_
            refine LLateOp.whole rfl (.inl rfl) rfl (S.store (cs' := [_]) rfl (Pick.there (Pick.there Pick.here)) rfl rfl rfl rfl rfl ?_)
            refine LLate.one (i := 5) (by kernel_rfl) ?_
            refine LLateOp.whole rfl (.inl rfl) rfl (S.store (cs' := [_]) rfl (Pick.there (Pick.there Pick.here)) rfl rfl rfl rfl rfl ?_)
            refine LLate.done (by kernel_rfl) ?_
            repeat first
              | refine LCode.ret ?_
              | refine QThen.normal ?_
              | refine QThen.ret ?_
            have hp : parseP s = (noPr, l, er) := by rw [parseP, hL]
            rw [hp]
            exact ⟨[encPr noPr, int .i64 l, int .i64 er], [], AllRes.cons (ResIs.cellAgg (k := 3) (cs := [nilSlice, nilSlice, nilSlice]) rfl (by first | exact List.Mem.head _ | exact List.Mem.tail _ (List.Mem.head _) | exact List.Mem.tail _ (List.Mem.tail _ (List.Mem.head _)) | exact List.Mem.tail _ (List.Mem.tail _ (List.Mem.tail _ (List.Mem.head _))) | exact List.Mem.tail _ (List.Mem.tail _ (List.Mem.tail _ (List.Mem.tail _ (List.Mem.head _)))) | exact List.Mem.tail _ (List.Mem.tail _ (List.Mem.tail _ (List.Mem.tail _ (List.Mem.tail _ (List.Mem.head _))))) | exact List.Mem.tail _ (List.Mem.tail _ (List.Mem.tail _ (List.Mem.tail _ (List.Mem.tail _ (List.Mem.tail _ (List.Mem.head _))))))) rfl (LV.Sub.agg (bs := [.list [], .list [], .list []]) ⟨LV.Sub.nil, LV.Sub.nil, LV.Sub.nil, trivial⟩)) (AllRes.cons (ResIs.cellOne (cs := [int .i64 l]) rfl (by first | exact List.Mem.head _ | exact List.Mem.tail _ (List.Mem.head _) | exact List.Mem.tail _ (List.Mem.tail _ (List.Mem.head _)) | exact List.Mem.tail _ (List.Mem.tail _ (List.Mem.tail _ (List.Mem.head _))) | exact List.Mem.tail _ (List.Mem.tail _ (List.Mem.tail _ (List.Mem.tail _ (List.Mem.head _)))) | exact List.Mem.tail _ (List.Mem.tail _ (List.Mem.tail _ (List.Mem.tail _ (List.Mem.tail _ (List.Mem.head _))))) | exact List.Mem.tail _ (List.Mem.tail _ (List.Mem.tail _ (List.Mem.tail _ (List.Mem.tail _ (List.Mem.tail _ (List.Mem.head _))))))) rfl (LV.Sub.refl _)) (AllRes.cons (ResIs.cellOne (cs := [int .i64 er]) rfl (by first | exact List.Mem.head _ | exact List.Mem.tail _ (List.Mem.head _) | exact List.Mem.tail _ (List.Mem.tail _ (List.Mem.head _)) | exact List.Mem.tail _ (List.Mem.tail _ (List.Mem.tail _ (List.Mem.head _))) | exact List.Mem.tail _ (List.Mem.tail _ (List.Mem.tail _ (List.Mem.tail _ (List.Mem.head _)))) | exact List.Mem.tail _ (List.Mem.tail _ (List.Mem.tail _ (List.Mem.tail _ (List.Mem.tail _ (List.Mem.head _))))) | exact List.Mem.tail _ (List.Mem.tail _ (List.Mem.tail _ (List.Mem.tail _ (List.Mem.tail _ (List.Mem.tail _ (List.Mem.head _))))))) rfl (LV.Sub.refl _)) AllRes.nil)), HSub.nil _, rfl, rfl⟩
          · refine LLateOp.whole rfl (.inl rfl) rfl (S.store (cs' := [_]) rfl (Pick.there (Pick.there Pick.here)) rfl rfl rfl rfl rfl ?_)
            refine LLate.one (i := 2) (by kernel_rfl) ?_
            refine LLateOp.pureH rfl rfl (Pure.loadH (c := .atom _) rfl (List.Mem.tail _ (List.Mem.tail _ (List.Mem.head _))) rfl) ?_
            refine LLate.one (i := 5) (by kernel_rfl) ?_
            refine LLateOp.whole rfl (.inl rfl) rfl (S.store (cs' := [_]) rfl (Pick.there (Pick.there Pick.here)) rfl rfl rfl rfl rfl ?_)
            refine LLate.done (by kernel_rfl) ?_
            repeat first
              | refine LCode.ret ?_
              | refine QThen.normal ?_
              | refine QThen.ret ?_
            have hp : parseP s = (noPr, l, er) := by rw [parseP, hL]
            rw [hp]
            exact ⟨[encPr noPr, int .i64 l, int .i64 er], [], AllRes.cons (ResIs.cellAgg (k := 3) (cs := [nilSlice, nilSlice, nilSlice]) rfl (by first | exact List.Mem.head _ | exact List.Mem.tail _ (List.Mem.head _) | exact List.Mem.tail _ (List.Mem.tail _ (List.Mem.head _)) | exact List.Mem.tail _ (List.Mem.tail _ (List.Mem.tail _ (List.Mem.head _))) | exact List.Mem.tail _ (List.Mem.tail _ (List.Mem.tail _ (List.Mem.tail _ (List.Mem.head _)))) | exact List.Mem.tail _ (List.Mem.tail _ (List.Mem.tail _ (List.Mem.tail _ (List.Mem.tail _ (List.Mem.head _))))) | exact List.Mem.tail _ (List.Mem.tail _ (List.Mem.tail _ (List.Mem.tail _ (List.Mem.tail _ (List.Mem.tail _ (List.Mem.head _))))))) rfl (LV.Sub.agg (bs := [.list [], .list [], .list []]) ⟨LV.Sub.nil, LV.Sub.nil, LV.Sub.nil, trivial⟩)) (AllRes.cons (ResIs.cellOne (cs := [int .i64 l]) rfl (by first | exact List.Mem.head _ | exact List.Mem.tail _ (List.Mem.head _) | exact List.Mem.tail _ (List.Mem.tail _ (List.Mem.head _)) | exact List.Mem.tail _ (List.Mem.tail _ (List.Mem.tail _ (List.Mem.head _))) | exact List.Mem.tail _ (List.Mem.tail _ (List.Mem.tail _ (List.Mem.tail _ (List.Mem.head _)))) | exact List.Mem.tail _ (List.Mem.tail _ (List.Mem.tail _ (List.Mem.tail _ (List.Mem.tail _ (List.Mem.head _))))) | exact List.Mem.tail _ (List.Mem.tail _ (List.Mem.tail _ (List.Mem.tail _ (List.Mem.tail _ (List.Mem.tail _ (List.Mem.head _))))))) rfl (LV.Sub.refl _)) (AllRes.cons (ResIs.cellOne (cs := [int .i64 er]) rfl (by first | exact List.Mem.head _ | exact List.Mem.tail _ (List.Mem.head _) | exact List.Mem.tail _ (List.Mem.tail _ (List.Mem.head _)) | exact List.Mem.tail _ (List.Mem.tail _ (List.Mem.tail _ (List.Mem.head _))) | exact List.Mem.tail _ (List.Mem.tail _ (List.Mem.tail _ (List.Mem.tail _ (List.Mem.head _)))) | exact List.Mem.tail _ (List.Mem.tail _ (List.Mem.tail _ (List.Mem.tail _ (List.Mem.tail _ (List.Mem.head _))))) | exact List.Mem.tail _ (List.Mem.tail _ (List.Mem.tail _ (List.Mem.tail _ (List.Mem.tail _ (List.Mem.tail _ (List.Mem.head _))))))) rfl (LV.Sub.refl _)) AllRes.nil)), HSub.nil _, rfl, rfl⟩
      · refine LLateOp.pureH rfl rfl (Pure.loadH (c := .atom _) rfl (List.Mem.head _) rfl) ?_
        refine LLate.two (i := 1) (j := 3) (by kernel_rfl) ?_ ?_
        · refine LLateOp.pureH rfl rfl (Pure.loadH (c := .atom _) rfl (List.Mem.tail _ (List.Mem.head _)) rfl) ?_
          refine LLate.one (i := 3) (by kernel_rfl) ?_
          refine LLateOp.whole rfl (.inl rfl) rfl (S.store (cs' := [_, _, _]) rfl (Pick.there (Pick.there Pick.here)) rfl rfl rfl rfl rfl ?_)
          refine LLate.one (i := 4) (by kernel_rfl) ?_
          refine LLateOp.whole rfl (.inl rfl) rfl (S.store (cs' := [_]) rfl (Pick.there (Pick.there Pick.here)) rfl rfl rfl rfl rfl ?_)
          refine LLate.one (i := 5) (by kernel_rfl) ?_
          refine LLateOp.whole rfl (.inl rfl) rfl (S.store (cs' := [_]) rfl (Pick.there (Pick.there Pick.here)) rfl rfl rfl rfl rfl ?_)
          refine LLate.done (by kernel_rfl) ?_
          repeat first
            | refine LCode.ret ?_
            | refine QThen.normal ?_
            | refine QThen.ret ?_
          have hp : parseP s = (noPr, l, er) := by rw [parseP, hL]
          rw [hp]
          exact ⟨[encPr noPr, int .i64 l, int .i64 er], [], AllRes.cons (ResIs.cellAgg (k := 3) (cs := [nilSlice, nilSlice, nilSlice]) rfl (by first | exact List.Mem.head _ | exact List.Mem.tail _ (List.Mem.head _) | exact List.Mem.tail _ (List.Mem.tail _ (List.Mem.head _)) | exact List.Mem.tail _ (List.Mem.tail _ (List.Mem.tail _ (List.Mem.head _))) | exact List.Mem.tail _ (List.Mem.tail _ (List.Mem.tail _ (List.Mem.tail _ (List.Mem.head _)))) | exact List.Mem.tail _ (List.Mem.tail _ (List.Mem.tail _ (List.Mem.tail _ (List.Mem.tail _ (List.Mem.head _))))) | exact List.Mem.tail _ (List.Mem.tail _ (List.Mem.tail _ (List.Mem.tail _ (List.Mem.tail _ (List.Mem.tail _ (List.Mem.head _))))))) rfl (LV.Sub.agg (bs := [.list [], .list [], .list []]) ⟨LV.Sub.nil, LV.Sub.nil, LV.Sub.nil, trivial⟩)) (AllRes.cons (ResIs.cellOne (cs := [int .i64 l]) rfl (by first | exact List.Mem.head _ | exact List.Mem.tail _ (List.Mem.head _) | exact List.Mem.tail _ (List.Mem.tail _ (List.Mem.head _)) | exact List.Mem.tail _ (List.Mem.tail _ (List.Mem.tail _ (List.Mem.head _))) | exact List.Mem.tail _ (List.Mem.tail _ (List.Mem.tail _ (List.Mem.tail _ (List.Mem.head _)))) | exact List.Mem.tail _ (List.Mem.tail _ (List.Mem.tail _ (List.Mem.tail _ (List.Mem.tail _ (List.Mem.head _))))) | exact List.Mem.tail _ (List.Mem.tail _ (List.Mem.tail _ (List.Mem.tail _ (List.Mem.tail _ (List.Mem.tail _ (List.Mem.head _))))))) rfl (LV.Sub.refl _)) (AllRes.cons (ResIs.cellOne (cs := [int .i64 er]) rfl (by first | exact List.Mem.head _ | exact List.Mem.tail _ (List.Mem.head _) | exact List.Mem.tail _ (List.Mem.tail _ (List.Mem.head _)) | exact List.Mem.tail _ (List.Mem.tail _ (List.Mem.tail _ (List.Mem.head _))) | exact List.Mem.tail _ (List.Mem.tail _ (List.Mem.tail _ (List.Mem.tail _ (List.Mem.head _)))) | exact List.Mem.tail _ (List.Mem.tail _ (List.Mem.tail _ (List.Mem.tail _ (List.Mem.tail _ (List.Mem.head _))))) | exact List.Mem.tail _ (List.Mem.tail _ (List.Mem.tail _ (List.Mem.tail _ (List.Mem.tail _ (List.Mem.tail _ (List.Mem.head _))))))) rfl (LV.Sub.refl _)) AllRes.nil)), HSub.nil _, rfl, rfl⟩
        · refine LLateOp.whole rfl (.inl rfl) rfl (S.store (cs' := [_, _, _]) rfl (Pick.there (Pick.there Pick.here)) rfl rfl rfl rfl rfl ?_)
          refine LLate.one (i := 1) (by kernel_rfl) ?_
          refine LLateOp.pureH rfl rfl (Pure.loadH (c := .atom _) rfl (List.Mem.tail _ (List.Mem.tail _ (List.Mem.head _))) rfl) ?_
          refine LLate.one (i := 4) (by kernel_rfl) ?_
          refine LLateOp.whole rfl (.inl rfl) rfl (S.store (cs' := [_]) rfl (Pick.there (Pick.there Pick.here)) rfl rfl rfl rfl rfl ?_)
          refine LLate.one (i := 5) (by kernel_rfl) ?_
          refine LLateOp.whole rfl (.inl rfl) rfl (S.store (cs' := [_]) rfl (Pick.there (Pick.there Pick.here)) rfl rfl rfl rfl rfl ?_)
          refine LLate.done (by kernel_rfl) ?_
          repeat first
            | refine LCode.ret ?_
            | refine QThen.normal ?_
            | refine QThen.ret ?_
          have hp : parseP s = (noPr, l, er) := by rw [parseP, hL]
          rw [hp]
          exact ⟨[encPr noPr, int .i64 l, int .i64 er], [], AllRes.cons (ResIs.cellAgg (k := 3) (cs := [nilSlice, nilSlice, nilSlice]) rfl (by first | exact List.Mem.head _ | exact List.Mem.tail _ (List.Mem.head _) | exact List.Mem.tail _ (List.Mem.tail _ (List.Mem.head _)) | exact List.Mem.tail _ (List.Mem.tail _ (List.Mem.tail _ (List.Mem.head _))) | exact List.Mem.tail _ (List.Mem.tail _ (List.Mem.tail _ (List.Mem.tail _ (List.Mem.head _)))) | exact List.Mem.tail _ (List.Mem.tail _ (List.Mem.tail _ (List.Mem.tail _ (List.Mem.tail _ (List.Mem.head _))))) | exact List.Mem.tail _ (List.Mem.tail _ (List.Mem.tail _ (List.Mem.tail _ (List.Mem.tail _ (List.Mem.tail _ (List.Mem.head _))))))) rfl (LV.Sub.agg (bs := [.list [], .list [], .list []]) ⟨LV.Sub.nil, LV.Sub.nil, LV.Sub.nil, trivial⟩)) (AllRes.cons (ResIs.cellOne (cs := [int .i64 l]) rfl (by first | exact List.Mem.head _ | exact List.Mem.tail _ (List.Mem.head _) | exact List.Mem.tail _ (List.Mem.tail _ (List.Mem.head _)) | exact List.Mem.tail _ (List.Mem.tail _ (List.Mem.tail _ (List.Mem.head _))) | exact List.Mem.tail _ (List.Mem.tail _ (List.Mem.tail _ (List.Mem.tail _ (List.Mem.head _)))) | exact List.Mem.tail _ (List.Mem.tail _ (List.Mem.tail _ (List.Mem.tail _ (List.Mem.tail _ (List.Mem.head _))))) | exact List.Mem.tail _ (List.Mem.tail _ (List.Mem.tail _ (List.Mem.tail _ (List.Mem.tail _ (List.Mem.tail _ (List.Mem.head _))))))) rfl (LV.Sub.refl _)) (AllRes.cons (ResIs.cellOne (cs := [int .i64 er]) rfl (by first | exact List.Mem.head _ | exact List.Mem.tail _ (List.Mem.head _) | exact List.Mem.tail _ (List.Mem.tail _ (List.Mem.head _)) | exact List.Mem.tail _ (List.Mem.tail _ (List.Mem.tail _ (List.Mem.head _))) | exact List.Mem.tail _ (List.Mem.tail _ (List.Mem.tail _ (List.Mem.tail _ (List.Mem.head _)))) | exact List.Mem.tail _ (List.Mem.tail _ (List.Mem.tail _ (List.Mem.tail _ (List.Mem.tail _ (List.Mem.head _))))) | exact List.Mem.tail _ (List.Mem.tail _ (List.Mem.tail _ (List.Mem.tail _ (List.Mem.tail _ (List.Mem.tail _ (List.Mem.head _))))))) rfl (LV.Sub.refl _)) AllRes.nil)), HSub.nil _, rfl, rfl⟩
      · refine LLateOp.whole rfl (.inl rfl) rfl (S.store (cs' := [_, _, _]) rfl (Pick.there (Pick.there Pick.here)) rfl rfl rfl rfl rfl ?_)
        refine LLate.two (i := 1) (j := 2) (by kernel_rfl) ?_ ?_
        · refine LLateOp.pureH rfl rfl (Pure.loadH (c := .atom _) rfl (List.Mem.tail _ (List.Mem.tail _ (List.Mem.head _))) rfl) ?_
          refine LLate.two (i := 2) (j := 4) (by kernel_rfl) ?_ ?_
          · refine LLateOp.pureH rfl rfl (Pure.loadH (c := .atom _) rfl (List.Mem.tail _ (List.Mem.head _)) rfl) ?_
            refine LLate.one (i := 4) (by kernel_rfl) ?_
            refine LLateOp.whole rfl (.inl rfl) rfl (S.store (cs' := [_]) rfl (Pick.there (Pick.there Pick.here)) rfl rfl rfl rfl rfl ?_)
            refine LLate.one (i := 5) (by kernel_rfl) ?_
            refine LLateOp.whole rfl (.inl rfl) rfl (S.store (cs' := [_]) rfl (Pick.there (Pick.there Pick.here)) rfl rfl rfl rfl rfl ?_)
            refine LLate.done (by kernel_rfl) ?_
            repeat first
              | refine LCode.ret ?_
              | refine QThen.normal ?_
              | refine QThen.ret ?_
            have hp : parseP s = (noPr, l, er) := by rw [parseP, hL]
            rw [hp]
            exact ⟨[encPr noPr, int .i64 l, int .i64 er], [], AllRes.cons (ResIs.cellAgg (k := 3) (cs := [nilSlice, nilSlice, nilSlice]) rfl (by first | exact List.Mem.head _ | exact List.Mem.tail _ (List.Mem.head _) | exact List.Mem.tail _ (List.Mem.tail _ (List.Mem.head _)) | exact List.Mem.tail _ (List.Mem.tail _ (List.Mem.tail _ (List.Mem.head _))) | exact List.Mem.tail _ (List.Mem.tail _ (List.Mem.tail _ (List.Mem.tail _ (List.Mem.head _)))) | exact List.Mem.tail _ (List.Mem.tail _ (List.Mem.tail _ (List.Mem.tail _ (List.Mem.tail _ (List.Mem.head _))))) | exact List.Mem.tail _ (List.Mem.tail _ (List.Mem.tail _ (List.Mem.tail _ (List.Mem.tail _ (List.Mem.tail _ (List.Mem.head _))))))) rfl (LV.Sub.agg (bs := [.list [], .list [], .list []]) ⟨LV.Sub.nil, LV.Sub.nil, LV.Sub.nil, trivial⟩)) (AllRes.cons (ResIs.cellOne (cs := [int .i64 l]) rfl (by first | exact List.Mem.head _ | exact List.Mem.tail _ (List.Mem.head _) | exact List.Mem.tail _ (List.Mem.tail _ (List.Mem.head _)) | exact List.Mem.tail _ (List.Mem.tail _ (List.Mem.tail _ (List.Mem.head _))) | exact List.Mem.tail _ (List.Mem.tail _ (List.Mem.tail _ (List.Mem.tail _ (List.Mem.head _)))) | exact List.Mem.tail _ (List.Mem.tail _ (List.Mem.tail _ (List.Mem.tail _ (List.Mem.tail _ (List.Mem.head _))))) | exact List.Mem.tail _ (List.Mem.tail _ (List.Mem.tail _ (List.Mem.tail _ (List.Mem.tail _ (List.Mem.tail _ (List.Mem.head _))))))) rfl (LV.Sub.refl _)) (AllRes.cons (ResIs.cellOne (cs := [int .i64 er]) rfl (by first | exact List.Mem.head _ | exact List.Mem.tail _ (List.Mem.head _) | exact List.Mem.tail _ (List.Mem.tail _ (List.Mem.head _)) | exact List.Mem.tail _ (List.Mem.tail _ (List.Mem.tail _ (List.Mem.head _))) | exact List.Mem.tail _ (List.Mem.tail _ (List.Mem.tail _ (List.Mem.tail _ (List.Mem.head _)))) | exact List.Mem.tail _ (List.Mem.tail _ (List.Mem.tail _ (List.Mem.tail _ (List.Mem.tail _ (List.Mem.head _))))) | exact List.Mem.tail _ (List.Mem.tail _ (List.Mem.tail _ (List.Mem.tail _ (List.Mem.tail _ (List.Mem.tail _ (List.Mem.head _))))))) rfl (LV.Sub.refl _)) AllRes.nil)), HSub.nil _, rfl, rfl⟩
          · refine LLateOp.whole rfl (.inl rfl) rfl (S.store (cs' := [_]) rfl (Pick.there (Pick.there Pick.here)) rfl rfl rfl rfl rfl ?_)
            refine LLate.one (i := 2) (by kernel_rfl) ?_
            refine LLateOp.pureH rfl rfl (Pure.loadH (c := .atom _) rfl (List.Mem.tail _ (List.Mem.tail _ (List.Mem.head _))) rfl) ?_
            refine LLate.one (i := 5) (by kernel_rfl) ?_
            refine LLateOp.whole rfl (.inl rfl) rfl (S.store (cs' := [_]) rfl (Pick.there (Pick.there Pick.here)) rfl rfl rfl rfl rfl ?_)
            refine LLate.done (by kernel_rfl) ?_
            repeat first
              | refine LCode.ret ?_
              | refine QThen.normal ?_
              | refine QThen.ret ?_
            have hp : parseP s = (noPr, l, er) := by rw [parseP, hL]
            rw [hp]
            exact ⟨[encPr noPr, int .i64 l, int .i64 er], [], AllRes.cons (ResIs.cellAgg (k := 3) (cs := [nilSlice, nilSlice, nilSlice]) rfl (by first | exact List.Mem.head _ | exact List.Mem.tail _ (List.Mem.head _) | exact List.Mem.tail _ (List.Mem.tail _ (List.Mem.head _)) | exact List.Mem.tail _ (List.Mem.tail _ (List.Mem.tail _ (List.Mem.head _))) | exact List.Mem.tail _ (List.Mem.tail _ (List.Mem.tail _ (List.Mem.tail _ (List.Mem.head _)))) | exact List.Mem.tail _ (List.Mem.tail _ (List.Mem.tail _ (List.Mem.tail _ (List.Mem.tail _ (List.Mem.head _))))) | exact List.Mem.tail _ (List.Mem.tail _ (List.Mem.tail _ (List.Mem.tail _ (List.Mem.tail _ (List.Mem.tail _ (List.Mem.head _))))))) rfl (LV.Sub.agg (bs := [.list [], .list [], .list []]) ⟨LV.Sub.nil, LV.Sub.nil, LV.Sub.nil, trivial⟩)) (AllRes.cons (ResIs.cellOne (cs := [int .i64 l]) rfl (by first | exact List.Mem.head _ | exact List.Mem.tail _ (List.Mem.head _) | exact List.Mem.tail _ (List.Mem.tail _ (List.Mem.head _)) | exact List.Mem.tail _ (List.Mem.tail _ (List.Mem.tail _ (List.Mem.head _))) | exact List.Mem.tail _ (List.Mem.tail _ (List.Mem.tail _ (List.Mem.tail _ (List.Mem.head _)))) | exact List.Mem.tail _ (List.Mem.tail _ (List.Mem.tail _ (List.Mem.tail _ (List.Mem.tail _ (List.Mem.head _))))) | exact List.Mem.tail _ (List.Mem.tail _ (List.Mem.tail _ (List.Mem.tail _ (List.Mem.tail _ (List.Mem.tail _ (List.Mem.head _))))))) rfl (LV.Sub.refl _)) (AllRes.cons (ResIs.cellOne (cs := [int .i64 er]) rfl (by first | exact List.Mem.head _ | exact List.Mem.tail _ (List.Mem.head _) | exact List.Mem.tail _ (List.Mem.tail _ (List.Mem.head _)) | exact List.Mem.tail _ (List.Mem.tail _ (List.Mem.tail _ (List.Mem.head _))) | exact List.Mem.tail _ (List.Mem.tail _ (List.Mem.tail _ (List.Mem.tail _ (List.Mem.head _)))) | exact List.Mem.tail _ (List.Mem.tail _ (List.Mem.tail _ (List.Mem.tail _ (List.Mem.tail _ (List.Mem.head _))))) | exact List.Mem.tail _ (List.Mem.tail _ (List.Mem.tail _ (List.Mem.tail _ (List.Mem.tail _ (List.Mem.tail _ (List.Mem.head _))))))) rfl (LV.Sub.refl _)) AllRes.nil)), HSub.nil _, rfl, rfl⟩
        · refine LLateOp.pureH rfl rfl (Pure.loadH (c := .atom _) rfl (List.Mem.tail _ (List.Mem.head _)) rfl) ?_
          refine LLate.one (i := 1) (by kernel_rfl) ?_
          refine LLateOp.pureH rfl rfl (Pure.loadH (c := .atom _) rfl (List.Mem.tail _ (List.Mem.tail _ (List.Mem.head _))) rfl) ?_
          refine LLate.one (i := 4) (by kernel_rfl) ?_
          refine LLateOp.whole rfl (.inl rfl) rfl (S.store (cs' := [_]) rfl (Pick.there (Pick.there Pick.here)) rfl rfl rfl rfl rfl ?_)
          refine LLate.one (i := 5) (by kernel_rfl) ?_
          refine LLateOp.whole rfl (.inl rfl) rfl (S.store (cs' := [_]) rfl (Pick.there (Pick.there Pick.here)) rfl rfl rfl rfl rfl ?_)
          refine LLate.done (by kernel_rfl) ?_
          repeat first
            | refine LCode.ret ?_
            | refine QThen.normal ?_
            | refine QThen.ret ?_
          have hp : parseP s = (noPr, l, er) := by rw [parseP, hL]
          rw [hp]
          exact ⟨[encPr noPr, int .i64 l, int .i64 er], [], AllRes.cons (ResIs.cellAgg (k := 3) (cs := [nilSlice, nilSlice, nilSlice]) rfl (by first | exact List.Mem.head _ | exact List.Mem.tail _ (List.Mem.head _) | exact List.Mem.tail _ (List.Mem.tail _ (List.Mem.head _)) | exact List.Mem.tail _ (List.Mem.tail _ (List.Mem.tail _ (List.Mem.head _))) | exact List.Mem.tail _ (List.Mem.tail _ (List.Mem.tail _ (List.Mem.tail _ (List.Mem.head _)))) | exact List.Mem.tail _ (List.Mem.tail _ (List.Mem.tail _ (List.Mem.tail _ (List.Mem.tail _ (List.Mem.head _))))) | exact List.Mem.tail _ (List.Mem.tail _ (List.Mem.tail _ (List.Mem.tail _ (List.Mem.tail _ (List.Mem.tail _ (List.Mem.head _))))))) rfl (LV.Sub.agg (bs := [.list [], .list [], .list []]) ⟨LV.Sub.nil, LV.Sub.nil, LV.Sub.nil, trivial⟩)) (AllRes.cons (ResIs.cellOne (cs := [int .i64 l]) rfl (by first | exact List.Mem.head _ | exact List.Mem.tail _ (List.Mem.head _) | exact List.Mem.tail _ (List.Mem.tail _ (List.Mem.head _)) | exact List.Mem.tail _ (List.Mem.tail _ (List.Mem.tail _ (List.Mem.head _))) | exact List.Mem.tail _ (List.Mem.tail _ (List.Mem.tail _ (List.Mem.tail _ (List.Mem.head _)))) | exact List.Mem.tail _ (List.Mem.tail _ (List.Mem.tail _ (List.Mem.tail _ (List.Mem.tail _ (List.Mem.head _))))) | exact List.Mem.tail _ (List.Mem.tail _ (List.Mem.tail _ (List.Mem.tail _ (List.Mem.tail _ (List.Mem.tail _ (List.Mem.head _))))))) rfl (LV.Sub.refl _)) (AllRes.cons (ResIs.cellOne (cs := [int .i64 er]) rfl (by first | exact List.Mem.head _ | exact List.Mem.tail _ (List.Mem.head _) | exact List.Mem.tail _ (List.Mem.tail _ (List.Mem.head _)) | exact List.Mem.tail _ (List.Mem.tail _ (List.Mem.tail _ (List.Mem.head _))) | exact List.Mem.tail _ (List.Mem.tail _ (List.Mem.tail _ (List.Mem.tail _ (List.Mem.head _)))) | exact List.Mem.tail _ (List.Mem.tail _ (List.Mem.tail _ (List.Mem.tail _ (List.Mem.tail _ (List.Mem.head _))))) | exact List.Mem.tail _ (List.Mem.tail _ (List.Mem.tail _ (List.Mem.tail _ (List.Mem.tail _ (List.Mem.tail _ (List.Mem.head _))))))) rfl (LV.Sub.refl _)) AllRes.nil)), HSub.nil _, rfl, rfl⟩
    · have : er = 0 := by simpa using hc
      exact absurd this he0
  | ok T =>
    have hT := tok_lex hL
    simp only [encLex]
    repeat first
      | refine LOps.nil ?_
      | refine QThen.normal ?_
      | refine LOps.pure (Pure.mv (lv := .tuple _) rfl) rfl ?_
      | refine LOps.pure (Pure.extract (c := .list _) rfl rfl) rfl ?_
      | refine LOps.pure (Pure.extract (c := .atom _) rfl rfl) rfl ?_
      | refine LOps.pure (Pure.as (lv := .list _) rfl) rfl ?_
      | refine LOps.step (S.store (cs' := [_]) rfl (Pick.there Pick.here) rfl rfl rfl rfl rfl ?_) rfl
    refine LCodeP.seq (LCodeP.of ?_)
    repeat first
      | refine LOps.nil ?_
      | refine LCode.seq ?_
      | refine LCode.region ?_
      | refine QThen.normal ?_
      | refine LOps.pure (Pure.loadH (c := .atom _) rfl (List.Mem.head _) rfl) rfl ?_
      | refine LOps.pure (Pure.neq rfl rfl) rfl ?_
    refine LCode.cond rfl (fun hc => ?_) (fun hc => ?_)
    · cases hc
    · repeat first
        | refine LCode.skip ?_
        | refine QThen.normal ?_
      refine LCodeP.seq (LCodeP.region ?_)
      repeat first
        | refine LOpsP.pure (Pure.makeFunc rfl rfl) rfl ?_
      refine LOpsP.defer rfl rfl ?_
      refine LOpsP.nil ?_
      refine QThen.normal ?_
      refine LCodeP.seq (LCodeP.of ?_)
      repeat first
        | refine LCode.region ?_
        | refine LOps.pure (Pure.bld _ (cs := [_, _, _]) rfl) rfl ?_
        | refine LOps.pure (Pure.mv (lv := .list _) rfl) rfl ?_
      refine LOps.step (S.box rfl fun sb => ?_) rfl
      repeat first
        | refine LOps.nil ?_
        | refine QThen.normal ?_
        | refine LOps.pure (Pure.as (lv := .atom _) rfl) rfl ?_
      refine LCodeP.seq (LCodeP.region ?_)
      repeat first
        | refine LOpsP.pure (Pure.mv (lv := .atom _) rfl) rfl ?_
      obtain ⟨r, hr⟩ := sProg_ends T (10 * T.length + 20) noPr 0 0 (Nat.zero_le _) (by omega)
      have hp : parseP s = resP r := by
        rw [parseP, hL]
        simp only [hr]
        cases r <;> rfl
      rw [hp]
      refine LOpsP.step (S.callP (T := T) (i := 0) (op := 0) [_] rfl Pick.here (program_spec hG sb T hT _ r hr) (fun v i1 op1 h1 => ?_) (fun l er i1 op1 h1 => ?_)) rfl
      · subst h1
        refine LOpsP.step (S.store (cs' := [_, _, _]) rfl (Pick.there (Pick.there (Pick.there Pick.here))) rfl rfl rfl rfl rfl ?_) rfl
        refine LOpsP.step (S.store (cs' := [_]) rfl (Pick.there (Pick.there (Pick.there Pick.here))) rfl rfl rfl rfl rfl ?_) rfl
        refine LOpsP.step (S.store (cs' := [_]) rfl (Pick.there (Pick.there (Pick.there Pick.here))) rfl rfl rfl rfl rfl ?_) rfl
        refine LOpsP.nil ?_
        refine QThen.normal ?_
        refine LCodeP.ret ?_
        exact RetPostD.ret1 (vs := [encPr v, int .i64 0, int .i64 0]) (H2 := [(b2, .cells 29 [.list (v.vars.map str), .list (v.arrays.map encAr), .list (v.funcs.map encFn)]), (b3, .cells 3 [int .i64 0]), (b4, .cells 30 [int .i64 0])]) rfl ((Pick.there (Pick.there Pick.here)).trans (List.Perm.cons _ ((Pick.there Pick.here).trans (List.Perm.cons _ (List.Perm.refl _))))) (rec_ret b2 b3 b4 _ _ _)
          (AllRes.cons (ResIs.cellAgg (k := 3) rfl (List.Mem.head _) rfl (LV.Sub.refl _)) (AllRes.cons (ResIs.cellOne rfl (List.Mem.tail _ (List.Mem.head _)) rfl (LV.Sub.refl _)) (AllRes.cons (ResIs.cellOne rfl (List.Mem.tail _ (List.Mem.tail _ (List.Mem.head _))) rfl (LV.Sub.refl _)) AllRes.nil))) (HSub.nil _) ⟨rfl, rfl⟩
      · subst h1
        refine QThen.panic ?_
        exact RetPostD.panic1 (vs := [encPr noPr, int .i64 l, int .i64 er]) (H2 := [(b2, .cells 29 [nilSlice, nilSlice, nilSlice]), (b3, .cells 3 [int .i64 l]), (b4, .cells 30 [int .i64 er])]) rfl ((Pick.there (Pick.there (Pick.there Pick.here))).trans (List.Perm.cons _ ((Pick.there (Pick.there Pick.here)).trans (List.Perm.cons _ ((Pick.there Pick.here).trans (List.Perm.refl _)))))) (rec_pan b2 b3 b4 _ _ _ _ _ l er)
          (AllRes.cons (ResIs.cellAgg (k := 3) rfl (List.Mem.head _) rfl (LV.Sub.agg (bs := [.list [], .list [], .list []]) ⟨LV.Sub.nil, LV.Sub.nil, LV.Sub.nil, trivial⟩)) (AllRes.cons (ResIs.cellOne rfl (List.Mem.tail _ (List.Mem.head _)) rfl (LV.Sub.refl _)) (AllRes.cons (ResIs.cellOne rfl (List.Mem.tail _ (List.Mem.tail _ (List.Mem.head _))) rfl (LV.Sub.refl _)) AllRes.nil))) (HSub.nil _) ⟨rfl, rfl⟩
end
end Go.Proofs.YtfodkbchknknjaaDoor
