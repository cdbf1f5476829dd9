/- Texts joined: LawA, GlArith, ParExt, RPar1, RPar2, LexCat, LexJoin, RPar3. -/
import Derived.StillTail
import Derived.Lib.Join
import Derived.Test.YtfodkbchknknjaaGreatDoorBRowR2
import Derived.Test.YtfodkbchknknjaaGreatDoorBRowR3
import Derived.Test.YtfodkbchknknjaaGreatDoorBRowR4
import Derived.Test.YtfodkbchknknjaaGreatDoorBRowR6
set_option linter.unusedVariables false
set_option linter.unusedSimpArgs false
namespace Go.Proofs.YtfodkbchknknjaaGreatDoor
open Go.GL Go.RowKit Go.Stele
set_option maxRecDepth 100000
set_option maxHeartbeats 4000000
theorem prog_end {T : List Tok} : ∀ (f : Nat) (p : Pr) (i op : Nat) (q : Pr) (i' op' : Nat), i ≤ T.length → sProg T f p i op = some (.ok q i' op') → i' ≤ T.length
  | 0, _, _, _, _, _, _, _, h => by rw [sProg] at h; cases h
  | f + 1, p, i, op, q, i', op', hi, h => by
    rw [sProg] at h
    split at h
    · cases h
      exact hi
    · split at h
      · rcases obind_some h with ⟨l, i1, op1, h1, h⟩ | ⟨l, e, _, h⟩
        · exact prog_end f _ i1 op1 q i' op' ((sVars_good T f _ _ _ _ h1).2.2.1 hi) h
        · cases h
      · split at h
        · rename_i h0
          have := isTok_lt h0
          rcases obind_some h with ⟨a, i1, op1, h1, h⟩ | ⟨l, e, _, h⟩
          · exact prog_end f _ i1 op1 q i' op' ((sArray_good T _ _ _ h1).2.2.1 (by omega)) h
          · cases h
        · split at h
          · rename_i h0
            have := isTok_lt h0
            rcases obind_some h with ⟨a, i1, op1, h1, h⟩ | ⟨l, e, _, h⟩
            · exact prog_end f _ i1 op1 q i' op' ((sFunc_good T f _ _ _ h1).2.2.1 (by omega)) h
            · cases h
          · cases h
theorem noPr_ok : PrOk noPr := ⟨by decide, by intro a ha; cases ha⟩
theorem parseP_ok (s : List UInt8) : PrOk (parseP s).1 := by
  unfold parseP
  split
  · exact noPr_ok
  · rename_i T hT
    have ht := tok_lex hT
    have hk : ∀ t ∈ T, TokOk t := by
      unfold lexAllP at hT
      split at hT
      · cases hT
      · exact (lexP_ok _ _ _ _ hT).2
    split
    · rename_i p i op hp
      obtain ⟨h1, h2⟩ := prog_nd hk _ _ _ _ _ _ _ (by intro a ha; cases ha) hp
      have h3 := prog_end _ _ _ _ _ _ _ (Nat.zero_le _) hp
      have := ht.len
      have h0 : nPr noPr = 0 := rfl
      exact ⟨by show nPr p ≤ _; omega, h2⟩
    · exact noPr_ok
    · exact noPr_ok
def bodyPre : List UInt8 := [102, 117, 110, 99, 32, 109, 97, 105, 110, 40, 41, 32, 123, 32, 120, 32, 61, 32]
def bodyPost : List UInt8 := [59, 32, 125]
def bodyOf (s : List UInt8) : List UInt8 := bodyPre ++ s ++ bodyPost
def vE (s : List UInt8) : Ex := .mk nVar 0 s []
def bE (op : List UInt8) (a b : Ex) : Ex := .mk op 0 [] [a, b]
def asP (x : Ex) : Pr := ⟨[], [], [⟨[109, 97, 105, 110], [], [], [.mk 1 [120] [] [x] [] []]⟩]⟩
theorem encE_bE (op : List UInt8) (a b : Ex) : encE (bE op a b) = .agg [str op, int .u32 0, str [], .list [encE a, encE b]] := by rw [bE, encE_mk]; rfl
theorem encE_vE (s : List UInt8) : encE (vE s) = .agg [str nVar, int .u32 0, str s, .list []] := by rw [vE, encE_mk]; rfl
theorem encPr_asP (x : Ex) : encPr (asP x) = .agg [.list [], .list [], .list [.agg [str [109, 97, 105, 110], .list [], .list [], .list [.agg [int .i64 1, str [120], .list [], .list [encE x], .list [], .list []]]]]] := by
  rw [encPr, asP]
  simp only [List.map_cons, List.map_nil, encFn, encS_mk]
def aliveS1 : List UInt8 := [97, 32, 45, 32, 98, 32, 42, 32, 50]
def aliveS2 : List UInt8 := [102, 117, 110, 99, 32, 109, 97, 105, 110, 40, 41, 32, 123, 10, 120, 32, 61, 32, 97, 32, 60, 32, 98, 10, 60, 32, 99, 59, 32, 125]
def aliveX : Ex := bE [45] (vE [97]) (bE [42] (vE [98]) (.mk nNum 2 [] []))
theorem alive1 : parseP (bodyOf aliveS1) = (asP aliveX, 0, 0) := by kernel_rfl
theorem alive2 : parseP aliveS2 = (noPr, 3, 3) := by kernel_rfl
attribute [local irreducible] LOps LCode LStep LCalls Go.GL.Pure QThen QBlock RetPost LQ LAny LLate LLateOp
section
variable {B0 : Nat} {w0 : World}
theorem body_spec (s : List UInt8) (hs : s.length ≤ 1000000) : LCalls (KC B0 w0) 15 [str s] [] (Ret (str (bodyOf s))) := by
  refine LCalls.intro Tryz.func15 rfl (n := 6) rfl rfl rfl ?_
  repeat first
    | refine LOps.nil ?_
    | refine LCode.seq ?_
    | refine LCode.region ?_
    | refine LCode.ret ?_
    | refine QThen.normal ?_
    | refine LOps.pure (Pure.as (lv := .atom _) rfl) rfl ?_
    | refine LOps.pure (Pure.mv (lv := .atom _) rfl) rfl ?_
    | refine LOps.pure (Pure.sadd rfl rfl (by simp only [List.length_append, List.length_cons, List.length_nil]; omega)) rfl ?_
  exact retRet rfl (AllRes.cons (ResIs.tmp (v := .atom _) rfl (LV.Sub.refl _)) AllRes.nil) rfl
theorem variable_spec (s : List UInt8) : LCalls (KC B0 w0) 18 [str s] [] (Ret (encE (vE s))) := by
  refine LCalls.intro Tryz.func18 rfl (n := 5) rfl rfl rfl ?_
  repeat first
    | refine LCode.seq ?_
    | refine LCode.region ?_
  refine LOps.step (S.alloc fun b2 => ?_) rfl
  repeat first
    | refine LOps.nil ?_
    | refine LCode.seq ?_
    | refine LCode.region ?_
    | refine LCode.ret ?_
    | refine QThen.normal ?_
    | refine LOps.pure (Pure.mv (lv := .atom _) rfl) rfl ?_
    | refine LOps.pure (Pure.bld _ (cs := [_, _, _, _]) rfl) rfl ?_
    | refine LOps.step (S.store (cs' := [_, _, _, _]) rfl Pick.here rfl rfl rfl rfl rfl ?_) rfl
  exact retRet rfl (AllRes.cons (ResIs.cellAgg (k := 4) rfl (List.Mem.head _) rfl (LV.Sub.agg (bs := [_, _, _, .list []]) ⟨LV.Sub.refl _, LV.Sub.refl _, LV.Sub.refl _, LV.Sub.nil, trivial⟩)) AllRes.nil) (by rw [encE_vE]; rfl)
theorem lbinary_spec (op : List UInt8) (a b : Ex) : LCalls (KC B0 w0) 17 [str op, encE a, encE b] [] (Ret (encE (bE op a b))) := by
  refine LCalls.intro Tryz.func17 rfl (n := 12) rfl rfl rfl ?_
  repeat first
    | refine LCode.seq ?_
    | refine LCode.region ?_
  refine LOps.step (S.box (cs := [str (exOp a), int .u32 (exNum a), str (exName a), .list (encArgs a)]) rfl fun b4 => ?_) rfl
  refine LOps.step (S.box (cs := [str (exOp b), int .u32 (exNum b), str (exName b), .list (encArgs b)]) rfl fun b5 => ?_) rfl
  refine LOps.step (S.alloc fun b6 => ?_) rfl
  repeat first
    | refine LOps.nil ?_
    | refine LCode.seq ?_
    | refine LCode.region ?_
    | refine QThen.normal ?_
    | refine LOps.pure (Pure.mv (lv := .atom _) rfl) rfl ?_
    | refine LOps.pure (Pure.ldHAgg (cs' := [_, _, _, _]) rfl (List.Mem.tail _ (List.Mem.head _)) rfl rfl) rfl ?_
    | refine LOps.pure (Pure.ldHAgg (cs' := [_, _, _, _]) rfl (List.Mem.tail _ (List.Mem.tail _ (List.Mem.head _))) rfl rfl) rfl ?_
  refine LOps.step (S.lit (es := [encE a, encE b]) [_, _] rfl (elemsOk.cons rfl rfl (elemsOk.cons rfl rfl elemsOk.nil)) rfl rfl rfl ?_) rfl
  repeat first
    | refine LOps.nil ?_
    | refine LCode.ret ?_
    | refine QThen.normal ?_
    | refine LOps.pure (Pure.bld _ (cs := [_, _, _, _]) rfl) rfl ?_
    | refine LOps.step (S.store (cs' := [_, _, _, _]) rfl Pick.here rfl rfl rfl rfl rfl ?_) rfl
  exact retRet rfl (AllRes.cons (ResIs.cellAgg rfl (List.Mem.head _) rfl (LV.Sub.refl _)) AllRes.nil) (by rw [encE_bE]; rfl)
theorem assigned_spec (x : Ex) : LCalls (KC B0 w0) 20 [encE x] [] (Ret (encPr (asP x))) := by
  refine LCalls.intro Tryz.func20 rfl (n := 10) rfl rfl rfl ?_
  repeat first
    | refine LCode.seq ?_
    | refine LCode.region ?_
  refine LOps.step (S.box (cs := [str (exOp x), int .u32 (exNum x), str (exName x), .list (encArgs x)]) rfl fun b1 => ?_) rfl
  refine LOps.step (S.alloc fun b2 => ?_) rfl
  repeat first
    | refine LOps.nil ?_
    | refine LCode.seq ?_
    | refine LCode.region ?_
    | refine QThen.normal ?_
    | refine LOps.pure (Pure.ldHAgg (cs' := [_, _, _, _]) rfl (List.Mem.tail _ (List.Mem.head _)) rfl rfl) rfl ?_
  refine LOps.step (S.lit (es := [encE x]) [_] rfl (elemsOk.cons rfl rfl elemsOk.nil) rfl rfl rfl ?_) rfl
  repeat first
    | refine LOps.pure (Pure.bld _ (cs := [_, _, _, _, _, _]) rfl) rfl ?_
  refine LOps.sub 5 (v' := .agg [int .i64 1, str [120], .list [], .list [encE x], .list [], .list []]) rfl (LV.Sub.agg ⟨LV.Sub.refl _, LV.Sub.refl _, LV.Sub.nil, LV.Sub.refl _, LV.Sub.nil, LV.Sub.nil, trivial⟩) ?_
  refine LOps.step (S.lit (es := [.agg [int .i64 1, str [120], .list [], .list [encE x], .list [], .list []]]) [_] rfl (elemsOk.cons rfl rfl elemsOk.nil) rfl rfl rfl ?_) rfl
  repeat first
    | refine LOps.pure (Pure.bld _ (cs := [_, _, _, _]) rfl) rfl ?_
  refine LOps.sub 7 (v' := .agg [str [109, 97, 105, 110], .list [], .list [], .list [.agg [int .i64 1, str [120], .list [], .list [encE x], .list [], .list []]]]) rfl (LV.Sub.agg ⟨LV.Sub.refl _, LV.Sub.nil, LV.Sub.nil, LV.Sub.refl _, trivial⟩) ?_
  refine LOps.step (S.lit (es := [.agg [str [109, 97, 105, 110], .list [], .list [], .list [.agg [int .i64 1, str [120], .list [], .list [encE x], .list [], .list []]]]]) [_] rfl (elemsOk.cons rfl rfl elemsOk.nil) rfl rfl rfl ?_) rfl
  repeat first
    | refine LOps.nil ?_
    | refine LCode.ret ?_
    | refine QThen.normal ?_
    | refine LOps.pure (Pure.bld _ (cs := [_, _, _]) rfl) rfl ?_
    | refine LOps.step (S.store (cs' := [_, _, _]) rfl Pick.here rfl rfl rfl rfl rfl ?_) rfl
  exact retRet rfl (AllRes.cons (ResIs.cellAgg (k := 3) rfl (List.Mem.head _) rfl (LV.Sub.agg (bs := [.list [], .list [], _]) ⟨LV.Sub.nil, LV.Sub.nil, LV.Sub.refl _, trivial⟩)) AllRes.nil) (by rw [encPr_asP]; rfl)
theorem asP_ok (x : Ex) (h : nEx x ≤ 1000) : PrOk (asP x) := ⟨by simp only [asP, nPr, nFns, nFn, nSms, nSm, nExs, List.length_nil]; omega, by intro a ha; cases ha⟩
theorem equal_true (a b : Pr) (ha : PrOk a) (hb : PrOk b) (h : eqPr a b = true) : LCalls (KC B0 w0) 14 [encPr a, encPr b] [] (Ret (bool true)) := by
  have := equal_spec (B0 := B0) (w0 := w0) a b ha hb
  rw [h] at this
  exact this
theorem alive_spec (hG : GW B0 w0) : LCalls (KC B0 w0) 11 [] [] (Ret (bool true)) := by
  have h1 := parse_spec hG (bodyOf aliveS1) (by decide)
  rw [alive1] at h1
  have h2 := parse_spec hG aliveS2 (by decide)
  rw [alive2] at h2
  refine LCalls.intro Tryz.func11 rfl (n := 44) rfl rfl rfl ?_
  repeat first
    | refine LOps.nil ?_
    | refine LCode.seq ?_
    | refine LCode.region ?_
    | refine QThen.normal ?_
    | refine LOps.pure (Pure.as (lv := .atom _) rfl) rfl ?_
  refine LOps.step (S.fn [_] rfl (body_spec aliveS1 (by decide)) ?_) rfl
  refine LOps.step (S.fn [_] rfl h1 ?_) rfl
  refine LOps.pure (Pure.mv rfl) rfl ?_
  refine LOps.pure (Pure.extract (vs := [encPr (asP aliveX), int .i64 0, int .i64 0]) rfl rfl) rfl ?_
  refine LOps.pure (Pure.extract (vs := [encPr (asP aliveX), int .i64 0, int .i64 0]) rfl rfl) rfl ?_
  refine LOps.pure (Pure.extract (vs := [encPr (asP aliveX), int .i64 0, int .i64 0]) rfl rfl) rfl ?_
  refine LOps.step (S.alloc fun b1 => ?_) rfl
  repeat first
    | refine LOps.nil ?_
    | refine LCode.seq ?_
    | refine LCode.region ?_
    | refine QThen.normal ?_
    | refine LOps.pure (Pure.as (lv := .atom _) rfl) rfl ?_
    | refine LOps.step (S.store (cs' := [_, _, _]) rfl Pick.here rfl rfl rfl rfl rfl ?_) rfl
  refine LOps.step (S.fn [_] rfl h2 ?_) rfl
  refine LOps.pure (Pure.mv rfl) rfl ?_
  refine LOps.pure (Pure.extract (vs := [encPr noPr, int .i64 3, int .i64 3]) rfl rfl) rfl ?_
  refine LOps.pure (Pure.extract (vs := [encPr noPr, int .i64 3, int .i64 3]) rfl rfl) rfl ?_
  refine LOps.pure (Pure.extract (vs := [encPr noPr, int .i64 3, int .i64 3]) rfl rfl) rfl ?_
  refine LOps.step (S.alloc fun b4 => ?_) rfl
  repeat first
    | refine LOps.nil ?_
    | refine LCode.seq ?_
    | refine LCode.region ?_
    | refine QThen.normal ?_
    | refine LOps.pure (Pure.as (lv := .atom _) rfl) rfl ?_
    | refine LOps.step (S.store (cs' := [_, _, _]) rfl Pick.here rfl rfl rfl rfl rfl ?_) rfl
  refine LOps.step (S.fn [_] rfl (variable_spec [97]) ?_) rfl
  refine LOps.step (S.fn [_] rfl (variable_spec [98]) ?_) rfl
  repeat first
    | refine LOps.pure (Pure.bld _ (cs := [_, _, _, _]) rfl) rfl ?_
  refine LOps.sub 21 (v' := encE (.mk nNum 2 [] [])) rfl (by rw [encE_mk]; exact LV.Sub.agg ⟨LV.Sub.refl _, LV.Sub.refl _, LV.Sub.refl _, LV.Sub.nil, trivial⟩) ?_
  refine LOps.step (S.fn [_, _, _] rfl (lbinary_spec [42] (vE [98]) (.mk nNum 2 [] [])) ?_) rfl
  refine LOps.step (S.fn [_, _, _] rfl (lbinary_spec [45] (vE [97]) (bE [42] (vE [98]) (.mk nNum 2 [] []))) ?_) rfl
  refine LOps.step (S.fn [_] rfl (assigned_spec aliveX) ?_) rfl
  refine LOps.step (S.alloc fun b7 => ?_) rfl
  repeat first
    | refine LOps.nil ?_
    | refine LCode.seq ?_
    | refine LCode.region ?_
    | refine QThen.normal ?_
    | refine LOps.pure (Pure.mv (lv := .atom _) rfl) rfl ?_
    | refine LOps.pure (Pure.eql rfl rfl) rfl ?_
    | refine LOps.pure (Pure.pickT (lv := .atom _) rfl rfl) rfl ?_
    | refine LOps.pure (Pure.ldHAgg (cs' := [_, _, _]) rfl (List.Mem.head _) rfl rfl) rfl ?_
    | refine LOps.pure (Pure.ldHAgg (cs' := [_, _, _]) rfl (List.Mem.tail _ (List.Mem.tail _ (List.Mem.head _))) rfl rfl) rfl ?_
    | refine LOps.want rfl rfl ?_
    | refine LOps.step (S.store (cs' := [_, _, _]) rfl Pick.here rfl rfl rfl rfl rfl ?_) rfl
  refine LOps.step (S.fn [_, _] rfl (equal_true (asP aliveX) (asP aliveX) (asP_ok _ (by decide)) (asP_ok _ (by decide)) ((eqPr_iff _ _).2 rfl)) ?_) rfl
  repeat first
    | refine LOps.nil ?_
    | refine LCode.ret ?_
    | refine QThen.normal ?_
    | refine LOps.pure (Pure.as (lv := .atom _) rfl) rfl ?_
    | refine LOps.pure (Pure.mv (lv := .atom _) rfl) rfl ?_
    | refine LOps.pure (Pure.eql rfl rfl) rfl ?_
    | refine LOps.pure (Pure.pickT (lv := .atom _) rfl rfl) rfl ?_
    | refine LOps.want rfl rfl ?_
  exact retRet rfl (AllRes.cons (ResIs.tmp (v := .atom _) rfl (LV.Sub.refl _)) AllRes.nil) rfl
end
end Go.Proofs.YtfodkbchknknjaaGreatDoor
namespace Go.GL
open Go.RowKit
section
variable {C : Ctx} {e : Env} {H : Heap} {dst : Option Nat} {ty : TypeId} {pos : String} {aft : Array Edge} {g : Option (Nat × Bool)} {xT yT : TypeId} {x y : Operand} {k k2 : IntKind} {a b : Int}
theorem run_int2 {P : Program} {op : BinOp} {xT yT : TypeId} {x y : Operand} {k k2 : IntKind} {a b : Int} {ρ : Operand → Value} (hx : ρ x = .int k a) (hy : ρ y = .int k2 b) {s : Sem Value}
    (h : (binOp op xT (.int k a) (.int k2 b)) = s) {v : Value} (hv : ∀ w, s.run P w = .ok v w) (w : World) : (execOp ρ ⟨dst, .binOp op xT x y yT, ty, pos, aft, g⟩).run P w = .ok (.value v) w := by
  subst h
  have he : eqGuard op xT x y (.int k a) (.int k2 b) = Pure.pure () := by
    unfold eqGuard
    cases op <;> rfl
  simp only [execOp, hx, hy, he, Sem.run_bind, Sem.run_pure, Result.andThen_ok, hv]
theorem Pure.quoW (hx : e.ev x = int k a) (hy : e.ev y = int k b) (hb : b ≠ 0) : Pure C ⟨dst, .binOp .quo xT x y yT, ty, pos, aft, g⟩ e H (int k (k.wrap (a.tdiv b))) :=
  .of_any fun _ _ _ h => ⟨_, rep_atom, run_int2 (atom_of h hx) (atom_of h hy) (s := Op.intDiv .quo k a b) (by simp only [binOp, ne_eq, not_true_eq_false, if_false]) (fun _ => by simp only [Op.intDiv, if_neg hb, Sem.run_pure])⟩
theorem Pure.shr (hx : e.ev x = int k a) (hy : e.ev y = int k2 b) (hb : 0 ≤ b) : Pure C ⟨dst, .binOp .shr xT x y yT, ty, pos, aft, g⟩ e H (int k (a.fdiv (2 ^ min b.toNat k.bits))) :=
  .of_any fun _ _ _ h => ⟨_, rep_atom, run_int2 (atom_of h hx) (atom_of h hy) (s := Op.shift .shr k a k2 b) (by simp only [binOp]) (fun _ => by simp only [Op.shift, if_neg (Int.not_lt.2 hb), Sem.run_pure])⟩
theorem Pure.shlW (hx : e.ev x = int k a) (hy : e.ev y = int k2 b) (hb : 0 ≤ b) : Pure C ⟨dst, .binOp .shl xT x y yT, ty, pos, aft, g⟩ e H (int k (k.wrap (a * 2 ^ min b.toNat k.bits))) :=
  .of_any fun _ _ _ h => ⟨_, rep_atom, run_int2 (atom_of h hx) (atom_of h hy) (s := Op.shift .shl k a k2 b) (by simp only [binOp]) (fun _ => by simp only [Op.shift, if_neg (Int.not_lt.2 hb), Sem.run_pure])⟩
theorem Pure.andW (hx : e.ev x = int k a) (hy : e.ev y = int k b) : Pure C ⟨dst, .binOp .and xT x y yT, ty, pos, aft, g⟩ e H (int k (k.wrap ((BitVec.ofInt k.bits a &&& BitVec.ofInt k.bits b).toNat : Nat))) :=
  .of_any fun _ _ _ h => ⟨_, rep_atom, run_int2 (atom_of h hx) (atom_of h hy) (s := Op.intBits .and k a b) (by simp only [binOp, ne_eq, not_true_eq_false, if_false]) (fun _ => rfl)⟩
theorem Pure.orW (hx : e.ev x = int k a) (hy : e.ev y = int k b) : Pure C ⟨dst, .binOp .or xT x y yT, ty, pos, aft, g⟩ e H (int k (k.wrap ((BitVec.ofInt k.bits a ||| BitVec.ofInt k.bits b).toNat : Nat))) :=
  .of_any fun _ _ _ h => ⟨_, rep_atom, run_int2 (atom_of h hx) (atom_of h hy) (s := Op.intBits .or k a b) (by simp only [binOp, ne_eq, not_true_eq_false, if_false]) (fun _ => rfl)⟩
theorem Pure.xorW (hx : e.ev x = int k a) (hy : e.ev y = int k b) : Pure C ⟨dst, .binOp .xor xT x y yT, ty, pos, aft, g⟩ e H (int k (k.wrap ((BitVec.ofInt k.bits a ^^^ BitVec.ofInt k.bits b).toNat : Nat))) :=
  .of_any fun _ _ _ h => ⟨_, rep_atom, run_int2 (atom_of h hx) (atom_of h hy) (s := Op.intBits .xor k a b) (by simp only [binOp, ne_eq, not_true_eq_false, if_false]) (fun _ => rfl)⟩
/-- The address of an element of an array. -/
theorem Pure.indexArr {t el len : Nat} {i : TypeInfo} (hu : C.P.underlying t = some (.array len el)) (hi : C.P.info? el = some i) {bl off : Nat} {n : Int} (hx : e.ev x = ptr bl off) (hy : e.ev y = int k n) (h0 : 0 ≤ n) (hn : n < len) :
    Pure C ⟨dst, .indexAddr t x y, ty, pos, aft, g⟩ e H (ptr bl (off + n.toNat * i.size)) := .of_any fun ρ w L h => ⟨_, rep_atom, fun w' => by
  have h3 : execOp ρ ⟨dst, .indexAddr t x y, ty, pos, aft, g⟩ = (do Pure.pure (.value (← Instr.indexAt t (ρ x) (ρ y)))) := rfl
  rw [h3, atom_of h hx, atom_of h hy]
  have hc : 0 ≤ n ∧ n < (len : Int) := ⟨h0, hn⟩
  simp [Instr.indexAt, asIntOf, run_underlying' hu, Instr.sureAddr, hc, run_sizeOf' hi, add_mk]⟩
end
theorem wpAnyH_weakS {P : Program} {md : Region.Mode} {ops : Array Oper} {Q : Exit → Act → World → Prop} {S S' : World → Prop} (hS : ∀ w, S' w → S w) : ∀ (fuel : Nat) (listed : Array Bool) (a : Act) (w : World),
    wpAnyH P md ops Q S' fuel listed a w → wpAnyH P md ops Q S fuel listed a w
  | 0, _, _, _, k => k
  | fuel + 1, _, _, _, k => ⟨k.1, fun i hi => wpOp_mono (fun a' w' h => ⟨hS _ h.1, wpAnyH_weakS hS fuel _ a' w' h.2⟩) (k.2 i hi)⟩
/-- Behind an acting operation what only computes or reads HF' may be taken first, again. -/
theorem LLate.any {C : Ctx} {n : Nat} {ops : Array Oper} {Q : Post} {HF : Heap} {fuel : Nat} {listed : Array Bool} {e : Env} {H : Heap} (HF' : Heap) (hs : ∀ p ∈ HF, p ∈ HF') (h : LAny C n ops Q HF' fuel listed e H) : LLate C n ops Q HF fuel listed e H := fun w0 L0 a w L hL hA _ hE hH =>
  wpAnyH_weakS (fun w' hw' => ⟨fun p hp => (hw'.1 p (hs p hp)).trans (hA.1 p hp), fun b i hi => (hw'.2 b i (Nat.lt_of_lt_of_le hi (hL b))).trans (hA.2 b i hi)⟩) _ _ _ _ (h a w L hE hH)
/-! ### A drawn region whose last operations stand in a row: what is ahead of them only computes or reads. -/
def LS (C : Ctx) (n : Nat) (ops : Array Oper) (K : Env → Prop) (rest : List Oper) (e : Env) (H : Heap) : Prop :=
  ∀ a w L, RelE n a e w L → RelH C w L H → wpStill C.P ops w (fun a' => ∃ e', RelE n a' e' w L ∧ K e') rest a
section still
variable {C : Ctx} {n : Nat} {ops : Array Oper} {K : Env → Prop} {e : Env} {H : Heap} {dst : Option Nat} {op : Op} {ty : TypeId} {pos : String} {aft : Array Edge} {rest : List Oper}
theorem LS.nil (h : K e) : LS C n ops K [] e H := fun _ _ _ hE _ => ⟨e, hE, h⟩
theorem still_one {P : Program} {Q : Act → Prop} {a : Act} {w : World} {o : Oper} (hg : Region.wanted o (yielded ops a.tmps) = true) {v : Value} (h : (execOp a.eval o).run P w = .ok (.value v) w) (k : wpStill P ops w Q rest (a.put o.dst v)) : wpStill P ops w Q (o :: rest) a := by
  unfold wpStill
  rw [if_pos hg]
  unfold Oper.still
  rw [h]
  exact ⟨rfl, k⟩
theorem LS.pure {lv : LV} (h : Pure C ⟨dst, op, ty, pos, aft, none⟩ e H lv) (hd : dstOk n dst) (k : LS C n ops K rest (e.put dst lv) H) : LS C n ops K (⟨dst, op, ty, pos, aft, none⟩ :: rest) e H := fun a w L hE hH => by
  obtain ⟨v, hv, hr⟩ := h a.eval w L hE.ev hH
  exact still_one (by simp [Region.wanted]) (hr w (Agree.refl _ _ _)) (k _ w L (hE.put hd hv) hH)
theorem LS.want {j d : Nat} {b : Bool} (hj : (ops[j]?).bind (·.dst) = some d) (hb : e.s d = .atom (.bool b))
    (k : LS C n ops K (⟨dst, op, ty, pos, aft, none⟩ :: rest) e H) : LS C n ops K (⟨dst, op, ty, pos, aft, some (j, b)⟩ :: rest) e H := fun a w L hE hH => by
  have := k a w L hE hH
  unfold wpStill at this ⊢
  rw [if_pos (by simp [Region.wanted])] at this
  rw [if_pos (by simp [Region.wanted, yielded_env hE hj hb])]
  exact this
theorem LS.skip {j d : Nat} {b c : Bool} (hj : (ops[j]?).bind (·.dst) = some d) (hb : e.s d = .atom (.bool b)) (hne : b = !c) (hd : dstOk n dst)
    (k : LS C n ops K rest (e.put dst (.atom undef)) H) : LS C n ops K (⟨dst, op, ty, pos, aft, some (j, c)⟩ :: rest) e H := fun a w L hE hH => by
  unfold wpStill
  rw [if_neg (by subst hne; cases c <;> simp [Region.wanted, yielded_env hE hj hb])]
  exact k _ w L (hE.put hd rep_atom) hH
theorem LS.skipU {j d : Nat} {c : Bool} (hj : (ops[j]?).bind (·.dst) = some d) (hb : e.s d = .atom undef) (hd : dstOk n dst)
    (k : LS C n ops K rest (e.put dst (.atom undef)) H) : LS C n ops K (⟨dst, op, ty, pos, aft, some (j, c)⟩ :: rest) e H := fun a w L hE hH => by
  unfold wpStill
  rw [if_neg (by simp [Region.wanted, yielded_undef hE hj hb])]
  exact k _ w L (hE.put hd rep_atom) hH
theorem LS.bcase (d : Nat) {b : Bool} (hb : e.s d = bool b) (ht : b = true → LS C n ops K rest (e.upd d (bool true)) H) (hf : b = false → LS C n ops K rest (e.upd d (bool false)) H) : LS C n ops K rest e H := by
  cases b
  · have := hf rfl; rwa [Env.upd_self hb] at this
  · have := ht rfl; rwa [Env.upd_self hb] at this
theorem wpStill_mono {P : Program} {w : World} {Q Q' : Act → Prop} (h : ∀ a, Q a → Q' a) : ∀ (l : List Oper) (a : Act), wpStill P ops w Q l a → wpStill P ops w Q' l a
  | [], a, k => h a k
  | o :: l, a, k => by
    unfold wpStill at k ⊢
    split at k
    · rename_i hw
      rw [if_pos hw]
      exact Oper.still_mono (fun a => wpStill_mono h l a) k
    · rename_i hw
      rw [if_neg hw]
      exact wpStill_mono h l _ k
theorem LCode.tail [hm : TMixed C.P] {id : Nat} {l : List Oper} {Q : Post} (m : Nat) (hB : Region.lexTailB .any l.toArray m = true) (h : LS C n l.toArray (fun e' => LOps C n l.toArray Q (l.drop m) e' H) (l.take m) e H) : LCode C n (.region id l.toArray true) Q e H := fun a w L hE hH => by
  refine wp_region_still_tail m hm.out hB ?_
  refine wpStill_mono (fun a' h' => ?_) _ _ (h a w.drew L (hE.mono (ext_drew w L)) hH.drew)
  obtain ⟨e', hE', hk⟩ := h'
  refine wpList_mono (fun x a2 w' hq => ?_) _ _ _ (hk a' w.drew L hE' hH.drew)
  obtain ⟨e2, H', L', h1, h2, h3, h4⟩ := hq
  exact ⟨e2, H', L', h1.of_drew, h2, h3, h4⟩
end still
end Go.GL
namespace Go.Stele
/-- Nothing changes but that more is told. -/
def LeO {A : Type} (r r' : OR A) : Prop := ∀ q, r = some q → r' = some q
theorem LeO.rfl' {A : Type} {r : OR A} : LeO r r := fun _ h => h
theorem LeO.none {A : Type} {r : OR A} : LeO none r := fun _ h => by cases h
theorem LeO.bind {A B : Type} {r r' : OR A} {f f' : A → Nat → Nat → OR B} (h : LeO r r') (hf : ∀ v i op, LeO (f v i op) (f' v i op)) : LeO (obind r f) (obind r' f') := fun q hq => by
  rcases obind_some hq with ⟨v, i, op, h1, h2⟩ | ⟨l, e, h1, rfl⟩
  · rw [h _ h1]
    exact hf _ _ _ _ h2
  · rw [h _ h1]
    rfl
theorem LeO.ite {A : Type} {c : Prop} [Decidable c] {a b a' b' : OR A} (h1 : LeO a a') (h2 : LeO b b') : LeO (if c then a else b) (if c then a' else b') := by
  split
  · exact h1
  · exact h2
theorem namesLoop_le (T : List Tok) : ∀ (f g : Nat) (acc : List (List UInt8)) (i op : Nat), f ≤ g → LeO (sNamesLoop T f acc i op) (sNamesLoop T g acc i op)
  | 0, _, _, _, _, _ => LeO.none
  | f + 1, 0, _, _, _, h => by omega
  | f + 1, g + 1, acc, i, op, h => by
    rw [sNamesLoop, sNamesLoop]
    exact LeO.ite (LeO.bind LeO.rfl' fun v i op => namesLoop_le T f g _ i op (by omega)) LeO.rfl'
theorem names_le (T : List Tok) (f g i op : Nat) (h : f ≤ g) : LeO (sNames T f i op) (sNames T g i op) := LeO.bind LeO.rfl' fun v i op => namesLoop_le T f g _ i op h
theorem ex_le (T : List Tok) : ∀ f g : Nat, f ≤ g → (∀ k i op, LeO (eLev T f k i op) (eLev T g k i op)) ∧ (∀ k e i op, LeO (eLoop T f k e i op) (eLoop T g k e i op)) ∧ (∀ i op, LeO (eUnary T f i op) (eUnary T g i op)) ∧
    (∀ i op, LeO (ePrim T f i op) (ePrim T g i op)) ∧ (∀ i op, LeO (eIndex T f i op) (eIndex T g i op)) ∧ (∀ i op, LeO (eArgs T f i op) (eArgs T g i op)) ∧ (∀ acc i op, LeO (eArgsLoop T f acc i op) (eArgsLoop T g acc i op))
  | 0, g, _ => ⟨fun _ _ _ => by rw [eLev]; exact LeO.none, fun _ _ _ _ => by rw [eLoop]; exact LeO.none, fun _ _ => by rw [eUnary]; exact LeO.none, fun _ _ => by rw [ePrim]; exact LeO.none, fun _ _ => by rw [eIndex]; exact LeO.none, fun _ _ => by rw [eArgs]; exact LeO.none, fun _ _ _ => by rw [eArgsLoop]; exact LeO.none⟩
  | f + 1, 0, h => by omega
  | f + 1, g + 1, h => by
    obtain ⟨hL, hO, hU, hP, hI, hA, hB⟩ := ex_le T f g (by omega)
    refine ⟨fun k i op => ?_, fun k e i op => ?_, fun i op => ?_, fun i op => ?_, fun i op => ?_, fun i op => ?_, fun acc i op => ?_⟩
    · rw [eLev, eLev]
      exact LeO.ite (hU _ _) (LeO.bind (hL _ _ _) fun _ _ _ => hO _ _ _ _)
    · rw [eLoop, eLoop]
      exact LeO.ite (LeO.bind (hL _ _ _) fun _ _ _ => LeO.ite LeO.rfl' (hO _ _ _ _)) LeO.rfl'
    · rw [eUnary, eUnary]
      exact LeO.ite (LeO.bind LeO.rfl' fun _ _ _ => LeO.bind (hU _ _) fun _ _ _ => LeO.rfl') (LeO.ite (LeO.bind LeO.rfl' fun _ _ _ => LeO.bind (hU _ _) fun _ _ _ => LeO.rfl') (hP _ _))
    · rw [ePrim, ePrim]
      exact LeO.ite (LeO.bind LeO.rfl' fun _ _ _ => LeO.bind (hL _ _ _) fun _ _ _ => LeO.rfl') (LeO.ite LeO.rfl' (LeO.bind LeO.rfl' fun _ _ _ => LeO.ite (LeO.bind (hI _ _) fun _ _ _ => LeO.rfl') (LeO.ite (LeO.bind (hA _ _) fun _ _ _ => LeO.rfl') LeO.rfl')))
    · rw [eIndex, eIndex]
      exact LeO.bind LeO.rfl' fun _ _ _ => LeO.bind (hL _ _ _) fun _ _ _ => LeO.rfl'
    · rw [eArgs, eArgs]
      exact LeO.bind LeO.rfl' fun _ _ _ => LeO.bind (hB _ _ _) fun _ _ _ => LeO.rfl'
    · rw [eArgsLoop, eArgsLoop]
      exact LeO.ite LeO.rfl' (LeO.bind LeO.rfl' fun _ _ _ => LeO.bind (hL _ _ _) fun _ _ _ => hB _ _ _)
theorem st_le (T : List Tok) : ∀ f g : Nat, f ≤ g → (∀ i op, LeO (sBlock T f i op) (sBlock T g i op)) ∧ (∀ acc i op, LeO (sStmts T f acc i op) (sStmts T g acc i op)) ∧ (∀ i op, LeO (sStmt T f i op) (sStmt T g i op)) ∧ (∀ i op, LeO (sSimple T f i op) (sSimple T g i op))
  | 0, g, _ => ⟨fun _ _ => by rw [sBlock]; exact LeO.none, fun _ _ _ => by rw [sStmts]; exact LeO.none, fun _ _ => by rw [sStmt]; exact LeO.none, fun _ _ => by rw [sSimple]; exact LeO.none⟩
  | f + 1, 0, h => by omega
  | f + 1, g + 1, h => by
    obtain ⟨hB, hS, hT, hM⟩ := st_le T f g (by omega)
    obtain ⟨hL, _, _, _, hI, hA, _⟩ := ex_le T f g (by omega)
    refine ⟨fun i op => ?_, fun acc i op => ?_, fun i op => ?_, fun i op => ?_⟩
    · rw [sBlock, sBlock]
      exact LeO.bind LeO.rfl' fun _ _ _ => LeO.bind (hS _ _ _) fun _ _ _ => LeO.rfl'
    · rw [sStmts, sStmts]
      exact LeO.ite LeO.rfl' (LeO.bind (hT _ _) fun _ _ _ => hS _ _ _)
    · rw [sStmt, sStmt]
      exact LeO.ite (LeO.bind (hL _ _ _) fun _ _ _ => LeO.bind (hB _ _) fun _ _ _ => LeO.ite (LeO.bind (hB _ _) fun _ _ _ => LeO.rfl') LeO.rfl') (LeO.ite (LeO.bind (hL _ _ _) fun _ _ _ => LeO.bind (hB _ _) fun _ _ _ => LeO.rfl') (LeO.bind (hM _ _) fun _ _ _ => LeO.rfl'))
    · rw [sSimple, sSimple]
      exact LeO.ite (LeO.bind (hL _ _ _) fun _ _ _ => LeO.rfl') (LeO.ite LeO.rfl' (LeO.bind LeO.rfl' fun _ _ _ => LeO.ite (LeO.bind (hA _ _) fun _ _ _ => LeO.rfl') (LeO.ite (LeO.bind (hI _ _) fun _ _ _ => LeO.bind LeO.rfl' fun _ _ _ => LeO.bind (hL _ _ _) fun _ _ _ => LeO.rfl') (LeO.bind LeO.rfl' fun _ _ _ => LeO.bind (hL _ _ _) fun _ _ _ => LeO.rfl'))))
theorem vars_le (T : List Tok) : ∀ (f g : Nat) (acc : List (List UInt8)) (i op : Nat), f ≤ g → LeO (sVars T f acc i op) (sVars T g acc i op)
  | 0, _, _, _, _, _ => LeO.none
  | f + 1, 0, _, _, _, h => by omega
  | f + 1, g + 1, acc, i, op, h => by
    rw [sVars, sVars]
    exact LeO.ite (LeO.bind (names_le T f g _ _ (by omega)) fun _ _ _ => LeO.bind LeO.rfl' fun _ _ _ => vars_le T f g _ _ _ (by omega)) LeO.rfl'
theorem func_le (T : List Tok) (f g i op : Nat) (h : f ≤ g) : LeO (sFunc T f i op) (sFunc T g i op) := by
  unfold sFunc
  exact LeO.bind LeO.rfl' fun _ _ _ => LeO.bind LeO.rfl' fun _ _ _ => LeO.bind (LeO.ite LeO.rfl' (names_le T f g _ _ h)) fun _ _ _ => LeO.bind LeO.rfl' fun _ _ _ => LeO.bind LeO.rfl' fun _ _ _ =>
    LeO.bind (vars_le T f g _ _ _ h) fun _ _ _ => LeO.bind ((st_le T f g h).2.1 _ _ _) fun _ _ _ => LeO.rfl'
theorem prog_le (T : List Tok) : ∀ (f g : Nat) (p : Pr) (i op : Nat), f ≤ g → LeO (sProg T f p i op) (sProg T g p i op)
  | 0, _, _, _, _, _ => LeO.none
  | f + 1, 0, _, _, _, h => by omega
  | f + 1, g + 1, p, i, op, h => by
    rw [sProg, sProg]
    exact LeO.ite LeO.rfl' (LeO.ite (LeO.bind (vars_le T f g _ _ _ (by omega)) fun _ _ _ => prog_le T f g _ _ _ (by omega)) (LeO.ite (LeO.bind LeO.rfl' fun _ _ _ => prog_le T f g _ _ _ (by omega))
      (LeO.ite (LeO.bind (func_le T f g _ _ (by omega)) fun _ _ _ => prog_le T f g _ _ _ (by omega)) LeO.rfl')))
/-- Up to place m, T's tokens stand in T' too, d places later. -/
def Ag (T T' : List Tok) (d m : Nat) : Prop := ∀ j, j < m → ∃ t t', T[j]? = some t ∧ T'[j + d]? = some t' ∧ t'.kind = t.kind ∧ t'.text = t.text
section
variable {T T' : List Tok} {d m : Nat}
theorem Ag.isTok (h : Ag T T' d m) {i : Nat} (hi : i < m) (xs : List (List UInt8)) : isTok T' (i + d) xs = isTok T i xs := by
  obtain ⟨t, t', h1, h2, h3, h4⟩ := h i hi
  unfold Go.Stele.isTok
  rw [h1, h2]
  simp only [h3, h4]
theorem Ag.text (h : Ag T T' d m) {i : Nat} (hi : i < m) : textAt T' (i + d) = textAt T i := by
  obtain ⟨t, t', h1, h2, h3, h4⟩ := h i hi
  unfold textAt
  rw [h1, h2]
  exact h4
theorem Ag.kind (h : Ag T T' d m) {i : Nat} (hi : i < m) : kindAt T' (i + d) = kindAt T i := by
  obtain ⟨t, t', h1, h2, h3, h4⟩ := h i hi
  unfold kindAt
  rw [h1, h2]
  exact h3
/-- What r computes, starting at i, r' computes d places later, where the place that r comes to lies ahead of m (at m, if r reads nothing behind what it takes). -/
def Ext {A : Type} (d m : Nat) (b : Bool) (i : Nat) (r r' : OR A) : Prop := ∀ v i' op', r = some (.ok v i' op') → i ≤ i' ∧ (b = true → i < i') ∧ (i' < m ∨ (b = true ∧ i' ≤ m) → r' = some (.ok v (i' + d) op'))
theorem Ext.none {A : Type} {b : Bool} {i : Nat} {r' : OR A} : Ext d m b i none r' := fun _ _ _ h => by cases h
theorem Ext.ok {A : Type} {i op : Nat} {v : A} : Ext d m false i (some (.ok v i op)) (some (.ok v (i + d) op)) := fun _ _ _ h => by
  cases h
  exact ⟨Nat.le_refl _, by simp, fun _ => rfl⟩
theorem Ext.bind {A B : Type} {b1 b : Bool} {i : Nat} {r r' : OR A} {f f' : A → Nat → Nat → OR B} (hr : Ext d m b1 i r r') (hf : ∀ v i1 op1, i ≤ i1 → (b1 = true → i < i1) → Ext d m b i1 (f v i1 op1) (f' v (i1 + d) op1)) :
    Ext d m b i (obind r f) (obind r' f') := fun v i' op' h => by
  rcases obind_some h with ⟨w, i1, op1, h1, h2⟩ | ⟨l, e, _, h1⟩
  · obtain ⟨g1, g2, g3⟩ := hr _ _ _ h1
    obtain ⟨k1, k2, k3⟩ := hf _ _ op1 g1 g2 _ _ _ h2
    refine ⟨by omega, fun hb => by have := k2 hb; omega, fun hm => ?_⟩
    rw [g3 (.inl (by
      rcases hm with hm | ⟨hb, hm⟩
      · omega
      · have := k2 hb; omega))]
    exact k3 hm
  · cases h1
theorem Ext.weak {A : Type} {b : Bool} {i j : Nat} {r r' : OR A} (h : Ext d m b j r r') (hij : i ≤ j) : Ext d m b i r r' := fun v i' op' hv => by
  obtain ⟨g1, g2, g3⟩ := h _ _ _ hv
  exact ⟨by omega, fun hb => by have := g2 hb; omega, g3⟩
theorem Ext.soft {A : Type} {b : Bool} {i : Nat} {r r' : OR A} (h : Ext d m true i r r') : Ext d m b i r r' := fun v i' op' hv => by
  obtain ⟨g1, g2, g3⟩ := h _ _ _ hv
  exact ⟨g1, fun _ => g2 rfl, fun hm => g3 (.inr ⟨rfl, by rcases hm with hm | hm <;> omega⟩)⟩
theorem Ext.eq {A : Type} {b : Bool} {i : Nat} {r r' r2 : OR A} (h : Ext d m b i r r') (he : i < m → r2 = r') : Ext d m b i r r2 := fun v i' op' hv => by
  obtain ⟨g1, g2, g3⟩ := h _ _ _ hv
  refine ⟨g1, g2, fun hm => ?_⟩
  rw [he (by
    rcases hm with hm | ⟨hb, hm⟩
    · omega
    · have := g2 hb; omega)]
  exact g3 hm
theorem Ext.ite {A : Type} {b : Bool} {i : Nat} {c c' : Prop} [Decidable c] [Decidable c'] {x y x' y' : OR A} (hc : i < m → (c' ↔ c)) (hx : c → Ext d m b i x x') (hy : ¬c → Ext d m b i y y') :
    Ext d m b i (if c then x else y) (if c' then x' else y') := by
  by_cases h : c
  · refine Ext.eq (r' := x') ?_ fun hi => by rw [if_pos ((hc hi).2 h)]
    rw [if_pos h]
    exact hx h
  · refine Ext.eq (r' := y') ?_ fun hi => by rw [if_neg (fun hh => h ((hc hi).1 hh))]
    rw [if_neg h]
    exact hy h
theorem Ext.tok {A : Type} {b : Bool} (hA : Ag T T' d m) {i : Nat} {xs : List (List UInt8)} {x y x' y' : OR A} (hx : Ext d m b i x x') (hy : Ext d m b i y y') :
    Ext d m b i (if isTok T i xs then x else y) (if isTok T' (i + d) xs then x' else y') := Ext.ite (fun hi => by rw [hA.isTok hi]) (fun _ => hx) (fun _ => hy)
theorem word_ext (hA : Ag T T' d m) (k : Int) (i op : Nat) : Ext d m true i (some (sWord T k i op)) (some (sWord T' k (i + d) op)) := fun v i' op' h => by
  unfold sWord at h
  split at h
  · rename_i t ht
    split at h
    · rename_i hk
      cases h
      refine ⟨by omega, fun _ => by omega, fun hm => ?_⟩
      obtain ⟨t1, t', h1, h2, h3, h4⟩ := hA i (by omega)
      rw [ht] at h1
      cases h1
      unfold sWord
      rw [h2]
      simp only [h3, h4, if_pos hk]
      rw [show i + d + 1 = i + 1 + d by omega]
    · cases h
  · cases h
theorem need_ext (hA : Ag T T' d m) (x : List UInt8) (i op : Nat) : Ext d m true i (some (sNeed T x i op)) (some (sNeed T' x (i + d) op)) := fun v i' op' h => by
  unfold sNeed at h
  split at h
  · rename_i ht
    cases h
    refine ⟨by omega, fun _ => by omega, fun hm => ?_⟩
    unfold sNeed
    rw [hA.isTok (by omega), if_pos ht, show i + d + 1 = i + 1 + d by omega]
  · cases h
theorem begin_ext (hA : Ag T T' d m) (x : List UInt8) (i op : Nat) : Ext d m true i (some (sBegin T x i op)) (some (sBegin T' x (i + d) op)) := fun v i' op' h => by
  unfold sBegin at h
  split at h
  · rename_i ht
    split at h
    · cases h
    · rename_i ho
      cases h
      refine ⟨by omega, fun _ => by omega, fun hm => ?_⟩
      unfold sBegin
      rw [hA.isTok (by omega), if_pos ht, if_neg ho, show i + d + 1 = i + 1 + d by omega]
  · cases h
theorem end_ext (hA : Ag T T' d m) (x : List UInt8) (i op : Nat) : Ext d m true i (some (sEnd T x i op)) (some (sEnd T' x (i + d) op)) := fun v i' op' h => by
  unfold sEnd sNeed at h
  split at h
  · rename_i ht
    cases h
    refine ⟨by omega, fun _ => by omega, fun hm => ?_⟩
    unfold sEnd sNeed
    rw [hA.isTok (by omega), if_pos ht, show i + d + 1 = i + 1 + d by omega]
    rfl
  · cases h
theorem number_ext (hA : Ag T T' d m) (i op : Nat) : Ext d m true i (some (sNumber T i op)) (some (sNumber T' (i + d) op)) := fun v i' op' h => by
  have h0 := word_ext hA 1 i op
  unfold sNumber at h
  cases hw : sWord T 1 i op with
  | err l e => rw [hw] at h; cases h
  | ok s i1 op1 =>
    rw [hw] at h
    cases h
    obtain ⟨g1, g2, g3⟩ := h0 _ _ _ (congrArg some hw)
    refine ⟨g1, g2, fun hm => ?_⟩
    have := g3 hm
    injection this with this
    unfold sNumber
    rw [this]
    rfl
theorem namesLoop_ext (hA : Ag T T' d m) : ∀ (f g : Nat) (acc : List (List UInt8)) (i op : Nat), f ≤ g → Ext d m false i (sNamesLoop T f acc i op) (sNamesLoop T' g acc (i + d) op)
  | 0, _, _, _, _, _ => Ext.none
  | f + 1, 0, _, _, _, h => by omega
  | f + 1, g + 1, acc, i, op, h => by
    rw [sNamesLoop, sNamesLoop]
    refine Ext.tok hA (Ext.bind (b1 := true) ?_ fun v i1 op1 _ _ => namesLoop_ext hA f g _ _ _ (by omega)) Ext.ok
    rw [show i + d + 1 = i + 1 + d by omega]
    exact (word_ext hA 2 (i + 1) op).weak (by omega)
theorem names_ext (hA : Ag T T' d m) (f g i op : Nat) (h : f ≤ g) : Ext d m false i (sNames T f i op) (sNames T' g (i + d) op) :=
  Ext.bind (word_ext hA 2 i op) fun v i1 op1 _ _ => namesLoop_ext hA f g _ _ _ h
/-- What stands between two signs. -/
theorem wrap_ext (hA : Ag T T' d m) {A B : Type} {x y : List UInt8} {i op : Nat} {g g' : Nat → Nat → OR A} {k : A → B} {b : Bool} (hg : ∀ i1 op1, i ≤ i1 → Ext d m b i1 (g i1 op1) (g' (i1 + d) op1)) :
    Ext d m true i (obind (some (sBegin T x i op)) fun _ i' op' => obind (g i' op') fun v i' op' => obind (some (sEnd T y i' op')) fun _ i' op' => some (.ok (k v) i' op'))
      (obind (some (sBegin T' x (i + d) op)) fun _ i' op' => obind (g' i' op') fun v i' op' => obind (some (sEnd T' y i' op')) fun _ i' op' => some (.ok (k v) i' op')) := by
  refine Ext.bind (begin_ext hA x i op) fun _ i1 op1 h1 _ => Ext.bind (hg i1 op1 h1) fun v i2 op2 h2 _ => ?_
  intro w i' op' h
  rcases obind_some h with ⟨u, i3, op3, h3, h4⟩ | ⟨l, e, _, h4⟩
  · cases h4
    obtain ⟨g1, g2, g3⟩ := end_ext hA y i2 op2 _ _ _ h3
    refine ⟨g1, g2, fun hm => ?_⟩
    rw [g3 hm]
    rfl
  · cases h4
theorem ex_ext (hA : Ag T T' d m) : ∀ f g : Nat, f ≤ g → (∀ k i op, Ext d m false i (eLev T f k i op) (eLev T' g k (i + d) op)) ∧ (∀ k e i op, Ext d m false i (eLoop T f k e i op) (eLoop T' g k e (i + d) op)) ∧
    (∀ i op, Ext d m false i (eUnary T f i op) (eUnary T' g (i + d) op)) ∧ (∀ i op, Ext d m false i (ePrim T f i op) (ePrim T' g (i + d) op)) ∧ (∀ i op, Ext d m true i (eIndex T f i op) (eIndex T' g (i + d) op)) ∧
    (∀ i op, Ext d m true i (eArgs T f i op) (eArgs T' g (i + d) op)) ∧ (∀ acc i op, Ext d m false i (eArgsLoop T f acc i op) (eArgsLoop T' g acc (i + d) op))
  | 0, g, _ => ⟨fun _ _ _ => by rw [eLev]; exact Ext.none, fun _ _ _ _ => by rw [eLoop]; exact Ext.none, fun _ _ => by rw [eUnary]; exact Ext.none, fun _ _ => by rw [ePrim]; exact Ext.none, fun _ _ => by rw [eIndex]; exact Ext.none, fun _ _ => by rw [eArgs]; exact Ext.none, fun _ _ _ => by rw [eArgsLoop]; exact Ext.none⟩
  | f + 1, 0, h => by omega
  | f + 1, g + 1, h => by
    obtain ⟨hL, hO, hU, hP, hI, hR, hB⟩ := ex_ext hA f g (by omega)
    refine ⟨fun k i op => ?_, fun k e i op => ?_, fun i op => ?_, fun i op => ?_, fun i op => ?_, fun i op => ?_, fun acc i op => ?_⟩
    · rw [eLev, eLev]
      exact Ext.ite (fun _ => Iff.rfl) (fun _ => hU _ _) (fun _ => Ext.bind (hL _ _ _) fun _ _ _ _ _ => hO _ _ _ _)
    · rw [eLoop, eLoop]
      refine Ext.tok hA ?_ Ext.ok
      refine Ext.eq (r' := obind (eLev T' g (k + 1) (i + d + 1) op) fun e2 i' op' => if k = 2 then some (.ok (.mk (textAt T i) 0 [] [e, e2]) i' op') else eLoop T' g k (.mk (textAt T i) 0 [] [e, e2]) i' op') ?_ fun hi => by rw [hA.text hi]
      rw [show i + d + 1 = i + 1 + d by omega]
      exact Ext.bind ((hL _ _ _).weak (by omega)) fun _ _ _ _ _ => Ext.ite (fun _ => Iff.rfl) (fun _ => Ext.ok) (fun _ => hO _ _ _ _)
    · rw [eUnary, eUnary]
      exact Ext.tok hA (Ext.bind (begin_ext hA _ _ _) fun _ _ _ _ _ => Ext.bind (hU _ _) fun _ _ _ _ _ => Ext.ok) (Ext.tok hA (Ext.bind (begin_ext hA _ _ _) fun _ _ _ _ _ => Ext.bind (hU _ _) fun _ _ _ _ _ => Ext.ok) (hP _ _))
    · rw [ePrim, ePrim]
      refine Ext.tok hA (wrap_ext (k := fun e => e) (g := eLev T f 0) (g' := eLev T' g 0) hA fun _ _ _ => hL 0 _ _).soft ?_
      refine Ext.ite (fun hi => by rw [hA.kind hi]) (fun _ => Ext.bind (number_ext hA _ _) fun _ _ _ _ _ => Ext.ok) (fun _ => ?_)
      exact Ext.bind (word_ext hA 2 _ _) fun _ _ _ _ _ => Ext.tok hA (Ext.bind (hI _ _) fun _ _ _ _ _ => Ext.ok) (Ext.tok hA (Ext.bind (hR _ _) fun _ _ _ _ _ => Ext.ok) Ext.ok)
    · rw [eIndex, eIndex]
      exact wrap_ext (k := fun e => e) (g := eLev T f 0) (g' := eLev T' g 0) hA fun _ _ _ => hL 0 _ _
    · rw [eArgs, eArgs]
      exact wrap_ext (k := fun e => e) (g := eArgsLoop T f []) (g' := eArgsLoop T' g []) hA fun _ _ _ => hB [] _ _
    · rw [eArgsLoop, eArgsLoop]
      refine Ext.tok hA Ext.ok (Ext.bind (b1 := false) ?_ fun _ _ _ _ _ => Ext.bind (hL _ _ _) fun _ _ _ _ _ => hB _ _ _)
      split
      · exact Ext.ok
      · exact (need_ext hA _ _ _).soft
theorem st_ext (hA : Ag T T' d m) : ∀ f g : Nat, f ≤ g → (∀ i op, Ext d m true i (sBlock T f i op) (sBlock T' g (i + d) op)) ∧ (∀ acc i op, Ext d m false i (sStmts T f acc i op) (sStmts T' g acc (i + d) op)) ∧
    (∀ i op, Ext d m false i (sStmt T f i op) (sStmt T' g (i + d) op)) ∧ (∀ i op, Ext d m false i (sSimple T f i op) (sSimple T' g (i + d) op))
  | 0, g, _ => ⟨fun _ _ => by rw [sBlock]; exact Ext.none, fun _ _ _ => by rw [sStmts]; exact Ext.none, fun _ _ => by rw [sStmt]; exact Ext.none, fun _ _ => by rw [sSimple]; exact Ext.none⟩
  | f + 1, 0, h => by omega
  | f + 1, g + 1, h => by
    obtain ⟨hB, hS, hT, hM⟩ := st_ext hA f g (by omega)
    obtain ⟨hL, _, _, _, hI, hR, _⟩ := ex_ext hA f g (by omega)
    refine ⟨fun i op => ?_, fun acc i op => ?_, fun i op => ?_, fun i op => ?_⟩
    · rw [sBlock, sBlock]
      exact wrap_ext (k := fun e => e) (g := sStmts T f []) (g' := sStmts T' g []) hA fun _ _ _ => hS [] _ _
    · rw [sStmts, sStmts]
      exact Ext.tok hA Ext.ok (Ext.bind (hT _ _) fun _ _ _ _ _ => hS _ _ _)
    · rw [sStmt, sStmt]
      rw [show i + d + 1 = i + 1 + d by omega]
      refine Ext.tok hA (Ext.bind ((hL _ _ _).weak (by omega)) fun _ i1 _ _ _ => Ext.bind (hB _ _) fun _ i2 _ _ _ => ?_) (Ext.tok hA (Ext.bind ((hL _ _ _).weak (by omega)) fun _ _ _ _ _ => Ext.bind (hB _ _) fun _ _ _ _ _ => Ext.ok) (Ext.bind (hM _ _) fun _ _ _ _ _ => Ext.bind (need_ext hA _ _ _) fun _ _ _ _ _ => Ext.ok))
      rw [show i2 + d + 1 = i2 + 1 + d by omega]
      exact Ext.tok hA (Ext.bind ((hB _ _).weak (by omega)) fun _ _ _ _ _ => Ext.ok) Ext.ok
    · rw [sSimple, sSimple]
      rw [show i + d + 1 = i + 1 + d by omega]
      exact Ext.tok hA (Ext.bind ((hL _ _ _).weak (by omega)) fun _ _ _ _ _ => Ext.ok) (Ext.tok hA (Ext.weak (Ext.ok (i := i + 1)) (by omega)) (Ext.bind (word_ext hA 2 _ _) fun _ _ _ _ _ => Ext.tok hA (Ext.bind (hR _ _) fun _ _ _ _ _ => Ext.ok)
        (Ext.tok hA (Ext.bind (hI _ _) fun _ _ _ _ _ => Ext.bind (need_ext hA _ _ _) fun _ _ _ _ _ => Ext.bind (hL _ _ _) fun _ _ _ _ _ => Ext.ok) (Ext.bind (need_ext hA _ _ _) fun _ _ _ _ _ => Ext.bind (hL _ _ _) fun _ _ _ _ _ => Ext.ok))))
theorem vars_ext (hA : Ag T T' d m) : ∀ (f g : Nat) (acc : List (List UInt8)) (i op : Nat), f ≤ g → Ext d m false i (sVars T f acc i op) (sVars T' g acc (i + d) op)
  | 0, _, _, _, _, _ => Ext.none
  | f + 1, 0, _, _, _, h => by omega
  | f + 1, g + 1, acc, i, op, h => by
    rw [sVars, sVars, show i + d + 1 = i + 1 + d by omega]
    exact Ext.tok hA (Ext.bind ((names_ext hA f g _ _ (by omega)).weak (by omega)) fun _ _ _ _ _ => Ext.bind (need_ext hA _ _ _) fun _ _ _ _ _ => vars_ext hA f g _ _ _ (by omega)) Ext.ok
/-- A last step that hands on what was computed. -/
theorem last_ext {A B : Type} {i : Nat} {r r' : OR A} {k : A → B} {o : Nat → Nat} (h : Ext d m true i r r') : Ext d m true i (obind r fun v i op => some (.ok (k v) i (o op))) (obind r' fun v i op => some (.ok (k v) i (o op))) := fun w i' op' hw => by
  rcases obind_some hw with ⟨u, i3, op3, h3, h4⟩ | ⟨l, e, _, h4⟩
  · cases h4
    obtain ⟨g1, g2, g3⟩ := h _ _ _ h3
    refine ⟨g1, g2, fun hm => ?_⟩
    rw [g3 hm]
    rfl
  · cases h4
theorem func_ext (hA : Ag T T' d m) (f g i op : Nat) (h : f ≤ g) : Ext d m true i (sFunc T f i op) (sFunc T' g (i + d) op) := by
  unfold sFunc
  refine Ext.bind (word_ext hA 2 _ _) fun _ _ _ _ _ => Ext.bind (begin_ext hA _ _ _) fun _ _ _ _ _ => Ext.bind (b1 := false) (Ext.tok hA Ext.ok (names_ext hA f g _ _ h)) fun _ _ _ _ _ => Ext.bind (end_ext hA _ _ _) fun _ _ _ _ _ =>
    Ext.bind (begin_ext hA _ _ _) fun _ _ _ _ _ => Ext.bind (vars_ext hA f g _ _ _ h) fun _ _ _ _ _ => Ext.bind ((st_ext hA f g h).2.1 _ _ _) fun _ _ _ _ _ => last_ext (o := fun x => x) (end_ext hA _ _ _)
theorem array_ext (hA : Ag T T' d m) (i op : Nat) : Ext d m true i (sArray T i op) (sArray T' (i + d) op) := by
  unfold sArray
  refine Ext.bind (word_ext hA 2 _ _) fun _ _ _ _ _ => Ext.bind (begin_ext hA _ _ _) fun _ _ _ _ _ => Ext.bind (number_ext hA _ _) fun _ _ _ _ _ => Ext.bind (end_ext hA _ _ _) fun _ _ _ _ _ => last_ext (o := fun x => x) (need_ext hA _ _ _)
end
/-- An error has a number that is not 0. -/
def EN {A : Type} (r : OR A) : Prop := ∀ l e, r = some (.err l e) → ¬ e = 0
theorem EN.none {A : Type} : EN (none : OR A) := fun _ _ h => by cases h
theorem EN.ok {A : Type} {v : A} {i op : Nat} : EN (some (.ok v i op)) := fun _ _ h => by cases h
theorem EN.bind {A B : Type} {r : OR A} {f : A → Nat → Nat → OR B} (h : EN r) (hf : ∀ v i op, EN (f v i op)) : EN (obind r f) := fun l e hq => by
  rcases obind_some hq with ⟨v, i, op, _, h2⟩ | ⟨l', e', h1, h2⟩
  · exact hf _ _ _ _ _ h2
  · cases h2
    exact h _ _ h1
theorem EN.ite {A : Type} {c : Prop} [Decidable c] {a b : OR A} (h1 : EN a) (h2 : EN b) : EN (if c then a else b) := by
  split
  · exact h1
  · exact h2
theorem EN.syn {A : Type} {T : List Tok} {i : Nat} : EN (A := A) (some (synErr T i)) := fun l e h => by
  cases h
  decide
theorem EN.word {T : List Tok} {k : Int} {i op : Nat} : EN (some (sWord T k i op)) := by
  unfold sWord
  split
  · split
    · exact EN.ok
    · exact EN.syn
  · exact EN.syn
theorem EN.need {T : List Tok} {x : List UInt8} {i op : Nat} : EN (some (sNeed T x i op)) := by
  unfold sNeed
  split
  · exact EN.ok
  · exact EN.syn
theorem EN.begin {T : List Tok} {x : List UInt8} {i op : Nat} : EN (some (sBegin T x i op)) := by
  unfold sBegin
  split
  · split
    · intro l e h
      cases h
      decide
    · exact EN.ok
  · exact EN.syn
theorem EN.end' {T : List Tok} {x : List UInt8} {i op : Nat} : EN (some (sEnd T x i op)) := by
  unfold sEnd sNeed
  split
  · exact EN.ok
  · exact EN.syn
theorem EN.number {T : List Tok} {i op : Nat} : EN (some (sNumber T i op)) := by
  unfold sNumber sWord
  split
  · split
    · exact EN.ok
    · exact EN.syn
  · exact EN.syn
theorem namesLoop_en (T : List Tok) : ∀ (f : Nat) (acc : List (List UInt8)) (i op : Nat), EN (sNamesLoop T f acc i op)
  | 0, _, _, _ => EN.none
  | f + 1, acc, i, op => by
    rw [sNamesLoop]
    exact EN.ite (EN.bind EN.word fun _ _ _ => namesLoop_en T f _ _ _) EN.ok
theorem names_en (T : List Tok) (f i op : Nat) : EN (sNames T f i op) := EN.bind EN.word fun _ _ _ => namesLoop_en T f _ _ _
theorem ex_en (T : List Tok) : ∀ f : Nat, (∀ k i op, EN (eLev T f k i op)) ∧ (∀ k e i op, EN (eLoop T f k e i op)) ∧ (∀ i op, EN (eUnary T f i op)) ∧ (∀ i op, EN (ePrim T f i op)) ∧ (∀ i op, EN (eIndex T f i op)) ∧ (∀ i op, EN (eArgs T f i op)) ∧ (∀ acc i op, EN (eArgsLoop T f acc i op))
  | 0 => ⟨fun _ _ _ => by rw [eLev]; exact EN.none, fun _ _ _ _ => by rw [eLoop]; exact EN.none, fun _ _ => by rw [eUnary]; exact EN.none, fun _ _ => by rw [ePrim]; exact EN.none, fun _ _ => by rw [eIndex]; exact EN.none, fun _ _ => by rw [eArgs]; exact EN.none, fun _ _ _ => by rw [eArgsLoop]; exact EN.none⟩
  | f + 1 => by
    obtain ⟨hL, hO, hU, hP, hI, hA, hB⟩ := ex_en T f
    refine ⟨fun k i op => ?_, fun k e i op => ?_, fun i op => ?_, fun i op => ?_, fun i op => ?_, fun i op => ?_, fun acc i op => ?_⟩
    · rw [eLev]
      exact EN.ite (hU _ _) (EN.bind (hL _ _ _) fun _ _ _ => hO _ _ _ _)
    · rw [eLoop]
      exact EN.ite (EN.bind (hL _ _ _) fun _ _ _ => EN.ite EN.ok (hO _ _ _ _)) EN.ok
    · rw [eUnary]
      exact EN.ite (EN.bind EN.begin fun _ _ _ => EN.bind (hU _ _) fun _ _ _ => EN.ok) (EN.ite (EN.bind EN.begin fun _ _ _ => EN.bind (hU _ _) fun _ _ _ => EN.ok) (hP _ _))
    · rw [ePrim]
      exact EN.ite (EN.bind EN.begin fun _ _ _ => EN.bind (hL _ _ _) fun _ _ _ => EN.bind EN.end' fun _ _ _ => EN.ok) (EN.ite (EN.bind EN.number fun _ _ _ => EN.ok) (EN.bind EN.word fun _ _ _ => EN.ite (EN.bind (hI _ _) fun _ _ _ => EN.ok) (EN.ite (EN.bind (hA _ _) fun _ _ _ => EN.ok) EN.ok)))
    · rw [eIndex]
      exact EN.bind EN.begin fun _ _ _ => EN.bind (hL _ _ _) fun _ _ _ => EN.bind EN.end' fun _ _ _ => EN.ok
    · rw [eArgs]
      exact EN.bind EN.begin fun _ _ _ => EN.bind (hB _ _ _) fun _ _ _ => EN.bind EN.end' fun _ _ _ => EN.ok
    · rw [eArgsLoop]
      refine EN.ite EN.ok (EN.bind ?_ fun _ _ _ => EN.bind (hL _ _ _) fun _ _ _ => hB _ _ _)
      split
      · exact EN.ok
      · exact EN.need
theorem st_en (T : List Tok) : ∀ f : Nat, (∀ i op, EN (sBlock T f i op)) ∧ (∀ acc i op, EN (sStmts T f acc i op)) ∧ (∀ i op, EN (sStmt T f i op)) ∧ (∀ i op, EN (sSimple T f i op))
  | 0 => ⟨fun _ _ => by rw [sBlock]; exact EN.none, fun _ _ _ => by rw [sStmts]; exact EN.none, fun _ _ => by rw [sStmt]; exact EN.none, fun _ _ => by rw [sSimple]; exact EN.none⟩
  | f + 1 => by
    obtain ⟨hB, hS, hT, hM⟩ := st_en T f
    obtain ⟨hL, _, _, _, hI, hA, _⟩ := ex_en T f
    refine ⟨fun i op => ?_, fun acc i op => ?_, fun i op => ?_, fun i op => ?_⟩
    · rw [sBlock]
      exact EN.bind EN.begin fun _ _ _ => EN.bind (hS _ _ _) fun _ _ _ => EN.bind EN.end' fun _ _ _ => EN.ok
    · rw [sStmts]
      exact EN.ite EN.ok (EN.bind (hT _ _) fun _ _ _ => hS _ _ _)
    · rw [sStmt]
      exact EN.ite (EN.bind (hL _ _ _) fun _ _ _ => EN.bind (hB _ _) fun _ _ _ => EN.ite (EN.bind (hB _ _) fun _ _ _ => EN.ok) EN.ok) (EN.ite (EN.bind (hL _ _ _) fun _ _ _ => EN.bind (hB _ _) fun _ _ _ => EN.ok) (EN.bind (hM _ _) fun _ _ _ => EN.bind EN.need fun _ _ _ => EN.ok))
    · rw [sSimple]
      exact EN.ite (EN.bind (hL _ _ _) fun _ _ _ => EN.ok) (EN.ite EN.ok (EN.bind EN.word fun _ _ _ => EN.ite (EN.bind (hA _ _) fun _ _ _ => EN.ok) (EN.ite (EN.bind (hI _ _) fun _ _ _ => EN.bind EN.need fun _ _ _ => EN.bind (hL _ _ _) fun _ _ _ => EN.ok) (EN.bind EN.need fun _ _ _ => EN.bind (hL _ _ _) fun _ _ _ => EN.ok))))
theorem vars_en (T : List Tok) : ∀ (f : Nat) (acc : List (List UInt8)) (i op : Nat), EN (sVars T f acc i op)
  | 0, _, _, _ => EN.none
  | f + 1, acc, i, op => by
    rw [sVars]
    exact EN.ite (EN.bind (names_en T f _ _) fun _ _ _ => EN.bind EN.need fun _ _ _ => vars_en T f _ _ _) EN.ok
theorem func_en (T : List Tok) (f i op : Nat) : EN (sFunc T f i op) := by
  unfold sFunc
  exact EN.bind EN.word fun _ _ _ => EN.bind EN.begin fun _ _ _ => EN.bind (EN.ite EN.ok (names_en T f _ _)) fun _ _ _ => EN.bind EN.end' fun _ _ _ => EN.bind EN.begin fun _ _ _ => EN.bind (vars_en T f _ _ _) fun _ _ _ => EN.bind ((st_en T f).2.1 _ _ _) fun _ _ _ => EN.bind EN.end' fun _ _ _ => EN.ok
theorem array_en (T : List Tok) (i op : Nat) : EN (sArray T i op) := by
  unfold sArray
  exact EN.bind EN.word fun _ _ _ => EN.bind EN.begin fun _ _ _ => EN.bind EN.number fun _ _ _ => EN.bind EN.end' fun _ _ _ => EN.bind EN.need fun _ _ _ => EN.ok
theorem prog_en (T : List Tok) : ∀ (f : Nat) (p : Pr) (i op : Nat), EN (sProg T f p i op)
  | 0, _, _, _ => EN.none
  | f + 1, p, i, op => by
    rw [sProg]
    exact EN.ite EN.ok (EN.ite (EN.bind (vars_en T f _ _ _) fun _ _ _ => prog_en T f _ _ _) (EN.ite (EN.bind (array_en T _ _) fun _ _ _ => prog_en T f _ _ _) (EN.ite (EN.bind (func_en T f _ _) fun _ _ _ => prog_en T f _ _ _) EN.syn)))
end Go.Stele
namespace Go.Proofs.YtfodkbchknknjaaGreatDoor
open Go.GL Go.RowKit Go.Stele
set_option maxRecDepth 100000
set_option maxHeartbeats 4000000
/-- The reader's state: the place, the open constructs, the line and the error. -/
@[reducible] def rdH (rb : Nat) (T : List Tok) (i : Nat) (op ln er : Int) : Nat × LObj := (rb, .cells 65 [.list (T.map encTok), int .i64 i, int .i64 op, int .i64 ln, int .i64 er])
/-- Without an error the state is that of the plain parser. -/
def Wf (T : List Tok) (o i : Nat) (op ln er : Int) : Prop := er = 0 → ln = 0 ∧ i ≤ T.length ∧ op = (o : Int) ∧ o ≤ 100
/-- What the plain parser makes of a state: an error stays. -/
def stO {A : Type} (o i : Nat) (ln er : Int) (g : Nat → Nat → OR A) : OR A := if er = 0 then g i o else some (.err ln er)
def PostB {A : Type} (B : A → Prop) (rb : Nat) (T : List Tok) (o : Nat) (enc : A → LV) (r : Res A) : LRes → Heap → Prop := fun res H =>
  ∃ v i op ln er, B v ∧ Wf T o i op ln er ∧ stO o i ln er (fun i o => some (.ok v i o)) = some r ∧ res = .ret (enc v) ∧ H = [rdH rb T i op ln er]
@[reducible] def PostQ {A : Type} (rb : Nat) (T : List Tok) (o : Nat) (enc : A → LV) (r : Res A) : LRes → Heap → Prop := PostB (fun _ => True) rb T o enc r
theorem stO_dead {A : Type} {o i : Nat} {ln er : Int} {g : Nat → Nat → OR A} (h : er ≠ 0) : stO o i ln er g = some (.err ln er) := if_neg h
theorem stO_ok {A : Type} {o i : Nat} {ln : Int} {g : Nat → Nat → OR A} : stO o i ln 0 g = g i o := rfl
theorem stO_t {A : Type} {T : List Tok} {o i : Nat} {ln : Int} {xs : List (List UInt8)} {g h : Nat → Nat → OR A} {r : Res A} (ht : isTok T i xs = true) (hr : stO o i ln 0 (fun i o => if isTok T i xs then g i o else h i o) = some r) : stO o i ln 0 g = some r := by
  rw [stO_ok, ht] at hr
  exact hr
theorem stO_f {A : Type} {T : List Tok} {o i : Nat} {ln er : Int} {xs : List (List UInt8)} {g h : Nat → Nat → OR A} {r : Res A} (ht : (decide (er = 0) && isTok T i xs) = false) (hr : stO o i ln er (fun i o => if isTok T i xs then g i o else h i o) = some r) : stO o i ln er h = some r := by
  by_cases he : er = 0
  · subst he
    have : isTok T i xs = false := by simpa using ht
    rw [stO_ok, this] at hr
    exact hr
  · rw [stO_dead he] at hr ⊢
    exact hr
theorem stO_go {A B : Type} {o o' i i' : Nat} {ln er ln' er' : Int} {g : Nat → Nat → OR A} {k : A → Nat → Nat → OR B} {r1 : Res A} {r : Res B} {v : A} (h1 : stO o i ln er g = some r1) (hr : stO o i ln er (fun i o => obind (g i o) k) = some r)
    (h2 : stO o' i' ln' er' (fun i o => some (.ok v i o)) = some r1) : stO o' i' ln' er' (k v) = some r := by
  by_cases he : er = 0
  · subst he
    rw [stO_ok] at h1 hr
    rw [h1] at hr
    by_cases he' : er' = 0
    · subst he'
      rw [stO_ok] at h2 ⊢
      cases h2
      exact hr
    · rw [stO_dead he'] at h2 ⊢
      cases h2
      exact hr
  · rw [stO_dead he] at h1 hr
    cases h1
    by_cases he' : er' = 0
    · subst he'
      rw [stO_ok] at h2
      cases h2
    · rw [stO_dead he'] at h2 ⊢
      cases h2
      exact hr
theorem stO_some {A B : Type} {o i : Nat} {ln er : Int} {g : Nat → Nat → OR A} {k : A → Nat → Nat → OR B} {r : Res B} (hr : stO o i ln er (fun i o => obind (g i o) k) = some r) : ∃ r1, stO o i ln er g = some r1 := by
  by_cases he : er = 0
  · subst he
    rw [stO_ok] at hr
    rcases obind_some hr with ⟨v, i1, o1, h, _⟩ | ⟨l, e, h, _⟩
    · exact ⟨_, h⟩
    · exact ⟨_, h⟩
  · exact ⟨_, stO_dead he⟩
section steps
variable {C : Ctx} {e : Env} {H : Heap} {dst : Option Nat} {ty : TypeId} {pos : String} {aft : Array Edge} {gd : Option (Nat × Bool)} {K : LV → Heap → Prop} {X : List PanicEntry → Heap → Prop}
theorem stO_alive {A : Type} {o o' i i' : Nat} {ln er ln' er' : Int} {g : Nat → Nat → OR A} {r1 : Res A} {v : A} (h1 : stO o i ln er g = some r1) (h2 : stO o' i' ln' er' (fun i o => some (.ok v i o)) = some r1) (h : er' = 0) : er = 0 ∧ g i o = some (.ok v i' o') := by
  subst h
  rw [stO_ok] at h2
  cases h2
  by_cases he : er = 0
  · subst he
    exact ⟨rfl, h1⟩
  · rw [stO_dead he] at h1
    cases h1
theorem S.callB {A B : Type} {enc : A → LV} {P : A → Prop} {rb o o' i : Nat} {op ln er : Int} {T : List Tok} {f : FuncId} [TEnter C.P f] {g : Nat → Nat → OR A} {k : A → Nat → Nat → OR B} {r : Res B} (args : List Operand) {ats : Array TypeId} {av : List LV} {F : Heap} (has : args.map e.ev = av) (hp : Pick (rdH rb T i op ln er) H F)
    (hr : stO o i ln er (fun i o => obind (g i o) k) = some r) (hc : ∀ r1, stO o i ln er g = some r1 → LCalls C f av [rdH rb T i op ln er] (PostB P rb T o' enc r1))
    (hk : ∀ v i' op' ln' er', P v → Wf T o' i' op' ln' er' → (er' = 0 → er = 0 ∧ g i o = some (.ok v i' o')) → stO o' i' ln' er' (k v) = some r → K (enc v) (rdH rb T i' op' ln' er' :: F)) :
    LStep C ⟨dst, .call { callee := .value (.func f), args := args.toArray, argTypes := ats }, ty, pos, aft, gd⟩ e H K X := by
  obtain ⟨r1, h1⟩ := stO_some hr
  refine S.call1 args has hp (hc r1 h1) ?_ ?_
  · rintro v H' ⟨u, i', op', ln', er', hb, hw, h2, h3, rfl⟩
    cases h3
    exact hk _ _ _ _ _ hb hw (stO_alive h1 h2) (stO_go h1 hr h2)
  · rintro ch H' ⟨u, i', op', ln', er', hb, hw, h2, h3, _⟩
    cases h3
theorem S.callQ {A B : Type} {enc : A → LV} {rb o o' i : Nat} {op ln er : Int} {T : List Tok} {f : FuncId} [TEnter C.P f] {g : Nat → Nat → OR A} {k : A → Nat → Nat → OR B} {r : Res B} (args : List Operand) {ats : Array TypeId} {av : List LV} {F : Heap} (has : args.map e.ev = av) (hp : Pick (rdH rb T i op ln er) H F)
    (hr : stO o i ln er (fun i o => obind (g i o) k) = some r) (hc : ∀ r1, stO o i ln er g = some r1 → LCalls C f av [rdH rb T i op ln er] (PostQ rb T o' enc r1))
    (hk : ∀ v i' op' ln' er', Wf T o' i' op' ln' er' → (er' = 0 → er = 0 ∧ g i o = some (.ok v i' o')) → stO o' i' ln' er' (k v) = some r → K (enc v) (rdH rb T i' op' ln' er' :: F)) :
    LStep C ⟨dst, .call { callee := .value (.func f), args := args.toArray, argTypes := ats }, ty, pos, aft, gd⟩ e H K X :=
  S.callB args has hp hr hc fun v i' op' ln' er' _ => hk v i' op' ln' er'
theorem retQ {A : Type} {enc : A → LV} {r : Res A} {rb o i : Nat} {op ln er : Int} {T : List Tok} {n : Nat} {rs : List ResultVar} {vs : List LV} {v : A} (hd : e.ds = []) (h : AllRes C n e H rs vs) (hw : Wf T o i op ln er) (hr : stO o i ln er (fun i o => some (.ok v i o)) = some r) (hv : resLV vs = enc v) (hH : HSub [rdH rb T i op ln er] H) :
    RetPost C n rs (PostQ rb T o enc r) .ret e H := RetPost.ret hd h hH ⟨v, i, op, ln, er, trivial, hw, hr, by rw [hv], rfl⟩
theorem retQn {A : Type} {enc : A → LV} {r : Res A} {rb o i : Nat} {op ln er : Int} {T : List Tok} {n : Nat} {rs : List ResultVar} {vs : List LV} {v : A} (hd : e.ds = []) (h : AllRes C n e H rs vs) (hw : Wf T o i op ln er) (hr : stO o i ln er (fun i o => some (.ok v i o)) = some r) (hv : resLV vs = enc v) (hH : HSub [rdH rb T i op ln er] H) :
    RetPost C n rs (PostQ rb T o enc r) .normal e H := RetPost.normal hd h hH ⟨v, i, op, ln, er, trivial, hw, hr, by rw [hv], rfl⟩
theorem retB {A : Type} {enc : A → LV} {P : A → Prop} {r : Res A} {rb o i : Nat} {op ln er : Int} {T : List Tok} {n : Nat} {rs : List ResultVar} {vs : List LV} {v : A} (hd : e.ds = []) (h : AllRes C n e H rs vs) (hb : P v) (hw : Wf T o i op ln er) (hr : stO o i ln er (fun i o => some (.ok v i o)) = some r) (hv : resLV vs = enc v) (hH : HSub [rdH rb T i op ln er] H) :
    RetPost C n rs (PostB P rb T o enc r) .ret e H := RetPost.ret hd h hH ⟨v, i, op, ln, er, hb, hw, hr, by rw [hv], rfl⟩
end steps
theorem wf_dead {T : List Tok} {o i : Nat} {op ln er : Int} (h : er ≠ 0) : Wf T o i op ln er := fun h' => absurd h' h
theorem tok_none {T : List Tok} {i : Nat} (h : T.length ≤ i) (xs : List (List UInt8)) : isTok T i xs = false := by rw [isTok, List.getElem?_eq_none h]
theorem tok_at {T : List Tok} {i : Nat} (h : i < T.length) (xs : List (List UInt8)) : isTok T i xs = ((decide (T[i].kind = 3) || decide (T[i].kind = 4)) && xs.contains T[i].text) := by rw [isTok, List.getElem?_eq_getElem h]
theorem kind_at {T : List Tok} {i : Nat} (h : i < T.length) : kindAt T i = T[i].kind := by rw [kindAt, List.getElem?_eq_getElem h]
theorem kind_none {T : List Tok} {i : Nat} (h : T.length ≤ i) : kindAt T i = 0 := by rw [kindAt, List.getElem?_eq_none h]
attribute [local irreducible] LOps LCode LStep LCalls Go.GL.Pure QThen QBlock RetPost LQ LAny LLate LLateOp
section
variable {B0 : Nat} {w0 : World}
theorem qnext_spec (rb : Nat) (T : List Tok) (i : Nat) (op ln er : Int) (x : List UInt8) (hT : T.length ≤ 100000) :
    LCalls (KC B0 w0) 30 [ptr rb 0, str x] [rdH rb T i op ln er] (fun r H => r = .ret (bool (decide (er = 0) && isTok T i [x])) ∧ H = [rdH rb T i op ln er]) := by
  refine LCalls.intro Tryz.func30 rfl (n := 65) rfl rfl rfl ?_
  repeat first
    | refine LOps.nil ?_
    | refine LCode.seq ?_
    | refine LCode.region ?_
    | refine QThen.normal ?_
    | refine LOps.pure (Pure.as (lv := .atom _) rfl) rfl ?_
  refine LCode.cut [(4, bool (decide (er = 0) && isTok T i [x]))] ?_ (fun j hj => ?_)
  · refine LCode.quiet (by kernel_rfl) ?_
    repeat first
      | refine LQ.pure (Pure.mv (lv := .atom _) rfl) rfl ?_
      | refine LQ.pure (Pure.nilCheckH rfl) rfl ?_
      | refine LQ.pure (Pure.fieldH rfl) rfl ?_
      | refine LQ.pure (Pure.loadH (c := .atom _) rfl (List.Mem.head _) rfl) rfl ?_
      | refine LQ.pure (Pure.eql rfl rfl) rfl ?_
    refine LQ.bcase 10 rfl (fun h => ?_) (fun h => ?_)
    · rw [h]
      repeat first
        | refine LQ.pure (Pure.mv (lv := .atom _) rfl) rfl ?_
        | refine LQ.pure (Pure.nilCheckH rfl) rfl ?_
        | refine LQ.pure (Pure.fieldH rfl) rfl ?_
        | refine LQ.pure (Pure.loadH (c := .atom _) rfl (List.Mem.head _) rfl) rfl ?_
        | refine LQ.pure (Pure.loadH (c := .list _) rfl (List.Mem.head _) rfl) rfl ?_
        | refine LQ.pure (Pure.llen rfl) rfl ?_
        | refine LQ.pure (Pure.lss rfl rfl) rfl ?_
        | refine LQ.pure (Pure.pickT (lv := .atom _) rfl rfl) rfl ?_
        | refine LQ.want rfl rfl ?_
      refine LQ.bcase 22 rfl (fun h1 => ?_) (fun h1 => ?_)
      · have hlt : i < T.length := by have := of_decide_eq_true h1; simp only [List.length_map] at this; omega
        rw [tok_at hlt]
        repeat first
          | refine LQ.pure (Pure.mv (lv := .atom _) rfl) rfl ?_
          | refine LQ.pure (Pure.nilCheckH rfl) rfl ?_
          | refine LQ.pure (Pure.fieldH rfl) rfl ?_
          | refine LQ.pure (Pure.loadH (c := .atom _) rfl (List.Mem.head _) rfl) rfl ?_
          | refine LQ.pure (Pure.loadH (c := .list _) rfl (List.Mem.head _) rfl) rfl ?_
          | refine LQ.want rfl rfl ?_
        refine LQ.pure (Pure.ixRef (el' := encTok T[i]) (cs := [_, _, _]) rfl rfl (by omega) (map_get _ _ _ hlt) rfl rfl) rfl ?_
        repeat first
          | refine LQ.pure (Pure.mv (lv := .atom _) rfl) rfl ?_
          | refine LQ.pure (Pure.field1 rfl rfl) rfl ?_
          | refine LQ.pure (Pure.loadRef (c := .atom _) rfl rfl) rfl ?_
          | refine LQ.pure (Pure.eql rfl rfl) rfl ?_
          | refine LQ.want rfl rfl ?_
        refine LQ.bcase 35 rfl (fun h2 => ?_) (fun h2 => ?_)
        · repeat first
            | refine LQ.pure (Pure.mv (lv := .atom _) rfl) rfl ?_
            | refine LQ.pure (Pure.nilCheckH rfl) rfl ?_
            | refine LQ.pure (Pure.fieldH rfl) rfl ?_
            | refine LQ.pure (Pure.loadH (c := .atom _) rfl (List.Mem.head _) rfl) rfl ?_
            | refine LQ.pure (Pure.loadH (c := .list _) rfl (List.Mem.head _) rfl) rfl ?_
            | refine LQ.pure (Pure.pickT (lv := .atom _) rfl rfl) rfl ?_
            | refine LQ.want rfl rfl ?_
            | refine LQ.skip rfl rfl rfl rfl ?_
          refine LQ.pure (Pure.ixRef (el' := encTok T[i]) (cs := [_, _, _]) rfl rfl (by omega) (map_get _ _ _ hlt) rfl rfl) rfl ?_
          repeat first
            | refine LQ.pure (Pure.as (lv := .atom _) rfl) rfl ?_
            | refine LQ.pure (Pure.mv (lv := .atom _) rfl) rfl ?_
            | refine LQ.pure (Pure.field1 rfl rfl) rfl ?_
            | refine LQ.pure (Pure.loadRef (c := .atom _) rfl rfl) rfl ?_
            | refine LQ.pure (Pure.pickT (lv := .atom _) rfl rfl) rfl ?_
            | refine LQ.pure (Pure.seq rfl rfl) rfl ?_
            | refine LQ.want rfl rfl ?_
            | refine LQ.nil ?_
            | refine QThen.normal ?_
          exact ⟨⟨bool_eq (by rw [h2]; simp), trivial⟩, rfl, rfl⟩
        · repeat first
            | refine LQ.pure (Pure.mv (lv := .atom _) rfl) rfl ?_
            | refine LQ.pure (Pure.nilCheckH rfl) rfl ?_
            | refine LQ.pure (Pure.fieldH rfl) rfl ?_
            | refine LQ.pure (Pure.loadH (c := .atom _) rfl (List.Mem.head _) rfl) rfl ?_
            | refine LQ.pure (Pure.loadH (c := .list _) rfl (List.Mem.head _) rfl) rfl ?_
            | refine LQ.want rfl rfl ?_
          refine LQ.pure (Pure.ixRef (el' := encTok T[i]) (cs := [_, _, _]) rfl rfl (by omega) (map_get _ _ _ hlt) rfl rfl) rfl ?_
          repeat first
            | refine LQ.pure (Pure.mv (lv := .atom _) rfl) rfl ?_
            | refine LQ.pure (Pure.field1 rfl rfl) rfl ?_
            | refine LQ.pure (Pure.loadRef (c := .atom _) rfl rfl) rfl ?_
            | refine LQ.pure (Pure.eql rfl rfl) rfl ?_
            | refine LQ.pure (Pure.pickT (lv := .atom _) rfl rfl) rfl ?_
            | refine LQ.pure (Pure.pickF (lv := .atom _) rfl rfl) rfl ?_
            | refine LQ.want rfl rfl ?_
          refine LQ.bcase 50 rfl (fun h3 => ?_) (fun h3 => ?_)
          · repeat first
              | refine LQ.pure (Pure.mv (lv := .atom _) rfl) rfl ?_
              | refine LQ.pure (Pure.nilCheckH rfl) rfl ?_
              | refine LQ.pure (Pure.fieldH rfl) rfl ?_
              | refine LQ.pure (Pure.loadH (c := .atom _) rfl (List.Mem.head _) rfl) rfl ?_
              | refine LQ.pure (Pure.loadH (c := .list _) rfl (List.Mem.head _) rfl) rfl ?_
              | refine LQ.want rfl rfl ?_
            refine LQ.pure (Pure.ixRef (el' := encTok T[i]) (cs := [_, _, _]) rfl rfl (by omega) (map_get _ _ _ hlt) rfl rfl) rfl ?_
            repeat first
              | refine LQ.pure (Pure.as (lv := .atom _) rfl) rfl ?_
              | refine LQ.pure (Pure.mv (lv := .atom _) rfl) rfl ?_
              | refine LQ.pure (Pure.field1 rfl rfl) rfl ?_
              | refine LQ.pure (Pure.loadRef (c := .atom _) rfl rfl) rfl ?_
              | refine LQ.pure (Pure.pickT (lv := .atom _) rfl rfl) rfl ?_
              | refine LQ.pure (Pure.seq rfl rfl) rfl ?_
              | refine LQ.want rfl rfl ?_
              | refine LQ.nil ?_
              | refine QThen.normal ?_
            exact ⟨⟨bool_eq (by rw [h3]; simp), trivial⟩, rfl, rfl⟩
          · repeat first
              | refine LQ.pure (Pure.as (lv := .atom _) rfl) rfl ?_
              | refine LQ.pure (Pure.pickF (lv := .atom _) rfl rfl) rfl ?_
              | refine LQ.skip rfl rfl rfl rfl ?_
              | refine LQ.nil ?_
              | refine QThen.normal ?_
            exact ⟨⟨bool_eq (by rw [h2, h3]; rfl), trivial⟩, rfl, rfl⟩
      · have hge : T.length ≤ i := by have := of_decide_eq_false h1; simp only [List.length_map] at this; omega
        rw [tok_none hge]
        repeat first
          | refine LQ.pure (Pure.as (lv := .atom _) rfl) rfl ?_
          | refine LQ.pure (Pure.mv (lv := .atom _) rfl) rfl ?_
          | refine LQ.pure (Pure.pickF (lv := .atom _) rfl rfl) rfl ?_
          | refine LQ.skip rfl rfl rfl rfl ?_
          | refine LQ.skipU rfl rfl rfl ?_
          | refine LQ.nil ?_
          | refine QThen.normal ?_
        exact ⟨⟨rfl, trivial⟩, rfl, rfl⟩
    · rw [h]
      repeat first
        | refine LQ.pure (Pure.as (lv := .atom _) rfl) rfl ?_
        | refine LQ.pure (Pure.mv (lv := .atom _) rfl) rfl ?_
        | refine LQ.pure (Pure.pickF (lv := .atom _) rfl rfl) rfl ?_
        | refine LQ.skip rfl rfl rfl rfl ?_
        | refine LQ.skipU rfl rfl rfl ?_
        | refine LQ.nil ?_
        | refine QThen.normal ?_
      exact ⟨⟨rfl, trivial⟩, rfl, rfl⟩
  · repeat first
      | refine LCode.ret ?_
    exact RetPost.ret hj (AllRes.cons (ResIs.tmp (v := .atom _) rfl (LV.Sub.refl _)) AllRes.nil) (HSub.refl _) ⟨rfl, rfl⟩
theorem qkind_spec (rb : Nat) (T : List Tok) (i : Nat) (op ln er : Int) (k : Int) (hk : k ≠ 0) (hT : T.length ≤ 100000) :
    LCalls (KC B0 w0) 66 [ptr rb 0, int .i64 k] [rdH rb T i op ln er] (fun r H => r = .ret (bool (decide (er = 0) && decide (kindAt T i = k))) ∧ H = [rdH rb T i op ln er]) := by
  refine LCalls.intro Tryz.func66 rfl (n := 37) rfl rfl rfl ?_
  repeat first
    | refine LOps.nil ?_
    | refine LCode.seq ?_
    | refine LCode.region ?_
    | refine QThen.normal ?_
    | refine LOps.pure (Pure.as (lv := .atom _) rfl) rfl ?_
  refine LCode.cut [(4, bool (decide (er = 0) && decide (kindAt T i = k)))] ?_ (fun j hj => ?_)
  · refine LCode.quiet (by kernel_rfl) ?_
    repeat first
      | refine LQ.pure (Pure.mv (lv := .atom _) rfl) rfl ?_
      | refine LQ.pure (Pure.nilCheckH rfl) rfl ?_
      | refine LQ.pure (Pure.fieldH rfl) rfl ?_
      | refine LQ.pure (Pure.loadH (c := .atom _) rfl (List.Mem.head _) rfl) rfl ?_
      | refine LQ.pure (Pure.eql rfl rfl) rfl ?_
    refine LQ.bcase 10 rfl (fun h => ?_) (fun h => ?_)
    · rw [h]
      repeat first
        | refine LQ.pure (Pure.mv (lv := .atom _) rfl) rfl ?_
        | refine LQ.pure (Pure.nilCheckH rfl) rfl ?_
        | refine LQ.pure (Pure.fieldH rfl) rfl ?_
        | refine LQ.pure (Pure.loadH (c := .atom _) rfl (List.Mem.head _) rfl) rfl ?_
        | refine LQ.pure (Pure.loadH (c := .list _) rfl (List.Mem.head _) rfl) rfl ?_
        | refine LQ.pure (Pure.llen rfl) rfl ?_
        | refine LQ.pure (Pure.lss rfl rfl) rfl ?_
        | refine LQ.pure (Pure.pickT (lv := .atom _) rfl rfl) rfl ?_
        | refine LQ.want rfl rfl ?_
      refine LQ.bcase 22 rfl (fun h1 => ?_) (fun h1 => ?_)
      · have hlt : i < T.length := by have := of_decide_eq_true h1; simp only [List.length_map] at this; omega
        rw [kind_at hlt]
        repeat first
          | refine LQ.pure (Pure.mv (lv := .atom _) rfl) rfl ?_
          | refine LQ.pure (Pure.nilCheckH rfl) rfl ?_
          | refine LQ.pure (Pure.fieldH rfl) rfl ?_
          | refine LQ.pure (Pure.loadH (c := .atom _) rfl (List.Mem.head _) rfl) rfl ?_
          | refine LQ.pure (Pure.loadH (c := .list _) rfl (List.Mem.head _) rfl) rfl ?_
          | refine LQ.want rfl rfl ?_
        refine LQ.pure (Pure.ixRef (el' := encTok T[i]) (cs := [_, _, _]) rfl rfl (by omega) (map_get _ _ _ hlt) rfl rfl) rfl ?_
        repeat first
          | refine LQ.pure (Pure.as (lv := .atom _) rfl) rfl ?_
          | refine LQ.pure (Pure.mv (lv := .atom _) rfl) rfl ?_
          | refine LQ.pure (Pure.field1 rfl rfl) rfl ?_
          | refine LQ.pure (Pure.loadRef (c := .atom _) rfl rfl) rfl ?_
          | refine LQ.pure (Pure.eql rfl rfl) rfl ?_
          | refine LQ.pure (Pure.pickT (lv := .atom _) rfl rfl) rfl ?_
          | refine LQ.want rfl rfl ?_
          | refine LQ.nil ?_
          | refine QThen.normal ?_
        exact ⟨⟨rfl, trivial⟩, rfl, rfl⟩
      · have hge : T.length ≤ i := by have := of_decide_eq_false h1; simp only [List.length_map] at this; omega
        rw [kind_none hge]
        repeat first
          | refine LQ.pure (Pure.as (lv := .atom _) rfl) rfl ?_
          | refine LQ.pure (Pure.pickF (lv := .atom _) rfl rfl) rfl ?_
          | refine LQ.skip rfl rfl rfl rfl ?_
          | refine LQ.nil ?_
          | refine QThen.normal ?_
        exact ⟨⟨bool_eq (by simp [hk.symm]), trivial⟩, rfl, rfl⟩
    · rw [h]
      repeat first
        | refine LQ.pure (Pure.as (lv := .atom _) rfl) rfl ?_
        | refine LQ.pure (Pure.mv (lv := .atom _) rfl) rfl ?_
        | refine LQ.pure (Pure.pickF (lv := .atom _) rfl rfl) rfl ?_
        | refine LQ.skip rfl rfl rfl rfl ?_
        | refine LQ.nil ?_
        | refine QThen.normal ?_
      exact ⟨⟨rfl, trivial⟩, rfl, rfl⟩
  · repeat first
      | refine LCode.ret ?_
    exact RetPost.ret hj (AllRes.cons (ResIs.tmp (v := .atom _) rfl (LV.Sub.refl _)) AllRes.nil) (HSub.refl _) ⟨rfl, rfl⟩
theorem qfail_dead (rb : Nat) (T : List Tok) (i : Nat) (op ln er x : Int) (he : er ≠ 0) :
    LCalls (KC B0 w0) 38 [ptr rb 0, int .i64 x] [rdH rb T i op ln er] (fun r H => r = .ret (.tuple []) ∧ H = [rdH rb T i op ln er]) := by
  refine LCalls.intro Tryz.func38 rfl (n := 53) rfl rfl rfl ?_
  repeat first
    | refine LOps.nil ?_
    | refine LCode.seq ?_
    | refine LCode.region ?_
    | refine QThen.normal ?_
    | refine LOps.pure (Pure.mv (lv := .atom _) rfl) rfl ?_
    | refine LOps.pure (Pure.nilCheckH rfl) rfl ?_
    | refine LOps.pure (Pure.fieldH rfl) rfl ?_
    | refine LOps.pure (Pure.loadH (c := .atom _) rfl (List.Mem.head _) rfl) rfl ?_
    | refine LOps.pure (Pure.neq rfl rfl) rfl ?_
  refine LCode.cond rfl (fun hc => ?_) (fun hc => ?_)
  · repeat first
      | refine LCode.ret ?_
      | refine QThen.ret ?_
    exact RetPost.ret rfl AllRes.nil (HSub.refl _) ⟨rfl, rfl⟩
  · exact absurd (by simpa using hc) he
theorem qfail_alive (rb : Nat) (T : List Tok) (i : Nat) (op : Int) (x : Int) (hT : T.length ≤ 100000) (h0 : 0 < T.length) (hi : i ≤ 1000000) :
    LCalls (KC B0 w0) 38 [ptr rb 0, int .i64 x] [rdH rb T i op 0 0] (fun r H => r = .ret (.tuple []) ∧ H = [rdH rb T i op (failLine T i) x]) := by
  have hml : (T.map encTok).length = T.length := List.length_map _
  have hlast : T.length - 1 < T.length := by omega
  refine LCalls.intro Tryz.func38 rfl (n := 53) rfl rfl rfl ?_
  repeat first
    | refine LOps.nil ?_
    | refine LCode.seq ?_
    | refine LCode.region ?_
    | refine QThen.normal ?_
    | refine LOps.pure (Pure.mv (lv := .atom _) rfl) rfl ?_
    | refine LOps.pure (Pure.nilCheckH rfl) rfl ?_
    | refine LOps.pure (Pure.fieldH rfl) rfl ?_
    | refine LOps.pure (Pure.loadH (c := .atom _) rfl (List.Mem.head _) rfl) rfl ?_
    | refine LOps.pure (Pure.neq rfl rfl) rfl ?_
  refine LCode.cond rfl (fun hc => ?_) (fun hc => ?_)
  · cases hc
  repeat first
    | refine LOps.nil ?_
    | refine LCode.seq ?_
    | refine LCode.region ?_
    | refine LCode.skip ?_
    | refine QThen.normal ?_
    | refine LOps.pure (Pure.mv (lv := .atom _) rfl) rfl ?_
    | refine LOps.pure (Pure.nilCheckH rfl) rfl ?_
    | refine LOps.pure (Pure.fieldH rfl) rfl ?_
    | refine LOps.step (S.store (cs' := [_, _, _, _, _]) rfl Pick.here rfl rfl rfl rfl rfl ?_) rfl
  refine LCode.tail 16 (by kernel_rfl) ?_
  repeat first
    | refine LS.pure (Pure.mv (lv := .atom _) rfl) rfl ?_
    | refine LS.pure (Pure.nilCheckH rfl) rfl ?_
    | refine LS.pure (Pure.fieldH rfl) rfl ?_
    | refine LS.pure (Pure.loadH (c := .list _) rfl (List.Mem.head _) rfl) rfl ?_
    | refine LS.pure (Pure.llen rfl) rfl ?_
    | refine LS.pure (Pure.sub rfl rfl (by omega)) rfl ?_
  refine LS.pure (Pure.ixRef (n := ((T.length - 1 : Nat) : Int)) (el' := encTok T[T.length - 1]) (cs := [_, _, _]) rfl (int_eq (by rw [hml]; omega)) (by omega) (map_get _ _ _ hlast) rfl rfl) rfl ?_
  repeat first
    | refine LS.pure (Pure.nilCheckH rfl) rfl ?_
    | refine LS.pure (Pure.fieldH rfl) rfl ?_
    | refine LS.pure (Pure.field1 rfl rfl) rfl ?_
    | refine LS.pure (Pure.loadRef (c := .atom _) rfl rfl) rfl ?_
    | refine LS.nil ?_
  repeat first
    | refine LOps.nil ?_
    | refine LCode.seq ?_
    | refine QThen.normal ?_
    | refine LOps.step (S.store (cs' := [_, _, _, _, _]) rfl Pick.here rfl rfl rfl rfl rfl ?_) rfl
  refine LCode.quiet (by kernel_rfl) ?_
  repeat first
    | refine LQ.pure (Pure.mv (lv := .atom _) rfl) rfl ?_
    | refine LQ.pure (Pure.nilCheckH rfl) rfl ?_
    | refine LQ.pure (Pure.fieldH rfl) rfl ?_
    | refine LQ.pure (Pure.loadH (c := .atom _) rfl (List.Mem.head _) rfl) rfl ?_
    | refine LQ.pure (Pure.loadH (c := .list _) rfl (List.Mem.head _) rfl) rfl ?_
    | refine LQ.pure (Pure.llen rfl) rfl ?_
    | refine LQ.pure (Pure.lss rfl rfl) rfl ?_
    | refine LQ.nil ?_
    | refine QThen.normal ?_
  refine LCode.cond rfl (fun h1 => ?_) (fun h1 => ?_)
  · have hlt : i < T.length := by have := of_decide_eq_true h1; simp only [List.length_map] at this; omega
    refine LCode.tail 14 (by kernel_rfl) ?_
    repeat first
      | refine LS.pure (Pure.mv (lv := .atom _) rfl) rfl ?_
      | refine LS.pure (Pure.nilCheckH rfl) rfl ?_
      | refine LS.pure (Pure.fieldH rfl) rfl ?_
      | refine LS.pure (Pure.loadH (c := .atom _) rfl (List.Mem.head _) rfl) rfl ?_
      | refine LS.pure (Pure.loadH (c := .list _) rfl (List.Mem.head _) rfl) rfl ?_
    refine LS.pure (Pure.ixRef (el' := encTok T[i]) (cs := [_, _, _]) rfl rfl (by omega) (map_get _ _ _ hlt) rfl rfl) rfl ?_
    repeat first
      | refine LS.pure (Pure.nilCheckH rfl) rfl ?_
      | refine LS.pure (Pure.fieldH rfl) rfl ?_
      | refine LS.pure (Pure.field1 rfl rfl) rfl ?_
      | refine LS.pure (Pure.loadRef (c := .atom _) rfl rfl) rfl ?_
      | refine LS.nil ?_
    repeat first
      | refine LOps.nil ?_
      | refine LOps.step (S.store (cs' := [_, _, _, _, _]) rfl Pick.here rfl rfl rfl rfl rfl ?_) rfl
    exact RetPost.normal rfl AllRes.nil (HSub.refl _) ⟨rfl, by rw [failLine, Nat.min_eq_left (by omega), List.getElem?_eq_getElem hlt]⟩
  · have hge : T.length ≤ i := by have := of_decide_eq_false h1; simp only [List.length_map] at this; omega
    repeat first
      | refine LCode.skip ?_
    exact RetPost.normal rfl AllRes.nil (HSub.refl _) ⟨rfl, by rw [failLine, Nat.min_eq_right (by omega), List.getElem?_eq_getElem hlast]⟩
end
end Go.Proofs.YtfodkbchknknjaaGreatDoor
namespace Go.Proofs.YtfodkbchknknjaaGreatDoor
open Go.GL Go.RowKit Go.Stele
set_option maxRecDepth 100000
set_option maxHeartbeats 4000000
attribute [local irreducible] LOps LCode LStep LCalls Go.GL.Pure QThen QBlock RetPost LQ LAny LLate LLateOp LS
section
variable {B0 : Nat} {w0 : World}
theorem qwant_spec (rb : Nat) (T : List Tok) (o i : Nat) (op ln er : Int) (x : List UInt8) (hT : T.length ≤ 100000) (h0 : 0 < T.length) (hw : Wf T o i op ln er) (r : Res Unit) (hr : stO o i ln er (fun i o => some (sNeed T x i o)) = some r) :
    LCalls (KC B0 w0) 32 [ptr rb 0, str x] [rdH rb T i op ln er] (PostQ rb T o encU r) := by
  refine LCalls.intro Tryz.func32 rfl (n := 16) rfl rfl rfl ?_
  repeat first
    | refine LCode.seq ?_
    | refine LCode.region ?_
    | refine LOps.pure (Pure.mv (lv := .atom _) rfl) rfl ?_
  refine LOps.step (S.fnH [_, _] rfl Pick.here (qnext_spec rb T i op ln er x hT) ?_) rfl
  repeat first
    | refine LOps.nil ?_
    | refine QThen.normal ?_
  refine LCode.cond rfl (fun hc => ?_) (fun hc => ?_)
  · obtain ⟨he, ht⟩ := Bool.and_eq_true_iff.1 hc
    obtain rfl := of_decide_eq_true he
    obtain ⟨rfl, hi, rfl, ho⟩ := hw rfl
    have hlt := isTok_lt ht
    rw [stO_ok, sNeed, if_pos ht] at hr
    repeat first
      | refine LOps.nil ?_
      | refine LCode.seq ?_
      | refine LCode.region ?_
      | refine LCode.ret ?_
      | refine QThen.normal ?_
      | refine QThen.ret ?_
      | refine LOps.pure (Pure.mv (lv := .atom _) rfl) rfl ?_
      | refine LOps.pure (Pure.nilCheckH rfl) rfl ?_
      | refine LOps.pure (Pure.fieldH rfl) rfl ?_
      | refine LOps.pure (Pure.loadH (c := .atom _) rfl (List.Mem.head _) rfl) rfl ?_
      | refine LOps.pure (Pure.add rfl rfl (by omega)) rfl ?_
      | refine LOps.step (S.store (cs' := [_, _, _, _, _]) rfl Pick.here rfl rfl rfl rfl rfl ?_) rfl
    exact retQ (v := ()) (i := i + 1) (ln := 0) (er := 0) rfl AllRes.nil (fun _ => ⟨rfl, hlt, rfl, ho⟩) hr rfl (HSub.refl _)
  · by_cases he : er = 0
    · subst he
      obtain ⟨rfl, hi, rfl, ho⟩ := hw rfl
      have ht : isTok T i [x] = false := by simpa using hc
      rw [stO_ok, sNeed, if_neg (by rw [ht]; decide)] at hr
      repeat first
        | refine LCode.region ?_
        | refine LCode.skip ?_
        | refine QThen.normal ?_
        | refine LOps.pure (Pure.mv (lv := .atom _) rfl) rfl ?_
      refine LOps.step (S.fnH [_, _] rfl Pick.here (qfail_alive rb T i o 3 hT h0 (by omega)) ?_) rfl
      repeat first
        | refine LOps.nil ?_
      exact retQn (v := ()) rfl AllRes.nil (wf_dead (by decide)) (by rw [stO_dead (by decide)]; exact hr) rfl (HSub.refl _)
    · rw [stO_dead he] at hr
      repeat first
        | refine LCode.region ?_
        | refine LCode.skip ?_
        | refine QThen.normal ?_
        | refine LOps.pure (Pure.mv (lv := .atom _) rfl) rfl ?_
      refine LOps.step (S.fnH [_, _] rfl Pick.here (qfail_dead rb T i op ln er 3 he) ?_) rfl
      repeat first
        | refine LOps.nil ?_
      exact retQn (v := ()) rfl AllRes.nil (wf_dead he) (by rw [stO_dead he]; exact hr) rfl (HSub.refl _)
theorem qenter_spec (rb : Nat) (T : List Tok) (o i : Nat) (op ln er : Int) (x : List UInt8) (hT : T.length ≤ 100000) (h0 : 0 < T.length) (hw : Wf T o i op ln er) (r : Res Unit) (hr : stO o i ln er (fun i o => some (sBegin T x i o)) = some r) :
    LCalls (KC B0 w0) 34 [ptr rb 0, str x] [rdH rb T i op ln er] (PostQ rb T (o + 1) encU r) := by
  refine LCalls.intro Tryz.func34 rfl (n := 31) rfl rfl rfl ?_
  repeat first
    | refine LCode.seq ?_
    | refine LCode.region ?_
    | refine LOps.pure (Pure.mv (lv := .atom _) rfl) rfl ?_
  refine LOps.step (S.fnH [_, _] rfl Pick.here (qnext_spec rb T i op ln er x hT) ?_) rfl
  repeat first
    | refine LOps.nil ?_
    | refine QThen.normal ?_
    | refine LOps.pure (Pure.not rfl) rfl ?_
  refine LCode.cond rfl (fun hc => ?_) (fun hc => ?_)
  · have hc' : (decide (er = 0) && isTok T i [x]) = false := by simpa only [Bool.not_eq_true'] using hc
    by_cases he : er = 0
    · subst he
      obtain ⟨rfl, hi, rfl, ho⟩ := hw rfl
      have ht : isTok T i [x] = false := by simpa using hc'
      rw [stO_ok, sBegin, if_neg (by rw [ht]; decide)] at hr
      repeat first
        | refine LCode.seq ?_
        | refine LCode.region ?_
        | refine LOps.pure (Pure.mv (lv := .atom _) rfl) rfl ?_
      refine LOps.step (S.fnH [_, _] rfl Pick.here (qfail_alive rb T i o 3 hT h0 (by omega)) ?_) rfl
      repeat first
        | refine LOps.nil ?_
        | refine LCode.ret ?_
        | refine QThen.normal ?_
        | refine QThen.ret ?_
      exact retQ (v := ()) rfl AllRes.nil (wf_dead (by decide)) (by rw [stO_dead (by decide)]; exact hr) rfl (HSub.refl _)
    · rw [stO_dead he] at hr
      repeat first
        | refine LCode.seq ?_
        | refine LCode.region ?_
        | refine LOps.pure (Pure.mv (lv := .atom _) rfl) rfl ?_
      refine LOps.step (S.fnH [_, _] rfl Pick.here (qfail_dead rb T i op ln er 3 he) ?_) rfl
      repeat first
        | refine LOps.nil ?_
        | refine LCode.ret ?_
        | refine QThen.normal ?_
        | refine QThen.ret ?_
      exact retQ (v := ()) rfl AllRes.nil (wf_dead he) (by rw [stO_dead he]; exact hr) rfl (HSub.refl _)
  · have hc' : (decide (er = 0) && isTok T i [x]) = true := by simpa only [Bool.not_eq_false'] using hc
    obtain ⟨he, ht⟩ := Bool.and_eq_true_iff.1 hc'
    obtain rfl := of_decide_eq_true he
    obtain ⟨rfl, hi, rfl, ho⟩ := hw rfl
    have hlt := isTok_lt ht
    rw [stO_ok, sBegin, if_pos ht] at hr
    repeat first
      | refine LOps.nil ?_
      | refine LCode.seq ?_
      | refine LCode.region ?_
      | refine LCode.skip ?_
      | refine QThen.normal ?_
      | refine LOps.pure (Pure.mv (lv := .atom _) rfl) rfl ?_
      | refine LOps.pure (Pure.nilCheckH rfl) rfl ?_
      | refine LOps.pure (Pure.fieldH rfl) rfl ?_
      | refine LOps.pure (Pure.loadH (c := .atom _) rfl (List.Mem.head _) rfl) rfl ?_
      | refine LOps.pure (Pure.eql rfl rfl) rfl ?_
    refine LCode.cond rfl (fun h1 => ?_) (fun h1 => ?_)
    · have h1' : (o : Int) = 100 := of_decide_eq_true h1
      rw [if_pos (by omega)] at hr
      repeat first
        | refine LCode.seq ?_
        | refine LCode.region ?_
        | refine LOps.pure (Pure.mv (lv := .atom _) rfl) rfl ?_
      refine LOps.step (S.fnH [_, _] rfl Pick.here (qfail_alive rb T i o 6 hT h0 (by omega)) ?_) rfl
      repeat first
        | refine LOps.nil ?_
        | refine LCode.ret ?_
        | refine QThen.normal ?_
        | refine QThen.ret ?_
      exact retQ (v := ()) rfl AllRes.nil (wf_dead (by decide)) (by rw [stO_dead (by decide)]; exact hr) rfl (HSub.refl _)
    · have h1' : ¬ (o : Int) = 100 := of_decide_eq_false h1
      rw [if_neg (by omega)] at hr
      repeat first
        | refine LOps.nil ?_
        | refine LCode.seq ?_
        | refine LCode.region ?_
        | refine LCode.skip ?_
        | refine QThen.normal ?_
        | refine LOps.pure (Pure.mv (lv := .atom _) rfl) rfl ?_
        | refine LOps.pure (Pure.nilCheckH rfl) rfl ?_
        | refine LOps.pure (Pure.fieldH rfl) rfl ?_
        | refine LOps.pure (Pure.loadH (c := .atom _) rfl (List.Mem.head _) rfl) rfl ?_
        | refine LOps.pure (Pure.add rfl rfl (by omega)) rfl ?_
        | refine LOps.step (S.store (cs' := [_, _, _, _, _]) rfl Pick.here rfl rfl rfl rfl rfl ?_) rfl
      exact retQn (v := ()) (i := i + 1) (ln := 0) (er := 0) rfl AllRes.nil (fun _ => ⟨rfl, hlt, by omega, by omega⟩) hr rfl (HSub.refl _)
theorem qleave_spec (rb : Nat) (T : List Tok) (o i : Nat) (op ln er : Int) (x : List UInt8) (hT : T.length ≤ 100000) (h0 : 0 < T.length) (hw : Wf T (o + 1) i op ln er) (r : Res Unit) (hr : stO (o + 1) i ln er (fun i o => some (sEnd T x i o)) = some r) :
    LCalls (KC B0 w0) 36 [ptr rb 0, str x] [rdH rb T i op ln er] (PostQ rb T o encU r) := by
  refine LCalls.intro Tryz.func36 rfl (n := 14) rfl rfl rfl ?_
  repeat first
    | refine LCode.seq ?_
    | refine LCode.region ?_
    | refine LOps.pure (Pure.mv (lv := .atom _) rfl) rfl ?_
  have hr' : stO (o + 1) i ln er (fun i o => obind (some (sNeed T x i o)) fun _ i o => some (.ok () i (o - 1))) = some r := by
    rw [← hr]
    congr 1
    funext i o
    unfold sEnd
    cases sNeed T x i o <;> rfl
  refine LOps.step (S.callQ (rb := rb) (T := T) (o := o + 1) (o' := o + 1) [_, _] rfl Pick.here hr' (fun r1 h1 => qwant_spec rb T (o + 1) i op ln er x hT h0 hw r1 h1) fun v i' op' ln' er' hw' _ hr' => ?_) rfl
  repeat first
    | refine LOps.nil ?_
    | refine LCode.region ?_
    | refine QThen.normal ?_
    | refine LOps.pure (Pure.mv (lv := .atom _) rfl) rfl ?_
    | refine LOps.pure (Pure.nilCheckH rfl) rfl ?_
    | refine LOps.pure (Pure.fieldH rfl) rfl ?_
    | refine LOps.pure (Pure.loadH (c := .atom _) rfl (List.Mem.head _) rfl) rfl ?_
  by_cases he : er' = 0
  · subst he
    obtain ⟨rfl, hi, rfl, ho⟩ := hw' rfl
    refine LOps.pure (Pure.sub rfl rfl (by omega)) rfl ?_
    repeat first
      | refine LOps.nil ?_
      | refine LOps.pure (Pure.nilCheckH rfl) rfl ?_
      | refine LOps.pure (Pure.fieldH rfl) rfl ?_
      | refine LOps.step (S.store (cs' := [_, _, _, _, _]) rfl Pick.here rfl rfl rfl rfl rfl ?_) rfl
    exact retQn (v := ()) (ln := 0) (er := 0) rfl AllRes.nil (fun _ => ⟨rfl, hi, by omega, by omega⟩) hr' rfl (HSub.refl _)
  · refine LOps.pure (Pure.subW rfl rfl) rfl ?_
    repeat first
      | refine LOps.nil ?_
      | refine LOps.pure (Pure.nilCheckH rfl) rfl ?_
      | refine LOps.pure (Pure.fieldH rfl) rfl ?_
      | refine LOps.step (S.store (cs' := [_, _, _, _, _]) rfl Pick.here rfl rfl rfl rfl rfl ?_) rfl
    exact retQn (v := ()) rfl AllRes.nil (wf_dead he) ((stO_dead he).trans ((stO_dead he).symm.trans hr')) rfl (HSub.refl _)
theorem qname_spec (rb : Nat) (T : List Tok) (o i : Nat) (op ln er : Int) (hT : T.length ≤ 100000) (h0 : 0 < T.length) (hw : Wf T o i op ln er) (r : Res (List UInt8)) (hr : stO o i ln er (fun i o => some (sWord T 2 i o)) = some r) :
    LCalls (KC B0 w0) 33 [ptr rb 0] [rdH rb T i op ln er] (PostQ rb T o str r) := by
  refine LCalls.intro Tryz.func33 rfl (n := 27) rfl rfl rfl ?_
  repeat first
    | refine LOps.nil ?_
    | refine LCode.seq ?_
    | refine LCode.region ?_
    | refine QThen.normal ?_
    | refine LOps.pure (Pure.as (lv := .atom _) rfl) rfl ?_
    | refine LOps.pure (Pure.mv (lv := .atom _) rfl) rfl ?_
  refine LOps.step (S.fnH [_, _] rfl Pick.here (qkind_spec rb T i op ln er 2 (by decide) hT) ?_) rfl
  repeat first
    | refine LOps.nil ?_
    | refine QThen.normal ?_
    | refine LOps.pure (Pure.not rfl) rfl ?_
  refine LCode.cond rfl (fun hc => ?_) (fun hc => ?_)
  · have hc' : (decide (er = 0) && decide (kindAt T i = 2)) = false := by simpa only [Bool.not_eq_true'] using hc
    by_cases he : er = 0
    · subst he
      obtain ⟨rfl, hi, rfl, ho⟩ := hw rfl
      have hk : ¬ kindAt T i = 2 := by simpa using hc'
      have hs : sWord T 2 i o = synErr T i := by
        unfold sWord
        unfold kindAt at hk
        split
        · rename_i t ht
          rw [ht] at hk
          rw [if_neg hk]
        · rfl
      rw [stO_ok, hs] at hr
      repeat first
        | refine LCode.seq ?_
        | refine LCode.region ?_
        | refine LOps.pure (Pure.mv (lv := .atom _) rfl) rfl ?_
      refine LOps.step (S.fnH [_, _] rfl Pick.here (qfail_alive rb T i o 3 hT h0 (by omega)) ?_) rfl
      repeat first
        | refine LOps.nil ?_
        | refine LCode.seq ?_
        | refine LCode.region ?_
        | refine LCode.ret ?_
        | refine QThen.normal ?_
        | refine QThen.ret ?_
        | refine LOps.pure (Pure.as (lv := .atom _) rfl) rfl ?_
      exact retQ (v := []) rfl (AllRes.cons (ResIs.tmp (v := .atom _) rfl (LV.Sub.refl _)) AllRes.nil) (wf_dead (by decide)) (by rw [stO_dead (by decide)]; exact hr) rfl (HSub.refl _)
    · rw [stO_dead he] at hr
      repeat first
        | refine LCode.seq ?_
        | refine LCode.region ?_
        | refine LOps.pure (Pure.mv (lv := .atom _) rfl) rfl ?_
      refine LOps.step (S.fnH [_, _] rfl Pick.here (qfail_dead rb T i op ln er 3 he) ?_) rfl
      repeat first
        | refine LOps.nil ?_
        | refine LCode.seq ?_
        | refine LCode.region ?_
        | refine LCode.ret ?_
        | refine QThen.normal ?_
        | refine QThen.ret ?_
        | refine LOps.pure (Pure.as (lv := .atom _) rfl) rfl ?_
      exact retQ (v := []) rfl (AllRes.cons (ResIs.tmp (v := .atom _) rfl (LV.Sub.refl _)) AllRes.nil) (wf_dead he) (by rw [stO_dead he]; exact hr) rfl (HSub.refl _)
  · have hc' : (decide (er = 0) && decide (kindAt T i = 2)) = true := by simpa only [Bool.not_eq_false'] using hc
    obtain ⟨he, hk⟩ := Bool.and_eq_true_iff.1 hc'
    obtain rfl := of_decide_eq_true he
    obtain ⟨rfl, hi, rfl, ho⟩ := hw rfl
    have hk := of_decide_eq_true hk
    have hlt : i < T.length := by
      rcases Nat.lt_or_ge i T.length with h | h
      · exact h
      · rw [kind_none h] at hk; cases hk
    rw [kind_at hlt] at hk
    have hs : sWord T 2 i o = .ok T[i].text (i + 1) o := by rw [sWord, List.getElem?_eq_getElem hlt]; simp only; rw [if_pos hk]
    rw [stO_ok, hs] at hr
    repeat first
      | refine LOps.nil ?_
      | refine LCode.seq ?_
      | refine LCode.region ?_
      | refine LCode.skip ?_
      | refine QThen.normal ?_
      | refine LOps.pure (Pure.mv (lv := .atom _) rfl) rfl ?_
      | refine LOps.pure (Pure.nilCheckH rfl) rfl ?_
      | refine LOps.pure (Pure.fieldH rfl) rfl ?_
      | refine LOps.pure (Pure.loadH (c := .atom _) rfl (List.Mem.head _) rfl) rfl ?_
      | refine LOps.pure (Pure.add rfl rfl (by omega)) rfl ?_
      | refine LOps.step (S.store (cs' := [_, _, _, _, _]) rfl Pick.here rfl rfl rfl rfl rfl ?_) rfl
    refine LCode.cutTo [(2, str T[i].text)] [rdH rb T (i + 1) o 0 0] ?_ (fun j hj => ?_)
    · refine LCode.quiet (by kernel_rfl) ?_
      repeat first
        | refine LQ.pure (Pure.mv (lv := .atom _) rfl) rfl ?_
        | refine LQ.pure (Pure.nilCheckH rfl) rfl ?_
        | refine LQ.pure (Pure.fieldH rfl) rfl ?_
        | refine LQ.pure (Pure.loadH (c := .atom _) rfl (List.Mem.head _) rfl) rfl ?_
        | refine LQ.pure (Pure.loadH (c := .list _) rfl (List.Mem.head _) rfl) rfl ?_
        | refine LQ.pure (Pure.sub rfl rfl (by omega)) rfl ?_
      refine LQ.pure (Pure.ixRef (n := ((i : Nat) : Int)) (el' := encTok T[i]) (cs := [_, _, _]) rfl (int_eq (by omega)) (by omega) (map_get _ _ _ hlt) rfl rfl) rfl ?_
      repeat first
        | refine LQ.pure (Pure.as (lv := .atom _) rfl) rfl ?_
        | refine LQ.pure (Pure.field1 rfl rfl) rfl ?_
        | refine LQ.pure (Pure.loadRef (c := .atom _) rfl rfl) rfl ?_
        | refine LQ.nil ?_
        | refine QThen.normal ?_
      exact ⟨⟨rfl, trivial⟩, rfl, rfl⟩
    · repeat first
        | refine LCode.ret ?_
      exact retQ (v := T[i].text) (i := i + 1) (ln := 0) (er := 0) hj (AllRes.cons (ResIs.tmp (v := .atom _) rfl (LV.Sub.refl _)) AllRes.nil) (fun _ => ⟨rfl, hlt, rfl, ho⟩) hr rfl (HSub.refl _)
end
end Go.Proofs.YtfodkbchknknjaaGreatDoor
namespace Go.Stele
theorem skip_white {c : UInt8} (hc : isWhite c = true) (b : List UInt8) : skipLen (c :: b) = (b.takeWhile isWhite).length + 1 := by
  have h47 : ([47, 47] : List UInt8).isPrefixOf (c :: b) = false := by
    cases h : ([47, 47] : List UInt8).isPrefixOf (c :: b) with
    | false => rfl
    | true =>
      simp only [List.isPrefixOf, Bool.and_eq_true, beq_iff_eq] at h
      rw [← h.1] at hc
      exact absurd hc (by decide)
  unfold skipLen
  rw [h47, if_neg (by decide), List.takeWhile_cons_of_pos hc]
  rfl
theorem skip_zero {s : List UInt8} (h : skipLen s = 0) : ([47, 47] : List UInt8).isPrefixOf s = false ∧ s.takeWhile isWhite = [] := by
  unfold skipLen at h
  split at h
  · rename_i hp
    obtain ⟨r, rfl⟩ := List.isPrefixOf_iff_prefix.1 hp
    rw [List.cons_append, List.takeWhile_cons_of_pos (by decide)] at h
    cases h
  · rename_i hp
    exact ⟨Bool.eq_false_iff.2 hp, List.eq_nil_of_length_eq_zero h⟩
theorem lexP_fuel : ∀ (f g : Nat) (s : List UInt8) (line : Int), s.length ≤ f → s.length ≤ g → lexP f s line = lexP g s line
  | 0, g, s, line, hf, _ => by
    have : s = [] := List.eq_nil_of_length_eq_zero (by omega)
    subst this
    cases g with
    | zero => rfl
    | succ g => rw [lexP, lexP, if_pos rfl]
  | f + 1, 0, s, line, _, hg => by
    have : s = [] := List.eq_nil_of_length_eq_zero (by omega)
    subst this
    rw [lexP, lexP, if_pos rfl]
  | f + 1, g + 1, s, line, hf, hg => by
    rw [lexP, lexP]
    by_cases h0 : s = []
    · rw [if_pos h0, if_pos h0]
    rw [if_neg h0, if_neg h0]
    by_cases hk : skipLen s = 0
    · rw [if_pos hk, if_pos hk]
      by_cases he : (lexToken s).2.2 ≠ 0
      · rw [if_pos he, if_pos he]
      · rw [if_neg he, if_neg he]
        obtain ⟨h1, h2⟩ := lexToken_size s (by simpa using he)
        rw [lexP_fuel f g _ _ (by rw [List.length_drop]; omega) (by rw [List.length_drop]; omega)]
    · rw [if_neg hk, if_neg hk]
      exact lexP_fuel f g _ _ (by rw [List.length_drop]; omega) (by rw [List.length_drop]; omega)
/-- The tokens of s, as many as there are. -/
def lexAt (s : List UInt8) (line : Int) : Except (Int × Int) (List Tok) := lexP s.length s line
theorem lexAt_eq {f : Nat} {s : List UInt8} (h : s.length ≤ f) (line : Int) : lexP f s line = lexAt s line := lexP_fuel _ _ _ _ h (Nat.le_refl _)
theorem lexAt_nil (line : Int) : lexAt [] line = .ok [] := rfl
theorem lexAt_white {c : UInt8} (hc : isWhite c = true) (b : List UInt8) (line : Int) : lexAt (c :: b) line = lexAt b (line + (([c] : List UInt8).count 10 : Nat)) := by
  rw [← lexAt_eq (f := b.length + 1) (by simp), lexP, if_neg (by simp), if_neg (by rw [skip_white hc]; omega), skip_white hc, List.drop_succ_cons, List.take_succ_cons, lexAt_eq (by rw [List.length_drop]; omega)]
  cases b with
  | nil => simp [lexAt_nil]
  | cons d b =>
    by_cases hd : isWhite d = true
    · rw [← lexAt_eq (f := b.length + 1) (s := d :: b) (by simp), lexP, if_neg (by simp), if_neg (by rw [skip_white hd]; omega), skip_white hd, List.takeWhile_cons_of_pos hd, List.length_cons, List.drop_succ_cons, List.take_succ_cons, lexAt_eq (by rw [List.length_drop]; omega)]
      congr 1
      rw [List.count_cons, List.count_singleton, List.count_cons]
      omega
    · rw [List.takeWhile_cons_of_neg hd]
      simp
theorem tw_app {p : UInt8 → Bool} (hp : p 10 = false) (b : List UInt8) : ∀ s : List UInt8, (s ++ 10 :: b).takeWhile p = s.takeWhile p
  | [] => by rw [List.nil_append, List.takeWhile_cons_of_neg (by simp [hp])]; rfl
  | c :: s => by
    rw [List.cons_append]
    by_cases h : p c = true
    · rw [List.takeWhile_cons_of_pos h, List.takeWhile_cons_of_pos h, tw_app hp b s]
    · rw [List.takeWhile_cons_of_neg h, List.takeWhile_cons_of_neg h]
theorem pre_app (b : List UInt8) : ∀ (x s : List UInt8), (10 : UInt8) ∉ x → x.isPrefixOf (s ++ 10 :: b) = x.isPrefixOf s
  | [], s, _ => by simp
  | c :: x, [], h => by
    have : ¬ c = 10 := fun hc => h (by rw [hc]; exact List.mem_cons_self ..)
    simp [List.isPrefixOf, this]
  | c :: x, d :: s, h => by
    have := pre_app b x s fun hx => h (List.mem_cons_of_mem _ hx)
    simp only [List.cons_append, List.isPrefixOf, this]
theorem find_app (b s : List UInt8) : ∀ L : List (List UInt8), (∀ x ∈ L, (10 : UInt8) ∉ x) → L.find? (fun x => x.isPrefixOf (s ++ 10 :: b)) = L.find? (fun x => x.isPrefixOf s)
  | [], _ => rfl
  | x :: L, h => by
    rw [List.find?_cons, List.find?_cons, pre_app b x s (h x (List.mem_cons_self ..)), find_app b s L fun y hy => h y (List.mem_cons_of_mem _ hy)]
theorem wordNext_app (b s : List UInt8) {n : Nat} (hn : n ≤ s.length) : wordNext (s ++ 10 :: b) n = wordNext s n := by
  unfold wordNext
  rcases Nat.lt_or_ge n s.length with h | h
  · rw [List.getElem?_append_left h]
  · have : n = s.length := by omega
    subst this
    rw [List.getElem?_append_right (Nat.le_refl _), List.getElem?_eq_none (Nat.le_refl _)]
    rw [Nat.sub_self, List.getElem?_cons_zero]
    rfl
theorem lexToken_app (b s : List UInt8) (h : (lexToken s).2.2 = 0) : lexToken (s ++ 10 :: b) = lexToken s := by
  match s with
  | [] => simp [lexToken, tokErr] at h
  | c :: r =>
    simp only [List.cons_append, lexToken] at h ⊢
    by_cases hc : isDigit c = true
    · rw [if_pos hc, if_pos hc]
      unfold lexNumber
      have e1 : (c :: (r ++ 10 :: b)).takeWhile isDigit = (c :: r).takeWhile isDigit := tw_app (by decide) b (c :: r)
      have e2 := wordNext_app b (c :: r) (takeWhile_le isDigit (c :: r))
      rw [List.cons_append] at e2
      rw [e1, e2]
    rw [if_neg hc] at h ⊢
    rw [if_neg hc]
    by_cases hl : isLetter c = true
    · rw [if_pos hl, if_pos hl]
      unfold lexName
      have e1 : (c :: (r ++ 10 :: b)).takeWhile isInner = (c :: r).takeWhile isInner := tw_app (by decide) b (c :: r)
      rw [e1]
    rw [if_neg hl] at h ⊢
    rw [if_neg hl]
    by_cases hq : decide (cv c = 39) = true
    · rw [if_pos hq] at h ⊢
      rw [if_pos hq]
      match r with
      | [] => simp [lexLiteral, tokErr] at h
      | [d] => simp [lexLiteral, tokErr] at h
      | d :: e :: r => rfl
    · rw [if_neg hq, if_neg hq]
      unfold lexSign
      have e1 := find_app b (c :: r) signs (by decide)
      rw [List.cons_append] at e1
      rw [e1]
theorem lexAt_app (b : List UInt8) : ∀ (n : Nat) (s : List UInt8) (line : Int) (A : List Tok), s.length ≤ n → lexAt s line = .ok A → lexAt (s ++ 10 :: b) line = (lexAt b (line + (s.count 10 : Nat) + 1)).map (A ++ ·)
  | n, [], line, A, _, h => by
    rw [lexAt_nil] at h
    cases h
    rw [List.nil_append, lexAt_white (by decide)]
    simp
    cases lexAt b (line + 1) <;> rfl
  | 0, c :: r, _, _, hn, _ => by simp at hn
  | n + 1, c :: r, line, A, hn, h => by
    by_cases hw : isWhite c = true
    · rw [lexAt_white hw] at h
      rw [List.cons_append, lexAt_white hw, lexAt_app b n r _ A (by simpa using hn) h]
      rw [List.count_cons (l := r), List.count_singleton]
      congr 2
      omega
    have hkeep : (c :: r).takeWhile isWhite = [] := List.takeWhile_cons_of_neg hw
    have hp : ([47, 47] : List UInt8).isPrefixOf (c :: r ++ 10 :: b) = ([47, 47] : List UInt8).isPrefixOf (c :: r) := pre_app b [47, 47] (c :: r) (by decide)
    have hk : skipLen (c :: r ++ 10 :: b) = skipLen (c :: r) := by
      unfold skipLen
      rw [hp, tw_app (by decide), hkeep, List.cons_append, List.takeWhile_cons_of_neg hw]
    rw [← lexAt_eq (f := n + 1) hn, lexP, if_neg (by simp)] at h
    rw [← lexAt_eq (f := (r ++ 10 :: b).length + 1) (by simp), lexP, if_neg (by simp), hk]
    by_cases hz : skipLen (c :: r) = 0
    · rw [if_pos hz] at h ⊢
      by_cases he : (lexToken (c :: r)).2.2 ≠ 0
      · rw [if_pos he] at h
        cases h
      have he' : (lexToken (c :: r)).2.2 = 0 := by simpa using he
      rw [if_neg he] at h
      obtain ⟨h1, h2⟩ := lexToken_size _ he'
      rw [lexToken_app b _ he', if_neg he, List.drop_append_of_le_length h2, List.take_append_of_le_length h2]
      rw [lexAt_eq (by rw [List.length_drop]; omega)] at h
      rw [lexAt_eq (by simp only [List.length_append, List.length_drop, List.length_cons] at h2 ⊢; omega)]
      cases hx : lexAt ((c :: r).drop (lexToken (c :: r)).2.1) (line + (((c :: r).take (lexToken (c :: r)).2.1).count 10 : Nat)) with
      | error e => rw [hx] at h; cases h
      | ok A2 =>
        rw [hx] at h
        cases h
        rw [lexAt_app b n _ _ A2 (by rw [List.length_drop]; omega) hx]
        have hc : (c :: r).count 10 = ((c :: r).take (lexToken (c :: r)).2.1).count 10 + ((c :: r).drop (lexToken (c :: r)).2.1).count 10 := by rw [← List.count_append, List.take_append_drop]
        rw [show line + (((c :: r).take (lexToken (c :: r)).2.1).count 10 : Nat) + (((c :: r).drop (lexToken (c :: r)).2.1).count 10 : Nat) + 1 = line + ((c :: r).count 10 : Nat) + 1 by rw [hc]; omega]
        cases lexAt b (line + ((c :: r).count 10 : Nat) + 1) <;> rfl
    · rw [if_neg hz] at h ⊢
      have h2 := skipLen_le (c :: r)
      rw [List.drop_append_of_le_length h2, List.take_append_of_le_length h2]
      rw [lexAt_eq (by rw [List.length_drop]; omega)] at h
      rw [lexAt_eq (by simp only [List.length_append, List.length_drop, List.length_cons] at h2 ⊢; omega)]
      rw [lexAt_app b n _ _ A (by rw [List.length_drop]; omega) h]
      have hc : (c :: r).count 10 = ((c :: r).take (skipLen (c :: r))).count 10 + ((c :: r).drop (skipLen (c :: r))).count 10 := by rw [← List.count_append, List.take_append_drop]
      congr 2
      rw [hc]
      omega
def kt (t : Tok) : Int × List UInt8 := (t.kind, t.text)
/-- The number of the first line changes nothing but the lines. -/
theorem lexP_line : ∀ (f : Nat) (s : List UInt8) (l1 l2 : Int) (A : List Tok), lexP f s l1 = .ok A → ∃ B, lexP f s l2 = .ok B ∧ B.map kt = A.map kt
  | 0, _, _, _, _, h => by
    cases h
    exact ⟨[], rfl, rfl⟩
  | f + 1, s, l1, l2, A, h => by
    rw [lexP] at h ⊢
    split at h
    · rename_i h0
      cases h
      rw [if_pos h0]
      exact ⟨[], rfl, rfl⟩
    rename_i h0
    rw [if_neg h0]
    split at h
    · rename_i hk
      rw [if_pos hk]
      split at h
      · cases h
      · rename_i he
        rw [if_neg he]
        cases hx : lexP f (s.drop (lexToken s).2.1) (l1 + ((s.take (lexToken s).2.1).count 10 : Nat)) with
        | error e => rw [hx] at h; cases h
        | ok A2 =>
          rw [hx] at h
          cases h
          obtain ⟨B, h1, h2⟩ := lexP_line f _ _ (l2 + ((s.take (lexToken s).2.1).count 10 : Nat)) A2 hx
          rw [h1]
          exact ⟨_, rfl, by rw [List.map_cons, List.map_cons, h2]; rfl⟩
    · rename_i hk
      rw [if_neg hk]
      exact lexP_line f _ _ _ A h
end Go.Stele
namespace Go.Stele
open Go.Lib
/-- A token's text is read as that token. -/
def Again (t : Tok) : Prop := t.text.length ≤ 24 ∧ t.text ≠ [] ∧ skipLen t.text = 0 ∧ (10 : UInt8) ∉ t.text ∧ lexToken t.text = (⟨t.kind, t.text, 0⟩, t.text.length, 0)
theorem skip_head {c : UInt8} {r : List UInt8} (hw : isWhite c = false) (h47 : c ≠ 47) : skipLen (c :: r) = 0 := by
  have h : ([47, 47] : List UInt8).isPrefixOf (c :: r) = false := by
    cases h : ([47, 47] : List UInt8).isPrefixOf (c :: r) with
    | false => rfl
    | true =>
      simp only [List.isPrefixOf, Bool.and_eq_true, beq_iff_eq] at h
      exact absurd h.1.symm h47
  unfold skipLen
  rw [h, if_neg (by decide), List.takeWhile_cons_of_neg (by rw [hw]; decide)]
  rfl
theorem digit_of {d : Nat} (h : d < 10) : isDigit (UInt8.ofNat (48 + d)) = true := by
  have h1 : (UInt8.ofNat (48 + d)).toNat = 48 + d := digit_toNat h
  unfold isDigit cv
  rw [h1]
  simp
  omega
theorem dec_digits (u : Nat) : ∀ c ∈ decDigits u, isDigit c = true := by
  induction u using Nat.strongRecOn with
  | ind u ih =>
    intro c hc
    by_cases h : u < 10
    · rw [decDigits_one h] at hc
      rw [List.mem_singleton.1 hc]
      exact digit_of h
    · rw [decDigits, dif_neg h] at hc
      rcases List.mem_append.1 hc with hc | hc
      · exact ih (u / 10) (by omega) c hc
      · rw [List.mem_singleton.1 hc]
        exact digit_of (by omega)
theorem digit_white {c : UInt8} (h : isDigit c = true) : isWhite c = false ∧ c ≠ 47 := by
  unfold isDigit at h
  rw [Bool.and_eq_true, decide_eq_true_eq, decide_eq_true_eq] at h
  refine ⟨?_, fun hc => ?_⟩
  · unfold isWhite
    simp only [Bool.or_eq_false_iff, decide_eq_false_iff_not]
    omega
  · subst hc
    exact absurd h.1 (by decide)
theorem letter_white {c : UInt8} (h : isLetter c = true) : isWhite c = false ∧ c ≠ 47 := by
  unfold isLetter at h
  rw [Bool.and_eq_true, decide_eq_true_eq, decide_eq_true_eq] at h
  refine ⟨?_, fun hc => ?_⟩
  · unfold isWhite
    simp only [Bool.or_eq_false_iff, decide_eq_false_iff_not]
    omega
  · subst hc
    exact absurd h.1 (by decide)
theorem tw_self {p : UInt8 → Bool} : ∀ {s : List UInt8}, (∀ c ∈ s, p c = true) → s.takeWhile p = s
  | [], _ => rfl
  | c :: s, h => by rw [List.takeWhile_cons_of_pos (h c (List.mem_cons_self ..)), tw_self fun d hd => h d (List.mem_cons_of_mem _ hd)]
theorem tw_mem {p : UInt8 → Bool} : ∀ {s : List UInt8} {c : UInt8}, c ∈ s.takeWhile p → p c = true
  | [], _, h => by cases h
  | d :: s, c, h => by
    by_cases hd : p d = true
    · rw [List.takeWhile_cons_of_pos hd] at h
      rcases List.mem_cons.1 h with rfl | h
      · exact hd
      · exact tw_mem h
    · rw [List.takeWhile_cons_of_neg hd] at h
      cases h
theorem again_dec {u : Nat} (hu : u < 4294967296) (l : Int) : Again ⟨1, decDigits u, l⟩ := by
  have hd := dec_digits u
  have hne := decDigits_ne u
  refine ⟨by have := dec_len hu; simp only; omega, hne, ?_, fun h => by have := hd _ h; exact absurd this (by decide), ?_⟩
  · show skipLen (decDigits u) = 0
    cases hD : decDigits u with
    | nil => exact absurd hD hne
    | cons c r =>
      have := digit_white (hd c (by rw [hD]; exact List.mem_cons_self ..))
      exact skip_head this.1 this.2
  · show lexToken (decDigits u) = (⟨1, decDigits u, 0⟩, (decDigits u).length, 0)
    have h1 : lexToken (decDigits u) = lexNumber (decDigits u) := by
      cases hD : decDigits u with
      | nil => exact absurd hD hne
      | cons c r => rw [lexToken, if_pos (hd c (by rw [hD]; exact List.mem_cons_self ..))]
    rw [h1]
    unfold lexNumber
    rw [tw_self hd, pu32_dec u hu, if_neg]
    unfold wordNext
    rw [List.getElem?_eq_none (Nat.le_refl _)]
    decide
theorem again_sign : ∀ x ∈ signs, x.length ≤ 24 ∧ x ≠ [] ∧ skipLen x = 0 ∧ (10 : UInt8) ∉ x ∧ lexToken x = (⟨4, x, 0⟩, x.length, 0) := by decide +kernel
theorem lexToken_again (s : List UInt8) (h : (lexToken s).2.2 = 0) : Again (lexToken s).1 := by
  match s with
  | [] => simp [lexToken, tokErr] at h
  | c :: r =>
    simp only [lexToken] at h ⊢
    split at h <;> rename_i hc
    · rw [if_pos hc]
      unfold lexNumber at h ⊢
      split at h
      · simp [tokErr] at h
      · rename_i hw
        rw [if_neg hw]
        split at h
        · rename_i u hu
          exact again_dec (pu32_lt hu) 0
        · simp [tokErr] at h
    · rw [if_neg hc]
      split at h <;> rename_i hl
      · rw [if_pos hl]
        unfold lexName at h ⊢
        split at h
        · simp [tokErr] at h
        · rename_i hw
          rw [if_neg hw]
          have hin : isInner c = true := by simp [isInner, hl]
          have hW : (c :: r).takeWhile isInner = c :: r.takeWhile isInner := List.takeWhile_cons_of_pos hin
          have hall : ∀ d ∈ (c :: r).takeWhile isInner, isInner d = true := fun d hd => tw_mem hd
          have hww := letter_white hl
          refine ⟨by simp only; omega, by simp only; rw [hW]; simp, by simp only; rw [hW]; exact skip_head hww.1 hww.2, fun h10 => absurd (hall _ h10) (by decide), ?_⟩
          simp only
          have h1 : lexToken ((c :: r).takeWhile isInner) = lexName ((c :: r).takeWhile isInner) := by
            rw [hW, lexToken, if_neg hc, if_pos hl]
          rw [h1]
          unfold lexName
          rw [tw_self hall, if_neg hw]
      · rw [if_neg hl]
        split at h <;> rename_i hq
        · rw [if_pos hq]
          unfold lexLiteral at h ⊢
          split at h
          · split at h
            · simp [tokErr] at h
            · rename_i hx
              rename_i heq
              rename_i b _ _
              rw [if_neg hx]
              exact again_dec (Nat.lt_trans (UInt8.toNat_lt b) (by decide)) 0
          · simp [tokErr] at h
        · rw [if_neg hq]
          unfold lexSign at h ⊢
          split at h
          · rename_i x hx
            exact again_sign x (List.mem_of_find?_eq_some hx)
          · simp [tokErr] at h
theorem lexP_again : ∀ (f : Nat) (s : List UInt8) (line : Int) (T : List Tok), lexP f s line = .ok T → ∀ t ∈ T, Again t
  | 0, s, line, T, h => by
    rw [lexP] at h
    cases h
    simp
  | f + 1, s, line, T, h => by
    rw [lexP] at h
    split at h
    · cases h
      simp
    · split at h
      · split at h
        · cases h
        · rename_i he
          obtain ⟨T', h1, rfl⟩ := map_ok h
          have k2 := lexP_again f _ _ _ h1
          intro t ht
          rcases List.mem_cons.1 ht with rfl | ht
          · exact lexToken_again s (by omega)
          · exact k2 t ht
      · exact lexP_again f _ _ _ h
theorem lexAt_tok {t : Tok} (h : Again t) (line : Int) : lexAt t.text line = .ok [⟨t.kind, t.text, line⟩] := by
  obtain ⟨_, hne, hs, _, ht⟩ := h
  have hlen : 0 < t.text.length := List.length_pos_iff.2 hne
  rw [← lexAt_eq (f := t.text.length + 1) (by omega), lexP, if_neg hne, if_pos hs, ht, if_neg (by simp)]
  simp only [List.drop_length]
  rw [lexAt_eq (by simp), lexAt_nil]
  rfl
/-- The tokens, one on each line, from this line on. -/
def reline : List Tok → Int → List Tok
  | [], _ => []
  | t :: r, l => ⟨t.kind, t.text, l⟩ :: reline r (l + 1)
theorem reline_kt : ∀ (T : List Tok) (l : Int), (reline T l).map kt = T.map kt
  | [], _ => rfl
  | t :: r, l => by rw [reline, List.map_cons, List.map_cons, reline_kt r]; rfl
theorem reline_len (T : List Tok) (l : Int) : (reline T l).length = T.length := by simpa using congrArg List.length (reline_kt T l)
theorem reline_line : ∀ (T : List Tok) (l : Int) (j : Nat) (t : Tok), (reline T l)[j]? = some t → t.line = l + j
  | [], _, _, _, h => by simp [reline] at h
  | u :: r, l, 0, t, h => by
    simp [reline] at h
    rw [← h]
    simp
  | u :: r, l, j + 1, t, h => by
    rw [reline, List.getElem?_cons_succ] at h
    rw [reline_line r _ j t h]
    omega
theorem join_cons (x y : List UInt8) (r : List (List UInt8)) : join (x :: y :: r) [10] = x ++ 10 :: join (y :: r) [10] := by
  simp [join, List.intercalate, List.intersperse]
theorem lexAt_join : ∀ (T : List Tok) (l : Int), (∀ t ∈ T, Again t) → lexAt (join (T.map (·.text)) [10]) l = .ok (reline T l)
  | [], l, _ => by
    rw [show join (([] : List Tok).map (·.text)) [10] = [] by simp [join, List.intercalate], lexAt_nil]
    rfl
  | [t], l, h => by
    rw [show join (([t] : List Tok).map (·.text)) [10] = t.text by simp [join, List.intercalate], lexAt_tok (h t (List.mem_cons_self ..))]
    rfl
  | t :: u :: r, l, h => by
    have ht := h t (List.mem_cons_self ..)
    have ih := lexAt_join (u :: r) (l + 1) fun v hv => h v (List.mem_cons_of_mem _ hv)
    rw [List.map_cons, List.map_cons, join_cons, lexAt_app _ t.text.length _ _ _ (Nat.le_refl _) (lexAt_tok ht l), List.count_eq_zero.2 ht.2.2.2.1]
    rw [List.map_cons] at ih
    simp only [Int.natCast_zero, Int.add_zero]
    rw [ih]
    rfl
theorem join_len : ∀ (T : List Tok), (∀ t ∈ T, Again t) → (join (T.map (·.text)) [10]).length ≤ 25 * T.length
  | [], _ => by simp [join, List.intercalate]
  | [t], h => by
    rw [show join (([t] : List Tok).map (·.text)) [10] = t.text by simp [join, List.intercalate]]
    have := (h t (List.mem_cons_self ..)).1
    simp
    omega
  | t :: u :: r, h => by
    have ht := (h t (List.mem_cons_self ..)).1
    have ih := join_len (u :: r) fun v hv => h v (List.mem_cons_of_mem _ hv)
    rw [List.map_cons] at ih
    rw [List.map_cons, List.map_cons, join_cons, List.length_append, List.length_cons]
    simp only [List.length_cons] at ih ⊢
    omega
end Go.Stele
namespace Go.Proofs.YtfodkbchknknjaaGreatDoor
open Go.GL Go.RowKit Go.Stele
set_option maxRecDepth 100000
set_option maxHeartbeats 4000000
/-- The tokens that the reference works on. -/
structure RTOK (T : List Tok) : Prop where
  len : T.length ≤ 100000
  pos : 0 < T.length
  ok : ∀ t ∈ T, TokOk t
  kw : ∀ t ∈ T, t.kind = 3 → keywords.contains t.text = true
def pv (a : Nat) (l : List UInt8) : Nat := l.foldl (fun a c => 10 * a + (c.toNat - 48)) a
theorem pv_append (a : Nat) (l m : List UInt8) : pv a (l ++ m) = pv (pv a l) m := List.foldl_append ..
theorem pv_ge : ∀ (l : List UInt8) (a : Nat), a ≤ pv a l
  | [], a => Nat.le_refl _
  | c :: l, a => by
    have := pv_ge l (10 * a + (c.toNat - 48))
    show a ≤ pv (10 * a + (c.toNat - 48)) l
    omega
theorem pv_dec (u : Nat) : pv 0 (Go.Lib.decDigits u) = u := by
  induction u using Nat.strongRecOn with
  | ind u ih =>
    by_cases h : u < 10
    · rw [Go.Lib.decDigits_one h]
      show 10 * 0 + ((UInt8.ofNat (48 + u)).toNat - 48) = u
      rw [digit_toNat h]
      omega
    · rw [Go.Lib.decDigits, dif_neg h, pv_append, ih (u / 10) (by omega)]
      show 10 * (u / 10) + ((UInt8.ofNat (48 + u % 10)).toNat - 48) = u
      rw [digit_toNat (by omega)]
      omega
theorem pv_take (l : List UInt8) (i : Nat) : pv 0 (l.take i) ≤ pv 0 l := by
  have : pv 0 l = pv (pv 0 (l.take i)) (l.drop i) := by rw [← pv_append, List.take_append_drop]
  rw [this]
  exact pv_ge _ _
theorem wrapU (x : Int) : IntKind.u32.wrap x = x % 4294967296 := by
  simp only [IntKind.wrap, IntKind.bits, IntKind.signed, Bool.false_and]
  simp
def refLevel (op : List UInt8) : Int :=
  if op = [124, 124] then 1 else if op = [38, 38] then 2 else if op = [61, 61] ∨ op = [33, 61] ∨ op = [60] ∨ op = [62] ∨ op = [60, 61] ∨ op = [62, 61] then 3 else if op = [94] then 4 else if op = [43] ∨ op = [45] then 5 else if op = [42] ∨ op = [47] ∨ op = [37] then 6 else 0
def allOps : List (List UInt8) := [[124, 124], [38, 38], [61, 61], [33, 61], [60], [62], [60, 61], [62, 61], [94], [43], [45], [42], [47], [37]]
theorem refLevel_in : ∀ op ∈ allOps, ∀ k ∈ List.range 6, decide (refLevel op = (k : Int) + 1) = (lvOps k).contains op := by decide +kernel
theorem lv_sub : ∀ k ∈ List.range 6, ∀ op ∈ lvOps k, op ∈ allOps := by decide +kernel
theorem refLevel_out {op : List UInt8} (h : op ∉ allOps) : refLevel op = 0 := by
  simp only [allOps, List.mem_cons, List.not_mem_nil, or_false, not_or] at h
  obtain ⟨h1, h2, h3, h4, h5, h6, h7, h8, h9, h10, h11, h12, h13, h14⟩ := h
  unfold refLevel
  rw [if_neg h1, if_neg h2, if_neg (by simp [*]), if_neg h9, if_neg (by simp [*]), if_neg (by simp [*])]
theorem refLevel_eq (op : List UInt8) {k : Nat} (hk : k ≤ 5) : decide (refLevel op = (k : Int) + 1) = (lvOps k).contains op := by
  have hm : k ∈ List.range 6 := List.mem_range.2 (by omega)
  by_cases h : op ∈ allOps
  · exact refLevel_in op h k hm
  · rw [refLevel_out h]
    have h1 : (lvOps k).contains op = false := by
      cases hc : (lvOps k).contains op with
      | false => rfl
      | true => exact absurd (lv_sub k hm op (List.contains_iff_mem.1 hc)) h
    rw [h1]
    simp
    omega
theorem kw_noop : ∀ x ∈ keywords, ∀ k ∈ List.range 6, (lvOps k).contains x = false := by decide +kernel
theorem ops_ne : ∀ k ∈ List.range 6, ∀ op ∈ lvOps k, op ≠ [] := by decide +kernel
/-- An operator of a level is a sign. -/
theorem op_sign {T : List Tok} (hT : RTOK T) {i k : Nat} (hk : k ≤ 5) : isTok T i (lvOps k) = (decide (kindAt T i = 4) && decide (refLevel (textAt T i) = (k : Int) + 1)) := by
  have hm : k ∈ List.range 6 := List.mem_range.2 (by omega)
  rcases Nat.lt_or_ge i T.length with hi | hi
  · rw [tok_at hi, kind_at hi, textAt, List.getElem?_eq_getElem hi, refLevel_eq _ hk]
    cases h3 : decide (T[i].kind = 3) with
    | false => rfl
    | true =>
      have h3' := of_decide_eq_true h3
      have := kw_noop _ (List.contains_iff_mem.1 (hT.kw _ (List.getElem_mem hi) h3')) k hm
      rw [this]
      simp
  · rw [tok_none hi, kind_none hi]
    rfl
attribute [local irreducible] LOps LCode LStep LCalls Go.GL.Pure QThen QBlock RetPost LQ LAny LLate LLateOp LS
section
variable {B0 : Nat} {w0 : World}
theorem qnumber_specB (rb : Nat) (T : List Tok) (hT : RTOK T) (o i : Nat) (op ln er : Int) (hw : Wf T o i op ln er) (r : Res Nat) (hr : stO o i ln er (fun i o => some (sNumber T i o)) = some r) :
    LCalls (KC B0 w0) 35 [ptr rb 0] [rdH rb T i op ln er] (PostB (fun n : Nat => n < 4294967296) rb T o (fun n : Nat => int .u32 n) r) := by
  have hl := hT.len
  refine LCalls.intro Tryz.func35 rfl (n := 44) rfl rfl rfl ?_
  repeat first
    | refine LOps.nil ?_
    | refine LCode.seq ?_
    | refine LCode.region ?_
    | refine QThen.normal ?_
    | refine LOps.pure (Pure.as (lv := .atom _) rfl) rfl ?_
    | refine LOps.pure (Pure.mv (lv := .atom _) rfl) rfl ?_
  refine LOps.step (S.fnH [_, _] rfl Pick.here (qkind_spec rb T i op ln er 1 (by decide) hl) ?_) rfl
  repeat first
    | refine LOps.nil ?_
    | refine QThen.normal ?_
    | refine LOps.pure (Pure.not rfl) rfl ?_
  refine LCode.cond rfl (fun hc => ?_) (fun hc => ?_)
  · have hc' : (decide (er = 0) && decide (kindAt T i = 1)) = false := by simpa only [Bool.not_eq_true'] using hc
    by_cases he : er = 0
    · subst he
      obtain ⟨rfl, hi, rfl, ho⟩ := hw rfl
      have hk : ¬ kindAt T i = 1 := by simpa using hc'
      have hs : sNumber T i o = synErr T i := by
        unfold sNumber sWord
        unfold kindAt at hk
        split
        · rename_i t ht
          rw [ht] at hk
          rw [if_neg hk]
          rfl
        · rfl
      rw [stO_ok, hs] at hr
      repeat first
        | refine LCode.seq ?_
        | refine LCode.region ?_
        | refine LOps.pure (Pure.mv (lv := .atom _) rfl) rfl ?_
      refine LOps.step (S.fnH [_, _] rfl Pick.here (qfail_alive rb T i o 3 hl hT.pos (by omega)) ?_) rfl
      repeat first
        | refine LOps.nil ?_
        | refine LCode.seq ?_
        | refine LCode.region ?_
        | refine LCode.ret ?_
        | refine QThen.normal ?_
        | refine QThen.ret ?_
        | refine LOps.pure (Pure.as (lv := .atom _) rfl) rfl ?_
      exact retB (v := 0) rfl (AllRes.cons (ResIs.tmp (v := .atom _) rfl (LV.Sub.refl _)) AllRes.nil) (by decide) (wf_dead (by decide)) (by rw [stO_dead (by decide)]; exact hr) rfl (HSub.refl _)
    · rw [stO_dead he] at hr
      repeat first
        | refine LCode.seq ?_
        | refine LCode.region ?_
        | refine LOps.pure (Pure.mv (lv := .atom _) rfl) rfl ?_
      refine LOps.step (S.fnH [_, _] rfl Pick.here (qfail_dead rb T i op ln er 3 he) ?_) rfl
      repeat first
        | refine LOps.nil ?_
        | refine LCode.seq ?_
        | refine LCode.region ?_
        | refine LCode.ret ?_
        | refine QThen.normal ?_
        | refine QThen.ret ?_
        | refine LOps.pure (Pure.as (lv := .atom _) rfl) rfl ?_
      exact retB (v := 0) rfl (AllRes.cons (ResIs.tmp (v := .atom _) rfl (LV.Sub.refl _)) AllRes.nil) (by decide) (wf_dead he) (by rw [stO_dead he]; exact hr) rfl (HSub.refl _)
  · have hc' : (decide (er = 0) && decide (kindAt T i = 1)) = true := by simpa only [Bool.not_eq_false'] using hc
    obtain ⟨he, hk⟩ := Bool.and_eq_true_iff.1 hc'
    obtain rfl := of_decide_eq_true he
    obtain ⟨rfl, hi, rfl, ho⟩ := hw rfl
    have hk := of_decide_eq_true hk
    have hlt : i < T.length := by
      rcases Nat.lt_or_ge i T.length with h | h
      · exact h
      · rw [kind_none h] at hk; cases hk
    rw [kind_at hlt] at hk
    obtain ⟨htl, htn⟩ := hT.ok _ (List.getElem_mem hlt)
    obtain ⟨u, hu, hp, htx⟩ := htn hk
    have hs : sNumber T i o = .ok u (i + 1) o := by
      unfold sNumber sWord
      rw [List.getElem?_eq_getElem hlt]
      simp only
      rw [if_pos hk]
      show Res.ok (numOf T[i].text) (i + 1) o = _
      rw [numOf, hp]
    rw [stO_ok, hs] at hr
    repeat first
      | refine LCode.seq ?_
      | refine LCode.skip ?_
      | refine QThen.normal ?_
    refine LCode.cut [(0, ptr rb 0), (3, str T[i].text)] ?_ (fun j hj => ?_)
    · refine LCode.quiet (by kernel_rfl) ?_
      repeat first
        | refine LQ.pure (Pure.mv (lv := .atom _) rfl) rfl ?_
        | refine LQ.pure (Pure.nilCheckH rfl) rfl ?_
        | refine LQ.pure (Pure.fieldH rfl) rfl ?_
        | refine LQ.pure (Pure.loadH (c := .list _) rfl (List.Mem.head _) rfl) rfl ?_
        | refine LQ.pure (Pure.loadH (c := .atom _) rfl (List.Mem.head _) rfl) rfl ?_
      refine LQ.pure (Pure.ixRef (el' := encTok T[i]) (cs := [_, _, _]) rfl rfl (by omega) (map_get _ _ _ hlt) rfl rfl) rfl ?_
      repeat first
        | refine LQ.pure (Pure.as (lv := .atom _) rfl) rfl ?_
        | refine LQ.pure (Pure.field1 rfl rfl) rfl ?_
        | refine LQ.pure (Pure.loadRef (c := .atom _) rfl rfl) rfl ?_
        | refine LQ.nil ?_
        | refine QThen.normal ?_
      exact ⟨⟨rfl, rfl, trivial⟩, rfl, rfl⟩
    have hpu : pv 0 T[i].text = u := by rw [htx, pv_dec]
    have hdig : ∀ c ∈ T[i].text, 48 ≤ c.toNat ∧ c.toNat ≤ 57 := fun c hc => by
      rw [htx] at hc
      have := dec_digits u c hc
      unfold isDigit cv at this
      rw [Bool.and_eq_true, decide_eq_true_eq, decide_eq_true_eq] at this
      omega
    generalize T[i].text = s at hpu hdig htl
    repeat first
      | refine LOps.nil ?_
      | refine LCode.seq ?_
      | refine LCode.region ?_
      | refine LCode.block ?_
      | refine QThen.normal ?_
      | refine LOps.pure (Pure.as (lv := .atom _) rfl) rfl ?_
      | refine LOps.pure (Pure.mv (lv := .atom _) rfl) rfl ?_
      | refine LOps.pure (Pure.nilCheckH rfl) rfl ?_
      | refine LOps.pure (Pure.fieldH rfl) rfl ?_
      | refine LOps.pure (Pure.loadH (c := .atom _) rfl (List.Mem.head _) rfl) rfl ?_
      | refine LOps.pure (Pure.add rfl rfl (by omega)) rfl ?_
      | refine LOps.step (S.store (cs' := [_, _, _, _, _]) rfl Pick.here rfl rfl rfl rfl rfl ?_) rfl
    refine LCode.loopI (fun k ls H => ∃ m : Nat, m ≤ s.length ∧ k = s.length - m ∧ ls = [(3, str s), (4, int .u32 (pv 0 (s.take m))), (5, int .i64 m)] ∧ H = [rdH rb T (i + 1) o 0 0])
      ⟨_, _, _, ⟨0, Nat.zero_le _, rfl, rfl, rfl⟩, ⟨rfl, rfl, rfl, trivial⟩, HSub.refl _⟩ ?_
    rintro k ls H ⟨m, hm, rfl, rfl, rfl⟩ j2 hj2
    repeat first
      | refine LOps.nil ?_
      | refine LCode.seq ?_
      | refine LCode.region ?_
      | refine QThen.normal ?_
      | refine LOps.pure (Pure.mv (lv := .atom _) rfl) rfl ?_
      | refine LOps.pure (Pure.slen rfl) rfl ?_
      | refine LOps.pure (Pure.lss rfl rfl) rfl ?_
    refine LCode.cond rfl (fun h1 => ?_) (fun h1 => ?_)
    · have hmlt : m < s.length := by have := of_decide_eq_true h1; omega
      obtain ⟨hd1, hd2⟩ := hdig _ (List.getElem_mem hmlt)
      have hstep : pv 0 (s.take (m + 1)) = 10 * pv 0 (s.take m) + (s[m].toNat - 48) := by
        rw [List.take_succ_eq_append_getElem hmlt, pv_append]
        rfl
      have hle := pv_take s (m + 1)
      repeat first
        | refine LCode.seq ?_
        | refine LCode.region ?_
        | refine LCode.skip ?_
        | refine LCode.block ?_
        | refine QThen.normal ?_
        | refine LOps.pure (Pure.mv (lv := .atom _) rfl) rfl ?_
      refine LOps.pure (Pure.mulW rfl rfl) rfl ?_
      repeat first
        | refine LOps.pure (Pure.mv (lv := .atom _) rfl) rfl ?_
      refine LOps.pure (Pure.sindex (c := s[m]) rfl rfl (by omega) (by simp)) rfl ?_
      repeat first
        | refine LOps.pure (Pure.cvt rfl) rfl ?_
      refine LOps.pure (Pure.addW rfl rfl) rfl ?_
      refine LOps.pure (Pure.subW rfl rfl) rfl ?_
      repeat first
        | refine LOps.nil ?_
        | refine LCode.region ?_
        | refine QThen.normal ?_
        | refine QBlock.normal ?_
        | refine LOps.pure (Pure.as (lv := .atom _) rfl) rfl ?_
        | refine LOps.pure (Pure.mv (lv := .atom _) rfl) rfl ?_
        | refine LOps.pure (Pure.add rfl rfl (by omega)) rfl ?_
      exact ⟨_, _, _, by omega, ⟨m + 1, by omega, rfl, rfl, rfl⟩, ⟨rfl, int_eq (by simp only [wrapU]; rw [hstep]; omega), int_eq (by omega), trivial⟩, HSub.refl _, hj2⟩
    · have hm' : m = s.length := by have := of_decide_eq_false h1; omega
      subst hm'
      rw [List.take_length, hpu]
      repeat first
        | refine LOps.nil ?_
        | refine LCode.seq ?_
        | refine LCode.region ?_
        | refine LCode.ret ?_
        | refine LCode.exit ?_
        | refine QThen.normal ?_
        | refine QThen.exit ?_
        | refine QBlock.hit ?_
        | refine LOps.pure (Pure.as (lv := .atom _) rfl) rfl ?_
        | refine LOps.pure (Pure.mv (lv := .atom _) rfl) rfl ?_
      exact retB (v := u) (ln := 0) (er := 0) (hj2.trans hj) (AllRes.cons (ResIs.tmp (v := .atom _) rfl (LV.Sub.refl _)) AllRes.nil) hu (fun _ => ⟨rfl, hlt, rfl, ho⟩) hr rfl (HSub.refl _)
theorem qnumber_spec (rb : Nat) (T : List Tok) (hT : RTOK T) (o i : Nat) (op ln er : Int) (hw : Wf T o i op ln er) (r : Res Nat) (hr : stO o i ln er (fun i o => some (sNumber T i o)) = some r) :
    LCalls (KC B0 w0) 35 [ptr rb 0] [rdH rb T i op ln er] (PostQ rb T o (fun n : Nat => int .u32 n) r) :=
  LCalls.mono (qnumber_specB rb T hT o i op ln er hw r hr) fun _ _ ⟨v, i, op, ln, er, _, h⟩ => ⟨v, i, op, ln, er, trivial, h⟩
theorem Level_spec (op : List UInt8) : LCalls (KC B0 w0) 122 [str op] [] (Ret (int .i64 (refLevel op))) := by
  refine LCalls.intro Tryz.func122 rfl (n := 24) rfl rfl rfl ?_
  unfold refLevel
  repeat first
    | refine LOps.nil ?_
    | refine LCode.seq ?_
    | refine LCode.region ?_
    | refine LCode.block ?_
    | refine QThen.normal ?_
    | refine LOps.pure (Pure.as (lv := .atom _) rfl) rfl ?_
    | refine LOps.pure (Pure.mv (lv := .atom _) rfl) rfl ?_
    | refine LOps.pure (Pure.seq rfl rfl) rfl ?_
  refine LCode.cond rfl (fun h1 => ?_) (fun h1 => ?_)
  · repeat first
      | refine LOps.nil ?_
      | refine LCode.seq ?_
      | refine LCode.region ?_
      | refine LCode.ret ?_
      | refine QThen.normal ?_
      | refine QThen.ret ?_
      | refine QBlock.ret ?_
      | refine LOps.pure (Pure.as (lv := .atom _) rfl) rfl ?_
    exact retRet rfl (AllRes.cons (ResIs.tmp (v := .atom _) rfl (LV.Sub.refl _)) AllRes.nil) (by rw [if_pos (of_decide_eq_true h1)]; rfl)
  rw [if_neg (of_decide_eq_false h1)]
  repeat first
    | refine LOps.nil ?_
    | refine LCode.seq ?_
    | refine LCode.region ?_
    | refine QThen.normal ?_
    | refine LOps.pure (Pure.as (lv := .atom _) rfl) rfl ?_
    | refine LOps.pure (Pure.seq rfl rfl) rfl ?_
  refine LCode.cond rfl (fun h2 => ?_) (fun h2 => ?_)
  · repeat first
      | refine LOps.nil ?_
      | refine LCode.seq ?_
      | refine LCode.region ?_
      | refine LCode.ret ?_
      | refine QThen.normal ?_
      | refine QThen.ret ?_
      | refine QBlock.ret ?_
      | refine LOps.pure (Pure.as (lv := .atom _) rfl) rfl ?_
    exact retRet rfl (AllRes.cons (ResIs.tmp (v := .atom _) rfl (LV.Sub.refl _)) AllRes.nil) (by rw [if_pos (of_decide_eq_true h2)]; rfl)
  rw [if_neg (of_decide_eq_false h2)]
  repeat first
    | refine LOps.nil ?_
    | refine LCode.seq ?_
    | refine LCode.region ?_
    | refine QThen.normal ?_
    | refine LOps.pure (Pure.as (lv := .atom _) rfl) rfl ?_
    | refine LOps.pure (Pure.seq rfl rfl) rfl ?_
  refine LCode.cut [(3, str op), (8, bool (decide (op = [61, 61] ∨ op = [33, 61] ∨ op = [60] ∨ op = [62] ∨ op = [60, 61] ∨ op = [62, 61])))] ?_ (fun j hj => ?_)
  · refine LCode.cond rfl (fun h3 => ?_) (fun h3 => ?_)
    · repeat first
        | refine LCode.skip ?_
        | refine QThen.normal ?_
      exact ⟨⟨rfl, bool_eq (by simp [of_decide_eq_true h3]), trivial⟩, rfl, rfl⟩
    repeat first
      | refine LOps.nil ?_
      | refine LCode.seq ?_
      | refine LCode.region ?_
      | refine QThen.normal ?_
      | refine LOps.pure (Pure.as (lv := .atom _) rfl) rfl ?_
      | refine LOps.pure (Pure.seq rfl rfl) rfl ?_
    refine LCode.cond rfl (fun h4 => ?_) (fun h4 => ?_)
    · repeat first
        | refine LCode.skip ?_
        | refine QThen.normal ?_
      exact ⟨⟨rfl, bool_eq (by simp [of_decide_eq_true h4]), trivial⟩, rfl, rfl⟩
    repeat first
      | refine LOps.nil ?_
      | refine LCode.seq ?_
      | refine LCode.region ?_
      | refine QThen.normal ?_
      | refine LOps.pure (Pure.as (lv := .atom _) rfl) rfl ?_
      | refine LOps.pure (Pure.seq rfl rfl) rfl ?_
    refine LCode.cond rfl (fun h5 => ?_) (fun h5 => ?_)
    · repeat first
        | refine LCode.skip ?_
        | refine QThen.normal ?_
      exact ⟨⟨rfl, bool_eq (by simp [of_decide_eq_true h5]), trivial⟩, rfl, rfl⟩
    repeat first
      | refine LOps.nil ?_
      | refine LCode.seq ?_
      | refine LCode.region ?_
      | refine QThen.normal ?_
      | refine LOps.pure (Pure.as (lv := .atom _) rfl) rfl ?_
      | refine LOps.pure (Pure.seq rfl rfl) rfl ?_
    refine LCode.cond rfl (fun h6 => ?_) (fun h6 => ?_)
    · repeat first
        | refine LCode.skip ?_
        | refine QThen.normal ?_
      exact ⟨⟨rfl, bool_eq (by simp [of_decide_eq_true h6]), trivial⟩, rfl, rfl⟩
    repeat first
      | refine LOps.nil ?_
      | refine LCode.seq ?_
      | refine LCode.region ?_
      | refine QThen.normal ?_
      | refine LOps.pure (Pure.as (lv := .atom _) rfl) rfl ?_
      | refine LOps.pure (Pure.seq rfl rfl) rfl ?_
    refine LCode.cond rfl (fun h7 => ?_) (fun h7 => ?_)
    · repeat first
        | refine LCode.skip ?_
        | refine QThen.normal ?_
      exact ⟨⟨rfl, bool_eq (by simp [of_decide_eq_true h7]), trivial⟩, rfl, rfl⟩
    repeat first
      | refine LOps.nil ?_
      | refine LCode.region ?_
      | refine QThen.normal ?_
      | refine LOps.pure (Pure.as (lv := .atom _) rfl) rfl ?_
      | refine LOps.pure (Pure.seq rfl rfl) rfl ?_
    exact ⟨⟨rfl, bool_eq (by simp [of_decide_eq_false h3, of_decide_eq_false h4, of_decide_eq_false h5, of_decide_eq_false h6, of_decide_eq_false h7]), trivial⟩, rfl, rfl⟩
  refine LCode.cond rfl (fun h3 => ?_) (fun h3 => ?_)
  · repeat first
      | refine LOps.nil ?_
      | refine LCode.seq ?_
      | refine LCode.region ?_
      | refine LCode.ret ?_
      | refine QThen.normal ?_
      | refine QThen.ret ?_
      | refine QBlock.ret ?_
      | refine LOps.pure (Pure.as (lv := .atom _) rfl) rfl ?_
    exact retRet hj (AllRes.cons (ResIs.tmp (v := .atom _) rfl (LV.Sub.refl _)) AllRes.nil) (by rw [if_pos (of_decide_eq_true h3)]; rfl)
  rw [if_neg (of_decide_eq_false h3)]
  repeat first
    | refine LOps.nil ?_
    | refine LCode.seq ?_
    | refine LCode.region ?_
    | refine QThen.normal ?_
    | refine LOps.pure (Pure.as (lv := .atom _) rfl) rfl ?_
    | refine LOps.pure (Pure.seq rfl rfl) rfl ?_
  refine LCode.cond rfl (fun h4 => ?_) (fun h4 => ?_)
  · repeat first
      | refine LOps.nil ?_
      | refine LCode.seq ?_
      | refine LCode.region ?_
      | refine LCode.ret ?_
      | refine QThen.normal ?_
      | refine QThen.ret ?_
      | refine QBlock.ret ?_
      | refine LOps.pure (Pure.as (lv := .atom _) rfl) rfl ?_
    exact retRet hj (AllRes.cons (ResIs.tmp (v := .atom _) rfl (LV.Sub.refl _)) AllRes.nil) (by rw [if_pos (of_decide_eq_true h4)]; rfl)
  rw [if_neg (of_decide_eq_false h4)]
  repeat first
    | refine LOps.nil ?_
    | refine LCode.seq ?_
    | refine LCode.region ?_
    | refine QThen.normal ?_
    | refine LOps.pure (Pure.as (lv := .atom _) rfl) rfl ?_
    | refine LOps.pure (Pure.seq rfl rfl) rfl ?_
  refine LCode.cut [(3, str op), (17, bool (decide (op = [43] ∨ op = [45])))] ?_ (fun j2 hj2 => ?_)
  · refine LCode.cond rfl (fun h5 => ?_) (fun h5 => ?_)
    · repeat first
        | refine LCode.skip ?_
        | refine QThen.normal ?_
      exact ⟨⟨rfl, bool_eq (by simp [of_decide_eq_true h5]), trivial⟩, rfl, rfl⟩
    repeat first
      | refine LOps.nil ?_
      | refine LCode.region ?_
      | refine QThen.normal ?_
      | refine LOps.pure (Pure.as (lv := .atom _) rfl) rfl ?_
      | refine LOps.pure (Pure.seq rfl rfl) rfl ?_
    exact ⟨⟨rfl, bool_eq (by simp [of_decide_eq_false h5]), trivial⟩, rfl, rfl⟩
  refine LCode.cond rfl (fun h5 => ?_) (fun h5 => ?_)
  · repeat first
      | refine LOps.nil ?_
      | refine LCode.seq ?_
      | refine LCode.region ?_
      | refine LCode.ret ?_
      | refine QThen.normal ?_
      | refine QThen.ret ?_
      | refine QBlock.ret ?_
      | refine LOps.pure (Pure.as (lv := .atom _) rfl) rfl ?_
    exact retRet (hj2.trans hj) (AllRes.cons (ResIs.tmp (v := .atom _) rfl (LV.Sub.refl _)) AllRes.nil) (by rw [if_pos (of_decide_eq_true h5)]; rfl)
  rw [if_neg (of_decide_eq_false h5)]
  repeat first
    | refine LOps.nil ?_
    | refine LCode.seq ?_
    | refine LCode.region ?_
    | refine QThen.normal ?_
    | refine LOps.pure (Pure.as (lv := .atom _) rfl) rfl ?_
    | refine LOps.pure (Pure.seq rfl rfl) rfl ?_
  refine LCode.cut [(3, str op), (20, bool (decide (op = [42] ∨ op = [47] ∨ op = [37])))] ?_ (fun j3 hj3 => ?_)
  · refine LCode.cond rfl (fun h6 => ?_) (fun h6 => ?_)
    · repeat first
        | refine LCode.skip ?_
        | refine QThen.normal ?_
      exact ⟨⟨rfl, bool_eq (by simp [of_decide_eq_true h6]), trivial⟩, rfl, rfl⟩
    repeat first
      | refine LOps.nil ?_
      | refine LCode.seq ?_
      | refine LCode.region ?_
      | refine QThen.normal ?_
      | refine LOps.pure (Pure.as (lv := .atom _) rfl) rfl ?_
      | refine LOps.pure (Pure.seq rfl rfl) rfl ?_
    refine LCode.cond rfl (fun h7 => ?_) (fun h7 => ?_)
    · repeat first
        | refine LCode.skip ?_
        | refine QThen.normal ?_
      exact ⟨⟨rfl, bool_eq (by simp [of_decide_eq_true h7]), trivial⟩, rfl, rfl⟩
    repeat first
      | refine LOps.nil ?_
      | refine LCode.region ?_
      | refine QThen.normal ?_
      | refine LOps.pure (Pure.as (lv := .atom _) rfl) rfl ?_
      | refine LOps.pure (Pure.seq rfl rfl) rfl ?_
    exact ⟨⟨rfl, bool_eq (by simp [of_decide_eq_false h6, of_decide_eq_false h7]), trivial⟩, rfl, rfl⟩
  refine LCode.cond rfl (fun h6 => ?_) (fun h6 => ?_)
  · repeat first
      | refine LOps.nil ?_
      | refine LCode.seq ?_
      | refine LCode.region ?_
      | refine LCode.ret ?_
      | refine QThen.normal ?_
      | refine QThen.ret ?_
      | refine QBlock.ret ?_
      | refine LOps.pure (Pure.as (lv := .atom _) rfl) rfl ?_
    exact retRet (hj3.trans (hj2.trans hj)) (AllRes.cons (ResIs.tmp (v := .atom _) rfl (LV.Sub.refl _)) AllRes.nil) (by rw [if_pos (of_decide_eq_true h6)]; rfl)
  rw [if_neg (of_decide_eq_false h6)]
  repeat first
    | refine LOps.nil ?_
    | refine LCode.seq ?_
    | refine LCode.region ?_
    | refine LCode.skip ?_
    | refine LCode.ret ?_
    | refine QThen.normal ?_
    | refine QBlock.normal ?_
    | refine LOps.pure (Pure.as (lv := .atom _) rfl) rfl ?_
  exact retRet (hj3.trans (hj2.trans hj)) (AllRes.cons (ResIs.tmp (v := .atom _) rfl (LV.Sub.refl _)) AllRes.nil) rfl
end
end Go.Proofs.YtfodkbchknknjaaGreatDoor
