/- Texts joined: GlDraw2, Lex5, Lex6, GlAcc, ParSpec2, ParP1, ParP2, ParEq, ParEnc, ParFuel, ParP3, ParP4. -/
import Derived.Laws.IdiomStrings
import Derived.Test.YtpbbgkoalnonoaaGreatDoorBRowM22
set_option linter.unusedVariables false
set_option linter.unusedSimpArgs false
set_option maxRecDepth 100000
set_option maxHeartbeats 4000000
namespace Go.GL
open Go.RowKit
class TIface (P:Program) (t:TypeId):Prop where
 und:∃ ms,P.underlying t=some (.interface ms)
def chkIface (P:Program) (t:Nat):Bool:=match P.underlying t with|some (.interface _)=>true|_=>false
theorem TIface.of {P:Program} {t:Nat} (h:chkIface P t=true):TIface P t:=by
 unfold chkIface at h
 refine ⟨?_⟩
 cases hu:P.underlying t with
 |none=>rw[hu] at h;simp at h
 |some d=>rw[hu] at h;cases d <;> simp_all
section
variable {C:Ctx} {e:Env} {H:Heap} {dst:Option Nat} {ty:TypeId} {pos:String} {aft:Array Edge} {g:Option (Nat×Bool)} {xT yT:TypeId} {x:Operand}
theorem equal_step (t:TypeId) (x y:Value):Op.equal t x y=Op.equalIn (9999+1) t x y:=rfl
theorem run_equal_nil {P:Program} {t:TypeId} [h:TIface P t] (w:World):(Op.equal t .nilIface .nilIface).run P w=.ok true w:=by
 obtain ⟨ms,hu⟩:=h.und
 rw[equal_step,Op.equalIn]
 simp only[Sem.run_bind,run_underlying' hu,Result.andThen_ok,Sem.run_pure]
theorem run_equal_iface {P:Program} {t:TypeId} [h:TIface P t] (u:TypeId) (p:Value) (w:World):(Op.equal t (.iface u p) .nilIface).run P w=.ok false w:=by
 obtain ⟨ms,hu⟩:=h.und
 rw[equal_step,Op.equalIn]
 simp only[Sem.run_bind,run_underlying' hu,Result.andThen_ok,Sem.run_pure]
theorem Pure.nilNeqNil [TIface C.P xT] (hx:e.ev x=.atom .nilIface):Pure C ⟨dst,.binOp .neq xT x (.const .nilIface) yT,ty,pos,aft,g⟩ e H (bool false):=
 .of_any fun ρ _ _ h=>⟨_,rep_atom,fun w'=>by
  have h1:=atom_of h hx
  have h2:=atom_of h (x:=.const .nilIface) rfl
  have he:eqGuard .neq xT x (.const .nilIface) .nilIface .nilIface=Pure.pure ():=by simp[eqGuard]
  have hb:binOp .neq xT .nilIface .nilIface=(do Pure.pure (.bool (!(←Op.equal xT .nilIface .nilIface)))):=rfl
  simp only[execOp,h1,h2,he,hb,Sem.run_bind,Sem.run_pure,Result.andThen_ok,run_equal_nil,Bool.not_true]⟩
theorem Pure.ifaceNeqNil [TIface C.P xT] {u:TypeId} {p:Value} (hx:e.ev x=.atom (.iface u p)):Pure C ⟨dst,.binOp .neq xT x (.const .nilIface) yT,ty,pos,aft,g⟩ e H (bool true):=
 .of_any fun ρ _ _ h=>⟨_,rep_atom,fun w'=>by
  have h1:=atom_of h hx
  have h2:=atom_of h (x:=.const .nilIface) rfl
  have he:eqGuard .neq xT x (.const .nilIface) (.iface u p) .nilIface=Pure.pure ():=by simp[eqGuard]
  have hb:binOp .neq xT (.iface u p) .nilIface=(do Pure.pure (.bool (!(←Op.equal xT (.iface u p) .nilIface)))):=rfl
  simp only[execOp,h1,h2,he,hb,Sem.run_bind,Sem.run_pure,Result.andThen_ok,run_equal_iface,Bool.not_false]⟩
theorem str_eq {a b:List UInt8} (h:a=b):str a=str b:=by rw[h]
theorem Pure.cvt {k k0 k':IntKind} {s d:TypeId} {n:Int} [hs:TKind C.P s k0] [hd:TKind C.P d k'] (hx:e.ev x=int k n):Pure C ⟨dst,.convert s d x,ty,pos,aft,g⟩ e H (int k' (k'.wrap n)):=Pure.convInt ⟨_,hs.und⟩ hx
end
end Go.GL
/- A small logic over the walk's 'Code.wp': drawn regions in which more than one operation may come up; division; bytes to a string. -/
namespace Go.GL
open Go.RowKit
section any
variable {C:Ctx} {n:Nat} {ops:Array Oper} {Q:Post} {HF:Heap} {fuel:Nat} {listed:Array Bool} {e:Env} {H:Heap}
def LLateOp (C:Ctx) (n:Nat) (ops:Array Oper) (Q:Post) (HF:Heap) (fuel:Nat) (listed:Array Bool) (e:Env) (H:Heap) (i:Nat):Prop:=
 ∀ w0 L0 a w L,(∀ b,L0 b≤L b)→Agree w0 L0 HF w→(∀ p∈HF,p.1<w.heap.size)→RelE n a e w L→RelH C w L H →
  wpOp C.P ops (lift C n w L (keys H) Q) i (fun a' w'=>Agree w0 L0 HF w'∧wpAnyH C.P .any ops (lift C n w L (keys H) Q) (Agree w0 L0 HF) fuel (listed.setIfInBounds i true) a' w') a w
theorem LLate.all {is:List Nat} (hr:Region.ready .any ops listed=is) (hne:is≠[]) (h:∀ i∈is,LLateOp C n ops Q HF fuel listed e H i):LLate C n ops Q HF (fuel+1) listed e H:=fun w0 L0 a w L hL hA hsz hE hH=>
 wpAnyH_all hr hne fun j hj=>h j hj w0 L0 a w L hL hA hsz hE hH
theorem lS {i:Nat} {dst:Option Nat} {op:Op} {ty:TypeId} {pos:String} {aft:Array Edge} {g:Option (Nat×Bool)} {H1 F:Heap} (hi:ops[i]? = some ⟨dst,op,ty,pos,aft,g⟩) (hg:g=none∨∃ j b d,g=some (j,b)∧(ops[j]?).bind (·.dst)=some d∧e.s d=.atom (.bool b)) (hd:dstOk n dst)
  (p:H.Perm (H1++F)) (hHF:HSub HF F)
  (h:LStep C ⟨dst,op,ty,pos,aft,g⟩ e H1 (fun lv H'=>LLate C n ops Q HF fuel (listed.setIfInBounds i true) (e.put dst lv) (H'++F)) (fun ch H'=>∀ e',e'.ds=e.ds→Q (.panic ch) e' (H'++F))) :
  LLateOp C n ops Q HF fuel listed e H i:=fun w0 L0 a w L hL hA hsz hE hH=>by
 have hH':=hH.perm p
 have hn:(keys H1++keys F).Nodup:=by simpa [keys] using hH'.nodup
 have hdis:∀ q∈HF,q.1 ∉ keys H1:=fun q hq hm=>(List.nodup_append.1 hn).2.2 _ hm _ (List.mem_map_of_mem (hHF.mem q hq)) rfl
 have hw:Region.wanted ⟨dst,op,ty,pos,aft,g⟩ (yielded ops a.tmps)=true:=by
  rcases hg with rfl|⟨j,b,d,rfl,hj,hb⟩
  ·simp[Region.wanted]
  ·simp[Region.wanted,yielded_env hE hj hb]
 unfold wpOp
 rw[hi]
 simp only
 rw[if_pos hw]
 refine .inl (step_wp (H:=H1) h hd hE hH'.left (fun lv H' L' w' a' h1 h2 h3 h4=>?_) (fun ch H' L' w' h1 h2 h3=>?_))
 ·have hfr:=hH'.frame h1 h2
  have hag:Agree w0 L0 HF w':=⟨fun q hq=>(h1.block q.1 (hsz q hq) (hdis q hq)).trans (hA.1 q hq),fun b i hi=>(h1.ext.live b i (Nat.lt_of_lt_of_le hi (hL b))).trans (hA.2 b i hi)⟩
  exact ⟨hag,wpAnyH_mono (fun _ _ _=>lift_trans (hfr.2.perm p.symm)) _ _ _ _ (h4 w0 L0 a' w' L' (fun b=>zNt (hL b) (h1.ext.mono b)) hag (fun q hq=>Nat.lt_of_lt_of_le (hsz q hq) h1.ext.size) h3 hfr.1)⟩
 ·have hfr:=hH'.frame h1 h2
  exact ⟨e,H'++F,L',hfr.2.perm p.symm,hfr.1,hE.ds,h3 e rfl⟩
theorem zl1 {i:Nat} (hr:Region.ready .any ops listed=[i]) (h:LLateOp C n ops Q HF fuel listed e H i):LLate C n ops Q HF (fuel+1) listed e H:=
 LLate.all hr (by simp) fun j hj=>by
  obtain rfl:=List.mem_singleton.1 hj
  exact h
theorem LLate.two {i j:Nat} (hr:Region.ready .any ops listed=[i,j]) (h:LLateOp C n ops Q HF fuel listed e H i) (h':LLateOp C n ops Q HF fuel listed e H j):LLate C n ops Q HF (fuel+1) listed e H:=
 LLate.all hr (by simp) fun k hk=>by
  rcases zMi.1 hk with rfl|hk
  ·exact h
  ·obtain rfl:=List.mem_singleton.1 hk
   exact h'
theorem lW {i:Nat} {dst:Option Nat} {op:Op} {ty:TypeId} {pos:String} {aft:Array Edge} {g:Option (Nat×Bool)} (hi:ops[i]? = some ⟨dst,op,ty,pos,aft,g⟩) (hg:g=none∨∃ j b d,g=some (j,b)∧(ops[j]?).bind (·.dst)=some d∧e.s d=.atom (.bool b)) (hd:dstOk n dst)
  (h:LStep C ⟨dst,op,ty,pos,aft,g⟩ e H (fun lv H'=>LLate C n ops Q [] fuel (listed.setIfInBounds i true) (e.put dst lv) H') (fun ch H'=>∀ e',e'.ds=e.ds→Q (.panic ch) e' H')) :
  LLateOp C n ops Q [] fuel listed e H i:=lS (H1:=H) (F:=[]) hi hg hd (by simp) zhn (by simpa using h)
end any
theorem LQ.bcase {C:Ctx} {n:Nat} {ops:Array Oper} {K:Env→Prop} {e:Env} {H:Heap} {rest:List Oper} (d:Nat) {b:Bool} (hb:e.s d=bool b) (ht:b=true→LQ C n ops K rest (e.upd d (bool true)) H) (hf:b=false→LQ C n ops K rest (e.upd d (bool false)) H):LQ C n ops K rest e H:=by
 cases b
 ·have:=hf rfl;rwa [Env.upd_self hb] at this
 ·have:=ht rfl;rwa [Env.upd_self hb] at this
section pure
variable {C:Ctx} {e:Env} {H:Heap} {dst:Option Nat} {ty:TypeId} {pos:String} {aft:Array Edge} {g:Option (Nat×Bool)} {xT yT:TypeId} {x y:Operand} {k:IntKind} {a b:Int}
theorem Pure.rem (hx:e.ev x=int .i64 a) (hy:e.ev y=int .i64 b) (hb:0<b) (ha:0≤a):Pure C ⟨dst,.binOp .rem xT x y yT,ty,pos,aft,g⟩ e H (int .i64 (a % b)):=
 .of_any fun _ _ _ h'=>⟨_,rep_atom,run_int (atom_of h' hx) (atom_of h' hy) (by simp) (by simp) (s:=Op.intDiv .rem .i64 a b) (by simp only[binOp,ne_eq,not_true_eq_false,if_false]) (fun w=>by
  have h1:a.tmod b=a % b:=Int.tmod_eq_emod_of_nonneg ha
  rw[Op.intDiv,if_neg zo]
  simp only[h1]
  rfl)⟩
theorem Pure.bytesStr {s d el:TypeId} [hs:TSlice C.P s el 1] [he:TKind C.P el .u8] [hd:TStr C.P d] {l:List UInt8} (hx:elems (e.ev x)=some (l.map fun b=>int .u8 b.toNat)) (hne:l≠[]) :
  Pure C ⟨dst,.convert s d x,ty,pos,aft,g⟩ e H (str l):=fun ρ w L h _=>by
 obtain ⟨a,cap,hv,hcap,hr⟩:=(h x).elems hx
 obtain ⟨b,off,k',rfl,hrr⟩:=hr (by simpa using hne)
 refine ⟨_,rep_atom,fun w' ha=>?_⟩
 have h0:execOp ρ ⟨dst,.convert s d x,ty,pos,aft,g⟩=(do Pure.pure (.value (←convert s d (ρ x)))):=rfl
 have hlen:(l.map fun b=>int .u8 b.toNat).length=l.length:=by simp
 have:=run_convert_bytes_back (P:=C.P) w' s d el ⟨b,off,none⟩ cap l hs.und he.und hd.und (fun j hj=>by
  obtain ⟨h1,h2⟩:=hrr.get (i:=j) (e:=int .u8 l[j].toNat) (by simp[hj])
  simp only[LV.cells,RepC,List.length_singleton] at h1 h2
  obtain ⟨h3,⟨v,h4,h5⟩,_⟩:=h2
  simp only[Rep] at h5
  subst h5
  subst h1
  rw[Nat.mul_one] at h3 h4
  rw[add_mk]
  rw[ha.2 b _ h3]
  exact h4)
 rw[h0,hv,hlen]
 simp only[Sem.run_bind,this,Result.andThen_ok,Sem.run_pure]
end pure
end Go.GL
namespace Go.GL
open Go.RowKit
theorem aT (i:Nat) {C:Ctx} {n:Nat} {ops:Array Oper} {Q:Post} {HF:Heap} {fuel:Nat} {listed:Array Bool} {e:Env} {H:Heap} {dst:Option Nat} {op:Op} {ty:TypeId} {pos:String} {aft:Array Edge} {lv:LV}
  (hi:ops[i]? = some ⟨dst,op,ty,pos,aft,none⟩) (hd:dstOk n dst) (hp:Pure C ⟨dst,op,ty,pos,aft,none⟩ e HF lv) (k:LAny C n ops Q HF fuel (listed.setIfInBounds i true) (e.put dst lv) H) (hs:Region.noSelect ops=true:=by kernel_rfl) (hf:Region.free .any ops listed i=true:=by kernel_rfl) (hr:(Region.ready .any ops listed).contains i=true:=by kernel_rfl)
  (hHF:HSub HF H:=by first|exact HSub.nil _|exact zhR _|exact zhD zhr|exact zhP pH zhn|exact zhP zp1 zhn|exact zhP zp2 zhn|exact zhP pH zhp|exact ⟨_,List.Perm.refl _⟩):LAny C n ops Q HF (fuel+1) listed e H:=LAny.take hHF hi hs hf hr hd hp k
theorem LAny.tkW (i:Nat) {C:Ctx} {n:Nat} {ops:Array Oper} {Q:Post} {HF:Heap} {fuel:Nat} {listed:Array Bool} {e:Env} {H:Heap} {j d:Nat} {b:Bool} {dst:Option Nat} {op:Op} {ty:TypeId} {pos:String} {aft:Array Edge} {lv:LV}
  (hi:ops[i]? = some ⟨dst,op,ty,pos,aft,some (j,b)⟩) (hj:(ops[j]?).bind (·.dst)=some d) (hb:e.s d=.atom (.bool b)) (hd:dstOk n dst) (hp:Pure C ⟨dst,op,ty,pos,aft,some (j,b)⟩ e HF lv) (k:LAny C n ops Q HF fuel (listed.setIfInBounds i true) (e.put dst lv) H) (hs:Region.noSelect ops=true:=by kernel_rfl) (hf:Region.free .any ops listed i=true:=by kernel_rfl) (hr:(Region.ready .any ops listed).contains i=true:=by kernel_rfl)
  (hHF:HSub HF H:=by first|exact HSub.nil _|exact zhR _|exact zhD zhr|exact zhP pH zhn|exact zhP zp1 zhn|exact zhP zp2 zhn|exact zhP pH zhp|exact ⟨_,List.Perm.refl _⟩):LAny C n ops Q HF (fuel+1) listed e H:=LAny.takeWant hHF hi hj hb hs hf hr hd hp k
theorem lO {C:Ctx} {n:Nat} {ops:Array Oper} {Q:Post} {HF:Heap} {fuel:Nat} {listed:Array Bool} {e:Env} {H:Heap} (i:Nat) (h:LLateOp C n ops Q HF fuel listed e H i) (hr:Region.ready .any ops listed=[i]:=by kernel_rfl):LLate C n ops Q HF (fuel+1) listed e H:=zl1 hr h
end Go.GL
namespace Go.Proofs.YtpbbgkoalnonoaaGreatDoor
open Go.GL Go.RowKit Go.Stele
attribute [local irreducible] LOps LCode LStep LCalls Go.GL.Pure QThen QBlock RetPost
theorem parseUintM_digits (M:Nat) (acc:Nat) (l:List UInt8) (h:∀ c∈l,isDigit c=true):Go.Lib.parseUintM M acc l=.range∨∃ u,Go.Lib.parseUintM M acc l=.ok u:=by
 induction l generalizing acc with
 |nil=>exact .inr ⟨acc,rfl⟩
 |cons c r ih=>
  have hc:=h c List.mem_cons_self
  simp only[isDigit,zBa,zDe,cv] at hc
  rw[Go.Lib.parseUintM,if_pos zo]
  split
  ·exact .inl rfl
  ·split
   ·exact .inl rfl
   ·exact ih _ (fun c hc=>h c (zMo _ hc))
theorem parseUintM_bound (M:Nat) (acc:Nat) (l:List UInt8) (ha:acc≤M) {u:Nat} (h:Go.Lib.parseUintM M acc l=.ok u):u≤M:=by
 induction l generalizing acc with
 |nil=>simp only[Go.Lib.parseUintM,Go.Lib.NumEnd.ok.injEq] at h;omega
 |cons c r ih=>
  rw[Go.Lib.parseUintM] at h
  split at h
  ·split at h
   ·cases h
   ·split at h
    ·cases h
    ·exact ih _ zo h
  ·cases h
theorem parseUint_digits (s:List UInt8) (hne:s.takeWhile isDigit≠[]):Go.Lib.parseUintB 32 (s.takeWhile isDigit)=.range∨∃ u,u<18446744073709551616∧Go.Lib.parseUintB 32 (s.takeWhile isDigit)=.ok u:=by
 unfold Go.Lib.parseUintB
 rw[if_neg hne]
 have hall:∀ (s:List UInt8),∀ c∈s.takeWhile isDigit,isDigit c=true:=fun s c hc=>by
  induction s with
  |nil=>cases hc
  |cons a r ih=>
   by_cases ha:isDigit a=true
   ·rw[List.takeWhile_cons_of_pos ha] at hc
    rcases zMi.1 hc with rfl|hc
    ·exact ha
    ·exact ih hc
   ·rw[List.takeWhile_cons_of_neg ha] at hc
    cases hc
 rcases parseUintM_digits (2 ^ 32-1) 0 (s.takeWhile isDigit) (hall s) with h|⟨u,h⟩
 ·exact .inl h
 ·have:=parseUintM_bound _ _ _ zo h
  exact .inr ⟨u,by omega,h⟩
instance:TIface Tryz.prog 129:=.of zk
section
variable {B0:Nat} {w0:World}
theorem number_spec (hG:GW B0 w0) (s:List UInt8) (hs:s.length≤1000000000) (hne:s.takeWhile isDigit≠[]):LCalls (KC B0 w0) 191 [str s] [] (Ret (encTokR (lexNumber s))):=by
 refine cI Tryz.func191 rfl (n:=43) rfl rfl rfl ?_
 refine gag ?_
 refine oS (sA fun b=>?_) rfl
 refine gao ?_
 refine oS (sF [_,_] rfl (run_spec isDigit digit_spec s hs) ?_) rfl
 refine gac ?_
 refine LOps.cut [(0,str s),(2,ptr b 0),(5,str (s.takeWhile isDigit)),(28,bool (wordNext s (s.takeWhile isDigit).length))] ?_ (fun j hj=>?_)
 ·refine oB 17 rfl (fun ht=>?_) (fun ht=>?_)
  ·have hlt:(s.takeWhile isDigit).length<s.length:=by simpa using ht
   have hw:wordNext s (s.takeWhile isDigit).length=(isLetter s[(s.takeWhile isDigit).length] || decide (cv s[(s.takeWhile isDigit).length]=95)):=by
    rw[wordNext,List.getElem?_eq_getElem hlt]
   refine gaa ?_
   refine oP (Pure.sindex (c:=s[(s.takeWhile isDigit).length]) rfl rfl zo (by simp)) rfl ?_
   refine LOps.want rfl rfl ?_
   refine oS (sF [_] rfl (letter_spec _) ?_) rfl
   refine gaa ?_
   refine oB 22 rfl (fun hl=>?_) (fun hl=>?_)
   ·refine gaa ?_
    exact ⟨⟨rfl,rfl,rfl,bool_eq (by rw[hw,hl];rfl),trivial⟩,rfl,rfl⟩
   ·refine gaa ?_
    refine oP (Pure.sindex (c:=s[(s.takeWhile isDigit).length]) rfl rfl zo (by simp)) rfl ?_
    refine gaa ?_
    exact ⟨⟨rfl,rfl,rfl,bool_eq (by rw[hw,hl];rfl),trivial⟩,rfl,rfl⟩
  ·have hge:s.length≤(s.takeWhile isDigit).length:=by simpa using ht
   refine gad ?_
   exact ⟨⟨rfl,rfl,rfl,bool_eq (by rw[wordNext,List.getElem?_eq_none hge]),trivial⟩,rfl,rfl⟩
 ·skip
  refine oC rfl (fun hc=>?_) (fun hc=>?_)
  ·refine gac ?_
   exact retRet hj (rC (rA rfl zm0 rfl zsr) (rC (zrt rfl) (zra rfl))) (by
    rw[lexNumber,if_pos hc]
    rfl)
  ·refine gab ?_
   rcases parseUint_digits s hne with hp|⟨u,hu,hp⟩
   ·refine oS (S.fnIf [_,_,_] rfl (parseUint_range hG (s.takeWhile isDigit) (zNt (List.takeWhile_prefix isDigit).length_le hs) hp) ?_) rfl
    rintro lv ⟨v,t,p,rfl⟩
    refine gac ?_
    refine oC rfl (fun hc=>?_) (fun hc=>?_)
    ·refine gac ?_
     exact retRet hj (rC (rA rfl zm0 rfl zsr) (rC (zrt rfl) (zra rfl))) (by
      rw[lexNumber,if_neg (by rw[‹wordNext s _=false›];decide),hp]
      rfl)
    ·cases hc
   ·refine oS (sF [_,_,_] rfl (parseUint_ok (s.takeWhile isDigit) (zNt (List.takeWhile_prefix isDigit).length_le hs) u hp) ?_) rfl
    refine gac ?_
    refine oC rfl (fun hc=>?_) (fun hc=>?_)
    ·cases hc
    ·refine gab ?_
     refine oS (sF [_,_] rfl (fmtUint_spec hG u hu) ?_) rfl
     refine gad ?_
     exact retRet hj (rC (rA rfl zm0 rfl zsr) (rC (zrt rfl) (zra rfl))) (by
      rw[lexNumber,if_neg (by rw[‹wordNext s _=false›];decide),hp]
      rfl)
theorem literal_spec (hG:GW B0 w0) (s:List UInt8) (hs:s.length≤1000000000):LCalls (KC B0 w0) 194 [str s] [] (Ret (encTokR (lexLiteral s))):=by
 by_cases h3:s.length<3
 ·have hl:lexLiteral s=tokErr 3:=by
   match s,h3 with
   |[],_=>rfl
   |[_],_=>rfl
   |[_,_],_=>rfl
  refine cI Tryz.func194 rfl (n:=39) rfl rfl rfl ?_
  refine gag ?_
  refine oS (sA fun b=>?_) rfl
  refine gac ?_
  refine oB 8 rfl (fun ht=>?_) (fun ht=>?_)
  ·refine gaa ?_
   refine oC rfl (fun hc=>?_) (fun hc=>?_)
   ·refine gac ?_
    exact retRet rfl (rC (rA rfl zm0 rfl zsr) (rC (zrt rfl) (zra rfl))) (by rw[hl];rfl)
   ·cases hc
  ·exact absurd (zf ht) zo
 ·match s,h3 with
  |[],h=>exact absurd (by simp) h
  |[_],h=>exact absurd (by simp) h
  |[_,_],h=>exact absurd (by simp) h
  |x::c1::c2::r,h=>
   refine cI Tryz.func194 rfl (n:=39) rfl rfl rfl ?_
   refine gag ?_
   refine oS (sA fun b=>?_) rfl
   refine gac ?_
   refine LOps.cut [(0,str (x::c1::c2::r)),(2,ptr b 0),(32,bool ((!decide (cv c2=39)) || decide (cv c1<32) || decide (126<cv c1) || decide (cv c1=39) || decide (cv c1=92)))] ?_ (fun j hj=>?_)
   ·refine oB 8 rfl (fun ht=>?_) (fun ht0=>?_)
    ·exact absurd (zt ht) (by simp only[zLc];omega)
    ·skip
     refine oP (Pure.sindex (c:=c2) rfl rfl zDd rfl) rfl ?_
     refine gaa ?_
     refine oB 13 rfl (fun ht=>?_) (fun ht1=>?_)
     ·refine gaa ?_
      exact ⟨⟨rfl,rfl,bool_eq (by rw[ht];rfl),trivial⟩,rfl,rfl⟩
     ·refine gaa ?_
      refine oP (Pure.sindex (c:=c1) rfl rfl zDd rfl) rfl ?_
      refine gaa ?_
      refine oB 18 rfl (fun ht=>?_) (fun ht2=>?_)
      ·refine gaa ?_
       exact ⟨⟨rfl,rfl,bool_eq (by rw[ht1,ht];rfl),trivial⟩,rfl,rfl⟩
      ·refine gaa ?_
       refine oP (Pure.sindex (c:=c1) rfl rfl zDd rfl) rfl ?_
       refine gad ?_
       refine oB 23 rfl (fun ht=>?_) (fun ht3=>?_)
       ·refine gaa ?_
        exact ⟨⟨rfl,rfl,bool_eq (by rw[ht1,ht2,ht];rfl),trivial⟩,rfl,rfl⟩
       ·refine gaa ?_
        refine oP (Pure.sindex (c:=c1) rfl rfl zDd rfl) rfl ?_
        refine gaa ?_
        refine oB 28 rfl (fun ht=>?_) (fun ht4=>?_)
        ·refine gaa ?_
         exact ⟨⟨rfl,rfl,bool_eq (by rw[ht1,ht2,ht3,ht];rfl),trivial⟩,rfl,rfl⟩
        ·refine gaa ?_
         refine oP (Pure.sindex (c:=c1) rfl rfl zDd rfl) rfl ?_
         refine gaa ?_
         exact ⟨⟨rfl,rfl,bool_eq (by rw[ht1,ht2,ht3,ht4];rfl),trivial⟩,rfl,rfl⟩
   ·skip
    refine oC rfl (fun hc=>?_) (fun hc=>?_)
    ·refine gac ?_
     exact retRet hj (rC (rA rfl zm0 rfl zsr) (rC (zrt rfl) (zra rfl))) (by rw[lexLiteral,if_pos hc];rfl)
    ·refine gab ?_
     refine oP (Pure.sindex (c:=c1) rfl rfl zDd rfl) rfl ?_
     refine oP (Pure.cvt rfl) rfl ?_
     have hw:IntKind.i64.wrap (c1.toNat:Int)=((c1.toNat:Nat):Int):=wrap_i64 (by have:=c1.toNat_lt;omega)
     rw[hw]
     refine oS (sF [_] rfl (itoa_spec hG c1.toNat (by have:=c1.toNat_lt;omega)) ?_) rfl
     refine gad ?_
     exact retRet hj (rC (rA rfl zm0 rfl zsr) (rC (zrt rfl) (zra rfl))) (by rw[lexLiteral,if_neg (by rw[hc];decide)];rfl)
theorem token_spec (hG:GW B0 w0) (s:List UInt8) (hs:s.length≤1000000000) (hne:s≠[]):LCalls (KC B0 w0) 130 [str s] [] (Ret (encTokR (lexToken s))):=by
 match s,hne with
 |c::r,_=>
  refine cI Tryz.func130 rfl (n:=49) rfl rfl rfl ?_
  refine gag ?_
  refine oS (sA fun b=>?_) rfl
  refine gab ?_
  refine oP (Pure.sindex (c:=c) rfl rfl zDd rfl) rfl ?_
  refine oS (sF [_] rfl (digit_spec c) ?_) rfl
  refine gau ?_
  refine oC rfl (fun hc=>?_) (fun hc=>?_)
  ·refine gaf ?_
   refine oS (sF [_] rfl (number_spec hG (c::r) hs (by rw[List.takeWhile_cons_of_pos hc];simp)) ?_) rfl
   refine gad ?_
   exact retRet rfl (rC (rA rfl zm0 rfl zsr) (rC (zrt rfl) (zra rfl))) (by simp only[lexToken,hc,if_true];rfl)
  ·refine gaf ?_
   refine oP (Pure.sindex (c:=c) rfl rfl zDd rfl) rfl ?_
   refine oS (sF [_] rfl (letter_spec c) ?_) rfl
   refine gau ?_
   refine oC rfl (fun hl=>?_) (fun hl=>?_)
   ·refine gaf ?_
    refine oS (sF [_] rfl (name_spec (c::r) hs) ?_) rfl
    refine gad ?_
    exact retRet rfl (rC (rA rfl zm0 rfl zsr) (rC (zrt rfl) (zra rfl))) (by simp only[lexToken,hc,hl,if_true,Bool.false_eq_true,if_false];rfl)
   ·refine gaf ?_
    refine oP (Pure.sindex (c:=c) rfl rfl zDd rfl) rfl ?_
    refine gaa ?_
    refine oC rfl (fun hq=>?_) (fun hq=>?_)
    ·refine gaf ?_
     refine oS (sF [_] rfl (literal_spec hG (c::r) hs) ?_) rfl
     refine gad ?_
     exact retRet rfl (rC (rA rfl zm0 rfl zsr) (rC (zrt rfl) (zra rfl))) (by simp only[lexToken,hc,hl,Bool.false_eq_true,if_false];rw[if_pos hq];rfl)
    ·have htok:lexToken (c::r)=lexSign (c::r):=by simp only[lexToken,hc,hl,Bool.false_eq_true,if_false];rw[if_neg (by rw[hq];decide)]
     refine gab ?_
     refine oS (sF [] rfl signs_spec ?_) rfl
     refine gad ?_
     refine oL (fun k ls H=>∃ m:Nat,k=signs.length-m∧ls=[(0,str (c::r)),(2,ptr b 0),(34,.list (signs.map str)),(35,int .i64 24),(36,int .i64 m)]∧H=[(b,.cells 219 [int .i64 0,str [],int .i64 0])]∧m≤24∧signs.find? (fun x=>x.isPrefixOf (c::r))=(signs.drop m).find? (fun x=>x.isPrefixOf (c::r)))
      ⟨_,_,_,⟨0,rfl,rfl,rfl,by omega,by simp⟩,⟨rfl,rfl,rfl,rfl,rfl,trivial⟩,zhR _⟩ ?_
     rintro k ls H ⟨m,rfl,rfl,rfl,hm,hI⟩ j hj
     have h24:signs.length=24:=rfl
     refine gal ?_
     refine oC rfl (fun ht=>?_) (fun ht=>?_)
     ·have hlt:m<signs.length:=by have:=zt ht;omega
      refine gam ?_
      refine oP (xR (el':=str signs[m]) rfl rfl zo (by simp) rfl rfl) rfl ?_
      refine gab ?_
      refine oS (sF [_,_] rfl (hasPrefix_spec (c::r) signs[m]) ?_) rfl
      refine gap ?_
      refine oC rfl (fun hp=>?_) (fun hp=>?_)
      ·refine gac ?_
       exact retRet hj (rC (rA rfl zm0 rfl zsr) (rC (zrt rfl) (zra rfl))) (by
        rw[htok,lexSign,hI,List.drop_eq_getElem_cons hlt,List.find?_cons_of_pos (by simpa using hp)]
        rfl)
      ·refine gab ?_
       exact ⟨_,_,_,by omega,⟨m+1,rfl,rfl,rfl,by omega,by
        rw[hI,List.drop_eq_getElem_cons hlt,List.find?_cons_of_neg (by rw[hp];decide)]⟩,⟨rfl,rfl,rfl,rfl,int_eq zo,trivial⟩,zhR _,hj⟩
     ·have hge:signs.length≤m:=by have:=zf ht;omega
      refine gac ?_
      exact retRet hj (rC (rA rfl zm0 rfl zsr) (rC (zrt rfl) (zra rfl))) (by
       rw[htok,lexSign,hI,List.drop_eq_nil_of_le hge]
       rfl)
end
end Go.Proofs.YtpbbgkoalnonoaaGreatDoor
namespace Go.Proofs.YtpbbgkoalnonoaaGreatDoor
open Go.GL Go.RowKit Go.Stele
attribute [local irreducible] LOps LCode LStep LCalls Go.GL.Pure QThen QBlock RetPost
def lexAllP (s:List UInt8):Except (Int×Int) (List Tok):=if 60000<s.length then .error (0,6) else lexP s.length s 1
def encLex:Except (Int×Int) (List Tok)→LV
 |.ok T=>.tuple [.list (T.map encTok),int .i64 0,int .i64 0]
 |.error (l,e)=>.tuple [.list [],int .i64 l,int .i64 e]
theorem map_map_ex {A B D:Type} (f:A→B) (h:B→D) (r:Except (Int×Int) A):(r.map f).map h=r.map (fun x=>h (f x)):=by cases r <;> rfl
section
variable {B0:Nat} {w0:World}
theorem Tokens_any (hG:GW B0 w0) (s:List UInt8):LCalls (KC B0 w0) 68 [str s] [] (Ret (encLex (lexAllP s))):=by
 refine cI Tryz.func68 rfl (n:=49) rfl rfl rfl ?_
 refine gac ?_
 refine oC rfl (fun hc=>?_) (fun hc=>?_)
 ·refine gas ?_
  exact retRet rfl (rC (rT (v:=nilSlice) rfl LV.Sub.nil) (rC (zrt rfl) (zra rfl))) (by
   rw[lexAllP,if_pos (by have:=zt hc;omega)]
   rfl)
 ·have hlen:s.length≤60000:=by have:=zf hc;omega
  refine gab ?_
  refine oL (fun k ls H=>∃ (v:LV) (out:List Tok) (rest:List UInt8) (line:Int) (fuel:Nat),k=rest.length∧ls=[(5,v),(6,int .i64 line),(7,str rest)]∧Acc 3 v (out.map encTok) H [] ∧
    rest.length≤fuel∧0≤line∧line+rest.length≤60001∧out.length+rest.length≤60000∧lexP s.length s 1=(lexP fuel rest line).map (out++·))
   ⟨_,_,_,⟨nilSlice,[],s,1,s.length,rfl,rfl,Acc.nil,by omega,by omega,by omega,by simp;omega,by cases lexP s.length s 1 <;> rfl⟩,⟨rfl,rfl,rfl,trivial⟩,zhR _⟩ ?_
  rintro k ls H ⟨v,out,rest,line,fuel,rfl,rfl,hacc,hf,hl0,hl1,ho,hI⟩ j hj
  refine gac ?_
  refine oC rfl (fun hne=>?_) (fun hne=>?_)
  ·have hrest:rest≠[]:=by simpa using hne
   obtain ⟨f,rfl⟩:∃ f,fuel=f+1:=⟨fuel-1,by
    have:0<rest.length:=List.length_pos_iff.2 hrest
    omega⟩
   rw[lexP,if_neg hrest] at hI
   have hsk:=skipLen_le rest
   refine gab ?_
   refine oS (sF [_] rfl (skip_spec rest zo) ?_) rfl
   refine gab ?_
   refine oC rfl (fun hz=>?_) (fun hz=>?_)
   ·have hz':skipLen rest=0:=by have:=zt hz;omega
    rw[if_pos hz'] at hI
    refine gaf ?_
    refine oS (sF [_] rfl (token_spec hG rest zo hrest) ?_) rfl
    refine gad ?_
    refine oS (sA fun b=>?_) rfl
    refine gab ?_
    refine oC rfl (fun he=>?_) (fun he=>?_)
    ·have he':(lexToken rest).2.2≠0:=by simpa using he
     rw[if_pos he'] at hI
     refine gab ?_
     exact retRet hj (rC (rT (v:=nilSlice) rfl LV.Sub.nil) (rC (zrt rfl) (zra rfl))) (by
      rw[lexAllP,if_neg zo,hI]
      rfl)
    ·have he':(lexToken rest).2.2=0:=by simpa using he
     rw[if_neg (by simpa using he')] at hI
     obtain ⟨hs0,hs1⟩:=lexToken_size rest he'
     refine gab ?_
     refine oP (pM (lv:=v) rfl) rfl ?_
     refine gad ?_
     refine oS (sL [_] rfl (eC rfl rfl eN) rfl rfl rfl ?_) rfl
     refine LOps.weak (zhD zhr) ?_
     refine oS (S.acc rfl hacc rfl (by simp;rfl) rfl (by simp;omega) fun v' H' hacc'=>?_) rfl
     refine oP (pA (lv:=v') rfl) rfl ?_
     refine gao ?_
     refine oP (Pure.sslice (i:=0) (j:=(lexToken rest).2.1) rfl rfl ⟨_,rfl⟩ zo zo zo) rfl ?_
     refine oS (sF [_,_] rfl (countNl_spec _) ?_) rfl
     have hcnt:(List.drop (Int.toNat 0) (List.take ((lexToken rest).2.1:Int).toNat rest)).count 10≤(lexToken rest).2.1:=zNt List.count_le_length (by simp;omega)
     refine gab ?_
     refine oP (Pure.sslice (i:=(lexToken rest).2.1) (j:=rest.length) rfl ⟨_,rfl⟩ rfl zo zo zo) rfl ?_
     refine gaa ?_
     have hacc2:Acc 3 v' ((out++[{ (lexToken rest).1 with line:=line }]).map encTok) H' []:=by
      rw[zMa]
      exact hacc'
     exact ⟨_,_,_,by simp only[List.length_drop];omega,⟨v',out++[{ (lexToken rest).1 with line:=line }],rest.drop (lexToken rest).2.1,line+((rest.take (lexToken rest).2.1).count 10:Nat),f,rfl,rfl,hacc2,
      by simp only[List.length_drop];omega,by omega,by simp only[List.length_drop];simp at hcnt;omega,by simp only[List.length_drop,zLa,List.length_singleton];omega,by
       rw[hI,map_map_ex]
       congr 1
       funext x
       simp⟩,⟨rfl,int_eq (by simp),str_eq (by simp),trivial⟩,zhR _,hj⟩
   ·have hz':¬ skipLen rest=0:=by have:=zf hz;omega
    rw[if_neg hz'] at hI
    refine gab ?_
    refine oP (Pure.sslice (i:=0) (j:=skipLen rest) rfl rfl ⟨_,rfl⟩ zo zo zo) rfl ?_
    refine oS (sF [_,_] rfl (countNl_spec _) ?_) rfl
    have hcnt:(List.drop (Int.toNat 0) (List.take (skipLen rest:Int).toNat rest)).count 10≤skipLen rest:=zNt List.count_le_length (by simp;omega)
    refine gab ?_
    refine oP (Pure.sslice (i:=skipLen rest) (j:=rest.length) rfl ⟨_,rfl⟩ rfl zo zo zo) rfl ?_
    refine gaa ?_
    exact ⟨_,_,_,by simp only[List.length_drop];omega,⟨v,out,rest.drop (skipLen rest),line+((rest.take (skipLen rest)).count 10:Nat),f,rfl,rfl,hacc,
      by simp only[List.length_drop];omega,by omega,by simp only[List.length_drop];simp at hcnt;omega,by simp only[List.length_drop];omega,hI⟩,⟨rfl,int_eq (by simp),str_eq (by simp),trivial⟩,zhR _,hj⟩
  ·have hrest:rest=[]:=by simpa using hne
   refine gab ?_
   refine oP (pM (lv:=v) rfl) rfl ?_
   refine oP (pA (lv:=v) rfl) rfl ?_
   refine gak ?_
   exact retRet hj (rC (rT (v:=v) rfl hacc.sub) (rC (zrt rfl) (zra rfl))) (by
    rw[lexAllP,if_neg zo,hI,hrest]
    cases fuel <;> simp[lexP,Except.map,encLex,resLV])
end
end Go.Proofs.YtpbbgkoalnonoaaGreatDoor
namespace Go.GL
open Go.RowKit
section
variable {C:Ctx} {e:Env} {H:Heap} {dst:Option Nat} {ty:TypeId} {pos:String} {aft:Array Edge} {g:Option (Nat×Bool)} {K:LV→Heap→Prop} {X:List PanicEntry→Heap→Prop} {x y:Operand}
theorem S.accF {sT xT el s bytes:Nat} [ht:TSlice C.P sT el s] [hr:TRow C.P el s bytes] {e2 s2:Nat} [hx2:TSlice C.P xT e2 s2] {v:LV} {es ms:List LV} {H1 F A:Heap}
  (hp:H.Perm (H1++A)) (hx:e.ev x=v) (ha:Acc s v es H1 F) (hy:GL.elems (e.ev y)=some ms) (hs:∀ v∈ms,v.cells.length=s) (hok:(ms.flatMap LV.cells).all cellOk=true) (hroom:(es.length+ms.length) * bytes≤140737488355328)
  (hk:∀ v' H',Acc s v' (es++ms) H' F→K v' (A++H')):LStep C ⟨dst,.call { callee:=.builtin .append,args:=#[x,y],argTypes:=#[sT,xT] },ty,pos,aft,g⟩ e H K X:=by
 refine LStep.conseq (K:=fun lv H'=>∃ H2,H'=H2++A∧Acc s lv (es++ms) H2 F) (LStep.frame hp (S.acc hx ha hy hs hok hroom fun v' H' h=>⟨H',rfl,h⟩)) ?_
 rintro lv H' ⟨H2,rfl,h⟩
 exact ⟨lv,A++H2,LV.Sub.refl _,⟨[],by simpa using zPc⟩,hk _ _ h⟩
theorem S.acc1 {sT xT el s bytes:Nat} [ht:TSlice C.P sT el s] [hr:TRow C.P el s bytes] {e2 s2:Nat} [hx2:TSlice C.P xT e2 s2] {v:LV} {es ms:List LV} {H1 F:Heap} {q:Nat×LObj}
  (hx:e.ev x=v) (ha:Acc s v es H1 F) (hy:GL.elems (e.ev y)=some ms) (hs:∀ v∈ms,v.cells.length=s) (hok:(ms.flatMap LV.cells).all cellOk=true) (hroom:(es.length+ms.length) * bytes≤140737488355328)
  (hk:∀ v' H',Acc s v' (es++ms) H' F→K v' (q::H')):LStep C ⟨dst,.call { callee:=.builtin .append,args:=#[x,y],argTypes:=#[sT,xT] },ty,pos,aft,g⟩ e (q::H1) K X:=
 S.accF (A:=[q]) ((List.perm_append_singleton _ _).symm) hx ha hy hs hok hroom hk
end
end Go.GL
namespace Go.Stele
inductive Res (A:Type) where
 |ok (v:A) (at' op:Nat)
 |err (line e:Int)
def failLine (T:List Tok) (i:Nat):Int:=match T[min i (T.length-1)]? with
 |some t=>t.line
 |none=>1
def synErr {A:Type} (T:List Tok) (i:Nat):Res A:=.err (failLine T i) 3
def isTok (T:List Tok) (i:Nat) (xs:List (List UInt8)):Bool:=match T[i]? with
 |some t=>(decide (t.kind=3) || decide (t.kind=4)) && xs.contains t.text
 |none=>false
def sWord (T:List Tok) (k:Int) (i op:Nat):Res (List UInt8):=match T[i]? with
 |some t=>if t.kind=k then .ok t.text (i+1) op else synErr T i
 |none=>synErr T i
def sNeed (T:List Tok) (x:List UInt8) (i op:Nat):Res Unit:=if isTok T i [x] then .ok () (i+1) op else synErr T i
def sBegin (T:List Tok) (x:List UInt8) (i op:Nat):Res Unit:=
 if isTok T i [x] then (if 100≤op then .err (failLine T i) 6 else .ok () (i+1) (op+1)) else synErr T i
def Res.bind {A B:Type} (r:Res A) (f:A→Nat→Nat→Res B):Res B:=match r with
 |.ok v i op=>f v i op
 |.err l e=>.err l e
def numOf (s:List UInt8):Nat:=match Go.Lib.parseUintB 32 s with
 |.ok u=>u
 |_=>0
end Go.Stele
/- What the parser computes, in plain Lean: expressions and statements, by fuel. -/
namespace Go.Stele
inductive Ex where
 |mk (op:List UInt8) (num:Nat) (name:List UInt8) (args:List Ex)
 deriving Inhabited
inductive Sm where
 |mk (kind:Int) (name:List UInt8) (index value:List Ex) (thn els:List Sm)
 deriving Inhabited
structure FnD where
 name:List UInt8
 params:List (List UInt8)
 locals:List (List UInt8)
 body:List Sm
 deriving Inhabited
structure Ar where
 name:List UInt8
 size:Nat
 deriving Inhabited
structure Pr where
 vars:List (List UInt8)
 arrays:List Ar
 funcs:List FnD
 deriving Inhabited
def lvOps:Nat→List (List UInt8)
 |0=>[[124,124]]
 |1=>[[38,38]]
 |2=>[[61,61],[33,61],[60],[62],[60,61],[62,61]]
 |3=>[[94]]
 |4=>[[43],[45]]
 |5=>[[42],[47],[37]]
 |_=>[]
abbrev OR (A:Type):=Option (Res A)
def obind {A B:Type} (r:OR A) (f:A→Nat→Nat→OR B):OR B:=match r with
 |none=>none
 |some (.ok v i op)=>f v i op
 |some (.err l e)=>some (.err l e)
def textAt (T:List Tok) (i:Nat):List UInt8:=match T[i]? with
 |some t=>t.text
 |none=>[]
def kindAt (T:List Tok) (i:Nat):Int:=match T[i]? with
 |some t=>t.kind
 |none=>0
def sEnd (T:List Tok) (x:List UInt8) (i op:Nat):Res Unit:=(sNeed T x i op).bind fun _ i' op'=>.ok () i' (op'-1)
def sNumber (T:List Tok) (i op:Nat):Res Nat:=(sWord T 1 i op).bind fun s i' op'=>.ok (numOf s) i' op'
def sNamesLoop (T:List Tok):Nat→List (List UInt8)→Nat→Nat→OR (List (List UInt8))
 |0,_,_,_=>none
 |f+1,acc,i,op=>if isTok T i [[44]] then obind (some (sWord T 2 (i+1) op)) fun s i' op'=>sNamesLoop T f (acc++[s]) i' op' else some (.ok acc i op)
def sNames (T:List Tok) (f:Nat) (i op:Nat):OR (List (List UInt8)):=obind (some (sWord T 2 i op)) fun s i' op'=>sNamesLoop T f [s] i' op'
def nNeg:List UInt8:=[110,101,103]
def nNot:List UInt8:=[110,111,116]
def nNum:List UInt8:=[110,117,109]
def nElem:List UInt8:=[101,108,101,109]
def nCall:List UInt8:=[99,97,108,108]
def nVar:List UInt8:=[118,97,114]
mutual
def eLev (T:List Tok):Nat→Nat→Nat→Nat→OR Ex
 |0,_,_,_=>none
 |f+1,k,i,op=>if k=6 then eUnary T f i op else obind (eLev T f (k+1) i op) fun e i' op'=>eLoop T f k e i' op'
def eLoop (T:List Tok):Nat→Nat→Ex→Nat→Nat→OR Ex
 |0,_,_,_,_=>none
 |f+1,k,e,i,op=>
  if isTok T i (lvOps k) then obind (eLev T f (k+1) (i+1) op) fun e2 i' op'=>
   if k=2 then some (.ok (.mk (textAt T i) 0 [] [e,e2]) i' op') else eLoop T f k (.mk (textAt T i) 0 [] [e,e2]) i' op'
  else some (.ok e i op)
def eUnary (T:List Tok):Nat→Nat→Nat→OR Ex
 |0,_,_=>none
 |f+1,i,op=>
  if isTok T i [[45]] then obind (some (sBegin T [45] i op)) fun _ i' op'=>obind (eUnary T f i' op') fun e i' op'=>some (.ok (.mk nNeg 0 [] [e]) i' (op'-1))
  else if isTok T i [[33]] then obind (some (sBegin T [33] i op)) fun _ i' op'=>obind (eUnary T f i' op') fun e i' op'=>some (.ok (.mk nNot 0 [] [e]) i' (op'-1))
  else ePrim T f i op
def ePrim (T:List Tok):Nat→Nat→Nat→OR Ex
 |0,_,_=>none
 |f+1,i,op=>
  if isTok T i [[40]] then obind (some (sBegin T [40] i op)) fun _ i' op'=>obind (eLev T f 0 i' op') fun e i' op'=>obind (some (sEnd T [41] i' op')) fun _ i' op'=>some (.ok e i' op')
  else if kindAt T i=1 then obind (some (sNumber T i op)) fun n i' op'=>some (.ok (.mk nNum n [] []) i' op')
  else obind (some (sWord T 2 i op)) fun s i' op'=>
   if isTok T i' [[91]] then obind (eIndex T f i' op') fun e i' op'=>some (.ok (.mk nElem 0 s [e]) i' op')
   else if isTok T i' [[40]] then obind (eArgs T f i' op') fun l i' op'=>some (.ok (.mk nCall 0 s l) i' op')
   else some (.ok (.mk nVar 0 s []) i' op')
def eIndex (T:List Tok):Nat→Nat→Nat→OR Ex
 |0,_,_=>none
 |f+1,i,op=>obind (some (sBegin T [91] i op)) fun _ i' op'=>obind (eLev T f 0 i' op') fun e i' op'=>obind (some (sEnd T [93] i' op')) fun _ i' op'=>some (.ok e i' op')
def eArgs (T:List Tok):Nat→Nat→Nat→OR (List Ex)
 |0,_,_=>none
 |f+1,i,op=>obind (some (sBegin T [40] i op)) fun _ i' op'=>obind (eArgsLoop T f [] i' op') fun l i' op'=>obind (some (sEnd T [41] i' op')) fun _ i' op'=>some (.ok l i' op')
def eArgsLoop (T:List Tok):Nat→List Ex→Nat→Nat→OR (List Ex)
 |0,_,_,_=>none
 |f+1,acc,i,op=>
  if isTok T i [[41]] then some (.ok acc i op)
  else obind (some (if acc=[] then .ok () i op else sNeed T [44] i op)) fun _ i' op'=>obind (eLev T f 0 i' op') fun e i' op'=>eArgsLoop T f (acc++[e]) i' op'
end
def kwIf:List UInt8:=[105,102]
def kwElse:List UInt8:=[101,108,115,101]
def kwWhile:List UInt8:=[119,104,105,108,101]
def kwReturn:List UInt8:=[114,101,116,117,114,110]
def kwHalt:List UInt8:=[104,97,108,116]
def kwVar:List UInt8:=[118,97,114]
def kwArray:List UInt8:=[97,114,114,97,121]
def kwFunc:List UInt8:=[102,117,110,99]
end Go.Stele
namespace Go.Stele
mutual
def sBlock (T:List Tok):Nat→Nat→Nat→OR (List Sm)
 |0,_,_=>none
 |f+1,i,op=>obind (some (sBegin T [123] i op)) fun _ i' op'=>obind (sStmts T f [] i' op') fun l i' op'=>obind (some (sEnd T [125] i' op')) fun _ i' op'=>some (.ok l i' op')
def sStmts (T:List Tok):Nat→List Sm→Nat→Nat→OR (List Sm)
 |0,_,_,_=>none
 |f+1,acc,i,op=>if isTok T i [[125]] then some (.ok acc i op) else obind (sStmt T f i op) fun s i' op'=>sStmts T f (acc++[s]) i' op'
def sStmt (T:List Tok):Nat→Nat→Nat→OR Sm
 |0,_,_=>none
 |f+1,i,op=>
  if isTok T i [kwIf] then obind (eLev T f 0 (i+1) op) fun e i' op'=>obind (sBlock T f i' op') fun th i' op'=>
   if isTok T i' [kwElse] then obind (sBlock T f (i'+1) op') fun el i' op'=>some (.ok (.mk 3 [] [] [e] th el) i' op') else some (.ok (.mk 3 [] [] [e] th []) i' op')
  else if isTok T i [kwWhile] then obind (eLev T f 0 (i+1) op) fun e i' op'=>obind (sBlock T f i' op') fun th i' op'=>some (.ok (.mk 4 [] [] [e] th []) i' op')
  else obind (sSimple T f i op) fun s i' op'=>obind (some (sNeed T [59] i' op')) fun _ i' op'=>some (.ok s i' op')
def sSimple (T:List Tok):Nat→Nat→Nat→OR Sm
 |0,_,_=>none
 |f+1,i,op=>
  if isTok T i [kwReturn] then obind (eLev T f 0 (i+1) op) fun e i' op'=>some (.ok (.mk 5 [] [] [e] [] []) i' op')
  else if isTok T i [kwHalt] then some (.ok (.mk 7 [] [] [] [] []) (i+1) op)
  else obind (some (sWord T 2 i op)) fun s i' op'=>
   if isTok T i' [[40]] then obind (eArgs T f i' op') fun l i' op'=>some (.ok (.mk 6 [] [] [.mk nCall 0 s l] [] []) i' op')
   else if isTok T i' [[91]] then obind (eIndex T f i' op') fun x i' op'=>obind (some (sNeed T [61] i' op')) fun _ i' op'=>obind (eLev T f 0 i' op') fun e i' op'=>some (.ok (.mk 2 s [x] [e] [] []) i' op')
   else obind (some (sNeed T [61] i' op')) fun _ i' op'=>obind (eLev T f 0 i' op') fun e i' op'=>some (.ok (.mk 1 s [] [e] [] []) i' op')
end
def sVars (T:List Tok):Nat→List (List UInt8)→Nat→Nat→OR (List (List UInt8))
 |0,_,_,_=>none
 |f+1,acc,i,op=>if isTok T i [kwVar] then obind (sNames T f (i+1) op) fun l i' op'=>obind (some (sNeed T [59] i' op')) fun _ i' op'=>sVars T f (acc++l) i' op' else some (.ok acc i op)
def sFunc (T:List Tok) (f:Nat) (i op:Nat):OR FnD:=
 obind (some (sWord T 2 i op)) fun nm i' op'=>obind (some (sBegin T [40] i' op')) fun _ i' op'=>
 obind (if isTok T i' [[41]] then some (.ok [] i' op') else sNames T f i' op') fun ps i' op'=>obind (some (sEnd T [41] i' op')) fun _ i' op'=>
 obind (some (sBegin T [123] i' op')) fun _ i' op'=>obind (sVars T f [] i' op') fun ls i' op'=>obind (sStmts T f [] i' op') fun b i' op'=>
 obind (some (sEnd T [125] i' op')) fun _ i' op'=>some (.ok ⟨nm,ps,ls,b⟩ i' op')
def sArray (T:List Tok) (i op:Nat):OR Ar:=
 obind (some (sWord T 2 i op)) fun nm i' op'=>obind (some (sBegin T [91] i' op')) fun _ i' op'=>obind (some (sNumber T i' op')) fun n i' op'=>
 obind (some (sEnd T [93] i' op')) fun _ i' op'=>obind (some (sNeed T [59] i' op')) fun _ i' op'=>some (.ok ⟨nm,n⟩ i' op')
def sProg (T:List Tok):Nat→Pr→Nat→Nat→OR Pr
 |0,_,_,_=>none
 |f+1,p,i,op=>
  if T.length≤i then some (.ok p i op)
  else if isTok T i [kwVar] then obind (sVars T f [] i op) fun l i' op'=>sProg T f { p with vars:=p.vars++l } i' op'
  else if isTok T i [kwArray] then obind (sArray T (i+1) op) fun a i' op'=>sProg T f { p with arrays:=p.arrays++[a] } i' op'
  else if isTok T i [kwFunc] then obind (sFunc T f (i+1) op) fun a i' op'=>sProg T f { p with funcs:=p.funcs++[a] } i' op'
  else some (synErr T i)
end Go.Stele
namespace Go.Proofs.YtpbbgkoalnonoaaGreatDoor
open Go.GL Go.RowKit Go.Stele
attribute [local irreducible] LOps LCode LStep LCalls Go.GL.Pure QThen QBlock RetPost LQ LAny LLate LLateOp
@[reducible] def srcH (sb:Nat) (T:List Tok) (i op:Nat):Nat×LObj:=(sb,.cells 159 [.list (T.map encTok),int .i64 i,int .i64 op])
def pan (l e:Int):List PanicEntry:=[{ v:=.iface 155 (.agg #[.int .i64 l,.int .i64 e]),recovered:=false }]
def PostP {A:Type} (sb:Nat) (T:List Tok) (enc:A→LV) (res:Res A) (r:LRes) (H:Heap):Prop:=match res with
 |.ok v i op=>r=.ret (enc v)∧H=[srcH sb T i op]
 |.err l e=>r=.panic (pan l e)∧∃ i op:Nat,H=[srcH sb T i op]
def encU:Unit→LV:=fun _=>.tuple []
theorem map_get {A:Type} (f:A→LV) (l:List A) (i:Nat) (h:i<l.length):(l.map f)[((i:Nat):Int).toNat]? = some (f l[i]):=by
 rw[Int.toNat_natCast,List.getElem?_map,List.getElem?_eq_getElem h]
 rfl
section
variable {B0:Nat} {w0:World}
theorem is_spec (sb:Nat) (T:List Tok) (i op:Nat) (xs:List (List UInt8)) (hT:T.length≤100000) (hi:i≤1000000) (hx:xs.length≤1000) :
  LCalls (KC B0 w0) 132 [ptr sb 0,.list (xs.map str)] [srcH sb T i op] (fun r H=>r=.ret (bool (isTok T i xs))∧H=[srcH sb T i op]):=by
 refine cI Tryz.func132 rfl (n:=40) rfl rfl rfl ?_
 refine gai ?_
 refine LCode.cut [(0,ptr sb 0),(1,.list (xs.map str)),(15,bool (decide (T.length≤i)))] ?_ (fun j hj=>?_)
 ·refine LCode.quiet zk ?_
  refine gad ?_
  exact ⟨⟨rfl,rfl,bool_eq (by rw[decide_eq_decide];simp),trivial⟩,rfl,rfl⟩
 ·skip
  refine oC rfl (fun hc=>?_) (fun hc=>?_)
  ·refine gas ?_
   exact rR hj (zra rfl) zhr ⟨by rw[isTok,List.getElem?_eq_none (zt hc)];rfl,rfl⟩
  ·have hlt:i<T.length:=by have:=zf hc;omega
   refine gaa ?_
   refine LCode.draw (m:=12) rfl [srcH sb T i op] ?_
   refine aT 0 rfl rfl (pM (lv:=.atom _) rfl) ?_
   refine aT 1 rfl rfl (pN rfl) ?_
   refine aT 2 rfl rfl (pF rfl) ?_
   refine aT 3 rfl rfl (pL (c:=.list _) rfl zm0 rfl) ?_
   refine aT 4 rfl rfl (pM (lv:=.atom _) rfl) ?_
   refine aT 5 rfl rfl (pN rfl) ?_
   refine aT 6 rfl rfl (pF rfl) ?_
   refine aT 7 rfl rfl (pL (c:=.atom _) rfl zm0 rfl) ?_
   refine LAny.take (i:=8) zhr rfl zk zk zk rfl (xR (el':=encTok T[i]) (cs:=[_,_,_]) rfl rfl zo (map_get _ _ _ hlt) rfl rfl) ?_
   refine aT 9 rfl rfl (Pure.ldRefAgg (cs':=[_,_,_]) rfl rfl rfl) ?_
   refine LAny.late ?_ zhr
   refine lO 10 (lS (H1:=[]) (F:=[srcH sb T i op]) rfl (.inl rfl) rfl zpr zhr (sA fun b=>?_))
   refine lO 11 (lS (H1:=[(b,_)]) (F:=[srcH sb T i op]) rfl (.inl rfl) rfl zpr zhr (sS (cs':=[_,_,_]) rfl pH rfl rfl rfl rfl rfl ?_))
   refine lD zk ?_
   refine gab ?_
   have hsp:isTok T i xs=((decide (T[i].kind=3) || decide (T[i].kind=4)) && xs.contains T[i].text):=by rw[isTok,List.getElem?_eq_getElem hlt]
   rw[hsp]
   refine oB 29 rfl (fun h3=>?_) (fun h3=>?_)
   ·refine gaa ?_
    refine oS (sF [_,_] rfl (Contains_spec xs T[i].text zo) ?_) rfl
    refine gaa ?_
    exact rR hj (zra rfl) (zhD zhr) ⟨by rw[h3];rfl,rfl⟩
   ·refine gaa ?_
    refine oB 34 rfl (fun h4=>?_) (fun h4=>?_)
    ·refine gaa ?_
     refine oS (sF [_,_] rfl (Contains_spec xs T[i].text zo) ?_) rfl
     refine gaa ?_
     exact rR hj (zra rfl) (zhD zhr) ⟨by rw[h3,h4];rfl,rfl⟩
    ·refine gaa ?_
     exact rR hj (zra rfl) (zhD zhr) ⟨by rw[h3,h4];rfl,rfl⟩
end
end Go.Proofs.YtpbbgkoalnonoaaGreatDoor
namespace Go.Proofs.YtpbbgkoalnonoaaGreatDoor
open Go.GL Go.RowKit Go.Stele
section steps
variable {C:Ctx} {e:Env} {H:Heap} {dst:Option Nat} {ty:TypeId} {pos:String} {aft:Array Edge} {g:Option (Nat×Bool)} {K:LV→Heap→Prop} {X:List PanicEntry→Heap→Prop}
theorem S.fnH {f:FuncId} [TEnter C.P f] (args:List Operand) {ats:Array TypeId} {av:List LV} {lv:LV} {p p':Nat×LObj} {F:Heap} (has:args.map e.ev=av) (hp:Pick p H F) (hc:LCalls C f av [p] (fun r H=>r=.ret lv∧H=[p'])) (hk:K lv (p'::F)) :
  LStep C ⟨dst,.call { callee:=.value (.func f),args:=args.toArray,argTypes:=ats },ty,pos,aft,g⟩ e H K X:=
 S.call1 args has hp hc (by rintro v H' ⟨h,rfl⟩;cases h;exact hk) (by rintro ch H' ⟨h,_⟩;cases h)
theorem S.callP {A:Type} {enc:A→LV} {res:Res A} {sb i op:Nat} {T:List Tok} {f:FuncId} [TEnter C.P f] (args:List Operand) {ats:Array TypeId} {av:List LV} {F:Heap} (has:args.map e.ev=av) (hp:Pick (srcH sb T i op) H F)
  (hc:LCalls C f av [srcH sb T i op] (PostP sb T enc res)) (hk:∀ v i' op',res=.ok v i' op'→K (enc v) (srcH sb T i' op'::F)) (hx:∀ l er i' op',res=.err l er→X (pan l er) (srcH sb T i' op'::F)) :
  LStep C ⟨dst,.call { callee:=.value (.func f),args:=args.toArray,argTypes:=ats },ty,pos,aft,g⟩ e H K X:=by
 refine S.call1 args has hp hc ?_ ?_
 ·intro v H' h
  cases hr:res with
  |ok u i' op'=>
   rw[hr] at h
   obtain ⟨h1,rfl⟩:=h
   cases h1
   exact hk _ _ _ hr
  |err l er=>
   rw[hr] at h
   obtain ⟨h1,_⟩:=h
   cases h1
 ·intro ch H' h
  cases hr:res with
  |ok u i' op'=>
   rw[hr] at h
   obtain ⟨h1,_⟩:=h
   cases h1
  |err l er=>
   rw[hr] at h
   obtain ⟨h1,i',op',rfl⟩:=h
   cases h1
   exact hx _ _ _ _ hr
theorem retP {A:Type} {enc:A→LV} {res:Res A} {sb:Nat} {T:List Tok} {n:Nat} {rs:List ResultVar} {vs:List LV} {v:A} {i op:Nat} (hd:e.ds=[]) (h:AllRes C n e H rs vs) (hr:res=.ok v i op) (hv:resLV vs=enc v) (hH:HSub [srcH sb T i op] H) :
  RetPost C n rs (PostP sb T enc res) .ret e H:=rR hd h hH (by rw[hr];exact ⟨by rw[hv],rfl⟩)
theorem retPn {A:Type} {enc:A→LV} {res:Res A} {sb:Nat} {T:List Tok} {n:Nat} {rs:List ResultVar} {vs:List LV} {v:A} {i op:Nat} (hd:e.ds=[]) (h:AllRes C n e H rs vs) (hr:res=.ok v i op) (hv:resLV vs=enc v) (hH:HSub [srcH sb T i op] H) :
  RetPost C n rs (PostP sb T enc res) .normal e H:=rO hd h hH (by rw[hr];exact ⟨by rw[hv],rfl⟩)
theorem panP {A:Type} {enc:A→LV} {res:Res A} {sb:Nat} {T:List Tok} {n:Nat} {rs:List ResultVar} {i op:Nat} {l er:Int} (hd:e.ds=[]) (hr:res=.err l er) (hH:HSub [srcH sb T i op] H) :
  RetPost C n rs (PostP sb T enc res) (.panic (pan l er)) e H:=RetPost.panic hd hH (by rw[hr];exact ⟨rfl,i,op,rfl⟩)
end steps
attribute [local irreducible] LOps LCode LStep LCalls Go.GL.Pure QThen QBlock RetPost LQ LAny LLate LLateOp
section
variable {B0:Nat} {w0:World}
theorem fail_spec {A:Type} (enc:A→LV) (sb:Nat) (T:List Tok) (i op:Nat) (er:Int) (hT:T.length≤100000) (hi:i≤1000000) :
  LCalls (KC B0 w0) 137 [ptr sb 0,int .i64 er] [srcH sb T i op] (PostP sb T enc (.err (failLine T i) er)):=by
 have hml:(T.map encTok).length=T.length:=zLm _
 refine cI Tryz.func137 rfl (n:=31) rfl rfl rfl ?_
 refine gac ?_
 refine LCode.cut [(0,ptr sb 0),(1,int .i64 er),(4,int .i64 (failLine T i))] ?_ (fun j hj=>?_)
 ·refine oC rfl (fun hc=>?_) (fun hc=>?_)
  ·have hpos:0<T.length:=by have:=zt hc;simp at this;omega
   have hmin:min i (T.length-1)<T.length:=by omega
   have hmv:(if ((T.map encTok).length:Int)-1<(i:Int) then ((T.map encTok).length:Int)-1 else (i:Int))=((min i (T.length-1):Nat):Int):=by
    rw[zLm]
    split <;> omega
   refine LCode.quiet zk ?_
   refine gad ?_
   refine LQ.pure (xR (n:=((min i (T.length-1):Nat):Int)) (el':=encTok T[min i (T.length-1)]) (cs:=[_,_,_]) rfl (congrArg (int .i64) hmv) zo (map_get _ _ _ hmin) rfl rfl) rfl ?_
   refine gad ?_
   exact ⟨⟨rfl,rfl,int_eq (by rw[failLine,List.getElem?_eq_getElem hmin]),trivial⟩,rfl,rfl⟩
  ·have hz:T=[]:=by
    have:=zf hc
    exact List.length_eq_zero_iff.1 zo
   refine gaa ?_
   exact ⟨⟨rfl,rfl,int_eq (by rw[failLine,hz];rfl),trivial⟩,rfl,rfl⟩
 ·refine gac ?_
  refine oS (LStep.panic rfl fun e' he'=>?_) rfl
  exact panP (he'.trans hj) rfl zhr
theorem take_spec (sb:Nat) (T:List Tok) (i op:Nat) (x:List UInt8) (hT:T.length≤100000) (hi:i≤1000000) :
  LCalls (KC B0 w0) 134 [ptr sb 0,str x] [srcH sb T i op] (fun r H=>r=.ret (bool (isTok T i [x]))∧H=[srcH sb T (if isTok T i [x] then i+1 else i) op]):=by
 refine cI Tryz.func134 rfl (n:=17) rfl rfl rfl ?_
 refine gao ?_
 refine oS (sL [_] rfl (eC rfl rfl eN) rfl rfl rfl ?_) rfl
 refine oS (S.fnH [_,_] rfl pH (is_spec sb T i op [x] hT hi (by simp)) ?_) rfl
 refine gaa ?_
 refine oC rfl (fun hc=>?_) (fun hc=>?_)
 ·have h:isTok T i [x]=false:=by simpa using hc
  refine gas ?_
  exact rR rfl (zra rfl) zhr ⟨by rw[h];rfl,by rw[h];rfl⟩
 ·have h:isTok T i [x]=true:=by simpa using hc
  refine gab ?_
  exact rR rfl (zra rfl) zhr ⟨by rw[h];rfl,by rw[h];rfl⟩
theorem need_spec (sb:Nat) (T:List Tok) (i op:Nat) (x:List UInt8) (hT:T.length≤100000) (hi:i≤1000000) :
  LCalls (KC B0 w0) 201 [ptr sb 0,str x] [srcH sb T i op] (PostP sb T encU (sNeed T x i op)):=by
 refine cI Tryz.func201 rfl (n:=10) rfl rfl rfl ?_
 refine gaf ?_
 refine oS (S.fnH [_,_] rfl pH (take_spec sb T i op x hT hi) ?_) rfl
 refine gaa ?_
 refine oC rfl (fun hc=>?_) (fun hc=>?_)
 ·have h:isTok T i [x]=false:=by simpa using hc
  simp only[h,Bool.false_eq_true,if_false]
  refine gaf ?_
  refine oS (S.callP [_,_] rfl pH (fail_spec encU sb T i op 3 hT hi) (fun _ _ _ h=>by cases h) (fun l er i' op' h e' he'=>?_)) rfl
  cases h
  exact panP (he'.trans rfl) (by rw[sNeed,h,if_neg zDd];rfl) zhr
 ·have h:isTok T i [x]=true:=by simpa using hc
  simp only[h,if_true]
  refine gaa ?_
  exact retPn rfl rN (by rw[sNeed,h,if_pos rfl]) rfl zhr
theorem word_spec (sb:Nat) (T:List Tok) (i op:Nat) (k:Int) (hT:T.length≤100000) (hi:i≤1000000) :
  LCalls (KC B0 w0) 202 [ptr sb 0,int .i64 k] [srcH sb T i op] (PostP sb T str (sWord T k i op)):=by
 have hml:(T.map encTok).length=T.length:=zLm _
 refine cI Tryz.func202 rfl (n:=51) rfl rfl rfl ?_
 refine gai ?_
 refine LCode.cut [(0,ptr sb 0),(1,int .i64 k),(29,bool (match T[i]? with|some t=>!decide (t.kind=k)|none=>true))] ?_ (fun j hj=>?_)
 ·refine LCode.quiet zk ?_
  refine gad ?_
  refine LQ.bcase 15 rfl (fun h=>?_) (fun h=>?_)
  ·have hge:T.length≤i:=by have:=zt h;omega
   refine gad ?_
   exact ⟨⟨rfl,rfl,bool_eq (by rw[List.getElem?_eq_none hge]),trivial⟩,rfl,rfl⟩
  ·have hlt:i<T.length:=by have:=zf h;omega
   refine gad ?_
   refine LQ.pure (xR (el':=encTok T[i]) (cs:=[_,_,_]) rfl rfl zo (map_get _ _ _ hlt) rfl rfl) rfl ?_
   refine gad ?_
   exact ⟨⟨rfl,rfl,bool_eq (by rw[List.getElem?_eq_getElem hlt]),trivial⟩,rfl,rfl⟩
 ·skip
  refine oC rfl (fun hc=>?_) (fun hc=>?_)
  ·have hs:sWord T k i op=synErr T i:=by
    unfold sWord
    cases hg:T[i]? with
    |none=>rfl
    |some t=>
     rw[hg] at hc
     have:¬ t.kind=k:=by simpa using hc
     simp only
     rw[if_neg this]
   refine gaf ?_
   refine oS (S.callP [_,_] rfl pH (fail_spec str sb T i op 3 hT hi) (fun _ _ _ h=>by cases h) (fun l er i' op' h e' he'=>?_)) rfl
   cases h
   refine gah ?_
   exact panP (he'.trans hj) hs zhr
  ·have hlt:i<T.length:=by
    rcases Nat.lt_or_ge i T.length with h|h
    ·exact h
    ·rw[List.getElem?_eq_none h] at hc;cases hc
   rw[List.getElem?_eq_getElem hlt] at hc
   have hk:T[i].kind=k:=by simpa using hc
   have hs:sWord T k i op=.ok T[i].text (i+1) op:=by rw[sWord,List.getElem?_eq_getElem hlt];simp only;rw[if_pos hk]
   refine gab ?_
   refine LCode.cut [(0,ptr sb 0),(4,str T[i].text)] ?_ (fun j2 hj2=>?_)
   ·refine LCode.quiet zk ?_
    refine gad ?_
    refine LQ.pure (xR (n:=((i:Nat):Int)) (el':=encTok T[i]) (cs:=[_,_,_]) rfl (int_eq zo) zo (map_get _ _ _ hlt) rfl rfl) rfl ?_
    refine gad ?_
    exact ⟨⟨rfl,rfl,trivial⟩,rfl,rfl⟩
   ·refine gak ?_
    exact retP (hj2.trans hj) (zra rfl) hs rfl zhr
theorem begin_spec (sb:Nat) (T:List Tok) (i op:Nat) (x:List UInt8) (hT:T.length≤100000) (hi:i≤1000000) (ho:op≤1000000) :
  LCalls (KC B0 w0) 203 [ptr sb 0,str x] [srcH sb T i op] (PostP sb T encU (sBegin T x i op)):=by
 refine cI Tryz.func203 rfl (n:=32) rfl rfl rfl ?_
 refine gaf ?_
 refine oS (sL [_] rfl (eC rfl rfl eN) rfl rfl rfl ?_) rfl
 refine oS (S.fnH [_,_] rfl pH (is_spec sb T i op [x] hT hi (by simp)) ?_) rfl
 refine gaa ?_
 refine oC rfl (fun hc=>?_) (fun hc=>?_)
 ·have h:isTok T i [x]=false:=by simpa using hc
  refine gaf ?_
  refine oS (S.callP [_,_] rfl pH (fail_spec encU sb T i op 3 hT hi) (fun _ _ _ h=>by cases h) (fun l er i' op' h' e' he'=>?_)) rfl
  cases h'
  refine gah ?_
  exact panP (he'.trans rfl) (by rw[sBegin,h,if_neg zDd];rfl) zhr
 ·have h:isTok T i [x]=true:=by simpa using hc
  refine gac ?_
  refine oC rfl (fun hd=>?_) (fun hd=>?_)
  ·have hd':100≤op:=by have:=zt hd;omega
   refine gaf ?_
   refine oS (S.callP [_,_] rfl pH (fail_spec encU sb T i op 6 hT hi) (fun _ _ _ h=>by cases h) (fun l er i' op' h' e' he'=>?_)) rfl
   cases h'
   refine gah ?_
   exact panP (he'.trans rfl) (by rw[sBegin,h,if_pos rfl,if_pos hd']) zhr
  ·have hd':¬ 100≤op:=by have:=zf hd;omega
   refine gab ?_
   exact retPn rfl rN (by rw[sBegin,h,if_pos rfl,if_neg hd']) rfl zhr
theorem end_spec (sb:Nat) (T:List Tok) (i op:Nat) (x:List UInt8) (hT:T.length≤100000) (hi:i≤1000000) (ho:op≤1000000) (h1:1≤op) :
  LCalls (KC B0 w0) 205 [ptr sb 0,str x] [srcH sb T i op] (PostP sb T encU (sEnd T x i op)):=by
 refine cI Tryz.func205 rfl (n:=14) rfl rfl rfl ?_
 refine gaf ?_
 refine oS (S.callP [_,_] rfl pH (need_spec sb T i op x hT hi) (fun v i' op' h=>?_) (fun l er i' op' h e' he'=>?_)) rfl
 ·have hop:op'=op:=by
   unfold sNeed at h
   split at h
   ·cases h;rfl
   ·cases h
  subst hop
  refine gac ?_
  rw[show ((op':Int)-1)=((op'-1:Nat):Int) by omega]
  exact retPn rfl rN (by rw[sEnd,h];rfl) rfl zhr
 ·refine gah ?_
  exact panP (he'.trans rfl) (by rw[sEnd,h];rfl) zhr
end
end Go.Proofs.YtpbbgkoalnonoaaGreatDoor
namespace Go.Stele
def exOp:Ex→List UInt8|.mk o _ _ _=>o
def exNum:Ex→Nat|.mk _ n _ _=>n
def exName:Ex→List UInt8|.mk _ _ n _=>n
def smKind:Sm→Int|.mk k _ _ _ _ _=>k
def smName:Sm→List UInt8|.mk _ n _ _ _ _=>n
def smIndex:Sm→List Ex|.mk _ _ i _ _ _=>i
def smValue:Sm→List Ex|.mk _ _ _ v _ _=>v
end Go.Stele
namespace Go.Proofs.YtpbbgkoalnonoaaGreatDoor
open Go.GL Go.RowKit Go.Stele
mutual
def encArgs:Ex→List LV
 |.mk _ _ _ a=>encEs a
def encEs:List Ex→List LV
 |[]=>[]
 |e::r=>.agg [str (exOp e),int .u32 (exNum e),str (exName e),.list (encArgs e)]::encEs r
end
def encE (e:Ex):LV:=.agg [str (exOp e),int .u32 (exNum e),str (exName e),.list (encArgs e)]
theorem encEs_map:∀ l:List Ex,encEs l=l.map encE
 |[]=>by simp[encEs]
 |e::r=>by rw[encEs,encEs_map r];rfl
theorem encArgs_map (o:List UInt8) (n:Nat) (nm:List UInt8) (a:List Ex):encArgs (.mk o n nm a)=a.map encE:=by rw[encArgs,encEs_map]
theorem encE_mk (o:List UInt8) (n:Nat) (nm:List UInt8) (a:List Ex):encE (.mk o n nm a)=.agg [str o,int .u32 n,str nm,.list (a.map encE)]:=by rw[encE,encArgs_map];rfl
mutual
def encThen:Sm→List LV
 |.mk _ _ _ _ t _=>encSs t
def encElse:Sm→List LV
 |.mk _ _ _ _ _ e=>encSs e
def encSs:List Sm→List LV
 |[]=>[]
 |s::r=>.agg [int .i64 (smKind s),str (smName s),.list ((smIndex s).map encE),.list ((smValue s).map encE),.list (encThen s),.list (encElse s)]::encSs r
end
def encS (s:Sm):LV:=.agg [int .i64 (smKind s),str (smName s),.list ((smIndex s).map encE),.list ((smValue s).map encE),.list (encThen s),.list (encElse s)]
theorem encSs_map:∀ l:List Sm,encSs l=l.map encS
 |[]=>by simp[encSs]
 |e::r=>by rw[encSs,encSs_map r];rfl
theorem encS_mk (k:Int) (n:List UInt8) (i v:List Ex) (t e:List Sm):encS (.mk k n i v t e)=.agg [int .i64 k,str n,.list (i.map encE),.list (v.map encE),.list (t.map encS),.list (e.map encS)]:=by
 rw[encS,encThen,encElse,encSs_map,encSs_map];rfl
def encAr (a:Ar):LV:=.agg [str a.name,int .i64 a.size]
def encFn (f:FnD):LV:=.agg [str f.name,.list (f.params.map str),.list (f.locals.map str),.list (f.body.map encS)]
def encPr (p:Pr):LV:=.agg [.list (p.vars.map str),.list (p.arrays.map encAr),.list (p.funcs.map encFn)]
end Go.Proofs.YtpbbgkoalnonoaaGreatDoor
namespace Go.Stele
def Good {A:Type} (T:List Tok) (s:Bool) (i op:Nat) (r:Res A):Prop:=match r with
 |.ok _ i' op'=>i≤i'∧(s=true→i<i')∧(i≤T.length→i'≤T.length)∧op'=op
 |.err _ _=>True
def GoodO {A:Type} (T:List Tok) (s:Bool) (i op:Nat) (r:OR A):Prop:=∀ r',r=some r'→Good T s i op r'
theorem isTok_lt {T:List Tok} {i:Nat} {xs:List (List UInt8)} (h:isTok T i xs=true):i<T.length:=by
 rcases Nat.lt_or_ge i T.length with h1|h1
 ·exact h1
 ·rw[isTok,List.getElem?_eq_none h1] at h;cases h
theorem get_lt {T:List Tok} {i:Nat} {t:Tok} (h:T[i]? = some t):i<T.length:=(List.getElem?_eq_some_iff.1 h).1
theorem sWord_good (T:List Tok) (k:Int) (i op:Nat):Good T true i op (sWord T k i op):=by
 unfold sWord
 split
 ·rename_i t ht
  have:=get_lt ht
  split
  ·exact ⟨by omega,fun _=>by omega,fun _=>by omega,rfl⟩
  ·trivial
 ·trivial
theorem sNeed_good (T:List Tok) (x:List UInt8) (i op:Nat):Good T true i op (sNeed T x i op):=by
 unfold sNeed
 split
 ·rename_i h
  have:=isTok_lt h
  exact ⟨by omega,fun _=>by omega,fun _=>by omega,rfl⟩
 ·trivial
theorem sBegin_ok {T:List Tok} {x:List UInt8} {i op i' op':Nat} {u:Unit} (h:sBegin T x i op=.ok u i' op'):i'=i+1∧op'=op+1∧op<100∧i<T.length:=by
 unfold sBegin at h
 split at h
 ·rename_i h1
  have:=isTok_lt h1
  split at h
  ·cases h
  ·cases h
   exact ⟨rfl,rfl,by omega,this⟩
 ·cases h
theorem sEnd_ok {T:List Tok} {x:List UInt8} {i op i' op':Nat} {u:Unit} (h:sEnd T x i op=.ok u i' op'):i'=i+1∧op'=op-1∧i<T.length:=by
 unfold sEnd sNeed at h
 split at h
 ·rename_i h1
  have:=isTok_lt h1
  cases h
  exact ⟨rfl,rfl,this⟩
 ·cases h
theorem sNumber_good (T:List Tok) (i op:Nat):Good T true i op (sNumber T i op):=by
 have:=sWord_good T 1 i op
 unfold sNumber
 cases h:sWord T 1 i op with
 |ok v i' op'=>rw[h] at this;exact this
 |err l e=>trivial
theorem obind_some {A B:Type} {r:OR A} {f:A→Nat→Nat→OR B} {q:Res B} (h:obind r f=some q) :
  (∃ v i op,r=some (.ok v i op)∧f v i op=some q)∨(∃ l e,r=some (.err l e)∧q=.err l e):=by
 match r,h with
 |some (.ok v i op),h=>exact .inl ⟨v,i,op,rfl,h⟩
 |some (.err l e),h=>exact .inr ⟨l,e,rfl,by simpa [obind] using h.symm⟩
theorem good_bind {A B:Type} {T:List Tok} {s t:Bool} {i op j op1:Nat} {r:OR A} {f:A→Nat→Nat→OR B} (hr:GoodO T s j op1 r)
  (hf:∀ v i' ,r=some (.ok v i' op1)→j≤i'→(s=true→j<i')→(j≤T.length→i'≤T.length)→GoodO T t i op (f v i' op1)):GoodO T t i op (obind r f):=fun q hq=>by
 rcases obind_some hq with ⟨v,i',op',h1,h2⟩|⟨l,e,_,rfl⟩
 ·obtain ⟨g1,g2,g3,g4⟩:=hr _ h1
  subst g4
  exact hf v i' h1 g1 g2 g3 q h2
 ·trivial
theorem good_some {A:Type} {T:List Tok} {s:Bool} {i op:Nat} {r:Res A} (h:Good T s i op r):GoodO T s i op (some r):=fun r' hr=>by cases hr;exact h
theorem good_none {A:Type} {T:List Tok} {s:Bool} {i op:Nat}:GoodO (A:=A) T s i op none:=fun r' hr=>by cases hr
theorem GoodO.from {A:Type} {T:List Tok} {s t:Bool} {i j op:Nat} {r:OR A} (h:GoodO T s j op r) (hij:i≤j) (hs:t=true→i<j∨s=true) (hT:i≤T.length→j≤T.length):GoodO T t i op r:=fun r' hr=>by
 have:=h r' hr
 cases r' with
 |ok v i' op'=>
  obtain ⟨g1,g2,g3,g4⟩:=this
  refine ⟨by omega,fun ht=>?_,fun hi=>g3 (hT hi),g4⟩
  rcases hs ht with h1|h1
  ·omega
  ·have:=g2 h1;omega
 |err l e=>trivial
theorem sNamesLoop_good (T:List Tok):∀ (f:Nat) (acc:List (List UInt8)) (i op:Nat),GoodO T false i op (sNamesLoop T f acc i op)
 |0,_,_,_=>good_none
 |f+1,acc,i,op=>by
  rw[sNamesLoop]
  split
  ·rename_i h
   have:=isTok_lt h
   refine good_bind (good_some (sWord_good T 2 (i+1) op)) fun v i' _ h1 h2 h3=>?_
   exact (sNamesLoop_good T f _ i' op).from (by omega) (by simp) (fun _=>h3 (by omega))
  ·exact good_some ⟨by omega,by simp,fun h=>h,rfl⟩
theorem sNames_good (T:List Tok) (f i op:Nat):GoodO T true i op (sNames T f i op):=
 good_bind (good_some (sWord_good T 2 i op)) fun v i' _ h1 h2 h3=>(sNamesLoop_good T f _ i' op).from h1 (fun _=>.inl (h2 rfl)) h3
theorem good_wrap {A:Type} {T:List Tok} {s:Bool} {x y:List UInt8} {i op:Nat} {g:Nat→Nat→OR A} (hg:i<T.length→op<100→GoodO T s (i+1) (op+1) (g (i+1) (op+1))) :
  GoodO T true i op (obind (some (sBegin T x i op)) fun _ i' op'=>obind (g i' op') fun v i' op'=>obind (some (sEnd T y i' op')) fun _ i' op'=>some (.ok v i' op')):=fun q hq=>by
 rcases obind_some hq with ⟨v,i1,op1,h1,h2⟩|⟨l,e,_,rfl⟩
 ·injection h1 with h1
  obtain ⟨rfl,rfl,ho,hi⟩:=sBegin_ok h1
  rcases obind_some h2 with ⟨w,i2,op2,h3,h4⟩|⟨l,e,_,rfl⟩
  ·obtain ⟨g1,_,g3,rfl⟩:=hg hi ho _ h3
   rcases obind_some h4 with ⟨u,i3,op3,h5,h6⟩|⟨l,e,_,rfl⟩
   ·injection h5 with h5
    obtain ⟨rfl,rfl,hi2⟩:=sEnd_ok h5
    cases h6
    exact ⟨by omega,fun _=>by omega,fun _=>by omega,by omega⟩
   ·trivial
  ·trivial
 ·trivial
theorem ex_good (T:List Tok):∀ f:Nat,(∀ k i op,GoodO T true i op (eLev T f k i op))∧(∀ k e i op,GoodO T false i op (eLoop T f k e i op))∧(∀ i op,GoodO T true i op (eUnary T f i op)) ∧
  (∀ i op,GoodO T true i op (ePrim T f i op))∧(∀ i op,GoodO T true i op (eIndex T f i op))∧(∀ i op,GoodO T true i op (eArgs T f i op))∧(∀ acc i op,GoodO T false i op (eArgsLoop T f acc i op))
 |0=>⟨fun _ _ _=>by rw[eLev];exact good_none,fun _ _ _ _=>by rw[eLoop];exact good_none,fun _ _=>by rw[eUnary];exact good_none,fun _ _=>by rw[ePrim];exact good_none,fun _ _=>by rw[eIndex];exact good_none,fun _ _=>by rw[eArgs];exact good_none,fun _ _ _=>by rw[eArgsLoop];exact good_none⟩
 |f+1=>by
  obtain ⟨hL,hO,hU,hP,hI,hA,hB⟩:=ex_good T f
  have neg:∀ (x:List UInt8) (nm:List UInt8) (i op:Nat),GoodO T true i op (obind (some (sBegin T x i op)) fun _ i' op'=>obind (eUnary T f i' op') fun e i' op'=>some (.ok (Ex.mk nm 0 [] [e]) i' (op'-1))):=fun x nm i op q hq=>by
   rcases obind_some hq with ⟨v,i1,op1,h1,h2⟩|⟨l,e,_,rfl⟩
   ·injection h1 with h1
    obtain ⟨rfl,rfl,ho,hi⟩:=sBegin_ok h1
    rcases obind_some h2 with ⟨w,i2,op2,h3,h4⟩|⟨l,e,_,rfl⟩
    ·obtain ⟨g1,_,g3,rfl⟩:=hU _ _ _ h3
     cases h4
     exact ⟨by omega,fun _=>by omega,fun _=>g3 (by omega),by omega⟩
    ·trivial
   ·trivial
  refine ⟨fun k i op=>?_,fun k e i op=>?_,fun i op=>?_,fun i op=>?_,fun i op=>?_,fun i op=>?_,fun acc i op=>?_⟩
  ·rw[eLev]
   split
   ·exact hU i op
   ·exact good_bind (hL (k+1) i op) fun v i' _ h1 h2 h3=>(hO k v i' op).from h1 (fun _=>.inl (h2 rfl)) h3
  ·rw[eLoop]
   split
   ·rename_i h
    have:=isTok_lt h
    refine good_bind (hL (k+1) (i+1) op) fun v i' _ h1 h2 h3=>?_
    split
    ·exact good_some ⟨by omega,by simp,fun _=>h3 (by omega),rfl⟩
    ·exact (hO k _ i' op).from (by omega) (by simp) (fun _=>h3 (by omega))
   ·exact good_some ⟨by omega,by simp,fun h=>h,rfl⟩
  ·rw[eUnary]
   split
   ·exact neg _ _ _ _
   ·split
    ·exact neg _ _ _ _
    ·exact hP i op
  ·rw[ePrim]
   split
   ·exact good_wrap (g:=fun i op=>eLev T f 0 i op) fun _ _=>hL 0 _ _
   ·split
    ·exact good_bind (good_some (sNumber_good T i op)) fun v i' _ h1 h2 h3=>good_some ⟨h1,fun _=>h2 rfl,h3,rfl⟩
    ·refine good_bind (good_some (sWord_good T 2 i op)) fun v i' _ h1 h2 h3=>?_
     split
     ·exact good_bind (hI i' op) fun v i2 _ g1 g2 g3=>good_some ⟨by omega,fun _=>by have:=h2 rfl;omega,fun h=>g3 (h3 h),rfl⟩
     ·split
      ·exact good_bind (hA i' op) fun v i2 _ g1 g2 g3=>good_some ⟨by omega,fun _=>by have:=h2 rfl;omega,fun h=>g3 (h3 h),rfl⟩
      ·exact good_some ⟨h1,fun _=>h2 rfl,h3,rfl⟩
  ·rw[eIndex]
   exact good_wrap (g:=fun i op=>eLev T f 0 i op) fun _ _=>hL 0 _ _
  ·rw[eArgs]
   exact good_wrap (g:=fun i op=>eArgsLoop T f [] i op) fun _ _=>hB [] _ _
  ·rw[eArgsLoop]
   split
   ·exact good_some ⟨by omega,by simp,fun h=>h,rfl⟩
   ·refine good_bind (s:=false) (j:=i) (op1:=op) ?_ fun v i' _ h1 h2 h3=>?_
    ·split
     ·exact good_some ⟨by omega,by simp,fun h=>h,rfl⟩
     ·exact GoodO.from (good_some (sNeed_good T [44] i op)) (by omega) (by simp) (fun h=>h)
    ·exact good_bind (hL 0 i' op) fun v i2 _ g1 g2 g3=>(hB _ i2 op).from (by omega) (by simp) (fun h=>g3 (h3 h))
end Go.Stele
/- The parser in plain Lean: where statements end; enough fuel. -/
namespace Go.Stele
theorem st_good (T:List Tok):∀ f:Nat,(∀ i op,GoodO T true i op (sBlock T f i op))∧(∀ acc i op,GoodO T false i op (sStmts T f acc i op))∧(∀ i op,GoodO T true i op (sStmt T f i op))∧(∀ i op,GoodO T true i op (sSimple T f i op))
 |0=>⟨fun _ _=>by rw[sBlock];exact good_none,fun _ _ _=>by rw[sStmts];exact good_none,fun _ _=>by rw[sStmt];exact good_none,fun _ _=>by rw[sSimple];exact good_none⟩
 |f+1=>by
  obtain ⟨hB,hL,hS,hM⟩:=st_good T f
  obtain ⟨gL,_,_,_,gI,gA,_⟩:=ex_good T f
  refine ⟨fun i op=>?_,fun acc i op=>?_,fun i op=>?_,fun i op=>?_⟩
  ·rw[sBlock]
   exact good_wrap (g:=fun i op=>sStmts T f [] i op) fun _ _=>hL [] _ _
  ·rw[sStmts]
   split
   ·exact good_some ⟨by omega,by simp,fun h=>h,rfl⟩
   ·exact good_bind (hS i op) fun v i' _ h1 h2 h3=>(hL _ i' op).from h1 (by simp) h3
  ·rw[sStmt]
   split
   ·rename_i h
    have:=isTok_lt h
    refine good_bind (gL 0 (i+1) op) fun v i' _ h1 h2 h3=>good_bind (hB i' op) fun w i2 _ g1 g2 g3=>?_
    split
    ·rename_i h4
     have:=isTok_lt h4
     refine good_bind (hB (i2+1) op) fun x i3 _ k1 k2 k3=>good_some ⟨by omega,fun _=>by omega,fun _=>k3 (by omega),rfl⟩
    ·exact good_some ⟨by omega,fun _=>by omega,fun _=>g3 (h3 (by omega)),rfl⟩
   ·split
    ·rename_i h
     have:=isTok_lt h
     exact good_bind (gL 0 (i+1) op) fun v i' _ h1 h2 h3=>good_bind (hB i' op) fun w i2 _ g1 g2 g3=>good_some ⟨by omega,fun _=>by omega,fun _=>g3 (h3 (by omega)),rfl⟩
    ·exact good_bind (hM i op) fun v i' _ h1 h2 h3=>good_bind (good_some (sNeed_good T [59] i' op)) fun w i2 _ g1 g2 g3=>good_some ⟨by omega,fun _=>by have:=h2 rfl;omega,fun hh=>g3 (h3 hh),rfl⟩
  ·rw[sSimple]
   split
   ·rename_i h
    have:=isTok_lt h
    exact good_bind (gL 0 (i+1) op) fun v i' _ h1 h2 h3=>good_some ⟨by omega,fun _=>by omega,fun _=>h3 (by omega),rfl⟩
   ·split
    ·rename_i h
     have:=isTok_lt h
     exact good_some ⟨by omega,fun _=>by omega,fun _=>by omega,rfl⟩
    ·refine good_bind (good_some (sWord_good T 2 i op)) fun v i' _ h1 h2 h3=>?_
     split
     ·exact good_bind (gA i' op) fun w i2 _ g1 g2 g3=>good_some ⟨by omega,fun _=>by have:=h2 rfl;omega,fun hh=>g3 (h3 hh),rfl⟩
     ·split
      ·exact good_bind (gI i' op) fun w i2 _ g1 g2 g3=>good_bind (good_some (sNeed_good T [61] i2 op)) fun u i3 _ k1 k2 k3=>good_bind (gL 0 i3 op) fun x i4 _ m1 m2 m3=>
        good_some ⟨by omega,fun _=>by have:=h2 rfl;omega,fun hh=>m3 (k3 (g3 (h3 hh))),rfl⟩
      ·exact good_bind (good_some (sNeed_good T [61] i' op)) fun u i3 _ k1 k2 k3=>good_bind (gL 0 i3 op) fun x i4 _ m1 m2 m3=>
        good_some ⟨by omega,fun _=>by have:=h2 rfl;omega,fun hh=>m3 (k3 (h3 hh)),rfl⟩
theorem sVars_good (T:List Tok):∀ (f:Nat) (acc:List (List UInt8)) (i op:Nat),GoodO T (isTok T i [kwVar]) i op (sVars T f acc i op)
 |0,_,_,_=>by rw[sVars];exact good_none
 |f+1,acc,i,op=>by
  rw[sVars]
  split
  ·rename_i h
   have:=isTok_lt h
   exact good_bind (sNames_good T f (i+1) op) fun v i' _ h1 h2 h3=>good_bind (good_some (sNeed_good T [59] i' op)) fun u i2 _ g1 g2 g3=>
    (sVars_good T f _ i2 op).from (by omega) (fun _=>.inl (by omega)) (fun _=>g3 (h3 (by omega)))
  ·rename_i h
   exact good_some ⟨by omega,fun hh=>absurd hh h,fun h=>h,rfl⟩
/-! ### Enough fuel -/
def Ends {A:Type} (r:OR A):Prop:=∃ q,r=some q
theorem ends_bind {A B:Type} {r:OR A} {f:A→Nat→Nat→OR B} (h:Ends r) (k:∀ v i op,r=some (.ok v i op)→Ends (f v i op)):Ends (obind r f):=by
 obtain ⟨q,rfl⟩:=h
 cases q with
 |ok v i op=>exact k v i op rfl
 |err l e=>exact ⟨_,rfl⟩
theorem ends_some {A:Type} {r:Res A}:Ends (some r):=⟨_,rfl⟩
theorem ends_begin {B:Type} {T:List Tok} {x:List UInt8} {i op:Nat} {g:Unit→Nat→Nat→OR B} (k:i<T.length→op<100→Ends (g () (i+1) (op+1))):Ends (obind (some (sBegin T x i op)) g):=
 ends_bind ends_some fun v i1 op1 h1=>by
  injection h1 with h1
  obtain ⟨rfl,rfl,ho,hi⟩:=sBegin_ok h1
  exact k hi ho
theorem ex_ends (T:List Tok):∀ f:Nat,(∀ k i op,k≤6→i≤T.length→10 * (T.length-i)+20-k≤f→Ends (eLev T f k i op))∧(∀ k e i op,k≤5→i≤T.length→10 * (T.length-i)+11≤f→Ends (eLoop T f k e i op)) ∧
  (∀ i op,i≤T.length→10 * (T.length-i)+13≤f→Ends (eUnary T f i op))∧(∀ i op,i≤T.length→10 * (T.length-i)+12≤f→Ends (ePrim T f i op))∧(∀ i op,i≤T.length→10 * (T.length-i)+11≤f→Ends (eIndex T f i op)) ∧
  (∀ i op,i≤T.length→10 * (T.length-i)+12≤f→Ends (eArgs T f i op))∧(∀ acc i op,i≤T.length→10 * (T.length-i)+21≤f→Ends (eArgsLoop T f acc i op))
 |0=>⟨fun _ _ _ _ _ _=>by omega,fun _ _ _ _ _ _ _=>by omega,fun _ _ _ _=>by omega,fun _ _ _ _=>by omega,fun _ _ _ _=>by omega,fun _ _ _ _=>by omega,fun _ _ _ _ _=>by omega⟩
 |f+1=>by
  obtain ⟨hL,hO,hU,hP,hI,hA,hB⟩:=ex_ends T f
  obtain ⟨gL,gO,gU,gP,gI,gA,gB⟩:=ex_good T f
  have neg:∀ (x nm:List UInt8) (i op:Nat),10 * (T.length-i)+13≤f+1→Ends (obind (some (sBegin T x i op)) fun _ i' op'=>obind (eUnary T f i' op') fun e i' op'=>some (.ok (Ex.mk nm 0 [] [e]) i' (op'-1))):=fun x nm i op hf=>
   ends_begin fun hi ho=>ends_bind (hU _ _ (by omega) (by omega)) fun v i2 op2 _=>ends_some
  refine ⟨fun k i op hk hi hf=>?_,fun k e i op hk hi hf=>?_,fun i op hi hf=>?_,fun i op hi hf=>?_,fun i op hi hf=>?_,fun i op hi hf=>?_,fun acc i op hi hf=>?_⟩
  ·rw[eLev]
   split
   ·exact hU i op hi (by omega)
   ·refine ends_bind (hL (k+1) i op (by omega) hi (by omega)) fun v i' op' h=>?_
    obtain ⟨g1,g2,g3,rfl⟩:=gL (k+1) i op _ h
    have:=g2 rfl
    exact hO k v i' op' (by omega) (g3 hi) (by have:=g3 hi;omega)
  ·rw[eLoop]
   split
   ·rename_i h
    have:=isTok_lt h
    refine ends_bind (hL (k+1) (i+1) op (by omega) (by omega) (by omega)) fun v i' op' h=>?_
    obtain ⟨g1,g2,g3,rfl⟩:=gL (k+1) (i+1) op _ h
    have:=g3 (by omega)
    split
    ·exact ends_some
    ·exact hO k _ i' op' hk this (by omega)
   ·exact ends_some
  ·rw[eUnary]
   split
   ·exact neg _ _ _ _ hf
   ·split
    ·exact neg _ _ _ _ hf
    ·exact hP i op hi (by omega)
  ·rw[ePrim]
   split
   ·exact ends_begin fun hlt ho=>ends_bind (hL 0 _ _ (by omega) (by omega) (by omega)) fun v i2 op2 _=>ends_bind ends_some fun _ _ _ _=>ends_some
   ·split
    ·exact ends_bind ends_some fun _ _ _ _=>ends_some
    ·refine ends_bind ends_some fun v i' op' h=>?_
     injection h with h
     have hg:=sWord_good T 2 i op
     rw[h] at hg
     obtain ⟨h1,h2,h3,rfl⟩:=hg
     have:=h2 rfl
     have:=h3 hi
     split
     ·exact ends_bind (hI i' _ (by omega) (by omega)) fun _ _ _ _=>ends_some
     ·split
      ·exact ends_bind (hA i' _ (by omega) (by omega)) fun _ _ _ _=>ends_some
      ·exact ends_some
  ·rw[eIndex]
   exact ends_begin fun hlt ho=>ends_bind (hL 0 _ _ (by omega) (by omega) (by omega)) fun v i2 op2 _=>ends_bind ends_some fun _ _ _ _=>ends_some
  ·rw[eArgs]
   exact ends_begin fun hlt ho=>ends_bind (hB [] _ _ (by omega) (by omega)) fun v i2 op2 _=>ends_bind ends_some fun _ _ _ _=>ends_some
  ·rw[eArgsLoop]
   split
   ·exact ends_some
   ·refine ends_bind ends_some fun v i' op' h=>?_
    have hg:i≤i'∧i'≤T.length:=by
     injection h with h
     split at h
     ·cases h;exact ⟨zNr _,hi⟩
     ·have hg:=sNeed_good T [44] i op
      rw[h] at hg
      exact ⟨hg.1,hg.2.2.1 hi⟩
    refine ends_bind (hL 0 i' op' (by omega) hg.2 (by omega)) fun v2 i2 op2 h2=>?_
    obtain ⟨g1,g2,g3,rfl⟩:=gL 0 i' op' _ h2
    have:=g2 rfl
    have:=g3 hg.2
    exact hB _ i2 _ this (by omega)
theorem st_ends (T:List Tok):∀ f:Nat,(∀ i op,i≤T.length→10 * (T.length-i)+5≤f→Ends (sBlock T f i op))∧(∀ acc i op,i≤T.length→10 * (T.length-i)+14≤f→Ends (sStmts T f acc i op)) ∧
  (∀ i op,i≤T.length→10 * (T.length-i)+13≤f→Ends (sStmt T f i op))∧(∀ i op,i≤T.length→10 * (T.length-i)+12≤f→Ends (sSimple T f i op))
 |0=>⟨fun _ _ _ _=>by omega,fun _ _ _ _ _=>by omega,fun _ _ _ _=>by omega,fun _ _ _ _=>by omega⟩
 |f+1=>by
  obtain ⟨hB,hL,hS,hM⟩:=st_ends T f
  obtain ⟨eL,_,_,_,eI,eA,_⟩:=ex_ends T f
  obtain ⟨gL,_,_,_,gI,gA,_⟩:=ex_good T f
  obtain ⟨kB,kL,kS,kM⟩:=st_good T f
  refine ⟨fun i op hi hf=>?_,fun acc i op hi hf=>?_,fun i op hi hf=>?_,fun i op hi hf=>?_⟩
  ·rw[sBlock]
   exact ends_begin fun hlt ho=>ends_bind (hL [] _ _ (by omega) (by omega)) fun v i2 op2 _=>ends_bind ends_some fun _ _ _ _=>ends_some
  ·rw[sStmts]
   split
   ·exact ends_some
   ·refine ends_bind (hS i op hi (by omega)) fun v i' op' h=>?_
    obtain ⟨g1,g2,g3,rfl⟩:=kS i op _ h
    have:=g2 rfl
    have:=g3 hi
    exact hL _ i' _ (by omega) (by omega)
  ·rw[sStmt]
   split
   ·rename_i h
    have:=isTok_lt h
    refine ends_bind (eL 0 (i+1) op (by omega) (by omega) (by omega)) fun v i' op' h=>?_
    obtain ⟨g1,g2,g3,rfl⟩:=gL 0 (i+1) op _ h
    have:=g2 rfl
    have:=g3 (by omega)
    refine ends_bind (hB i' _ (by omega) (by omega)) fun v2 i2 op2 h2=>?_
    obtain ⟨q1,q2,q3,rfl⟩:=kB i' _ _ h2
    have:=q3 (by omega)
    split
    ·rename_i h4
     have:=isTok_lt h4
     exact ends_bind (hB (i2+1) _ (by omega) (by omega)) fun _ _ _ _=>ends_some
    ·exact ends_some
   ·split
    ·rename_i h
     have:=isTok_lt h
     refine ends_bind (eL 0 (i+1) op (by omega) (by omega) (by omega)) fun v i' op' h=>?_
     obtain ⟨g1,g2,g3,rfl⟩:=gL 0 (i+1) op _ h
     have:=g2 rfl
     have:=g3 (by omega)
     exact ends_bind (hB i' _ (by omega) (by omega)) fun v2 i2 op2 h2=>ends_some
    ·exact ends_bind (hM i op hi (by omega)) fun _ _ _ _=>ends_bind ends_some fun _ _ _ _=>ends_some
  ·rw[sSimple]
   split
   ·rename_i h
    have:=isTok_lt h
    exact ends_bind (eL 0 (i+1) op (by omega) (by omega) (by omega)) fun _ _ _ _=>ends_some
   ·split
    ·exact ends_some
    ·refine ends_bind ends_some fun v i' op' h=>?_
     injection h with h
     have hg:=sWord_good T 2 i op
     rw[h] at hg
     obtain ⟨h1,h2,h3,rfl⟩:=hg
     have:=h2 rfl
     have:=h3 hi
     split
     ·exact ends_bind (eA i' _ (by omega) (by omega)) fun _ _ _ _=>ends_some
     ·have tail:∀ (i2 op2:Nat) (g:Ex→Sm),i'≤i2→i2≤T.length→Ends (obind (some (sNeed T [61] i2 op2)) fun _ i' op'=>obind (eLev T f 0 i' op') fun e i' op'=>some (.ok (g e) i' op')):=fun i2 op2 g hi1 hi2=>by
       refine ends_bind ends_some fun v i3 op3 h3=>?_
       injection h3 with h3
       have hg:=sNeed_good T [61] i2 op2
       rw[h3] at hg
       have:=hg.2.2.1 hi2
       have:=hg.1
       exact ends_bind (eL 0 i3 _ (by omega) (by omega) (by omega)) fun _ _ _ _=>ends_some
      split
      ·refine ends_bind (eI i' _ (by omega) (by omega)) fun v2 i2 op2 h2=>?_
       obtain ⟨q1,q2,q3,rfl⟩:=gI i' _ _ h2
       exact tail i2 _ _ q1 (q3 (by omega))
      ·exact tail i' _ _ (zNr _) (by omega)
theorem sNamesLoop_ends (T:List Tok):∀ (f:Nat) (acc:List (List UInt8)) (i op:Nat),i≤T.length→T.length-i+1≤f→Ends (sNamesLoop T f acc i op)
 |0,_,_,_,_,h=>by omega
 |f+1,acc,i,op,hi,hf=>by
  rw[sNamesLoop]
  split
  ·rename_i h
   have:=isTok_lt h
   refine ends_bind ends_some fun v i' op' h=>?_
   injection h with h
   have hg:=sWord_good T 2 (i+1) op
   rw[h] at hg
   obtain ⟨h1,h2,h3,rfl⟩:=hg
   exact sNamesLoop_ends T f _ i' _ (h3 (by omega)) (by have:=h3 (by omega);omega)
  ·exact ends_some
theorem sNames_ends (T:List Tok) (f i op:Nat) (hi:i≤T.length) (hf:T.length-i+1≤f):Ends (sNames T f i op):=
 ends_bind ends_some fun v i' op' h=>by
  injection h with h
  have hg:=sWord_good T 2 i op
  rw[h] at hg
  obtain ⟨h1,h2,h3,rfl⟩:=hg
  exact sNamesLoop_ends T f _ i' _ (h3 hi) (by have:=h3 hi;omega)
theorem sVars_ends (T:List Tok):∀ (f:Nat) (acc:List (List UInt8)) (i op:Nat),i≤T.length→T.length-i+2≤f→Ends (sVars T f acc i op)
 |0,_,_,_,_,h=>by omega
 |f+1,acc,i,op,hi,hf=>by
  rw[sVars]
  split
  ·rename_i h
   have:=isTok_lt h
   refine ends_bind (sNames_ends T f (i+1) op (by omega) (by omega)) fun v i' op' h=>?_
   obtain ⟨g1,g2,g3,rfl⟩:=sNames_good T f (i+1) op _ h
   have:=g3 (by omega)
   refine ends_bind ends_some fun v i2 op2 h2=>?_
   injection h2 with h2
   have hg:=sNeed_good T [59] i' op'
   rw[h2] at hg
   obtain ⟨h1,h2,h3,rfl⟩:=hg
   have:=h3 (by omega)
   exact sVars_ends T f _ i2 _ (by omega) (by omega)
  ·exact ends_some
theorem obind_word {B:Type} {T:List Tok} {k:Int} {i op:Nat} {g:List UInt8→Nat→Nat→OR B} (h:∀ s,i<T.length→Ends (g s (i+1) op)):Ends (obind (some (sWord T k i op)) g):=
 ends_bind ends_some fun v i' op' hw=>by
  injection hw with hw
  unfold sWord at hw
  split at hw
  ·rename_i t ht
   have:=get_lt ht
   split at hw
   ·cases hw;exact h _ this
   ·cases hw
  ·cases hw
theorem obind_end {B:Type} {T:List Tok} {x:List UInt8} {i op:Nat} {g:Unit→Nat→Nat→OR B} (h:i<T.length→Ends (g () (i+1) (op-1))):Ends (obind (some (sEnd T x i op)) g):=
 ends_bind ends_some fun v i' op' hw=>by
  injection hw with hw
  obtain ⟨rfl,rfl,hlt⟩:=sEnd_ok hw
  exact h hlt
theorem sFunc_ends (T:List Tok) (f i op:Nat) (hi:i≤T.length) (hf:10 * (T.length-i)+14≤f):Ends (sFunc T f i op):=by
 unfold sFunc
 refine obind_word fun s h1=>ends_begin fun h2 h3=>ends_bind ?_ fun v i2 op2 h4=>obind_end fun h5=>ends_begin fun h6 h7=>ends_bind (sVars_ends T f [] _ _ (by omega) ?_) fun v2 i3 op3 h8=>ends_bind ((st_ends T f).2.1 [] _ _ ?_ ?_) fun v3 i4 op4 h9=>ends_bind ends_some fun _ _ _ _=>ends_some
 ·split
  ·exact ends_some
  ·exact sNames_ends T f _ _ (by omega) (by omega)
 ·have:i+1+1≤i2:=by
   split at h4
   ·cases h4;omega
   ·exact (sNames_good T f _ _ _ h4).1
  omega
 ·exact (sVars_good T f _ _ _ _ h8).2.2.1 (by omega)
 ·have:i+1+1≤i2:=by
   split at h4
   ·cases h4;omega
   ·exact (sNames_good T f _ _ _ h4).1
  have:=(sVars_good T f _ _ _ _ h8).1
  omega
theorem sFunc_good (T:List Tok) (f i op:Nat):GoodO T true i op (sFunc T f i op):=by
 intro q hq0
 unfold sFunc at hq0
 cases q with
 |err l e=>trivial
 |ok v i9 op9=>
  rcases obind_some hq0 with ⟨s,i1,op1,h1,hq1⟩|⟨l,e,_,h⟩
  ·injection h1 with h1
   have g1:=sWord_good T 2 i op
   rw[h1] at g1
   obtain ⟨a1,a2,a3,rfl⟩:=g1
   have:=a2 rfl
   rcases obind_some hq1 with ⟨_,i2,op2,h2,hq2⟩|⟨l,e,_,h⟩
   ·injection h2 with h2
    obtain ⟨rfl,rfl,b1,b2⟩:=sBegin_ok h2
    rcases obind_some hq2 with ⟨ps,i3,op3,h3,hq3⟩|⟨l,e,_,h⟩
    ·have c:i1+1≤i3∧(i1+1≤T.length→i3≤T.length)∧op3=op1+1:=by
      split at h3
      ·cases h3;exact ⟨zNr _,fun h=>h,rfl⟩
      ·obtain ⟨c1,_,c3,c4⟩:=sNames_good T f _ _ _ h3
       exact ⟨c1,c3,c4⟩
     obtain ⟨c1,c2,rfl⟩:=c
     rcases obind_some hq3 with ⟨_,i4,op4,h4,hq4⟩|⟨l,e,_,h⟩
     ·injection h4 with h4
      obtain ⟨rfl,rfl,d1⟩:=sEnd_ok h4
      rcases obind_some hq4 with ⟨_,i5,op5,h5,hq5⟩|⟨l,e,_,h⟩
      ·injection h5 with h5
       obtain ⟨rfl,rfl,e1,e2⟩:=sBegin_ok h5
       rcases obind_some hq5 with ⟨ls,i6,op6,h6,hq6⟩|⟨l,e,_,h⟩
       ·obtain ⟨f1,_,f3,rfl⟩:=sVars_good T f _ _ _ _ h6
        have:=f3 (by omega)
        rcases obind_some hq6 with ⟨bs,i7,op7,h7,hq7⟩|⟨l,e,_,h⟩
        ·obtain ⟨k1,_,k3,rfl⟩:=(st_good T f).2.1 _ _ _ _ h7
         have:=k3 (by omega)
         rcases obind_some hq7 with ⟨_,i8,op8,h8,hq8⟩|⟨l,e,_,h⟩
         ·injection h8 with h8
          obtain ⟨rfl,rfl,m1⟩:=sEnd_ok h8
          cases hq8
          exact ⟨by omega,fun _=>by omega,fun _=>by omega,by omega⟩
         ·cases h
        ·cases h
       ·cases h
      ·cases h
     ·cases h
    ·cases h
   ·cases h
  ·cases h
theorem sArray_good (T:List Tok) (i op:Nat):GoodO T true i op (sArray T i op):=by
 intro q hq0
 unfold sArray at hq0
 cases q with
 |err l e=>trivial
 |ok v i9 op9=>
  rcases obind_some hq0 with ⟨s,i1,op1,h1,hq1⟩|⟨l,e,_,h⟩
  ·injection h1 with h1
   have g1:=sWord_good T 2 i op
   rw[h1] at g1
   obtain ⟨a1,a2,a3,rfl⟩:=g1
   have:=a2 rfl
   rcases obind_some hq1 with ⟨_,i2,op2,h2,hq2⟩|⟨l,e,_,h⟩
   ·injection h2 with h2
    obtain ⟨rfl,rfl,b1,b2⟩:=sBegin_ok h2
    rcases obind_some hq2 with ⟨ps,i3,op3,h3,hq3⟩|⟨l,e,_,h⟩
    ·injection h3 with h3
     have g3:=sNumber_good T (i1+1) (op1+1)
     rw[h3] at g3
     obtain ⟨c1,c2,c3,rfl⟩:=g3
     have:=c2 rfl
     rcases obind_some hq3 with ⟨_,i4,op4,h4,hq4⟩|⟨l,e,_,h⟩
     ·injection h4 with h4
      obtain ⟨rfl,rfl,d1⟩:=sEnd_ok h4
      rcases obind_some hq4 with ⟨_,i5,op5,h5,hq5⟩|⟨l,e,_,h⟩
      ·injection h5 with h5
       have g5:=sNeed_good T [59] (i3+1) op4
       rw[h5] at g5
       obtain ⟨e1,e2,e3,rfl⟩:=g5
       have:=e2 rfl
       have:=e3 (by omega)
       cases hq5
       exact ⟨by omega,fun _=>by omega,fun _=>by omega,by omega⟩
      ·cases h
     ·cases h
    ·cases h
   ·cases h
  ·cases h
theorem sArray_ends (T:List Tok) (i op:Nat):Ends (sArray T i op):=by
 unfold sArray
 exact obind_word fun s _=>ends_begin fun _ _=>ends_bind ends_some fun _ _ _ _=>ends_bind ends_some fun _ _ _ _=>ends_bind ends_some fun _ _ _ _=>ends_some
theorem sProg_ends (T:List Tok):∀ (f:Nat) (p:Pr) (i op:Nat),i≤T.length→10 * (T.length-i)+20≤f→Ends (sProg T f p i op)
 |0,_,_,_,_,h=>by omega
 |f+1,p,i,op,hi,hf=>by
  rw[sProg]
  split
  ·exact ends_some
  ·split
   ·rename_i h
    have:=isTok_lt h
    refine ends_bind (sVars_ends T f _ i op hi (by omega)) fun v i' op' h2=>?_
    obtain ⟨g1,g2,g3,rfl⟩:=sVars_good T f _ i op _ h2
    have:=g2 h
    have:=g3 hi
    exact sProg_ends T f _ i' _ (by omega) (by omega)
   ·split
    ·rename_i h
     have:=isTok_lt h
     refine ends_bind (sArray_ends T _ _) fun v i' op' h2=>?_
     obtain ⟨g1,g2,g3,rfl⟩:=sArray_good T _ _ _ h2
     have:=g3 (by omega)
     exact sProg_ends T f _ i' _ (by omega) (by omega)
    ·split
     ·rename_i h
      have:=isTok_lt h
      refine ends_bind (sFunc_ends T f _ _ (by omega) (by omega)) fun v i' op' h2=>?_
      obtain ⟨g1,g2,g3,rfl⟩:=sFunc_good T f _ _ _ h2
      have:=g3 (by omega)
      exact sProg_ends T f _ i' _ (by omega) (by omega)
     ·exact ends_some
end Go.Stele
namespace Go.Proofs.YtpbbgkoalnonoaaGreatDoor
open Go.GL Go.RowKit Go.Stele
attribute [local irreducible] LOps LCode LStep LCalls Go.GL.Pure QThen QBlock RetPost LQ LAny LLate LLateOp
theorem obind_ok {A B:Type} {v:A} {i op:Nat} {f:A→Nat→Nat→OR B}:obind (some (.ok v i op)) f=f v i op:=rfl
theorem obind_err {A B:Type} {l e:Int} {f:A→Nat→Nat→OR B}:obind (some (.err l e)) f=some (.err l e):=rfl
theorem obind_is {A B:Type} {r:OR A} {f:A→Nat→Nat→OR B} {q:Res B} (h:obind r f=some q):∃ r1,r=some r1:=by
 cases r with
 |none=>cases h
 |some r1=>exact ⟨r1,rfl⟩
structure TOK (T:List Tok):Prop where
 len:T.length≤100000
 txt:∀ t∈T,t.text.length≤100000
 num:∀ t∈T,t.kind=1→∃ u,u<4294967296∧Go.Lib.parseUintB 32 t.text=.ok u
theorem wrap_u32 {n:Int} (h:0≤n∧n≤4294967295):IntKind.u32.wrap n=n:=by
 simp only[IntKind.wrap,IntKind.bits,IntKind.signed,Bool.false_and]
 simp
 omega
theorem sWord_ok {T:List Tok} {k:Int} {i op i' op':Nat} {s:List UInt8} (h:sWord T k i op=.ok s i' op'):i'=i+1∧op'=op∧∃ t,T[i]? = some t∧t.kind=k∧t.text=s:=by
 unfold sWord at h
 split at h
 ·rename_i t ht
  split at h
  ·rename_i hk
   cases h
   exact ⟨rfl,rfl,t,ht,hk,rfl⟩
  ·cases h
 ·cases h
def encNames (l:List (List UInt8)):LV:=.list (l.map str)
def encN (n:Nat):LV:=int .u32 n
def ExprC (B0:Nat) (w0:World) (sb:Nat) (T:List Tok) (f:Nat):Prop:=
 ∀ i op r,i≤T.length→op≤100→eLev T f 0 i op=some r→LCalls (KC B0 w0) 265 [ptr sb 0] [srcH sb T i op] (PostP sb T encE r)
section
variable {B0:Nat} {w0:World}
theorem number_specP (hG:GW B0 w0) (sb:Nat) (T:List Tok) (hT:TOK T) (i op:Nat) (hi:i≤1000000):LCalls (KC B0 w0) 204 [ptr sb 0] [srcH sb T i op] (PostP sb T encN (sNumber T i op)):=by
 have hl:=hT.len
 refine cI Tryz.func204 rfl (n:=13) rfl rfl rfl ?_
 refine gao ?_
 refine oS (S.callP [_,_] rfl pH (word_spec sb T i op 1 hl hi) (fun s i1 op1 h1=>?_) (fun l er i1 op1 h1 e' he'=>?_)) rfl
 ·obtain ⟨rfl,rfl,t,ht,hk,rfl⟩:=sWord_ok h1
  have hmem:=List.mem_of_getElem? ht
  obtain ⟨u,hu,hp⟩:=hT.num t hmem hk
  have htx:=hT.txt t hmem
  have hn:numOf t.text=u:=by rw[numOf,hp]
  have hw:IntKind.u32.wrap (u:Int)=(u:Int):=wrap_u32 zo
  refine oS (sF [_,_,_] rfl (parseUint_ok t.text zo u hp) ?_) rfl
  refine gac ?_
  exact retP (v:=numOf t.text) rfl (zra rfl) (by rw[sNumber,h1];rfl) (by rw[hn];exact int_eq hw) zhr
 ·refine gah ?_
  exact panP (he'.trans rfl) (by rw[sNumber,h1];rfl) zhr
theorem names_specP (sb:Nat) (T:List Tok) (hT:TOK T) (f i op:Nat) (r:Res (List (List UInt8))) (hi:i≤T.length) (hr:sNames T f i op=some r) :
  LCalls (KC B0 w0) 200 [ptr sb 0] [srcH sb T i op] (PostP sb T encNames r):=by
 have hl:=hT.len
 rw[sNames] at hr
 refine cI Tryz.func200 rfl (n:=15) rfl rfl rfl ?_
 refine gao ?_
 refine oS (S.callP [_,_] rfl pH (word_spec sb T i op 2 hl zo) (fun s i1 op1 h1=>?_) (fun l er i1 op1 h1 e' he'=>?_)) rfl
 ·rw[h1,obind_ok] at hr
  have hi1:i1≤T.length:=by
   have:=sWord_good T 2 i op
   rw[h1] at this
   exact this.2.2.1 hi
  refine oS (S.litA [_] rfl (eC rfl rfl eN) rfl rfl rfl fun b=>?_) rfl
  refine gad ?_
  refine oL (fun k ls H=>∃ (v:LV) (l:List (List UInt8)) (i2:Nat) (Ha:Heap),ls=[(0,ptr sb 0),(3,v)]∧H=srcH sb T i2 op1::Ha∧Acc 1 v (l.map str) Ha []∧i2≤T.length∧l.length≤i2+1∧sNamesLoop T k l i2 op1=some r)
   ⟨f,_,srcH sb T i1 op1::[(b,.row 1)],⟨.app b 1 1 [str s],[s],i1,_,rfl,rfl,Acc.row,hi1,by simp,hr⟩,⟨rfl,rfl,trivial⟩,zhP zp1 zhr⟩ ?_
  rintro k ls H ⟨v,l,i2,Ha,rfl,rfl,hacc,hi2,hll,hI⟩ j hj
  obtain ⟨k,rfl⟩:∃ k',k=k'+1:=by
   cases k with
   |zero=>rw[sNamesLoop] at hI;cases hI
   |succ k=>exact ⟨k,rfl⟩
  rw[sNamesLoop] at hI
  refine gaf ?_
  refine oS (S.fnH [_,_] rfl pH (take_spec sb T i2 op1 [44] hl zo) ?_) rfl
  refine gap ?_
  refine oC rfl (fun hc=>?_) (fun hc=>?_)
  ·have hlt:=isTok_lt hc
   rw[if_pos hc] at hI
   simp only[hc,if_true]
   refine gam ?_
   refine oP (pM (lv:=v) rfl) rfl ?_
   refine gaa ?_
   refine oS (S.callP [_,_] rfl pH (word_spec sb T (i2+1) op1 2 hl zo) (fun s2 i3 op3 h3=>?_) (fun l er i3 op3 h3 e' he'=>?_)) rfl
   ·rw[h3,obind_ok] at hI
    obtain ⟨rfl,rfl,t,ht,_,_⟩:=sWord_ok h3
    have:=get_lt ht
    refine oS (sL [_] rfl (eC rfl rfl eN) rfl rfl rfl ?_) rfl
    refine oS (S.acc1 rfl hacc rfl (by simp;rfl) rfl (by simp;omega) fun v' H' hacc'=>?_) rfl
    refine oP (pA (lv:=v') rfl) rfl ?_
    refine gaa ?_
    exact ⟨k,_,_,by omega,⟨v',l++[s2],i2+1+1,H',rfl,rfl,by rw[zMa];exact hacc',by omega,by simp;omega,hI⟩,⟨rfl,rfl,trivial⟩,zhR _,hj⟩
   ·rw[h3,obind_err] at hI
    refine gae ?_
    exact panP (he'.trans hj) (by cases hI;rfl) zhp
  ·have hc':isTok T i2 [[44]]=false:=hc
   rw[if_neg (by rw[hc'];decide)] at hI
   simp only[hc',Bool.false_eq_true,if_false]
   refine gab ?_
   refine oP (pM (lv:=v) rfl) rfl ?_
   refine oP (pA (lv:=v) rfl) rfl ?_
   refine gak ?_
   exact retP (v:=l) hj (rC (rT (v:=v) rfl hacc.sub) rN) (by cases hI;rfl) rfl zhp
 ·rw[h1,obind_err] at hr
  refine gah ?_
  exact panP (he'.trans rfl) (by cases hr;rfl) zhp
theorem index_spec (sb:Nat) (T:List Tok) (hT:TOK T) (f:Nat) (hE:ExprC B0 w0 sb T f) (i op:Nat) (r:Res Ex) (hi:i≤T.length) (ho:op≤100) (hr:eIndex T (f+1) i op=some r) :
  LCalls (KC B0 w0) 295 [ptr sb 0] [srcH sb T i op] (PostP sb T encE r):=by
 have hl:=hT.len
 rw[eIndex] at hr
 refine cI Tryz.func295 rfl (n:=11) rfl rfl rfl ?_
 refine gag ?_
 refine oS (sA fun b=>?_) rfl
 refine gan ?_
 refine oS (S.callP [_,_] rfl zp1 (begin_spec sb T i op [91] hl zo zo) (fun v i1 op1 h1=>?_) (fun l er i1 op1 h1 e' he'=>?_)) rfl
 ·rw[h1,obind_ok] at hr
  obtain ⟨rfl,rfl,ho1,hi1⟩:=sBegin_ok h1
  refine gan ?_
  obtain ⟨r1,hr1⟩:=obind_is hr
  refine oS (S.callP [_] rfl pH (hE _ _ r1 zo zo hr1) (fun v i2 op2 h2=>?_) (fun l er i2 op2 h2 e' he'=>?_)) rfl
  ·rw[hr1,h2,obind_ok] at hr
   obtain ⟨g1,_,g3,rfl⟩:=(ex_good T f).1 0 _ _ _ (hr1.trans (congrArg some h2))
   have g4:=g3 zo
   refine oS (sA fun b2=>?_) rfl
   refine gac ?_
   refine oS (S.callP [_,_] rfl zp1 (end_spec sb T i2 (op+1) [93] hl zo zo zo) (fun u i3 op3 h3=>?_) (fun l er i3 op3 h3 e' he'=>?_)) rfl
   ·rw[h3,obind_ok] at hr
    refine gac ?_
    exact retP rfl (rC (rA rfl zm0 rfl zsr) rN) (by cases hr;rfl) rfl (zhD zhp)
   ·rw[h3,obind_err] at hr
    refine gah ?_
    exact panP (he'.trans rfl) (by cases hr;rfl) zhp
  ·rw[hr1,h2,obind_err] at hr
   refine gah ?_
   exact panP (he'.trans rfl) (by cases hr;rfl) zhp
 ·rw[h1,obind_err] at hr
  refine gah ?_
  exact panP (he'.trans rfl) (by cases hr;rfl) zhp
end
end Go.Proofs.YtpbbgkoalnonoaaGreatDoor
namespace Go.Proofs.YtpbbgkoalnonoaaGreatDoor
open Go.GL Go.RowKit Go.Stele
attribute [local irreducible] LOps LCode LStep LCalls Go.GL.Pure QThen QBlock RetPost LQ LAny LLate LLateOp
def encEL (l:List Ex):LV:=.list (l.map encE)
section
variable {B0:Nat} {w0:World}
theorem args_spec (sb:Nat) (T:List Tok) (hT:TOK T) (f:Nat) (hE:∀ g,g<f→ExprC B0 w0 sb T g) (i op:Nat) (r:Res (List Ex)) (hi:i≤T.length) (ho:op≤100) (hr:eArgs T f i op=some r) :
  LCalls (KC B0 w0) 294 [ptr sb 0] [srcH sb T i op] (PostP sb T encEL r):=by
 have hl:=hT.len
 obtain ⟨f,rfl⟩:∃ g,f=g+1:=by
  cases f with
  |zero=>rw[eArgs] at hr;cases hr
  |succ g=>exact ⟨g,rfl⟩
 rw[eArgs] at hr
 refine cI Tryz.func294 rfl (n:=23) rfl rfl rfl ?_
 refine gao ?_
 refine oS (S.callP [_,_] rfl pH (begin_spec sb T i op [40] hl zo zo) (fun v i1 op1 h1=>?_) (fun l er i1 op1 h1 e' he'=>?_)) rfl
 ·rw[h1,obind_ok] at hr
  obtain ⟨rfl,rfl,ho1,hi1⟩:=sBegin_ok h1
  refine gab ?_
  obtain ⟨r1,hr1⟩:=obind_is hr
  refine oL (fun k ls H=>∃ (v:LV) (l:List Ex) (i2:Nat) (Ha:Heap),k≤f∧ls=[(0,ptr sb 0),(3,v)]∧H=srcH sb T i2 (op+1)::Ha∧Acc 4 v (l.map encE) Ha []∧i2≤T.length∧l.length≤i2+1∧eArgsLoop T k l i2 (op+1)=some r1)
   ⟨f,_,srcH sb T (i+1) (op+1)::[],⟨nilSlice,[],i+1,_,zNr _,rfl,rfl,Acc.nil,by omega,by simp,hr1⟩,⟨rfl,rfl,trivial⟩,zhR _⟩ ?_
  rintro k ls H ⟨v,l,i2,Ha,hkf,rfl,rfl,hacc,hi2,hll,hI⟩ j hj
  obtain ⟨k,rfl⟩:∃ k',k=k'+1:=by
   cases k with
   |zero=>rw[eArgsLoop] at hI;cases hI
   |succ k=>exact ⟨k,rfl⟩
  rw[eArgsLoop] at hI
  refine gaf ?_
  refine oS (sL [_] rfl (eC rfl rfl eN) rfl rfl rfl ?_) rfl
  refine oS (S.fnH [_,_] rfl pH (is_spec sb T i2 (op+1) [[41]] hl zo (by simp)) ?_) rfl
  refine gaa ?_
  refine oC rfl (fun hc=>?_) (fun hc=>?_)
  ·have hc':isTok T i2 [[41]]=false:=by simpa using hc
   rw[if_neg (by rw[hc'];decide)] at hI
   refine gam ?_
   refine oP (pM (lv:=v) rfl) rfl ?_
   refine oP (Pure.llen hacc.elems) rfl ?_
   refine gad ?_
   refine oC rfl (fun hd=>?_) (fun hd=>?_)
   ·have hl0:¬ l=[]:=by
     rintro rfl
     have:=zt hd
     simp at this
    rw[if_neg hl0] at hI
    refine gaf ?_
    refine oS (S.callP [_,_] rfl pH (need_spec sb T i2 (op+1) [44] hl zo) (fun u i3 op3 h3=>?_) (fun l er i3 op3 h3 e' he'=>?_)) rfl
    ·rw[h3,obind_ok] at hI
     obtain ⟨q1,q2,q3,rfl⟩:i2≤i3∧(true=true→i2<i3)∧(i2≤T.length→i3≤T.length)∧op3=op+1:=by
      have:=sNeed_good T [44] i2 (op+1)
      rw[h3] at this
      exact this
     have q4:=q3 hi2
     refine gal ?_
     refine oP (pM (lv:=v) rfl) rfl ?_
     refine gaa ?_
     obtain ⟨r2,hr2⟩:=obind_is hI
     refine oS (S.callP [_] rfl pH (hE k zo _ _ r2 zo zo hr2) (fun e2 i4 op4 h4=>?_) (fun l er i4 op4 h4 e' he'=>?_)) rfl
     ·rw[hr2,h4,obind_ok] at hI
      obtain ⟨g1,g2,g3,rfl⟩:=(ex_good T k).1 0 _ _ _ (hr2.trans (congrArg some h4))
      have g5:=g3 zo
      have g6:=g2 rfl
      refine oS (sL [_] rfl (eC rfl rfl eN) rfl rfl rfl ?_) rfl
      refine oS (S.acc1 rfl hacc rfl (by simp;rfl) rfl (by simp;omega) fun v' H' hacc'=>?_) rfl
      refine oP (pA (lv:=v') rfl) rfl ?_
      refine gaa ?_
      exact ⟨k,_,_,by omega,⟨v',l++[e2],i4,H',by omega,rfl,rfl,by rw[zMa];exact hacc',by omega,by simp;omega,hI⟩,⟨rfl,rfl,trivial⟩,zhR _,hj⟩
     ·rw[hr2,h4,obind_err] at hI
      rw[hr1] at hr
      cases hI
      rw[obind_err] at hr
      refine gae ?_
      exact panP (he'.trans hj) (by cases hr;rfl) zhp
    ·rw[h3,obind_err] at hI
     rw[hr1] at hr
     cases hI
     rw[obind_err] at hr
     refine gae ?_
     exact panP (he'.trans hj) (by cases hr;rfl) zhp
   ·have hl0:l=[]:=by
     have:=zf hd
     simp at this
     exact this
    rw[if_pos hl0,obind_ok] at hI
    refine gam ?_
    refine oP (pM (lv:=v) rfl) rfl ?_
    refine gaa ?_
    obtain ⟨r2,hr2⟩:=obind_is hI
    refine oS (S.callP [_] rfl pH (hE k zo _ _ r2 zo zo hr2) (fun e2 i4 op4 h4=>?_) (fun l er i4 op4 h4 e' he'=>?_)) rfl
    ·rw[hr2,h4,obind_ok] at hI
     obtain ⟨g1,g2,g3,rfl⟩:=(ex_good T k).1 0 _ _ _ (hr2.trans (congrArg some h4))
     have g5:=g3 zo
     have g6:=g2 rfl
     refine oS (sL [_] rfl (eC rfl rfl eN) rfl rfl rfl ?_) rfl
     refine oS (S.acc1 rfl hacc rfl (by simp;rfl) rfl (by simp;omega) fun v' H' hacc'=>?_) rfl
     refine oP (pA (lv:=v') rfl) rfl ?_
     refine gaa ?_
     exact ⟨k,_,_,by omega,⟨v',l++[e2],i4,H',by omega,rfl,rfl,by rw[zMa];exact hacc',by omega,by simp;omega,hI⟩,⟨rfl,rfl,trivial⟩,zhR _,hj⟩
    ·rw[hr2,h4,obind_err] at hI
     rw[hr1] at hr
     cases hI
     rw[obind_err] at hr
     refine gae ?_
     exact panP (he'.trans hj) (by cases hr;rfl) zhp
  ·have hc':isTok T i2 [[41]]=true:=by simpa using hc
   rw[if_pos hc'] at hI
   refine gab ?_
   rw[hr1] at hr
   cases hI
   rw[obind_ok] at hr
   refine oS (S.callP [_,_] rfl pH (end_spec sb T i2 (op+1) [41] hl zo zo zo) (fun u i3 op3 h3=>?_) (fun l er i3 op3 h3 e' he'=>?_)) rfl
   ·rw[h3,obind_ok] at hr
    refine gal ?_
    refine oP (pM (lv:=v) rfl) rfl ?_
    refine oP (pA (lv:=v) rfl) rfl ?_
    refine gak ?_
    exact retP (v:=l) hj (rC (rT (v:=v) rfl hacc.sub) rN) (by cases hr;rfl) rfl zhp
   ·rw[h3,obind_err] at hr
    refine gah ?_
    exact panP (he'.trans hj) (by cases hr;rfl) zhp
 ·rw[h1,obind_err] at hr
  refine gah ?_
  exact panP (he'.trans rfl) (by cases hr;rfl) zhp
theorem index_specL (sb:Nat) (T:List Tok) (hT:TOK T) (f:Nat) (hE:∀ g,g<f→ExprC B0 w0 sb T g) (i op:Nat) (r:Res Ex) (hi:i≤T.length) (ho:op≤100) (hr:eIndex T f i op=some r) :
  LCalls (KC B0 w0) 295 [ptr sb 0] [srcH sb T i op] (PostP sb T encE r):=by
 cases f with
 |zero=>rw[eIndex] at hr;cases hr
 |succ f=>exact index_spec sb T hT f (hE f zo) i op r hi ho hr
theorem prim_spec (hG:GW B0 w0) (sb:Nat) (T:List Tok) (hT:TOK T) (f:Nat) (hE:∀ g,g<f→ExprC B0 w0 sb T g) (i op:Nat) (r:Res Ex) (hi:i≤T.length) (ho:op≤100) (hr:ePrim T f i op=some r) :
  LCalls (KC B0 w0) 304 [ptr sb 0] [srcH sb T i op] (PostP sb T encE r):=by
 have hl:=hT.len
 have hml:(T.map encTok).length=T.length:=zLm _
 obtain ⟨f,rfl⟩:∃ g,f=g+1:=by
  cases f with
  |zero=>rw[ePrim] at hr;cases hr
  |succ g=>exact ⟨g,rfl⟩
 rw[ePrim] at hr
 refine cI Tryz.func304 rfl (n:=63) rfl rfl rfl ?_
 refine gag ?_
 refine oS (sA fun b=>?_) rfl
 refine gan ?_
 refine oS (sL [_] rfl (eC rfl rfl eN) rfl rfl rfl ?_) rfl
 refine oS (S.fnH [_,_] rfl zp1 (is_spec sb T i op [[40]] hl zo (by simp)) ?_) rfl
 refine gap ?_
 refine oC rfl (fun hp=>?_) (fun hp=>?_)
 ·rw[if_pos hp] at hr
  refine gaf ?_
  refine oS (S.callP [_,_] rfl pH (begin_spec sb T i op [40] hl zo zo) (fun v i1 op1 h1=>?_) (fun l er i1 op1 h1 e' he'=>?_)) rfl
  ·rw[h1,obind_ok] at hr
   obtain ⟨rfl,rfl,ho1,hi1⟩:=sBegin_ok h1
   refine gan ?_
   obtain ⟨r1,hr1⟩:=obind_is hr
   refine oS (S.callP [_] rfl pH (hE f zo _ _ r1 zo zo hr1) (fun v i2 op2 h2=>?_) (fun l er i2 op2 h2 e' he'=>?_)) rfl
   ·rw[hr1,h2,obind_ok] at hr
    obtain ⟨g1,_,g3,rfl⟩:=(ex_good T f).1 0 _ _ _ (hr1.trans (congrArg some h2))
    have g4:=g3 zo
    refine oS (sA fun b2=>?_) rfl
    refine gac ?_
    refine oS (S.callP [_,_] rfl zp1 (end_spec sb T i2 (op+1) [41] hl zo zo zo) (fun u i3 op3 h3=>?_) (fun l er i3 op3 h3 e' he'=>?_)) rfl
    ·rw[h3,obind_ok] at hr
     refine gac ?_
     exact retP rfl (rC (rA rfl zm0 rfl zsr) rN) (by cases hr;rfl) rfl (zhD zhp)
    ·rw[h3,obind_err] at hr
     refine gah ?_
     exact panP (he'.trans rfl) (by cases hr;rfl) zhp
   ·rw[hr1,h2,obind_err] at hr
    refine gah ?_
    exact panP (he'.trans rfl) (by cases hr;rfl) zhp
  ·rw[h1,obind_err] at hr
   refine gah ?_
   exact panP (he'.trans rfl) (by cases hr;rfl) zhp
 ·have hp':isTok T i [[40]]=false:=hp
  rw[if_neg (by rw[hp'];decide)] at hr
  refine gaa ?_
  refine LCode.cut [(0,ptr sb 0),(2,ptr b 0),(38,bool (decide (kindAt T i=1)))] ?_ (fun j hj=>?_)
  ·refine LCode.quiet zk ?_
   refine gad ?_
   refine LQ.bcase 25 rfl (fun h=>?_) (fun h=>?_)
   ·have hlt:i<T.length:=by have:=zt h;omega
    refine gad ?_
    refine LQ.pure (xR (el':=encTok T[i]) (cs:=[_,_,_]) rfl rfl zo (map_get _ _ _ hlt) rfl rfl) rfl ?_
    refine gad ?_
    exact ⟨⟨rfl,rfl,bool_eq (by rw[kindAt,List.getElem?_eq_getElem hlt]),trivial⟩,rfl,rfl⟩
   ·have hge:T.length≤i:=by have:=zf h;omega
    refine gad ?_
    exact ⟨⟨rfl,rfl,bool_eq (by rw[kindAt,List.getElem?_eq_none hge];rfl),trivial⟩,rfl,rfl⟩
  ·skip
   refine oC rfl (fun hk=>?_) (fun hk=>?_)
   ·rw[if_pos (zt hk)] at hr
    refine gaf ?_
    refine oS (S.callP [_] rfl pH (number_specP hG sb T hT i op zo) (fun n i1 op1 h1=>?_) (fun l er i1 op1 h1 e' he'=>?_)) rfl
    ·rw[h1,obind_ok] at hr
     refine gad ?_
     exact retP (v:=.mk nNum n [] []) hj (rC (rA (k:=4) rfl zm0 rfl (LV.Sub.agg (bs:=[_,_,_,.list []]) ⟨LV.Sub.refl _,LV.Sub.refl _,LV.Sub.refl _,LV.Sub.nil,trivial⟩)) rN) (by cases hr;rfl) (by rw[encE_mk];rfl) (zhP zp1 zhn)
    ·rw[h1,obind_err] at hr
     refine gah ?_
     exact panP (he'.trans hj) (by cases hr;rfl) zhp
   ·rw[if_neg (zf hk)] at hr
    refine gab ?_
    refine oS (S.callP [_,_] rfl pH (word_spec sb T i op 2 hl zo) (fun s i1 op1 h1=>?_) (fun l er i1 op1 h1 e' he'=>?_)) rfl
    ·rw[h1,obind_ok] at hr
     obtain ⟨rfl,rfl,t,ht,_,_⟩:=sWord_ok h1
     have:=get_lt ht
     refine gab ?_
     refine oS (sL [_] rfl (eC rfl rfl eN) rfl rfl rfl ?_) rfl
     refine oS (S.fnH [_,_] rfl pH (is_spec sb T (i+1) op1 [[91]] hl zo (by simp)) ?_) rfl
     refine gau ?_
     refine oC rfl (fun hx=>?_) (fun hx=>?_)
     ·rw[if_pos hx] at hr
      obtain ⟨r1,hr1⟩:=obind_is hr
      refine gaf ?_
      refine oS (S.callP [_] rfl pH (index_specL sb T hT f (fun g hg=>hE g zo) (i+1) op1 r1 zo zo hr1) (fun e2 i2 op2 h2=>?_) (fun l er i2 op2 h2 e' he'=>?_)) rfl
      ·rw[hr1,h2,obind_ok] at hr
       refine oS (sL [_] rfl (eC rfl rfl eN) rfl rfl rfl ?_) rfl
       refine gad ?_
       exact retP (v:=.mk nElem 0 s [e2]) hj (rC (rA rfl zm0 rfl zsr) rN) (by cases hr;rfl) (by rw[encE_mk];rfl) (zhP zp1 zhn)
      ·rw[hr1,h2,obind_err] at hr
       refine gae ?_
       exact panP (he'.trans hj) (by cases hr;rfl) zhp
     ·have hx':isTok T (i+1) [[91]]=false:=hx
      rw[if_neg (by rw[hx'];decide)] at hr
      refine gaf ?_
      refine oS (sL [_] rfl (eC rfl rfl eN) rfl rfl rfl ?_) rfl
      refine oS (S.fnH [_,_] rfl pH (is_spec sb T (i+1) op1 [[40]] hl zo (by simp)) ?_) rfl
      refine gau ?_
      refine oC rfl (fun hy=>?_) (fun hy=>?_)
      ·rw[if_pos hy] at hr
       obtain ⟨r1,hr1⟩:=obind_is hr
       refine gaf ?_
       refine oS (S.callP [_] rfl pH (args_spec sb T hT f (fun g hg=>hE g zo) (i+1) op1 r1 zo zo hr1) (fun e2 i2 op2 h2=>?_) (fun l er i2 op2 h2 e' he'=>?_)) rfl
       ·rw[hr1,h2,obind_ok] at hr
        refine gad ?_
        exact retP (v:=.mk nCall 0 s e2) hj (rC (rA rfl zm0 rfl zsr) rN) (by cases hr;rfl) (by rw[encE_mk];rfl) (zhP zp1 zhn)
       ·rw[hr1,h2,obind_err] at hr
        refine gae ?_
        exact panP (he'.trans hj) (by cases hr;rfl) zhp
      ·have hy':isTok T (i+1) [[40]]=false:=hy
       rw[if_neg (by rw[hy'];decide)] at hr
       refine gac ?_
       exact retP (v:=.mk nVar 0 s []) hj (rC (rA (k:=4) rfl zm0 rfl (LV.Sub.agg (bs:=[_,_,_,.list []]) ⟨LV.Sub.refl _,LV.Sub.refl _,LV.Sub.refl _,LV.Sub.nil,trivial⟩)) rN) (by cases hr;rfl) (by rw[encE_mk];rfl) (zhP zp1 zhn)
    ·rw[h1,obind_err] at hr
     refine gah ?_
     exact panP (he'.trans hj) (by cases hr;rfl) zhp
end
end Go.Proofs.YtpbbgkoalnonoaaGreatDoor
