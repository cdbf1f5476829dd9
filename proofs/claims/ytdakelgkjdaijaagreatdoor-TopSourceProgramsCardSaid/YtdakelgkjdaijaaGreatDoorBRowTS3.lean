/- Texts joined: GlDraw2, Lex5, Lex6, GlAcc, ParSpec2, ParP1, ParP2, ParEq, ParEnc, ParFuel, ParP3, ParP4. -/
import Derived.Laws.IdiomStrings
import Derived.Test.YtdakelgkjdaijaaGreatDoorBRowTS2
set_option linter.unusedVariables false
set_option linter.unusedSimpArgs false
set_option maxRecDepth 100000
set_option maxHeartbeats 4000000
namespace Go.GL
open Go.RowKit
class TIface (P:Program) (t:TypeId):Prop where
 und:∃ ms,P.underlying t=some (.interface ms)
def qok (P:Program) (t:Nat):Bool:=match P.underlying t with|some (.interface _)=>true|_=>false
theorem TIface.of {P:Program} {t:Nat} (h:qok P t=true):TIface P t:=by
 unfold qok at h;refine ⟨?_⟩
 cases hu:P.underlying t with
 |none=>rw[hu] at h;simp at h
 |some d=>rw[hu] at h;cases d <;> simp_all
section
variable {C:Ctx} {e:Env} {H:Heap} {dst:Option Nat} {ty:TypeId} {pos:String} {aft:Array Edge} {g:Option (Nat×Bool)} {xT yT:TypeId} {x:Operand}
theorem qfX (t:TypeId) (x y:Value):Op.equal t x y=Op.equalIn (9999+1) t x y:=rfl
theorem qlt {P:Program} {t:TypeId} [h:TIface P t] (w:World):(Op.equal t .nilIface .nilIface).run P w=.ok true w:=by
 obtain ⟨ms,hu⟩:=h.und;rw[qfX,Op.equalIn];simp only[Sem.run_bind,qaa hu,Result.andThen_ok,Sem.run_pure]
theorem qiy {P:Program} {t:TypeId} [h:TIface P t] (u:TypeId) (p:Value) (w:World):(Op.equal t (.iface u p) .nilIface).run P w=.ok false w:=by
 obtain ⟨ms,hu⟩:=h.und;rw[qfX,Op.equalIn];simp only[Sem.run_bind,qaa hu,Result.andThen_ok,Sem.run_pure]
theorem Pure.nilNeqNil [TIface C.P xT] (hx:e.ev x=.atom .nilIface):Pure C ⟨dst,.binOp .neq xT x (.const .nilIface) yT,ty,pos,aft,g⟩ e H (bool false):=
 .of_any fun ρ _ _ h=>⟨_,qah,fun w'=>by
  have h1:=qag h hx;have h2:=qag h (x:=.const .nilIface) rfl;have he:eqGuard .neq xT x (.const .nilIface) .nilIface .nilIface=Pure.pure ():=by simp[eqGuard]
  have hb:binOp .neq xT .nilIface .nilIface=(do Pure.pure (.bool (!(<-Op.equal xT .nilIface .nilIface)))):=rfl
  simp only[execOp,h1,h2,he,hb,Sem.run_bind,Sem.run_pure,Result.andThen_ok,qlt,Bool.not_true]⟩
theorem Pure.ifaceNeqNil [TIface C.P xT] {u:TypeId} {p:Value} (hx:e.ev x=.atom (.iface u p)):Pure C ⟨dst,.binOp .neq xT x (.const .nilIface) yT,ty,pos,aft,g⟩ e H (bool true):=
 .of_any fun ρ _ _ h=>⟨_,qah,fun w'=>by
  have h1:=qag h hx;have h2:=qag h (x:=.const .nilIface) rfl;have he:eqGuard .neq xT x (.const .nilIface) (.iface u p) .nilIface=Pure.pure ():=by simp[eqGuard]
  have hb:binOp .neq xT (.iface u p) .nilIface=(do Pure.pure (.bool (!(<-Op.equal xT (.iface u p) .nilIface)))):=rfl
  simp only[execOp,h1,h2,he,hb,Sem.run_bind,Sem.run_pure,Result.andThen_ok,qiy,Bool.not_false]⟩
theorem qdl {a b:List UInt8} (h:a=b):str a=str b:=by rw[h]
theorem Pure.cvt {k k0 k':IntKind} {s d:TypeId} {n:Int} [hs:TKind C.P s k0] [hd:TKind C.P d k'] (hx:e.ev x=int k n):Pure C ⟨dst,.convert s d x,ty,pos,aft,g⟩ e H (int k' (k'.wrap n)):=Pure.convInt ⟨_,hs.und⟩ hx
end
end Go.GL
/- A small logic over the walk's 'Code.wp': drawn regions in which more than one operation may come up; division; bytes to a string. -/
namespace Go.GL
open Go.RowKit
section any
variable {C:Ctx} {n:Nat} {ops:Array Oper} {Q:Post} {HF:Heap} {fuel:Nat} {listed:Array Bool} {e:Env} {H:Heap}
def qal (C:Ctx) (n:Nat) (ops:Array Oper) (Q:Post) (HF:Heap) (fuel:Nat) (listed:Array Bool) (e:Env) (H:Heap) (i:Nat):Prop:=
 ∀ w0 L0 a w L,(∀ b,L0 b<=L b)->qeN w0 L0 HF w->(∀ p∈HF,p.1<w.heap.size)->RelE n a e w L->RelH C w L H ->
  wpOp C.P ops (lift C n w L (keys H) Q) i (fun a' w'=>qeN w0 L0 HF w'/\wpAnyH C.P .any ops (lift C n w L (keys H) Q) (qeN w0 L0 HF) fuel (listed.setIfInBounds i true) a' w') a w
theorem qaE.all {is:List Nat} (hr:Region.ready .any ops listed=is) (hne:is≠[]) (h:∀ i∈is,qal C n ops Q HF fuel listed e H i):qaE C n ops Q HF (fuel+1) listed e H:=fun w0 L0 a w L hL hA hsz hE hH=>
 wpAnyH_all hr hne fun j hj=>h j hj w0 L0 a w L hL hA hsz hE hH
theorem lS {i:Nat} {dst:Option Nat} {op:Op} {ty:TypeId} {pos:String} {aft:Array Edge} {g:Option (Nat×Bool)} {H1 F:Heap} (hi:ops[i]? = some ⟨dst,op,ty,pos,aft,g⟩) (hg:g=none∨∃ j b d,g=some (j,b)/\(ops[j]?).bind (·.dst)=some d/\e.s d=.atom (.bool b)) (hd:qcK n dst)
  (p:H.Perm (H1++F)) (hHF:HSub HF F)
  (h:qad C ⟨dst,op,ty,pos,aft,g⟩ e H1 (fun lv H'=>qaE C n ops Q HF fuel (listed.setIfInBounds i true) (e.put dst lv) (H'++F)) (fun ch H'=>∀ e',e'.ds=e.ds->Q (.panic ch) e' (H'++F))) :
  qal C n ops Q HF fuel listed e H i:=fun w0 L0 a w L hL hA hsz hE hH=>by
 have hH':=hH.perm p;have hn:(keys H1++keys F).Nodup:=by simpa [keys] using hH'.nodup
 have hdis:∀ q∈HF,q.1 ∉ keys H1:=fun q hq hm=>(List.nodup_append.1 hn).2.2 _ hm _ (List.mem_map_of_mem (hHF.mem q hq)) rfl
 have hw:Region.wanted ⟨dst,op,ty,pos,aft,g⟩ (yielded ops a.tmps)=true:=by
  rcases hg with rfl|⟨j,b,d,rfl,hj,hb⟩
  ·simp[Region.wanted]
  ·simp[Region.wanted,qcB hE hj hb]
 unfold wpOp;rw[hi];simp only;rw[if_pos hw];refine .inl (qqh (H:=H1) h hd hE hH'.left (fun lv H' L' w' a' h1 h2 h3 h4=>?_) (fun ch H' L' w' h1 h2 h3=>?_))
 ·have hfr:=hH'.frame h1 h2;have hag:qeN w0 L0 HF w':=⟨fun q hq=>(h1.block q.1 (hsz q hq) (hdis q hq)).trans (hA.1 q hq),fun b i hi=>(h1.ext.live b i (Nat.lt_of_lt_of_le hi (hL b))).trans (hA.2 b i hi)⟩;exact ⟨hag,qca (fun _ _ _=>qdS (hfr.2.perm p.symm)) _ _ _ _ (h4 w0 L0 a' w' L' (fun b=>zNt (hL b) (h1.ext.mono b)) hag (fun q hq=>Nat.lt_of_lt_of_le (hsz q hq) h1.ext.size) h3 hfr.1)⟩
 ·have hfr:=hH'.frame h1 h2;exact ⟨e,H'++F,L',hfr.2.perm p.symm,hfr.1,hE.ds,h3 e rfl⟩
theorem zl1 {i:Nat} (hr:Region.ready .any ops listed=[i]) (h:qal C n ops Q HF fuel listed e H i):qaE C n ops Q HF (fuel+1) listed e H:=
 qaE.all hr (by simp) fun j hj=>by
  obtain rfl:=List.mem_singleton.1 hj;exact h
theorem zl2 {i j:Nat} (hr:Region.ready .any ops listed=[i,j]) (h:qal C n ops Q HF fuel listed e H i) (h':qal C n ops Q HF fuel listed e H j):qaE C n ops Q HF (fuel+1) listed e H:=
 qaE.all hr (by simp) fun k hk=>by
  rcases zMi.1 hk with rfl|hk
  ·exact h
  ·obtain rfl:=List.mem_singleton.1 hk;exact h'
theorem lW {i:Nat} {dst:Option Nat} {op:Op} {ty:TypeId} {pos:String} {aft:Array Edge} {g:Option (Nat×Bool)} (hi:ops[i]? = some ⟨dst,op,ty,pos,aft,g⟩) (hg:g=none∨∃ j b d,g=some (j,b)/\(ops[j]?).bind (·.dst)=some d/\e.s d=.atom (.bool b)) (hd:qcK n dst)
  (h:qad C ⟨dst,op,ty,pos,aft,g⟩ e H (fun lv H'=>qaE C n ops Q [] fuel (listed.setIfInBounds i true) (e.put dst lv) H') (fun ch H'=>∀ e',e'.ds=e.ds->Q (.panic ch) e' H')) :
  qal C n ops Q [] fuel listed e H i:=lS (H1:=H) (F:=[]) hi hg hd (by simp) zhn (by simpa using h)
end any
theorem LQ.bcase {C:Ctx} {n:Nat} {ops:Array Oper} {K:Env->Prop} {e:Env} {H:Heap} {rest:List Oper} (d:Nat) {b:Bool} (hb:e.s d=bool b) (ht:b=true->LQ C n ops K rest (e.upd d (bool true)) H) (hf:b=false->LQ C n ops K rest (e.upd d (bool false)) H):LQ C n ops K rest e H:=by
 cases b
 ·have:=hf rfl;rwa [Env.upd_self hb] at this
 ·have:=ht rfl;rwa [Env.upd_self hb] at this
section pure
variable {C:Ctx} {e:Env} {H:Heap} {dst:Option Nat} {ty:TypeId} {pos:String} {aft:Array Edge} {g:Option (Nat×Bool)} {xT yT:TypeId} {x y:Operand} {k:IntKind} {a b:Int}
theorem Pure.bytesStr {s d el:TypeId} [hs:TSlice C.P s el 1] [he:TKind C.P el .u8] [hd:TStr C.P d] {l:List UInt8} (hx:elems (e.ev x)=some (l.map fun b=>int .u8 b.toNat)) (hne:l≠[]) :
  Pure C ⟨dst,.convert s d x,ty,pos,aft,g⟩ e H (str l):=fun ρ w L h _=>by
 obtain ⟨a,cap,hv,hcap,hr⟩:=(h x).elems hx;obtain ⟨b,off,k',rfl,hrr⟩:=hr (by simpa using hne);refine ⟨_,qah,fun w' ha=>?_⟩;have h0:execOp ρ ⟨dst,.convert s d x,ty,pos,aft,g⟩=(do Pure.pure (.value (<-convert s d (ρ x)))):=rfl;have hlen:(l.map fun b=>int .u8 b.toNat).length=l.length:=by simp
 have:=run_convert_bytes_back (P:=C.P) w' s d el ⟨b,off,none⟩ cap l hs.und he.und hd.und (fun j hj=>by
  obtain ⟨h1,h2⟩:=hrr.get (i:=j) (e:=int .u8 l[j].toNat) (by simp[hj]);simp only[LV.cells,RepC,List.length_singleton] at h1 h2;obtain ⟨h3,⟨v,h4,h5⟩,_⟩:=h2;simp only[Rep] at h5;subst h5;subst h1;rw[Nat.mul_one] at h3 h4;rw[add_mk];rw[ha.2 b _ h3]
  exact h4)
 rw[h0,hv,hlen];simp only[Sem.run_bind,this,Result.andThen_ok,Sem.run_pure]
end pure
end Go.GL
namespace Go.GL
open Go.RowKit
theorem aT (i:Nat) {C:Ctx} {n:Nat} {ops:Array Oper} {Q:Post} {HF:Heap} {fuel:Nat} {listed:Array Bool} {e:Env} {H:Heap} {dst:Option Nat} {op:Op} {ty:TypeId} {pos:String} {aft:Array Edge} {lv:LV}
  (hi:ops[i]? = some ⟨dst,op,ty,pos,aft,none⟩) (hd:qcK n dst) (hp:Pure C ⟨dst,op,ty,pos,aft,none⟩ e HF lv) (k:LAny C n ops Q HF fuel (listed.setIfInBounds i true) (e.put dst lv) H) (hs:Region.noSelect ops=true:=by kernel_rfl) (hf:Region.free .any ops listed i=true:=by kernel_rfl) (hr:(Region.ready .any ops listed).contains i=true:=by kernel_rfl)
  (hHF:HSub HF H:=by first|exact HSub.nil _|exact zhR _|exact zhD zhr|exact zhP pH zhn|exact zhP zp1 zhn|exact zhP zp2 zhn|exact zhP pH zhp|exact ⟨_,List.Perm.refl _⟩):LAny C n ops Q HF (fuel+1) listed e H:=LAny.take hHF hi hs hf hr hd hp k
theorem LAny.tkW (i:Nat) {C:Ctx} {n:Nat} {ops:Array Oper} {Q:Post} {HF:Heap} {fuel:Nat} {listed:Array Bool} {e:Env} {H:Heap} {j d:Nat} {b:Bool} {dst:Option Nat} {op:Op} {ty:TypeId} {pos:String} {aft:Array Edge} {lv:LV}
  (hi:ops[i]? = some ⟨dst,op,ty,pos,aft,some (j,b)⟩) (hj:(ops[j]?).bind (·.dst)=some d) (hb:e.s d=.atom (.bool b)) (hd:qcK n dst) (hp:Pure C ⟨dst,op,ty,pos,aft,some (j,b)⟩ e HF lv) (k:LAny C n ops Q HF fuel (listed.setIfInBounds i true) (e.put dst lv) H) (hs:Region.noSelect ops=true:=by kernel_rfl) (hf:Region.free .any ops listed i=true:=by kernel_rfl) (hr:(Region.ready .any ops listed).contains i=true:=by kernel_rfl)
  (hHF:HSub HF H:=by first|exact HSub.nil _|exact zhR _|exact zhD zhr|exact zhP pH zhn|exact zhP zp1 zhn|exact zhP zp2 zhn|exact zhP pH zhp|exact ⟨_,List.Perm.refl _⟩):LAny C n ops Q HF (fuel+1) listed e H:=LAny.takeWant hHF hi hj hb hs hf hr hd hp k
theorem lO {C:Ctx} {n:Nat} {ops:Array Oper} {Q:Post} {HF:Heap} {fuel:Nat} {listed:Array Bool} {e:Env} {H:Heap} (i:Nat) (h:qal C n ops Q HF fuel listed e H i) (hr:Region.ready .any ops listed=[i]:=by kernel_rfl):qaE C n ops Q HF (fuel+1) listed e H:=zl1 hr h
end Go.GL
namespace Go.Proofs.YtdakelgkjdaijaaGreatDoor
open Go.GL Go.RowKit Go.Stele
attribute [local irreducible] LOps qae qad LCalls Go.GL.Pure qax qaj qac
theorem qhy (M:Nat) (acc:Nat) (l:List UInt8) (h:∀ c∈l,qaB c=true):Go.Lib.parseUintM M acc l=.range∨∃ u,Go.Lib.parseUintM M acc l=.ok u:=by
 induction l generalizing acc with
 |nil=>exact .inr ⟨acc,rfl⟩
 |cons c r ih=>
  have hc:=h c List.mem_cons_self;simp only[qaB,zBa,zDe,cv] at hc;rw[Go.Lib.parseUintM,if_pos zo];split
  ·exact .inl rfl
  ·split
   ·exact .inl rfl
   ·exact ih _ (fun c hc=>h c (zMo _ hc))
theorem qic (M:Nat) (acc:Nat) (l:List UInt8) (ha:acc<=M) {u:Nat} (h:Go.Lib.parseUintM M acc l=.ok u):u<=M:=by
 induction l generalizing acc with
 |nil=>simp only[Go.Lib.parseUintM,Go.Lib.NumEnd.ok.injEq] at h;omega
 |cons c r ih=>
  rw[Go.Lib.parseUintM] at h;split at h
  ·split at h
   ·cases h
   ·split at h
    ·cases h
    ·exact ih _ zo h
  ·cases h
theorem qh7 (s:List UInt8) (hne:s.takeWhile qaB≠[]):Go.Lib.parseUintB 32 (s.takeWhile qaB)=.range∨∃ u,u<18446744073709551616/\Go.Lib.parseUintB 32 (s.takeWhile qaB)=.ok u:=by
 unfold Go.Lib.parseUintB;rw[if_neg hne]
 have hall:∀ (s:List UInt8),∀ c∈s.takeWhile qaB,qaB c=true:=fun s c hc=>by
  induction s with
  |nil=>cases hc
  |cons a r ih=>
   by_cases ha:qaB a=true
   ·rw[List.takeWhile_cons_of_pos ha] at hc;rcases zMi.1 hc with rfl|hc
    ·exact ha
    ·exact ih hc
   ·rw[List.takeWhile_cons_of_neg ha] at hc;cases hc
 rcases qhy (2 ^ 32-1) 0 (s.takeWhile qaB) (hall s) with h|⟨u,h⟩
 ·exact .inl h
 ·have:=qic _ _ _ zo h;exact .inr ⟨u,by omega,h⟩
instance:TIface Tryz.prog 72:=.of zk
section
variable {B0:Nat} {w0:World}
theorem qc4 (hG:GW B0 w0) (s:List UInt8) (hs:s.length<=1000000000) (hne:s.takeWhile qaB≠[]):LCalls (KC B0 w0) 103 [str s] [] (Ret (qlc (qb9 s))):=by
 refine cI Tryz.func103 rfl (n:=43) rfl rfl rfl ?_;refine gah ?_;refine oS (sA fun b=>?_) rfl;refine gao ?_;refine oS (sF [_,_] rfl (qec qaB qhr s hs) ?_) rfl;refine gac ?_;refine LOps.cut [(0,str s),(2,ptr b 0),(5,str (s.takeWhile qaB)),(28,bool (qcV s (s.takeWhile qaB).length))] ?_ (fun j hj=>?_)
 ·refine oB 17 rfl (fun ht=>?_) (fun ht=>?_)
  ·have hlt:(s.takeWhile qaB).length<s.length:=by simpa using ht
   have hw:qcV s (s.takeWhile qaB).length=(qaV s[(s.takeWhile qaB).length] || decide (cv s[(s.takeWhile qaB).length]=95)):=by
    rw[qcV,List.getElem?_eq_getElem hlt]
   refine gab ?_;refine oP (pI (c:=s[(s.takeWhile qaB).length]) rfl rfl zo (by simp)) rfl ?_;refine LOps.want rfl rfl ?_;refine oS (sF [_] rfl (qgl _) ?_) rfl;refine gab ?_;refine oB 22 rfl (fun hl=>?_) (fun hl=>?_)
   ·refine gab ?_;exact ⟨⟨rfl,rfl,rfl,qas (by rw[hw,hl];rfl),trivial⟩,rfl,rfl⟩
   ·refine gab ?_;refine oP (pI (c:=s[(s.takeWhile qaB).length]) rfl rfl zo (by simp)) rfl ?_;refine gab ?_;exact ⟨⟨rfl,rfl,rfl,qas (by rw[hw,hl];rfl),trivial⟩,rfl,rfl⟩
  ·have hge:s.length<=(s.takeWhile qaB).length:=by simpa using ht
   refine gad ?_;exact ⟨⟨rfl,rfl,rfl,qas (by rw[qcV,List.getElem?_eq_none hge]),trivial⟩,rfl,rfl⟩
 ·skip
  refine oC rfl (fun hc=>?_) (fun hc=>?_)
  ·refine gac ?_
   exact qaf hj (rC (rA rfl zm0 rfl zsr) (rC (zrt rfl) (zra rfl))) (by
    rw[qb9,if_pos hc]
    rfl)
  ·refine gaa ?_;rcases qh7 s hne with hp|⟨u,hu,hp⟩
   ·refine oS (S.fnIf [_,_,_] rfl (qjy hG (s.takeWhile qaB) (zNt (List.takeWhile_prefix qaB).length_le hs) hp) ?_) rfl;rintro lv ⟨v,t,p,rfl⟩;refine gac ?_;refine oC rfl (fun hc=>?_) (fun hc=>?_)
    ·refine gac ?_
     exact qaf hj (rC (rA rfl zm0 rfl zsr) (rC (zrt rfl) (zra rfl))) (by
      rw[qb9,if_neg (by rw[‹qcV s _=false›];decide),hp]
      rfl)
    ·cases hc
   ·refine oS (sF [_,_,_] rfl (qhU (s.takeWhile qaB) (zNt (List.takeWhile_prefix qaB).length_le hs) u hp) ?_) rfl;refine gac ?_;refine oC rfl (fun hc=>?_) (fun hc=>?_)
    ·cases hc
    ·refine gaa ?_;refine oS (sF [_,_] rfl (fmtUint_spec hG u hu) ?_) rfl;refine gad ?_
     exact qaf hj (rC (rA rfl zm0 rfl zsr) (rC (zrt rfl) (zra rfl))) (by
      rw[qb9,if_neg (by rw[‹qcV s _=false›];decide),hp]
      rfl)
theorem qlX (hG:GW B0 w0) (s:List UInt8) (hs:s.length<=1000000000):LCalls (KC B0 w0) 106 [str s] [] (Ret (qlc (qbO s))):=by
 by_cases h3:s.length<3
 ·have hl:qbO s=qbm 3:=by
   match s,h3 with
   |[],_=>rfl
   |[_],_=>rfl
   |[_,_],_=>rfl
  refine cI Tryz.func106 rfl (n:=39) rfl rfl rfl ?_;refine gah ?_;refine oS (sA fun b=>?_) rfl;refine gac ?_;refine oB 8 rfl (fun ht=>?_) (fun ht=>?_)
  ·refine gab ?_;refine oC rfl (fun hc=>?_) (fun hc=>?_)
   ·refine gac ?_;exact qaf rfl (rC (rA rfl zm0 rfl zsr) (rC (zrt rfl) (zra rfl))) (by rw[hl];rfl)
   ·cases hc
  ·exact absurd (zf ht) zo
 ·match s,h3 with
  |[],h=>exact absurd (by simp) h
  |[_],h=>exact absurd (by simp) h
  |[_,_],h=>exact absurd (by simp) h
  |x::c1::c2::r,h=>
   refine cI Tryz.func106 rfl (n:=39) rfl rfl rfl ?_;refine gah ?_;refine oS (sA fun b=>?_) rfl;refine gac ?_;refine LOps.cut [(0,str (x::c1::c2::r)),(2,ptr b 0),(32,bool ((!decide (cv c2=39)) || decide (cv c1<32) || decide (126<cv c1) || decide (cv c1=39) || decide (cv c1=92)))] ?_ (fun j hj=>?_)
   ·refine oB 8 rfl (fun ht=>?_) (fun ht0=>?_)
    ·exact absurd (zt ht) (by simp only[zLc];omega)
    ·skip
     refine oP (pI (c:=c2) rfl rfl zDd rfl) rfl ?_;refine gab ?_;refine oB 13 rfl (fun ht=>?_) (fun ht1=>?_)
     ·refine gab ?_;exact ⟨⟨rfl,rfl,qas (by rw[ht];rfl),trivial⟩,rfl,rfl⟩
     ·refine gab ?_;refine oP (pI (c:=c1) rfl rfl zDd rfl) rfl ?_;refine gab ?_;refine oB 18 rfl (fun ht=>?_) (fun ht2=>?_)
      ·refine gab ?_;exact ⟨⟨rfl,rfl,qas (by rw[ht1,ht];rfl),trivial⟩,rfl,rfl⟩
      ·refine gab ?_;refine oP (pI (c:=c1) rfl rfl zDd rfl) rfl ?_;refine gad ?_;refine oB 23 rfl (fun ht=>?_) (fun ht3=>?_)
       ·refine gab ?_;exact ⟨⟨rfl,rfl,qas (by rw[ht1,ht2,ht];rfl),trivial⟩,rfl,rfl⟩
       ·refine gab ?_;refine oP (pI (c:=c1) rfl rfl zDd rfl) rfl ?_;refine gab ?_;refine oB 28 rfl (fun ht=>?_) (fun ht4=>?_)
        ·refine gab ?_;exact ⟨⟨rfl,rfl,qas (by rw[ht1,ht2,ht3,ht];rfl),trivial⟩,rfl,rfl⟩
        ·refine gab ?_;refine oP (pI (c:=c1) rfl rfl zDd rfl) rfl ?_;refine gab ?_;exact ⟨⟨rfl,rfl,qas (by rw[ht1,ht2,ht3,ht4];rfl),trivial⟩,rfl,rfl⟩
   ·skip
    refine oC rfl (fun hc=>?_) (fun hc=>?_)
    ·refine gac ?_;exact qaf hj (rC (rA rfl zm0 rfl zsr) (rC (zrt rfl) (zra rfl))) (by rw[qbO,if_pos hc];rfl)
    ·refine gaa ?_;refine oP (pI (c:=c1) rfl rfl zDd rfl) rfl ?_;refine oP (Pure.cvt rfl) rfl ?_;have hw:IntKind.i64.wrap (c1.toNat:Int)=((c1.toNat:Nat):Int):=qeS (by have:=c1.toNat_lt;omega);rw[hw];refine oS (sF [_] rfl (qcP hG c1.toNat (by have:=c1.toNat_lt;omega)) ?_) rfl;refine gad ?_;exact qaf hj (rC (rA rfl zm0 rfl zsr) (rC (zrt rfl) (zra rfl))) (by rw[qbO,if_neg (by rw[hc];decide)];rfl)
theorem qpJ (hG:GW B0 w0) (s:List UInt8) (hs:s.length<=1000000000) (hne:s≠[]):LCalls (KC B0 w0) 53 [str s] [] (Ret (qlc (qay s))):=by
 match s,hne with
 |c::r,_=>
  refine cI Tryz.func53 rfl (n:=49) rfl rfl rfl ?_;refine gah ?_;refine oS (sA fun b=>?_) rfl;refine gaa ?_;refine oP (pI (c:=c) rfl rfl zDd rfl) rfl ?_;refine oS (sF [_] rfl (qhr c) ?_) rfl;refine gaf ?_;refine oC rfl (fun hc=>?_) (fun hc=>?_)
  ·refine gag ?_;refine oS (sF [_] rfl (qc4 hG (c::r) hs (by rw[List.takeWhile_cons_of_pos hc];simp)) ?_) rfl;refine gad ?_;exact qaf rfl (rC (rA rfl zm0 rfl zsr) (rC (zrt rfl) (zra rfl))) (by simp only[qay,hc,if_true];rfl)
  ·refine gag ?_;refine oP (pI (c:=c) rfl rfl zDd rfl) rfl ?_;refine oS (sF [_] rfl (qgl c) ?_) rfl;refine gaf ?_;refine oC rfl (fun hl=>?_) (fun hl=>?_)
   ·refine gag ?_;refine oS (sF [_] rfl (qrO (c::r) hs) ?_) rfl;refine gad ?_;exact qaf rfl (rC (rA rfl zm0 rfl zsr) (rC (zrt rfl) (zra rfl))) (by simp only[qay,hc,hl,if_true,Bool.false_eq_true,if_false];rfl)
   ·refine gag ?_;refine oP (pI (c:=c) rfl rfl zDd rfl) rfl ?_;refine gab ?_;refine oC rfl (fun hq=>?_) (fun hq=>?_)
    ·refine gag ?_;refine oS (sF [_] rfl (qlX hG (c::r) hs) ?_) rfl;refine gad ?_;exact qaf rfl (rC (rA rfl zm0 rfl zsr) (rC (zrt rfl) (zra rfl))) (by simp only[qay,hc,hl,Bool.false_eq_true,if_false];rw[if_pos hq];rfl)
    ·have htok:qay (c::r)=qdo (c::r):=by simp only[qay,hc,hl,Bool.false_eq_true,if_false];rw[if_neg (by rw[hq];decide)]
     refine gaa ?_;refine oS (sF [] rfl qpu ?_) rfl;refine gab ?_
     refine oL (fun k ls H=>∃ m:Nat,k=signs.length-m/\ls=[(0,str (c::r)),(2,ptr b 0),(34,.list (signs.map str)),(35,int .i64 24),(36,int .i64 m)]/\H=[(b,.cells 121 [int .i64 0,str [],int .i64 0])]/\m<=24/\signs.find? (fun x=>x.isPrefixOf (c::r))=(signs.drop m).find? (fun x=>x.isPrefixOf (c::r)))
      ⟨_,_,_,⟨0,rfl,rfl,rfl,by omega,by simp⟩,⟨rfl,rfl,rfl,rfl,rfl,trivial⟩,zhR _⟩ ?_
     rintro k ls H ⟨m,rfl,rfl,rfl,hm,hI⟩ j hj;have h24:signs.length=24:=rfl;refine gaj ?_;refine oC rfl (fun ht=>?_) (fun ht=>?_)
     ·have hlt:m<signs.length:=by have:=zt ht;omega
      refine gam ?_;refine oP (xR (el':=str signs[m]) rfl rfl zo (by simp) rfl rfl) rfl ?_;refine gat ?_;refine oS (sF [_,_] rfl (qga (c::r) signs[m]) ?_) rfl;refine gaf ?_;refine oC rfl (fun hp=>?_) (fun hp=>?_)
      ·refine gac ?_
       exact qaf hj (rC (rA rfl zm0 rfl zsr) (rC (zrt rfl) (zra rfl))) (by
        rw[htok,qdo,hI,List.drop_eq_getElem_cons hlt,List.find?_cons_of_pos (by simpa using hp)]
        rfl)
      ·refine gaa ?_
       exact ⟨_,_,_,by omega,⟨m+1,rfl,rfl,rfl,by omega,by
        rw[hI,List.drop_eq_getElem_cons hlt,List.find?_cons_of_neg (by rw[hp];decide)]⟩,⟨rfl,rfl,rfl,rfl,qak zo,trivial⟩,zhR _,hj⟩
     ·have hge:signs.length<=m:=by have:=zf ht;omega
      refine gac ?_
      exact qaf hj (rC (rA rfl zm0 rfl zsr) (rC (zrt rfl) (zra rfl))) (by
       rw[htok,qdo,hI,List.drop_eq_nil_of_le hge]
       rfl)
end
end Go.Proofs.YtdakelgkjdaijaaGreatDoor
namespace Go.Proofs.YtdakelgkjdaijaaGreatDoor
open Go.GL Go.RowKit Go.Stele
attribute [local irreducible] LOps qae qad LCalls Go.GL.Pure qax qaj qac
def qbR (s:List UInt8):Except (Int×Int) (List Tok):=if 60000<s.length then .error (0,6) else lexP s.length s 1
def qov:Except (Int×Int) (List Tok)->LV
 |.ok T=>.tuple [.list (T.map qdg),int .i64 0,int .i64 0]
 |.error (l,e)=>.tuple [.list [],int .i64 l,int .i64 e]
theorem qpj {A B D:Type} (f:A->B) (h:B->D) (r:Except (Int×Int) A):(r.map f).map h=r.map (fun x=>h (f x)):=by cases r <;> rfl
section
variable {B0:Nat} {w0:World}
theorem qpU (hG:GW B0 w0) (s:List UInt8):LCalls (KC B0 w0) 22 [str s] [] (Ret (qov (qbR s))):=by
 refine cI Tryz.func22 rfl (n:=49) rfl rfl rfl ?_;refine gal ?_;refine oC rfl (fun hc=>?_) (fun hc=>?_)
 ·refine gar ?_
  exact qaf rfl (rC (rT (v:=qab) rfl vN) (rC (zrt rfl) (zra rfl))) (by
   rw[qbR,if_pos (by have:=zt hc;omega)]
   rfl)
 ·have hlen:s.length<=60000:=by have:=zf hc;omega
  refine gaa ?_
  refine oL (fun k ls H=>∃ (v:LV) (out:List Tok) (rest:List UInt8) (line:Int) (fuel:Nat),k=rest.length/\ls=[(5,v),(6,int .i64 line),(7,str rest)]/\Acc 3 v (out.map qdg) H [] /\
    rest.length<=fuel/\0<=line/\line+rest.length<=60001/\out.length+rest.length<=60000/\lexP s.length s 1=(lexP fuel rest line).map (out++·))
   ⟨_,_,_,⟨qab,[],s,1,s.length,rfl,rfl,Acc.nil,by omega,by omega,by omega,by simp;omega,by cases lexP s.length s 1 <;> rfl⟩,⟨rfl,rfl,rfl,trivial⟩,zhR _⟩ ?_
  rintro k ls H ⟨v,out,rest,line,fuel,rfl,rfl,hacc,hf,hl0,hl1,ho,hI⟩ j hj;refine gal ?_;refine oC rfl (fun hne=>?_) (fun hne=>?_)
  ·have hrest:rest≠[]:=by simpa using hne
   obtain ⟨f,rfl⟩:∃ f,fuel=f+1:=⟨fuel-1,by
    have:0<rest.length:=List.length_pos_iff.2 hrest
    omega⟩
   rw[lexP,if_neg hrest] at hI;have hsk:=qpv rest;refine gaa ?_;refine oS (sF [_] rfl (qra rest zo) ?_) rfl;refine gaa ?_;refine oC rfl (fun hz=>?_) (fun hz=>?_)
   ·have hz':qaY rest=0:=by have:=zt hz;omega
    rw[if_pos hz'] at hI;refine gag ?_;refine oS (sF [_] rfl (qpJ hG rest zo hrest) ?_) rfl;refine gad ?_;refine oS (sA fun b=>?_) rfl;refine gaa ?_;refine oC rfl (fun he=>?_) (fun he=>?_)
    ·have he':(qay rest).2.2≠0:=by simpa using he
     rw[if_pos he'] at hI;refine gaa ?_
     exact qaf hj (rC (rT (v:=qab) rfl vN) (rC (zrt rfl) (zra rfl))) (by
      rw[qbR,if_neg zo,hI]
      rfl)
    ·have he':(qay rest).2.2=0:=by simpa using he
     rw[if_neg (by simpa using he')] at hI;obtain ⟨hs0,hs1⟩:=qgT rest he';refine gaa ?_;refine zQ17 ?_;refine gad ?_;refine zQ2 ?_;refine LOps.weak (zhD zhr) ?_;refine oS (S.acc rfl hacc rfl (by simp;rfl) rfl (by simp;omega) fun v' H' hacc'=>?_) rfl;refine zQ30 ?_;refine gao ?_;refine oP (Pure.sslice (i:=0) (j:=(qay rest).2.1) rfl rfl ⟨_,rfl⟩ zo zo zo) rfl ?_;refine oS (sF [_,_] rfl (qh3 _) ?_) rfl;have hcnt:(List.drop (Int.toNat 0) (List.take ((qay rest).2.1:Int).toNat rest)).count 10<=(qay rest).2.1:=zNt List.count_le_length (by simp;omega);refine gaa ?_;refine oP (Pure.sslice (i:=(qay rest).2.1) (j:=rest.length) rfl ⟨_,rfl⟩ rfl zo zo zo) rfl ?_;refine gab ?_
     have hacc2:Acc 3 v' ((out++[{ (qay rest).1 with line:=line }]).map qdg) H' []:=by
      rw[zMa];exact hacc'
     exact ⟨_,_,_,by simp only[List.length_drop];omega,⟨v',out++[{ (qay rest).1 with line:=line }],rest.drop (qay rest).2.1,line+((rest.take (qay rest).2.1).count 10:Nat),f,rfl,rfl,hacc2,
      by simp only[List.length_drop];omega,by omega,by simp only[List.length_drop];simp at hcnt;omega,by simp only[List.length_drop,zLa,List.length_singleton];omega,by
       rw[hI,qpj];congr 1;funext x
       simp⟩,⟨rfl,qak (by simp),qdl (by simp),trivial⟩,zhR _,hj⟩
   ·have hz':¬ qaY rest=0:=by have:=zf hz;omega
    rw[if_neg hz'] at hI;refine gaa ?_;refine oP (Pure.sslice (i:=0) (j:=qaY rest) rfl rfl ⟨_,rfl⟩ zo zo zo) rfl ?_;refine oS (sF [_,_] rfl (qh3 _) ?_) rfl;have hcnt:(List.drop (Int.toNat 0) (List.take (qaY rest:Int).toNat rest)).count 10<=qaY rest:=zNt List.count_le_length (by simp;omega);refine gaa ?_;refine oP (Pure.sslice (i:=qaY rest) (j:=rest.length) rfl ⟨_,rfl⟩ rfl zo zo zo) rfl ?_;refine gab ?_
    exact ⟨_,_,_,by simp only[List.length_drop];omega,⟨v,out,rest.drop (qaY rest),line+((rest.take (qaY rest)).count 10:Nat),f,rfl,rfl,hacc,
      by simp only[List.length_drop];omega,by omega,by simp only[List.length_drop];simp at hcnt;omega,by simp only[List.length_drop];omega,hI⟩,⟨rfl,qak (by simp),qdl (by simp),trivial⟩,zhR _,hj⟩
  ·have hrest:rest=[]:=by simpa using hne
   refine gaa ?_;refine zQ41 ?_
   exact qaf hj (rC (rT (v:=v) rfl hacc.sub) (rC (zrt rfl) (zra rfl))) (by
    rw[qbR,if_neg zo,hI,hrest]
    cases fuel <;> simp[lexP,Except.map,qov,qbq])
end
end Go.Proofs.YtdakelgkjdaijaaGreatDoor
namespace Go.GL
open Go.RowKit
section
variable {C:Ctx} {e:Env} {H:Heap} {dst:Option Nat} {ty:TypeId} {pos:String} {aft:Array Edge} {g:Option (Nat×Bool)} {K:LV->Heap->Prop} {X:List PanicEntry->Heap->Prop} {x y:Operand}
theorem sG {sT xT el s bytes:Nat} [ht:TSlice C.P sT el s] [hr:TRow C.P el s bytes] {e2 s2:Nat} [hx2:TSlice C.P xT e2 s2] {v:LV} {es ms:List LV} {H1 F A:Heap}
  (hp:H.Perm (H1++A)) (hx:e.ev x=v) (ha:Acc s v es H1 F) (hy:GL.elems (e.ev y)=some ms) (hs:∀ v∈ms,v.cells.length=s) (hok:(ms.flatMap LV.cells).all qc0=true) (hroom:(es.length+ms.length) * bytes<=140737488355328)
  (hk:∀ v' H',Acc s v' (es++ms) H' F->K v' (A++H')):qad C ⟨dst,.call { callee:=.builtin .append,args:=#[x,y],argTypes:=#[sT,xT] },ty,pos,aft,g⟩ e H K X:=by
 refine qad.conseq (K:=fun lv H'=>∃ H2,H'=H2++A/\Acc s lv (es++ms) H2 F) (qad.frame hp (S.acc hx ha hy hs hok hroom fun v' H' h=>⟨H',rfl,h⟩)) ?_;rintro lv H' ⟨H2,rfl,h⟩;exact ⟨lv,A++H2,vR _,⟨[],by simpa using zPc⟩,hk _ _ h⟩
theorem S.acc1 {sT xT el s bytes:Nat} [ht:TSlice C.P sT el s] [hr:TRow C.P el s bytes] {e2 s2:Nat} [hx2:TSlice C.P xT e2 s2] {v:LV} {es ms:List LV} {H1 F:Heap} {q:Nat×LObj}
  (hx:e.ev x=v) (ha:Acc s v es H1 F) (hy:GL.elems (e.ev y)=some ms) (hs:∀ v∈ms,v.cells.length=s) (hok:(ms.flatMap LV.cells).all qc0=true) (hroom:(es.length+ms.length) * bytes<=140737488355328)
  (hk:∀ v' H',Acc s v' (es++ms) H' F->K v' (q::H')):qad C ⟨dst,.call { callee:=.builtin .append,args:=#[x,y],argTypes:=#[sT,xT] },ty,pos,aft,g⟩ e (q::H1) K X:=
 sG (A:=[q]) ((List.perm_append_singleton _ _).symm) hx ha hy hs hok hroom hk
end
end Go.GL
namespace Go.Stele
inductive Res (A:Type) where
 |ok (v:A) (at' op:Nat)
 |err (line e:Int)
def qf3 (T:List Tok) (i:Nat):Int:=match T[min i (T.length-1)]? with
 |some t=>t.line
 |none=>1
def qjj {A:Type} (T:List Tok) (i:Nat):Res A:=.err (qf3 T i) 3
def qaK (T:List Tok) (i:Nat) (xs:List (List UInt8)):Bool:=match T[i]? with
 |some t=>(decide (t.kind=3) || decide (t.kind=4)) && xs.contains t.text
 |none=>false
def qcw (T:List Tok) (k:Int) (i op:Nat):Res (List UInt8):=match T[i]? with
 |some t=>if t.kind=k then .ok t.text (i+1) op else qjj T i
 |none=>qjj T i
def qcX (T:List Tok) (x:List UInt8) (i op:Nat):Res Unit:=if qaK T i [x] then .ok () (i+1) op else qjj T i
def qbC (T:List Tok) (x:List UInt8) (i op:Nat):Res Unit:=
 if qaK T i [x] then (if 100<=op then .err (qf3 T i) 6 else .ok () (i+1) (op+1)) else qjj T i
def Res.bind {A B:Type} (r:Res A) (f:A->Nat->Nat->Res B):Res B:=match r with
 |.ok v i op=>f v i op
 |.err l e=>.err l e
def qh6 (s:List UInt8):Nat:=match Go.Lib.parseUintB 32 s with
 |.ok u=>u
 |_=>0
end Go.Stele
/- What the parser computes, in plain Lean: expressions and statements, by fuel. -/
namespace Go.Stele
inductive Ex where
 |mk (op:List UInt8) (num:Nat) (name:List UInt8) (args:List Ex)
 deriving Inhabited
inductive Sm where
 |mk (kind:Int) (name:List UInt8) (index value:List Ex) (thn els:List Sm)
 deriving Inhabited
structure FnD where
 name:List UInt8
 params:List (List UInt8)
 locals:List (List UInt8)
 body:List Sm
 deriving Inhabited
structure Ar where
 name:List UInt8
 size:Nat
 deriving Inhabited
structure Pr where
 vars:List (List UInt8)
 arrays:List Ar
 funcs:List FnD
 deriving Inhabited
def qaZ:Nat->List (List UInt8)
 |0=>[[124,124]]
 |1=>[[38,38]]
 |2=>[[61,61],[33,61],[60],[62],[60,61],[62,61]]
 |3=>[[94]]
 |4=>[[43],[45]]
 |5=>[[42],[47],[37]]
 |_=>[]
abbrev OR (A:Type):=Option (Res A)
def qaw {A B:Type} (r:OR A) (f:A->Nat->Nat->OR B):OR B:=match r with
 |none=>none
 |some (.ok v i op)=>f v i op
 |some (.err l e)=>some (.err l e)
def qdj (T:List Tok) (i:Nat):List UInt8:=match T[i]? with
 |some t=>t.text
 |none=>[]
def qj9 (T:List Tok) (i:Nat):Int:=match T[i]? with
 |some t=>t.kind
 |none=>0
def sEnd (T:List Tok) (x:List UInt8) (i op:Nat):Res Unit:=(qcX T x i op).bind fun _ i' op'=>.ok () i' (op'-1)
def qcf (T:List Tok) (i op:Nat):Res Nat:=(qcw T 1 i op).bind fun s i' op'=>.ok (qh6 s) i' op'
def qaA (T:List Tok):Nat->List (List UInt8)->Nat->Nat->OR (List (List UInt8))
 |0,_,_,_=>none
 |f+1,acc,i,op=>if qaK T i [[44]] then qaw (some (qcw T 2 (i+1) op)) fun s i' op'=>qaA T f (acc++[s]) i' op' else some (.ok acc i op)
def qcE (T:List Tok) (f:Nat) (i op:Nat):OR (List (List UInt8)):=qaw (some (qcw T 2 i op)) fun s i' op'=>qaA T f [s] i' op'
def nNeg:List UInt8:=[110,101,103]
def nNot:List UInt8:=[110,111,116]
def nNum:List UInt8:=[110,117,109]
def qcY:List UInt8:=[101,108,101,109]
def qbG:List UInt8:=[99,97,108,108]
def nVar:List UInt8:=[118,97,114]
mutual
def eLev (T:List Tok):Nat->Nat->Nat->Nat->OR Ex
 |0,_,_,_=>none
 |f+1,k,i,op=>if k=6 then qa0 T f i op else qaw (eLev T f (k+1) i op) fun e i' op'=>qb8 T f k e i' op'
def qb8 (T:List Tok):Nat->Nat->Ex->Nat->Nat->OR Ex
 |0,_,_,_,_=>none
 |f+1,k,e,i,op=>
  if qaK T i (qaZ k) then qaw (eLev T f (k+1) (i+1) op) fun e2 i' op'=>
   if k=2 then some (.ok (.mk (qdj T i) 0 [] [e,e2]) i' op') else qb8 T f k (.mk (qdj T i) 0 [] [e,e2]) i' op'
  else some (.ok e i op)
def qa0 (T:List Tok):Nat->Nat->Nat->OR Ex
 |0,_,_=>none
 |f+1,i,op=>
  if qaK T i [[45]] then qaw (some (qbC T [45] i op)) fun _ i' op'=>qaw (qa0 T f i' op') fun e i' op'=>some (.ok (.mk nNeg 0 [] [e]) i' (op'-1))
  else if qaK T i [[33]] then qaw (some (qbC T [33] i op)) fun _ i' op'=>qaw (qa0 T f i' op') fun e i' op'=>some (.ok (.mk nNot 0 [] [e]) i' (op'-1))
  else qcs T f i op
def qcs (T:List Tok):Nat->Nat->Nat->OR Ex
 |0,_,_=>none
 |f+1,i,op=>
  if qaK T i [[40]] then qaw (some (qbC T [40] i op)) fun _ i' op'=>qaw (eLev T f 0 i' op') fun e i' op'=>qaw (some (sEnd T [41] i' op')) fun _ i' op'=>some (.ok e i' op')
  else if qj9 T i=1 then qaw (some (qcf T i op)) fun n i' op'=>some (.ok (.mk nNum n [] []) i' op')
  else qaw (some (qcw T 2 i op)) fun s i' op'=>
   if qaK T i' [[91]] then qaw (qbw T f i' op') fun e i' op'=>some (.ok (.mk qcY 0 s [e]) i' op')
   else if qaK T i' [[40]] then qaw (qcR T f i' op') fun l i' op'=>some (.ok (.mk qbG 0 s l) i' op')
   else some (.ok (.mk nVar 0 s []) i' op')
def qbw (T:List Tok):Nat->Nat->Nat->OR Ex
 |0,_,_=>none
 |f+1,i,op=>qaw (some (qbC T [91] i op)) fun _ i' op'=>qaw (eLev T f 0 i' op') fun e i' op'=>qaw (some (sEnd T [93] i' op')) fun _ i' op'=>some (.ok e i' op')
def qcR (T:List Tok):Nat->Nat->Nat->OR (List Ex)
 |0,_,_=>none
 |f+1,i,op=>qaw (some (qbC T [40] i op)) fun _ i' op'=>qaw (qav T f [] i' op') fun l i' op'=>qaw (some (sEnd T [41] i' op')) fun _ i' op'=>some (.ok l i' op')
def qav (T:List Tok):Nat->List Ex->Nat->Nat->OR (List Ex)
 |0,_,_,_=>none
 |f+1,acc,i,op=>
  if qaK T i [[41]] then some (.ok acc i op)
  else qaw (some (if acc=[] then .ok () i op else qcX T [44] i op)) fun _ i' op'=>qaw (eLev T f 0 i' op') fun e i' op'=>qav T f (acc++[e]) i' op'
end
def kwIf:List UInt8:=[105,102]
def qe2:List UInt8:=[101,108,115,101]
def qfk:List UInt8:=[119,104,105,108,101]
def qeh:List UInt8:=[114,101,116,117,114,110]
def qjH:List UInt8:=[104,97,108,116]
def qe8:List UInt8:=[118,97,114]
def qeQ:List UInt8:=[97,114,114,97,121]
def qh0:List UInt8:=[102,117,110,99]
end Go.Stele
namespace Go.Stele
mutual
def qbj (T:List Tok):Nat->Nat->Nat->OR (List Sm)
 |0,_,_=>none
 |f+1,i,op=>qaw (some (qbC T [123] i op)) fun _ i' op'=>qaw (qbc T f [] i' op') fun l i' op'=>qaw (some (sEnd T [125] i' op')) fun _ i' op'=>some (.ok l i' op')
def qbc (T:List Tok):Nat->List Sm->Nat->Nat->OR (List Sm)
 |0,_,_,_=>none
 |f+1,acc,i,op=>if qaK T i [[125]] then some (.ok acc i op) else qaw (qco T f i op) fun s i' op'=>qbc T f (acc++[s]) i' op'
def qco (T:List Tok):Nat->Nat->Nat->OR Sm
 |0,_,_=>none
 |f+1,i,op=>
  if qaK T i [kwIf] then qaw (eLev T f 0 (i+1) op) fun e i' op'=>qaw (qbj T f i' op') fun th i' op'=>
   if qaK T i' [qe2] then qaw (qbj T f (i'+1) op') fun el i' op'=>some (.ok (.mk 3 [] [] [e] th el) i' op') else some (.ok (.mk 3 [] [] [e] th []) i' op')
  else if qaK T i [qfk] then qaw (eLev T f 0 (i+1) op) fun e i' op'=>qaw (qbj T f i' op') fun th i' op'=>some (.ok (.mk 4 [] [] [e] th []) i' op')
  else qaw (qaX T f i op) fun s i' op'=>qaw (some (qcX T [59] i' op')) fun _ i' op'=>some (.ok s i' op')
def qaX (T:List Tok):Nat->Nat->Nat->OR Sm
 |0,_,_=>none
 |f+1,i,op=>
  if qaK T i [qeh] then qaw (eLev T f 0 (i+1) op) fun e i' op'=>some (.ok (.mk 5 [] [] [e] [] []) i' op')
  else if qaK T i [qjH] then some (.ok (.mk 7 [] [] [] [] []) (i+1) op)
  else qaw (some (qcw T 2 i op)) fun s i' op'=>
   if qaK T i' [[40]] then qaw (qcR T f i' op') fun l i' op'=>some (.ok (.mk 6 [] [] [.mk qbG 0 s l] [] []) i' op')
   else if qaK T i' [[91]] then qaw (qbw T f i' op') fun x i' op'=>qaw (some (qcX T [61] i' op')) fun _ i' op'=>qaw (eLev T f 0 i' op') fun e i' op'=>some (.ok (.mk 2 s [x] [e] [] []) i' op')
   else qaw (some (qcX T [61] i' op')) fun _ i' op'=>qaw (eLev T f 0 i' op') fun e i' op'=>some (.ok (.mk 1 s [] [e] [] []) i' op')
end
def qcc (T:List Tok):Nat->List (List UInt8)->Nat->Nat->OR (List (List UInt8))
 |0,_,_,_=>none
 |f+1,acc,i,op=>if qaK T i [qe8] then qaw (qcE T f (i+1) op) fun l i' op'=>qaw (some (qcX T [59] i' op')) fun _ i' op'=>qcc T f (acc++l) i' op' else some (.ok acc i op)
def qeI (T:List Tok) (f:Nat) (i op:Nat):OR FnD:=
 qaw (some (qcw T 2 i op)) fun nm i' op'=>qaw (some (qbC T [40] i' op')) fun _ i' op'=>
 qaw (if qaK T i' [[41]] then some (.ok [] i' op') else qcE T f i' op') fun ps i' op'=>qaw (some (sEnd T [41] i' op')) fun _ i' op'=>
 qaw (some (qbC T [123] i' op')) fun _ i' op'=>qaw (qcc T f [] i' op') fun ls i' op'=>qaw (qbc T f [] i' op') fun b i' op'=>
 qaw (some (sEnd T [125] i' op')) fun _ i' op'=>some (.ok ⟨nm,ps,ls,b⟩ i' op')
def qd6 (T:List Tok) (i op:Nat):OR Ar:=
 qaw (some (qcw T 2 i op)) fun nm i' op'=>qaw (some (qbC T [91] i' op')) fun _ i' op'=>qaw (some (qcf T i' op')) fun n i' op'=>
 qaw (some (sEnd T [93] i' op')) fun _ i' op'=>qaw (some (qcX T [59] i' op')) fun _ i' op'=>some (.ok ⟨nm,n⟩ i' op')
def qbH (T:List Tok):Nat->Pr->Nat->Nat->OR Pr
 |0,_,_,_=>none
 |f+1,p,i,op=>
  if T.length<=i then some (.ok p i op)
  else if qaK T i [qe8] then qaw (qcc T f [] i op) fun l i' op'=>qbH T f { p with vars:=p.vars++l } i' op'
  else if qaK T i [qeQ] then qaw (qd6 T (i+1) op) fun a i' op'=>qbH T f { p with arrays:=p.arrays++[a] } i' op'
  else if qaK T i [qh0] then qaw (qeI T f (i+1) op) fun a i' op'=>qbH T f { p with funcs:=p.funcs++[a] } i' op'
  else some (qjj T i)
end Go.Stele
namespace Go.Proofs.YtdakelgkjdaijaaGreatDoor
open Go.GL Go.RowKit Go.Stele
attribute [local irreducible] LOps qae qad LCalls Go.GL.Pure qax qaj qac LQ LAny qaE qal
@[reducible] def srcH (sb:Nat) (T:List Tok) (i op:Nat):Nat×LObj:=(sb,.cells 65 [.list (T.map qdg),int .i64 i,int .i64 op])
def pan (l e:Int):List PanicEntry:=[{ v:=.iface 61 (.agg #[.int .i64 l,.int .i64 e]),recovered:=false }]
def qdp {A:Type} (sb:Nat) (T:List Tok) (enc:A->LV) (res:Res A) (r:LRes) (H:Heap):Prop:=match res with
 |.ok v i op=>r=.ret (enc v)/\H=[srcH sb T i op]
 |.err l e=>r=.panic (pan l e)/\∃ i op:Nat,H=[srcH sb T i op]
def encU:Unit->LV:=fun _=>.tuple []
theorem qbd {A:Type} (f:A->LV) (l:List A) (i:Nat) (h:i<l.length):(l.map f)[((i:Nat):Int).toNat]? = some (f l[i]):=by
 rw[Int.toNat_natCast,List.getElem?_map,List.getElem?_eq_getElem h];rfl
section
variable {B0:Nat} {w0:World}
theorem qce (sb:Nat) (T:List Tok) (i op:Nat) (xs:List (List UInt8)) (hT:T.length<=100000) (hi:i<=1000000) (hx:xs.length<=1000) :
  LCalls (KC B0 w0) 55 [ptr sb 0,.list (xs.map str)] [srcH sb T i op] (fun r H=>r=.ret (bool (qaK T i xs))/\H=[srcH sb T i op]):=by
 refine cI Tryz.func55 rfl (n:=40) rfl rfl rfl ?_;refine gai ?_;refine cC [(0,ptr sb 0),(1,.list (xs.map str)),(15,bool (decide (T.length<=i)))] ?_ (fun j hj=>?_)
 ·refine zQ32 ?_;exact ⟨⟨rfl,rfl,qas (by rw[decide_eq_decide];simp),trivial⟩,rfl,rfl⟩
 ·skip
  refine oC rfl (fun hc=>?_) (fun hc=>?_)
  ·refine gar ?_;exact rR hj (zra rfl) zhr ⟨by rw[qaK,List.getElem?_eq_none (zt hc)];rfl,rfl⟩
  ·have hlt:i<T.length:=by have:=zf hc;omega
   refine gab ?_;refine cD (m:=12) rfl [srcH sb T i op] ?_;refine zQ10 ?_;refine aT 3 rfl rfl (pL (c:=.list _) rfl zm0 rfl) ?_;refine aT 4 rfl rfl (pM (lv:=.atom _) rfl) ?_;refine aT 5 rfl rfl (pN rfl) ?_;refine aT 6 rfl rfl (pF rfl) ?_;refine aT 7 rfl rfl (pL (c:=.atom _) rfl zm0 rfl) ?_;refine LAny.take (i:=8) zhr rfl zk zk zk rfl (xR (el':=qdg T[i]) (cs:=[_,_,_]) rfl rfl zo (qbd _ _ _ hlt) rfl rfl) ?_;refine aT 9 rfl rfl (pR (cs':=[_,_,_]) rfl rfl rfl) ?_;refine aL ?_ zhr;refine lO 10 (lS (H1:=[]) (F:=[srcH sb T i op]) rfl (.inl rfl) rfl zpr zhr (sA fun b=>?_));refine lO 11 (lS (H1:=[(b,_)]) (F:=[srcH sb T i op]) rfl (.inl rfl) rfl zpr zhr (sS (cs':=[_,_,_]) rfl pH rfl rfl rfl rfl rfl ?_));refine lD zk ?_;refine gaa ?_;have hsp:qaK T i xs=((decide (T[i].kind=3) || decide (T[i].kind=4)) && xs.contains T[i].text):=by rw[qaK,List.getElem?_eq_getElem hlt]
   rw[hsp];refine oB 29 rfl (fun h3=>?_) (fun h3=>?_)
   ·refine gab ?_;refine oS (sF [_,_] rfl (qcS xs T[i].text zo) ?_) rfl;refine gab ?_;exact rR hj (zra rfl) (zhD zhr) ⟨by rw[h3];rfl,rfl⟩
   ·refine gab ?_;refine oB 34 rfl (fun h4=>?_) (fun h4=>?_)
    ·refine gab ?_;refine oS (sF [_,_] rfl (qcS xs T[i].text zo) ?_) rfl;refine gab ?_;exact rR hj (zra rfl) (zhD zhr) ⟨by rw[h3,h4];rfl,rfl⟩
    ·refine gab ?_;exact rR hj (zra rfl) (zhD zhr) ⟨by rw[h3,h4];rfl,rfl⟩
end
end Go.Proofs.YtdakelgkjdaijaaGreatDoor
namespace Go.Proofs.YtdakelgkjdaijaaGreatDoor
open Go.GL Go.RowKit Go.Stele
section steps
variable {C:Ctx} {e:Env} {H:Heap} {dst:Option Nat} {ty:TypeId} {pos:String} {aft:Array Edge} {g:Option (Nat×Bool)} {K:LV->Heap->Prop} {X:List PanicEntry->Heap->Prop}
theorem sH {f:FuncId} [TEnter C.P f] (args:List Operand) {ats:Array TypeId} {av:List LV} {lv:LV} {p p':Nat×LObj} {F:Heap} (has:args.map e.ev=av) (hp:Pick p H F) (hc:LCalls C f av [p] (fun r H=>r=.ret lv/\H=[p'])) (hk:K lv (p'::F)) :
  qad C ⟨dst,.call { callee:=.value (.func f),args:=args.toArray,argTypes:=ats },ty,pos,aft,g⟩ e H K X:=
 S.call1 args has hp hc (by rintro v H' ⟨h,rfl⟩;cases h;exact hk) (by rintro ch H' ⟨h,_⟩;cases h)
theorem sP {A:Type} {enc:A->LV} {res:Res A} {sb i op:Nat} {T:List Tok} {f:FuncId} [TEnter C.P f] (args:List Operand) {ats:Array TypeId} {av:List LV} {F:Heap} (has:args.map e.ev=av) (hp:Pick (srcH sb T i op) H F)
  (hc:LCalls C f av [srcH sb T i op] (qdp sb T enc res)) (hk:∀ v i' op',res=.ok v i' op'->K (enc v) (srcH sb T i' op'::F)) (hx:∀ l er i' op',res=.err l er->X (pan l er) (srcH sb T i' op'::F)) :
  qad C ⟨dst,.call { callee:=.value (.func f),args:=args.toArray,argTypes:=ats },ty,pos,aft,g⟩ e H K X:=by
 refine S.call1 args has hp hc ?_ ?_
 ·intro v H' h
  cases hr:res with
  |ok u i' op'=>
   rw[hr] at h;obtain ⟨h1,rfl⟩:=h;cases h1
   exact hk _ _ _ hr
  |err l er=>
   rw[hr] at h;obtain ⟨h1,_⟩:=h;cases h1
 ·intro ch H' h
  cases hr:res with
  |ok u i' op'=>
   rw[hr] at h;obtain ⟨h1,_⟩:=h
   cases h1
  |err l er=>
   rw[hr] at h;obtain ⟨h1,i',op',rfl⟩:=h;cases h1;exact hx _ _ _ _ hr
theorem retP {A:Type} {enc:A->LV} {res:Res A} {sb:Nat} {T:List Tok} {n:Nat} {rs:List ResultVar} {vs:List LV} {v:A} {i op:Nat} (hd:e.ds=[]) (h:qbA C n e H rs vs) (hr:res=.ok v i op) (hv:qbq vs=enc v) (hH:HSub [srcH sb T i op] H) :
  qac C n rs (qdp sb T enc res) .ret e H:=rR hd h hH (by rw[hr];exact ⟨by rw[hv],rfl⟩)
theorem qvy {A:Type} {enc:A->LV} {res:Res A} {sb:Nat} {T:List Tok} {n:Nat} {rs:List ResultVar} {vs:List LV} {v:A} {i op:Nat} (hd:e.ds=[]) (h:qbA C n e H rs vs) (hr:res=.ok v i op) (hv:qbq vs=enc v) (hH:HSub [srcH sb T i op] H) :
  qac C n rs (qdp sb T enc res) .normal e H:=rO hd h hH (by rw[hr];exact ⟨by rw[hv],rfl⟩)
theorem panP {A:Type} {enc:A->LV} {res:Res A} {sb:Nat} {T:List Tok} {n:Nat} {rs:List ResultVar} {i op:Nat} {l er:Int} (hd:e.ds=[]) (hr:res=.err l er) (hH:HSub [srcH sb T i op] H) :
  qac C n rs (qdp sb T enc res) (.panic (pan l er)) e H:=qac.panic hd hH (by rw[hr];exact ⟨rfl,i,op,rfl⟩)
end steps
attribute [local irreducible] LOps qae qad LCalls Go.GL.Pure qax qaj qac LQ LAny qaE qal
section
variable {B0:Nat} {w0:World}
theorem qfw {A:Type} (enc:A->LV) (sb:Nat) (T:List Tok) (i op:Nat) (er:Int) (hT:T.length<=100000) (hi:i<=1000000) :
  LCalls (KC B0 w0) 60 [ptr sb 0,int .i64 er] [srcH sb T i op] (qdp sb T enc (.err (qf3 T i) er)):=by
 have hml:(T.map qdg).length=T.length:=zLm _;refine cI Tryz.func60 rfl (n:=31) rfl rfl rfl ?_;refine gac ?_;refine cC [(0,ptr sb 0),(1,int .i64 er),(4,int .i64 (qf3 T i))] ?_ (fun j hj=>?_)
 ·refine oC rfl (fun hc=>?_) (fun hc=>?_)
  ·have hpos:0<T.length:=by have:=zt hc;simp at this;omega
   have hmin:min i (T.length-1)<T.length:=by omega
   have hmv:(if ((T.map qdg).length:Int)-1<(i:Int) then ((T.map qdg).length:Int)-1 else (i:Int))=((min i (T.length-1):Nat):Int):=by
    rw[zLm];split <;> omega
   refine qae.quiet zk ?_;refine gav ?_;refine qP (xR (n:=((min i (T.length-1):Nat):Int)) (el':=qdg T[min i (T.length-1)]) (cs:=[_,_,_]) rfl (congrArg (int .i64) hmv) zo (qbd _ _ _ hmin) rfl rfl) rfl ?_;refine gad ?_;exact ⟨⟨rfl,rfl,qak (by rw[qf3,List.getElem?_eq_getElem hmin]),trivial⟩,rfl,rfl⟩
  ·have hz:T=[]:=by
    have:=zf hc;exact List.length_eq_zero_iff.1 zo
   refine gaq ?_;exact ⟨⟨rfl,rfl,qak (by rw[qf3,hz];rfl),trivial⟩,rfl,rfl⟩
 ·refine gac ?_;refine oS (qad.panic rfl fun e' he'=>?_) rfl;exact panP (he'.trans hj) rfl zhr
theorem qcp (sb:Nat) (T:List Tok) (i op:Nat) (x:List UInt8) (hT:T.length<=100000) (hi:i<=1000000) :
  LCalls (KC B0 w0) 57 [ptr sb 0,str x] [srcH sb T i op] (fun r H=>r=.ret (bool (qaK T i [x]))/\H=[srcH sb T (if qaK T i [x] then i+1 else i) op]):=by
 refine cI Tryz.func57 rfl (n:=17) rfl rfl rfl ?_;refine gao ?_;refine zQ2 ?_;refine oS (sH [_,_] rfl pH (qce sb T i op [x] hT hi (by simp)) ?_) rfl;refine gad ?_;refine oC rfl (fun hc=>?_) (fun hc=>?_)
 ·have h:qaK T i [x]=false:=by simpa using hc
  refine gar ?_;exact rR rfl (zra rfl) zhr ⟨by rw[h];rfl,by rw[h];rfl⟩
 ·have h:qaK T i [x]=true:=by simpa using hc
  refine gaa ?_;exact rR rfl (zra rfl) zhr ⟨by rw[h];rfl,by rw[h];rfl⟩
theorem qdW (sb:Nat) (T:List Tok) (i op:Nat) (x:List UInt8) (hT:T.length<=100000) (hi:i<=1000000) :
  LCalls (KC B0 w0) 113 [ptr sb 0,str x] [srcH sb T i op] (qdp sb T encU (qcX T x i op)):=by
 refine cI Tryz.func113 rfl (n:=10) rfl rfl rfl ?_;refine gag ?_;refine oS (sH [_,_] rfl pH (qcp sb T i op x hT hi) ?_) rfl;refine gad ?_;refine oC rfl (fun hc=>?_) (fun hc=>?_)
 ·have h:qaK T i [x]=false:=by simpa using hc
  simp only[h,Bool.false_eq_true,if_false];refine gag ?_;refine oS (sP [_,_] rfl pH (qfw encU sb T i op 3 hT hi) (fun _ _ _ h=>by cases h) (fun l er i' op' h e' he'=>?_)) rfl;cases h;exact panP (he'.trans rfl) (by rw[qcX,h,if_neg zDd];rfl) zhr
 ·have h:qaK T i [x]=true:=by simpa using hc
  simp only[h,if_true];refine gaq ?_;exact qvy rfl rN (by rw[qcX,h,if_pos rfl]) rfl zhr
theorem qaP (sb:Nat) (T:List Tok) (i op:Nat) (k:Int) (hT:T.length<=100000) (hi:i<=1000000) :
  LCalls (KC B0 w0) 114 [ptr sb 0,int .i64 k] [srcH sb T i op] (qdp sb T str (qcw T k i op)):=by
 have hml:(T.map qdg).length=T.length:=zLm _;refine cI Tryz.func114 rfl (n:=51) rfl rfl rfl ?_;refine gai ?_;refine cC [(0,ptr sb 0),(1,int .i64 k),(29,bool (match T[i]? with|some t=>!decide (t.kind=k)|none=>true))] ?_ (fun j hj=>?_)
 ·refine zQ32 ?_;refine LQ.bcase 15 rfl (fun h=>?_) (fun h=>?_)
  ·have hge:T.length<=i:=by have:=zt h;omega
   refine gad ?_;exact ⟨⟨rfl,rfl,qas (by rw[List.getElem?_eq_none hge]),trivial⟩,rfl,rfl⟩
  ·have hlt:i<T.length:=by have:=zf h;omega
   refine gav ?_;refine qP (xR (el':=qdg T[i]) (cs:=[_,_,_]) rfl rfl zo (qbd _ _ _ hlt) rfl rfl) rfl ?_;refine gav ?_;exact ⟨⟨rfl,rfl,qas (by rw[List.getElem?_eq_getElem hlt]),trivial⟩,rfl,rfl⟩
 ·skip
  refine oC rfl (fun hc=>?_) (fun hc=>?_)
  ·have hs:qcw T k i op=qjj T i:=by
    unfold qcw
    cases hg:T[i]? with
    |none=>rfl
    |some t=>
     rw[hg] at hc;have:¬ t.kind=k:=by simpa using hc
     simp only;rw[if_neg this]
   refine gag ?_;refine oS (sP [_,_] rfl pH (qfw str sb T i op 3 hT hi) (fun _ _ _ h=>by cases h) (fun l er i' op' h e' he'=>?_)) rfl;cases h;refine gak ?_;exact panP (he'.trans hj) hs zhr
  ·have hlt:i<T.length:=by
    rcases Nat.lt_or_ge i T.length with h|h
    ·exact h
    ·rw[List.getElem?_eq_none h] at hc;cases hc
   rw[List.getElem?_eq_getElem hlt] at hc;have hk:T[i].kind=k:=by simpa using hc
   have hs:qcw T k i op=.ok T[i].text (i+1) op:=by rw[qcw,List.getElem?_eq_getElem hlt];simp only;rw[if_pos hk]
   refine gaa ?_;refine cC [(0,ptr sb 0),(4,str T[i].text)] ?_ (fun j2 hj2=>?_)
   ·refine qae.quiet zk ?_;refine gav ?_;refine qP (xR (n:=((i:Nat):Int)) (el':=qdg T[i]) (cs:=[_,_,_]) rfl (qak zo) zo (qbd _ _ _ hlt) rfl rfl) rfl ?_;refine gad ?_;exact ⟨⟨rfl,rfl,trivial⟩,rfl,rfl⟩
   ·refine gaf ?_;exact retP (hj2.trans hj) (zra rfl) hs rfl zhr
theorem qck (sb:Nat) (T:List Tok) (i op:Nat) (x:List UInt8) (hT:T.length<=100000) (hi:i<=1000000) (ho:op<=1000000) :
  LCalls (KC B0 w0) 115 [ptr sb 0,str x] [srcH sb T i op] (qdp sb T encU (qbC T x i op)):=by
 refine cI Tryz.func115 rfl (n:=32) rfl rfl rfl ?_;refine gag ?_;refine zQ2 ?_;refine oS (sH [_,_] rfl pH (qce sb T i op [x] hT hi (by simp)) ?_) rfl;refine gad ?_;refine oC rfl (fun hc=>?_) (fun hc=>?_)
 ·have h:qaK T i [x]=false:=by simpa using hc
  refine gag ?_;refine oS (sP [_,_] rfl pH (qfw encU sb T i op 3 hT hi) (fun _ _ _ h=>by cases h) (fun l er i' op' h' e' he'=>?_)) rfl;cases h';refine gak ?_;exact panP (he'.trans rfl) (by rw[qbC,h,if_neg zDd];rfl) zhr
 ·have h:qaK T i [x]=true:=by simpa using hc
  refine gac ?_;refine oC rfl (fun hd=>?_) (fun hd=>?_)
  ·have hd':100<=op:=by have:=zt hd;omega
   refine gag ?_;refine oS (sP [_,_] rfl pH (qfw encU sb T i op 6 hT hi) (fun _ _ _ h=>by cases h) (fun l er i' op' h' e' he'=>?_)) rfl;cases h';refine gak ?_;exact panP (he'.trans rfl) (by rw[qbC,h,if_pos rfl,if_pos hd']) zhr
  ·have hd':¬ 100<=op:=by have:=zf hd;omega
   refine gaa ?_;exact qvy rfl rN (by rw[qbC,h,if_pos rfl,if_neg hd']) rfl zhr
theorem qeR (sb:Nat) (T:List Tok) (i op:Nat) (x:List UInt8) (hT:T.length<=100000) (hi:i<=1000000) (ho:op<=1000000) (h1:1<=op) :
  LCalls (KC B0 w0) 117 [ptr sb 0,str x] [srcH sb T i op] (qdp sb T encU (sEnd T x i op)):=by
 refine cI Tryz.func117 rfl (n:=14) rfl rfl rfl ?_;refine gag ?_;refine oS (sP [_,_] rfl pH (qdW sb T i op x hT hi) (fun v i' op' h=>?_) (fun l er i' op' h e' he'=>?_)) rfl
 ·have hop:op'=op:=by
   unfold qcX at h;split at h
   ·cases h;rfl
   ·cases h
  subst hop;refine gac ?_;rw[show ((op':Int)-1)=((op'-1:Nat):Int) by omega];exact qvy rfl rN (by rw[sEnd,h];rfl) rfl zhr
 ·refine gak ?_;exact panP (he'.trans rfl) (by rw[sEnd,h];rfl) zhr
end
end Go.Proofs.YtdakelgkjdaijaaGreatDoor
namespace Go.Stele
def exOp:Ex->List UInt8|.mk o _ _ _=>o
def qeA:Ex->Nat|.mk _ n _ _=>n
def qcT:Ex->List UInt8|.mk _ _ n _=>n
def quj:Sm->Int|.mk k _ _ _ _ _=>k
def qug:Sm->List UInt8|.mk _ n _ _ _ _=>n
def qsN:Sm->List Ex|.mk _ _ i _ _ _=>i
def qrL:Sm->List Ex|.mk _ _ _ v _ _=>v
def qwf:Sm->List Sm|.mk _ _ _ _ t _=>t
def qwn:Sm->List Sm|.mk _ _ _ _ _ e=>e
mutual
def nEx:Ex->Nat
 |.mk _ _ _ a=>1+nExs a
def nExs:List Ex->Nat
 |[]=>0
 |x::xs=>nEx x+nExs xs
end
mutual
def nSm:Sm->Nat
 |.mk _ _ i v t e=>1+nExs i+nExs v+nSms t+nSms e
def nSms:List Sm->Nat
 |[]=>0
 |x::xs=>nSm x+nSms xs
end
def nFn (f:FnD):Nat:=1+f.params.length+f.locals.length+nSms f.body
def nFns:List FnD->Nat
 |[]=>0
 |x::xs=>nFn x+nFns xs
def nPr (p:Pr):Nat:=p.vars.length+p.arrays.length+nFns p.funcs
theorem qfL:∀ {a:List Ex} {x:Ex},x∈a->nEx x<=nExs a
 |y::ys,x,h=>by
  rw[nExs];rcases zMi.1 h with rfl|h
  ·omega
  ·have:=qfL h;omega
theorem qfZ:∀ {a:List Sm} {x:Sm},x∈a->nSm x<=nSms a
 |y::ys,x,h=>by
  rw[nSms];rcases zMi.1 h with rfl|h
  ·omega
  ·have:=qfZ h;omega
theorem qoq:∀ {a:List FnD} {x:FnD},x∈a->nFn x<=nFns a
 |y::ys,x,h=>by
  rw[nFns];rcases zMi.1 h with rfl|h
  ·omega
  ·have:=qoq h;omega
theorem qoS:∀ a:List FnD,a.length<=nFns a
 |[]=>Nat.zero_le _
 |x::xs=>by
  have h1:=qoS xs;rw[nFns,zLc];unfold nFn;omega
end Go.Stele
namespace Go.Proofs.YtdakelgkjdaijaaGreatDoor
open Go.GL Go.RowKit Go.Stele
mutual
def qbJ:Ex->List LV
 |.mk _ _ _ a=>qr3 a
def qr3:List Ex->List LV
 |[]=>[]
 |e::r=>.agg [str (exOp e),int .u32 (qeA e),str (qcT e),.list (qbJ e)]::qr3 r
end
def encE (e:Ex):LV:=.agg [str (exOp e),int .u32 (qeA e),str (qcT e),.list (qbJ e)]
theorem ql4:∀ l:List Ex,qr3 l=l.map encE
 |[]=>by simp[qr3]
 |e::r=>by rw[qr3,ql4 r];try rfl
theorem qjw (o:List UInt8) (n:Nat) (nm:List UInt8) (a:List Ex):qbJ (.mk o n nm a)=a.map encE:=by rw[qbJ,ql4]
theorem qcx (o:List UInt8) (n:Nat) (nm:List UInt8) (a:List Ex):encE (.mk o n nm a)=.agg [str o,int .u32 n,str nm,.list (a.map encE)]:=by rw[encE,qjw];try rfl
mutual
def qdT:Sm->List LV
 |.mk _ _ _ _ t _=>qpm t
def qdu:Sm->List LV
 |.mk _ _ _ _ _ e=>qpm e
def qpm:List Sm->List LV
 |[]=>[]
 |s::r=>.agg [int .i64 (quj s),str (qug s),.list ((qsN s).map encE),.list ((qrL s).map encE),.list (qdT s),.list (qdu s)]::qpm r
end
def encS (s:Sm):LV:=.agg [int .i64 (quj s),str (qug s),.list ((qsN s).map encE),.list ((qrL s).map encE),.list (qdT s),.list (qdu s)]
theorem qfh:∀ l:List Sm,qpm l=l.map encS
 |[]=>by simp[qpm]
 |e::r=>by rw[qpm,qfh r];try rfl
theorem qcb (k:Int) (n:List UInt8) (i v:List Ex) (t e:List Sm):encS (.mk k n i v t e)=.agg [int .i64 k,str n,.list (i.map encE),.list (v.map encE),.list (t.map encS),.list (e.map encS)]:=by
 rw[encS,qdT,qdu,qfh,qfh];try rfl
def qd8 (a:Ar):LV:=.agg [str a.name,int .i64 a.size]
def qaQ (f:FnD):LV:=.agg [str f.name,.list (f.params.map str),.list (f.locals.map str),.list (f.body.map encS)]
def qeL (p:Pr):LV:=.agg [.list (p.vars.map str),.list (p.arrays.map qd8),.list (p.funcs.map qaQ)]
end Go.Proofs.YtdakelgkjdaijaaGreatDoor
namespace Go.Stele
def Good {A:Type} (T:List Tok) (s:Bool) (i op:Nat) (r:Res A):Prop:=match r with
 |.ok _ i' op'=>i<=i'/\(s=true->i<i')/\(i<=T.length->i'<=T.length)/\op'=op
 |.err _ _=>True
def qcZ {A:Type} (T:List Tok) (s:Bool) (i op:Nat) (r:OR A):Prop:=∀ r',r=some r'->Good T s i op r'
theorem qaL {T:List Tok} {i:Nat} {xs:List (List UInt8)} (h:qaK T i xs=true):i<T.length:=by
 rcases Nat.lt_or_ge i T.length with h1|h1
 ·exact h1
 ·rw[qaK,List.getElem?_eq_none h1] at h;cases h
theorem qhS {T:List Tok} {i:Nat} {t:Tok} (h:T[i]? = some t):i<T.length:=(List.getElem?_eq_some_iff.1 h).1
theorem qby (T:List Tok) (k:Int) (i op:Nat):Good T true i op (qcw T k i op):=by
 unfold qcw;split
 ·rename_i t ht
  have:=qhS ht;split
  ·exact ⟨by omega,fun _=>by omega,fun _=>by omega,rfl⟩
  ·trivial
 ·trivial
theorem qbe (T:List Tok) (x:List UInt8) (i op:Nat):Good T true i op (qcX T x i op):=by
 unfold qcX;split
 ·rename_i h
  have:=qaL h;exact ⟨by omega,fun _=>by omega,fun _=>by omega,rfl⟩
 ·trivial
theorem qbb {T:List Tok} {x:List UInt8} {i op i' op':Nat} {u:Unit} (h:qbC T x i op=.ok u i' op'):i'=i+1/\op'=op+1/\op<100/\i<T.length:=by
 unfold qbC at h;split at h
 ·rename_i h1
  have:=qaL h1;split at h
  ·cases h
  ·cases h;exact ⟨rfl,rfl,by omega,this⟩
 ·cases h
theorem qeT {T:List Tok} {x:List UInt8} {i op i' op':Nat} {u:Unit} (h:sEnd T x i op=.ok u i' op'):i'=i+1/\op'=op-1/\i<T.length:=by
 unfold sEnd qcX at h;split at h
 ·rename_i h1
  have:=qaL h1;cases h;exact ⟨rfl,rfl,this⟩
 ·cases h
theorem qfm (T:List Tok) (i op:Nat):Good T true i op (qcf T i op):=by
 have:=qby T 1 i op;unfold qcf
 cases h:qcw T 1 i op with
 |ok v i' op'=>rw[h] at this;exact this
 |err l e=>trivial
theorem qau {A B:Type} {r:OR A} {f:A->Nat->Nat->OR B} {q:Res B} (h:qaw r f=some q) :
  (∃ v i op,r=some (.ok v i op)/\f v i op=some q)∨(∃ l e,r=some (.err l e)/\q=.err l e):=by
 match r,h with
 |some (.ok v i op),h=>exact .inl ⟨v,i,op,rfl,h⟩
 |some (.err l e),h=>exact .inr ⟨l,e,rfl,by simpa [qaw] using h.symm⟩
theorem qaN {A B:Type} {T:List Tok} {s t:Bool} {i op j op1:Nat} {r:OR A} {f:A->Nat->Nat->OR B} (hr:qcZ T s j op1 r)
  (hf:∀ v i' ,r=some (.ok v i' op1)->j<=i'->(s=true->j<i')->(j<=T.length->i'<=T.length)->qcZ T t i op (f v i' op1)):qcZ T t i op (qaw r f):=fun q hq=>by
 rcases qau hq with ⟨v,i',op',h1,h2⟩|⟨l,e,_,rfl⟩
 ·obtain ⟨g1,g2,g3,g4⟩:=hr _ h1;subst g4;exact hf v i' h1 g1 g2 g3 q h2
 ·trivial
theorem qaJ {A:Type} {T:List Tok} {s:Bool} {i op:Nat} {r:Res A} (h:Good T s i op r):qcZ T s i op (some r):=fun r' hr=>by cases hr;exact h
theorem qbP {A:Type} {T:List Tok} {s:Bool} {i op:Nat}:qcZ (A:=A) T s i op none:=fun r' hr=>by cases hr
theorem qcZ.from {A:Type} {T:List Tok} {s t:Bool} {i j op:Nat} {r:OR A} (h:qcZ T s j op r) (hij:i<=j) (hs:t=true->i<j∨s=true) (hT:i<=T.length->j<=T.length):qcZ T t i op r:=fun r' hr=>by
 have:=h r' hr
 cases r' with
 |ok v i' op'=>
  obtain ⟨g1,g2,g3,g4⟩:=this;refine ⟨by omega,fun ht=>?_,fun hi=>g3 (hT hi),g4⟩;rcases hs ht with h1|h1
  ·omega
  ·have:=g2 h1;omega
 |err l e=>trivial
theorem qft (T:List Tok):∀ (f:Nat) (acc:List (List UInt8)) (i op:Nat),qcZ T false i op (qaA T f acc i op)
 |0,_,_,_=>qbP
 |f+1,acc,i,op=>by
  rw[qaA];split
  ·rename_i h
   have:=qaL h;refine qaN (qaJ (qby T 2 (i+1) op)) fun v i' _ h1 h2 h3=>?_;exact (qft T f _ i' op).from (by omega) (by simp) (fun _=>h3 (by omega))
  ·exact qaJ ⟨by omega,by simp,fun h=>h,rfl⟩
theorem qcz (T:List Tok) (f i op:Nat):qcZ T true i op (qcE T f i op):=
 qaN (qaJ (qby T 2 i op)) fun v i' _ h1 h2 h3=>(qft T f _ i' op).from h1 (fun _=>.inl (h2 rfl)) h3
theorem qgN {A:Type} {T:List Tok} {s:Bool} {x y:List UInt8} {i op:Nat} {g:Nat->Nat->OR A} (hg:i<T.length->op<100->qcZ T s (i+1) (op+1) (g (i+1) (op+1))) :
  qcZ T true i op (qaw (some (qbC T x i op)) fun _ i' op'=>qaw (g i' op') fun v i' op'=>qaw (some (sEnd T y i' op')) fun _ i' op'=>some (.ok v i' op')):=fun q hq=>by
 rcases qau hq with ⟨v,i1,op1,h1,h2⟩|⟨l,e,_,rfl⟩
 ·injection h1 with h1;obtain ⟨rfl,rfl,ho,hi⟩:=qbb h1;rcases qau h2 with ⟨w,i2,op2,h3,h4⟩|⟨l,e,_,rfl⟩
  ·obtain ⟨g1,_,g3,rfl⟩:=hg hi ho _ h3;rcases qau h4 with ⟨u,i3,op3,h5,h6⟩|⟨l,e,_,rfl⟩
   ·injection h5 with h5;obtain ⟨rfl,rfl,hi2⟩:=qeT h5;cases h6;exact ⟨by omega,fun _=>by omega,fun _=>by omega,by omega⟩
   ·trivial
  ·trivial
 ·trivial
theorem qcM (T:List Tok):∀ f:Nat,(∀ k i op,qcZ T true i op (eLev T f k i op))/\(∀ k e i op,qcZ T false i op (qb8 T f k e i op))/\(∀ i op,qcZ T true i op (qa0 T f i op)) /\
  (∀ i op,qcZ T true i op (qcs T f i op))/\(∀ i op,qcZ T true i op (qbw T f i op))/\(∀ i op,qcZ T true i op (qcR T f i op))/\(∀ acc i op,qcZ T false i op (qav T f acc i op))
 |0=>⟨fun _ _ _=>by rw[eLev];exact qbP,fun _ _ _ _=>by rw[qb8];exact qbP,fun _ _=>by rw[qa0];exact qbP,fun _ _=>by rw[qcs];exact qbP,fun _ _=>by rw[qbw];exact qbP,fun _ _=>by rw[qcR];exact qbP,fun _ _ _=>by rw[qav];exact qbP⟩
 |f+1=>by
  obtain ⟨hL,hO,hU,hP,hI,hA,hB⟩:=qcM T f
  have neg:∀ (x:List UInt8) (nm:List UInt8) (i op:Nat),qcZ T true i op (qaw (some (qbC T x i op)) fun _ i' op'=>qaw (qa0 T f i' op') fun e i' op'=>some (.ok (Ex.mk nm 0 [] [e]) i' (op'-1))):=fun x nm i op q hq=>by
   rcases qau hq with ⟨v,i1,op1,h1,h2⟩|⟨l,e,_,rfl⟩
   ·injection h1 with h1;obtain ⟨rfl,rfl,ho,hi⟩:=qbb h1;rcases qau h2 with ⟨w,i2,op2,h3,h4⟩|⟨l,e,_,rfl⟩
    ·obtain ⟨g1,_,g3,rfl⟩:=hU _ _ _ h3;cases h4;exact ⟨by omega,fun _=>by omega,fun _=>g3 (by omega),by omega⟩
    ·trivial
   ·trivial
  refine ⟨fun k i op=>?_,fun k e i op=>?_,fun i op=>?_,fun i op=>?_,fun i op=>?_,fun i op=>?_,fun acc i op=>?_⟩
  ·rw[eLev];split
   ·exact hU i op
   ·exact qaN (hL (k+1) i op) fun v i' _ h1 h2 h3=>(hO k v i' op).from h1 (fun _=>.inl (h2 rfl)) h3
  ·rw[qb8];split
   ·rename_i h
    have:=qaL h;refine qaN (hL (k+1) (i+1) op) fun v i' _ h1 h2 h3=>?_;split
    ·exact qaJ ⟨by omega,by simp,fun _=>h3 (by omega),rfl⟩
    ·exact (hO k _ i' op).from (by omega) (by simp) (fun _=>h3 (by omega))
   ·exact qaJ ⟨by omega,by simp,fun h=>h,rfl⟩
  ·rw[qa0];split
   ·exact neg _ _ _ _
   ·split
    ·exact neg _ _ _ _
    ·exact hP i op
  ·rw[qcs];split
   ·exact qgN (g:=fun i op=>eLev T f 0 i op) fun _ _=>hL 0 _ _
   ·split
    ·exact qaN (qaJ (qfm T i op)) fun v i' _ h1 h2 h3=>qaJ ⟨h1,fun _=>h2 rfl,h3,rfl⟩
    ·refine qaN (qaJ (qby T 2 i op)) fun v i' _ h1 h2 h3=>?_;split
     ·exact qaN (hI i' op) fun v i2 _ g1 g2 g3=>qaJ ⟨by omega,fun _=>by have:=h2 rfl;omega,fun h=>g3 (h3 h),rfl⟩
     ·split
      ·exact qaN (hA i' op) fun v i2 _ g1 g2 g3=>qaJ ⟨by omega,fun _=>by have:=h2 rfl;omega,fun h=>g3 (h3 h),rfl⟩
      ·exact qaJ ⟨h1,fun _=>h2 rfl,h3,rfl⟩
  ·rw[qbw];exact qgN (g:=fun i op=>eLev T f 0 i op) fun _ _=>hL 0 _ _
  ·rw[qcR];exact qgN (g:=fun i op=>qav T f [] i op) fun _ _=>hB [] _ _
  ·rw[qav];split
   ·exact qaJ ⟨by omega,by simp,fun h=>h,rfl⟩
   ·refine qaN (s:=false) (j:=i) (op1:=op) ?_ fun v i' _ h1 h2 h3=>?_
    ·split
     ·exact qaJ ⟨by omega,by simp,fun h=>h,rfl⟩
     ·exact qcZ.from (qaJ (qbe T [44] i op)) (by omega) (by simp) (fun h=>h)
    ·exact qaN (hL 0 i' op) fun v i2 _ g1 g2 g3=>(hB _ i2 op).from (by omega) (by simp) (fun h=>g3 (h3 h))
end Go.Stele
/- The parser in plain Lean: where statements end; enough fuel. -/
namespace Go.Stele
theorem qeU (T:List Tok):∀ f:Nat,(∀ i op,qcZ T true i op (qbj T f i op))/\(∀ acc i op,qcZ T false i op (qbc T f acc i op))/\(∀ i op,qcZ T true i op (qco T f i op))/\(∀ i op,qcZ T true i op (qaX T f i op))
 |0=>⟨fun _ _=>by rw[qbj];exact qbP,fun _ _ _=>by rw[qbc];exact qbP,fun _ _=>by rw[qco];exact qbP,fun _ _=>by rw[qaX];exact qbP⟩
 |f+1=>by
  obtain ⟨hB,hL,hS,hM⟩:=qeU T f;obtain ⟨gL,_,_,_,gI,gA,_⟩:=qcM T f;refine ⟨fun i op=>?_,fun acc i op=>?_,fun i op=>?_,fun i op=>?_⟩
  ·rw[qbj];exact qgN (g:=fun i op=>qbc T f [] i op) fun _ _=>hL [] _ _
  ·rw[qbc];split
   ·exact qaJ ⟨by omega,by simp,fun h=>h,rfl⟩
   ·exact qaN (hS i op) fun v i' _ h1 h2 h3=>(hL _ i' op).from h1 (by simp) h3
  ·rw[qco];split
   ·rename_i h
    have:=qaL h;refine qaN (gL 0 (i+1) op) fun v i' _ h1 h2 h3=>qaN (hB i' op) fun w i2 _ g1 g2 g3=>?_;split
    ·rename_i h4
     have:=qaL h4;refine qaN (hB (i2+1) op) fun x i3 _ k1 k2 k3=>qaJ ⟨by omega,fun _=>by omega,fun _=>k3 (by omega),rfl⟩
    ·exact qaJ ⟨by omega,fun _=>by omega,fun _=>g3 (h3 (by omega)),rfl⟩
   ·split
    ·rename_i h
     have:=qaL h;exact qaN (gL 0 (i+1) op) fun v i' _ h1 h2 h3=>qaN (hB i' op) fun w i2 _ g1 g2 g3=>qaJ ⟨by omega,fun _=>by omega,fun _=>g3 (h3 (by omega)),rfl⟩
    ·exact qaN (hM i op) fun v i' _ h1 h2 h3=>qaN (qaJ (qbe T [59] i' op)) fun w i2 _ g1 g2 g3=>qaJ ⟨by omega,fun _=>by have:=h2 rfl;omega,fun hh=>g3 (h3 hh),rfl⟩
  ·rw[qaX];split
   ·rename_i h
    have:=qaL h;exact qaN (gL 0 (i+1) op) fun v i' _ h1 h2 h3=>qaJ ⟨by omega,fun _=>by omega,fun _=>h3 (by omega),rfl⟩
   ·split
    ·rename_i h
     have:=qaL h;exact qaJ ⟨by omega,fun _=>by omega,fun _=>by omega,rfl⟩
    ·refine qaN (qaJ (qby T 2 i op)) fun v i' _ h1 h2 h3=>?_;split
     ·exact qaN (gA i' op) fun w i2 _ g1 g2 g3=>qaJ ⟨by omega,fun _=>by have:=h2 rfl;omega,fun hh=>g3 (h3 hh),rfl⟩
     ·split
      ·exact qaN (gI i' op) fun w i2 _ g1 g2 g3=>qaN (qaJ (qbe T [61] i2 op)) fun u i3 _ k1 k2 k3=>qaN (gL 0 i3 op) fun x i4 _ m1 m2 m3=>
        qaJ ⟨by omega,fun _=>by have:=h2 rfl;omega,fun hh=>m3 (k3 (g3 (h3 hh))),rfl⟩
      ·exact qaN (qaJ (qbe T [61] i' op)) fun u i3 _ k1 k2 k3=>qaN (gL 0 i3 op) fun x i4 _ m1 m2 m3=>
        qaJ ⟨by omega,fun _=>by have:=h2 rfl;omega,fun hh=>m3 (k3 (h3 hh)),rfl⟩
theorem qbY (T:List Tok):∀ (f:Nat) (acc:List (List UInt8)) (i op:Nat),qcZ T (qaK T i [qe8]) i op (qcc T f acc i op)
 |0,_,_,_=>by rw[qcc];exact qbP
 |f+1,acc,i,op=>by
  rw[qcc];split
  ·rename_i h
   have:=qaL h
   exact qaN (qcz T f (i+1) op) fun v i' _ h1 h2 h3=>qaN (qaJ (qbe T [59] i' op)) fun u i2 _ g1 g2 g3=>
    (qbY T f _ i2 op).from (by omega) (fun _=>.inl (by omega)) (fun _=>g3 (h3 (by omega)))
  ·rename_i h
   exact qaJ ⟨by omega,fun hh=>absurd hh h,fun h=>h,rfl⟩
/-! ### Enough fuel -/
def Ends {A:Type} (r:OR A):Prop:=∃ q,r=some q
theorem qaq {A B:Type} {r:OR A} {f:A->Nat->Nat->OR B} (h:Ends r) (k:∀ v i op,r=some (.ok v i op)->Ends (f v i op)):Ends (qaw r f):=by
 obtain ⟨q,rfl⟩:=h
 cases q with
 |ok v i op=>exact k v i op rfl
 |err l e=>exact ⟨_,rfl⟩
theorem qar {A:Type} {r:Res A}:Ends (some r):=⟨_,rfl⟩
theorem qcD {B:Type} {T:List Tok} {x:List UInt8} {i op:Nat} {g:Unit->Nat->Nat->OR B} (k:i<T.length->op<100->Ends (g () (i+1) (op+1))):Ends (qaw (some (qbC T x i op)) g):=
 qaq qar fun v i1 op1 h1=>by
  injection h1 with h1;obtain ⟨rfl,rfl,ho,hi⟩:=qbb h1;exact k hi ho
theorem qqf (T:List Tok):∀ f:Nat,(∀ k i op,k<=6->i<=T.length->10 * (T.length-i)+20-k<=f->Ends (eLev T f k i op))/\(∀ k e i op,k<=5->i<=T.length->10 * (T.length-i)+11<=f->Ends (qb8 T f k e i op)) /\
  (∀ i op,i<=T.length->10 * (T.length-i)+13<=f->Ends (qa0 T f i op))/\(∀ i op,i<=T.length->10 * (T.length-i)+12<=f->Ends (qcs T f i op))/\(∀ i op,i<=T.length->10 * (T.length-i)+11<=f->Ends (qbw T f i op)) /\
  (∀ i op,i<=T.length->10 * (T.length-i)+12<=f->Ends (qcR T f i op))/\(∀ acc i op,i<=T.length->10 * (T.length-i)+21<=f->Ends (qav T f acc i op))
 |0=>⟨fun _ _ _ _ _ _=>by omega,fun _ _ _ _ _ _ _=>by omega,fun _ _ _ _=>by omega,fun _ _ _ _=>by omega,fun _ _ _ _=>by omega,fun _ _ _ _=>by omega,fun _ _ _ _ _=>by omega⟩
 |f+1=>by
  obtain ⟨hL,hO,hU,hP,hI,hA,hB⟩:=qqf T f;obtain ⟨gL,gO,gU,gP,gI,gA,gB⟩:=qcM T f
  have neg:∀ (x nm:List UInt8) (i op:Nat),10 * (T.length-i)+13<=f+1->Ends (qaw (some (qbC T x i op)) fun _ i' op'=>qaw (qa0 T f i' op') fun e i' op'=>some (.ok (Ex.mk nm 0 [] [e]) i' (op'-1))):=fun x nm i op hf=>
   qcD fun hi ho=>qaq (hU _ _ (by omega) (by omega)) fun v i2 op2 _=>qar
  refine ⟨fun k i op hk hi hf=>?_,fun k e i op hk hi hf=>?_,fun i op hi hf=>?_,fun i op hi hf=>?_,fun i op hi hf=>?_,fun i op hi hf=>?_,fun acc i op hi hf=>?_⟩
  ·rw[eLev];split
   ·exact hU i op hi (by omega)
   ·refine qaq (hL (k+1) i op (by omega) hi (by omega)) fun v i' op' h=>?_;obtain ⟨g1,g2,g3,rfl⟩:=gL (k+1) i op _ h;have:=g2 rfl;exact hO k v i' op' (by omega) (g3 hi) (by have:=g3 hi;omega)
  ·rw[qb8];split
   ·rename_i h
    have:=qaL h;refine qaq (hL (k+1) (i+1) op (by omega) (by omega) (by omega)) fun v i' op' h=>?_;obtain ⟨g1,g2,g3,rfl⟩:=gL (k+1) (i+1) op _ h;have:=g3 (by omega);split
    ·exact qar
    ·exact hO k _ i' op' hk this (by omega)
   ·exact qar
  ·rw[qa0];split
   ·exact neg _ _ _ _ hf
   ·split
    ·exact neg _ _ _ _ hf
    ·exact hP i op hi (by omega)
  ·rw[qcs];split
   ·exact qcD fun hlt ho=>qaq (hL 0 _ _ (by omega) (by omega) (by omega)) fun v i2 op2 _=>qaq qar fun _ _ _ _=>qar
   ·split
    ·exact qaq qar fun _ _ _ _=>qar
    ·refine qaq qar fun v i' op' h=>?_;injection h with h;have hg:=qby T 2 i op;rw[h] at hg;obtain ⟨h1,h2,h3,rfl⟩:=hg;have:=h2 rfl;have:=h3 hi;split
     ·exact qaq (hI i' _ (by omega) (by omega)) fun _ _ _ _=>qar
     ·split
      ·exact qaq (hA i' _ (by omega) (by omega)) fun _ _ _ _=>qar
      ·exact qar
  ·rw[qbw];exact qcD fun hlt ho=>qaq (hL 0 _ _ (by omega) (by omega) (by omega)) fun v i2 op2 _=>qaq qar fun _ _ _ _=>qar
  ·rw[qcR];exact qcD fun hlt ho=>qaq (hB [] _ _ (by omega) (by omega)) fun v i2 op2 _=>qaq qar fun _ _ _ _=>qar
  ·rw[qav];split
   ·exact qar
   ·refine qaq qar fun v i' op' h=>?_
    have hg:i<=i'/\i'<=T.length:=by
     injection h with h;split at h
     ·cases h;exact ⟨zNr _,hi⟩
     ·have hg:=qbe T [44] i op;rw[h] at hg;exact ⟨hg.1,hg.2.2.1 hi⟩
    refine qaq (hL 0 i' op' (by omega) hg.2 (by omega)) fun v2 i2 op2 h2=>?_;obtain ⟨g1,g2,g3,rfl⟩:=gL 0 i' op' _ h2;have:=g2 rfl;have:=g3 hg.2;exact hB _ i2 _ this (by omega)
theorem qsi (T:List Tok):∀ f:Nat,(∀ i op,i<=T.length->10 * (T.length-i)+5<=f->Ends (qbj T f i op))/\(∀ acc i op,i<=T.length->10 * (T.length-i)+14<=f->Ends (qbc T f acc i op)) /\
  (∀ i op,i<=T.length->10 * (T.length-i)+13<=f->Ends (qco T f i op))/\(∀ i op,i<=T.length->10 * (T.length-i)+12<=f->Ends (qaX T f i op))
 |0=>⟨fun _ _ _ _=>by omega,fun _ _ _ _ _=>by omega,fun _ _ _ _=>by omega,fun _ _ _ _=>by omega⟩
 |f+1=>by
  obtain ⟨hB,hL,hS,hM⟩:=qsi T f;obtain ⟨eL,_,_,_,eI,eA,_⟩:=qqf T f;obtain ⟨gL,_,_,_,gI,gA,_⟩:=qcM T f;obtain ⟨kB,kL,kS,kM⟩:=qeU T f;refine ⟨fun i op hi hf=>?_,fun acc i op hi hf=>?_,fun i op hi hf=>?_,fun i op hi hf=>?_⟩
  ·rw[qbj];exact qcD fun hlt ho=>qaq (hL [] _ _ (by omega) (by omega)) fun v i2 op2 _=>qaq qar fun _ _ _ _=>qar
  ·rw[qbc];split
   ·exact qar
   ·refine qaq (hS i op hi (by omega)) fun v i' op' h=>?_;obtain ⟨g1,g2,g3,rfl⟩:=kS i op _ h;have:=g2 rfl;have:=g3 hi;exact hL _ i' _ (by omega) (by omega)
  ·rw[qco];split
   ·rename_i h
    have:=qaL h;refine qaq (eL 0 (i+1) op (by omega) (by omega) (by omega)) fun v i' op' h=>?_;obtain ⟨g1,g2,g3,rfl⟩:=gL 0 (i+1) op _ h;have:=g2 rfl;have:=g3 (by omega);refine qaq (hB i' _ (by omega) (by omega)) fun v2 i2 op2 h2=>?_;obtain ⟨q1,q2,q3,rfl⟩:=kB i' _ _ h2;have:=q3 (by omega);split
    ·rename_i h4
     have:=qaL h4;exact qaq (hB (i2+1) _ (by omega) (by omega)) fun _ _ _ _=>qar
    ·exact qar
   ·split
    ·rename_i h
     have:=qaL h;refine qaq (eL 0 (i+1) op (by omega) (by omega) (by omega)) fun v i' op' h=>?_;obtain ⟨g1,g2,g3,rfl⟩:=gL 0 (i+1) op _ h;have:=g2 rfl;have:=g3 (by omega);exact qaq (hB i' _ (by omega) (by omega)) fun v2 i2 op2 h2=>qar
    ·exact qaq (hM i op hi (by omega)) fun _ _ _ _=>qaq qar fun _ _ _ _=>qar
  ·rw[qaX];split
   ·rename_i h
    have:=qaL h;exact qaq (eL 0 (i+1) op (by omega) (by omega) (by omega)) fun _ _ _ _=>qar
   ·split
    ·exact qar
    ·refine qaq qar fun v i' op' h=>?_;injection h with h;have hg:=qby T 2 i op;rw[h] at hg;obtain ⟨h1,h2,h3,rfl⟩:=hg;have:=h2 rfl;have:=h3 hi;split
     ·exact qaq (eA i' _ (by omega) (by omega)) fun _ _ _ _=>qar
     ·have tail:∀ (i2 op2:Nat) (g:Ex->Sm),i'<=i2->i2<=T.length->Ends (qaw (some (qcX T [61] i2 op2)) fun _ i' op'=>qaw (eLev T f 0 i' op') fun e i' op'=>some (.ok (g e) i' op')):=fun i2 op2 g hi1 hi2=>by
       refine qaq qar fun v i3 op3 h3=>?_;injection h3 with h3;have hg:=qbe T [61] i2 op2;rw[h3] at hg;have:=hg.2.2.1 hi2;have:=hg.1;exact qaq (eL 0 i3 _ (by omega) (by omega) (by omega)) fun _ _ _ _=>qar
      split
      ·refine qaq (eI i' _ (by omega) (by omega)) fun v2 i2 op2 h2=>?_;obtain ⟨q1,q2,q3,rfl⟩:=gI i' _ _ h2;exact tail i2 _ _ q1 (q3 (by omega))
      ·exact tail i' _ _ (zNr _) (by omega)
theorem qfD (T:List Tok):∀ (f:Nat) (acc:List (List UInt8)) (i op:Nat),i<=T.length->T.length-i+1<=f->Ends (qaA T f acc i op)
 |0,_,_,_,_,h=>by omega
 |f+1,acc,i,op,hi,hf=>by
  rw[qaA];split
  ·rename_i h
   have:=qaL h;refine qaq qar fun v i' op' h=>?_;injection h with h;have hg:=qby T 2 (i+1) op;rw[h] at hg;obtain ⟨h1,h2,h3,rfl⟩:=hg;exact qfD T f _ i' _ (h3 (by omega)) (by have:=h3 (by omega);omega)
  ·exact qar
theorem qjI (T:List Tok) (f i op:Nat) (hi:i<=T.length) (hf:T.length-i+1<=f):Ends (qcE T f i op):=
 qaq qar fun v i' op' h=>by
  injection h with h;have hg:=qby T 2 i op;rw[h] at hg;obtain ⟨h1,h2,h3,rfl⟩:=hg;exact qfD T f _ i' _ (h3 hi) (by have:=h3 hi;omega)
theorem qhI (T:List Tok):∀ (f:Nat) (acc:List (List UInt8)) (i op:Nat),i<=T.length->T.length-i+2<=f->Ends (qcc T f acc i op)
 |0,_,_,_,_,h=>by omega
 |f+1,acc,i,op,hi,hf=>by
  rw[qcc];split
  ·rename_i h
   have:=qaL h;refine qaq (qjI T f (i+1) op (by omega) (by omega)) fun v i' op' h=>?_;obtain ⟨g1,g2,g3,rfl⟩:=qcz T f (i+1) op _ h;have:=g3 (by omega);refine qaq qar fun v i2 op2 h2=>?_;injection h2 with h2;have hg:=qbe T [59] i' op';rw[h2] at hg;obtain ⟨h1,h2,h3,rfl⟩:=hg;have:=h3 (by omega);exact qhI T f _ i2 _ (by omega) (by omega)
  ·exact qar
theorem qkn {B:Type} {T:List Tok} {k:Int} {i op:Nat} {g:List UInt8->Nat->Nat->OR B} (h:∀ s,i<T.length->Ends (g s (i+1) op)):Ends (qaw (some (qcw T k i op)) g):=
 qaq qar fun v i' op' hw=>by
  injection hw with hw;unfold qcw at hw;split at hw
  ·rename_i t ht
   have:=qhS ht;split at hw
   ·cases hw;exact h _ this
   ·cases hw
  ·cases hw
theorem qsB {B:Type} {T:List Tok} {x:List UInt8} {i op:Nat} {g:Unit->Nat->Nat->OR B} (h:i<T.length->Ends (g () (i+1) (op-1))):Ends (qaw (some (sEnd T x i op)) g):=
 qaq qar fun v i' op' hw=>by
  injection hw with hw;obtain ⟨rfl,rfl,hlt⟩:=qeT hw;exact h hlt
theorem qpa (T:List Tok) (f i op:Nat) (hi:i<=T.length) (hf:10 * (T.length-i)+14<=f):Ends (qeI T f i op):=by
 unfold qeI;refine qkn fun s h1=>qcD fun h2 h3=>qaq ?_ fun v i2 op2 h4=>qsB fun h5=>qcD fun h6 h7=>qaq (qhI T f [] _ _ (by omega) ?_) fun v2 i3 op3 h8=>qaq ((qsi T f).2.1 [] _ _ ?_ ?_) fun v3 i4 op4 h9=>qaq qar fun _ _ _ _=>qar
 ·split
  ·exact qar
  ·exact qjI T f _ _ (by omega) (by omega)
 ·have:i+1+1<=i2:=by
   split at h4
   ·cases h4;omega
   ·exact (qcz T f _ _ _ h4).1
  omega
 ·exact (qbY T f _ _ _ _ h8).2.2.1 (by omega)
 ·have:i+1+1<=i2:=by
   split at h4
   ·cases h4;omega
   ·exact (qcz T f _ _ _ h4).1
  have:=(qbY T f _ _ _ _ h8).1;omega
theorem qdL (T:List Tok) (f i op:Nat):qcZ T true i op (qeI T f i op):=by
 intro q hq0;unfold qeI at hq0
 cases q with
 |err l e=>trivial
 |ok v i9 op9=>
  rcases qau hq0 with ⟨s,i1,op1,h1,hq1⟩|⟨l,e,_,h⟩
  ·injection h1 with h1;have g1:=qby T 2 i op;rw[h1] at g1;obtain ⟨a1,a2,a3,rfl⟩:=g1;have:=a2 rfl;rcases qau hq1 with ⟨_,i2,op2,h2,hq2⟩|⟨l,e,_,h⟩
   ·injection h2 with h2;obtain ⟨rfl,rfl,b1,b2⟩:=qbb h2;rcases qau hq2 with ⟨ps,i3,op3,h3,hq3⟩|⟨l,e,_,h⟩
    ·have c:i1+1<=i3/\(i1+1<=T.length->i3<=T.length)/\op3=op1+1:=by
      split at h3
      ·cases h3;exact ⟨zNr _,fun h=>h,rfl⟩
      ·obtain ⟨c1,_,c3,c4⟩:=qcz T f _ _ _ h3;exact ⟨c1,c3,c4⟩
     obtain ⟨c1,c2,rfl⟩:=c;rcases qau hq3 with ⟨_,i4,op4,h4,hq4⟩|⟨l,e,_,h⟩
     ·injection h4 with h4;obtain ⟨rfl,rfl,d1⟩:=qeT h4;rcases qau hq4 with ⟨_,i5,op5,h5,hq5⟩|⟨l,e,_,h⟩
      ·injection h5 with h5;obtain ⟨rfl,rfl,e1,e2⟩:=qbb h5;rcases qau hq5 with ⟨ls,i6,op6,h6,hq6⟩|⟨l,e,_,h⟩
       ·obtain ⟨f1,_,f3,rfl⟩:=qbY T f _ _ _ _ h6;have:=f3 (by omega);rcases qau hq6 with ⟨bs,i7,op7,h7,hq7⟩|⟨l,e,_,h⟩
        ·obtain ⟨k1,_,k3,rfl⟩:=(qeU T f).2.1 _ _ _ _ h7;have:=k3 (by omega);rcases qau hq7 with ⟨_,i8,op8,h8,hq8⟩|⟨l,e,_,h⟩
         ·injection h8 with h8;obtain ⟨rfl,rfl,m1⟩:=qeT h8;cases hq8;exact ⟨by omega,fun _=>by omega,fun _=>by omega,by omega⟩
         ·cases h
        ·cases h
       ·cases h
      ·cases h
     ·cases h
    ·cases h
   ·cases h
  ·cases h
theorem qc6 (T:List Tok) (i op:Nat):qcZ T true i op (qd6 T i op):=by
 intro q hq0;unfold qd6 at hq0
 cases q with
 |err l e=>trivial
 |ok v i9 op9=>
  rcases qau hq0 with ⟨s,i1,op1,h1,hq1⟩|⟨l,e,_,h⟩
  ·injection h1 with h1;have g1:=qby T 2 i op;rw[h1] at g1;obtain ⟨a1,a2,a3,rfl⟩:=g1;have:=a2 rfl;rcases qau hq1 with ⟨_,i2,op2,h2,hq2⟩|⟨l,e,_,h⟩
   ·injection h2 with h2;obtain ⟨rfl,rfl,b1,b2⟩:=qbb h2;rcases qau hq2 with ⟨ps,i3,op3,h3,hq3⟩|⟨l,e,_,h⟩
    ·injection h3 with h3;have g3:=qfm T (i1+1) (op1+1);rw[h3] at g3;obtain ⟨c1,c2,c3,rfl⟩:=g3;have:=c2 rfl;rcases qau hq3 with ⟨_,i4,op4,h4,hq4⟩|⟨l,e,_,h⟩
     ·injection h4 with h4;obtain ⟨rfl,rfl,d1⟩:=qeT h4;rcases qau hq4 with ⟨_,i5,op5,h5,hq5⟩|⟨l,e,_,h⟩
      ·injection h5 with h5;have g5:=qbe T [59] (i3+1) op4;rw[h5] at g5;obtain ⟨e1,e2,e3,rfl⟩:=g5;have:=e2 rfl;have:=e3 (by omega);cases hq5;exact ⟨by omega,fun _=>by omega,fun _=>by omega,by omega⟩
      ·cases h
     ·cases h
    ·cases h
   ·cases h
  ·cases h
theorem qnS (T:List Tok) (i op:Nat):Ends (qd6 T i op):=by
 unfold qd6;exact qkn fun s _=>qcD fun _ _=>qaq qar fun _ _ _ _=>qaq qar fun _ _ _ _=>qaq qar fun _ _ _ _=>qar
theorem qdN (T:List Tok):∀ (f:Nat) (p:Pr) (i op:Nat),i<=T.length->10 * (T.length-i)+20<=f->Ends (qbH T f p i op)
 |0,_,_,_,_,h=>by omega
 |f+1,p,i,op,hi,hf=>by
  rw[qbH];split
  ·exact qar
  ·split
   ·rename_i h
    have:=qaL h;refine qaq (qhI T f _ i op hi (by omega)) fun v i' op' h2=>?_;obtain ⟨g1,g2,g3,rfl⟩:=qbY T f _ i op _ h2;have:=g2 h;have:=g3 hi;exact qdN T f _ i' _ (by omega) (by omega)
   ·split
    ·rename_i h
     have:=qaL h;refine qaq (qnS T _ _) fun v i' op' h2=>?_;obtain ⟨g1,g2,g3,rfl⟩:=qc6 T _ _ _ h2;have:=g3 (by omega);exact qdN T f _ i' _ (by omega) (by omega)
    ·split
     ·rename_i h
      have:=qaL h;refine qaq (qpa T f _ _ (by omega) (by omega)) fun v i' op' h2=>?_;obtain ⟨g1,g2,g3,rfl⟩:=qdL T f _ _ _ h2;have:=g3 (by omega);exact qdN T f _ i' _ (by omega) (by omega)
     ·exact qar
end Go.Stele
namespace Go.Proofs.YtdakelgkjdaijaaGreatDoor
open Go.GL Go.RowKit Go.Stele
attribute [local irreducible] LOps qae qad LCalls Go.GL.Pure qax qaj qac LQ LAny qaE qal
theorem qao {A B:Type} {v:A} {i op:Nat} {f:A->Nat->Nat->OR B}:qaw (some (.ok v i op)) f=f v i op:=rfl
theorem qat {A B:Type} {l e:Int} {f:A->Nat->Nat->OR B}:qaw (some (.err l e)) f=some (.err l e):=rfl
theorem qaR {A B:Type} {r:OR A} {f:A->Nat->Nat->OR B} {q:Res B} (h:qaw r f=some q):∃ r1,r=some r1:=by
 cases r with
 |none=>cases h
 |some r1=>exact ⟨r1,rfl⟩
structure TOK (T:List Tok):Prop where
 len:T.length<=100000
 txt:∀ t∈T,t.text.length<=100000
 num:∀ t∈T,t.kind=1->∃ u,u<4294967296/\Go.Lib.parseUintB 32 t.text=.ok u
theorem qsX {n:Int} (h:0<=n/\n<=4294967295):IntKind.u32.wrap n=n:=by
 simp only[IntKind.wrap,IntKind.bits,IntKind.signed,Bool.false_and]
 simp
 omega
theorem qdJ {T:List Tok} {k:Int} {i op i' op':Nat} {s:List UInt8} (h:qcw T k i op=.ok s i' op'):i'=i+1/\op'=op/\∃ t,T[i]? = some t/\t.kind=k/\t.text=s:=by
 unfold qcw at h;split at h
 ·rename_i t ht
  split at h
  ·rename_i hk
   cases h;exact ⟨rfl,rfl,t,ht,hk,rfl⟩
  ·cases h
 ·cases h
def qon (l:List (List UInt8)):LV:=.list (l.map str)
def encN (n:Nat):LV:=int .u32 n
def qkF (B0:Nat) (w0:World) (sb:Nat) (T:List Tok) (f:Nat):Prop:=
 ∀ i op r,i<=T.length->op<=100->eLev T f 0 i op=some r->LCalls (KC B0 w0) 206 [ptr sb 0] [srcH sb T i op] (qdp sb T encE r)
section
variable {B0:Nat} {w0:World}
theorem qhM (hG:GW B0 w0) (sb:Nat) (T:List Tok) (hT:TOK T) (i op:Nat) (hi:i<=1000000):LCalls (KC B0 w0) 116 [ptr sb 0] [srcH sb T i op] (qdp sb T encN (qcf T i op)):=by
 have hl:=hT.len;refine cI Tryz.func116 rfl (n:=13) rfl rfl rfl ?_;refine gao ?_;refine oS (sP [_,_] rfl pH (qaP sb T i op 1 hl hi) (fun s i1 op1 h1=>?_) (fun l er i1 op1 h1 e' he'=>?_)) rfl
 ·obtain ⟨rfl,rfl,t,ht,hk,rfl⟩:=qdJ h1;have hmem:=List.mem_of_getElem? ht;obtain ⟨u,hu,hp⟩:=hT.num t hmem hk;have htx:=hT.txt t hmem;have hn:qh6 t.text=u:=by rw[qh6,hp]
  have hw:IntKind.u32.wrap (u:Int)=(u:Int):=qsX zo;refine oS (sF [_,_,_] rfl (qhU t.text zo u hp) ?_) rfl;refine gac ?_;exact retP (v:=qh6 t.text) rfl (zra rfl) (by rw[qcf,h1];rfl) (by rw[hn];exact qak hw) zhr
 ·refine gak ?_;exact panP (he'.trans rfl) (by rw[qcf,h1];rfl) zhr
theorem qjk (sb:Nat) (T:List Tok) (hT:TOK T) (f i op:Nat) (r:Res (List (List UInt8))) (hi:i<=T.length) (hr:qcE T f i op=some r) :
  LCalls (KC B0 w0) 112 [ptr sb 0] [srcH sb T i op] (qdp sb T qon r):=by
 have hl:=hT.len;rw[qcE] at hr;refine cI Tryz.func112 rfl (n:=15) rfl rfl rfl ?_;refine gao ?_;refine oS (sP [_,_] rfl pH (qaP sb T i op 2 hl zo) (fun s i1 op1 h1=>?_) (fun l er i1 op1 h1 e' he'=>?_)) rfl
 ·rw[h1,qao] at hr
  have hi1:i1<=T.length:=by
   have:=qby T 2 i op;rw[h1] at this;exact this.2.2.1 hi
  refine oS (S.litA [_] rfl (eC rfl rfl eN) rfl rfl rfl fun b=>?_) rfl;refine gad ?_
  refine oL (fun k ls H=>∃ (v:LV) (l:List (List UInt8)) (i2:Nat) (Ha:Heap),ls=[(0,ptr sb 0),(3,v)]/\H=srcH sb T i2 op1::Ha/\Acc 1 v (l.map str) Ha []/\i2<=T.length/\l.length<=i2+1/\qaA T k l i2 op1=some r)
   ⟨f,_,srcH sb T i1 op1::[(b,.row 1)],⟨.app b 1 1 [str s],[s],i1,_,rfl,rfl,Acc.row,hi1,by simp,hr⟩,⟨rfl,rfl,trivial⟩,zhP zp1 zhr⟩ ?_
  rintro k ls H ⟨v,l,i2,Ha,rfl,rfl,hacc,hi2,hll,hI⟩ j hj
  obtain ⟨k,rfl⟩:∃ k',k=k'+1:=by
   cases k with
   |zero=>rw[qaA] at hI;cases hI
   |succ k=>exact ⟨k,rfl⟩
  rw[qaA] at hI;refine gag ?_;refine oS (sH [_,_] rfl pH (qcp sb T i2 op1 [44] hl zo) ?_) rfl;refine gaf ?_;refine oC rfl (fun hc=>?_) (fun hc=>?_)
  ·have hlt:=qaL hc;rw[if_pos hc] at hI;simp only[hc,if_true];refine gam ?_;refine zQ17 ?_;refine gab ?_;refine oS (sP [_,_] rfl pH (qaP sb T (i2+1) op1 2 hl zo) (fun s2 i3 op3 h3=>?_) (fun l er i3 op3 h3 e' he'=>?_)) rfl
   ·rw[h3,qao] at hI;obtain ⟨rfl,rfl,t,ht,_,_⟩:=qdJ h3;have:=qhS ht;refine zQ2 ?_;refine oS (S.acc1 rfl hacc rfl (by simp;rfl) rfl (by simp;omega) fun v' H' hacc'=>?_) rfl;refine zQ30 ?_;refine gab ?_;exact ⟨k,_,_,by omega,⟨v',l++[s2],i2+1+1,H',rfl,rfl,by rw[zMa];exact hacc',by omega,by simp;omega,hI⟩,⟨rfl,rfl,trivial⟩,zhR _,hj⟩
   ·rw[h3,qat] at hI;refine gae ?_;exact panP (he'.trans hj) (by cases hI;rfl) zhp
  ·have hc':qaK T i2 [[44]]=false:=hc;rw[if_neg (by rw[hc'];decide)] at hI;simp only[hc',Bool.false_eq_true,if_false];refine gaa ?_;refine zQ41 ?_;exact retP (v:=l) hj (rC (rT (v:=v) rfl hacc.sub) rN) (by cases hI;rfl) rfl zhp
 ·exact zT27
theorem qpy (sb:Nat) (T:List Tok) (hT:TOK T) (f:Nat) (hE:qkF B0 w0 sb T f) (i op:Nat) (r:Res Ex) (hi:i<=T.length) (ho:op<=100) (hr:qbw T (f+1) i op=some r) :
  LCalls (KC B0 w0) 236 [ptr sb 0] [srcH sb T i op] (qdp sb T encE r):=by
 have hl:=hT.len;rw[qbw] at hr;refine cI Tryz.func236 rfl (n:=11) rfl rfl rfl ?_;refine gah ?_;refine oS (sA fun b=>?_) rfl;refine gap ?_;refine oS (sP [_,_] rfl zp1 (qck sb T i op [91] hl zo zo) (fun v i1 op1 h1=>?_) (fun l er i1 op1 h1 e' he'=>?_)) rfl
 ·rw[h1,qao] at hr;obtain ⟨rfl,rfl,ho1,hi1⟩:=qbb h1;refine gap ?_;obtain ⟨r1,hr1⟩:=qaR hr;refine oS (sP [_] rfl pH (hE _ _ r1 zo zo hr1) (fun v i2 op2 h2=>?_) (fun l er i2 op2 h2 e' he'=>?_)) rfl
  ·rw[hr1,h2,qao] at hr;obtain ⟨g1,_,g3,rfl⟩:=(qcM T f).1 0 _ _ _ (hr1.trans (congrArg some h2));have g4:=g3 zo;refine oS (sA fun b2=>?_) rfl;refine gac ?_;refine oS (sP [_,_] rfl zp1 (qeR sb T i2 (op+1) [93] hl zo zo zo) (fun u i3 op3 h3=>?_) (fun l er i3 op3 h3 e' he'=>?_)) rfl
   ·rw[h3,qao] at hr;refine gac ?_;exact retP rfl (rC (rA rfl zm0 rfl zsr) rN) (by cases hr;rfl) rfl (zhD zhp)
   ·rw[h3,qat] at hr;refine gak ?_;exact panP (he'.trans rfl) (by cases hr;rfl) zhp
  ·rw[hr1,h2,qat] at hr;refine gak ?_;exact panP (he'.trans rfl) (by cases hr;rfl) zhp
 ·exact zT27
end
end Go.Proofs.YtdakelgkjdaijaaGreatDoor
namespace Go.Proofs.YtdakelgkjdaijaaGreatDoor
open Go.GL Go.RowKit Go.Stele
attribute [local irreducible] LOps qae qad LCalls Go.GL.Pure qax qaj qac LQ LAny qaE qal
def encEL (l:List Ex):LV:=.list (l.map encE)
section
variable {B0:Nat} {w0:World}
theorem qlY (sb:Nat) (T:List Tok) (hT:TOK T) (f:Nat) (hE:∀ g,g<f->qkF B0 w0 sb T g) (i op:Nat) (r:Res (List Ex)) (hi:i<=T.length) (ho:op<=100) (hr:qcR T f i op=some r) :
  LCalls (KC B0 w0) 235 [ptr sb 0] [srcH sb T i op] (qdp sb T encEL r):=by
 have hl:=hT.len
 obtain ⟨f,rfl⟩:∃ g,f=g+1:=by
  cases f with
  |zero=>rw[qcR] at hr;cases hr
  |succ g=>exact ⟨g,rfl⟩
 rw[qcR] at hr;refine cI Tryz.func235 rfl (n:=23) rfl rfl rfl ?_;refine gao ?_;refine oS (sP [_,_] rfl pH (qck sb T i op [40] hl zo zo) (fun v i1 op1 h1=>?_) (fun l er i1 op1 h1 e' he'=>?_)) rfl
 ·rw[h1,qao] at hr;obtain ⟨rfl,rfl,ho1,hi1⟩:=qbb h1;refine gaa ?_;obtain ⟨r1,hr1⟩:=qaR hr
  refine oL (fun k ls H=>∃ (v:LV) (l:List Ex) (i2:Nat) (Ha:Heap),k<=f/\ls=[(0,ptr sb 0),(3,v)]/\H=srcH sb T i2 (op+1)::Ha/\Acc 4 v (l.map encE) Ha []/\i2<=T.length/\l.length<=i2+1/\qav T k l i2 (op+1)=some r1)
   ⟨f,_,srcH sb T (i+1) (op+1)::[],⟨qab,[],i+1,_,zNr _,rfl,rfl,Acc.nil,by omega,by simp,hr1⟩,⟨rfl,rfl,trivial⟩,zhR _⟩ ?_
  rintro k ls H ⟨v,l,i2,Ha,hkf,rfl,rfl,hacc,hi2,hll,hI⟩ j hj
  obtain ⟨k,rfl⟩:∃ k',k=k'+1:=by
   cases k with
   |zero=>rw[qav] at hI;cases hI
   |succ k=>exact ⟨k,rfl⟩
  rw[qav] at hI;refine gag ?_;refine zQ2 ?_;refine oS (sH [_,_] rfl pH (qce sb T i2 (op+1) [[41]] hl zo (by simp)) ?_) rfl;refine gad ?_;refine oC rfl (fun hc=>?_) (fun hc=>?_)
  ·have hc':qaK T i2 [[41]]=false:=by simpa using hc
   rw[if_neg (by rw[hc'];decide)] at hI;refine gam ?_;refine zQ17 ?_;refine oP (Pure.llen hacc.elems) rfl ?_;refine gad ?_;refine oC rfl (fun hd=>?_) (fun hd=>?_)
   ·have hl0:¬ l=[]:=by
     rintro rfl;have:=zt hd;simp at this
    rw[if_neg hl0] at hI;refine gag ?_;refine oS (sP [_,_] rfl pH (qdW sb T i2 (op+1) [44] hl zo) (fun u i3 op3 h3=>?_) (fun l er i3 op3 h3 e' he'=>?_)) rfl
    ·rw[h3,qao] at hI
     obtain ⟨q1,q2,q3,rfl⟩:i2<=i3/\(true=true->i2<i3)/\(i2<=T.length->i3<=T.length)/\op3=op+1:=by
      have:=qbe T [44] i2 (op+1);rw[h3] at this;exact this
     have q4:=q3 hi2;refine gaj ?_;refine zQ17 ?_;refine gab ?_;obtain ⟨r2,hr2⟩:=qaR hI;refine oS (sP [_] rfl pH (hE k zo _ _ r2 zo zo hr2) (fun e2 i4 op4 h4=>?_) (fun l er i4 op4 h4 e' he'=>?_)) rfl
     ·exact zT15
     ·rw[hr2,h4,qat] at hI;rw[hr1] at hr;cases hI;rw[qat] at hr;refine gae ?_;exact panP (he'.trans hj) (by cases hr;rfl) zhp
    ·rw[h3,qat] at hI;rw[hr1] at hr;cases hI;rw[qat] at hr;refine gae ?_;exact panP (he'.trans hj) (by cases hr;rfl) zhp
   ·have hl0:l=[]:=by
     have:=zf hd;simp at this;exact this
    rw[if_pos hl0,qao] at hI;refine gam ?_;refine zQ17 ?_;refine gab ?_;obtain ⟨r2,hr2⟩:=qaR hI;refine oS (sP [_] rfl pH (hE k zo _ _ r2 zo zo hr2) (fun e2 i4 op4 h4=>?_) (fun l er i4 op4 h4 e' he'=>?_)) rfl
    ·exact zT15
    ·rw[hr2,h4,qat] at hI;rw[hr1] at hr;cases hI;rw[qat] at hr;refine gae ?_;exact panP (he'.trans hj) (by cases hr;rfl) zhp
  ·have hc':qaK T i2 [[41]]=true:=by simpa using hc
   rw[if_pos hc'] at hI;refine gaa ?_;rw[hr1] at hr;cases hI;rw[qao] at hr;refine oS (sP [_,_] rfl pH (qeR sb T i2 (op+1) [41] hl zo zo zo) (fun u i3 op3 h3=>?_) (fun l er i3 op3 h3 e' he'=>?_)) rfl
   ·rw[h3,qao] at hr;refine gaj ?_;refine zQ41 ?_;exact retP (v:=l) hj (rC (rT (v:=v) rfl hacc.sub) rN) (by cases hr;rfl) rfl zhp
   ·rw[h3,qat] at hr;refine gak ?_;exact panP (he'.trans hj) (by cases hr;rfl) zhp
 ·exact zT27
theorem qjA (sb:Nat) (T:List Tok) (hT:TOK T) (f:Nat) (hE:∀ g,g<f->qkF B0 w0 sb T g) (i op:Nat) (r:Res Ex) (hi:i<=T.length) (ho:op<=100) (hr:qbw T f i op=some r) :
  LCalls (KC B0 w0) 236 [ptr sb 0] [srcH sb T i op] (qdp sb T encE r):=by
 cases f with
 |zero=>rw[qbw] at hr;cases hr
 |succ f=>exact qpy sb T hT f (hE f zo) i op r hi ho hr
theorem qqI (hG:GW B0 w0) (sb:Nat) (T:List Tok) (hT:TOK T) (f:Nat) (hE:∀ g,g<f->qkF B0 w0 sb T g) (i op:Nat) (r:Res Ex) (hi:i<=T.length) (ho:op<=100) (hr:qcs T f i op=some r) :
  LCalls (KC B0 w0) 247 [ptr sb 0] [srcH sb T i op] (qdp sb T encE r):=by
 have hl:=hT.len;have hml:(T.map qdg).length=T.length:=zLm _
 obtain ⟨f,rfl⟩:∃ g,f=g+1:=by
  cases f with
  |zero=>rw[qcs] at hr;cases hr
  |succ g=>exact ⟨g,rfl⟩
 rw[qcs] at hr;refine cI Tryz.func247 rfl (n:=63) rfl rfl rfl ?_;refine gah ?_;refine oS (sA fun b=>?_) rfl;refine gap ?_;refine zQ2 ?_;refine oS (sH [_,_] rfl zp1 (qce sb T i op [[40]] hl zo (by simp)) ?_) rfl;refine gaf ?_;refine oC rfl (fun hp=>?_) (fun hp=>?_)
 ·rw[if_pos hp] at hr;refine gag ?_;refine oS (sP [_,_] rfl pH (qck sb T i op [40] hl zo zo) (fun v i1 op1 h1=>?_) (fun l er i1 op1 h1 e' he'=>?_)) rfl
  ·rw[h1,qao] at hr;obtain ⟨rfl,rfl,ho1,hi1⟩:=qbb h1;refine gap ?_;obtain ⟨r1,hr1⟩:=qaR hr;refine oS (sP [_] rfl pH (hE f zo _ _ r1 zo zo hr1) (fun v i2 op2 h2=>?_) (fun l er i2 op2 h2 e' he'=>?_)) rfl
   ·rw[hr1,h2,qao] at hr;obtain ⟨g1,_,g3,rfl⟩:=(qcM T f).1 0 _ _ _ (hr1.trans (congrArg some h2));have g4:=g3 zo;refine oS (sA fun b2=>?_) rfl;refine gac ?_;refine oS (sP [_,_] rfl zp1 (qeR sb T i2 (op+1) [41] hl zo zo zo) (fun u i3 op3 h3=>?_) (fun l er i3 op3 h3 e' he'=>?_)) rfl
    ·rw[h3,qao] at hr;refine gac ?_;exact retP rfl (rC (rA rfl zm0 rfl zsr) rN) (by cases hr;rfl) rfl (zhD zhp)
    ·rw[h3,qat] at hr;refine gak ?_;exact panP (he'.trans rfl) (by cases hr;rfl) zhp
   ·rw[hr1,h2,qat] at hr;refine gak ?_;exact panP (he'.trans rfl) (by cases hr;rfl) zhp
  ·exact zT27
 ·have hp':qaK T i [[40]]=false:=hp;rw[if_neg (by rw[hp'];decide)] at hr;refine gab ?_;refine cC [(0,ptr sb 0),(2,ptr b 0),(38,bool (decide (qj9 T i=1)))] ?_ (fun j hj=>?_)
  ·refine zQ32 ?_;refine LQ.bcase 25 rfl (fun h=>?_) (fun h=>?_)
   ·have hlt:i<T.length:=by have:=zt h;omega
    refine gav ?_;refine qP (xR (el':=qdg T[i]) (cs:=[_,_,_]) rfl rfl zo (qbd _ _ _ hlt) rfl rfl) rfl ?_;refine gad ?_;exact ⟨⟨rfl,rfl,qas (by rw[qj9,List.getElem?_eq_getElem hlt]),trivial⟩,rfl,rfl⟩
   ·have hge:T.length<=i:=by have:=zf h;omega
    refine gad ?_;exact ⟨⟨rfl,rfl,qas (by rw[qj9,List.getElem?_eq_none hge];rfl),trivial⟩,rfl,rfl⟩
  ·skip
   refine oC rfl (fun hk=>?_) (fun hk=>?_)
   ·rw[if_pos (zt hk)] at hr;refine gag ?_;refine oS (sP [_] rfl pH (qhM hG sb T hT i op zo) (fun n i1 op1 h1=>?_) (fun l er i1 op1 h1 e' he'=>?_)) rfl
    ·rw[h1,qao] at hr;refine gad ?_;exact retP (v:=.mk nNum n [] []) hj (rC (rA (k:=4) rfl zm0 rfl (vA (bs:=[_,_,_,.list []]) ⟨vR _,vR _,vR _,vN,trivial⟩)) rN) (by cases hr;rfl) (by rw[qcx];rfl) (zhP zp1 zhn)
    ·rw[h1,qat] at hr;refine gak ?_;exact panP (he'.trans hj) (by cases hr;rfl) zhp
   ·rw[if_neg (zf hk)] at hr;refine gaa ?_;refine oS (sP [_,_] rfl pH (qaP sb T i op 2 hl zo) (fun s i1 op1 h1=>?_) (fun l er i1 op1 h1 e' he'=>?_)) rfl
    ·rw[h1,qao] at hr;obtain ⟨rfl,rfl,t,ht,_,_⟩:=qdJ h1;have:=qhS ht;refine gaa ?_;refine zQ2 ?_;refine oS (sH [_,_] rfl pH (qce sb T (i+1) op1 [[91]] hl zo (by simp)) ?_) rfl;refine gaf ?_;refine oC rfl (fun hx=>?_) (fun hx=>?_)
     ·rw[if_pos hx] at hr;obtain ⟨r1,hr1⟩:=qaR hr;refine gag ?_;refine oS (sP [_] rfl pH (qjA sb T hT f (fun g hg=>hE g zo) (i+1) op1 r1 zo zo hr1) (fun e2 i2 op2 h2=>?_) (fun l er i2 op2 h2 e' he'=>?_)) rfl
      ·rw[hr1,h2,qao] at hr;refine zQ2 ?_;refine gad ?_;exact retP (v:=.mk qcY 0 s [e2]) hj (rC (rA rfl zm0 rfl zsr) rN) (by cases hr;rfl) (by rw[qcx];rfl) (zhP zp1 zhn)
      ·exact zT26
     ·have hx':qaK T (i+1) [[91]]=false:=hx;rw[if_neg (by rw[hx'];decide)] at hr;refine gag ?_;refine zQ2 ?_;refine oS (sH [_,_] rfl pH (qce sb T (i+1) op1 [[40]] hl zo (by simp)) ?_) rfl;refine gaf ?_;refine oC rfl (fun hy=>?_) (fun hy=>?_)
      ·rw[if_pos hy] at hr;obtain ⟨r1,hr1⟩:=qaR hr;refine gag ?_;refine oS (sP [_] rfl pH (qlY sb T hT f (fun g hg=>hE g zo) (i+1) op1 r1 zo zo hr1) (fun e2 i2 op2 h2=>?_) (fun l er i2 op2 h2 e' he'=>?_)) rfl
       ·rw[hr1,h2,qao] at hr;refine gad ?_;exact retP (v:=.mk qbG 0 s e2) hj (rC (rA rfl zm0 rfl zsr) rN) (by cases hr;rfl) (by rw[qcx];rfl) (zhP zp1 zhn)
       ·exact zT26
      ·have hy':qaK T (i+1) [[40]]=false:=hy;rw[if_neg (by rw[hy'];decide)] at hr;refine gac ?_;exact retP (v:=.mk nVar 0 s []) hj (rC (rA (k:=4) rfl zm0 rfl (vA (bs:=[_,_,_,.list []]) ⟨vR _,vR _,vR _,vN,trivial⟩)) rN) (by cases hr;rfl) (by rw[qcx];rfl) (zhP zp1 zhn)
    ·rw[h1,qat] at hr;refine gak ?_;exact panP (he'.trans hj) (by cases hr;rfl) zhp
end
end Go.Proofs.YtdakelgkjdaijaaGreatDoor
