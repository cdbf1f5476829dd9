/- Texts joined: GlIntKey2, MchB, MchC, GlDefLoop, MchD, GlBytS, MchE, CmpKn, CmpTrn, CmpCln2, CmpSize, CmpA, CmpB. -/
import Derived.Test.YtdakelgkjdaijaaGreatDoorBRowTS2
import Derived.Test.YtdakelgkjdaijaaGreatDoorBRowTS5
import Derived.Test.YtdakelgkjdaijaaGreatDoorBRowTS8
import Derived.Test.YtdakelgkjdaijaaGreatDoorBRowTS9
import Derived.Test.YtdakelgkjdaijaaGreatDoorBRowTS10
import Derived.Test.YtdakelgkjdaijaaGreatDoorBRowTS11
set_option linter.unusedVariables false
set_option linter.unusedSimpArgs false
set_option maxRecDepth 100000
set_option maxHeartbeats 4000000
namespace Go.GL
open Go.RowKit
section
variable {C:Ctx} {e:Env} {H:Heap} {dst:Option Nat} {ty:TypeId} {pos:String} {aft:Array Edge} {g:Option (Nat×Bool)} {x y:Operand}
theorem Pure.lookupHit2 {t kt el:TypeId} {kd k:IntKind} (ht:C.P.underlying t=some (.map kt el)) (hkt:C.P.underlying kt=some (.int kd)) {b clock j:Nat} {es:Array MapEntry} {n:Int} {v:Value} (hm:e.ev x=.atom (.map (some b))) (hx:e.ev y=int k n)
  (hb:(b,LObj.obj (.map es clock))∈H) (hf:Instr.findNow (.int kd) (.int k n) es.toList 0=some (some (j,v))):Pure C ⟨dst,.lookup t x y true,ty,pos,aft,g⟩ e H (.tuple [.atom v,bool true]):=fun ρ w L h hH=>by
 obtain ⟨_,_,_,hx1,_⟩:=hH.objs _ hb;simp only at hx1;refine ⟨.tuple #[v,.bool true],?_,fun w' ha=>?_⟩
 ·simp only[Rep];refine ⟨[v,.bool true],rfl,?_⟩;simp only[RepL];exact ⟨_,_,rfl,qah,_,_,rfl,rfl,rfl⟩
 have hw:w'.heap[b]? = some (.map es clock):=(ha.1 _ hb).trans hx1;have h3:execOp ρ ⟨dst,.lookup t x y true,ty,pos,aft,g⟩=(do Pure.pure (.value (<-Instr.lookup t (ρ x) (ρ y) true))):=rfl;have hg:(getObj b).run C.P w'=.ok (.map es clock) w':=by simp only[getObj,Sem.run,hw]
 rw[h3,qag h hm,qag h hx]
 have hf2:(Instr.findKey kt (.int k n) es.toList).run C.P w'=.ok (some (j,v)) w':=by
  simp only[Instr.findKey,Sem.run_bind,qaa hkt,Result.andThen_ok,hf,Sem.run_pure]
 have hc:=qfa (P:=C.P) (n:=n) (k:=k) hkt;simp only[Instr.lookup,Sem.run_bind,qaa ht,Result.andThen_ok,hg,Sem.run_pure,hc,hf2];rfl
theorem Pure.lookupMiss2 {t kt el:TypeId} {kd k:IntKind} (ht:C.P.underlying t=some (.map kt el)) (hkt:C.P.underlying kt=some (.int kd)) {b clock:Nat} {es:Array MapEntry} {n:Int} {zv:Value} (hz:∀ w,(zeroValue el).run C.P w=.ok zv w) (hm:e.ev x=.atom (.map (some b))) (hx:e.ev y=int k n)
  (hb:(b,LObj.obj (.map es clock))∈H) (hf:Instr.findNow (.int kd) (.int k n) es.toList 0=some none):Pure C ⟨dst,.lookup t x y true,ty,pos,aft,g⟩ e H (.tuple [.atom zv,bool false]):=fun ρ w L h hH=>by
 obtain ⟨_,_,_,hx1,_⟩:=hH.objs _ hb;simp only at hx1;refine ⟨.tuple #[zv,.bool false],?_,fun w' ha=>?_⟩
 ·simp only[Rep];refine ⟨[zv,.bool false],rfl,?_⟩;simp only[RepL];exact ⟨_,_,rfl,qah,_,_,rfl,rfl,rfl⟩
 have hw:w'.heap[b]? = some (.map es clock):=(ha.1 _ hb).trans hx1;have h3:execOp ρ ⟨dst,.lookup t x y true,ty,pos,aft,g⟩=(do Pure.pure (.value (<-Instr.lookup t (ρ x) (ρ y) true))):=rfl;have hg:(getObj b).run C.P w'=.ok (.map es clock) w':=by simp only[getObj,Sem.run,hw]
 rw[h3,qag h hm,qag h hx]
 have hf2:(Instr.findKey kt (.int k n) es.toList).run C.P w'=.ok none w':=by
  simp only[Instr.findKey,Sem.run_bind,qaa hkt,Result.andThen_ok,hf,Sem.run_pure]
 have hc:=qfa (P:=C.P) (n:=n) (k:=k) hkt;simp only[Instr.lookup,Sem.run_bind,qaa ht,Result.andThen_ok,hg,Sem.run_pure,hc,hf2,hz];rfl
end
end Go.GL
namespace Go.Proofs.YtdakelgkjdaijaaGreatDoor.Mch
open Go.GL Go.RowKit Go.Stele
open Inp (u32 Same retS qek qdy qnf)
def memL (f:Nat->Nat):List LV:=(List.range 262144).map fun i=>u32 (f i)
theorem qg5 (f:Nat->Nat):(memL f).length=262144:=by
 unfold memL;rw[zLm,List.length_range]
theorem qg1 (f:Nat->Nat) {a:Nat} (h:a<262144):(memL f)[a]? = some (u32 (f a)):=by
 unfold memL;rw[List.getElem?_map,List.getElem?_range h];rfl
theorem qlV (l:List LV):setL l 0 []=l:=by cases l <;> rfl
theorem qgW:∀ (l:List LV) (a:Nat) (v:LV),setL l a [v]=l.set a v
 |[],a,v=>by cases a <;> rfl
 |x::xs,0,v=>by
  show v::setL xs 0 []=_;rw[qlV]
  rfl
 |x::xs,a+1,v=>by
  show x::setL xs a [v]=_;rw[qgW xs a v];rfl
theorem qlM (f:Nat->Nat) (a v:Nat):setL (memL f) a [u32 v]=memL (fun i=>if i=a then v else f i):=by
 rw[qgW];refine List.ext_getElem? fun i=>?_;rw[List.getElem?_set,qg5]
 by_cases h2:i<262144
 ·rw[qg1 (fun i=>if i=a then v else f i) h2,qg1 f h2]
  by_cases h:a=i
  ·subst h;simp[h2]
  ·have h3:¬ i=a:=fun e=>h e.symm;simp[h,h3]
 ·have n1:∀ f,(memL f)[i]? = none:=fun f=>List.getElem?_eq_none (by rw[qg5];omega);rw[n1 f,n1 (fun i=>if i=a then v else f i)]
  by_cases h:a=i
  ·subst h;simp[h2]
  ·simp[h]
theorem qm0:List.replicate 262144 (LV.atom (.int .u32 0))=memL (fun _=>0):=by
 unfold memL;rw[List.map_const',List.length_range];rfl
attribute [irreducible] memL
theorem quJ {c:Nat} {s s':MS} (h:exeM c s=.run s') (hc:qdh c=true):s'.data≠[]:=by
 unfold exeM at h;rw[if_pos hc] at h;unfold qnQ at h;split at h
 ·split at h
  ·exact zT39
  ·cases h
 ·unfold qes at h;split at h
  ·exact zT39
  ·cases h
def fnE (k:Int) (f:FuncId) (n:Nat):MapEntry:={ key:=.int .u32 k,val:=.func (.func f) #[] #[],born:=n }
def qr7:Array MapEntry:=#[fnE 43 151 0,fnE 45 152 1,fnE 42 153 2,fnE 47 154 3,fnE 37 156 4,fnE 94 157 5,fnE 60 158 6]
theorem qqz {c:Nat} (h:¬ (c=43∨c=45∨c=42∨c=47∨c=37∨c=94∨c=60)):Instr.findNow (.int .u32) (.int .u32 (c:Int)) qr7.toList 0=some none:=by
 have key:∀ k:Nat,c≠k->((c:Int) == (k:Int))=false:=fun k hk=>by
  rw[beq_eq_false_iff_ne];omega
 have k1:=key 43 zo;have k2:=key 45 zo;have k3:=key 42 zo;have k4:=key 47 zo;have k5:=key 37 zo;have k6:=key 94 zo;have k7:=key 60 zo;simp only[qr7,fnE,Instr.findNow,Instr.sameNow,if_true];simp only[Int.cast_ofNat_Int] at k1 k2 k3 k4 k5 k6 k7;simp only[k1,k2,k3,k4,k5,k6,k7]
def resM (o:Option Nat):LRes:=match o with
 |some v=>.ret (u32 v)
 |none=>.panic qgt
attribute [local irreducible] LOps qae qad LCalls Go.GL.Pure qax qaj qac LQ LAny qaE qal LS
section
variable {B0:Nat} {w0:World} {H:Heap} {a b:Nat}
theorem qgQ:LCalls (KC B0 w0) 77 [] [] (fun r H=>∃ om,r=.ret (.atom (.map (some om)))/\H=[(om,.obj (.map qr7 7))]):=by
 refine cI Tryz.func77 rfl (n:=3) rfl rfl rfl ?_;refine gai ?_;refine oS (S.makeMap fun om=>?_) rfl;refine zQ6 ?_;refine oS (S.insertK (kt:=56) (el:=202) (kd:=.u32) zk zk rfl rfl rfl pH rfl rfl ?_) rfl;refine oS (S.insertK (kt:=56) (el:=202) (kd:=.u32) zk zk rfl rfl rfl pH rfl rfl ?_) rfl;refine oS (S.insertK (kt:=56) (el:=202) (kd:=.u32) zk zk rfl rfl rfl pH rfl rfl ?_) rfl;refine gab ?_;exact rR rfl (zra rfl) zhr ⟨om,rfl,rfl⟩
theorem qvT (ha:a<4294967296) (hb:b<4294967296):LCalls (KC B0 w0) 151 [u32 a,u32 b] H (Same (u32 ((a+b) % 4294967296)) H):=by
 refine cI Tryz.func151 rfl (n:=8) rfl rfl rfl ?_;refine gao ?_;refine oP (Pure.addW rfl rfl) rfl ?_;refine gaf ?_;exact retS rfl (zra rfl) (qdy (by rw[qek];omega)) zhr
theorem qvW (ha:a<4294967296) (hb:b<4294967296):LCalls (KC B0 w0) 152 [u32 a,u32 b] H (Same (u32 ((a+4294967296-b) % 4294967296)) H):=by
 refine cI Tryz.func152 rfl (n:=8) rfl rfl rfl ?_;refine gao ?_;refine oP (Pure.subW rfl rfl) rfl ?_;refine gaf ?_;exact retS rfl (zra rfl) (qdy (by rw[qek];omega)) zhr
theorem quZ (ha:a<4294967296) (hb:b<4294967296):LCalls (KC B0 w0) 153 [u32 a,u32 b] H (Same (u32 (a * b % 4294967296)) H):=by
 refine cI Tryz.func153 rfl (n:=8) rfl rfl rfl ?_;refine gao ?_;refine oP (Pure.mulW rfl rfl) rfl ?_;refine gaf ?_;exact retS rfl (zra rfl) (qdy (by rw[qek,<-Int.natCast_mul];generalize a * b=q;omega)) zhr
theorem quE (ha:a<4294967296) (hb:b<4294967296):LCalls (KC B0 w0) 157 [u32 a,u32 b] H (Same (u32 (a ^^^ b)) H):=by
 refine cI Tryz.func157 rfl (n:=8) rfl rfl rfl ?_;refine gao ?_;refine oP (Pure.xorW rfl rfl) rfl ?_;refine gaf ?_;exact retS rfl (zra rfl) (qdy (qnf ha hb)) zhr
theorem qvu:LCalls (KC B0 w0) 158 [u32 a,u32 b] H (Same (u32 (if a<b then 1 else 0)) H):=by
 refine cI Tryz.func158 rfl (n:=8) rfl rfl rfl ?_;refine gaa ?_;refine oC rfl (fun hc=>?_) (fun hc=>?_)
 ·have h1:a<b:=by have:=zt hc;omega
  refine gar ?_;exact retS rfl (zra rfl) (by rw[if_pos h1];rfl) zhr
 ·have h1:¬ a<b:=by have:=zf hc;omega
  refine gaa ?_;exact retS rfl (zra rfl) (by rw[if_neg h1];rfl) zhr
theorem qvD (ha:a<4294967296):LCalls (KC B0 w0) 154 [u32 a,u32 b] H (fun r H'=>H'=H/\r=resM (if b=0 then none else some (a / b))):=by
 refine cI Tryz.func154 rfl (n:=11) rfl rfl rfl ?_;refine gaa ?_
 by_cases h0:b=0
 ·refine oS (S.check rfl (fun hb=>?_) (fun hb e' he'=>?_)) rfl
  ·simp[h0] at hb
  ·refine gak ?_;exact qac.panic (he'.trans rfl) zhr ⟨rfl,by rw[if_pos h0];rfl⟩
 ·refine oS (S.check rfl (fun hb=>?_) (fun hb e' he'=>?_)) rfl;rotate_left
  ·simp[h0] at hb
  ·refine gap ?_;refine oP (Pure.quoW rfl rfl zo) rfl ?_;refine zQ50 ?_;rw[if_neg h0];exact congrArg LRes.ret (qdy (by rw[qek,Int.tdiv_eq_ediv_of_nonneg zo,<-Int.natCast_ediv];have hq:a / b<4294967296:=Nat.lt_of_le_of_lt (Nat.div_le_self a b) ha;generalize a / b=q at hq ⊢;omega))
theorem quW (ha:a<4294967296):LCalls (KC B0 w0) 156 [u32 a,u32 b] H (fun r H'=>H'=H/\r=resM (if b=0 then none else some (a % b))):=by
 refine cI Tryz.func156 rfl (n:=11) rfl rfl rfl ?_;refine gaa ?_
 by_cases h0:b=0
 ·refine oS (S.check rfl (fun hb=>?_) (fun hb e' he'=>?_)) rfl
  ·simp[h0] at hb
  ·refine gak ?_;exact qac.panic (he'.trans rfl) zhr ⟨rfl,by rw[if_pos h0];rfl⟩
 ·refine oS (S.check rfl (fun hb=>?_) (fun hb e' he'=>?_)) rfl;rotate_left
  ·simp[h0] at hb
  ·refine gap ?_;refine oP (Pure.remW rfl rfl zo) rfl ?_;refine zQ50 ?_;rw[if_neg h0];exact congrArg LRes.ret (qdy (by rw[Int.tmod_eq_emod_of_nonneg zo,<-Int.natCast_emod]))
theorem qm2 {c:Nat} (hc:c=43∨c=45∨c=42∨c=47∨c=37∨c=94∨c=60) (ha:a<4294967296) (hb:b<4294967296):∃ (j:Nat) (f:FuncId),Instr.findNow (.int .u32) (.int .u32 (c:Int)) qr7.toList 0=some (some (j,.func (.func f) #[] #[]))/\TEnter Tryz.prog f /\
  ∀ H,LCalls (KC B0 w0) f [u32 a,u32 b] H (fun r H'=>H'=H/\r=resM (binM c a b)):=by
 rcases hc with rfl|rfl|rfl|rfl|rfl|rfl|rfl
 ·exact ⟨0,151,rfl,inferInstance,fun H=>LCalls.mono (qvT ha hb) fun r H' ⟨h1,h2⟩=>⟨h2,h1⟩⟩
 ·exact ⟨1,152,rfl,inferInstance,fun H=>LCalls.mono (qvW ha hb) fun r H' ⟨h1,h2⟩=>⟨h2,h1⟩⟩
 ·exact ⟨2,153,rfl,inferInstance,fun H=>LCalls.mono (quZ ha hb) fun r H' ⟨h1,h2⟩=>⟨h2,h1⟩⟩
 ·exact ⟨3,154,rfl,inferInstance,fun H=>qvD ha⟩
 ·exact ⟨4,156,rfl,inferInstance,fun H=>quW ha⟩
 ·exact ⟨5,157,rfl,inferInstance,fun H=>LCalls.mono (quE ha hb) fun r H' ⟨h1,h2⟩=>⟨h2,h1⟩⟩
 ·exact ⟨6,158,rfl,inferInstance,fun H=>LCalls.mono (qvu) fun r H' ⟨h1,h2⟩=>⟨h2,h1⟩⟩
end
end Go.Proofs.YtdakelgkjdaijaaGreatDoor.Mch
namespace Go.Proofs.YtdakelgkjdaijaaGreatDoor.Mch
open Go.GL Go.RowKit Go.Stele
open Inp (u32 Same retS qek qdy qkK qjG)
structure MK where
 mb:Nat
 mm:Nat
 bm:Nat
@[reducible] def memV (k:MK):Value:=.slice (some ⟨k.mm,0,none⟩) 262144 262144
@[reducible] def MK.mf (k:MK) (s:MS) (st:Nat) (stop:Bool) (vc:Value) (vo:LV):MF:=⟨k.mb,memV k,s.pc,vc,s.inp,vo,s.digit,st,stop,k.bm⟩
@[reducible] def MK.memH (k:MK) (f:Nat->Nat):Nat×LObj:=(k.mm,.cells 56 (memL f))
@[reducible] def MK.binH (k:MK):Nat×LObj:=(k.bm,.obj (.map qr7 7))
def StH (k:MK) (s:MS) (st:Nat) (stop:Bool) (H:Heap):Prop:=∃ vc HC vo HO HD,MRow 56 1 vc (us s.calls.reverse) HC/\Acc 1 vo (byts s.out) HO []/\DH (k.mf s st stop vc vo) s.data HD/\H=HD++(k.memH s.mem::k.binH::(HC++HO))
def qjZ (k:MK) (st:Nat) (R:MR) (r:LRes) (H:Heap):Prop:=match R with
 |.run s=>r=.ret (.tuple [])/\StH k s st false H
 |.stop e o=>∃ s,s.out=o/\if e=0 then r=.ret (.tuple [])/\StH k s st true H else e=12/\r=.panic qgt/\StH k s st false H
theorem qwv {k:MK} {st:Nat} {o:Wd} {s:MS} {H:Heap} (hs:s.out=o) (h:StH k s st false H):qjZ k st (.stop 12 o) (.panic qgt) H:=⟨s,hs,by rw[if_neg zDd];exact ⟨rfl,rfl,h⟩⟩
theorem dig_t {c:Nat} {k:Int} (h:(c:Int)=k) (hk:48<=k/\k<=57):true=qdh c:=by
 unfold qdh;rw[decide_eq_true (by omega:48<=c),decide_eq_true (by omega:c<=57)];rfl
theorem qwA {x m b:Nat×LObj} {A B C:Heap}:(x::(A++(m::b::(B++C)))).Perm (B++(x::(A++(m::b::C)))):=by
 have:=List.perm_append_comm_assoc (x::(A++[m,b])) B C;simpa using this
theorem qpA {x m b:Nat×LObj} {A B C:Heap}:(x::(A++(m::b::(B++C)))).Perm (C++(x::(A++(m::b::B)))):=by
 have:=zPc (l₁:=x::(A++(m::b::B))) (l₂:=C);simpa using this
section
variable {B0:Nat} {w0:World} {e:Env} {H:Heap} {dst:Option Nat} {ty:TypeId} {pos:String} {aft:Array Edge} {g:Option (Nat×Bool)} {K:LV->Heap->Prop} {X:List PanicEntry->Heap->Prop}
theorem S.push {f:MF} {data:List Nat} {v:Nat} {a b:Operand} {ats:Array TypeId} {HD F:Heap} (hx:[e.ev a,e.ev b]=[ptr f.mb 0,u32 v]) (hp:H.Perm (HD++F)) (hD:DH f data HD) (hf:data.length<=256)
  (hk:data.length<256->∀ HD',DH f (v::data) HD'->K (.tuple []) (HD'++F)) (hn:¬ data.length<256->∀ HD',DH f data HD'->X qgt (HD'++F)) :
  qad (KC B0 w0) ⟨dst,.call { callee:=.value (.func 195),args:=#[a,b],argTypes:=ats },ty,pos,aft,g⟩ e H K X:=by
 refine S.callH (H1:=HD) (F:=F) [a,b] hx hp (qq0 hD hf v) ?_ ?_
 ·intro r H' h;unfold qig at h;split at h
  ·rename_i hl
   obtain ⟨h1,h2⟩:=h;cases h1;exact hk hl H' h2
  ·obtain ⟨h1,_⟩:=h;cases h1
 ·intro ch H' h;unfold qig at h;split at h
  ·obtain ⟨h1,_⟩:=h;cases h1
  ·rename_i hl
   obtain ⟨h1,h2⟩:=h;cases h1;exact hn hl H' h2
theorem S.pop {f:MF} {data:List Nat} {a:Operand} {ats:Array TypeId} {HD F:Heap} (hx:[e.ev a]=[ptr f.mb 0]) (hp:H.Perm (HD++F)) (hD:DH f data HD) (hf:data.length<=256)
  (hk:∀ x r,data=x::r->∀ HD',DH f r HD'->K (u32 x) (HD'++F)) (hn:data=[]->∀ HD',DH f [] HD'->X qgt (HD'++F)) :
  qad (KC B0 w0) ⟨dst,.call { callee:=.value (.func 197),args:=#[a],argTypes:=ats },ty,pos,aft,g⟩ e H K X:=by
 refine S.callH (H1:=HD) (F:=F) [a] hx hp (qoo hD hf) ?_ ?_
 ·intro r H' h
  cases data with
  |nil=>
   obtain ⟨h1,_⟩:=h
   cases h1
  |cons x d=>
   obtain ⟨h1,h2⟩:=h;cases h1;exact hk x d rfl H' h2
 ·intro ch H' h
  cases data with
  |nil=>
   obtain ⟨h1,h2⟩:=h;cases h1
   exact hn rfl H' h2
  |cons x d=>
   obtain ⟨h1,_⟩:=h;cases h1
theorem S.address {f:MF} {data:List Nat} {a:Operand} {ats:Array TypeId} {HD F:Heap} (hx:[e.ev a]=[ptr f.mb 0]) (hp:H.Perm (HD++F)) (hD:DH f data HD) (hf:data.length<=256)
  (hk:∀ x r,data=x::r->x<262144->∀ HD',DH f r HD'->K (u32 x) (HD'++F)) (hn:(∀ x r,data=x::r->¬ x<262144)->∀ d HD',DH f d HD'->X qgt (HD'++F)) :
  qad (KC B0 w0) ⟨dst,.call { callee:=.value (.func 196),args:=#[a],argTypes:=ats },ty,pos,aft,g⟩ e H K X:=by
 refine S.callH (H1:=HD) (F:=F) [a] hx hp (qfG hD hf) ?_ ?_
 ·intro r H' h
  cases data with
  |nil=>
   obtain ⟨h1,_⟩:=h
   cases h1
  |cons x d=>
   unfold qif at h;simp only at h;split at h
   ·rename_i hl
    obtain ⟨h1,h2⟩:=h;cases h1;exact hk x d rfl hl H' h2
   ·obtain ⟨h1,_⟩:=h;cases h1
 ·intro ch H' h
  cases data with
  |nil=>
   obtain ⟨h1,h2⟩:=h;cases h1
   exact hn (fun x r hxr=>by cases hxr) _ H' h2
  |cons x d=>
   unfold qif at h;simp only at h;split at h
   ·obtain ⟨h1,_⟩:=h;cases h1
   ·rename_i hl
    obtain ⟨h1,h2⟩:=h;cases h1
    exact hn (fun y r hxr=>by
     injection hxr with e1 e2;rw[<-e1]
     exact hl) _ H' h2
end
attribute [local irreducible] LOps qae qad LCalls Go.GL.Pure qax qaj qac LQ LAny qaE qal LS
section
variable {B0:Nat} {w0:World}
theorem qsy (k:MK) {s:MS} {st c:Nat} (hok:MsOk s) (hcl:c<4294967296) (hdig:s.digit=true->s.data≠[]) (hout:s.out.length<=100000000000) {H:Heap} (h:StH k s st false H) :
  LCalls (KC B0 w0) 160 [ptr k.mb 0,u32 c] H (qjZ k st (exeM c s)):=by
 generalize hR:exeM c s=R;obtain ⟨vc,HC,vo,HO,HD,hC,hO,hD,rfl⟩:=h;have hfew:=hok.few;have hdeep:=hok.deep;have hl:(us s.data.reverse).length=s.data.length:=by rw[qfl,List.length_reverse]
 have hlc:(us s.calls.reverse).length=s.calls.length:=by rw[qfl,List.length_reverse]
 have mk:∀ (d:List Nat) (HD':Heap),DH (k.mf s st false vc vo) d HD'->StH k { s with data:=d } st false (HD'++(k.memH s.mem::k.binH::(HC++HO))):=fun d HD' h=>⟨vc,HC,vo,HO,HD',hC,hO,h,rfl⟩;have mkT:∀ (d:List Nat) (HD':Heap),DH (k.mf s st false vc vo) d HD'->qjZ k st (MR.trap s) (.panic qgt) (HD'++(k.memH s.mem::k.binH::(HC++HO))):=fun d HD' h=>qwv (s:={ s with data:=d }) rfl (mk d HD' h);have hDD:=hD;obtain ⟨vd,HD0,hm,rfl⟩:=hD;rw[List.cons_append];refine cI Tryz.func160 rfl (n:=219) rfl rfl rfl ?_;refine gaa ?_;refine cC [(0,ptr k.mb 0),(1,u32 c),(14,u32 c),(36,bool (qdh c))] ?_ (fun j hj=>?_)
 ·refine gai ?_;refine oC rfl (fun hc=>?_) (fun c0=>?_)
  ·exact zT6
  refine gai ?_;refine oC rfl (fun hc=>?_) (fun c1=>?_)
  ·exact zT6
  refine gai ?_;refine oC rfl (fun hc=>?_) (fun c2=>?_)
  ·exact zT6
  refine gai ?_;refine oC rfl (fun hc=>?_) (fun c3=>?_)
  ·exact zT6
  refine gai ?_;refine oC rfl (fun hc=>?_) (fun c4=>?_)
  ·exact zT6
  refine gai ?_;refine oC rfl (fun hc=>?_) (fun c5=>?_)
  ·exact zT6
  refine gai ?_;refine oC rfl (fun hc=>?_) (fun c6=>?_)
  ·exact zT6
  refine gai ?_;refine oC rfl (fun hc=>?_) (fun c7=>?_)
  ·exact zT6
  refine gai ?_;refine oC rfl (fun hc=>?_) (fun c8=>?_)
  ·exact zT6
  refine gai ?_
  exact ⟨⟨rfl,rfl,rfl,qas (by
   have d0:=zf c0;have d1:=zf c1;have d2:=zf c2;have d3:=zf c3;have d4:=zf c4;have d5:=zf c5;have d6:=zf c6;have d7:=zf c7;have d8:=zf c8;unfold qdh;rw[<-Bool.decide_and,decide_eq_decide]
   omega),trivial⟩,rfl,rfl⟩
 refine oC rfl (fun hc=>?_) (fun hnd=>?_)
 ·have hcd:48<=c/\c<=57:=by
   unfold qdh at hc;rw[zBa,zDe,zDe] at hc;exact hc
  have hR2:qnQ c s=R:=by
   rw[<-hR];unfold exeM;rw[if_pos hc]
  refine gaa ?_;refine oP (Pure.mlen rfl hm) rfl ?_;refine gac ?_;refine oC rfl (fun hdg=>?_) (fun hdg=>?_)
  ·obtain ⟨d,r,hdr⟩:∃ d r,s.data=d::r:=by
    cases hd:s.data with
    |nil=>exact absurd hd (hdig hdg)
    |cons d r=>exact ⟨d,r,rfl⟩
   have hRr:R=.run { s with data:=((d * 10+c-48) % 4294967296)::r }:=by
    rw[<-hR2];unfold qnQ;rw[if_pos hdg,hdr]
   subst hRr;have hln:s.data.length=r.length+1:=by rw[hdr];rfl
   have hrl:(us r.reverse).length=r.length:=by rw[qfl,List.length_reverse]
   have hus:us s.data.reverse=us r.reverse++us [d]:=by rw[hdr,List.reverse_cons,qgw]
   rw[hus] at hm;obtain ⟨b,cap,spare,h1,h2,hc1,hc2⟩:=MRow.addr hm (by simp[us]);have hel:(us r.reverse++us [d]).length=r.length+1:=by rw[zLa,hrl];rfl
   have hfl:(us r.reverse++us [d]).flatMap LV.cells=us r.reverse++us [d]:=by rw[<-qgw];exact qi5 _
   rw[hfl,zAs] at h2;rw[hel] at h1 hc1 hc2;subst h1 h2
   have hval:IntKind.u32.wrap (IntKind.u32.wrap (IntKind.u32.wrap ((d:Int) * 10)+(c:Int))-48)=(((d * 10+c-48) % 4294967296:Nat):Int):=by
    rw[qek,qek,qek];omega
   refine cD (m:=18) rfl [(k.mb,LObj.cells 164 ((k.mf s st false vc vo).cells (.slice (some ⟨b,0,none⟩) (r.length+1) cap)))] ?_;refine zQ10 ?_;refine aT 3 rfl rfl (pL (c:=.atom _) rfl zm0 rfl) ?_;refine aT 4 rfl rfl (pM (lv:=.atom _) rfl) ?_;refine zQ43 ?_;refine aT 8 rfl rfl (pL (c:=.atom _) rfl zm0 rfl) ?_;refine aT 9 rfl rfl (pM (lv:=.atom _) rfl) ?_;refine aT 10 rfl rfl (Pure.indexRowE (o:=r.length) rfl rfl zo zo zo) ?_;refine aT 13 rfl rfl (pM (lv:=.atom _) rfl) ?_;refine aL ?_ zhp;refine lO 11 (lH rfl rfl (pL (c:=u32 d) rfl zm1 (by rw[List.getElem?_append_right zo,hrl,Nat.sub_self];rfl)) ?_);refine lO 12 (lH rfl rfl (Pure.mulW rfl rfl) ?_);refine lO 14 (lH rfl rfl (Pure.addW rfl rfl) ?_);refine lO 15 (lH rfl rfl (Pure.subW rfl rfl) ?_);refine lO 16 (lH rfl rfl (Pure.indexRowE (o:=r.length) rfl rfl zo zo zo) ?_);refine zl1 (i:=17) zk ?_;refine lS (H1:=[_]) (F:=_::(k.memH s.mem::k.binH::(HC++HO))) rfl (.inl rfl) rfl zp1 zhp ?_
   refine (sS (vs:=[u32 ((d * 10+c-48) % 4294967296)]) (cs':=us r.reverse++(u32 ((d * 10+c-48) % 4294967296)::spare)) rfl pH (by show some [int .u32 _]=some [int .u32 _];rw[<-hval]) rfl (by rw[Nat.ble_eq,zLa,hrl,zLa];show r.length+1<=r.length+(1+spare.length);omega) rfl (by
    have:=qtV (us r.reverse) (us [d]++spare) 0 [u32 ((d * 10+c-48) % 4294967296)];rw[hrl,Nat.add_zero] at this;rw[this];show us r.reverse++(u32 _::setL spare 0 [])=_
    rw[qlV]) ?_)
   refine lD zk ?_;refine gab ?_
   have hst:StH k { s with data:=((d * 10+c-48) % 4294967296)::r } st false (((k.mb,.cells 164 ((k.mf s st false vc vo).cells (.slice (some ⟨b,0,none⟩) (r.length+1) cap)))::[(b,.cells 56 (us r.reverse++(u32 ((d * 10+c-48) % 4294967296)::spare)))])++(k.memH s.mem::k.binH::(HC++HO))):=
    mk _ _ ⟨_,_,by
     have:=qnH (el:=56) (b:=b) (m:=r.length+1) (cap:=cap) (l:=(((d * 10+c-48) % 4294967296)::r).reverse) (spare:=spare) (by simp) zo zo;rw[List.reverse_cons,qgw,zAs] at this;rw[List.reverse_cons,qgw]
     exact this,rfl⟩
   exact rO hj rN ⟨[],by rw[zLz];exact List.Perm.swap _ _ _⟩ ⟨rfl,hst⟩
  ·have hsub:IntKind.u32.wrap ((c:Int)-48)=((c-48:Nat):Int):=by
    rw[qek];omega
   have hRr:qes (c-48) s=R:=by
    rw[<-hR2];unfold qnQ;have hdg':s.digit=false:=hdg;rw[if_neg (by rw[hdg'];decide)]
   unfold qes at hRr;refine gag ?_;refine oP (Pure.subW rfl rfl) rfl ?_;refine oS (S.push (v:=c-48) (by show [_,int .u32 _]=[_,int .u32 _];rw[<-hsub];rfl) zpr hDD hfew (fun hlt HD' hD'=>?_) (fun hlt HD' hD' e' he'=>?_)) rfl
   ·rw[if_pos hlt] at hRr;subst hRr;refine gab ?_;exact rO hj rN zhr ⟨rfl,mk _ _ hD'⟩
   ·rw[if_neg hlt] at hRr;subst hRr;refine gae ?_;exact qac.panic (he'.trans hj) zhr (mkT _ _ hD')
 have hnd':¬ qdh c=true:=by rw[hnd];decide
 refine qae.seq ?_;refine cC [(0,ptr k.mb 0),(1,u32 c),(14,u32 c),(78,bool (decide (c=32∨c=10)))] ?_ (fun j2 hj2=>?_)
 ·refine gai ?_;refine oC rfl (fun hc=>?_) (fun c0=>?_)
  ·refine gaq ?_;exact ⟨⟨rfl,rfl,rfl,qas (hc.trans (decide_eq_true (by have:=zt hc;omega)).symm),trivial⟩,rfl,rfl⟩
  refine gai ?_;exact ⟨⟨rfl,rfl,rfl,qas (by have:=zf c0;rw[decide_eq_decide];omega),trivial⟩,rfl,rfl⟩
 have hjj:=hj2.trans hj;refine oC rfl (fun hc=>?_) (fun c0=>?_)
 ·have hcw:=zt hc
  have hRr:R=.run s:=by
   rw[<-hR];unfold exeM;rw[if_neg hnd',if_pos hcw]
  subst hRr;refine gab ?_;exact rO hjj rN zhr ⟨rfl,mk _ _ hDD⟩
 have hw0:=zf c0;refine gai ?_;refine oC rfl (fun hc=>?_) (fun c1=>?_)
 ·obtain rfl:c=64:=by have:=zt hc;omega
  have hR2:ldM s=R:=hR;refine cD (m:=10) rfl [] ?_;refine zQ9 ?_;refine aT 5 rfl rfl (pM (lv:=.atom _) rfl) ?_;refine aL ?_ zhn;refine zl2 (i:=4) (j:=6) zk ?_ ?_
  ·refine lH rfl rfl (pL (c:=.atom (memV k)) rfl zm0 rfl) ?_;refine zl1 (i:=6) zk ?_;refine lW rfl (.inl rfl) rfl (S.address rfl zpr hDD hfew (fun a r hdr ha HD' hD'=>?_) (fun hb d HD' hD' e' he'=>?_));rotate_left
   ·exact zT31
   have hRr:qes (s.mem a) { s with data:=r }=R:=by
    rw[<-hR2];unfold ldM;rw[hdr];simp only;rw[if_pos ha]
   unfold qes at hRr;simp only at hRr;have hrl:r.length<=256:=by rw[hdr,zLc] at hfew;omega
   have hD2':=hD';obtain ⟨vd',HD1,hm',rfl⟩:=hD2';refine lO 7 (lH rfl rfl (Pure.indexRowE (o:=a) rfl rfl zo zo zo) ?_);refine lO 8 (lH rfl rfl (pL (c:=u32 (s.mem a)) rfl (List.mem_append_right _ zm0) (qg1 _ ha)) ?_);refine lO 9 (lW rfl (.inl rfl) rfl (S.push (v:=s.mem a) rfl zpr hD' hrl (fun hlt HD2 hD2=>?_) (fun hlt HD2 hD2 e' he'=>?_)))
   ·rw[if_pos hlt] at hRr;subst hRr;refine lD zk ?_;refine gab ?_;exact rO hjj rN zhr ⟨rfl,mk _ _ hD2⟩
   ·rw[if_neg hlt] at hRr;subst hRr;refine gae ?_;exact qac.panic (he'.trans hjj) zhr (mkT _ _ hD2)
  ·refine lW rfl (.inl rfl) rfl (S.address rfl zpr hDD hfew (fun a r hdr ha HD' hD'=>?_) (fun hb d HD' hD' e' he'=>?_));rotate_left
   ·exact zT31
   have hRr:qes (s.mem a) { s with data:=r }=R:=by
    rw[<-hR2];unfold ldM;rw[hdr];simp only;rw[if_pos ha]
   unfold qes at hRr;simp only at hRr;have hrl:r.length<=256:=by rw[hdr,zLc] at hfew;omega
   have hD2':=hD';obtain ⟨vd',HD1,hm',rfl⟩:=hD2';refine lO 4 (lH rfl rfl (pL (c:=.atom (memV k)) rfl zm0 rfl) ?_);refine lO 7 (lH rfl rfl (Pure.indexRowE (o:=a) rfl rfl zo zo zo) ?_);refine lO 8 (lH rfl rfl (pL (c:=u32 (s.mem a)) rfl (List.mem_append_right _ zm0) (qg1 _ ha)) ?_);refine lO 9 (lW rfl (.inl rfl) rfl (S.push (v:=s.mem a) rfl zpr hD' hrl (fun hlt HD2 hD2=>?_) (fun hlt HD2 hD2 e' he'=>?_)))
   ·rw[if_pos hlt] at hRr;subst hRr;refine lD zk ?_;refine gab ?_;exact rO hjj rN zhr ⟨rfl,mk _ _ hD2⟩
   ·rw[if_neg hlt] at hRr;subst hRr;refine gae ?_;exact qac.panic (he'.trans hjj) zhr (mkT _ _ hD2)
 have n64:=zf c1;refine gai ?_;refine oC rfl (fun hc=>?_) (fun c2=>?_)
 ·obtain rfl:c=33:=by have:=zt hc;omega
  have hR2:stoM s=R:=hR;refine gag ?_;refine oS (S.address rfl zpr hDD hfew (fun a r hdr ha HD' hD'=>?_) (fun hb d HD' hD' e' he'=>?_)) rfl;rotate_left
  ·have hRt:R=.trap s:=by
    rw[<-hR2];unfold stoM
    cases hd:s.data with
    |nil=>rfl
    |cons x r=>
     cases r with
     |nil=>rfl
     |cons y r=>simp only;rw[if_neg (hb x _ hd)]
   subst hRt;refine gae ?_;exact qac.panic (he'.trans hjj) zhr (mkT _ _ hD')
  have hrl:r.length<=256:=by rw[hdr,zLc] at hfew;omega
  have hD3:=hD';obtain ⟨vd',HD1,hm',rfl⟩:=hD3;refine gaf ?_;refine cD (m:=9) rfl [] ?_;refine zQ10 ?_;refine aT 4 rfl rfl (pM (lv:=.atom _) rfl) ?_;refine aT 5 rfl rfl (pM (lv:=.atom _) rfl) ?_;refine aL ?_ zhn;refine zl2 (i:=3) (j:=6) zk ?_ ?_
  ·refine lH rfl rfl (pL (c:=.atom (memV k)) rfl zm0 rfl) ?_;refine zl1 (i:=6) zk ?_;refine lW rfl (.inl rfl) rfl (S.pop rfl zpr hD' hrl (fun v r2 hdr2 HD2 hD2=>?_) (fun hb HD2 hD2 e' he'=>?_));rotate_left
   ·have hRt:R=.trap s:=by
     rw[<-hR2];unfold stoM;rw[hdr,hb]
    subst hRt;refine gae ?_;exact qac.panic (he'.trans hjj) zhr (mkT _ _ hD2)
   have hRr:R=.run { s with data:=r2,mem:=fun i=>if i=a then v else s.mem i }:=by
    rw[<-hR2];unfold stoM;rw[hdr,hdr2];simp only;rw[if_pos ha]
   subst hRr;have hD4:=hD2;obtain ⟨vd2,HD3,hm2,rfl⟩:=hD4;refine lO 7 (lH rfl rfl (Pure.indexRowE (o:=a) rfl rfl zo zo zo) ?_);refine lO 8 (lW rfl (.inl rfl) rfl (sS (n:=1) (vs:=[u32 v]) (cs':=memL (fun i=>if i=a then v else s.mem i)) rfl (show Pick _ _ _ from List.perm_middle) rfl rfl (by rw[Nat.ble_eq,qg5];omega) rfl (qlM _ _ _) ?_));refine lD zk ?_;refine gab ?_;exact rO hjj rN ⟨[],by rw[zLz];exact List.perm_middle.symm⟩ ⟨rfl,vc,HC,vo,HO,_,hC,hO,hD2,rfl⟩
  ·refine lW rfl (.inl rfl) rfl (S.pop rfl zpr hD' hrl (fun v r2 hdr2 HD2 hD2=>?_) (fun hb HD2 hD2 e' he'=>?_));rotate_left
   ·have hRt:R=.trap s:=by
     rw[<-hR2];unfold stoM;rw[hdr,hb]
    subst hRt;refine gae ?_;exact qac.panic (he'.trans hjj) zhr (mkT _ _ hD2)
   have hRr:R=.run { s with data:=r2,mem:=fun i=>if i=a then v else s.mem i }:=by
    rw[<-hR2];unfold stoM;rw[hdr,hdr2];simp only;rw[if_pos ha]
   subst hRr;have hD4:=hD2;obtain ⟨vd2,HD3,hm2,rfl⟩:=hD4;refine lO 3 (lH rfl rfl (pL (c:=.atom (memV k)) rfl zm0 rfl) ?_);refine lO 7 (lH rfl rfl (Pure.indexRowE (o:=a) rfl rfl zo zo zo) ?_);refine lO 8 (lW rfl (.inl rfl) rfl (sS (n:=1) (vs:=[u32 v]) (cs':=memL (fun i=>if i=a then v else s.mem i)) rfl (show Pick _ _ _ from List.perm_middle) rfl rfl (by rw[Nat.ble_eq,qg5];omega) rfl (qlM _ _ _) ?_));refine lD zk ?_;refine gab ?_;exact rO hjj rN ⟨[],by rw[zLz];exact List.perm_middle.symm⟩ ⟨rfl,vc,HC,vo,HO,_,hC,hO,hD2,rfl⟩
 have n33:=zf c2;refine gai ?_;refine oC rfl (fun hc=>?_) (fun c3=>?_)
 ·obtain rfl:c=63:=by have:=zt hc;omega
  have hR2:jmpM s=R:=hR;refine gag ?_;refine oS (S.pop rfl zpr hDD hfew (fun t r hdr HD' hD'=>?_) (fun hb HD' hD' e' he'=>?_)) rfl;rotate_left
  ·have hRt:R=.trap s:=by
    rw[<-hR2];unfold jmpM;rw[hb]
   subst hRt;refine gae ?_;exact qac.panic (he'.trans hjj) zhr (mkT _ _ hD')
  have hrl:r.length<=256:=by rw[hdr,zLc] at hfew;omega
  refine gao ?_;refine oS (S.pop rfl zpr hD' hrl (fun v r2 hdr2 HD2 hD2=>?_) (fun hb HD2 hD2 e' he'=>?_)) rfl;rotate_left
  ·have hRt:R=.trap s:=by
    rw[<-hR2];unfold jmpM;rw[hdr,hb]
   subst hRt;refine gae ?_;exact qac.panic (he'.trans hjj) zhr (mkT _ _ hD2)
  have hRr:R=.run { s with data:=r2,pc:=if v=0 then t else s.pc }:=by
   rw[<-hR2];unfold jmpM;rw[hdr,hdr2]
  obtain ⟨vd2,HD3,hm2,rfl⟩:=hD2;refine gab ?_;refine oC rfl (fun hv=>?_) (fun hv=>?_)
  ·have hv0:v=0:=by have:=zt hv;omega
   rw[if_pos hv0] at hRr;subst hRr;refine gac ?_;exact rO hjj rN zhr ⟨rfl,vc,HC,vo,HO,_::HD3,hC,hO,⟨vd2,HD3,hm2,rfl⟩,rfl⟩
  ·have hv0:¬ v=0:=by have:=zf hv;omega
   rw[if_neg hv0] at hRr;subst hRr;refine gab ?_;exact rO hjj rN zhr ⟨rfl,mk _ _ ⟨vd2,HD3,hm2,rfl⟩⟩
 have n63:=zf c3;refine gai ?_;refine oC rfl (fun hc=>?_) (fun c4=>?_)
 ·obtain rfl:c=58:=by have:=zt hc;omega
  have hR2:qnA s=R:=hR;refine gag ?_;refine oS (S.pop rfl zpr hDD hfew (fun t r hdr HD' hD'=>?_) (fun hb HD' hD' e' he'=>?_)) rfl;rotate_left
  ·have hRt:R=.trap s:=by
    rw[<-hR2];unfold qnA;rw[hb]
   subst hRt;refine gae ?_;exact qac.panic (he'.trans hjj) zhr (mkT _ _ hD')
  have hD3:=hD';obtain ⟨vd2,HD3,hm2,rfl⟩:=hD3;refine gaa ?_;refine oP (Pure.mlen rfl hC) rfl ?_;refine gab ?_;refine oS (S.check rfl (fun hb=>?_) (fun hb e' he'=>?_)) rfl;rotate_left
  ·have hlt:¬ s.calls.length<64:=by have:=zf hb;omega
   have hRt:R=.trap s:=by
    rw[<-hR2];unfold qnA;rw[hdr];simp only;rw[if_neg hlt]
   subst hRt;refine gae ?_;exact qac.panic (he'.trans hjj) zhr (mkT _ _ hD')
  have hlt:s.calls.length<64:=by have:=zt hb;omega
  have hRr:R=.run { s with data:=r,calls:=s.pc::s.calls,pc:=t }:=by
   rw[<-hR2];unfold qnA;rw[hdr];simp only;rw[if_pos hlt]
  subst hRr;refine gab ?_;refine cD (m:=14) rfl [] ?_;refine zQ9 ?_;refine zQ43 ?_;refine aL ?_ zhn;refine zl2 (i:=4) (j:=8) zk ?_ ?_
  ·refine lH rfl rfl (pL (c:=.atom vc) rfl zm0 rfl) ?_;refine zl1 (i:=8) zk ?_;refine lH rfl rfl (pL (c:=u32 s.pc) rfl zm0 rfl) ?_;refine zl1 (i:=9) zk ?_;refine zQ36 ?_;exact zT1
  ·refine lH rfl rfl (pL (c:=u32 s.pc) rfl zm0 rfl) ?_;refine zl2 (i:=4) (j:=9) zk ?_ ?_
   ·refine lH rfl rfl (pL (c:=.atom vc) rfl zm0 rfl) ?_;refine zl1 (i:=9) zk ?_;refine zQ36 ?_;exact zT1
   ·refine zQ36 ?_;refine zl1 (i:=4) zk ?_;refine lH rfl rfl (pL (c:=.atom vc) rfl zm0 rfl) ?_;exact zT1
 have n58:=zf c4;refine gai ?_;refine oC rfl (fun hc=>?_) (fun c5=>?_)
 ·obtain rfl:c=59:=by have:=zt hc;omega
  have hR2:bakM s=R:=hR;refine gaa ?_;refine oP (Pure.mlen rfl hC) rfl ?_;refine gal ?_;refine oS (S.check rfl (fun hb=>?_) (fun hb e' he'=>?_)) rfl;rotate_left
  ·have hnil:s.calls=[]:=by
    have:=zf hb;exact List.length_eq_zero_iff.1 zo
   have hRt:R=.trap s:=by
    rw[<-hR2];unfold bakM;rw[hnil]
   subst hRt;refine gae ?_;exact qac.panic (he'.trans hjj) zhr (mkT _ _ hDD)
  obtain ⟨t,r,hdr⟩:∃ t r,s.calls=t::r:=by
   cases hd:s.calls with
   |nil=>
    have:=zt hb;rw[hlc,hd] at this
    simp at this
   |cons t r=>exact ⟨t,r,rfl⟩
  have hRr:R=.run { s with calls:=r,pc:=t }:=by
   rw[<-hR2];unfold bakM;rw[hdr]
  subst hRr;have hln:s.calls.length=r.length+1:=by rw[hdr];rfl
  have hrl:(us r.reverse).length=r.length:=by rw[qfl,List.length_reverse]
  have hus:us s.calls.reverse=us r.reverse++us [t]:=by rw[hdr,List.reverse_cons,qgw]
  have hC0:=hC;rw[hus] at hC0;obtain ⟨b,cap,spare,h1,h2,hc1,hc2⟩:=MRow.addr hC0 (by simp[us]);have hel:(us r.reverse++us [t]).length=r.length+1:=by rw[zLa,hrl];rfl
  have hfl:(us r.reverse++us [t]).flatMap LV.cells=us r.reverse++us [t]:=by rw[<-qgw];exact qi5 _
  rw[hfl,zAs] at h2;rw[hel] at h1 hc1 hc2;subst h1 h2;refine gac ?_;refine oP (Pure.indexRowE (o:=r.length) rfl rfl zo zo zo) rfl ?_;refine oP (pL (c:=u32 t) rfl (List.Mem.tail _ (List.mem_append_right _ zm2)) (by rw[List.getElem?_append_right zo,hrl,Nat.sub_self];rfl)) rfl ?_;refine gac ?_;refine oP (Pure.rowSlice (n:=r.length) rfl (by exact qak zo) zo) rfl ?_;refine gad ?_;exact rO hjj rN zhr ⟨rfl,_,_,vo,HO,_::HD0,qnH (l:=r.reverse) (spare:=us [t]++spare) (by rw[List.length_reverse]) zo (by rw[zLa,qfl];simp only[List.length_singleton];omega),hO,⟨vd,HD0,hm,rfl⟩,rfl⟩
 have n59:=zf c5;refine gai ?_;refine oC rfl (fun hc=>?_) (fun c6=>?_)
 ·obtain rfl:c=44:=by have:=zt hc;omega
  have hR2:rdM s=R:=hR;unfold rdM at hR2;refine gac ?_
  cases hi:s.inp with
  |nil=>
   rw[hi] at hR2;unfold qes at hR2
   have e0:(us (k.mf s st false vc vo).inp).length=0:=by
    show (us s.inp).length=0;rw[hi];rfl
   refine oC rfl (fun hc=>?_) (fun _=>?_)
   ·have:=zt hc;omega
   refine gaa ?_;refine oS (S.push (v:=4294967295) rfl zpr hDD hfew (fun hlt HD' hD'=>?_) (fun hlt HD' hD' e' he'=>?_)) rfl
   ·rw[if_pos hlt] at hR2;subst hR2;refine gab ?_;exact rO hjj rN zhr ⟨rfl,mk _ _ hD'⟩
   ·rw[if_neg hlt] at hR2;subst hR2;refine gae ?_
    exact qac.panic (he'.trans hjj) zhr (mkT _ _ hD')
  |cons v r=>
   rw[hi] at hR2;unfold qes at hR2;simp only at hR2
   have hli2:(us (k.mf s st false vc vo).inp).length=r.length+1:=by
    show (us s.inp).length=_;rw[hi];simp[us]
   refine oC rfl (fun _=>?_) (fun hc=>?_);rotate_left
   ·have:=zf hc;omega
   refine gaa ?_;refine oP (xR (el':=u32 v) (cs:=[u32 v]) rfl rfl zDd (by show (us s.inp)[0]? = _;rw[hi];rfl) rfl rfl) rfl ?_;refine gac ?_;refine oP (Pure.lsliceE (ms:=us r) rfl ⟨_,rfl⟩ rfl zo zo zo (qrM _) (by show List.drop _ (List.take ((us s.inp).length:Int).toNat (us s.inp))=us r;rw[hi];simp[us,List.take_of_length_le])) rfl ?_;refine gac ?_;have hD5:DH (k.mf { s with inp:=r } st false vc vo) s.data ((k.mb,.cells 164 ((k.mf { s with inp:=r } st false vc vo).cells vd))::HD0):=⟨vd,HD0,hm,rfl⟩;have mk5:∀ (d:List Nat) (HD':Heap),DH (k.mf { s with inp:=r } st false vc vo) d HD'->StH k { s with inp:=r,data:=d } st false (HD'++(k.memH s.mem::k.binH::(HC++HO))):=fun d HD' h=>⟨vc,HC,vo,HO,HD',hC,hO,h,rfl⟩;refine oS (S.push (v:=v) rfl zpr hD5 hfew (fun hlt HD' hD'=>?_) (fun hlt HD' hD' e' he'=>?_)) rfl
   ·rw[if_pos hlt] at hR2;subst hR2;refine gab ?_;exact rO hjj rN zhr ⟨rfl,mk5 _ _ hD'⟩
   ·rw[if_neg hlt] at hR2;subst hR2;refine gae ?_;exact qac.panic (he'.trans hjj) zhr (qwv (s:={ s with inp:=r,data:=s.data }) rfl (mk5 _ _ hD'))
 have n44:=zf c6;refine gai ?_;refine oC rfl (fun hc=>?_) (fun c7=>?_)
 ·obtain rfl:c=46:=by have:=zt hc;omega
  have hR2:wrM s=R:=hR;refine cD (m:=13) rfl [] ?_;refine zQ9 ?_;refine aT 5 rfl rfl (pM (lv:=.atom _) rfl) ?_;refine aL ?_ zhn;refine zl2 (i:=4) (j:=6) zk ?_ ?_
  ·refine lH rfl rfl (pL (c:=vo) rfl zm0 rfl) ?_;refine zl1 (i:=6) zk ?_;refine lW rfl (.inl rfl) rfl (S.pop rfl zpr hDD hfew (fun v r hdr HD' hD'=>?_) (fun hb HD' hD' e' he'=>?_));rotate_left
   ·have hRt:R=.trap s:=by
     rw[<-hR2];unfold wrM;rw[hb]
    subst hRt;refine gae ?_;exact qac.panic (he'.trans hjj) zhr (mkT _ _ hD')
   have hRr:R=.run { s with data:=r,out:=s.out++[UInt8.ofNat v] }:=by
    rw[<-hR2];unfold wrM;rw[hdr]
   subst hRr;obtain ⟨vd2,HD3,hm2,rfl⟩:=hD'
   have e1:byts s.out++[int .u8 (IntKind.u8.wrap (v:Int))]=byts (s.out++[UInt8.ofNat v]):=by
    rw[qlH,qkK];rfl
   have hroom2:((byts s.out).length+[int .u8 (IntKind.u8.wrap (v:Int))].length) * 1<=140737488355328:=by
    simp only[qgx,zLc,zLn];omega
   exact zT16
  ·refine lW rfl (.inl rfl) rfl (S.pop rfl zpr hDD hfew (fun v r hdr HD' hD'=>?_) (fun hb HD' hD' e' he'=>?_));rotate_left
   ·have hRt:R=.trap s:=by
     rw[<-hR2];unfold wrM;rw[hb]
    subst hRt;refine gae ?_;exact qac.panic (he'.trans hjj) zhr (mkT _ _ hD')
   have hRr:R=.run { s with data:=r,out:=s.out++[UInt8.ofNat v] }:=by
    rw[<-hR2];unfold wrM;rw[hdr]
   subst hRr;obtain ⟨vd2,HD3,hm2,rfl⟩:=hD'
   have e1:byts s.out++[int .u8 (IntKind.u8.wrap (v:Int))]=byts (s.out++[UInt8.ofNat v]):=by
    rw[qlH,qkK];rfl
   have hroom2:((byts s.out).length+[int .u8 (IntKind.u8.wrap (v:Int))].length) * 1<=140737488355328:=by
    simp only[qgx,zLc,zLn];omega
   refine zl2 (i:=4) (j:=7) zk ?_ ?_
   ·refine lH rfl rfl (pL (c:=vo) rfl zm0 rfl) ?_;exact zT16
   ·refine lH rfl rfl (Pure.cvt rfl) ?_;refine zl2 (i:=4) (j:=8) zk ?_ ?_
    ·refine lH rfl rfl (pL (c:=vo) rfl zm0 rfl) ?_;refine zQ25 ?_;refine lW rfl (.inl rfl) rfl (sG (A:=_::(HD3++(k.memH s.mem::k.binH::HC))) qpA rfl hO rfl (fun v hv=>by rw[List.mem_singleton.1 hv];rfl) rfl hroom2 fun v' H' hacc'=>?_);rw[e1] at hacc';refine zQ7 ?_;exact rO hjj rN ⟨[],by rw[zLz];exact zPc.trans qpA.symm⟩ ⟨rfl,vc,HC,v',H',_::HD3,hC,hacc',⟨vd2,HD3,hm2,rfl⟩,rfl⟩
    ·refine lW rfl (.inl rfl) rfl (sL (es:=[int .u8 (IntKind.u8.wrap (v:Int))]) [_] rfl (eC rfl rfl eN) rfl rfl rfl ?_);refine zl1 (i:=4) zk ?_;refine lH rfl rfl (pL (c:=vo) rfl zm0 rfl) ?_;refine zl1 (i:=9) zk ?_;refine lW rfl (.inl rfl) rfl (sG (A:=_::(HD3++(k.memH s.mem::k.binH::HC))) qpA rfl hO rfl (fun v hv=>by rw[List.mem_singleton.1 hv];rfl) rfl hroom2 fun v' H' hacc'=>?_);rw[e1] at hacc';refine zQ7 ?_;exact rO hjj rN ⟨[],by rw[zLz];exact zPc.trans qpA.symm⟩ ⟨rfl,vc,HC,v',H',_::HD3,hC,hacc',⟨vd2,HD3,hm2,rfl⟩,rfl⟩
 have n46:=zf c7;refine gai ?_;refine oC rfl (fun hc=>?_) (fun c8=>?_)
 ·obtain rfl:c=36:=by have:=zt hc;omega
  have hRr:R=.stop 0 s.out:=hR.symm;subst hRr;refine gac ?_;exact rO hjj rN zhr ⟨s,rfl,by rw[if_pos rfl];exact ⟨rfl,vc,HC,vo,HO,_::HD0,hC,hO,⟨vd,HD0,hm,rfl⟩,rfl⟩⟩
 have n36:=zf c8
 have hsign:∀ r,(if c=43∨c=45∨c=42∨c=47∨c=37∨c=94∨c=60 then opM c s else MR.trap s)=r->R=r:=fun r hr=>by
  rw[<-hR,<-hr];unfold exeM;rw[if_neg hnd',if_neg hw0,if_neg zo,if_neg zo,if_neg zo,if_neg zo,if_neg zo,if_neg zo,if_neg zo,if_neg zo]
 by_cases hop:c=43∨c=45∨c=42∨c=47∨c=37∨c=94∨c=60
 rotate_left
 ·have hRt:=hsign _ (if_neg hop);subst hRt;refine gaa ?_;refine oP (Pure.lookupMiss2 (zv:=.nilFunc) (kt:=56) (el:=202) (kd:=.u32) zk zk (fun w=>(Go.zero_of_info (P:=Tryz.prog) (n:=1) zk).1 w) rfl rfl (List.Mem.tail _ (List.mem_append_right _ zm1)) (qqz hop)) rfl ?_;refine gau ?_;refine oS (S.check rfl (fun hb=>?_) (fun hb e' he'=>?_)) rfl
  ·cases hb
  ·refine gae ?_;exact qac.panic (he'.trans hjj) zhr (mkT _ _ hDD)
 have hR2:=hsign _ (if_pos hop)
 have hval:∀ (a b:Nat) (r:List Nat),s.data=b::a::r->a<4294967296/\b<4294967296:=fun a b r hd=>by
  have h1:=hok.data;rw[hd] at h1;exact ⟨h1 a (zMo _ zMs),h1 b zMs⟩
 obtain ⟨jj,f,hf1,hf2,_⟩:=qm2 (B0:=B0) (w0:=w0) hop (a:=0) (b:=0) zDd zDd;refine gaa ?_;refine oP (Pure.lookupHit2 (kt:=56) (el:=202) (kd:=.u32) zk zk rfl rfl (List.Mem.tail _ (List.mem_append_right _ zm1)) hf1) rfl ?_;refine gau ?_;refine oS (S.check rfl (fun hb=>?_) (fun hb e' he'=>?_)) rfl;rotate_left
 ·cases hb
 refine gap ?_;refine oS (S.pop rfl zpr hDD hfew (fun b r hdr HD' hD'=>?_) (fun hb HD' hD' e' he'=>?_)) rfl;rotate_left
 ·have hRt:R=.trap s:=by
   rw[hR2];unfold opM;rw[hb]
  subst hRt;refine gae ?_;exact qac.panic (he'.trans hjj) zhr (mkT _ _ hD')
 have hrl:r.length<=256:=by rw[hdr,zLc] at hfew;omega
 refine gao ?_;refine oS (S.pop rfl zpr hD' hrl (fun a r2 hdr2 HD2 hD2=>?_) (fun hb HD2 hD2 e' he'=>?_)) rfl;rotate_left
 ·have hRt:R=.trap s:=by
   rw[hR2];unfold opM;rw[hdr,hb]
  subst hRt;refine gae ?_;exact qac.panic (he'.trans hjj) zhr (mkT _ _ hD2)
 have hrl2:r2.length<=256:=by rw[hdr2,zLc] at hrl;omega
 obtain ⟨ha,hb4⟩:=hval a b r2 (by rw[hdr,hdr2]);obtain ⟨jj2,f2,hf3,hf4,hspec⟩:=qm2 (B0:=B0) (w0:=w0) hop ha hb4
 obtain rfl:f=f2:=by
  rw[hf1] at hf3;injection hf3 with h1;injection h1 with h1;injection h1 with h1 h2;injection h2 with h2;injection h2
 have hR3:(match binM c a b with
   |some v=>qes v { s with data:=r2 }
   |none=>MR.trap s)=R:=by
  rw[hR2];unfold opM;rw[hdr,hdr2];rfl
 refine gao ?_;refine oS (S.callV (f:=f) (first:=#[]) (caps:=#[]) (H1:=HD2++(k.memH s.mem::k.binH::(HC++HO))) (F:=[]) [_,_] rfl rfl (by rw[zLz]) (hspec _) ?_ ?_) rfl
 ·rintro v H' ⟨rfl,h⟩
  cases hbm:binM c a b with
  |none=>
   rw[hbm] at h
   cases h
  |some w=>
   rw[hbm] at h hR3;cases h;simp only at hR3;unfold qes at hR3;simp only at hR3;rw[zLz];refine oS (S.push (v:=w) rfl zpr hD2 hrl2 (fun hlt HD3 hD3=>?_) (fun hlt HD3 hD3 e' he'=>?_)) rfl
   ·rw[if_pos hlt] at hR3;subst hR3;refine gab ?_;exact rO hjj rN zhr ⟨rfl,mk _ _ hD3⟩
   ·rw[if_neg hlt] at hR3;subst hR3;refine gae ?_;exact qac.panic (he'.trans hjj) zhr (mkT _ _ hD3)
 ·rintro ch H' ⟨rfl,h⟩ e' he'
  cases hbm:binM c a b with
  |some w=>
   rw[hbm] at h
   cases h
  |none=>
   rw[hbm] at h hR3;cases h;simp only at hR3;subst hR3;rw[zLz];refine gae ?_;exact qac.panic (he'.trans hjj) zhr (mkT _ _ hD2)
end
end Go.Proofs.YtdakelgkjdaijaaGreatDoor.Mch
namespace Go.GL
open Go.RowKit
section
variable {C:Ctx} {n:Nat} {Q:Post} {e:Env} {H:Heap}
theorem qaG.weak {c:Code} {H':Heap} (s:HSub H' H) (h:qaG C n c Q e H'):qaG C n c Q e H:=fun a w L hE hH=>
 Go.wp_mono (h a w L hE (hH.weak s)) fun _ _ _ ⟨e',H2,L',h1,h2,h3,h4⟩=>⟨e',H2,L',h1.wide s.keys,h2,h3,h4⟩
theorem qaG.conseq {c:Code} {Q':Post} (h:qaG C n c Q e H) (hq:∀ x e H,Q x e H->Q' x e H):qaG C n c Q' e H:=fun a w L hE hH=>
 Go.wp_mono (h a w L hE hH) fun _ _ _ ⟨e',H2,L',h1,h2,h3,h4⟩=>⟨e',H2,L',h1,h2,h3,hq _ _ _ h4⟩
theorem qaG.loop {c:Code} (I:Nat->Env->Heap->Prop) (k:Nat) (h0:I k e H)
  (round:∀ k e H,I k e H->qaG C n c (qax (fun e' H'=>∃ m,m<k/\I m e' H') Q) e H):qaG C n (.loop c) Q e H:=fun a w L hE hH=>by
 refine qjv (I:=fun k a' w'=>∃ e' H' L',Fr (keys H) w L w' L' H'/\RelH C w' L' H'/\RelE n a' e' w' L'/\I k e' H') (n:=k) ?_ ⟨e,H,L,Fr.refl _ _ _,hH,hE,h0⟩;rintro k a1 w1 ⟨e1,H1,L1,h1,h2,h3,h4⟩;refine Go.wp_mono (round k e1 H1 h4 a1 w1 L1 h3 h2) fun ex a' w' hq=>?_;obtain ⟨e',H',L',g1,g2,g3,g4⟩:=hq
 cases ex with
 |normal=>
  obtain ⟨m,hm,g4⟩:=g4
  exact ⟨m,hm,e',H',L',h1.trans g1,g2,g3,g4⟩
 |exit id=>exact ⟨e',H',L',h1.trans g1,g2,g3,g4⟩
 |goto id=>exact ⟨e',H',L',h1.trans g1,g2,g3,g4⟩
 |ret=>exact ⟨e',H',L',h1.trans g1,g2,g3,g4⟩
 |panic ch=>exact ⟨e',H',L',h1.trans g1,g2,g3,g4⟩
 |outgrown=>exact ⟨e',H',L',h1.trans g1,g2,g3,g4⟩
theorem qaG.loopI {c:Code} (I:Nat->List (Nat×LV)->Heap->Prop) (h0:∃ k l H0,I k l H0/\qcv e l/\HSub H0 H)
  (round:∀ k l H,I k l H->∀ j:Env,j.ds=e.ds->qaG C n c (qax (qdF I k e.ds) Q) (Env.slots j l) H):qaG C n (.loop c) Q e H:=by
 obtain ⟨k,l,H0,h0,h1,h2⟩:=h0;refine qaG.weak h2 (qaG.loop (fun k e' H'=>∃ l H0,I k l H0/\qcv e' l/\HSub H0 H'/\e'.ds=e.ds) k ⟨l,H0,h0,h1,zhR _,rfl⟩ ?_);rintro k e' H' ⟨l,H0,g0,g1,g2,g3⟩;have:=round k l H0 g0 e' g3;rw[Env.slots_self g1.mem] at this;refine qaG.weak g2 (qaG.conseq this ?_);rintro ex e2 H2 hq
 cases ex with
 |normal=>
  obtain ⟨m,l',H3,r1,r2,r3,r4,r5⟩:=hq
  exact ⟨m,r1,l',H3,r2,r3,r4,r5⟩
 |exit id=>exact hq
 |goto id=>exact hq
 |ret=>exact hq
 |panic ch=>exact hq
 |outgrown=>exact hq
end
end Go.GL
namespace Go.Proofs.YtdakelgkjdaijaaGreatDoor.Mch
open Go.GL Go.RowKit Go.Stele
open Inp (u32 Same retS qek qdy)
theorem qrv (w:World):(zeroValue 217).run Tryz.prog w=.ok (.agg ([]:List Value).toArray) w:=
 (Go.zero_of_info (P:=Tryz.prog) (n:=0) zk).1 w
theorem qu6 {c:Nat} {s s':MS} (h:exeM c s=.run s'):s'.out.length<=s.out.length+1:=by
 have push:∀ (v:Nat) (t:MS),qes v t=.run s'->t.out=s.out->s'.out.length<=s.out.length+1:=fun v t h ht=>by
  unfold qes at h;split at h
  ·injection h with h;subst h;show t.out.length<=_;rw[ht];omega
  ·cases h
 unfold exeM at h;split at h
 ·unfold qnQ at h;split at h
  ·split at h
   ·exact zT39
   ·cases h
  ·exact push _ _ h rfl
 split at h
 ·injection h with h;subst h;omega
 split at h
 ·unfold ldM at h;split at h
  ·split at h
   ·exact push _ _ h rfl
   ·cases h
  ·cases h
 split at h
 ·unfold stoM at h;split at h
  ·split at h
   ·exact zT39
   ·cases h
  ·cases h
 split at h
 ·unfold jmpM at h;split at h
  ·exact zT39
  ·cases h
 split at h
 ·unfold qnA at h;split at h
  ·split at h
   ·exact zT39
   ·cases h
  ·cases h
 split at h
 ·unfold bakM at h;split at h
  ·exact zT39
  ·cases h
 split at h
 ·unfold rdM at h;split at h
  ·exact push _ _ h rfl
  ·exact push _ _ h rfl
 split at h
 ·unfold wrM at h;split at h
  ·exact zT39
  ·cases h
 split at h
 ·cases h
 split at h
 ·unfold opM at h;split at h
  ·split at h
   ·exact push _ _ h rfl
   ·cases h
  ·cases h
 ·cases h
theorem QNo.exit {Q:Post} {e:Env} {H:Heap} {id:Nat} (h:Q (.exit id) e H):QNo Q (.exit id) e H:=h
attribute [local irreducible] LOps qae qad LCalls Go.GL.Pure qax qaj qac LQ LAny qaE qal LS qbk qaG qdx qa1
section
variable {B0:Nat} {w0:World}
theorem qkR (b:Nat) (d:LV):qa1 (KC B0 w0) 159 [ptr b 0] .returning [(b,.cells 29 [d])]
  (fun u H=>u=.returning/\H=[(b,.cells 29 [d])]):=by
 refine qa1.intro Tryz.func159 rfl (n:=14) rfl rfl rfl ?_;refine zQ18 ?_;refine gag ?_;refine oP (Chk.Pure.assertNil qrv rfl) rfl ?_;refine gad ?_;refine oS (sA fun b5=>?_) rfl;refine gac ?_;refine oC rfl (fun hc=>?_) (fun hc=>?_)
 ·cases hc
 refine gac ?_;refine oC rfl (fun hc=>?_) (fun hc=>?_)
 ·cases hc
 ·refine gaq ?_;exact ⟨rfl,_,zhD zhr,rfl,rfl⟩
theorem qle (b:Nat) (d:LV):qa1 (KC B0 w0) 159 [ptr b 0] (.panicking qgt) [(b,.cells 29 [d])]
  (fun u H=>settle u=.returning/\H=[(b,.cells 29 [int .i64 12])]):=by
 refine qa1.intro Tryz.func159 rfl (n:=14) rfl rfl rfl ?_;refine zQ18 ?_;refine gag ?_;refine oP (Pure.assertOk (vs:=[]) rfl) rfl ?_;refine gad ?_;refine oS (sA fun b5=>?_) rfl;refine gac ?_;refine oC rfl (fun hc=>?_) (fun hc=>?_)
 ·refine gac ?_;exact ⟨rfl,_,zhP pH zhn,rfl,rfl⟩
 ·cases hc
def EndH (k:MK) (st:Nat) (o:Wd) (H:Heap):Prop:=∃ s stop,s.out=o/\StH k s st stop H
theorem qec (k:MK) {s:MS} {st limit:Nat} (hok:MsOk s) (hdig:s.digit=true->s.data≠[]) (hst:st<=limit) (hlim:limit<=100000000) (hout:s.out.length<=st) {H:Heap} (h:StH k s st false H) :
  LCalls (KC B0 w0) 78 [ptr k.mb 0,int .i64 (limit:Nat)] H (fun r H'=>EndH k (st+(runM (limit-st) s).2.2) (runM (limit-st) s).2.1 H'/\r=.ret (int .i64 ((runM (limit-st) s).1:Nat))):=by
 generalize hR:runM (limit-st) s=R;refine LCalls.introD Tryz.func78 rfl (n:=59) rfl rfl rfl ?_;refine zQ35 ?_;refine gah ?_;refine oS (sA fun b4=>?_) rfl;refine gaf ?_;refine zQ24 ?_;refine qaG.seq ?_;refine qaG.block ?_
 refine qaG.loopI (fun kk ls H'=>∃ (i:Nat) (s1:MS) (H1:Heap),i<=limit/\st<=i/\kk=limit-i/\ls=[(0,ptr k.mb 0),(1,int .i64 (limit:Nat)),(4,ptr b4 0)]/\H'=(b4,.cells 29 [int .i64 0])::H1/\StH k s1 i false H1/\MsOk s1/\(s1.digit=true->s1.data≠[])/\s1.out.length<=i/\(runM (limit-i) s1).1=R.1/\(runM (limit-i) s1).2.1=R.2.1/\i+(runM (limit-i) s1).2.2=st+R.2.2)
  ⟨_,_,_,⟨st,s,H,hst,zNr _,rfl,rfl,rfl,h,hok,hdig,hout,by rw[hR],by rw[hR],by rw[hR]⟩,⟨rfl,rfl,rfl,trivial⟩,zhR _⟩ ?_
 rintro kk ls H' ⟨i,s1,H1,hi,hsi,rfl,rfl,rfl,hS,hok1,hdig1,hout1,e1,e2,e3⟩ j hj;obtain ⟨vc,HC,vo,HO,HD,hC,hO,hD,rfl⟩:=hS;have hDD:=hD;obtain ⟨vd,HD0,hm,rfl⟩:=hD;rw[List.cons_append];have hmst:(k.mf s1 i false vc vo).st=i:=rfl;have hmpc:(k.mf s1 i false vc vo).pc=s1.pc:=rfl;refine zQ35 ?_;refine gac ?_;refine oC rfl (fun hc=>?_) (fun hc=>?_);rotate_left
 ·have hil:i=limit:=by have:=zf hc;omega
  subst hil;rw[Nat.sub_self,runM] at e1 e2 e3;simp only at e1 e2 e3;refine qae.exit ?_;refine QNo.exit ?_;refine gab ?_;refine qaG.of ?_;refine gac ?_
  first|refine QNo.ret ?_|skip
  exact qbB.ret1 (vs:=[int .i64 13]) (H2:=[(b4,.cells 29 [int .i64 13])]) hj zpr (qkR b4 _)
   (rC (qcJ.cellOne rfl zm0 rfl zsr) rN) (zhD zhr) ⟨⟨s1,false,e2,by rw[<-e3,Nat.add_zero];exact ⟨vc,HC,vo,HO,_,hC,hO,hDD,rfl⟩⟩,by rw[<-e1];rfl⟩
 have hil:i<limit:=by have:=zt hc;omega
 have hn:limit-i=(limit-(i+1))+1:=by omega
 rw[hn,runM] at e1 e2 e3;refine qae.skip ?_
 first|refine QNo.normal ?_|skip
 refine qaG.block ?_;refine zQ35 ?_;refine gac ?_
 first|refine QNo.normal ?_|skip
 refine qaG.weak (H':=(b4,.cells 29 [int .i64 0])::(k.mb,.cells 164 ((k.mf s1 (i+1) false vc vo).cells vd))::(HD0++(k.memH s1.mem::k.binH::(HC++HO)))) ⟨[],by rw[zLz];exact List.Perm.swap _ _ _⟩ ?_;have hst1:StH k s1 (i+1) false (((k.mb,.cells 164 ((k.mf s1 (i+1) false vc vo).cells vd))::HD0)++(k.memH s1.mem::k.binH::(HC++HO))):=⟨vc,HC,vo,HO,_,hC,hO,⟨vd,HD0,hm,rfl⟩,rfl⟩;have hmpc2:(k.mf s1 (i+1) false vc vo).pc=s1.pc:=rfl;refine qaG.seq (qaG.region ?_);refine gad ?_;refine qbk.step (S.check rfl (fun hb=>?_) (fun hb=>?_)) rfl;rotate_left
 ·have hpc:¬ s1.pc<262144:=by have:=zf hb;omega
  have hs:qlk s1=.stop 12 s1.out:=by
   unfold qlk;rw[if_neg hpc];rfl
  rw[hs] at e1 e2 e3;simp only at e1 e2 e3;refine gae ?_
  exact qbB.panic1 (H1:=[(b4,.cells 29 [int .i64 0])]) (vs:=[int .i64 12]) (H2:=[(b4,.cells 29 [int .i64 12])]) hj zpr (qle b4 _)
   (rC (qcJ.cellOne rfl zm0 rfl zsr) rN) (zhD zhr) ⟨⟨s1,false,e2,by rw[<-e3];exact hst1⟩,by rw[<-e1];rfl⟩
 have hpc:s1.pc<262144:=by have:=zt hb;omega
 refine qbk.nil ?_;refine qN ?_;refine zQ35 ?_;refine zQ32 ?_;refine qP (Pure.indexRowE (o:=s1.pc) rfl rfl zo zo zo) rfl ?_;refine qP (pL (c:=u32 (s1.mem s1.pc)) rfl (List.Mem.tail _ (List.Mem.tail _ (List.mem_append_right _ zm0))) (qg1 _ hpc)) rfl ?_;refine gad ?_
 first|refine QNo.normal ?_|skip
 refine zQ35 ?_;refine gac ?_;refine oP (Pure.addW rfl rfl) rfl ?_;refine gab ?_
 have hw:IntKind.u32.wrap ((s1.pc:Int)+1)=((s1.pc+1:Nat):Int):=by
  rw[qek];omega
 refine oS (sS (n:=1) (vs:=[u32 (s1.pc+1)]) (cs':=[_,_,_,_,_,_,_,_,_,_]) rfl zp1 (by show some [int .u32 _]=some [int .u32 _];rw[<-hw]) rfl rfl rfl rfl ?_) rfl;refine gaf ?_
 first|refine QNo.normal ?_|skip
 generalize hcd:s1.mem s1.pc=c at *;have hcl:c<4294967296:=by rw[<-hcd];exact hok1.mem _
 have hok2:MsOk { s1 with pc:=s1.pc+1 }:=⟨hok1.mem,by show s1.pc+1<_;omega,hok1.data,hok1.calls,hok1.inp,hok1.few,hok1.deep⟩;have hex:=qsy (B0:=B0) (w0:=w0) k (s:={ s1 with pc:=s1.pc+1 }) (st:=i+1) (c:=c) hok2 hcl hdig1 (by show s1.out.length<=_;omega) (H:=((k.mb,.cells 164 ((k.mf { s1 with pc:=s1.pc+1 } (i+1) false vc vo).cells vd))::HD0)++(k.memH s1.mem::k.binH::(HC++HO))) ⟨vc,HC,vo,HO,_,hC,hO,⟨vd,HD0,hm,rfl⟩,rfl⟩;refine qaG.seq (qaG.region ?_);refine gad ?_;refine qbk.step (S.callH (F:=[(b4,.cells 29 [int .i64 0])]) [_,_] rfl (List.Perm.cons _ (List.perm_append_singleton _ _).symm) hex ?_ ?_) rfl
 ·intro v H2 hP
  cases hx:exeM c { s1 with pc:=s1.pc+1 } with
  |run s2=>
   rw[hx] at hP;obtain ⟨hv,hS2⟩:=hP;cases hv
   have hs:qlk s1=.run { s2 with digit:=qdh c }:=by
    unfold qlk;rw[if_pos hpc,hcd,hx]
   rw[hs] at e1 e2 e3;simp only at e1 e2 e3;have hok3:=qwp hok2 hcl hx;have hlen:=qu6 hx;have hdig3:qdh c=true->s2.data≠[]:=quJ hx
   have hlen2:s2.out.length<=i+1:=by
    have:s2.out.length<=s1.out.length+1:=hlen;omega
   obtain ⟨vc2,HC2,vo2,HO2,HD2,hC2,hO2,hD2,rfl⟩:=hS2;obtain ⟨vd2,HD3,hm2,rfl⟩:=hD2;refine qbk.nil ?_;refine qN ?_;refine qaG.weak (H':=(b4,.cells 29 [int .i64 0])::(k.mb,.cells 164 ((k.mf s2 (i+1) false vc2 vo2).cells vd2))::(HD3++(k.memH s2.mem::k.binH::(HC2++HO2)))) ⟨[],by rw[zLz];exact zPc⟩ ?_;refine qaG.of ?_;refine gac ?_;refine oC rfl (fun hc=>by cases hc) (fun _=>?_);refine gac ?_;have fin:∀ (dg:Bool),qdh c=dg->StH k { s2 with digit:=dg } (i+1) false (((k.mb,.cells 164 ((k.mf { s2 with digit:=dg } (i+1) false vc2 vo2).cells vd2))::HD3)++(k.memH s2.mem::k.binH::(HC2++HO2)))/\MsOk { s2 with digit:=dg }/\(dg=true->s2.data≠[]):=fun dg hd=>⟨⟨vc2,HC2,vo2,HO2,_,hC2,hO2,⟨vd2,HD3,hm2,rfl⟩,rfl⟩,⟨hok3.mem,hok3.pc,hok3.data,hok3.calls,hok3.inp,hok3.few,hok3.deep⟩,fun h=>hdig3 (hd.trans h)⟩;refine oB 53 rfl (fun h=>?_) (fun h=>?_)
   ·have hdg:qdh c=decide ((c:Int)<=57):=by
     have:=zt h;unfold qdh;rw[decide_eq_true (by omega:48<=c),Bool.true_and,decide_eq_decide];omega
    obtain ⟨f1,f2,f3⟩:=fin _ hdg;rw[hdg] at e1 e2 e3;refine gav ?_
    first|refine QNo.norm ?_|skip
    first|refine qaj.normal ?_|skip
    first|refine qN ?_|skip
    exact ⟨limit-(i+1),_,_,by omega,⟨i+1,_,_,by omega,by omega,rfl,rfl,rfl,f1,f2,f3,hlen2,e1,e2,by omega⟩,⟨rfl,rfl,rfl,trivial⟩,⟨[],by rw[zLz];exact List.Perm.swap _ _ _⟩,hj⟩
   ·have hdg:qdh c=false:=by
     have:=zf h;unfold qdh;rw[decide_eq_false (by omega:¬ 48<=c)];rfl
    obtain ⟨f1,f2,f3⟩:=fin _ hdg;rw[hdg] at e1 e2 e3;refine gav ?_
    first|refine QNo.norm ?_|skip
    first|refine qaj.normal ?_|skip
    first|refine qN ?_|skip
    exact ⟨limit-(i+1),_,_,by omega,⟨i+1,_,_,by omega,by omega,rfl,rfl,rfl,f1,f2,f3,hlen2,e1,e2,by omega⟩,⟨rfl,rfl,rfl,trivial⟩,⟨[],by rw[zLz];exact List.Perm.swap _ _ _⟩,hj⟩
  |stop er o=>
   rw[hx] at hP;obtain ⟨s2,ho,hP⟩:=hP
   by_cases he:er=0
   rotate_left
   ·rw[if_neg he] at hP;obtain ⟨_,hv,_⟩:=hP;cases hv
   rw[if_pos he] at hP;obtain ⟨hv,hS2⟩:=hP;cases hv;subst he
   have hs:qlk s1=.stop 0 o:=by
    unfold qlk;rw[if_pos hpc,hcd,hx]
   rw[hs] at e1 e2 e3;simp only at e1 e2 e3;have hend:EndH k (st+R.2.2) R.2.1 H2:=⟨s2,true,ho.trans e2,by rw[<-e3];exact hS2⟩;obtain ⟨vc2,HC2,vo2,HO2,HD2,hC2,hO2,hD2,rfl⟩:=hS2;obtain ⟨vd2,HD3,hm2,rfl⟩:=hD2;refine qbk.nil ?_;refine qN ?_;refine qaG.weak (H':=(b4,.cells 29 [int .i64 0])::(k.mb,.cells 164 ((k.mf s2 (i+1) true vc2 vo2).cells vd2))::(HD3++(k.memH s2.mem::k.binH::(HC2++HO2)))) ⟨[],by rw[zLz];exact zPc⟩ ?_;refine qaG.of ?_;refine gac ?_;refine oC rfl (fun _=>?_) (fun hc=>by cases hc);refine gac ?_
   first|refine QNo.ret ?_|skip
   first|refine qax.ret ?_|skip
   first|refine qaj.ret ?_|skip
   first|refine qax.ret ?_|skip
   first|refine qaj.ret ?_|skip
   first|refine qax.ret ?_|skip
   exact qbB.ret1 (vs:=[int .i64 0]) (H2:=[(b4,.cells 29 [int .i64 0])]) hj zpr (qkR b4 _)
    (rC (qcJ.cellOne rfl zm0 rfl zsr) rN) (zhD zhr) ⟨hend,by rw[<-e1];rfl⟩
 ·intro ch H2 hP
  cases hx:exeM c { s1 with pc:=s1.pc+1 } with
  |run s2=>
   rw[hx] at hP;obtain ⟨hv,_⟩:=hP
   cases hv
  |stop er o=>
   rw[hx] at hP;obtain ⟨s2,ho,hP⟩:=hP
   by_cases he:er=0
   ·rw[if_pos he] at hP;obtain ⟨hv,_⟩:=hP;cases hv
   rw[if_neg he] at hP;obtain ⟨h12,hv,hS2⟩:=hP;cases hv;subst h12
   have hs:qlk s1=.stop 12 o:=by
    unfold qlk;rw[if_pos hpc,hcd,hx]
   rw[hs] at e1 e2 e3;simp only at e1 e2 e3;refine gae ?_
   exact qbB.panic1 (H1:=[(b4,.cells 29 [int .i64 0])]) (vs:=[int .i64 12]) (H2:=[(b4,.cells 29 [int .i64 12])]) hj zPc (qle b4 _)
    (rC (qcJ.cellOne rfl zm0 rfl zsr) rN) (zhD zhr) ⟨⟨s2,false,ho.trans e2,by rw[<-e3];exact hS2⟩,by rw[<-e1];rfl⟩
end
end Go.Proofs.YtdakelgkjdaijaaGreatDoor.Mch
namespace Go.GL
open Go.RowKit
section
variable {C:Ctx} {e:Env} {H:Heap} {x y:Operand} {dst:Option Nat} {ty:TypeId} {pos:String} {aft:Array Edge} {g:Option (Nat×Bool)}
theorem Pure.bytesStrE {s d el:TypeId} [hs:TSlice C.P s el 1] [he:TKind C.P el .u8] [hd:TStr C.P d] {l:List UInt8} (hx:elems (e.ev x)=some (byts l)):Pure C ⟨dst,.convert s d x,ty,pos,aft,g⟩ e H (str l):=by
 by_cases hne:l=[]
 ·subst hne;intro ρ w L h _;obtain ⟨a,cap,hv,hcap,hr⟩:=(h x).elems hx;refine ⟨_,qah,fun w' ha=>?_⟩;have h0:execOp ρ ⟨dst,.convert s d x,ty,pos,aft,g⟩=(do Pure.pure (.value (<-convert s d (ρ x)))):=rfl;have hlen:(byts []).length=0:=rfl
  have hc:(convert s d (.slice a 0 cap)).run C.P w'=.ok (.string ⟨#[]⟩) w':=by
   rw[run_convert_bytes_string w' s d el a 0 cap hs.und he.und hd.und]
   cases a with
   |none=>rfl
   |some a=>exact run_bytesToString w' a 0 cap [] (run_loadCells_list (P:=C.P) w' a [] fun j v hj=>by cases hj)
  rw[h0,hv,hlen];simp only[Sem.run_bind,hc,Result.andThen_ok,Sem.run_pure]
 ·exact Pure.bytesStr hx hne
end
end Go.GL
namespace Go.Proofs.YtdakelgkjdaijaaGreatDoor.Mch
open Go.GL Go.RowKit Go.Stele
open Inp (u32 Same retS qek qdy)
def qtO (og:Nat) (code:Wd):LV:=.agg [int .i64 (og:Nat),str code]
def qqy (r:Nat×Wd×Nat):LV:=.agg [str r.2.1,int .i64 (r.1:Nat),int .i64 (r.2.2:Nat)]
theorem qqV {code:Wd} {og n:Nat} (h:n<code.length):(fun i=>if i=og+n then (code[n]).toNat else qgS (code.take n) og i)=qgS (code.take (n+1)) og:=by
 funext i;unfold qgS;rw[List.getElem?_take,List.getElem?_take]
 by_cases h1:i=og+n
 ·subst h1;rw[if_pos rfl,if_pos zo,show og+n-og=n by omega,if_pos zo,List.getElem?_eq_getElem h]
 ·rw[if_neg h1]
  by_cases h2:og<=i
  ·rw[if_pos h2,if_pos h2]
   by_cases h3:i-og<n
   ·rw[if_pos h3,if_pos zo]
   ·rw[if_neg h3,if_neg zo]
  ·rw[if_neg h2,if_neg h2]
theorem qsK (og:Nat):qgS [] og=fun _=>0:=by
 funext i;unfold qgS;split
 ·rw[List.getElem?_nil]
 ·rfl
theorem qt1 (code:Wd) {og:Nat} {inp:List Nat} (h:og<262144) (hi:∀ v∈inp,v<4294967296):MsOk (qhP code og inp):=
 ⟨fun i=>quF code og i,by show og<_;omega,fun v hv=>(List.not_mem_nil hv).elim,fun v hv=>(List.not_mem_nil hv).elim,hi,by show 0<=_;omega,by show 0<=_;omega⟩
attribute [local irreducible] LOps qae qad LCalls Go.GL.Pure qax qaj qac LQ LAny qaE qal LS
section
variable {B0:Nat} {w0:World}
@[reducible] def stR (k:MK) (og:Nat) (inp:List Nat):Nat×LObj:=(k.mb,.cells 164 ((k.mf (qhP [] og inp) 0 false (.slice none 0 0) qab).cells (.slice none 0 0)))
@[reducible] def ouR (b:Nat):Nat×LObj:=(b,.cells 39 [str [],int .i64 0,int .i64 0])
theorem qmC {code:Wd} {og:Nat} {inp:List Nat} {steps:Nat} (hog:og+code.length<=262144) (hog2:og<262144) (hin:∀ v∈inp,v<4294967296) (hs0:0<steps) (hs1:steps<=100000000) :
  LCalls (KC B0 w0) 41 [.list [qtO og code],int .i64 (og:Nat),.list (us inp),int .i64 (steps:Nat)] [] (Ret (qqy (runM steps (qhP code og inp)))):=by
 have eX:qtO og code=.agg [int .i64 (og:Nat),str code]:=rfl;rw[eX];refine cI Tryz.func41 rfl (n:=106) rfl rfl rfl ?_;refine gah ?_;refine oS (sA fun b8=>?_) rfl;refine gac ?_
 refine oL (fun kk ls H'=>∃ i:Nat,i<=1/\kk=1-i/\ls=[(0,.list [.agg [int .i64 (og:Nat),str code]]),(1,int .i64 (og:Nat)),(2,.list (us inp)),(3,int .i64 (steps:Nat)),(8,ptr b8 0),(9,bool true),(23,.list [.agg [int .i64 (og:Nat),str code]]),(24,int .i64 1),(25,int .i64 (i:Nat))]/\H'=[ouR b8])
  ⟨_,_,_,⟨0,by omega,rfl,rfl,rfl⟩,⟨rfl,rfl,rfl,rfl,rfl,qas (decide_eq_true zo),rfl,rfl,rfl,trivial⟩,zhR _⟩ ?_
 rintro kk ls H' ⟨i,hi,rfl,rfl,rfl⟩ j hj;refine gaj ?_;refine oC rfl (fun hc=>?_) (fun hc=>?_)
 ·obtain rfl:i=0:=by have:=zt hc;omega
  refine gam ?_;refine oP (xR (el':=.agg [int .i64 (og:Nat),str code]) (cs:=[_,_]) rfl rfl zDd rfl rfl rfl) rfl ?_;refine gad ?_;refine oS (sA fun b11=>?_) rfl;refine gac ?_;exact ⟨_,_,_,by omega,⟨1,by omega,rfl,rfl,rfl⟩,⟨rfl,rfl,rfl,rfl,rfl,qas (decide_eq_true zo),rfl,rfl,rfl,trivial⟩,zhD zhr,hj⟩
 obtain rfl:i=1:=by have:=zf hc;omega
 clear hc hi;refine gac ?_;refine oC rfl (fun hc=>by cases hc) (fun _=>?_);refine gal ?_;refine oC rfl (fun hc=>?_) (fun _=>?_)
 ·have:=zt hc;omega
 refine gac ?_;refine oC rfl (fun hc=>?_) (fun _=>?_)
 ·have:=zt hc;omega
 have hwo:IntKind.u32.wrap (og:Int)=(og:Int):=by
  rw[qek];omega
 refine gab ?_;refine cM (A:=MK) (fun k=>[(0,.list [.agg [int .i64 (og:Nat),str code]]),(3,int .i64 (steps:Nat)),(8,ptr b8 0),(12,ptr k.mb 0)]) (fun k=>[stR k og inp,k.memH (fun _=>0),k.binH,ouR b8]) (fun _=>True) ?_ (fun k _ j2 hj2=>?_)
 ·refine cD (m:=8) rfl [] ?_;refine aT 1 rfl rfl (pM (lv:=.atom _) rfl) ?_;refine aT 2 rfl rfl (Pure.cvt rfl) ?_;refine aT 3 rfl rfl (pM (lv:=.list _) rfl) ?_;rw[hwo];refine aL ?_ zhn;refine zl2 (i:=0) (j:=4) zk ?_ ?_
  ·refine lW rfl (.inl rfl) rfl (S.makeRow (n:=262144) rfl rfl zDd zDd fun mm=>?_);rw[qm0];refine zl1 (i:=4) zk ?_;refine lW rfl (.inl rfl) rfl (S.callH (H1:=[]) [] rfl zpr qgQ ?_ (by rintro ch H' ⟨_,h,_⟩;cases h));rintro lv H' ⟨bm,h,rfl⟩;cases h;exact zT20
  ·refine lW rfl (.inl rfl) rfl (S.callH (H1:=[]) [] rfl zpr qgQ ?_ (by rintro ch H' ⟨_,h,_⟩;cases h));rintro lv H' ⟨bm,h,rfl⟩;cases h;refine zl1 (i:=0) zk ?_;refine lW rfl (.inl rfl) rfl (S.makeRow (n:=262144) rfl rfl zDd zDd fun mm=>?_);rw[qm0];exact zT20
 have hjj:j2.ds=[]:=hj2.trans hj;refine gaa ?_
 refine oL (fun kk ls H'=>∃ i:Nat,i<=1/\kk=1-i/\ls=[(3,int .i64 (steps:Nat)),(8,ptr b8 0),(12,ptr k.mb 0),(64,.list [.agg [int .i64 (og:Nat),str code]]),(65,int .i64 1),(66,int .i64 (i:Nat))]/\H'=[stR k og inp,k.memH (qgS (code.take (i * code.length)) og),k.binH,ouR b8])
  ⟨_,_,_,⟨0,by omega,rfl,rfl,rfl⟩,⟨rfl,rfl,rfl,rfl,rfl,rfl,trivial⟩,by rw[Nat.zero_mul,List.take_zero,qsK];exact zhR _⟩ ?_
 rintro kk ls H' ⟨i,hi,rfl,rfl,rfl⟩ j3 hj3;refine gaj ?_;refine oC rfl (fun hc=>?_) (fun hc=>?_)
 ·obtain rfl:i=0:=by have:=zt hc;omega
  refine gam ?_;refine oP (xR (el':=.agg [int .i64 (og:Nat),str code]) (cs:=[_,_]) rfl rfl zDd rfl rfl rfl) rfl ?_;refine gad ?_;refine oS (sA fun b14=>?_) rfl;refine gac ?_
  refine oL (fun kk ls H'=>∃ n:Nat,n<=code.length/\kk=code.length-n/\ls=[(3,int .i64 (steps:Nat)),(8,ptr b8 0),(12,ptr k.mb 0),(14,ptr b14 0),(64,.list [.agg [int .i64 (og:Nat),str code]]),(65,int .i64 1),(66,int .i64 0),(72,int .i64 code.length),(73,int .i64 (n:Nat))]/\H'=[stR k og inp,(b14,.cells 95 [int .i64 (og:Nat),str code]),k.memH (qgS (code.take n) og),k.binH,ouR b8])
   ⟨_,_,_,⟨0,Nat.zero_le _,rfl,rfl,rfl⟩,⟨rfl,rfl,rfl,rfl,rfl,rfl,rfl,rfl,rfl,trivial⟩,by rw[Nat.zero_mul];exact zhP zp1 zhr⟩ ?_
  rintro kk ls H' ⟨n,hn,rfl,rfl,rfl⟩ j4 hj4;refine gaj ?_;refine oC rfl (fun hd=>?_) (fun hd=>?_)
  ·have hlt:n<code.length:=by have:=zt hd;omega
   have hget:code[((n:Nat):Int).toNat]? = some code[n]:=by rw[Int.toNat_natCast,List.getElem?_eq_getElem hlt]
   have hnx:=qqV (og:=og) hlt;generalize code[n]=ch at hget hnx
   have hw8:IntKind.u32.wrap ((ch.toNat:Nat):Int)=((ch.toNat:Nat):Int):=by
    rw[qek];have:=ch.toNat_lt;omega
   refine gaa ?_;refine cD (m:=15) rfl [stR k og inp,(b14,LObj.cells 95 [int .i64 (og:Nat),str code])] ?_;refine zQ10 ?_;refine aT 3 rfl rfl (pL (c:=.atom _) rfl zm0 rfl) ?_;refine aT 4 rfl rfl (pF rfl) ?_;refine aT 5 rfl rfl (pL (c:=.atom _) rfl zm1 rfl) ?_;refine aT 6 rfl rfl (pM (lv:=.atom _) rfl) ?_;refine aT 7 rfl rfl (Pure.add rfl rfl zo) ?_;refine aT 8 rfl rfl (pF rfl) ?_;refine aT 9 rfl rfl (pL (c:=.atom _) rfl zm1 rfl) ?_;refine aT 10 rfl rfl (pM (lv:=.atom _) rfl) ?_;refine aT 11 rfl rfl (pI (c:=ch) rfl rfl zo hget) ?_;refine aT 12 rfl rfl (Pure.cvt rfl) ?_;refine aT 13 rfl rfl (Pure.indexRowE (o:=og+n) rfl rfl zo zo zo) ?_;refine aL ?_ ⟨_,List.Perm.refl _⟩;refine zl1 (i:=14) zk ?_;refine lS (H1:=[k.memH (qgS (code.take n) og)]) (F:=[stR k og inp,(b14,LObj.cells 95 [int .i64 (og:Nat),str code]),k.binH,ouR b8]) rfl (.inl rfl) rfl zp2 ⟨_,List.Perm.refl _⟩ ?_;refine sS (n:=1) (vs:=[u32 ch.toNat]) (cs':=memL (qgS (code.take (n+1)) og)) rfl pH (congrArg (fun z=>some [int .u32 z]) hw8) rfl (by rw[Nat.ble_eq,qg5];omega) rfl (by rw[<-hnx];exact qlM _ _ _) ?_;refine lD zk ?_;refine gan ?_;exact ⟨code.length-(n+1),_,_,by omega,⟨n+1,by omega,rfl,rfl,rfl⟩,⟨rfl,rfl,rfl,rfl,rfl,rfl,rfl,rfl,qak zo,trivial⟩,zhP zp1 (zhP zp1 zhr),hj4⟩
  ·obtain rfl:n=code.length:=by have:=zf hd;omega
   refine gaa ?_;exact ⟨0,_,_,by omega,⟨1,by omega,rfl,rfl,rfl⟩,⟨rfl,rfl,rfl,rfl,rfl,qak zo,trivial⟩,by rw[Nat.one_mul];exact zhP pH (zhD zhr),hj4.trans hj3⟩
 obtain rfl:i=1:=by have:=zf hc;omega
 rw[Nat.one_mul,List.take_length];have hS:StH k (qhP code og inp) 0 false [stR k og inp,k.memH (qgS code og),k.binH]:=⟨.slice none 0 0,[],qab,[],[stR k og inp],MRow.nil,Acc.nil,⟨.slice none 0 0,[],MRow.nil,rfl⟩,rfl⟩;have hrun:=qec (B0:=B0) (w0:=w0) k (qt1 code hog2 hin) (fun h=>by cases h) (Nat.zero_le steps) hs1 (zNr 0) hS;rw[Nat.sub_zero] at hrun;generalize runM steps (qhP code og inp)=R at hrun ⊢;rw[Nat.zero_add] at hrun;refine gaa ?_;refine oS (S.callH (H1:=[stR k og inp,k.memH (qgS code og),k.binH]) (F:=[ouR b8]) [_,_] rfl zpr hrun ?_ (by rintro ch H' ⟨_,h⟩;cases h)) rfl;rintro v H' ⟨hE,hv⟩;cases hv;obtain ⟨s2,stop,ho,vc,HC,vo,HO,HD,hC,hO,hD,rfl⟩:=hE;obtain ⟨vd,HD0,hm,rfl⟩:=hD;refine LOps.weak (H':=ouR b8::(k.mb,.cells 164 ((k.mf s2 R.2.2 stop vc vo).cells vd))::(HD0++(k.memH s2.mem::k.binH::(HC++HO)))) ⟨[],by rw[zLz];exact zPc⟩ ?_;refine gab ?_;refine qae.tail 11 zk ?_;refine gav ?_;refine lP (pL (c:=vo) rfl zm1 rfl) rfl ?_;refine lP (Pure.bytesStrE (l:=s2.out) (by exact hO.elems)) rfl ?_;refine gad ?_;exact qaf (hj3.trans hjj) (rC (rA (k:=3) rfl zm0 rfl zsr) rN) (by rw[ho];rfl)
end
end Go.Proofs.YtdakelgkjdaijaaGreatDoor.Mch
namespace Go.Stele
open Go.Lib
section
variable (vars arrays later:List Nm)
end
section
variable {vars arrays later:List Nm}
end
/-! ### Where a function's words begin -/
/-! ### Where the arrays lie -/
def totA (l:List Ar):Nat:=(l.map (·.size)).sum
theorem qik (l:List Ar):((l.map fun a=>(a.name,(a.size:Int))).map (·.2)).sum=((totA l:Nat):Int):=by
 unfold totA
 induction l with
 |nil=>rfl
 |cons a l ih=>
  simp only[zMc,List.sum_cons] at ih ⊢;rw[ih];omega
end Go.Stele
namespace Go.Stele
open Go.Lib
def qcC (P:Pr):List (Nm×Int):=P.arrays.map fun a=>(a.name,(a.size:Int))
def qmP (P:Pr) (o:Org):List Wd:=prW P.vars (qcC P) P.funcs o
theorem qeE {z:Int} (h:0<=z):itoa z=decDigits z.toNat:=by
 unfold itoa;rw[if_neg (by omega)]
structure FitN (P:Pr) (o:Org):Prop where
 s0:0<=o.scalars
 c0:0<=o.code
 a0:0<=o.arrays
 s1:o.scalars.toNat+3+(qan P.vars P.funcs).length<=262144
 c1:o.code.toNat+40000<=262144
 a1:o.arrays.toNat+totA P.arrays<=262144
 cs:o.scalars.toNat+3+(qan P.vars P.funcs).length<=o.code.toNat∨o.code.toNat+40000<=o.scalars.toNat
 asA:0<totA P.arrays->o.scalars.toNat+3+(qan P.vars P.funcs).length<=o.arrays.toNat∨o.arrays.toNat+totA P.arrays<=o.scalars.toNat
 ac:0<totA P.arrays->o.code.toNat+40000<=o.arrays.toNat∨o.arrays.toNat+totA P.arrays<=o.code.toNat
theorem quf {P:Pr} {o:Org} (h:qgE P.vars (qcC P) P.funcs o=true):FitN P o:=by
 unfold qgE qeP qhR at h;simp only[zBa,Bool.not_eq_true',zDe,decide_eq_false_iff_not] at h;have ht:((qcC P).map (·.2)).sum=((totA P.arrays:Nat):Int):=qik P.arrays;rw[ht] at h;obtain ⟨⟨⟨⟨⟨h1,h2⟩,h3⟩,h4⟩,h5⟩,h6⟩:=h;constructor <;> omega
section
variable {P:Pr} {o:Org}
end
end Go.Stele
namespace Go.Stele
open Go.Lib
section
variable {c:CC} {env:CEnv}
end
section
variable {P:Pr} {o:Org}
theorem qlj:∀ (l:List (Nm×Int)) (a:Int),0<=a->(∀ p∈l,0<=p.2)->∀ n,0<=arrA a l n
 |[],a,_,_,n=>by simp[arrA]
 |(x,k)::l,a,h,hl,n=>by
  rw[arrA];split
  ·exact h
  ·have:0<=k:=hl (x,k) zMs;exact qlj l _ (by omega) (fun p hp=>hl p (zMo _ hp)) n
end
end Go.Stele
namespace Go.Stele
open Go.Lib
structure ShC (c:CC):Prop where
 sc:∀ n,(c.sc n).length<=10
 ar:∀ n,(c.ar n).length<=10
 t0:c.t0.length<=10
 t1:c.t1.length<=10
 t2:c.t2.length<=10
def sumW (l:List (List Wd)):Nat:=(l.map tot).sum
theorem qgK (a:List Wd) (l:List (List Wd)):sumW (a::l)=tot a+sumW l:=by simp[sumW]
theorem qtR (l:List (List Wd)):tot (l.headD [])+tot ((l.drop 1).headD [])<=sumW l:=by
 cases l with
 |nil=>simp[tot,sumW]
 |cons a r=>
  rw[qgK]
  cases r with
  |nil=>simp[tot,sumW]
  |cons b r=>rw[qgK];simp only[List.headD_cons,List.drop_one,List.tail_cons];omega
theorem qoa:∀ l:List (List Wd),tot l.flatten=sumW l
 |[]=>rfl
 |a::l=>by rw[List.flatten_cons,qa4,qoa l,qgK]
theorem qdX {p:Prop} [Decidable p] {a b:List Wd} {n:Nat} (h1:p->tot a<=n) (h2:¬ p->tot b<=n):tot (if p then a else b)<=n:=by
 by_cases h:p
 ·rw[if_pos h];exact h1 h
 ·rw[if_neg h];exact h2 h
theorem qwl {op:Nm} (h:op∈qjL):op.length<=2:=by
 have:∀ o∈qjL,o.length<=2:=by decide
 exact this op h
theorem qvE {c:CC} (hc:ShC c) {op name:Nm} {num:Nat} {l:List (List Wd)} (hn:num<4294967296) (hop:qci op ≠ -2) (hcall:op=qbG->name.length<=24):tot (opW c op num name l)<=60+sumW l:=by
 have hh:=qtR l;have hf:=qoa l;have hd:=qel hn;have h0:=hc.t0;have h1:=hc.t1;have h2:=hc.t2;have hs:=hc.sc name;have ha:=hc.ar name
 have hbin:¬ (op=nNum)->¬ (op=nVar)->¬ (op=qcY)->¬ (op=qbG)->¬ (op=nNeg)->¬ (op=nNot)->op.length<=2:=by
  intro a1 a2 a3 a4 a5 a6;unfold qci at hop;rw[if_neg (by simp[a1,a2]),if_neg (by simp[a3,a5,a6]),if_neg a4] at hop;split at hop
  ·rename_i h
   exact qwl h
  ·exact absurd rfl hop
 have hg:tot (qcU c)<=54:=by
  unfold qcU;simp only[qaO,qa2,zLc,zLn];omega
 unfold opW;refine qdX (fun n1=>?_) fun n1=>qdX (fun n2=>?_) fun n2=>qdX (fun n3=>?_) fun n3=>qdX (fun n4=>?_) fun n4=>qdX (fun n5=>?_) fun n5=>qdX (fun n6=>?_) fun n6=>qdX (fun n7=>?_) fun n7=>qdX (fun n8=>?_) fun n8=>qdX (fun n9=>?_) fun n9=>?_
 ·simp only[qaO,qa2];omega
 ·simp only[qaO,qa2,zLc,zLn];omega
 ·simp only[qaO,qa4,qa2,zLc,zLn];omega
 ·have hnl:=hcall n4;rw[qa4,hf]
  have:tot (if name=[105,110] then ([[44]]:List Wd) else if name=[111,117,116] then [[46],[48]] else [[38,102,95]++name,[58]])<=60:=qdX (fun _=>by decide) fun _=>qdX (fun _=>by decide) fun _=>by
   simp only[qaO,qa2,zLa,zLc,zLn];omega
  omega
 ·simp only[qaO,qa4,qa2,zLc,zLn];omega
 ·simp only[qaO,qa4,qa2,zLc,zLn];omega
 ·simp only[qaO,qa4,qa2,zLc,zLn];omega
 ·simp only[qaO,qa4,qa2,zLc,zLn];omega
 ·simp only[qaO,qa4,qa2,zLc,zLn];omega
 ·have hb:=hbin n1 n2 n3 n4 n5 n6;rw[qa4,qa4]
  have:tot (if op=[62] then qcU c else if op=[60,61] then qcU c++[[49],[94]] else if op=[62,61] then ([[60],[49],[94]]:List Wd) else if op=[61,61] then [[94],[49],[60]] else [op])<=60:=qdX (fun _=>by omega) fun _=>qdX (fun _=>by
   simp only[qaO,qa4,qa2,zLc,zLn];omega) fun _=>qdX (fun _=>by decide) fun _=>qdX (fun _=>by decide) fun _=>by
   simp only[qaO,qa2];omega
  omega
mutual
theorem qrV {c:CC} (hc:ShC c) {env:CEnv} (hfn:∀ k∈env.funcs,k.name.length<=24):∀ e,numE e->errE env e=0->tot (exW c e)<=60 * ndE e
 |.mk op num name args,hn,h=>by
  rw[errE] at h;rw[numE] at hn;rw[ndE];split at h
  ·rename_i ho
   obtain ⟨h1,h3⟩:=qap.1 h;rw[exW];have:=qoc hc hfn args hn.2 h1;have h5:=qvE hc (op:=op) (name:=name) (num:=num) (l:=exWl c args) hn.1 (by omega) (fun hcl=>?_)
   ·omega
   subst hcl;unfold useE at h3;rw[if_neg zDd,if_neg zDd,if_pos rfl] at h3;unfold callE at h3;split at h3
   ·rename_i e;rw[e];decide
   split at h3
   ·rename_i e;rw[e];decide
   unfold CEnv.fn at h3
   cases hf:env.funcs.find? fun f=>decide (f.name=name) with
   |none=>
    rw[hf] at h3;simp only at h3
    split at h3 <;> cases h3
   |some k=>
    have e:k.name=name:=of_decide_eq_true (List.find?_some (p:=fun g:FSum=>decide (g.name=name)) hf);rw[<-e];exact hfn k (List.mem_of_find?_eq_some hf)
  ·cases h
theorem qoc {c:CC} (hc:ShC c) {env:CEnv} (hfn:∀ k∈env.funcs,k.name.length<=24):∀ l,qbg l->qb6 env l=0->sumW (exWl c l)<=60 * ndEs l
 |[],_,h=>by rw[exWl];exact Nat.zero_le _
 |x::l,hn,h=>by
  rw[qb6] at h;rw[qbg] at hn;obtain ⟨h1,h2⟩:=qap.1 h;have a1:=qrV hc hfn x hn.1 h1;have a2:=qoc hc hfn l hn.2 h2;rw[exWl,qgK,ndEs];omega
end
theorem qoF {c:CC} (hc:ShC c) {env:CEnv} (hfn:∀ k∈env.funcs,k.name.length<=24) {l:List Ex} (h1:l.length=1) (hn:qbg l) (h:qb6 env l=0):tot (exW c (l.headD default))<=60 * ndEs l:=by
 obtain ⟨x,rfl⟩:=List.length_eq_one_iff.1 h1;rw[qb6] at h;rw[qbg] at hn;have:=qrV hc hfn x hn.1 (qap.1 h).1;rw[ndEs];simp only[List.headD_cons];omega
theorem qjn {n:Nat} (h:n<=4000000000):(labW n).length<=11:=by
 have:=qel (u:=n) (by omega);simp only[labW,zLc];omega
mutual
theorem qv0 {c:CC} (hc:ShC c) {env:CEnv} (hfn:∀ k∈env.funcs,k.name.length<=24):∀ (s:Sm) (n:Nat),numS s->errS env s=0->n+2 * ndS s<=4000000000->tot (stW c n s).1<=60 * ndS s/\(stW c n s).2<=n+2 * ndS s
 |.mk kind name index value thn els,n,hnm,h,hN=>by
  rw[errS] at h;rw[numS] at hnm;rw[ndS] at hN ⊢;obtain ⟨m1,m2,m3,m4⟩:=hnm
  by_cases hf:qbX (.mk kind name index value thn els)=false
  ·rw[if_pos hf] at h;cases h
  rw[if_neg hf] at h;obtain ⟨h1,h⟩:=qap.1 h;obtain ⟨h2,h⟩:=qap.1 h;obtain ⟨h3,h⟩:=qap.1 h;obtain ⟨h4,h5⟩:=qap.1 h;rw[Bool.not_eq_false] at hf;unfold qbX at hf
  have hv:kind=1∨kind=2∨kind=3∨kind=4∨kind=5∨kind=6->tot (exW c (value.headD default))<=60 * ndEs value:=fun hk=>qoF hc hfn (by
   rcases hk with rfl|rfl|rfl|rfl|rfl|rfl <;> simp at hf <;> simp[hf]) m2 h1
  have ht:=fun n hn=>qie hc hfn thn n m3 h4 hn;have he:=fun n hn=>qie hc hfn els n m4 h5 hn;have l0:=qjn (n:=n) (by omega);have l1:=qjn (n:=n+1) (by omega);have t0:=hc.t0;have ts:=hc.sc name;have ta:=hc.ar name;unfold stW
  by_cases k1:kind=1
  ·have:=hv (by simp[k1]);rw[if_pos k1];simp only[qaO,qa4,qa2,zLc,zLn];omega
  rw[if_neg k1]
  by_cases k2:kind=2
  ·have:=hv (by simp[k2])
   have hi:tot (exW c (index.headD default))<=60 * ndEs index:=by
    refine qoF hc hfn ?_ m1 h2;subst k2;simp at hf;simp[hf]
   rw[if_pos k2];simp only[qaO,qa4,qa2,zLc,zLn];omega
  rw[if_neg k2]
  by_cases k3:kind=3
  ·rw[if_pos k3];have h8:=hv (by simp[k3])
   cases els with
   |nil=>
    have h9:=ht (n+1) (by omega);simp only[qaO,qa4,qa2,zLc,zLn,zLa]
    omega
   |cons a r=>
    have h9:=ht (n+2) (by omega);have h10:=he (stWs c (n+2) thn).2 (by omega);simp only[qaO,qa4,qa2,zLc,zLn,zLa];omega
  rw[if_neg k3]
  by_cases k4:kind=4
  ·rw[if_pos k4];have h8:=hv (by simp[k4]);have h9:=ht (n+2) (by omega);simp only[qaO,qa4,qa2,zLc,zLn,zLa];omega
  rw[if_neg k4]
  by_cases k5:kind=5
  ·have:=hv (by simp[k5]);rw[if_pos k5];simp only[qaO,qa4,qa2,zLc,zLn];omega
  rw[if_neg k5]
  by_cases k6:kind=6
  ·have:=hv (by simp[k6]);rw[if_pos k6];simp only[qaO,qa4,qa2,zLc,zLn];omega
  rw[if_neg k6]
  by_cases k7:kind=7
  ·rw[if_pos k7];simp only[qaO,qa2,zLc,zLn];omega
  ·rw[if_neg k7];simp only[qa2];omega
theorem qie {c:CC} (hc:ShC c) {env:CEnv} (hfn:∀ k∈env.funcs,k.name.length<=24):∀ (l:List Sm) (n:Nat),qb7 l->qcr env l=0->n+2 * ndSs l<=4000000000->tot (stWs c n l).1<=60 * ndSs l/\(stWs c n l).2<=n+2 * ndSs l
 |[],n,_,h,_=>by rw[stWs];simp[qa2]
 |s::l,n,hnm,h,hN=>by
  rw[qcr] at h;rw[qb7] at hnm;rw[ndSs] at hN ⊢;obtain ⟨h1,h2⟩:=qap.1 h;have a1:=qv0 hc hfn s n hnm.1 h1 (by omega);have a2:=qie hc hfn l (stW c n s).2 hnm.2 h2 (by omega);rw[stWs];simp only[qa4];omega
end
theorem qlQ {c:CC} (hc:ShC c):∀ l:List Nm,tot (l.flatMap fun p=>[c.sc p,[33]])<=20 * l.length
 |[]=>zNr _
 |p::l=>by
  have:=qlQ hc l;have:=hc.sc p;rw[List.flatMap_cons,qa4];simp only[qaO,qa2,zLc,zLn];omega
theorem qvY {c:CC} (hc:ShC c) {env:CEnv} (hfn:∀ k∈env.funcs,k.name.length<=24) (f:FnD) (n:Nat) (hname:f.name.length<=24) (hnm:qb7 f.body) (h:qcr env f.body=0) (hN:n+2 * ndF f<=4000000000):tot (fnW c n f).1<=60 * ndF f/\(fnW c n f).2<=n+2 * ndF f:=by
 unfold ndF at hN ⊢;have h1:=qie hc hfn f.body n hnm h (by omega);have h2:=qlQ hc f.params.reverse;rw[List.length_reverse] at h2;unfold fnW;simp only[qaO,qa4,qa2,zLc,zLn,zLa];omega
theorem qof {cc:Nm->CC}:∀ (fs:List FnD) (n:Nat),(∀ f∈fs,∀ m,m+2 * ndF f<=4000000000->tot (fnW (cc f.name) m f).1<=60 * ndF f/\(fnW (cc f.name) m f).2<=m+2 * ndF f)->n+2 * ndFs fs<=4000000000->tot (fnWs cc n fs).1<=60 * ndFs fs/\(fnWs cc n fs).2<=n+2 * ndFs fs
 |[],n,_,_=>by rw[fnWs];simp[qa2]
 |f::l,n,h,hN=>by
  rw[ndFs] at hN ⊢;have a1:=h f zMs n (by omega);have a2:=qof l (fnW (cc f.name) n f).2 (fun g hg=>h g (zMo _ hg)) (by omega);rw[fnWs];simp only[qa4];omega
section
variable {P:Pr} {o:Org}
theorem qfM {z:Int} (h:0<=z) (h2:z<4294967296):(itoa z).length<=10:=by
 rw[qeE h];exact qel (by omega)
theorem qnx:∀ (l:List (Nm×Int)) (a:Int),0<=a->(∀ p∈l,0<=p.2)->∀ n,arrA a l n<=a+(l.map (·.2)).sum
 |[],a,h,_,n=>by simp[arrA];exact h
 |(x,k)::l,a,h,hl,n=>by
  have hk:0<=k:=hl (x,k) zMs;have hl':=fun p hp=>hl p (zMo (x,k) hp)
  have hs:∀ m:List (Nm×Int),(∀ p∈m,0<=p.2)->0<=(m.map (·.2)).sum:=by
   intro m
   induction m with
   |nil=>intro _;simp
   |cons q m ih=>
    intro hm;have h1:=hm q zMs;have h2:=ih fun p hp=>hm p (zMo _ hp);rw[zMc,List.sum_cons];omega
  have hsl:=hs l hl';rw[arrA,zMc,List.sum_cons];split
  ·show a<=a+(k+_);omega
  ·have:=qnx l (a+k) (by omega) hl' n;show _<=a+(k+_);omega
theorem qts (hF:FitN P o) (own:Nm):ShC (ccF P.vars (qcC P) P.funcs o own):=by
 have s0:=hF.s0;have s1:=hF.s1;have a0:=hF.a0;have a1:=hF.a1
 have hp:∀ p∈qcC P,0<=p.2:=fun p hp=>by
  obtain ⟨a,_,rfl⟩:=List.mem_map.1 hp;exact Int.natCast_nonneg _
 refine ⟨fun n=>?_,fun n=>?_,?_,?_,?_⟩
 ·refine qfM ?_ ?_
  ·unfold qgF;split <;> omega
  ·unfold qgF;split
   ·rename_i h
    have:=List.idxOf_lt_length_of_mem h;omega
   ·omega
 ·refine qfM (qlj _ _ a0 hp n) ?_;have h1:=qnx (qcC P) o.arrays a0 hp n;have h2:((qcC P).map (·.2)).sum=((totA P.arrays:Nat):Int):=qik P.arrays;rw[h2] at h1;omega
 ·exact qfM s0 (by omega)
 ·exact qfM (z:=o.scalars+1) (by omega) (by omega)
 ·exact qfM (z:=o.scalars+2) (by omega) (by omega)
theorem qse (hc:qbI P=0) (hnum:∀ f∈P.funcs,qb7 f.body) (hfit:qgE P.vars (qcC P) P.funcs o=true) (hnd:ndFs P.funcs<=2000000):tot (qmP P o)<=60+60 * ndFs P.funcs/\(fnWs (ccF P.vars (qcC P) P.funcs o) 0 P.funcs).2<=2 * ndFs P.funcs:=by
 have hv:=qkL hc;have hF:=quf hfit;have hfr:=qa6 _ _ hv.names
 have hpl:∀ f∈P.funcs,f.name.length<=24:=fun f hf=>by
  have h:=(hfr.2 _ (List.mem_append.2 (.inr (List.mem_map.2 ⟨f,hf,rfl⟩)))).2;unfold isNm at h;rw[zBa,zBa,zDe] at h;exact h.1.1
 have hb:=qof (cc:=ccF P.vars (qcC P) P.funcs o) P.funcs 0 (fun f hf m hm=>by
  obtain ⟨kn,k1,k2⟩:=hv.bodies f hf;refine qvY (qts hF f.name) (fun k hk=>?_) f m (hpl f hf) (hnum f hf) k1 hm;obtain ⟨g,g1,g2,_⟩:=k2 k hk;rw[<-g2]
  exact hpl g g1) (by omega)
 have ht:=qfM (z:=o.scalars) hF.s0 (by have:=hF.s1;omega);refine ⟨?_,by omega⟩;unfold qmP prW;rw[qa4];simp only[qaO,qa2,zLc,zLn];omega
end
end Go.Stele
namespace Go.Proofs.YtdakelgkjdaijaaGreatDoor.Cmp
open Go.GL Go.RowKit Go.Stele
open Go.Lib (decDigits itoa join)
structure TB where
 tb:Nat
 sm:Nat
 am:Nat
 S:KV
 A:KV
 g1:Nat
 g2:Nat
 sc:Nat
def TrH (k:TB) (own:Nm) (ws:List Wd) (n:Nat) (H:Heap):Prop:=∃ v Hv,GL.Acc 1 v (ws.map str) Hv []/\H=(k.tb,.cells 106 [v,int .i64 (n:Nat),int .i64 (k.sc:Nat),.atom (.map (some k.sm)),.atom (.map (some k.am)),str own])::(k.sm,.map (kvs k.S) k.g1)::(k.am,.map (kvs k.A) k.g2)::Hv
def qhg (P:Heap->Prop):LRes->Heap->Prop:=fun r H=>r=.ret (.tuple [])/\P H
def qmg (s:List UInt8) (P:Heap->Prop):LRes->Heap->Prop:=fun r H=>r=.ret (str s)/\P H
structure TBok (k:TB) (c:CC) (own:Nm):Prop where
 sc:∀ name,∃ a:Nat,a<=1000000000/\c.sc name=decDigits a/\((∃ v,GL.kvGet k.S (own++[46]++name)=some v/\v=int .i64 (a:Nat))∨(GL.kvGet k.S (own++[46]++name)=none/\(GL.kvGet k.S name).getD (int .i64 0)=int .i64 (a:Nat)))
 ar:∀ name,∃ a:Nat,a<=1000000000/\c.ar name=decDigits a/\(GL.kvGet k.A name).getD (int .i64 0)=int .i64 (a:Nat)
 t0:c.t0=decDigits k.sc
 t1:c.t1=decDigits (k.sc+1)
 t2:c.t2=decDigits (k.sc+2)
 small:k.sc<=1000000000
 own:own.length<=1000000
theorem perm3 {x y z:Nat×LObj} {A:Heap}:(x::y::z::A).Perm (A++[x,y,z]):=zPc (l₁:=[x,y,z])
theorem qa3 {x:Nat×LObj} {A:Heap}:(x::A).Perm (A++[x]):=(List.perm_append_singleton _ _).symm
theorem qed {x y:Nat×LObj} {A:Heap}:(x::y::A).Perm (A++[x,y]):=zPc (l₁:=[x,y])
theorem qm9 {A:Heap}:A.Perm (A++[]):=by rw[zLz]
theorem qcm {x:Nat×LObj} {A:Heap}:HSub A (x::A):=zhD zhr
theorem qhX {x y:Nat×LObj} {A:Heap}:HSub A (x::y::A):=zhD (zhD zhr)
theorem qrG {x:Nat×LObj} {A:Heap}:HSub [x] (x::A):=zhP pH zhn
theorem qhZ {x y:Nat×LObj} {A:Heap}:HSub [x,y] (x::y::A):=zhP pH zhp
theorem qoe {x:Nat×LObj} {A:Heap}:HSub (x::A) (A++[x]):=⟨[],by rw[zLz];exact qa3.symm⟩
theorem qoY {x y:Nat×LObj} {A:Heap}:HSub (x::y::A) (A++[x,y]):=⟨[],by rw[zLz];exact qed.symm⟩
theorem qrS {m:Nat} (h:m<4294967296):IntKind.u64.wrap (m:Int)=m:=by
 simp only[IntKind.wrap,IntKind.bits,IntKind.signed,Bool.false_and]
 simp
 omega
section
variable {C:Ctx} {e:Env} {H:Heap} {dst:Option Nat} {ty:TypeId} {pos:String} {aft:Array Edge} {g:Option (Nat×Bool)} {K:LV->Heap->Prop} {X:List PanicEntry->Heap->Prop}
theorem zsT {f:FuncId} [TEnter C.P f] (args:List Operand) {ats:Array TypeId} {avs:List LV} {P:Heap->Prop} {H1 F:Heap} (has:args.map e.ev=avs) (hp:H.Perm (H1++F)) (hc:LCalls C f avs H1 (qhg P)) (hk:∀ H',P H'->K (.tuple []) (F++H')) :
  qad C ⟨dst,.call { callee:=.value (.func f),args:=args.toArray,argTypes:=ats },ty,pos,aft,g⟩ e H K X:=
 qad.conseq (K:=fun lv H''=>∃ H',H''=H'++F/\P H'/\lv=.tuple []) (S.callH args has hp hc (by rintro v H' ⟨h,h2⟩;cases h;exact ⟨H',rfl,h2,rfl⟩) (by rintro ch H' ⟨h,_⟩;cases h))
  (by rintro lv H'' ⟨H',rfl,hP,rfl⟩;exact ⟨_,F++H',vR _,⟨[],by rw[zLz];exact zPc⟩,hk H' hP⟩)
theorem Pure.kvOr {t el:TypeId} {zv:Value} {zl lv:LV} [h:TMap C.P t el zv zl] {x y:Operand} {b clock:Nat} {m:KV} {s:List UInt8} (hm:e.ev x=.atom (.map (some b))) (hx:e.ev y=str s) (hb:(b,.map (kvs m) clock)∈H) (hg:(GL.kvGet m s).getD zl=lv) :
  GL.Pure C ⟨dst,.lookup t x y false,ty,pos,aft,g⟩ e H lv:=by
 obtain ⟨kt,h1,h2⟩:=h.und;exact hg▸GL.Pure.kvGet h1 h2 h.zero h.rep hm hx hb
theorem S.callS {f:FuncId} [TEnter C.P f] (args:List Operand) {ats:Array TypeId} {avs:List LV} {P:Heap->Prop} {s:List UInt8} {H1 F:Heap} (has:args.map e.ev=avs) (hp:H.Perm (H1++F)) (hc:LCalls C f avs H1 (qmg s P)) (hk:∀ H',P H'->K (str s) (F++H')) :
  qad C ⟨dst,.call { callee:=.value (.func f),args:=args.toArray,argTypes:=ats },ty,pos,aft,g⟩ e H K X:=
 qad.conseq (K:=fun lv H''=>∃ H',H''=H'++F/\P H'/\lv=str s) (S.callH args has hp hc (by rintro v H' ⟨h,h2⟩;cases h;exact ⟨H',rfl,h2,rfl⟩) (by rintro ch H' ⟨h,_⟩;cases h))
  (by rintro lv H'' ⟨H',rfl,hP,rfl⟩;exact ⟨_,F++H',vR _,⟨[],by rw[zLz];exact zPc⟩,hk H' hP⟩)
theorem S.callTV {fo:Operand} {f:FuncId} [TEnter C.P f] {first caps:Array Value} (args:List Operand) {ats:Array TypeId} {avs:List LV} {P:Heap->Prop} {H1 F:Heap} (hf:e.ev fo=.atom (.func (.func f) first caps))
  (has:first.toList.map .atom++args.map e.ev++caps.toList.map .atom=avs) (hp:H.Perm (H1++F)) (hc:LCalls C f avs H1 (qhg P)) (hk:∀ H',P H'->K (.tuple []) (F++H')) :
  qad C ⟨dst,.call { callee:=.value fo,args:=args.toArray,argTypes:=ats },ty,pos,aft,g⟩ e H K X:=
 qad.conseq (K:=fun lv H''=>∃ H',H''=H'++F/\P H'/\lv=.tuple []) (S.callV args hf has hp hc (by rintro v H' ⟨h,h2⟩;cases h;exact ⟨H',rfl,h2,rfl⟩) (by rintro ch H' ⟨h,_⟩;cases h))
  (by rintro lv H'' ⟨H',rfl,hP,rfl⟩;exact ⟨_,F++H',vR _,⟨[],by rw[zLz];exact zPc⟩,hk H' hP⟩)
end
attribute [local irreducible] LOps qae qad LCalls Go.GL.Pure qax qaj qac LQ LAny qaE qal LS
section
variable {B0:Nat} {w0:World} {k:TB} {own:Nm} {c:CC} {ws:List Wd} {n:Nat} {H:Heap}
theorem qaH (h:TrH k own ws n H) (W:List Wd) {a:LV} (ha:GL.elems a=some (W.map str)) (hr:ws.length+W.length<=1000000000):LCalls (KC B0 w0) 85 [ptr k.tb 0,a] H (qhg (TrH k own (ws++W) n)):=by
 obtain ⟨v,Hv,hacc,rfl⟩:=h;have h1:(ws.map str).length=ws.length:=zLm _;have h2:(W.map str).length=W.length:=zLm _;refine cI Tryz.func85 rfl (n:=13) rfl rfl rfl ?_;refine gaa ?_;refine oP (pL (c:=v) rfl zm0 rfl) rfl ?_;refine oP (pM (lv:=a) rfl) rfl ?_;refine oS (sG perm3 rfl hacc ha (qef W) (qgf W) zo fun v' H' hacc'=>?_) rfl;refine gab ?_;refine oS (sS (cs':=[v',int .i64 (n:Nat),int .i64 (k.sc:Nat),.atom (.map (some k.sm)),.atom (.map (some k.am)),str own]) rfl pH (Acc.cell hacc').1 rfl rfl (Acc.cell hacc').2 rfl ?_) rfl;refine gaf ?_;exact rO rfl rN zhr ⟨rfl,v',H',by rw[zMa];exact hacc',rfl⟩
theorem qfP (hG:GW B0 w0) (h:TrH k own ws n H) (hn:n<=1000000000000):LCalls (KC B0 w0) 200 [ptr k.tb 0] H (qmg (labW n) (TrH k own ws (n+1))):=by
 obtain ⟨v,Hv,hacc,rfl⟩:=h
 have hd:(Go.Lib.decDigits n).length<=20:=by
  rw[Go.Lib.decDigits_length];exact zNt (qfN 12 n zo) zDd
 refine cI Tryz.func200 rfl (n:=18) rfl rfl rfl ?_;refine gaa ?_;refine oS (sF [_] rfl (qcP hG n zo) ?_) rfl;refine gac ?_
 first|(refine oS (sS (cs':=[_,_,_,_,_,_]) rfl pH rfl rfl rfl rfl rfl ?_) rfl)|skip
 refine gaa ?_;exact rR rfl (zra rfl) zhr ⟨rfl,v,Hv,hacc,rfl⟩
theorem qbK (hG:GW B0 w0) (hk:TBok k c own) (h:TrH k own ws n H) (name:List UInt8) (hn:name.length<=1000000):LCalls (KC B0 w0) 87 [ptr k.tb 0,str name] H (qmg (c.sc name) (TrH k own ws n)):=by
 obtain ⟨a,ha1,ha2,ha3⟩:=hk.sc name;have ho:=hk.own;have h0:=h;obtain ⟨v,Hv,hacc,rfl⟩:=h;rw[ha2];refine cI Tryz.func87 rfl (n:=32) rfl rfl rfl ?_;refine gai ?_;refine zQ32 ?_;rcases ha3 with ⟨v3,hv3,rfl⟩|⟨hv3,hv4⟩
 ·refine qP (Pure.kvHit2 rfl rfl zm1 hv3) rfl ?_;refine gac ?_;refine oC rfl (fun hc=>?_) (fun hc=>?_)
  ·refine gag ?_;refine oS (sF [_] rfl (qcP hG a zo) ?_) rfl;refine gab ?_;exact rR rfl (zra rfl) zhr ⟨rfl,h0⟩
  ·cases hc
 ·refine qP (Pure.kvMiss2 rfl rfl zm1 hv3) rfl ?_;refine gac ?_;refine oC rfl (fun hc=>?_) (fun hc=>?_)
  ·cases hc
  ·refine gaa ?_;refine oP (Pure.kvOr rfl rfl zm1 hv4) rfl ?_;refine oS (sF [_] rfl (qcP hG a zo) ?_) rfl;refine gaf ?_;exact rR rfl (zra rfl) zhr ⟨rfl,h0⟩
theorem qdb (hG:GW B0 w0) (hk:TBok k c own) (h:TrH k own ws n H) (i:Nat) (hi:i<=2):LCalls (KC B0 w0) 86 [ptr k.tb 0,int .i64 (i:Nat)] H (qmg (decDigits (k.sc+i)) (TrH k own ws n)):=by
 have h0:=h;obtain ⟨v,Hv,hacc,rfl⟩:=h;have hs:=hk.small;have e1:int .i64 ((k.sc:Int)+(i:Int))=int .i64 ((k.sc+i:Nat):Int):=qak zo;refine cI Tryz.func86 rfl (n:=12) rfl rfl rfl ?_;refine gaa ?_;refine oS (sF [_] (by show [_]=_;exact congrArg (fun x=>[x]) e1) (qcP hG (k.sc+i) zo) ?_) rfl;refine gaf ?_;exact rR rfl (zra rfl) zhr ⟨rfl,h0⟩
theorem qhQ (hG:GW B0 w0) (hk:TBok k c own) (h:TrH k own ws n H) (hr:ws.length+(qcU c).length<=1000000000):LCalls (KC B0 w0) 229 [ptr k.tb 0] H (qhg (TrH k own (ws++qcU c) n)):=by
 have e:qcU c=[c.t2,[33],c.t1,[33],c.t2,[64],c.t1,[64],[60]]:=rfl;rw[e] at hr ⊢;rw[hk.t1,hk.t2];rw[hk.t1,hk.t2] at hr;refine cI Tryz.func229 rfl (n:=15) rfl rfl rfl ?_;refine gag ?_;refine oS (S.callS (F:=[]) [_,_] rfl qm9 (qdb hG hk h 1 zDd) fun H1 h1=>?_) rfl;refine gab ?_;refine oS (S.callS (H1:=H1) (F:=[]) [_,_] rfl qm9 (qdb hG hk h1 2 zDd) fun H2 h2=>?_) rfl;refine gao ?_;refine oS (sL [_,_,_,_,_,_,_,_,_] rfl (qaU [_,_,_,_,_,_,_,_,_]) rfl rfl rfl ?_) rfl;refine oS (zsT (H1:=H2) (F:=[]) [_,_] rfl qm9 (qaH h2 [_,_,_,_,_,_,_,_,_] rfl hr) fun H3 h3=>?_) rfl;refine gaf ?_;exact rO rfl rN zhr ⟨rfl,h3⟩
end
end Go.Proofs.YtdakelgkjdaijaaGreatDoor.Cmp
namespace Go.Proofs.YtdakelgkjdaijaaGreatDoor.Cmp
open Go.GL Go.RowKit Go.Stele
open Go.Lib (decDigits itoa join)
structure EnvOk (env:CEnv):Prop where
 sc:∀ s,qcA env s=0->s.length<=24
 fn:∀ k∈env.funcs,k.name.length<=24
theorem EnvOk.call {env:CEnv} (h:EnvOk env) {name:Nm} {m:Nat} (hc:callE env name m=0):name.length<=24:=by
 unfold callE at hc;split at hc
 ·rename_i e;rw[e];decide
 split at hc
 ·rename_i e;rw[e];decide
 unfold CEnv.fn at hc
 cases hf:env.funcs.find? fun f=>decide (f.name=name) with
 |none=>
  rw[hf] at hc;simp only at hc
  split at hc <;> cases hc
 |some k=>
  have e:k.name=name:=zt (List.find?_some (p:=fun g:FSum=>decide (g.name=name)) hf);rw[<-e];exact h.fn k (List.mem_of_find?_eq_some hf)
section
variable {C:Ctx} {e:Env} {H:Heap} {dst:Option Nat} {ty:TypeId} {pos:String} {aft:Array Edge} {g:Option (Nat×Bool)} {K:LV->Heap->Prop} {X:List PanicEntry->Heap->Prop}
theorem qad.callT {f:FuncId} [TEnter C.P f] (args:List Operand) {ats:Array TypeId} {avs:List LV} {P:Heap->Prop} (has:args.map e.ev=avs) (hc:LCalls C f avs H (qhg P)) (hk:∀ H',P H'->K (.tuple []) H') :
  qad C ⟨dst,.call { callee:=.value (.func f),args:=args.toArray,argTypes:=ats },ty,pos,aft,g⟩ e H K X:=
 qad.conseq (zsT (F:=[]) (K:=fun lv H'=>K lv H') (X:=X) args has (by rw[zLz]) hc (fun H' h=>hk H' h)) (fun lv H' h=>⟨lv,H',vR _,zhR _,h⟩)
end
attribute [local irreducible] LOps qae qad LCalls Go.GL.Pure qax qaj qac LQ LAny qaE qal LS
section
variable {B0:Nat} {w0:World}
abbrev exB (b:Nat) (op:Nm) (num:Nat) (name:Nm) (args:List Ex):Nat×LObj:=(b,.cells 193 [str op,int .u32 (num:Int),str name,.list (args.map encE)])
def qnG (B0:Nat) (w0:World) (k:TB) (own:Nm) (c:CC) (env:CEnv) (m:Nat):Prop:=∀ (x:Ex) (ws:List Wd) (n:Nat) (H:Heap),ndE x<=m->numE x->errE env x=0->TrH k own ws n H->ws.length+(exW c x).length<=1000000000->LCalls (KC B0 w0) 163 [ptr k.tb 0,encE x] H (qhg (TrH k own (ws++exW c x) n))
theorem qkJ {k:TB} {own:Nm} {c:CC} {env:CEnv} {m:Nat} (ih:qnG B0 w0 k own c env m) (l:List Ex) (ws:List Wd) (n:Nat) (H:Heap) (hm:ndEs l<=m) (hl:l.length<=2000000) (hnum:qbg l) (he:qb6 env l=0) (h:TrH k own ws n H) (hr:ws.length+(exWl c l).flatten.length<=1000000000) :
  LCalls (KC B0 w0) 198 [ptr k.tb 0,.list (l.map encE)] H (qhg (TrH k own (ws++(exWl c l).flatten) n)):=by
 have hall:(l.map encE).length=l.length:=zLm _;refine cI Tryz.func198 rfl (n:=16) rfl rfl rfl ?_;refine gaa ?_
 refine oL (fun kk ls H'=>∃ (pre l1:List Ex) (ws':List Wd),l=pre++l1/\kk=l1.length/\ls=[(0,ptr k.tb 0),(6,.list (l.map encE)),(7,int .i64 ((l.map encE).length:Int)),(8,int .i64 (pre.length:Int))]/\TrH k own ws' n H'/\ws'++(exWl c l1).flatten=ws++(exWl c l).flatten/\qb6 env l1=0/\qbg l1)
  ⟨l.length,_,_,⟨[],l,ws,rfl,rfl,rfl,h,rfl,he,hnum⟩,⟨rfl,rfl,rfl,rfl,trivial⟩,zhR _⟩ ?_
 rintro kk ls H' ⟨pre,l1,ws',hLe,rfl,rfl,hT,hW,he1,hn1⟩ j hj
 have hb2:pre.length<=2000000:=by
  have:=congrArg List.length hLe;rw[zLa] at this;omega
 refine gaj ?_;refine oC rfl (fun hc=>?_) (fun hc=>?_)
 ·have hlen:=zt hc;rw[zLm,hLe,zLa] at hlen
  obtain ⟨a,l2,rfl⟩:∃ a l2,l1=a::l2:=by
   cases l1 with
   |nil=>simp at hlen
   |cons a l2=>exact ⟨a,l2,rfl⟩
  have ham:ndE a<=ndEs l:=qkB (by rw[hLe];exact List.mem_append_right _ zMs);rw[qb6] at he1;rw[qbg] at hn1;rw[exWl,List.flatten_cons,<-zAs] at hW;obtain ⟨h1,h2⟩:=qap.1 he1;have hlw:=congrArg List.length hW;rw[zLa,zLa,zLa] at hlw;refine gam ?_;refine oP (xR (el':=encE a) (cs:=[_,_,_,_]) rfl rfl zo (by rw[hLe];exact Chk.get_mid encE pre a l2) rfl rfl) rfl ?_;refine gad ?_;refine oS (sA fun b8=>?_) rfl;refine gac ?_;refine oS (zsT (H1:=H') (F:=[_]) [_,_] rfl qa3 (ih a ws' n H' zo hn1.1 h1 hT zo) fun H2 hT2=>?_) rfl;refine gan ?_;exact ⟨l2.length,_,_,Nat.lt_succ_self _,⟨pre++[a],l2,ws'++exW c a,by rw[hLe];simp,rfl,rfl,hT2,hW,h2,hn1.2⟩,⟨rfl,rfl,rfl,qak (by simp),trivial⟩,qcm,hj⟩
 ·have hlen:=zf hc;rw[zLm,hLe,zLa] at hlen
  obtain rfl:l1=[]:=by
   cases l1 with
   |nil=>rfl
   |cons a l2=>simp at hlen;omega
  rw[exWl,List.flatten_nil,zLz] at hW;refine gab ?_;exact rO hj rN zhr ⟨rfl,by rw[<-hW];exact hT⟩
theorem qmA {k:TB} {own:Nm} {c:CC} {env:CEnv} {m:Nat} (ih:qnG B0 w0 k own c env m) (b2 b3:Nat) (op:Nm) (num:Nat) (name:Nm) (x y:Ex) (ws:List Wd) (n:Nat) (H:Heap) (hx:ndE x<=m) (hy:ndE y<=m) (nx:numE x) (ny:numE y) (ex:errE env x=0) (ey:errE env y=0) (h:TrH k own ws n H)
  (A B:List Wd) {a b:LV} (ha:GL.elems a=some (A.map str)) (hb:GL.elems b=some (B.map str)) (hr:ws.length+(A++exW c x++B++exW c y).length<=1000000000) :
  LCalls (KC B0 w0) 228 [a,b,ptr b2 0,ptr b3 0] ((b2,.cells 103 [ptr k.tb 0])::exB b3 op num name [x,y]::H)
   (qhg (fun H'=>∃ H2,H'=(b2,.cells 103 [ptr k.tb 0])::exB b3 op num name [x,y]::H2/\TrH k own (ws++(A++exW c x++B++exW c y)) n H2)):=by
 simp only[zLa] at hr;refine cI Tryz.func228 rfl (n:=24) rfl rfl rfl ?_;refine gaa ?_;refine oP (pM (lv:=a) rfl) rfl ?_;refine oS (zsT (H1:=H) (F:=[_,_]) [_,_] rfl qed (qaH h A ha zo) fun H2 h2=>?_) rfl;refine gab ?_;refine zQ42 ?_;refine LAny.take (i:=3) qhZ rfl zk zk zk rfl (xR (el':=encE x) (cs:=[_,_,_,_]) rfl rfl zDd rfl rfl rfl) ?_;refine aT 4 rfl rfl (pR (cs':=[_,_,_,_]) rfl rfl rfl) ?_;refine aL ?_ qhZ;refine lO 5 (lS (H1:=H2) (F:=[_,_]) rfl (.inl rfl) rfl qed zhr (qad.callT [_,_] rfl (ih x _ n H2 hx nx ex h2 (by rw[zLa];omega)) fun H3 h3=>?_));refine lD zk ?_;refine qN ?_;refine cW qoY ?_;refine gaa ?_;refine oP (pM (lv:=b) rfl) rfl ?_;refine oS (zsT (H1:=H3) (F:=[_,_]) [_,_] rfl qed (qaH h3 B hb (by simp only[zLa];omega)) fun H4 h4=>?_) rfl;refine gaf ?_;refine zQ42 ?_;refine LAny.take (i:=3) qhZ rfl zk zk zk rfl (xR (el':=encE y) (cs:=[_,_,_,_]) rfl rfl zDd rfl rfl rfl) ?_;refine aT 4 rfl rfl (pR (cs':=[_,_,_,_]) rfl rfl rfl) ?_;refine aL ?_ qhZ;refine lO 5 (lS (H1:=H4) (F:=[_,_]) rfl (.inl rfl) rfl qed zhr (qad.callT [_,_] rfl (ih y _ n H4 hy ny ey h4 (by simp only[zLa];omega)) fun H5 h5=>?_));refine lD zk ?_
 exact rO rfl rN qoY ⟨rfl,H5,rfl,by
  simp only[zAs] at h5 ⊢
  exact h5⟩
end
end Go.Proofs.YtdakelgkjdaijaaGreatDoor.Cmp
