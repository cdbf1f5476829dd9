/- Texts joined: Fmt4, GlSet, GlInts, GlBytes, GlKv, PeepSpec, LexCat, LexJoin, PeepWords, PeepOpt, PeepRef, PeepAsm, AsmSpec, PeepLib, AsmA, PeepM. -/
import Derived.Lib.Join
import Derived.Lib.Split
import Derived.Lib.Strings
import Derived.Lib.SlTrimSet
import Derived.Lib.SplitLaws
import Derived.Shelf.Strings.SlTrimAscii
import Derived.Test.YtpbbgkoalnonoaaGreatDoorBRowM22
import Derived.Test.YtpbbgkoalnonoaaGreatDoorBRowM24
set_option linter.unusedVariables false
set_option linter.unusedSimpArgs false
set_option maxRecDepth 100000
set_option maxHeartbeats 4000000
namespace Go.Proofs.YtpbbgkoalnonoaaGreatDoor
open Go Go.Shelf Go.RowKit
section
variable {P:Program} {ρ:Ren}
set_option maxHeartbeats 4000000 in
set_option maxRecDepth 100000 in
theorem builder_string_row (L:Lays.n169 P ρ) (X:Builder.Extra P ρ) (b g:Nat) (p:Value) (l:List UInt8) (cur:Array Value) (w:World) (hbk:w.heap[b]? = some (.cells #[p,.slice (some ⟨g,0,none⟩) l.length cur.size] (ρ.t 72) (0,0)))
  (hg:w.heap[g]? = some (.cells cur (ρ.t 5) (0,0))) (h0:l≠[]) (hn:l.length≤cur.size) (hbig:l.length≤9223372036854775807) (hcell:∀ (j:Nat) (x:UInt8),l[j]? = some x→cur[j]? = some (.int .u8 x.toNat)) :
  Calls P (ρ.f 169) #[.pointer (some ⟨b,0,none⟩)] w fun e w'=>e=.returned (.string ⟨l.toArray⟩)∧w'=w.drew.freeze ⟨g,0,none⟩ l.length:=by
 have hl0:l.length≠0:=by simpa using h0
 have c1:w.drew.cell? ⟨b,1,none⟩=some (.slice (some ⟨g,0,none⟩) l.length cur.size):=by
  have:w.drew.heap[b]? = some (.cells #[p,.slice (some ⟨g,0,none⟩) l.length cur.size] (ρ.t 72) (0,0)):=hbk
  rw[Lib.cell_of_heap this];rfl
 have hSD:(Builtin.unsafeSliceData_ #[(ρ.t 37)] (ρ.t 127) #[.slice (some ⟨g,0,none⟩) l.length cur.size]).run P w.drew=.ok (.pointer (some ⟨g,0,none⟩)) w.drew:=
  Lib.run_unsafeSliceData_row _ _ _ _ _ _ (by omega)
 have hUS:(Builtin.unsafeString_ #[(ρ.t 127),(ρ.t 3)] (ρ.t 9) #[.pointer (some ⟨g,0,none⟩),.int .i64 l.length]).run P w.drew=.ok (.string ⟨l.toArray⟩) (w.drew.freeze ⟨g,0,none⟩ l.length):=by
  refine Lib.run_unsafeString_row w.drew (ρ.t 127) (ρ.t 3) (ρ.t 9) (ρ.t 5) L.t127 X.cellsByte g cur.size (by have hg':w.drew.heap[g]? = some (.cells cur (ρ.t 5) (0,0)):=hg;simp[World.shape?,hg']) l h0 hn hbig ?_
  intro j x hx
  have hg':w.drew.heap[g]? = some (.cells cur (ρ.t 5) (0,0)):=hg
  have:=hcell j x hx
  rw[Go.GL.add_mk]
  simp[World.cell?,hg',this]
 have mixed:=L.mixed
 have t72:=L.t72;have a72:=L.a72;have z72:=L.z72;have v72:=L.v72;have u72:=run_underlying L.t72
 have t70:=L.t70;have a70:=L.a70;have z70:=L.z70;have v70:=L.v70;have u70:=run_underlying L.t70
 have t37:=L.t37;have a37:=L.a37;have z37:=L.z37;have v37:=L.v37;have u37:=run_underlying L.t37
 have t127:=L.t127;have a127:=L.a127;have z127:=L.z127;have v127:=L.v127;have u127:=run_underlying L.t127
 have t3:=L.t3;have a3:=L.a3;have z3:=L.z3;have v3:=L.v3;have u3:=run_underlying L.t3
 have t9:=L.t9;have a9:=L.a9;have z9:=L.z9;have v9:=L.v9;have u9:=run_underlying L.t9
 have t5:=X.t5;have a5:=X.a5;have z5:=X.z5;have v5:=X.v5;have u5:=run_underlying X.t5
 go_enter L.f169,Body.n169_ntmps ρ
 go_wp2
 go_region_o
 all_goals (go_wp2;go_ret;exact ⟨rfl,rfl⟩)
end
open Go.GL Go.Stele
theorem lays169:Lays.n169 Tryz.prog Tryz.lays156_ren:={ Tryz.lays156 with }
section
variable {B0:Nat} {w0:World}
theorem fr_freeze {C:Ctx} {w:World} {L:Live} {H:Heap} (hH:RelH C w L H) {g n:Nat} (hm:g∈keys H) (hb:C.B0≤g):Fr (keys H) w L (w.drew.freeze ⟨g,0,none⟩ n) L []∧RelH C (w.drew.freeze ⟨g,0,none⟩ n) L []:=by
 have hbl:∀ c,c≠g→(w.drew.freeze ⟨g,0,none⟩ n).heap[c]? = w.heap[c]? := fun c hc=>by
  unfold World.freeze
  split
  ·rfl
  ·simp only[Array.getElem?_modify]
   rw[if_neg (Ne.symm hc)]
   rfl
 have hsz:(w.drew.freeze ⟨g,0,none⟩ n).heap.size=w.heap.size:=by
  unfold World.freeze
  split
  ·rfl
  ·simp
 have hsh:∀ c,(w.drew.freeze ⟨g,0,none⟩ n).shape? c=w.shape? c:=fun c=>by
  by_cases hc:c=g
  ·subst hc
   unfold World.freeze
   split
   ·rfl
   ·simp only[World.shape?,Array.getElem?_modify,if_true]
    show (match Option.map _ w.heap[c]? with|some (Obj.cells c e _)=>some (e,c.size)|_=>none)=_
    cases w.heap[c]? with
    |none=>rfl
    |some o=>cases o <;> rfl
  ·exact shape_of_heap (hbl c hc)
 have hce:∀ c i,(w.drew.freeze ⟨g,0,none⟩ n).cell? ⟨c,i,none⟩=w.cell? ⟨c,i,none⟩:=fun c i=>by
  by_cases hc:c=g
  ·subst hc
   unfold World.freeze
   split
   ·rfl
   ·simp only[World.cell?,Array.getElem?_modify,if_true]
    show (match Option.map _ w.heap[c]? with|some (Obj.cells c e _)=>_|_=>none)=_
    cases w.heap[c]? with
    |none=>rfl
    |some o=>cases o <;> rfl
  ·exact cell_of_heap (hbl c hc) i
 have hos:(w.drew.freeze ⟨g,0,none⟩ n).os=w.os∧(w.drew.freeze ⟨g,0,none⟩ n).tape=w.tape∧(w.drew.freeze ⟨g,0,none⟩ n).output=w.output:=by
  unfold World.freeze
  split <;> exact ⟨rfl,rfl,rfl⟩
 exact ⟨⟨hos.1,hos.2.1,hos.2.2,⟨Nat.le_of_eq hsz.symm,fun c _=>hsh c,fun c i _=>hce c i,fun _=>zNr _⟩,fun c _ hc=>hbl c (fun h=>hc (h▸hm)),fun _ _ _=>rfl,by simp⟩,
  ⟨hH.base.trans ⟨hos.1,hos.2.1,hos.2.2,Nat.le_of_eq hsz.symm,fun c hc=>hbl c zo⟩,hH.lbase,by rw[hsz];exact hH.b0,fun c hc=>hH.wf c (by rw[hsz] at hc;exact hc),List.nodup_nil,by simp⟩⟩
theorem string_spec (b:Nat) (l:List UInt8) (H:Heap) (hB:BH b l H) (hlen:l.length≤10000000000):LCalls (KC B0 w0) 56 [ptr b 0] H (Ret (str l)):=fun xs w L hv hH=>by
 obtain ⟨p,v,Hv,hp,hacc,rfl⟩:=hB
 simp only[RepL] at hv
 obtain ⟨y,ys,rfl,hy,rfl⟩:=hv
 simp only[Rep] at hy
 subst hy
 obtain ⟨hb0,hbs,hl,zs,hx1,hx2⟩:=hH.objs _ zMs
 simp only at hb0 hbs hl hx1 hx2
 simp only[RepL] at hx2
 obtain ⟨a,as1,rfl,ha,c,as2,rfl,hc,rfl⟩:=hx2
 simp only[Rep] at hc
 subst hc
 cases hacc with
 |nil=>
  refine (Any.Builder_String_nil (P:=Tryz.prog) lays169 Tryz.Builder_Extra_156 w.heap.size b a w hx1).mono fun e w' he=>?_
  obtain ⟨rfl,hb⟩:=he
  obtain ⟨h1,h2⟩:=fr_below (hH.sub (List.nil_sublist _)) hb
  exact ⟨str [],[],L,h1.wide (by simp),h2,rep_atom,rfl,rfl⟩
 |row h0 h1 h2=>
  rename_i g xs
  obtain ⟨hg0,hgs,hgl,ws,hw1,hw2⟩:=hH.objs _ (zMo _ (List.mem_singleton.2 rfl))
  simp only at hg0 hgs hgl hw1
  have:=repL_atoms_eq hw2
  subst this
  have hcell:∀ (j:Nat) (x:UInt8),l[j]? = some x→ws.toArray[j]? = some (Value.int .u8 x.toNat):=fun j x hx=>by
   have hj:(bytV l)[j]? = some (Value.int .u8 x.toNat):=by simp[bytV,hx]
   rw[←h2,List.getElem?_take] at hj
   split at hj
   ·simpa using hj
   ·cases hj
  refine (builder_string_row (P:=Tryz.prog) lays169 Tryz.Builder_Extra_156 b g a l ws.toArray w hx1 hw1 h0 (by simpa using h1) zo hcell).mono fun e w' he=>?_
  obtain ⟨rfl,rfl⟩:=he
  obtain ⟨f1,f2⟩:=fr_freeze (n:=l.length) hH (g:=g) (by simp) hg0
  exact ⟨str l,[],L,f1,f2,rep_atom,rfl,rfl⟩
end
end Go.Proofs.YtpbbgkoalnonoaaGreatDoor
namespace Go.GL
open Go.RowKit
structure SetMap (es:Array MapEntry) (p:List UInt8→Bool):Prop where
 keys:∀ e∈es.toList,∃ s:List UInt8,e.key=.string ⟨s.toArray⟩∧e.val=.bool true∧p s=true
 all:∀ s,p s=true→∃ e∈es.toList,e.key=.string ⟨s.toArray⟩
theorem bytes_beq (a b:List UInt8):((⟨a.toArray⟩:ByteArray) == ⟨b.toArray⟩)=decide (a=b):=by
 show (a.toArray == b.toArray)=_
 rw[Bool.eq_iff_iff]
 simp
theorem findNow_in (k:List UInt8):∀ (es:List MapEntry) (i:Nat),(∀ e∈es,∃ s:List UInt8,e.key=.string ⟨s.toArray⟩∧e.val=.bool true)→(∃ e∈es,e.key=.string ⟨k.toArray⟩) →
  ∃ (j:Nat) (e:MapEntry),Instr.findNow .string (.string ⟨k.toArray⟩) es i=some (some (i+j,.bool true))∧es[j]? = some e∧e.key=.string ⟨k.toArray⟩
 |[],_,_,h=>by obtain ⟨e,he,_⟩:=h;cases he
 |e::es,i,h,hk=>by
  obtain ⟨s,h1,h2⟩:=h e List.mem_cons_self
  by_cases hs:k=s
  ·refine ⟨0,e,?_,rfl,by rw[h1,hs]⟩
   have hb:((⟨k.toArray⟩:ByteArray) == ⟨s.toArray⟩)=true:=by rw[bytes_beq,decide_eq_true hs]
   simp only[Instr.findNow,h1,Instr.sameNow,hb,h2,Nat.add_zero]
  ·have hb:((⟨k.toArray⟩:ByteArray) == ⟨s.toArray⟩)=false:=by rw[bytes_beq,decide_eq_false hs]
   obtain ⟨e',he',hk'⟩:=hk
   have hin:e'∈es:=by
    rcases zMi.1 he' with rfl|h3
    ·rw[h1] at hk'
     have:s=k:=by simpa using hk'
     exact absurd this.symm hs
    ·exact h3
   obtain ⟨j,e2,g1,g2,g3⟩:=findNow_in k es (i+1) (fun x hx=>h x (zMo _ hx)) ⟨e',hin,hk'⟩
   refine ⟨j+1,e2,?_,g2,g3⟩
   simp only[Instr.findNow,h1,Instr.sameNow,hb]
   rw[g1]
   congr 3
   omega
section
variable {C:Ctx} {e:Env} {H:Heap} {dst:Option Nat} {ty:TypeId} {pos:String} {aft:Array Edge} {g:Option (Nat×Bool)} {K:LV→Heap→Prop} {X:List PanicEntry→Heap→Prop} {x y:Operand}
theorem run_checkStr {w:World} {kt:TypeId} (hkt:C.P.underlying kt=some .string) (b:Bool) (k:ByteArray):(Instr.checkKey b 10000 kt (.string k)).run C.P w=.ok () w:=by
 have hck:Instr.checkKey b 10000 kt (.string k)=Instr.checkKey b (9999+1) kt (.string k):=rfl
 rw[hck,Instr.checkKey]
 simp only[Sem.run_bind,run_underlying' hkt,Result.andThen_ok,Sem.run_pure]
theorem S.setAdd {t kt el:TypeId} (ht:C.P.underlying t=some (.map kt el)) (hkt:C.P.underlying kt=some .string) {b clock:Nat} {es:Array MapEntry} {p:List UInt8→Bool} {F:Heap} {m z:Operand} {k:List UInt8} (hm:e.ev m=.atom (.map (some b))) (hx:e.ev x=str k) (hz:e.ev z=bool true)
  (hp:Pick (b,.obj (.map es clock)) H F) (hs:SetMap es p) (hk:∀ es' clock',SetMap es' (fun s=>p s || decide (s=k))→K (.atom undef) ((b,.obj (.map es' clock'))::F)):LStep C ⟨dst,.insert t m x z,ty,pos,aft,g⟩ e H K X:=by
 by_cases hin:p k=true
 ·refine LStep.at1 hp fun ρ w L h hH=>?_
  obtain ⟨hb0,hbs,hl,hx1,hx2⟩:=hH.objs _ (List.mem_singleton.2 rfl)
  simp only at hb0 hbs hl hx1 hx2
  have h3:execOp ρ ⟨dst,.insert t m x z,ty,pos,aft,g⟩=(do Instr.mapUpdate t (ρ m) (ρ x) (ρ z);Pure.pure .skip):=rfl
  obtain ⟨j,e2,g1,g2,g3⟩:=findNow_in k es.toList 0 (fun e he=>by obtain ⟨s,h1,h2,_⟩:=hs.keys e he;exact ⟨s,h1,h2⟩) (hs.all k hin)
  have hf:(Instr.findKey kt (.string ⟨k.toArray⟩) es.toList).run C.P w=.ok (some (0+j,.bool true)) w:=by
   simp only[Instr.findKey,Sem.run_bind,run_underlying' hkt,Result.andThen_ok,g1,Sem.run_pure]
  have hg:(getObj b).run C.P w=.ok (.map es clock) w:=by simp only[getObj,Sem.run,hx1]
  have hg2:es[j]? = some e2:=by simpa using g2
  have hst:(Instr.keyThatStays (((es[0+j]?).map (·.key)).getD (.string ⟨k.toArray⟩)) (.string ⟨k.toArray⟩)).run C.P w=.ok (.string ⟨k.toArray⟩) w:=by
   rw[Nat.zero_add,hg2]
   simp only[Option.map_some,Option.getD_some,g3]
   unfold Instr.keyThatStays
   rw[if_pos (by simp only[Instr.sameBits];rw[bytes_beq];simp)]
   rfl
  rw[h3,atom_of h hm,atom_of h hx,atom_of h hz]
  simp only[Instr.mapUpdate,Sem.run_bind,run_underlying' ht,Result.andThen_ok,hg,run_checkStr hkt,hf,hst]
  have hset:∀ o',(setObj b o').run C.P w=.ok () (setW w b o'):=fun o'=>run_setObj hx1 rfl
  rw[hset]
  refine left_obj (w':=setW w b _) hH rfl rfl rfl rfl (by simp[setW]) (fun c hc=>setW_other hc) (setW_self hbs) (fun _=>rep_atom) (hk _ clock ⟨fun e' he'=>?_,fun s hs'=>?_⟩)
  ·rw[Nat.zero_add] at he'
   obtain ⟨i,hi,rfl⟩:=List.mem_iff_getElem.1 he'
   simp only[Array.length_toList,Array.size_modify] at hi
   rw[Array.getElem_toList,Array.getElem_modify]
   split
   ·exact ⟨k,rfl,rfl,by simp⟩
   ·obtain ⟨s,h1,h2,h4⟩:=hs.keys es[i] (by simp)
    exact ⟨s,h1,h2,by simp[h4]⟩
  ·have hps:p s=true:=by
    rcases Bool.or_eq_true_iff.1 hs' with h4|h4
    ·exact h4
    ·rw[zt h4];exact hin
   obtain ⟨e3,h5,h6⟩:=hs.all s hps
   obtain ⟨i,hi,rfl⟩:=List.mem_iff_getElem.1 h5
   simp only[Array.length_toList] at hi
   rw[Array.getElem_toList] at h6
   rw[Nat.zero_add]
   by_cases hij:j=i
   ·refine ⟨{ es[i] with key:=.string ⟨k.toArray⟩,val:=.bool true },?_,?_⟩
    ·rw[List.mem_iff_getElem]
     refine ⟨i,by simpa using hi,?_⟩
     rw[Array.getElem_toList,Array.getElem_modify,if_pos hij]
    ·subst hij
     rw[Array.getElem?_eq_getElem hi] at hg2
     obtain rfl:=Option.some.inj hg2
     rw[g3] at h6
     exact h6
   ·refine ⟨es[i],?_,h6⟩
    rw[List.mem_iff_getElem]
    refine ⟨i,by simpa using hi,?_⟩
    rw[Array.getElem_toList,Array.getElem_modify,if_neg hij]
 ·refine S.insert ht hkt hm hx hz hp (fun e he=>?_) (hk _ _ ⟨fun e' he'=>?_,fun s hs'=>?_⟩)
  ·obtain ⟨s,h1,_,h2⟩:=hs.keys e he
   refine ⟨_,h1,?_⟩
   rw[bytes_beq]
   intro h3
   rw[zt h3] at hin
   exact hin h2
  ·rw[Array.toList_push] at he'
   rcases List.mem_append.1 he' with h1|h1
   ·obtain ⟨s,h2,h3,h4⟩:=hs.keys e' h1
    exact ⟨s,h2,h3,by simp[h4]⟩
   ·obtain rfl:=List.mem_singleton.1 h1
    exact ⟨k,rfl,rfl,by simp⟩
  ·rw[Array.toList_push]
   rcases Bool.or_eq_true_iff.1 hs' with h4|h4
   ·obtain ⟨e,h5,h6⟩:=hs.all s h4
    exact ⟨e,List.mem_append_left _ h5,h6⟩
   ·exact ⟨_,List.mem_append_right _ (List.mem_singleton.2 rfl),by rw[zt h4]⟩
theorem Pure.setGet {t kt el:TypeId} (ht:C.P.underlying t=some (.map kt el)) (hkt:C.P.underlying kt=some .string) (hz:∀ w,(zeroValue el).run C.P w=.ok (.bool false) w) {b clock:Nat} {es:Array MapEntry} {p:List UInt8→Bool} {k:List UInt8} (hm:e.ev x=.atom (.map (some b))) (hx:e.ev y=str k)
  (hb:(b,.obj (.map es clock))∈H) (hs:SetMap es p):Pure C ⟨dst,.lookup t x y false,ty,pos,aft,g⟩ e H (bool (p k)):=fun ρ w L h hH=>by
 obtain ⟨_,_,_,hx1,_⟩:=hH.objs _ hb
 simp only at hx1
 refine ⟨.bool (p k),rep_atom,fun w' ha=>?_⟩
 have hw:w'.heap[b]? = some (.map es clock):=(ha.1 _ hb).trans hx1
 have h3:execOp ρ ⟨dst,.lookup t x y false,ty,pos,aft,g⟩=(do Pure.pure (.value (←Instr.lookup t (ρ x) (ρ y) false))):=rfl
 have hg:(getObj b).run C.P w'=.ok (.map es clock) w':=by simp only[getObj,Sem.run,hw]
 rw[h3,atom_of h hm,atom_of h hx]
 by_cases hin:p k=true
 ·obtain ⟨j,e2,g1,g2,g3⟩:=findNow_in k es.toList 0 (fun e he=>by obtain ⟨s,h1,h2,_⟩:=hs.keys e he;exact ⟨s,h1,h2⟩) (hs.all k hin)
  have hf:(Instr.findKey kt (.string ⟨k.toArray⟩) es.toList).run C.P w'=.ok (some (0+j,.bool true)) w':=by
   simp only[Instr.findKey,Sem.run_bind,run_underlying' hkt,Result.andThen_ok,g1,Sem.run_pure]
  simp only[Instr.lookup,Sem.run_bind,run_underlying' ht,Result.andThen_ok,hg,Sem.run_pure,run_checkStr hkt,hf,hin]
  rfl
 ·have hf:(Instr.findKey kt (.string ⟨k.toArray⟩) es.toList).run C.P w'=.ok none w':=by
   have hmiss:=findNow_str ⟨k.toArray⟩ es.toList 0 fun e he=>by
    obtain ⟨s,h1,_,h2⟩:=hs.keys e he
    refine ⟨_,h1,?_⟩
    rw[bytes_beq]
    intro h3
    rw[zt h3] at hin
    exact hin h2
   simp only[Instr.findKey,Sem.run_bind,run_underlying' hkt,Result.andThen_ok,hmiss,Sem.run_pure]
  have hin':p k=false:=Bool.eq_false_iff.2 hin
  simp only[Instr.lookup,Sem.run_bind,run_underlying' ht,Result.andThen_ok,hg,Sem.run_pure,run_checkStr hkt,hf,hz,hin']
  rfl
end
end Go.GL
namespace Go.GL
open Go.RowKit
section
variable {C:Ctx} {e:Env} {H:Heap} {dst:Option Nat} {ty:TypeId} {pos:String} {aft:Array Edge} {g:Option (Nat×Bool)} {K:LV→Heap→Prop} {X:List PanicEntry→Heap→Prop} {x y:Operand}
theorem Pure.nilGet {t kt el:TypeId} (ht:C.P.underlying t=some (.map kt el)) (hkt:C.P.underlying kt=some .string) (hz:∀ w,(zeroValue el).run C.P w=.ok (.int .i64 0) w) {k:List UInt8} (hm:e.ev x=.atom (.map none)) (hx:e.ev y=str k):Pure C ⟨dst,.lookup t x y false,ty,pos,aft,g⟩ e H (int .i64 0):=fun ρ w L h hH=>by
 refine ⟨.int .i64 0,rep_atom,fun w' ha=>?_⟩
 have h3:execOp ρ ⟨dst,.lookup t x y false,ty,pos,aft,g⟩=(do Pure.pure (.value (←Instr.lookup t (ρ x) (ρ y) false))):=rfl
 rw[h3,atom_of h hm,atom_of h hx]
 have hf:(Instr.findKey kt (.string ⟨k.toArray⟩) []).run C.P w'=.ok none w':=by
  simp only[Instr.findKey,Sem.run_bind,run_underlying' hkt,Result.andThen_ok,Instr.findNow,Sem.run_pure]
 simp only[Instr.lookup,Sem.run_bind,run_underlying' ht,Result.andThen_ok,Sem.run_pure,run_checkStr hkt,hf,hz]
 rfl
end
end Go.GL
namespace Go.GL
open Go.RowKit
section
variable {C:Ctx} {e:Env} {H:Heap} {x y:Operand} {dst:Option Nat} {ty:TypeId} {pos:String} {aft:Array Edge} {g:Option (Nat×Bool)} {K:LV→Heap→Prop} {X:List PanicEntry→Heap→Prop}
theorem LStep.appBL {sT xT el bytes:Nat} [ht:TSlice C.P sT el 1] [hr:TRow C.P el 1 bytes] {e2:Nat} [hx2:TSlice C.P xT e2 1] {v:Value} {l m:List UInt8}
  (hx:e.ev x=.atom v) (ha:BRow el v l H) (hy:GL.elems (e.ev y)=some (byts m)) (hm0:m≠[]) (hroom:(l.length+m.length) * bytes≤140737488355328)
  (hk:∀ v' H',BRow el v' (l++m) H'→K (.atom v') H'):LStep C ⟨dst,.call { callee:=.builtin .append,args:=#[x,y],argTypes:=#[sT,xT] },ty,pos,aft,g⟩ e H K X:=by
 have h0:∀ (cs:Array Bool) (args:Array Value),builtin .append #[sT,xT] ty cs args=(do Pure.pure (.value (←Builtin.append_ #[sT,xT] ty args))):=fun _ _=>rfl
 cases ha with
 |nil=>
  by_cases hne:m=[]
  ·subst hne
   exact absurd rfl hm0
  ·intro ρ w L h hH
   have hpos:0<m.length:=List.length_pos_iff.2 hne
   obtain ⟨ay,cy,xs0,hyv,hyc,hyr,hyl,hyf⟩:=slice_cells (s:=1) (h y) hy (byts_size m)
   rw[byts_flat] at hyr
   have hyx:xs0=bytV m:=repL_atoms_eq (zs:=bytV m) (by rw[show (bytV m).map LV.atom=byts m from by simp[bytV,byts,List.map_map,Function.comp_def]];exact hyr)
   subst hyx
   rw[byts_len] at hyv hyc hyf
   rw[hyv] at hyf
   have hlen:∀ w':World,(Builtin.lenOf (.slice ay m.length cy)).run C.P w'=.ok m.length w':=fun w'=>by simp[Builtin.lenOf]
   obtain ⟨cap',rest,r1,r2,r3⟩:=run_append_new (ty:=ty) (P:=C.P) (w:=w) (sT:=sT) (xT:=xT) (a:=none) (len:=0) (cap:=0) (n:=m.length) (xv:=.slice ay m.length cy) (old:=[]) (new:=bytV m) (.inr ⟨_,hx2.und⟩) hlen (fun w' hw=>hyf C.P w' hw)
    (fun w' _=>by simp[Builtin.firstCells]) (by simpa using hroom) zo
   rw[execOp_builtin',h0]
   simp only[List.map_toArray,zMc,List.map_nil,Sem.run_bind,atom_of h hx,hyv,r3,Result.andThen_ok,Sem.run_pure,List.nil_append,Nat.zero_add]
   have hcl:(bytV m++rest).length=cap':=by rw[zLa,r2,bytV_len];omega
   obtain ⟨lv,H',L',g1,g2,g3,g4⟩:=left_newB (K:=K) (el:=el) (l:=m) (xs:=bytV m++rest) hH.drew hne (by rw[hcl];omega) (by rw[List.take_left' (bytV_len m)]) (fun v' H' h'=>hk v' H' h')
   rw[hcl] at g3
   exact ⟨lv,H',L',g1.of_drew,g2,g3,g4⟩
 |row hne h1 h2=>
  rename_i b xs
  intro ρ w L h hH
  obtain ⟨hb0,hbs,hl,zs,hz1,hz2⟩:=hH.objs _ (List.mem_singleton.2 rfl)
  have hz:=repL_atoms_eq hz2
  subst hz
  simp only at hb0 hbs hl hz1
  obtain ⟨ay,cy,xs0,hyv,hyc,hyr,hyl,hyf⟩:=slice_cells (s:=1) (h y) hy (byts_size m)
  rw[byts_flat] at hyr
  have hyx:xs0=bytV m:=repL_atoms_eq (zs:=bytV m) (by rw[show (bytV m).map LV.atom=byts m from by simp[bytV,byts,List.map_map,Function.comp_def]];exact hyr)
  subst hyx
  rw[byts_len] at hyv hyc hyf
  rw[hyv] at hyf
  have hlen:∀ w':World,(Builtin.lenOf (.slice ay m.length cy)).run C.P w'=.ok m.length w':=fun w'=>by simp[Builtin.lenOf]
  rw[execOp_builtin',h0]
  simp only[List.map_toArray,zMc,List.map_nil,Sem.run_bind,atom_of h hx,hyv]
  by_cases hc:l.length+m.length≤zs.length
  ·have hrun:=run_append_in (ty:=ty) (P:=C.P) (w:=w) (sT:=sT) (xT:=xT) (s:=1) (a:=some ⟨b,0,none⟩) (len:=l.length) (cap:=zs.length) (n:=m.length) (xv:=.slice ay m.length cy) (new:=bytV m) (.inr ⟨_,hx2.und⟩) hlen (fun w' hw=>hyf C.P w' hw) hc
   obtain ⟨w',r1,r2,r3,r4,r5,r6,r7⟩:=storeCells_run (P:=C.P) (b:=b) (off:=0+l.length * 1) (t:=el) (fr:=(0,0)) (bytV m) 0 w zs hz1 (by rw[bytV_len];omega) (fun j _ _=>by simp) (bytV_flat m)
   rw[hrun]
   simp only[add_mk,r1,Result.andThen_ok,Sem.run_pure]
   have hx':(zs.take (0+l.length * 1+0)++bytV m++zs.drop (0+l.length * 1+0+(bytV m).length)).length=zs.length:=by
    simp only[zLa,List.length_take,List.length_drop,bytV_len]
    omega
   have hfin:=left_write (v:=.slice (some ⟨b,0,none⟩) (l.length+m.length) zs.length) (lv:=.atom (.slice (some ⟨b,0,none⟩) (l.length+m.length) zs.length)) (K:=K) (cs':=(zs.take (0+l.length * 1+0)++bytV m++zs.drop (0+l.length * 1+0+(bytV m).length)).map .atom) hH r2 r3 r4 r5 r6 r7 (by rw[hx',zLm]) (repL_atoms _) rep_atom (by
    have hb:BRow el (.slice (some ⟨b,0,none⟩) (l++m).length (zs.take (0+l.length * 1+0)++bytV m++zs.drop (0+l.length * 1+0+(bytV m).length)).length) (l++m) _:=BRow.row (b:=b) (el:=el) (by simp[hne]) (by rw[hx',zLa];exact hc) (by
     have he:0+l.length * 1+0=l.length:=by omega
     rw[he,h2,←bytV_app,List.take_left' (bytV_len _)])
    rw[hx',zLa] at hb
    exact hk _ _ hb)
   exact hfin
  ·have hold:∀ w':World,w'.heap=w.heap→(Builtin.firstCells 1 l.length (.slice (some ⟨b,0,none⟩) l.length zs.length)).run C.P w'=.ok (bytV l).toArray w':=fun w' hw=>by
    have:=loadCellsFrom_run (P:=C.P) (w:=w') (b:=b) (off:=0) l.length 0 #[] (bytV l) (bytV_len l) (fun j x' hj=>by
     have hj':zs[j]? = some x':=by
      rw[←h2,List.getElem?_take] at hj
      split at hj
      ·exact hj
      ·cases hj
     simp[World.cell?,hw,hz1,hj'])
    simp only[Builtin.firstCells,loadCells,Nat.mul_one,this]
    simp
   obtain ⟨cap',rest,r1,r2,r3⟩:=run_append_new (ty:=ty) (P:=C.P) (w:=w) (sT:=sT) (xT:=xT) (a:=some ⟨b,0,none⟩) (len:=l.length) (cap:=zs.length) (n:=m.length) (xv:=.slice ay m.length cy) (old:=bytV l) (new:=bytV m) (.inr ⟨_,hx2.und⟩) hlen (fun w' hw=>hyf C.P w' hw) hold hroom zo
   rw[r3]
   simp only[Result.andThen_ok,Sem.run_pure]
   have hcl:(bytV l++bytV m++rest).length=cap':=by rw[zLa,zLa,r2,bytV_len,bytV_len];omega
   have hH0:RelH C w L []:=hH.sub (List.nil_sublist _)
   obtain ⟨lv,H',L',g1,g2,g3,g4⟩:=left_newB (K:=K) (el:=el) (l:=l++m) (xs:=bytV l++bytV m++rest) hH0.drew (by simp[hne]) (by rw[hcl,zLa];omega) (by rw[←bytV_app,List.take_left' (bytV_len _)]) (fun v' H' h'=>hk v' H' h')
   rw[hcl,zLa] at g3
   exact ⟨lv,H',L',g1.of_drew.wide (by simp),g2,g3,g4⟩
theorem S.appBL1 {sT xT el bytes:Nat} [ht:TSlice C.P sT el 1] [hr:TRow C.P el 1 bytes] {e2:Nat} [hx2:TSlice C.P xT e2 1] {v:Value} {l m:List UInt8} {H1:Heap} {q:Nat×LObj}
  (hx:e.ev x=.atom v) (ha:BRow el v l H1) (hy:GL.elems (e.ev y)=some (byts m)) (hm0:m≠[]) (hroom:(l.length+m.length) * bytes≤140737488355328)
  (hk:∀ v' H',BRow el v' (l++m) H'→K (.atom v') (q::H')):LStep C ⟨dst,.call { callee:=.builtin .append,args:=#[x,y],argTypes:=#[sT,xT] },ty,pos,aft,g⟩ e (q::H1) K X:=by
 refine LStep.conseq (K:=fun lv H'=>∃ v' H2,lv=.atom v'∧H'=H2++[q]∧BRow el v' (l++m) H2) (LStep.frame (List.perm_append_singleton _ _).symm (LStep.appBL hx ha hy hm0 hroom fun v' H' h=>⟨v',H',rfl,rfl,h⟩)) ?_
 rintro lv H' ⟨v',H2,rfl,rfl,h⟩
 exact ⟨_,[q]++H2,LV.Sub.refl _,⟨[],by simp⟩,hk _ _ h⟩
theorem Pure.blen {t el el2 s:Nat} [TSlice C.P t el2 s] {v:Value} {l:List UInt8} {Hv:Heap} (hx:e.ev x=.atom v) (ha:BRow el v l Hv):Pure C ⟨dst,.call { callee:=.builtin .len,args:=#[x],argTypes:=#[t] },ty,pos,aft,g⟩ e H (int .i64 l.length):=
 .of_any fun ρ _ _ h=>⟨_,rep_atom,fun w'=>by
  have hu:=run_underlying' (P:=C.P) (TSlice.und (t:=t)) w'
  rw[execOp_builtin',builtin_len']
  cases ha <;> simp[Builtin.len_,hu,goInt,atom_of h hx]⟩
end
end Go.GL
namespace Go.GL
open Go.RowKit
abbrev KV:=List (List UInt8×LV)
@[reducible] def strV (k:List UInt8):Value:=.string ⟨k.toArray⟩
def kvs (m:KV):List (Value×LV):=m.map fun p=>(strV p.1,p.2)
def kvGet:KV→List UInt8→Option LV
 |[],_=>none
 |p::r,k=>if p.1=k then some p.2 else kvGet r k
def kvPut:KV→List UInt8→LV→KV
 |[],k,v=>[(k,v)]
 |p::r,k,v=>if p.1=k then (k,v)::r else p::kvPut r k v
theorem kvGet_put (k k':List UInt8) (v:LV):∀ m:KV,kvGet (kvPut m k v) k'=if k=k' then some v else kvGet m k'
 |[]=>by simp only[kvPut,kvGet]
 |p::r=>by
  unfold kvPut
  by_cases h:p.1=k
  ·rw[if_pos h]
   by_cases h':k=k'
   ·simp only[kvGet,if_pos h']
   ·simp only[kvGet,if_neg h']
    rw[if_neg (by rw[h];exact h')]
  ·rw[if_neg h]
   simp only[kvGet]
   rw[kvGet_put k k' v r]
   by_cases h2:p.1=k'
   ·rw[if_pos h2,if_neg (by rw[←h2];exact fun h3=>h h3.symm)]
    simp only[if_pos h2]
   ·simp only[if_neg h2]
theorem kv_find (k:List UInt8):∀ (m:KV) (es:List MapEntry) (i:Nat),es.map (·.key)=(kvs m).map (·.1) →
  (kvGet m k=none∧(∀ v,kvPut m k v=m++[(k,v)])∧Instr.findNow .string (strV k) es i=some none) ∨
  ∃ (j:Nat) (e:MapEntry) (v:LV),Instr.findNow .string (strV k) es i=some (some (i+j,e.val))∧es[j]? = some e∧m[j]? = some (k,v)∧kvGet m k=some v∧∀ v',kvPut m k v'=m.set j (k,v')
 |[],[],i,_=>.inl ⟨rfl,fun _=>rfl,rfl⟩
 |[],_::_,_,h=>by cases h
 |_::_,[],_,h=>by cases h
 |p::m,e::es,i,h=>by
  have h1:e.key=strV p.1:=by
   have:=(List.cons.inj h).1
   exact this
  have h2:es.map (·.key)=(kvs m).map (·.1):=(List.cons.inj h).2
  by_cases hs:p.1=k
  ·right
   have hb:((⟨k.toArray⟩:ByteArray) == ⟨p.1.toArray⟩)=true:=by rw[bytes_beq,decide_eq_true hs.symm]
   refine ⟨0,e,p.2,?_,rfl,by rw[←hs];rfl,by simp only[kvGet,if_pos hs],fun v'=>by simp only[kvPut,if_pos hs];rfl⟩
   simp only[Instr.findNow,h1,Instr.sameNow,hb,Nat.add_zero]
  ·have hb:((⟨k.toArray⟩:ByteArray) == ⟨p.1.toArray⟩)=false:=by rw[bytes_beq,decide_eq_false (fun h3=>hs h3.symm)]
   rcases kv_find k m es (i+1) h2 with ⟨g1,g2,g3⟩|⟨j,e2,v,g1,g2,g3,g4,g5⟩
   ·left
    refine ⟨by simp only[kvGet,if_neg hs];exact g1,fun v=>by simp only[kvPut,if_neg hs,g2];rfl,?_⟩
    simp only[Instr.findNow,h1,Instr.sameNow,hb]
    exact g3
   ·right
    refine ⟨j+1,e2,v,?_,g2,g3,by simp only[kvGet,if_neg hs];exact g4,fun v'=>by simp only[kvPut,if_neg hs,g5];rfl⟩
    simp only[Instr.findNow,h1,Instr.sameNow,hb]
    rw[g1]
    congr 3
    omega
theorem RepL.setAt {w:World} {L:Live}:∀ {cs:List LV} {xs:List Value},RepL w L cs xs→∀ (j:Nat) {c:LV} {x:Value},Rep w L c x→RepL w L (cs.set j c) (xs.set j x)
 |[],xs,h,j,c,x,hr=>by
  simp only[RepL] at h
  subst h
  simp only[List.set_nil,RepL]
 |d::cs,xs,h,j,c,x,hr=>by
  simp only[RepL] at h
  obtain ⟨y,ys,rfl,h1,h2⟩:=h
  cases j with
  |zero=>
   simp only[List.set_cons_zero,RepL]
   exact ⟨x,ys,rfl,hr,h2⟩
  |succ j=>
   simp only[List.set_cons_succ,RepL]
   exact ⟨y,_,rfl,h1,h2.setAt j hr⟩
section
variable {C:Ctx} {e:Env} {H:Heap} {dst:Option Nat} {ty:TypeId} {pos:String} {aft:Array Edge} {g:Option (Nat×Bool)} {K:LV→Heap→Prop} {X:List PanicEntry→Heap→Prop} {x y:Operand}
theorem left_map {w w':World} {L:Live} {b clock clock':Nat} {es es':List (Value×LV)} (hH:RelH C w L [(b,.map es clock)]) (h1:w'.os=w.os) (h2:w'.tape=w.tape) (h3:w'.output=w.output)
  (h4:w'.heap.size=w.heap.size) (h5:∀ c,c≠b→w'.heap[c]? = w.heap[c]?) (avs:List MapEntry) (h6:w'.heap[b]? = some (.map avs.toArray clock')) (h7:avs.map (·.key)=es'.map (·.1)) (h8:RepL w L (es'.map (·.2)) (avs.map (·.val)))
  (h9:∀ e∈avs,e.born<clock') (h10:(avs.map (·.born)).Nodup) {v:Value} {lv:LV} (hv:∀ L,Rep w' L lv v) (hk:K lv [(b,.map es' clock')]):Left C w L [(b,.map es clock)] w' v K:=by
 obtain ⟨hb0,hbs,hl,xs,hx1,_⟩:=hH.objs _ (List.mem_singleton.2 rfl)
 simp only at hb0 hbs hl hx1
 have hx:Ext w L w' L:=by
  refine ⟨by rw[h4];exact zNr _,fun c hc=>?_,fun c i hi=>?_,fun _=>zNr _⟩
  ·by_cases he:c=b
   ·subst he
    rw[shape_none hx1 rfl]
    exact shape_none h6 rfl
   ·exact shape_of_heap (h5 c he)
  ·by_cases he:c=b
   ·subst he;rw[hl] at hi;omega
   ·exact cell_of_heap (h5 c he) i
 refine ⟨lv,[(b,.map es' clock')],L,⟨h1,h2,h3,hx,fun c hc hn=>h5 c (by simpa using hn),fun _ _ _=>rfl,fun p hp=>.inl (by simp only[List.mem_singleton] at hp;subst hp;simp)⟩,
  ⟨?_,hH.lbase,by rw[h4];exact hH.b0,by rw[h4];exact hH.wf,by simp,fun p hp=>?_⟩,hv L,hk⟩
 ·exact hH.base.trans ⟨h1,h2,h3,by rw[h4];exact zNr _,fun c hc=>h5 c zo⟩
 ·simp only[List.mem_singleton] at hp
  subst hp
  exact ⟨hb0,by rw[h4];exact hbs,hl,avs,h6,h7,RepL.mono hx _ _ h8,h9,h10⟩
theorem S.kvNew {t:TypeId} (hk:∀ b,K (.atom (.map (some b))) ((b,.map (kvs []) 0)::H)):LStep C ⟨dst,.makeMap t none,ty,pos,aft,g⟩ e H K X:=by
 refine LStep.at0 fun ρ w L _ hH=>?_
 have h3:execOp ρ ⟨dst,.makeMap t none,ty,pos,aft,g⟩=(do Pure.pure (.value (←Instr.makeMap t none))):=rfl
 have h4:(Instr.makeMap t none).run C.P w=.ok (.map (some w.heap.size)) (World.push w (.map #[] 0)):=rfl
 rw[h3,Sem.run_bind,h4]
 have:=fr_push hH (.map #[] 0) 0 [(w.heap.size,.map (kvs []) 0)] (fun p hp=>by
  simp only[List.mem_singleton] at hp
  subst hp
  refine ⟨rfl,by simp[Live.upd],[],heap_push_self,rfl,?_,(fun e he=>by cases he),List.nodup_nil⟩
  show RepL _ _ [] []
  simp only[RepL]) (by simp)
 exact ⟨_,_,_,this.1,this.2,rep_atom,hk _⟩
theorem S.kvPut {t kt el:TypeId} (ht:C.P.underlying t=some (.map kt el)) (hkt:C.P.underlying kt=some .string) {b clock:Nat} {m:KV} {F:Heap} {mo z:Operand} {k:List UInt8} {lv:LV} (hm:e.ev mo=.atom (.map (some b))) (hx:e.ev x=str k) (hz:e.ev z=lv)
  (hp:Pick (b,.map (kvs m) clock) H F) (hk:∀ clock',K (.atom undef) ((b,.map (kvs (GL.kvPut m k lv)) clock')::F)):LStep C ⟨dst,.mapUpdate t mo x z,ty,pos,aft,g⟩ e H K X:=by
 refine LStep.at1 hp fun ρ w L h hH=>?_
 obtain ⟨hb0,hbs,hl,avs,hx1,hx2,hx3,hx4,hx5⟩:=hH.objs _ (List.mem_singleton.2 rfl)
 simp only at hb0 hbs hl hx1 hx2 hx3
 have hrz:Rep w L lv (ρ z):=hz▸h z
 have h3:execOp ρ ⟨dst,.mapUpdate t mo x z,ty,pos,aft,g⟩=(do Instr.mapUpdate t (ρ mo) (ρ x) (ρ z);Pure.pure .skip):=rfl
 have hg:(getObj b).run C.P w=.ok (.map avs.toArray clock) w:=by simp only[getObj,Sem.run,hx1]
 have hset:∀ o',(setObj b o').run C.P w=.ok () (setW w b o'):=fun o'=>run_setObj hx1 rfl
 rw[h3,atom_of h hm,atom_of h hx]
 rcases kv_find k m avs 0 hx2 with ⟨g1,g2,g3⟩|⟨j,e2,v,g1,g2,g3,g4,g5⟩
 ·have hf:(Instr.findKey kt (strV k) avs.toArray.toList).run C.P w=.ok none w:=by
   simp only[Instr.findKey,Sem.run_bind,run_underlying' hkt,Result.andThen_ok,g3,Sem.run_pure]
  simp only[Instr.mapUpdate,Sem.run_bind,run_underlying' ht,Result.andThen_ok,hg,run_checkStr hkt,hf]
  rw[hset]
  refine left_map (w':=setW w b _) hH rfl rfl rfl (by simp[setW]) (fun c hc=>setW_other hc) (avs++[⟨strV k,ρ z,clock⟩]) (clock':=clock+1) ((setW_self hbs).trans (by simp)) (es':=kvs (GL.kvPut m k lv)) ?_ ?_ ?_ ?_ (fun _=>rep_atom) (hk _)
  ·rw[g2,kvs,zMa,zMa,zMa,←kvs,hx2]
   rfl
  ·rw[g2,kvs,zMa,zMa,zMa,←kvs]
   refine RepL.append hx3 ?_
   simp only[zMc,List.map_nil,RepL]
   exact ⟨_,_,rfl,hrz,rfl⟩
  ·intro e' he'
   rcases List.mem_append.1 he' with h1|h1
   ·exact Nat.lt_succ_of_lt (hx4 e' h1)
   ·obtain rfl:=List.mem_singleton.1 h1
    exact Nat.lt_succ_self _
  ·rw[zMa,List.nodup_append]
   refine ⟨hx5,by simp,fun a ha b' hb' he=>?_⟩
   obtain ⟨e',h1,rfl⟩:=List.mem_map.1 ha
   simp only[zMc,List.map_nil,List.mem_singleton] at hb'
   have:=hx4 e' h1
   omega
 ·have hf:(Instr.findKey kt (strV k) avs.toArray.toList).run C.P w=.ok (some (0+j,e2.val)) w:=by
   simp only[Instr.findKey,Sem.run_bind,run_underlying' hkt,Result.andThen_ok,g1,Sem.run_pure]
  have hkey:e2.key=strV k:=by
   have h1:(avs.map (·.key))[j]? = some e2.key:=by rw[List.getElem?_map,g2];rfl
   rw[hx2,kvs,List.map_map,List.getElem?_map,g3] at h1
   exact (Option.some.inj h1).symm
  have hst:(Instr.keyThatStays (((avs.toArray[0+j]?).map (·.key)).getD (strV k)) (strV k)).run C.P w=.ok (strV k) w:=by
   rw[Nat.zero_add,List.getElem?_toArray,g2]
   simp only[Option.map_some,Option.getD_some,hkey]
   unfold Instr.keyThatStays
   rw[if_pos (by simp only[Instr.sameBits];rw[bytes_beq];simp)]
   rfl
  simp only[Instr.mapUpdate,Sem.run_bind,run_underlying' ht,Result.andThen_ok,hg,run_checkStr hkt,hf,hst]
  rw[hset]
  have hmod:avs.toArray.modify (0+j) (fun e=>{ e with key:=strV k,val:=ρ z })=(avs.set j { e2 with key:=strV k,val:=ρ z }).toArray:=by
   rw[Nat.zero_add]
   apply Array.ext'
   simp only[Array.toList_modify]
   refine List.ext_getElem? fun i=>?_
   rw[List.getElem?_modify,List.getElem?_set]
   by_cases hi:j=i
   ·subst hi
    have hlt:j<avs.length:=(List.getElem?_eq_some_iff.1 g2).1
    rw[if_pos rfl,g2,if_pos hlt]
    show some _=_
    simp
   ·rw[if_neg hi]
    cases avs[i]? with
    |none=>rfl
    |some a=>
     show some _=_
     simp[hi]
  refine left_map (w':=setW w b _) hH rfl rfl rfl (by simp[setW]) (fun c hc=>setW_other hc) (avs.set j { e2 with key:=strV k,val:=ρ z }) ((setW_self hbs).trans (by rw[hmod])) (es':=kvs (GL.kvPut m k lv)) ?_ ?_ ?_ ?_ (fun _=>rep_atom) (hk _)
  ·rw[g5,kvs,List.map_set,List.map_set,List.map_set,hx2]
   rfl
  ·rw[g5,kvs,List.map_set,List.map_set,List.map_set]
   exact RepL.setAt hx3 j hrz
  ·intro e' he'
   rcases List.mem_or_eq_of_mem_set he' with h1|h1
   ·exact hx4 e' h1
   ·rw[h1]
    exact hx4 e2 (List.mem_of_getElem? g2)
  ·rw[List.map_set]
   have:(avs.map (·.born)).set j e2.born=avs.map (·.born):=by
    refine List.ext_getElem? fun i=>?_
    rw[List.getElem?_set]
    split
    ·rename_i h1
     subst h1
     split
     ·rw[List.getElem?_map,g2];rfl
     ·rename_i h2
      rw[List.getElem?_eq_none zo]
    ·rfl
   rw[this]
   exact hx5
theorem kv_look {t kt el:TypeId} (ht:C.P.underlying t=some (.map kt el)) (hkt:C.P.underlying kt=some .string) {zv:Value} {zl:LV} (hz:∀ w,(zeroValue el).run C.P w=.ok zv w) (hzl:∀ w L,Rep w L zl zv) {b clock:Nat} {m:KV} {k:List UInt8} {w:World} {L:Live}
  (hH:RelH C w L H) (hb:(b,.map (kvs m) clock)∈H):∃ v,Rep w L ((kvGet m k).getD zl) v∧∀ w',Agree w L H w'→∀ c,(Instr.lookup t (.map (some b)) (strV k) c).run C.P w'=.ok (if c=true then .tuple #[v,.bool (kvGet m k).isSome] else v) w':=by
 obtain ⟨_,_,_,avs,hx1,hx2,hx3,_⟩:=hH.objs _ hb
 simp only at hx1
 rcases kv_find k m avs 0 hx2 with ⟨g1,g2,g3⟩|⟨j,e2,v,g1,g2,g3,g4,g5⟩
 ·refine ⟨zv,by rw[g1];exact hzl w L,fun w' ha c=>?_⟩
  have hw:w'.heap[b]? = some (.map avs.toArray clock):=(ha.1 _ hb).trans hx1
  have hg:(getObj b).run C.P w'=.ok (.map avs.toArray clock) w':=by simp only[getObj,Sem.run,hw]
  have hf:(Instr.findKey kt (strV k) avs.toArray.toList).run C.P w'=.ok none w':=by
   simp only[Instr.findKey,Sem.run_bind,run_underlying' hkt,Result.andThen_ok,g3,Sem.run_pure]
  simp only[Instr.lookup,Sem.run_bind,run_underlying' ht,Result.andThen_ok,hg,Sem.run_pure,run_checkStr hkt,hf,hz,g1]
  rfl
 ·refine ⟨e2.val,?_,fun w' ha c=>?_⟩
  ·rw[g4]
   obtain ⟨x,h1,h2⟩:=hx3.get (i:=j) (c:=v) (by rw[kvs,List.map_map,List.getElem?_map,g3];rfl)
   rw[List.getElem?_map,g2] at h1
   obtain rfl:=Option.some.inj h1
   exact h2
  ·have hw:w'.heap[b]? = some (.map avs.toArray clock):=(ha.1 _ hb).trans hx1
   have hg:(getObj b).run C.P w'=.ok (.map avs.toArray clock) w':=by simp only[getObj,Sem.run,hw]
   have hf:(Instr.findKey kt (strV k) avs.toArray.toList).run C.P w'=.ok (some (0+j,e2.val)) w':=by
    simp only[Instr.findKey,Sem.run_bind,run_underlying' hkt,Result.andThen_ok,g1,Sem.run_pure]
   simp only[Instr.lookup,Sem.run_bind,run_underlying' ht,Result.andThen_ok,hg,Sem.run_pure,run_checkStr hkt,hf,g4]
   rfl
theorem Pure.kvGet {t kt el:TypeId} (ht:C.P.underlying t=some (.map kt el)) (hkt:C.P.underlying kt=some .string) {zv:Value} {zl:LV} (hz:∀ w,(zeroValue el).run C.P w=.ok zv w) (hzl:∀ w L,Rep w L zl zv) {b clock:Nat} {m:KV} {k:List UInt8} (hm:e.ev x=.atom (.map (some b))) (hx:e.ev y=str k)
  (hb:(b,.map (kvs m) clock)∈H):Pure C ⟨dst,.lookup t x y false,ty,pos,aft,g⟩ e H ((GL.kvGet m k).getD zl):=fun ρ w L h hH=>by
 obtain ⟨v,h1,h2⟩:=kv_look ht hkt hz hzl (k:=k) hH hb
 refine ⟨v,h1,fun w' ha=>?_⟩
 have h3:execOp ρ ⟨dst,.lookup t x y false,ty,pos,aft,g⟩=(do Pure.pure (.value (←Instr.lookup t (ρ x) (ρ y) false))):=rfl
 rw[h3,atom_of h hm,atom_of h hx,Sem.run_bind,h2 w' ha false]
 rfl
theorem Pure.kvGet2 {t kt el:TypeId} (ht:C.P.underlying t=some (.map kt el)) (hkt:C.P.underlying kt=some .string) {zv:Value} {zl:LV} (hz:∀ w,(zeroValue el).run C.P w=.ok zv w) (hzl:∀ w L,Rep w L zl zv) {b clock:Nat} {m:KV} {k:List UInt8} (hm:e.ev x=.atom (.map (some b))) (hx:e.ev y=str k)
  (hb:(b,.map (kvs m) clock)∈H):Pure C ⟨dst,.lookup t x y true,ty,pos,aft,g⟩ e H (.tuple [(GL.kvGet m k).getD zl,bool (GL.kvGet m k).isSome]):=fun ρ w L h hH=>by
 obtain ⟨v,h1,h2⟩:=kv_look ht hkt hz hzl (k:=k) hH hb
 refine ⟨.tuple #[v,.bool (GL.kvGet m k).isSome],?_,fun w' ha=>?_⟩
 ·simp only[Rep]
  refine ⟨[v,.bool (GL.kvGet m k).isSome],rfl,?_⟩
  simp only[RepL]
  exact ⟨_,_,rfl,h1,_,_,rfl,rfl,rfl⟩
 ·have h3:execOp ρ ⟨dst,.lookup t x y true,ty,pos,aft,g⟩=(do Pure.pure (.value (←Instr.lookup t (ρ x) (ρ y) true))):=rfl
  rw[h3,atom_of h hm,atom_of h hx,Sem.run_bind,h2 w' ha true]
  rfl
end
/-! ### The same, by instances -/
class TMap (P:Program) (t:TypeId) (el:outParam TypeId) (zv:outParam Value) (zl:outParam LV):Prop where
 und:∃ kt,P.underlying t=some (.map kt el)∧P.underlying kt=some .string
 zero:∀ w,(zeroValue el).run P w=.ok zv w
 rep:∀ w L,Rep w L zl zv
theorem rep_aggs (w:World) (L:Live) (zs:List Value):Rep w L (.agg (zs.map .atom)) (.agg zs.toArray):=by
 simp only[Rep]
 exact ⟨zs,rfl,repL_atoms zs⟩
section
variable {C:Ctx} {e:Env} {H:Heap} {dst:Option Nat} {ty:TypeId} {pos:String} {aft:Array Edge} {g:Option (Nat×Bool)} {K:LV→Heap→Prop} {X:List PanicEntry→Heap→Prop} {x y:Operand}
theorem Pure.kvHit {t el:TypeId} {zv:Value} {zl lv:LV} [h:TMap C.P t el zv zl] {b clock:Nat} {m:KV} {k:List UInt8} (hm:e.ev x=.atom (.map (some b))) (hx:e.ev y=str k) (hb:(b,.map (kvs m) clock)∈H) (hg:GL.kvGet m k=some lv) :
  Pure C ⟨dst,.lookup t x y false,ty,pos,aft,g⟩ e H lv:=by
 obtain ⟨kt,h1,h2⟩:=h.und
 have:=Pure.kvGet (dst:=dst) (ty:=ty) (pos:=pos) (aft:=aft) (g:=g) h1 h2 h.zero h.rep hm hx hb
 rwa [hg] at this
theorem Pure.kvMiss {t el:TypeId} {zv:Value} {zl:LV} [h:TMap C.P t el zv zl] {b clock:Nat} {m:KV} {k:List UInt8} (hm:e.ev x=.atom (.map (some b))) (hx:e.ev y=str k) (hb:(b,.map (kvs m) clock)∈H) (hg:GL.kvGet m k=none) :
  Pure C ⟨dst,.lookup t x y false,ty,pos,aft,g⟩ e H zl:=by
 obtain ⟨kt,h1,h2⟩:=h.und
 have:=Pure.kvGet (dst:=dst) (ty:=ty) (pos:=pos) (aft:=aft) (g:=g) h1 h2 h.zero h.rep hm hx hb
 rwa [hg] at this
theorem Pure.kvHit2 {t el:TypeId} {zv:Value} {zl lv:LV} [h:TMap C.P t el zv zl] {b clock:Nat} {m:KV} {k:List UInt8} (hm:e.ev x=.atom (.map (some b))) (hx:e.ev y=str k) (hb:(b,.map (kvs m) clock)∈H) (hg:GL.kvGet m k=some lv) :
  Pure C ⟨dst,.lookup t x y true,ty,pos,aft,g⟩ e H (.tuple [lv,bool true]):=by
 obtain ⟨kt,h1,h2⟩:=h.und
 have:=Pure.kvGet2 (dst:=dst) (ty:=ty) (pos:=pos) (aft:=aft) (g:=g) h1 h2 h.zero h.rep hm hx hb
 rwa [hg] at this
theorem Pure.kvMiss2 {t el:TypeId} {zv:Value} {zl:LV} [h:TMap C.P t el zv zl] {b clock:Nat} {m:KV} {k:List UInt8} (hm:e.ev x=.atom (.map (some b))) (hx:e.ev y=str k) (hb:(b,.map (kvs m) clock)∈H) (hg:GL.kvGet m k=none) :
  Pure C ⟨dst,.lookup t x y true,ty,pos,aft,g⟩ e H (.tuple [zl,bool false]):=by
 obtain ⟨kt,h1,h2⟩:=h.und
 have:=Pure.kvGet2 (dst:=dst) (ty:=ty) (pos:=pos) (aft:=aft) (g:=g) h1 h2 h.zero h.rep hm hx hb
 rwa [hg] at this
theorem S.kvSet {t el:TypeId} {zv:Value} {zl:LV} [h:TMap C.P t el zv zl] {b clock:Nat} {m:KV} {F:Heap} {mo z:Operand} {k:List UInt8} {lv:LV} (hm:e.ev mo=.atom (.map (some b))) (hx:e.ev x=str k) (hz:e.ev z=lv)
  (hp:Pick (b,.map (kvs m) clock) H F) (hk:∀ clock',K (.atom undef) ((b,.map (kvs (GL.kvPut m k lv)) clock')::F)):LStep C ⟨dst,.mapUpdate t mo x z,ty,pos,aft,g⟩ e H K X:=by
 obtain ⟨kt,h1,h2⟩:=h.und
 exact S.kvPut h1 h2 hm hx hz hp hk
theorem S.kvIns {t el:TypeId} {zv:Value} {zl:LV} [h:TMap C.P t el zv zl] {b clock:Nat} {m:KV} {F:Heap} {mo z:Operand} {k:List UInt8} {lv:LV} (hm:e.ev mo=.atom (.map (some b))) (hx:e.ev x=str k) (hz:e.ev z=lv)
  (hp:Pick (b,.map (kvs m) clock) H F) (hk:∀ clock',K (.atom undef) ((b,.map (kvs (GL.kvPut m k lv)) clock')::F)):LStep C ⟨dst,.insert t mo x z,ty,pos,aft,g⟩ e H K X:=
 fun ρ w L h1 h2=>(S.kvSet (dst:=dst) (ty:=ty) (pos:=pos) (aft:=aft) (g:=g) (X:=X) hm hx hz hp hk) ρ w L h1 h2
theorem S.kvInsE {t el:TypeId} {zv:Value} {zl:LV} [h:TMap C.P t el zv zl] {b clock:Nat} {m:KV} {F:Heap} {mo z:Operand} {k:List UInt8} {lv:LV} (m':KV) (hm:e.ev mo=.atom (.map (some b))) (hx:e.ev x=str k) (hz:e.ev z=lv)
  (hp:Pick (b,.map (kvs m) clock) H F) (he:GL.kvPut m k lv=m') (hk:∀ clock',K (.atom undef) ((b,.map (kvs m') clock')::F)):LStep C ⟨dst,.insert t mo x z,ty,pos,aft,g⟩ e H K X:=
 S.kvIns hm hx hz hp (he▸hk)
theorem kv_hit {A:Type} (key:A→List UInt8) (f:A→LV):∀ {l:List A} {q:A},(l.map key).Nodup→q∈l→GL.kvGet (l.map fun q=>(key q,f q)) (key q)=some (f q)
 |[],q,_,h=>by cases h
 |a::l,q,hn,h=>by
  rw[zMc,List.nodup_cons] at hn
  rw[zMc,GL.kvGet]
  rcases zMi.1 h with rfl|h
  ·rw[if_pos rfl]
  ·rw[if_neg (fun he=>hn.1 (by rw[show key a=key q from he];exact List.mem_map_of_mem h))]
   exact kv_hit key f hn.2 h
theorem kv_miss {A:Type} (key:A→List UInt8) (f:A→LV) {k:List UInt8}:∀ {l:List A},k ∉ l.map key→GL.kvGet (l.map fun q=>(key q,f q)) k=none
 |[],_=>rfl
 |a::l,h=>by
  rw[zMc,GL.kvGet,if_neg (fun he=>h (by rw[zMc];exact zMi.2 (.inl he.symm)))]
  exact kv_miss key f (fun hm=>h (by rw[zMc];exact zMo _ hm))
theorem kv_new {k:List UInt8} {v:LV}:∀ {m:KV},k ∉ m.map (·.1)→GL.kvPut m k v=m++[(k,v)]
 |[],_=>rfl
 |p::r,h=>by
  rw[GL.kvPut,if_neg (fun he=>h (by rw[zMc];exact zMi.2 (.inl he.symm))),kv_new (fun hm=>h (by rw[zMc];exact zMo _ hm))]
  rfl
end
end Go.GL
namespace Go.Stele
abbrev Wd:=List UInt8
def nameW (s:Wd):Bool:=match s with
 |[]=>false
 |c::r=>decide (s.length≤40) && isLetter c && s.all isInner
def defW (w:Wd):Option Wd:=if w.getLast? = some 58∧nameW w.dropLast=true then some w.dropLast else none
def refW (w:Wd):Option Wd:=match w with
 |[]=>none
 |c::r=>if c=38∧nameW r=true then some r else none
/-! ### A rule matches words that are there, and puts fewer in their place -/
end Go.Stele
namespace Go.Stele
def lexAt (s:List UInt8) (line:Int):Except (Int×Int) (List Tok):=lexP s.length s line
end Go.Stele
namespace Go.Stele
open Go.Lib
def Again (t:Tok):Prop:=t.text.length≤24∧t.text≠[]∧skipLen t.text=0∧(10:UInt8) ∉ t.text∧lexToken t.text=(⟨t.kind,t.text,0⟩,t.text.length,0)
theorem skip_head {c:UInt8} {r:List UInt8} (hw:isWhite c=false) (h47:c≠47):skipLen (c::r)=0:=by
 have h:([47,47]:List UInt8).isPrefixOf (c::r)=false:=by
  cases h:([47,47]:List UInt8).isPrefixOf (c::r) with
  |false=>rfl
  |true=>
   simp only[List.isPrefixOf,zBa,beq_iff_eq] at h
   exact absurd h.1.symm h47
 unfold skipLen
 rw[h,if_neg zDd,List.takeWhile_cons_of_neg (by rw[hw];decide)]
 rfl
theorem digit_of {d:Nat} (h:d<10):isDigit (UInt8.ofNat (48+d))=true:=by
 have h1:(UInt8.ofNat (48+d)).toNat=48+d:=digit_toNat h
 unfold isDigit cv
 rw[h1]
 simp
 omega
theorem dec_digits (u:Nat):∀ c∈decDigits u,isDigit c=true:=by
 induction u using Nat.strongRecOn with
 |ind u ih=>
  intro c hc
  by_cases h:u<10
  ·rw[decDigits_one h] at hc
   rw[List.mem_singleton.1 hc]
   exact digit_of h
  ·rw[decDigits,dif_neg h] at hc
   rcases List.mem_append.1 hc with hc|hc
   ·exact ih (u / 10) (by omega) c hc
   ·rw[List.mem_singleton.1 hc]
    exact digit_of (by omega)
theorem digit_white {c:UInt8} (h:isDigit c=true):isWhite c=false∧c≠47:=by
 unfold isDigit at h
 rw[zBa,zDe,zDe] at h
 refine ⟨?_,fun hc=>?_⟩
 ·unfold isWhite
  simp only[Bool.or_eq_false_iff,decide_eq_false_iff_not]
  omega
 ·subst hc
  exact absurd h.1 zDd
theorem letter_white {c:UInt8} (h:isLetter c=true):isWhite c=false∧c≠47:=by
 unfold isLetter at h
 rw[zBa,zDe,zDe] at h
 refine ⟨?_,fun hc=>?_⟩
 ·unfold isWhite
  simp only[Bool.or_eq_false_iff,decide_eq_false_iff_not]
  omega
 ·subst hc
  exact absurd h.1 zDd
theorem tw_self {p:UInt8→Bool}:∀ {s:List UInt8},(∀ c∈s,p c=true)→s.takeWhile p=s
 |[],_=>rfl
 |c::s,h=>by rw[List.takeWhile_cons_of_pos (h c zMs),tw_self fun d hd=>h d (zMo _ hd)]
theorem tw_mem {p:UInt8→Bool}:∀ {s:List UInt8} {c:UInt8},c∈s.takeWhile p→p c=true
 |[],_,h=>by cases h
 |d::s,c,h=>by
  by_cases hd:p d=true
  ·rw[List.takeWhile_cons_of_pos hd] at h
   rcases zMi.1 h with rfl|h
   ·exact hd
   ·exact tw_mem h
  ·rw[List.takeWhile_cons_of_neg hd] at h
   cases h
theorem again_dec {u:Nat} (hu:u<4294967296) (l:Int):Again ⟨1,decDigits u,l⟩:=by
 have hd:=dec_digits u
 have hne:=decDigits_ne u
 refine ⟨by have:=dec_len hu;simp only;omega,hne,?_,fun h=>by have:=hd _ h;exact absurd this zDd,?_⟩
 ·show skipLen (decDigits u)=0
  cases hD:decDigits u with
  |nil=>exact absurd hD hne
  |cons c r=>
   have:=digit_white (hd c (by rw[hD];exact List.mem_cons_self ..))
   exact skip_head this.1 this.2
 ·show lexToken (decDigits u)=(⟨1,decDigits u,0⟩,(decDigits u).length,0)
  have h1:lexToken (decDigits u)=lexNumber (decDigits u):=by
   cases hD:decDigits u with
   |nil=>exact absurd hD hne
   |cons c r=>rw[lexToken,if_pos (hd c (by rw[hD];exact List.mem_cons_self ..))]
  rw[h1]
  unfold lexNumber
  rw[tw_self hd,pu32_dec u hu,if_neg]
  unfold wordNext
  rw[List.getElem?_eq_none (zNr _)]
  decide
theorem again_sign:∀ x∈signs,x.length≤24∧x≠[]∧skipLen x=0∧(10:UInt8) ∉ x∧lexToken x=(⟨4,x,0⟩,x.length,0):=by decide +kernel
theorem lexToken_again (s:List UInt8) (h:(lexToken s).2.2=0):Again (lexToken s).1:=by
 match s with
 |[]=>simp[lexToken,tokErr] at h
 |c::r=>
  simp only[lexToken] at h ⊢
  split at h <;> rename_i hc
  ·rw[if_pos hc]
   unfold lexNumber at h ⊢
   split at h
   ·simp[tokErr] at h
   ·rename_i hw
    rw[if_neg hw]
    split at h
    ·rename_i u hu
     exact again_dec (pu32_lt hu) 0
    ·simp[tokErr] at h
  ·rw[if_neg hc]
   split at h <;> rename_i hl
   ·rw[if_pos hl]
    unfold lexName at h ⊢
    split at h
    ·simp[tokErr] at h
    ·rename_i hw
     rw[if_neg hw]
     have hin:isInner c=true:=by simp[isInner,hl]
     have hW:(c::r).takeWhile isInner=c::r.takeWhile isInner:=List.takeWhile_cons_of_pos hin
     have hall:∀ d∈(c::r).takeWhile isInner,isInner d=true:=fun d hd=>tw_mem hd
     have hww:=letter_white hl
     refine ⟨by simp only;omega,by simp only;rw[hW];simp,by simp only;rw[hW];exact skip_head hww.1 hww.2,fun h10=>absurd (hall _ h10) zDd,?_⟩
     simp only
     have h1:lexToken ((c::r).takeWhile isInner)=lexName ((c::r).takeWhile isInner):=by
      rw[hW,lexToken,if_neg hc,if_pos hl]
     rw[h1]
     unfold lexName
     rw[tw_self hall,if_neg hw]
   ·rw[if_neg hl]
    split at h <;> rename_i hq
    ·rw[if_pos hq]
     unfold lexLiteral at h ⊢
     split at h
     ·split at h
      ·simp[tokErr] at h
      ·rename_i hx
       rename_i heq
       rename_i b _ _
       rw[if_neg hx]
       exact again_dec (Nat.lt_trans (UInt8.toNat_lt b) zDd) 0
     ·simp[tokErr] at h
    ·rw[if_neg hq]
     unfold lexSign at h ⊢
     split at h
     ·rename_i x hx
      exact again_sign x (List.mem_of_find?_eq_some hx)
     ·simp[tokErr] at h
theorem lexP_again:∀ (f:Nat) (s:List UInt8) (line:Int) (T:List Tok),lexP f s line=.ok T→∀ t∈T,Again t
 |0,s,line,T,h=>by
  rw[lexP] at h
  cases h
  simp
 |f+1,s,line,T,h=>by
  rw[lexP] at h
  split at h
  ·cases h
   simp
  ·split at h
   ·split at h
    ·cases h
    ·rename_i he
     obtain ⟨T',h1,rfl⟩:=map_ok h
     have k2:=lexP_again f _ _ _ h1
     intro t ht
     rcases zMi.1 ht with rfl|ht
     ·exact lexToken_again s (by omega)
     ·exact k2 t ht
   ·exact lexP_again f _ _ _ h
end Go.Stele
namespace Go.Stele
open Go.Lib
def pieces (c:UInt8):List UInt8→List (List UInt8)
 |[]=>[[]]
 |d::r=>if d=c then []::pieces c r else match pieces c r with
  |p::ps=>(d::p)::ps
  |[]=>[[d]]
theorem pieces_ne (c:UInt8):∀ s,∃ p ps,pieces c s=p::ps
 |[]=>⟨_,_,rfl⟩
 |d::r=>by
  obtain ⟨p,ps,h⟩:=pieces_ne c r
  rw[pieces,h]
  split
  ·exact ⟨_,_,rfl⟩
  ·exact ⟨_,_,rfl⟩
theorem pieces_hit (c:UInt8) (r:List UInt8):pieces c (c::r)=[]::pieces c r:=by rw[pieces,if_pos rfl]
theorem pieces_miss {c d:UInt8} (h:d≠c) (r:List UInt8):∃ p ps,pieces c r=p::ps∧pieces c (d::r)=(d::p)::ps:=by
 obtain ⟨p,ps,hp⟩:=pieces_ne c r
 exact ⟨p,ps,hp,by rw[pieces,if_neg h,hp]⟩
theorem pieces_one {c:UInt8}:∀ {s:List UInt8},c ∉ s→pieces c s=[s]
 |[],_=>rfl
 |d::r,h=>by
  have hd:d≠c:=fun e=>h (by rw[e];exact List.mem_cons_self ..)
  have hr:c ∉ r:=fun e=>h (zMo _ e)
  rw[pieces,if_neg hd,pieces_one hr]
theorem pieces_cut {c:UInt8}:∀ {a b:List UInt8},c ∉ a→pieces c (a++c::b)=a::pieces c b
 |[],b,_=>pieces_hit c b
 |d::a,b,h=>by
  have hd:d≠c:=fun e=>h (by rw[e];exact List.mem_cons_self ..)
  have ha:c ∉ a:=fun e=>h (zMo _ e)
  rw[List.cons_append,pieces,if_neg hd,pieces_cut ha]
/-! ### The library's words for it -/
theorem index_miss {c:UInt8}:∀ {s:List UInt8},c ∉ s→index s [c] = -1
 |[],_=>rfl
 |d::r,h=>by
  have hd:¬ c=d:=fun e=>h (by rw[e];exact List.mem_cons_self ..)
  have hr:c ∉ r:=fun e=>h (zMo _ e)
  have hp:([c]:List UInt8).isPrefixOf (d::r)=false:=by simp[List.isPrefixOf,hd]
  rw[index,hp,index_miss hr]
  rfl
theorem index_hit {c:UInt8}:∀ {a b:List UInt8},c ∉ a→index (a++c::b) [c]=(a.length:Int)
 |[],b,_=>by
  have hp:([c]:List UInt8).isPrefixOf (c::b)=true:=by simp[List.isPrefixOf]
  rw[List.nil_append,index,hp]
  rfl
 |d::a,b,h=>by
  have hd:¬ c=d:=fun e=>h (by rw[e];exact List.mem_cons_self ..)
  have ha:c ∉ a:=fun e=>h (zMo _ e)
  have hp:([c]:List UInt8).isPrefixOf (d::(a++c::b))=false:=by simp[List.isPrefixOf,hd]
  rw[List.cons_append,index,hp,index_hit ha,if_neg zDd,if_neg (by
   intro h
   have:=eq_of_beq h
   omega)]
  simp
theorem first_cut {c:UInt8} {s:List UInt8} (h:c∈s):∃ a b,s=a++c::b∧c ∉ a:=List.eq_append_cons_of_mem h
theorem cut_one (c:UInt8) (s:List UInt8):(cut s [c]).1=s.takeWhile (fun d=>decide (d≠c)):=by
 by_cases h:c∈s
 ·obtain ⟨a,b,rfl,ha⟩:=first_cut h
  have h1:∀ x∈a,decide (x≠c)=true:=fun x hx=>by
   simp only[zDe]
   rintro rfl
   exact ha hx
  rw[cut,index_hit ha,if_pos (by omega),List.takeWhile_append_of_pos h1,List.takeWhile_cons_of_neg (by simp)]
  simp
 ·have h1:∀ x∈s,decide (x≠c)=true:=fun x hx=>by
   simp only[zDe]
   rintro rfl
   exact h hx
  rw[cut,index_miss h,if_neg zDd]
  have:=List.takeWhile_append_of_pos (l₂:=[]) h1
  simpa using this.symm
theorem countFrom_one (c:UInt8):∀ (f:Nat) (s:List UInt8),s.length<f→countFrom [c] f s=s.count c
 |0,s,h=>by omega
 |f+1,s,h=>by
  rw[countFrom]
  by_cases hc:c∈s
  ·obtain ⟨a,b,rfl,ha⟩:=first_cut hc
   rw[index_hit ha,if_neg (by
    intro h
    have:=eq_of_beq h
    omega)]
   have hd:(a++c::b).drop ((a.length:Int).toNat+[c].length)=b:=by
    rw[show (a.length:Int).toNat+[c].length=a.length+1 by simp]
    rw[←List.drop_drop,List.drop_left]
    rfl
   rw[hd,countFrom_one c f b (by simp only[zLa,zLc] at h;omega)]
   rw[List.count_append,List.count_cons_self,List.count_eq_zero.2 ha]
   omega
  ·rw[index_miss hc,if_pos zDd,List.count_eq_zero.2 hc]
theorem splitK_one (c:UInt8):∀ (k:Nat) (s:List UInt8),s.count c≤k→splitK [c] 0 k s=pieces c s
 |0,s,h=>by
  have hc:c ∉ s:=List.count_eq_zero.1 (by omega)
  rw[splitK,pieces_one hc]
 |k+1,s,h=>by
  rw[splitK]
  by_cases hc:c∈s
  ·obtain ⟨a,b,rfl,ha⟩:=first_cut hc
   rw[index_hit ha,if_neg (by
    intro h
    have:=eq_of_beq h
    omega),pieces_cut ha]
   have hd:(a++c::b).drop ((a.length:Int).toNat+[c].length)=b:=by
    rw[show (a.length:Int).toNat+[c].length=a.length+1 by simp]
    rw[←List.drop_drop,List.drop_left]
    rfl
   rw[hd,show (a.length:Int).toNat+0=a.length by simp,List.take_left,splitK_one c k b (by
    rw[List.count_append,List.count_cons_self] at h
    omega)]
  ·rw[index_miss hc,if_pos zDd,pieces_one hc]
theorem split_one (c:UInt8) (s:List UInt8):split s [c]=pieces c s:=by
 rw[split,count,splitK_one c _ s (by rw[countFrom_one c _ s (by omega)];exact zNr _)]
/-! ### Words -/
def full (l:List (List UInt8)):List Wd:=l.filter fun w=>decide (w≠[])
def lineW (s:List UInt8):List Wd:=full (pieces 32 (s.takeWhile fun d=>decide (d≠35)))
def wordsP (s:List UInt8):List Wd:=(pieces 10 s).flatMap lineW
def flush (cur:List UInt8):List Wd:=if cur=[] then [] else [cur]
def scanW:List UInt8→Bool→List UInt8→List Wd
 |cur,_,[]=>flush cur
 |cur,com,c::r=>
  if c=10 then flush cur++scanW [] false r
  else if com=true then scanW cur true r
  else if c=35 then flush cur++scanW [] true r
  else if c=32 then flush cur++scanW [] false r
  else scanW (cur++[c]) false r
def restW (cur:List UInt8) (com:Bool) (l:List UInt8):List Wd:=if com=true then flush cur else lineW (cur++l)
theorem full_app (a b:List (List UInt8)):full (a++b)=full a++full b:=List.filter_append ..
theorem full_one (a:List UInt8):full [a]=flush a:=by
 unfold full flush
 by_cases h:a=[] <;> simp[h]
def Plain (cur:List UInt8):Prop:=∀ c∈cur,c≠10∧c≠32∧c≠35
theorem line_stop {cur:List UInt8} (h:Plain cur) (l:List UInt8):lineW (cur++35::l)=flush cur:=by
 have h1:∀ x∈cur,decide (x≠35)=true:=fun x hx=>by simp only[zDe];exact (h x hx).2.2
 have h2:(32:UInt8) ∉ cur:=fun hx=>(h 32 hx).2.1 rfl
 unfold lineW
 rw[List.takeWhile_append_of_pos h1,List.takeWhile_cons_of_neg (by simp),zLz,pieces_one h2,full_one]
theorem line_end {cur:List UInt8} (h:Plain cur):lineW cur=flush cur:=by
 have h1:∀ x∈cur,decide (x≠35)=true:=fun x hx=>by simp only[zDe];exact (h x hx).2.2
 have h2:(32:UInt8) ∉ cur:=fun hx=>(h 32 hx).2.1 rfl
 have h3:=List.takeWhile_append_of_pos (l₂:=[]) h1
 rw[zLz,List.takeWhile_nil,zLz] at h3
 unfold lineW
 rw[h3,pieces_one h2,full_one]
theorem line_space {cur:List UInt8} (h:Plain cur) (l:List UInt8):lineW (cur++32::l)=flush cur++lineW l:=by
 have h1:∀ x∈cur,decide (x≠35)=true:=fun x hx=>by simp only[zDe];exact (h x hx).2.2
 have h2:(32:UInt8) ∉ cur:=fun hx=>(h 32 hx).2.1 rfl
 unfold lineW
 rw[List.takeWhile_append_of_pos h1,List.takeWhile_cons_of_pos zDd,pieces_cut h2,←List.singleton_append,full_app,full_one]
theorem scan_eq:∀ (s cur:List UInt8) (com:Bool) (p:List UInt8) (ps:List (List UInt8)),Plain cur→(com=true→cur=[])→pieces 10 s=p::ps→scanW cur com s=restW cur com p++ps.flatMap lineW
 |[],cur,com,p,ps,hc,hcom,hp=>by
  cases hp
  rw[scanW,restW]
  cases com with
  |true=>simp
  |false=>simp[line_end hc]
 |c::r,cur,com,p,ps,hc,hcom,hp=>by
  obtain ⟨q,qs,hq⟩:=pieces_ne 10 r
  rw[scanW]
  by_cases h10:c=10
  ·subst h10
   rw[pieces_hit,hq] at hp
   cases hp
   rw[if_pos rfl,scan_eq r [] false q qs (fun x hx=>by cases hx) (by simp) hq]
   have:restW cur com []=flush cur:=by
    unfold restW
    cases com with
    |true=>rfl
    |false=>rw[if_neg zDd,zLz,line_end hc]
   rw[this]
   simp[restW]
  ·clear hq
   obtain ⟨q,qs,hq,hp'⟩:=pieces_miss h10 r
   rw[hp'] at hp
   cases hp
   rw[if_neg h10]
   cases com with
   |true=>
    obtain rfl:=hcom rfl
    rw[if_pos rfl,scan_eq r [] true q ps (fun x hx=>by cases hx) (fun _=>rfl) hq]
    simp[restW]
   |false=>
    rw[if_neg zDd]
    by_cases h35:c=35
    ·subst h35
     rw[if_pos rfl,scan_eq r [] true q ps (fun x hx=>by cases hx) (fun _=>rfl) hq]
     have:restW cur false (35::q)=flush cur:=by unfold restW;rw[if_neg zDd,line_stop hc]
     rw[this]
     simp[restW,flush]
    ·rw[if_neg h35]
     by_cases h32:c=32
     ·subst h32
      rw[if_pos rfl,scan_eq r [] false q ps (fun x hx=>by cases hx) (by simp) hq]
      have:restW cur false (32::q)=flush cur++lineW q:=by unfold restW;rw[if_neg zDd,line_space hc]
      rw[this,zAs]
      simp[restW]
     ·rw[if_neg h32,scan_eq r (cur++[c]) false q ps (fun x hx=>by
       rcases List.mem_append.1 hx with h|h
       ·exact hc x h
       ·obtain rfl:=List.mem_singleton.1 h
        exact ⟨h10,h32,h35⟩) (by simp) hq]
      simp[restW]
theorem scan_words (s:List UInt8):scanW [] false s=wordsP s:=by
 obtain ⟨p,ps,hp⟩:=pieces_ne 10 s
 rw[scan_eq s [] false p ps (fun x hx=>by cases hx) (by simp) hp]
 unfold wordsP
 rw[hp]
 simp[restW]
end Go.Stele
namespace Go.Stele
open Go.Lib
/-! ### What holds of all words goes on holding -/
/-! ### Words joined and cut again -/
def CleanW (w:Wd):Prop:=w≠[]∧Plain w
theorem dec_clean (n:Nat):CleanW (decDigits n):=⟨decDigits_ne n,fun c hc=>by
 have:=dec_digits n c hc
 refine ⟨?_,?_,?_⟩ <;> (rintro rfl;exact absurd this zDd)⟩
theorem pieces_clean {c:UInt8} {l:List UInt8}:∀ p∈pieces c l,c ∉ p∧∀ x∈p,x∈l:=by
 induction l with
 |nil=>
  intro p hp
  obtain rfl:=List.mem_singleton.1 hp
  exact ⟨by simp,by simp⟩
 |cons d r ih=>
  intro p hp
  by_cases h:d=c
  ·subst h
   rw[pieces_hit] at hp
   rcases zMi.1 hp with rfl|hp
   ·exact ⟨by simp,by simp⟩
   ·exact ⟨(ih p hp).1,fun x hx=>zMo _ ((ih p hp).2 x hx)⟩
  ·obtain ⟨q,qs,h1,h2⟩:=pieces_miss h r
   rw[h2] at hp
   rw[h1] at ih
   rcases zMi.1 hp with rfl|hp
   ·have:=ih q zMs
    refine ⟨fun hm=>?_,fun x hx=>?_⟩
    ·rcases zMi.1 hm with e|hm
     ·exact h e.symm
     ·exact this.1 hm
    ·rcases zMi.1 hx with rfl|hx
     ·exact List.mem_cons_self ..
     ·exact zMo _ (this.2 x hx)
   ·have:=ih p (zMo _ hp)
    exact ⟨this.1,fun x hx=>zMo _ (this.2 x hx)⟩
theorem lineW_clean {l:List UInt8} (h:(10:UInt8) ∉ l):∀ w∈lineW l,CleanW w:=by
 intro w hw
 obtain ⟨h1,h2⟩:=List.mem_filter.1 hw
 obtain ⟨h3,h4⟩:=pieces_clean w h1
 refine ⟨of_decide_eq_true h2,fun c hc=>⟨?_,?_,?_⟩⟩
 ·rintro rfl
  exact h ((List.takeWhile_prefix _).subset (h4 _ hc))
 ·rintro rfl
  exact h3 hc
 ·rintro rfl
  have:∀ (l:List UInt8),(35:UInt8) ∉ l.takeWhile fun d=>decide (d≠35):=by
   intro l
   induction l with
   |nil=>simp
   |cons d r ih=>
    rw[List.takeWhile_cons]
    split
    ·rename_i hd
     intro hm
     rcases zMi.1 hm with e|hm
     ·rw[←e] at hd;simp at hd
     ·exact ih hm
    ·simp
  exact this _ (h4 _ hc)
theorem wordsP_clean (s:List UInt8):∀ w∈wordsP s,CleanW w:=by
 intro w hw
 obtain ⟨p,hp,hw⟩:=List.mem_flatMap.1 hw
 exact lineW_clean (pieces_clean p hp).1 w hw
theorem join_two' (x y:Wd) (r:List Wd):join (x::y::r) [32]=x++32::join (y::r) [32]:=by simp[join]
theorem join_noNl:∀ (l:List Wd),(∀ w∈l,CleanW w)→(10:UInt8) ∉ join l [32]
 |[],_=>by simp[join]
 |[a],h=>by
  rw[join_one]
  exact fun hm=>((h a zMs).2 10 hm).1 rfl
 |a::b::r,h=>by
  rw[join_two']
  intro hm
  rcases List.mem_append.1 hm with hm|hm
  ·exact ((h a zMs).2 10 hm).1 rfl
  ·rcases zMi.1 hm with e|hm
   ·exact absurd e zDd
   ·exact join_noNl (b::r) (fun x hx=>h x (zMo _ hx)) hm
theorem line_join:∀ (l:List Wd),(∀ w∈l,CleanW w)→lineW (join l [32])=l
 |[],_=>rfl
 |[a],h=>by
  obtain ⟨h1,h2⟩:=h a zMs
  rw[join_one,line_end h2]
  simp[flush,h1]
 |a::b::r,h=>by
  obtain ⟨h1,h2⟩:=h a zMs
  rw[join_two',line_space h2,line_join (b::r) fun x hx=>h x (zMo _ hx)]
  simp[flush,h1]
theorem words_join {l:List Wd} (h:∀ w∈l,CleanW w):wordsP (join l [32])=l:=by
 unfold wordsP
 rw[pieces_one (join_noNl l h)]
 simp[line_join l h]
/-! ### The text does not grow -/
def tot (l:List Wd):Nat:=(l.map fun w=>w.length+1).sum
theorem tot_cons (w:Wd) (l:List Wd):tot (w::l)=w.length+1+tot l:=by simp[tot]
theorem tot_nil:tot []=0:=rfl
theorem tot_app (a b:List Wd):tot (a++b)=tot a+tot b:=by simp[tot]
theorem join_tot:∀ l:List Wd,(join l [32]).length≤tot l
 |[]=>Nat.zero_le _
 |[a]=>by
  rw[join_one,tot_cons]
  omega
 |a::b::r=>by
  have:=join_tot (b::r)
  rw[join_two',tot_cons]
  simp only[zLa,zLc]
  omega
theorem scan_tot:∀ (s cur:List UInt8) (com:Bool),tot (scanW cur com s)≤cur.length+s.length+1
 |[],cur,com=>by
  rw[scanW]
  unfold flush
  split
  ·exact Nat.zero_le _
  ·simp[tot]
 |c::r,cur,com=>by
  have hf:tot (flush cur)≤cur.length+1:=by
   unfold flush
   split
   ·exact Nat.zero_le _
   ·simp[tot]
  rw[scanW]
  simp only[zLc]
  split
  ·have:=scan_tot r [] false
   rw[tot_app]
   simp only[zLn] at this
   omega
  split
  ·have:=scan_tot r cur true
   omega
  split
  ·have:=scan_tot r [] true
   rw[tot_app]
   simp only[zLn] at this
   omega
  split
  ·have:=scan_tot r [] false
   rw[tot_app]
   simp only[zLn] at this
   omega
  ·have:=scan_tot r (cur++[c]) false
   rw[zLa,List.length_singleton] at this
   omega
theorem words_tot (s:List UInt8):tot (wordsP s)≤s.length+1:=by
 rw[←scan_words]
 have:=scan_tot s [] false
 simpa using this
end Go.Stele
namespace Go.Stele
open Go.Lib
/-! ### Numbers, digit by digit -/
/-! ### Labels -/
theorem nameW_eq (c:UInt8) (r:List UInt8):nameW (c::r)=(decide ((c::r).length≤40) && isLetter c && (c::r).all isInner):=rfl
theorem nameW_ne {s:Wd} (h:nameW s=true):s≠[]:=by
 rintro rfl
 cases h
/-! ### The words of assembly, with their lines -/
def toksN:Nat→List (List UInt8)→List (Wd×Nat)
 |_,[]=>[]
 |n,l::r=>(lineW l).map (fun w=>(w,n+1))++toksN (n+1) r
def toksP (s:List UInt8):List (Wd×Nat):=toksN 0 (pieces 10 s)
theorem toksN_fst:∀ (l:List (List UInt8)) (n:Nat),(toksN n l).map (·.1)=l.flatMap lineW
 |[],_=>rfl
 |a::r,n=>by
  rw[toksN,zMa,List.map_map,toksN_fst r]
  simp[Function.comp_def]
theorem toksP_fst (s:List UInt8):(toksP s).map (·.1)=wordsP s:=toksN_fst _ 0
theorem toksN_drop {l:List (List UInt8)} {i:Nat} (h:i<l.length) (n:Nat):toksN n (l.drop i)=(lineW l[i]).map (fun w=>(w,n+1))++toksN (n+1) (l.drop (i+1)):=by
 rw[List.drop_eq_getElem_cons h,toksN]
theorem full_drop {l:List (List UInt8)} {i:Nat} (h:i<l.length):full (l.drop i)=if l[i]=[] then full (l.drop (i+1)) else l[i]::full (l.drop (i+1)):=by
 rw[List.drop_eq_getElem_cons h]
 unfold full
 rw[List.filter_cons]
 by_cases hc:l[i]=[]
 ·simp[hc]
 ·simp[hc]
theorem pieces_len (c:UInt8):∀ s,(pieces c s).length≤s.length+1
 |[]=>by simp[pieces]
 |d::r=>by
  have:=pieces_len c r
  by_cases h:d=c
  ·subst h
   rw[pieces_hit]
   simp only[zLc]
   omega
  ·obtain ⟨p,ps,h1,h2⟩:=pieces_miss h r
   rw[h2]
   rw[h1] at this
   simp only[zLc] at this ⊢
   omega
theorem pieces_mem_len {c:UInt8}:∀ {s p:List UInt8},p∈pieces c s→p.length≤s.length
 |[],p,h=>by
  obtain rfl:=List.mem_singleton.1 h
  exact zNr _
 |d::r,p,h=>by
  by_cases hd:d=c
  ·subst hd
   rw[pieces_hit] at h
   rcases zMi.1 h with rfl|h
   ·exact Nat.zero_le _
   ·have:=pieces_mem_len h
    simp only[zLc]
    omega
  ·obtain ⟨q,qs,h1,h2⟩:=pieces_miss hd r
   rw[h2] at h
   rcases zMi.1 h with rfl|h
   ·have:=pieces_mem_len (c:=c) (s:=r) (p:=q) (by rw[h1];exact List.mem_cons_self ..)
    simp only[zLc]
    omega
   ·have:=pieces_mem_len (c:=c) (s:=r) (p:=p) (by rw[h1];exact zMo _ h)
    simp only[zLc]
    omega
theorem wordsP_len (s:List UInt8):(wordsP s).length≤s.length+1:=by
 have h1:=words_tot s
 have h2:(wordsP s).length≤tot (wordsP s):=by
  unfold tot
  generalize wordsP s=l
  induction l with
  |nil=>exact zNr _
  |cons a l ih=>
   simp only[zLc,zMc,List.sum_cons]
   omega
 omega
theorem tot_mem {l:List Wd} {w:Wd} (h:w∈l):w.length+1≤tot l:=by
 induction l with
 |nil=>cases h
 |cons a l ih=>
  rw[tot_cons]
  rcases zMi.1 h with rfl|h
  ·omega
  ·have:=ih h
   omega
theorem tot_len (l:List Wd):l.length≤tot l:=by
 induction l with
 |nil=>exact Nat.zero_le _
 |cons a l ih=>
  rw[tot_cons,zLc]
  omega
end Go.Stele
namespace Go.Stele
open Go.Lib
def codeSet:List UInt8:=[43,45,42,47,37,94,60,64,33,63,58,59,44,46,36,48,49,50,51,52,53,54,55,56,57]
def codeW (w:Wd):Bool:=w.all fun c=>codeSet.contains c
def defs (l:List Wd):List Wd:=l.filterMap defW
def OkW (ds:List Wd) (w:Wd):Prop:=match defW w with
 |some _=>True
 |none=>match refW w with
  |some d=>d∈ds
  |none=>codeW w=true
def AsmOk (l:List Wd):Prop:=(defs l).Nodup∧∀ w∈l,OkW (defs l) w
def firstD (w:Wd):Bool:=match w with
 |[]=>false
 |c::_=>isDigit c
def lastD (w:Wd):Bool:=match w.getLast? with
 |some c=>isDigit c
 |none=>false
def one (d:Bool):Nat:=if d=true then 1 else 0
def lenW:Bool→List Wd→Nat
 |_,[]=>0
 |d,w::r=>match defW w with
  |some _=>lenW d r
  |none=>match refW w with
   |some _=>one d+6+lenW true r
   |none=>one (d && firstD w)+w.length+lenW (lastD w) r
/-! ### Kinds of words -/
structure Num (w:Wd):Prop where
 d:defW w=none
 r:refW w=none
 f:firstD w=true
 l:lastD w=true
 n:1≤w.length
 c:codeW w=true
theorem code_digit {c:UInt8} (h:isDigit c=true):codeSet.contains c=true:=by
 have:∀ n:Nat,n<256→isDigit (UInt8.ofNat n)=true→codeSet.contains (UInt8.ofNat n)=true:=by decide +kernel
 have h1:=this c.toNat c.toNat_lt
 rw[UInt8.ofNat_toNat] at h1
 exact h1 h
theorem dec_num (n:Nat):Num (decDigits n):=by
 have hd:=dec_digits n
 have hne:=decDigits_ne n
 generalize decDigits n=w at hd hne
 cases w with
 |nil=>exact absurd rfl hne
 |cons c r=>
  have hc:=hd c zMs
  have hl:(c::r).getLast? = some ((c::r).getLast (by simp)):=List.getLast?_eq_some_getLast (by simp)
  have hlm:=hd _ (List.getLast_mem (l:=c::r) (by simp))
  refine ⟨?_,?_,hc,?_,by simp,?_⟩
  ·unfold defW
   rw[hl,if_neg]
   intro h
   rw[Option.some.inj h.1] at hlm
   exact absurd hlm zDd
  ·unfold refW
   simp only
   rw[if_neg]
   intro h
   rw[h.1] at hc
   exact absurd hc zDd
  ·unfold lastD
   rw[hl]
   exact hlm
  ·unfold codeW
   rw[List.all_eq_true]
   exact fun x hx=>code_digit (hd x hx)
theorem ref_notdef {w d:Wd} (h:refW w=some d):defW w=none:=by
 unfold refW at h
 split at h
 ·cases h
 ·rename_i c r
  split at h
  ·rename_i hc
   obtain ⟨rfl,hn⟩:=hc
   unfold defW
   rw[if_neg]
   rintro ⟨_,h2⟩
   cases r with
   |nil=>cases hn
   |cons e r=>
    rw[List.dropLast_cons_of_ne_nil (by simp),nameW_eq] at h2
    have:isLetter 38=false:=by decide
    rw[this] at h2
    simp at h2
  ·cases h
/-! ### Lengths -/
theorem one_le (d:Bool):one d≤1:=by cases d <;> simp[one]
theorem defs_cons (w:Wd) (l:List Wd):defs (w::l)=(match defW w with|some d=>[d]|none=>[])++defs l:=by
 unfold defs
 rw[List.filterMap_cons]
 cases defW w <;> rfl
theorem defs_none {w:Wd} (h:defW w=none) (l:List Wd):defs (w::l)=defs l:=by rw[defs_cons,h];rfl
theorem defs_app (a b:List Wd):defs (a++b)=defs a++defs b:=List.filterMap_append
/-! ### A pass -/
end Go.Stele
namespace Go.Stele
open Go.Lib
def addrW (n:Nat):Wd:=([48,48,48,48,48]++decDigits n).drop (([48,48,48,48,48]++decDigits n).length-6)
def pieceW (known:Wd→Nat) (w:Wd):Wd:=match refW w with
 |some x=>addrW (known x)
 |none=>w
def addT (known:Wd→Nat) (t w:Wd):Wd:=match defW w with
 |some _=>t
 |none=>t++(if lastD t && firstD (pieceW known w) then [32] else [])++pieceW known w
def textA (known:Wd→Nat) (l:List Wd):Wd:=l.foldl (addT known) []
def stepA (known:Wd→Nat) (og:Nat) (s:Wd×List (Wd×Nat)) (w:Wd):Wd×List (Wd×Nat):=match defW w with
 |some x=>(s.1,s.2++[(x,og+s.1.length)])
 |none=>(addT known s.1 w,s.2)
def labsA (known:Wd→Nat) (og:Nat) (l:List Wd):List (Wd×Nat):=(l.foldl (stepA known og) ([],[])).2
def findL (labs:List (Wd×Nat)) (x:Wd):Nat:=match labs.find? fun p=>decide (p.1=x) with
 |some p=>p.2
 |none=>0
def errT (all:List Wd):List Wd→List (Wd×Nat)→Nat×Nat
 |_,[]=>(0,0)
 |met,(w,ln)::r=>match defW w with
  |some x=>if x∈met then (ln,8) else errT all (met++[x]) r
  |none=>match refW w with
   |some x=>if x∈all then errT all met r else (ln,7)
   |none=>if codeW w=true then errT all met r else (ln,3)
def asmP (src:Wd) (og:Int):Except (Nat×Nat) (Wd×List (Wd×Nat)):=
 if og<0∨262144≤og then .error (0,2)
 else if (errT (defs (wordsP src)) [] (toksP src)).2≠0 then .error (errT (defs (wordsP src)) [] (toksP src))
 else if 40000<(textA (findL (labsA (fun _=>0) og.toNat (wordsP src))) (wordsP src)).length then .error (0,6)
 else .ok (textA (findL (labsA (fun _=>0) og.toNat (wordsP src))) (wordsP src),labsA (fun _=>0) og.toNat (wordsP src))
theorem addrW_len (n:Nat):(addrW n).length=6∧∀ c∈addrW n,isDigit c=true:=by
 have h1:1≤(decDigits n).length:=List.length_pos_iff.2 (decDigits_ne n)
 constructor
 ·unfold addrW
  rw[List.length_drop,zLa]
  simp only[zLc,zLn]
  omega
 ·intro c hc
  have h2:=List.mem_of_mem_drop hc
  rcases List.mem_append.1 h2 with h|h
  ·simp only[zMi,List.not_mem_nil,or_false,or_self] at h
   rw[h];decide
  ·exact dec_digits n c h
theorem piece_first {known:Wd→Nat} {w:Wd} (known':Wd→Nat):firstD (pieceW known w)=firstD (pieceW known' w)∧lastD (pieceW known w)=lastD (pieceW known' w)∧(pieceW known w).length=(pieceW known' w).length:=by
 unfold pieceW
 cases refW w with
 |none=>exact ⟨rfl,rfl,rfl⟩
 |some x=>
  have key:∀ n,firstD (addrW n)=true∧lastD (addrW n)=true∧(addrW n).length=6:=fun n=>by
   obtain ⟨h1,h2⟩:=addrW_len n
   have hne:addrW n≠[]:=fun h=>by rw[h] at h1;cases h1
   refine ⟨?_,?_,h1⟩
   ·cases h:addrW n with
    |nil=>exact absurd h hne
    |cons c r=>exact h2 c (by rw[h];simp)
   ·unfold lastD
    rw[List.getLast?_eq_some_getLast hne]
    exact h2 _ (List.getLast_mem hne)
  obtain ⟨a1,a2,a3⟩:=key (known x)
  obtain ⟨b1,b2,b3⟩:=key (known' x)
  exact ⟨a1.trans b1.symm,a2.trans b2.symm,a3.trans b3.symm⟩
theorem lastD_app {a b:Wd} (h:b≠[]):lastD (a++b)=lastD b:=by
 unfold lastD
 rw[List.getLast?_append,List.getLast?_eq_some_getLast h];rfl
theorem addT_nil (known:Wd→Nat) (t w:Wd) (hd:defW w=none) (hw:w≠[]):pieceW known w≠[]∧lastD (addT known t w)=lastD (pieceW known w)∧(addT known t w).length=t.length+one (lastD t && firstD (pieceW known w))+(pieceW known w).length:=by
 have hp:pieceW known w≠[]:=by
  unfold pieceW
  cases refW w with
  |none=>exact hw
  |some x=>intro h;have:=(addrW_len (known x)).1;rw[show addrW (known x)=[] from h] at this;cases this
 refine ⟨hp,?_,?_⟩
 ·unfold addT
  rw[hd]
  exact lastD_app hp
 ·unfold addT
  rw[hd]
  simp only[zLa,one]
  split <;> rfl
theorem foldT_len (known:Wd→Nat):∀ (l:List Wd) (t:Wd),(∀ w∈l,w≠[])→(l.foldl (addT known) t).length=t.length+lenW (lastD t) l
 |[],t,_=>rfl
 |w::r,t,h=>by
  have hr:=fun x hx=>h x (zMo w hx)
  rw[List.foldl_cons,foldT_len known r _ hr,lenW]
  cases hd:defW w with
  |some x=>
   have:addT known t w=t:=by unfold addT;rw[hd]
   rw[this]
  |none=>
   obtain ⟨h1,h2,h3⟩:=addT_nil known t w hd (h w (by simp))
   rw[h2,h3]
   cases hr:refW w with
   |some x=>
    have hp:pieceW known w=addrW (known x):=by unfold pieceW;rw[hr]
    obtain ⟨a1,a2⟩:=addrW_len (known x)
    have hf:firstD (addrW (known x))=true:=by
     cases h:addrW (known x) with
     |nil=>rw[h] at a1;cases a1
     |cons c q=>exact a2 c (by rw[h];simp)
    have hl:lastD (addrW (known x))=true:=by
     have hne:addrW (known x)≠[]:=fun h=>by rw[h] at a1;cases a1
     unfold lastD
     rw[List.getLast?_eq_some_getLast hne]
     exact a2 _ (List.getLast_mem hne)
    rw[hp,hf,hl,a1,Bool.and_true]
    simp only
    omega
   |none=>
    have hp:pieceW known w=w:=by unfold pieceW;rw[hr]
    rw[hp]
    simp only
    omega
theorem textA_len (known:Wd→Nat) (l:List Wd) (h:∀ w∈l,w≠[]):(textA known l).length=lenW false l:=by
 have:=foldT_len known l [] h
 rw[textA,this]
 simp[lastD]
theorem stepA_fst (known:Wd→Nat) (og:Nat):∀ (l:List Wd) (s:Wd×List (Wd×Nat)),(l.foldl (stepA known og) s).1=l.foldl (addT known) s.1
 |[],s=>rfl
 |w::r,s=>by
  rw[List.foldl_cons,List.foldl_cons,stepA_fst known og r]
  congr 1
  unfold stepA
  cases hd:defW w with
  |some x=>simp only;unfold addT;rw[hd]
  |none=>rfl
theorem labs_any (known known':Wd→Nat) (og:Nat):∀ (l:List Wd) (s s':Wd×List (Wd×Nat)),(∀ w∈l,w≠[])→s.1.length=s'.1.length→lastD s.1=lastD s'.1→s.2=s'.2→(l.foldl (stepA known og) s).2=(l.foldl (stepA known' og) s').2
 |[],s,s',_,_,_,h=>h
 |w::r,s,s',hw,h1,h2,h3=>by
  rw[List.foldl_cons,List.foldl_cons]
  have hr:=fun x hx=>hw x (zMo w hx)
  cases hd:defW w with
  |some x=>
   have e1:stepA known og s w=(s.1,s.2++[(x,og+s.1.length)]):=by unfold stepA;rw[hd]
   have e2:stepA known' og s' w=(s'.1,s'.2++[(x,og+s'.1.length)]):=by unfold stepA;rw[hd]
   rw[e1,e2]
   exact labs_any known known' og r _ _ hr h1 h2 (by simp only[h3,h1])
  |none=>
   have e1:stepA known og s w=(addT known s.1 w,s.2):=by unfold stepA;rw[hd]
   have e2:stepA known' og s' w=(addT known' s'.1 w,s'.2):=by unfold stepA;rw[hd]
   rw[e1,e2]
   obtain ⟨a1,a2,a3⟩:=addT_nil known s.1 w hd (hw w (by simp))
   obtain ⟨b1,b2,b3⟩:=addT_nil known' s'.1 w hd (hw w (by simp))
   obtain ⟨c1,c2,c3⟩:=piece_first (known:=known) (w:=w) known'
   exact labs_any known known' og r _ _ hr (by rw[a3,b3,c1,c3,h1,h2]) (by rw[a2,b2,c2]) h3
theorem labsA_any (known known':Wd→Nat) (og:Nat) (l:List Wd) (h:∀ w∈l,w≠[]):labsA known og l=labsA known' og l:=labs_any known known' og l _ _ h rfl rfl rfl
theorem labsA_names (known:Wd→Nat) (og:Nat):∀ (l:List Wd) (s:Wd×List (Wd×Nat)),((l.foldl (stepA known og) s).2).map (·.1)=s.2.map (·.1)++defs l
 |[],s=>by simp[defs]
 |w::r,s=>by
  rw[List.foldl_cons,labsA_names known og r]
  unfold stepA defs
  cases hd:defW w with
  |some x=>simp[hd]
  |none=>simp[hd]
end Go.Stele
namespace Go.Stele
open Go.Lib
theorem dropWhile_nil {p:UInt8→Bool}:∀ {l:List UInt8},l.dropWhile p=[] ↔ l.all p=true
 |[]=>by simp
 |c::l=>by
  rw[List.dropWhile_cons,List.all_cons]
  cases h:p c with
  |true=>simpa using dropWhile_nil
  |false=>simp
theorem pre_hit (r:List UInt8):hasPrefix (38::r) [38]=true∧trimPrefix (38::r) [38]=r:=by
 simp[trimPrefix,hasPrefix,List.isPrefixOf]
theorem pre_miss {c:UInt8} (h:c≠38) (r:List UInt8):hasPrefix (c::r) [38]=false:=by
 have:¬ (38:UInt8)=c:=fun e=>h e.symm
 simp[hasPrefix,List.isPrefixOf,this]
theorem ref_eq (w:Wd):refW w=if hasPrefix w [38]=true∧nameW (trimPrefix w [38])=true then some (trimPrefix w [38]) else none:=by
 cases w with
 |nil=>rfl
 |cons c r=>
  by_cases h:c=38
  ·subst h
   rw[(pre_hit r).1,(pre_hit r).2]
   simp[refW]
  ·rw[pre_miss h]
   simp[refW,h]
theorem suffix_one (w:Wd):hasSuffix w [58]=decide (w.getLast? = some 58):=by
 unfold hasSuffix
 rw[Bool.eq_iff_iff,List.isSuffixOf_iff_suffix,decide_eq_true_iff]
 constructor
 ·rintro ⟨t,rfl⟩
  simp
 ·intro h
  rw[List.getLast?_eq_some_iff] at h
  obtain ⟨t,rfl⟩:=h
  exact ⟨t,rfl⟩
theorem def_eq (w:Wd):defW w=if hasSuffix w [58]=true∧nameW (trimSuffix w [58])=true then some (trimSuffix w [58]) else none:=by
 rw[suffix_one]
 unfold defW
 by_cases h:w.getLast? = some 58
 ·have h2:trimSuffix w [58]=w.dropLast:=by
   unfold trimSuffix
   rw[suffix_one,decide_eq_true h,if_pos rfl,List.dropLast_eq_take]
   rfl
  rw[h2]
  simp[h]
 ·simp[h]
end Go.Stele
namespace Go.GL
open Go.RowKit
theorem elemsOk_strs:∀ l:List (List UInt8),elemsOk 1 (l.map str)
 |[]=>eN
 |a::l=>eC rfl rfl (elemsOk_strs l)
theorem LCalls.ret_strs {C:Ctx} {f:FuncId} {vs:List Value} {l:List (List UInt8)} {t:TypeId}
  (h:∀ w,Below C.B0 C.w0 w→Calls C.P f vs.toArray w (fun e w'=>e=.returned (.slice (some ⟨w.heap.size,0,none⟩) l.length l.length)∧w'=w.alloc (.cells (l.map fun s=>Value.string ⟨s.toArray⟩).toArray t))):LCalls C f (vs.map .atom) [] (Ret (.list (l.map str))):=fun xs w L hv hH=>by
 have hx:xs=vs:=by
  clear h hH
  induction vs generalizing xs with
  |nil=>simpa [RepL] using hv
  |cons v vs ih=>
   simp only[zMc,RepL,Rep] at hv
   obtain ⟨y,ys,rfl,rfl,hv⟩:=hv
   rw[ih _ hv]
 subst hx
 refine (h w hH.base).mono fun e w' he=>?_
 obtain ⟨rfl,rfl⟩:=he
 have hr:RepL w L (l.map str) (l.map fun s=>Value.string ⟨s.toArray⟩):=by
  have:=repL_atoms (w:=w) (L:=L) (l.map fun s=>Value.string ⟨s.toArray⟩)
  rw[List.map_map] at this
  exact this
 have hok:elemsOk 1 (l.map str):=elemsOk_strs l
 have hl:(l.map str).length=l.length:=zLm _
 have:=left_newRow (K:=fun lv H=>∃ b,lv=.app b l.length 1 (l.map str)) (t:=t) (cap:=l.length) (rest:=[]) hH hr hok zo (by simp) fun b=>⟨b,rfl⟩
 have e1:((l.map fun s=>Value.string ⟨s.toArray⟩).flatMap fun v=>v.cells.toList)++[]=l.map fun s=>Value.string ⟨s.toArray⟩:=by
  rw[zLz]
  clear this hok hr h hv hl
  induction l with
  |nil=>rfl
  |cons a l ih=>rw[zMc,List.flatMap_cons,ih];rfl
 rw[e1,hl] at this
 obtain ⟨lv,H',L',r1,r2,r3,b,rfl⟩:=this
 exact ⟨.list (l.map str),[],L',r1.weak zhn,r2.weak zhn,LV.Sub.app _ _ _ _ _ _ _ r3,rfl,rfl⟩
end Go.GL
namespace Go.Proofs.YtpbbgkoalnonoaaGreatDoor
open Go.GL Go.RowKit Go.Stele
namespace Asm
def GM (w0:World):Prop:=∃ m,w0.cell? ⟨0,0,none⟩=some (.int .i64 m)
theorem cells_rows {w:World} {L:Live} {b:Nat}:∀ (k off:Nat) (ws:List (List UInt8)),RepRows w L b k off (ws.map str)→∀ (j:Nat) x,(ws.map fun l=>(⟨l.toArray⟩:ByteArray))[j]? = some x→k=1∧w.cell? ⟨b,off+j,none⟩=some (.string x)
 |k,off,[],_,j,x,h=>by simp at h
 |k,off,s::ws,h,0,x,hx=>by
  simp only[zMc,RepRows] at h
  obtain ⟨⟨hk,_,y,hy,hr⟩,_⟩:=h
  simp only[Rep] at hr
  simp at hx
  rw[←hx,Nat.add_zero,hy,hr]
  exact ⟨hk.symm,rfl⟩
 |k,off,s::ws,h,j+1,x,hx=>by
  simp only[zMc,RepRows] at h
  obtain ⟨⟨hk,_⟩,h2⟩:=h
  have:=cells_rows k (off+k) ws h2 j x (by simpa using hx)
  refine ⟨hk.symm,?_⟩
  rw[←this.2,←hk,Nat.add_assoc,Nat.add_comm 1 j]
section
variable {B0:Nat} {w0:World}
theorem cutPrefix_spec (s p:List UInt8):LCalls (KC B0 w0) 179 [str s,str p] [] (Ret (.tuple [str (Go.Lib.trimPrefix s p),bool (Go.Lib.hasPrefix s p)])):=by
 refine LCalls.mono (LCalls.of_belowT (vs:=[.string ⟨s.toArray⟩,.string ⟨p.toArray⟩]) (p:=fun us=>us=[.string ⟨(Go.Lib.trimPrefix s p).toArray⟩,.bool (Go.Lib.hasPrefix s p)]) fun w hw=>?_) ?_
 ·refine (Tryz.strings_CutPrefix ⟨s.toArray⟩ ⟨p.toArray⟩ w).mono fun e w' he=>⟨_,he.1,rfl,by rw[he.2];exact Below.refl _ _⟩
 ·rintro r H ⟨v,rfl,⟨us,rfl,rfl⟩,rfl⟩
  exact ⟨rfl,rfl⟩
theorem cutSuffix_spec (s p:List UInt8) (hs:s.length≤1000000000):LCalls (KC B0 w0) 177 [str s,str p] [] (Ret (.tuple [str (Go.Lib.trimSuffix s p),bool (Go.Lib.hasSuffix s p)])):=by
 refine LCalls.mono (LCalls.of_belowT (vs:=[.string ⟨s.toArray⟩,.string ⟨p.toArray⟩]) (p:=fun us=>us=[.string ⟨(Go.Lib.trimSuffix s p).toArray⟩,.bool (Go.Lib.hasSuffix s p)]) fun w hw=>?_) ?_
 ·refine (Tryz.strings_CutSuffix ⟨s.toArray⟩ ⟨p.toArray⟩ w (by show s.toArray.size≤_;simp;omega)).mono fun e w' he=>⟨_,he.1,rfl,by rw[he.2];exact Below.refl _ _⟩
 ·rintro r H ⟨v,rfl,⟨us,rfl,rfl⟩,rfl⟩
  exact ⟨rfl,rfl⟩
theorem joinS_spec (sep:List UInt8) (ws:List (List UInt8)) (hn:ws.length≤1000000000) (hl:(Go.Lib.join ws sep).length≤1000000000):LCalls (KC B0 w0) 29 [.list (ws.map str),str sep] [] (Ret (str (Go.Lib.join ws sep))):=fun xs w L hv hH=>by
 simp only[RepL] at hv
 obtain ⟨y,ys,rfl,hy,z,zs,rfl,hz,rfl⟩:=hv
 simp only[Rep] at hy hz
 obtain ⟨a,cap,rfl,hcap,hrows⟩:=hy
 subst hz
 rw[zLm] at hcap
 have hmap:(ws.map fun l=>(⟨l.toArray⟩:ByteArray)).map (·.data.toList)=ws:=by
  rw[List.map_map]
  conv=>rhs;rw[←List.map_id ws]
  rfl
 have hc:Calls Tryz.prog 29 #[.slice a ws.length cap,.string ⟨sep.toArray⟩] w fun e w'=>e=.returned (.string ⟨(Go.Lib.join ws sep).toArray⟩)∧Below w.heap.size w w':=by
  by_cases hne:ws=[]
  ·subst hne
   exact (Tryz.strings_Join_none a cap ⟨sep.toArray⟩ w).mono fun e w' he=>⟨by rw[he.1];rfl,by rw[he.2];exact Below.refl _ _⟩
  ·obtain ⟨b,off,k,rfl,hr⟩:=hrows (by simpa using hne)
   have hcells:=fun j x hx=>(cells_rows k off ws hr j x hx).2
   have hb:b<w.heap.size:=by
    obtain ⟨s,r,rfl⟩:=List.exists_cons_of_ne_nil hne
    have:=hcells 0 _ rfl
    exact World.block_lt_of_cell? _ _ this
   have:=Tryz.strings_Join b off cap (ws.map fun l=>(⟨l.toArray⟩:ByteArray)) ⟨sep.toArray⟩ w hcells hb (by rw[zLm];omega) (by rw[zLm];exact hcap) (by rw[hmap];show (Go.Lib.join ws sep).length≤_;omega)
   rw[zLm,hmap] at this
   exact this
 rw[zLm]
 refine hc.mono fun e w' he=>?_
 obtain ⟨rfl,hb⟩:=he
 obtain ⟨h1,h2⟩:=fr_below hH hb
 exact ⟨str (Go.Lib.join ws sep),[],L,h1,h2,rep_atom,rfl,rfl⟩
theorem GM.at (hG:GW B0 w0) (h:GM w0) {w:World} (hb:Below B0 w0 w):∃ m,w.cell? ⟨0,0,none⟩=some (.int .i64 m):=by
 obtain ⟨m,hm⟩:=h
 exact ⟨m,(cell_of_heap (hb.block 0 (Nat.lt_of_lt_of_le zDd hG.big)) 0).trans hm⟩
theorem split_spec (hG:GW B0 w0) (hM:GM w0) (s:List UInt8) (c:UInt8) (hs:s.length≤1000000000):LCalls (KC B0 w0) 112 [str s,str [c]] [] (Ret (.list ((pieces c s).map str))):=by
 rw[←split_one]
 refine LCalls.ret_strs (vs:=[.string ⟨s.toArray⟩,.string ⟨#[c]⟩]) (t:=9) fun w hw=>?_
 obtain ⟨m,hm⟩:=GM.at hG hM hw
 have h1:=Tryz.strings_Split ⟨s.toArray⟩ ⟨#[c]⟩ m w (by show s.toArray.size<_;simp;omega) hm (zNr 1)
 have e1:(Go.Lib.splitB ⟨#[c]⟩ 0 (Go.Lib.countB ⟨s.toArray⟩ ⟨#[c]⟩) ⟨s.toArray⟩).map Value.string=(Go.Lib.split s [c]).map fun s=>Value.string ⟨s.toArray⟩:=by
  have:=Go.Lib.splitB_data ⟨#[c]⟩ 0 (Go.Lib.countB ⟨s.toArray⟩ ⟨#[c]⟩) ⟨s.toArray⟩
  have e2:Go.Lib.split s [c]=Go.Lib.splitK (⟨#[c]⟩:ByteArray).data.toList 0 (Go.Lib.countB ⟨s.toArray⟩ ⟨#[c]⟩) (⟨s.toArray⟩:ByteArray).data.toList:=rfl
  rw[e2,←this,List.map_map]
  rfl
 have e3:(Go.Lib.split s [c]).length=Go.Lib.countB ⟨s.toArray⟩ ⟨#[c]⟩+1:=by
  have:=congrArg List.length e1
  rw[zLm,zLm,Go.Lib.splitB_all ⟨#[c]⟩ (zNr 1) 0 _ _ rfl] at this
  exact this.symm
 rw[e1] at h1
 rw[e3]
 exact h1
theorem cut_spec (hG:GW B0 w0) (hM:GM w0) (s:List UInt8) (c:UInt8) (hs:s.length≤1000000000):LCalls (KC B0 w0) 113 [str s,str [c]] [] (RetIf fun lv=>∃ a b,lv=.tuple [str (s.takeWhile fun d=>decide (d≠c)),str a,bool b]):=by
 rw[←cut_one]
 refine LCalls.mono (LCalls.of_belowT (vs:=[.string ⟨s.toArray⟩,.string ⟨#[c]⟩]) (p:=fun us=>us=[.string ⟨(Go.Lib.cut s [c]).1.toArray⟩,.string ⟨(Go.Lib.cut s [c]).2.1.toArray⟩,.bool (Go.Lib.cut s [c]).2.2]) fun w hw=>?_) ?_
 ·obtain ⟨m,hm⟩:=GM.at hG hM hw
  refine (Tryz.strings_Cut ⟨s.toArray⟩ ⟨#[c]⟩ m w (by show s.toArray.size<_;simp;omega) hm).mono fun e w' he=>?_
  obtain ⟨rfl,n,rfl⟩:=he
  exact ⟨_,rfl,rfl,below_drewN (Below.refl _ _) n⟩
 ·rintro r H ⟨v,rfl,⟨us,rfl,rfl⟩,rfl⟩
  exact ⟨_,rfl,⟨_,_,rfl⟩,rfl⟩
def tokLV (p:Wd×Nat):LV:=.agg [str p.1,int .i64 p.2]
end
def nameSet2:List UInt8:=[97,98,99,100,101,102,103,104,105,106,107,108,109,110,111,112,113,114,115,116,117,118,119,120,121,122,95,48,49,50,51,52,53,54,55,56,57]
theorem set2_inner (c:UInt8):nameSet2.contains c=isInner c:=by
 have:∀ n:Nat,n<256→nameSet2.contains (UInt8.ofNat n)=isInner (UInt8.ofNat n):=by decide +kernel
 have h:=this c.toNat c.toNat_lt
 rwa [UInt8.ofNat_toNat] at h
theorem trim_gen {st:List UInt8} {p:UInt8→Bool} (he:∀ c,st.contains c=p c) (s:List UInt8):(Go.Lib.trimS s st=[]) ↔ s.all p=true:=by
 have he:(fun c=>st.contains c)=p:=funext he
 unfold Go.Lib.trimS Go.Lib.trimLeftS Go.Lib.trimRightS
 rw[he,dropWhile_nil]
 constructor
 ·intro h
  by_cases h2:s.reverse.dropWhile p=[]
  ·rw[dropWhile_nil] at h2
   rw[List.all_reverse] at h2
   exact h2
  ·exfalso
   obtain ⟨c,r,hcr⟩:=List.exists_cons_of_ne_nil h2
   have h3:p c=false:=by
    have:=List.head?_dropWhile_not p s.reverse
    rw[hcr] at this
    simpa using this
   rw[hcr,List.all_reverse,List.all_cons,h3] at h
   cases h
 ·intro h
  have h2:s.reverse.dropWhile p=[]:=by rw[dropWhile_nil,List.all_reverse];exact h
  rw[h2]
  rfl
def OptLV (o:Option Wd) (lv:LV):Prop:=∃ s,lv=.tuple [str s,bool o.isSome]∧∀ l,o=some l→s=l
theorem OptLV.mk {o:Option Wd} {s:Wd} {b:Bool} (hb:o.isSome=b) (hs:∀ l,o=some l→s=l):OptLV o (.tuple [str s,bool b]):=⟨s,by rw[hb],hs⟩
theorem ite_some {p q:Bool} {s:Wd} {o:Option Wd} (h:o=if p=true∧q=true then some s else none):o.isSome=(p && q)∧∀ l,o=some l→s=l:=by
 subst h
 cases p <;> cases q <;> simp
attribute [local irreducible] LOps LCode LStep LCalls Go.GL.Pure QThen QBlock RetPost LQ LAny LLate LLateOp
section
variable {B0:Nat} {w0:World}
theorem trim_any (s st:List UInt8) (hs:s.length≤1000000000) (h1:st.length≤100) (h3:st.all (fun b=>decide (b.toNat<128))=true):LCalls (KC B0 w0) 180 [str s,str st] [] (Ret (str (Go.Lib.trimS s st))):=
 LCalls.ret_of (vs:=[.string ⟨s.toArray⟩,.string ⟨st.toArray⟩]) fun w hw=>(Go.Proofs.Any.strings_Trim_laid Tryz.lays160 (by kernel_rfl) ⟨s.toArray⟩ ⟨st.toArray⟩ w (by show s.toArray.size≤_;simp;omega) (by show st.toArray.size<_;simp;omega) (Go.Proofs.ascii_of_all h3))
theorem asmName_spec (s:List UInt8) (hs:s.length≤1000000000):LCalls (KC B0 w0) 178 [str s] [] (Ret (bool (nameW s))):=by
 have hT:=trim_any (B0:=B0) (w0:=w0) s nameSet2 hs zDd zDd
 have hnil:=trim_gen set2_inner s
 refine cI Tryz.func178 rfl (n:=23) rfl rfl rfl ?_
 refine gab ?_
 refine oB 5 rfl (fun h1=>?_) (fun h1=>?_)
 ·have e:s=[]:=of_decide_eq_true h1
  subst e
  refine gaa ?_
  refine oC rfl (fun h=>?_) (fun h=>by cases h)
  refine gas ?_
  exact retRet rfl (rC (rT (v:=.atom _) rfl (LV.Sub.refl _)) rN) rfl
 have h1':¬ s=[]:=of_decide_eq_false h1
 obtain ⟨c,r,rfl⟩:∃ c r,s=c::r:=by
  cases s with
  |nil=>exact absurd rfl h1'
  |cons c r=>exact ⟨c,r,rfl⟩
 have hN:=nameW_eq c r
 refine gad ?_
 refine oB 10 rfl (fun h2=>?_) (fun h2=>?_)
 ·have h2':¬ (c::r).length≤40:=by have:=of_decide_eq_true h2;omega
  rw[decide_eq_false h2',Bool.false_and,Bool.false_and] at hN
  refine gaa ?_
  refine oC rfl (fun h=>?_) (fun h=>by cases h)
  refine gas ?_
  exact retRet rfl (rC (rT (v:=.atom _) rfl (LV.Sub.refl _)) rN) (bool_eq hN.symm)
 have h2':(c::r).length≤40:=by have:=of_decide_eq_false h2;omega
 rw[decide_eq_true h2',Bool.true_and] at hN
 refine gaa ?_
 refine oP (Pure.sindex (c:=c) rfl rfl (by omega) rfl) rfl ?_
 refine gaa ?_
 refine oB 15 rfl (fun h3=>?_) (fun h3=>?_)
 ·have h3':isLetter c=false:=by
   unfold isLetter
   rw[decide_eq_false (by have:cv c<97:=of_decide_eq_true h3;omega),Bool.false_and]
  rw[h3',Bool.false_and] at hN
  refine gaa ?_
  refine oC rfl (fun h=>?_) (fun h=>by cases h)
  refine gas ?_
  exact retRet rfl (rC (rT (v:=.atom _) rfl (LV.Sub.refl _)) rN) (bool_eq hN.symm)
 refine gaa ?_
 refine oP (Pure.sindex (c:=c) rfl rfl (by omega) rfl) rfl ?_
 refine gad ?_
 refine oC rfl (fun h=>?_) (fun h=>?_)
 ·have h3':isLetter c=false:=by
   unfold isLetter
   rw[decide_eq_false (p:=cv c≤122) (by have:cv c > 122:=of_decide_eq_true h;omega),Bool.and_false]
  rw[h3',Bool.false_and] at hN
  refine gas ?_
  exact retRet rfl (rC (rT (v:=.atom _) rfl (LV.Sub.refl _)) rN) (bool_eq hN.symm)
 have h3':isLetter c=true:=by
  unfold isLetter
  rw[decide_eq_true (by have:¬ cv c<97:=of_decide_eq_false h3;omega),decide_eq_true (by have:¬ cv c > 122:=of_decide_eq_false h;omega)]
  rfl
 rw[h3',Bool.true_and] at hN
 refine gab ?_
 refine oS (sF [_,_] rfl hT ?_) rfl
 refine gaa ?_
 exact retRet rfl (rC (rT (v:=.atom _) rfl (LV.Sub.refl _)) rN) (bool_eq (by
  rw[hN,Bool.eq_iff_iff,decide_eq_true_iff]
  exact hnil))
theorem asmDef_spec (p:Wd×Nat) (hs:p.1.length≤1000000000):LCalls (KC B0 w0) 114 [tokLV p] [] (RetIf (OptLV (defW p.1))):=by
 obtain ⟨w,ln⟩:=p
 simp only at hs ⊢
 obtain ⟨r1,r2⟩:=ite_some (def_eq w)
 have hlen:(Go.Lib.trimSuffix w [58]).length≤1000000000:=by
  unfold Go.Lib.trimSuffix
  split
  ·rw[List.length_take];omega
  ·exact hs
 unfold tokLV
 refine cI Tryz.func114 rfl (n:=18) rfl rfl rfl ?_
 refine gag ?_
 refine oS (S.box (cs:=[str w,int .i64 ln]) rfl fun b1=>?_) rfl
 refine gab ?_
 refine oS (sF [_,_] rfl (cutSuffix_spec w [58] hs) ?_) rfl
 refine gab ?_
 refine oB 14 rfl (fun h=>?_) (fun h=>?_)
 ·rw[h,Bool.true_and] at r1
  refine gaa ?_
  refine oS (sF [_] rfl (asmName_spec _ hlen) ?_) rfl
  refine gaa ?_
  exact retRetIf rfl (rC (rT (v:=.atom _) rfl (LV.Sub.refl _)) (rC (rT (v:=.atom _) rfl (LV.Sub.refl _)) rN)) (OptLV.mk r1 r2)
 ·rw[h,Bool.false_and] at r1
  refine gaa ?_
  exact retRetIf rfl (rC (rT (v:=.atom _) rfl (LV.Sub.refl _)) (rC (rT (v:=.atom _) rfl (LV.Sub.refl _)) rN)) (OptLV.mk r1 r2)
theorem asmRef_spec (p:Wd×Nat) (hs:p.1.length≤1000000000):LCalls (KC B0 w0) 115 [tokLV p] [] (RetIf (OptLV (refW p.1))):=by
 obtain ⟨w,ln⟩:=p
 simp only at hs ⊢
 obtain ⟨r1,r2⟩:=ite_some (ref_eq w)
 have hlen:(Go.Lib.trimPrefix w [38]).length≤1000000000:=by
  unfold Go.Lib.trimPrefix
  split
  ·rw[List.length_drop];omega
  ·exact hs
 unfold tokLV
 refine cI Tryz.func115 rfl (n:=18) rfl rfl rfl ?_
 refine gag ?_
 refine oS (S.box (cs:=[str w,int .i64 ln]) rfl fun b1=>?_) rfl
 refine gab ?_
 refine oS (sF [_,_] rfl (cutPrefix_spec w [38]) ?_) rfl
 refine gab ?_
 refine oB 14 rfl (fun h=>?_) (fun h=>?_)
 ·rw[h,Bool.true_and] at r1
  refine gaa ?_
  refine oS (sF [_] rfl (asmName_spec _ hlen) ?_) rfl
  refine gaa ?_
  exact retRetIf rfl (rC (rT (v:=.atom _) rfl (LV.Sub.refl _)) (rC (rT (v:=.atom _) rfl (LV.Sub.refl _)) rN)) (OptLV.mk r1 r2)
 ·rw[h,Bool.false_and] at r1
  refine gaa ?_
  exact retRetIf rfl (rC (rT (v:=.atom _) rfl (LV.Sub.refl _)) (rC (rT (v:=.atom _) rfl (LV.Sub.refl _)) rN)) (OptLV.mk r1 r2)
theorem asmCode_spec (p:Wd×Nat) (hs:p.1.length≤1000000000):LCalls (KC B0 w0) 116 [tokLV p] [] (Ret (bool (codeW p.1))):=by
 obtain ⟨w,ln⟩:=p
 simp only at hs ⊢
 have hT:=trim_any (B0:=B0) (w0:=w0) w codeSet hs zDd zDd
 have hnil:(Go.Lib.trimS w codeSet=[]) ↔ codeW w=true:=trim_gen (p:=fun c=>codeSet.contains c) (fun c=>rfl) w
 unfold tokLV
 refine cI Tryz.func116 rfl (n:=7) rfl rfl rfl ?_
 refine gag ?_
 refine oS (S.box (cs:=[str w,int .i64 ln]) rfl fun b1=>?_) rfl
 refine gab ?_
 refine oS (sF [_,_] rfl hT ?_) rfl
 refine gaa ?_
 exact retRet rfl (rC (rT (v:=.atom _) rfl (LV.Sub.refl _)) rN) (bool_eq (by
  rw[Bool.eq_iff_iff,decide_eq_true_iff]
  exact hnil))
theorem asmDigit_spec (c:UInt8):LCalls (KC B0 w0) 119 [int .u8 c.toNat] [] (Ret (bool (isDigit c))):=by
 have hD:isDigit c=(decide (48≤cv c) && decide (cv c≤57)):=rfl
 refine cI Tryz.func119 rfl (n:=9) rfl rfl rfl ?_
 refine gac ?_
 refine oB 5 rfl (fun h=>?_) (fun h=>?_)
 ·have h':cv c ≥ 48:=of_decide_eq_true h
  rw[decide_eq_true (show 48≤cv c from h'),Bool.true_and] at hD
  refine gad ?_
  exact retRet rfl (rC (rT (v:=.atom _) rfl (LV.Sub.refl _)) rN) (bool_eq hD.symm)
 ·have h':¬ cv c ≥ 48:=of_decide_eq_false h
  rw[decide_eq_false (show ¬ 48≤cv c from h'),Bool.false_and] at hD
  refine gaa ?_
  exact retRet rfl (rC (rT (v:=.atom _) rfl (LV.Sub.refl _)) rN) (bool_eq hD.symm)
theorem address_spec (hG:GW B0 w0) (n:Nat) (hn:n≤1000000000000):LCalls (KC B0 w0) 118 [int .i64 n] [] (Ret (str (addrW n))):=by
 have hi:=itoa_spec hG n (by omega)
 have hne:=decDigits_ne n
 have hl:(Go.Lib.decDigits n).length≤20:=by
  rw[Go.Lib.decDigits_length]
  exact zNt (nDigits_le 12 n (by omega)) zDd
 have hA:addrW n=([48,48,48,48,48]++Go.Lib.decDigits n).drop (([48,48,48,48,48]++Go.Lib.decDigits n).length-6):=rfl
 generalize Go.Lib.decDigits n=d at hi hne hl hA
 have hpos:=List.length_pos_iff.2 hne
 have hsl:([48,48,48,48,48]++d:List UInt8).length=d.length+5:=by simp
 refine cI Tryz.func118 rfl (n:=12) rfl rfl rfl ?_
 refine gao ?_
 refine oS (sF [_] rfl hi ?_) rfl
 refine gac ?_
 refine oP (Pure.sslice (l:=[48,48,48,48,48]++d) (i:=(([48,48,48,48,48]++d:List UInt8).length:Int)-6) (j:=(([48,48,48,48,48]++d:List UInt8).length:Int)) rfl ⟨_,rfl⟩ rfl (by omega) (by omega) (by omega)) rfl ?_
 refine gak ?_
 exact retRet rfl (rC (rT (v:=.atom _) rfl (LV.Sub.refl _)) rN) (by
  rw[hA]
  have e1:(((([48,48,48,48,48]++d:List UInt8).length:Nat):Int)-6).toNat=([48,48,48,48,48]++d:List UInt8).length-6:=by omega
  show str (List.drop (((([48,48,48,48,48]++d:List UInt8).length:Nat):Int)-6).toNat (List.take ((([48,48,48,48,48]++d:List UInt8).length:Nat):Int).toNat ([48,48,48,48,48]++d)))=_
  rw[e1,Int.toNat_natCast,List.take_length])
theorem builderLen_spec (b:Nat) (l:List UInt8) (H:Heap) (hB:BH b l H):LCalls (KC B0 w0) 117 [ptr b 0] H (fun r H'=>r=.ret (int .i64 l.length)∧H'=H):=by
 obtain ⟨p,v,Hv,hp,hacc,rfl⟩:=hB
 refine cI Tryz.func117 rfl (n:=8) rfl rfl rfl ?_
 refine gab ?_
 refine oP (Pure.blen rfl hacc) rfl ?_
 refine gak ?_
 exact rR rfl (rC (rT (v:=.atom _) rfl (LV.Sub.refl _)) rN) (zhR _) ⟨rfl,rfl⟩
theorem writeByte_spec (b:Nat) (l:List UInt8) (c:UInt8) (H:Heap) (hB:BH b l H) (hlen:l.length≤10000000000):LCalls (KC B0 w0) 120 [ptr b 0,int .u8 c.toNat] H (fun r H'=>(∃ x,r=.ret x)∧BH b (l++[c]) H'):=by
 obtain ⟨p,v,Hv,hp,hacc,rfl⟩:=hB
 refine cI Tryz.func120 rfl (n:=17) rfl rfl rfl ?_
 refine gao ?_
 refine oS (S.callH (H1:=[(b,_)]) (F:=Hv) [_] rfl (List.Perm.refl _) (copyCheck_spec b p (.atom v) hp) (fun x H' h=>?_) (fun ch H' h=>?_)) rfl
 ·obtain ⟨⟨x',hx'⟩,rfl⟩:=h
  cases hx'
  refine gab ?_
  refine oS (sL [_] rfl (eC rfl rfl eN) rfl rfl rfl ?_) rfl
  refine oS (S.appBL1 (q:=(b,.cells 126 [ptr b 0,.atom v])) (l:=l) (m:=[c]) rfl hacc rfl (by simp) (by simp;omega) fun v' H' hacc'=>?_) rfl
  refine gaa ?_
  have hacc2:=hacc'
  generalize l++[c]=lm at hacc' hacc2 ⊢
  cases hacc' with
  |nil=>
   refine gac ?_
   exact rR rfl (rC (rT (v:=.atom _) rfl (LV.Sub.refl _)) rN) (zhR _) ⟨⟨_,rfl⟩,ptr b 0,_,_,.inr rfl,hacc2,rfl⟩
  |row h0 h1 h2=>
   refine gac ?_
   exact rR rfl (rC (rT (v:=.atom _) rfl (LV.Sub.refl _)) rN) (zhR _) ⟨⟨_,rfl⟩,ptr b 0,_,_,.inr rfl,hacc2,rfl⟩
 ·obtain ⟨⟨x',hx'⟩,_⟩:=h
  cases hx'
end
end Asm
end Go.Proofs.YtpbbgkoalnonoaaGreatDoor
namespace Go.GL
variable {C:Ctx} {dst:Option Nat} {ty:TypeId} {pos:String} {aft:Array Edge} {g:Option (Nat×Bool)} {e:Env} {H:Heap} {K:LV→Heap→Prop} {X:List PanicEntry→Heap→Prop}
theorem S.setPut {t kt el:TypeId} (ht:C.P.underlying t=some (.map kt el)) (hkt:C.P.underlying kt=some .string) {b clock:Nat} {es:Array MapEntry} {p:List UInt8→Bool} {F:Heap} {m z:Operand} {x:Operand} {k:List UInt8} (hm:e.ev m=.atom (.map (some b))) (hx:e.ev x=str k) (hz:e.ev z=bool true)
  (hp:Pick (b,.obj (.map es clock)) H F) (hs:SetMap es p) (hk:∀ es' clock',SetMap es' (fun s=>p s || decide (s=k))→K (.atom undef) ((b,.obj (.map es' clock'))::F)):LStep C ⟨dst,.mapUpdate t m x z,ty,pos,aft,g⟩ e H K X:=
 fun ρ w L h hH=>(S.setAdd (dst:=dst) (ty:=ty) (pos:=pos) (aft:=aft) (g:=g) (X:=X) ht hkt hm hx hz hp hs hk) ρ w L h hH
end Go.GL
