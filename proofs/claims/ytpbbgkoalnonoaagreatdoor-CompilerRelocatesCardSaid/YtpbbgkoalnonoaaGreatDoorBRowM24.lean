/- Texts joined: GlMap, ParP5, ParP6, GlRange, ParP7, GlPair, ParTok, ParNodes, FmtSpec, GlStr, Fmt3. -/
import Derived.RangeFuncFrom
import Derived.RangeFuncLeaves
import Derived.TacticsIn
import Derived.DeepKeys
import Derived.Lib.Join
import Derived.Lib.Builder
import Derived.Lib.AppendStr
import Derived.Test.YtpbbgkoalnonoaaGreatDoorBRowM22
import Derived.Test.YtpbbgkoalnonoaaGreatDoorBRowM23
set_option linter.unusedVariables false
set_option linter.unusedSimpArgs false
set_option maxRecDepth 100000
set_option maxHeartbeats 4000000
namespace Go.GL
open Go.RowKit
def noCells:Obj→Bool
 |.cells _ _ _=>false
 |_=>true
theorem shape_none {w:World} {b:Nat} {o:Obj} (h:w.heap[b]? = some o) (ho:noCells o=true):w.shape? b=none:=by
 simp only[World.shape?,h]
 cases o <;> simp_all [noCells]
section
variable {C:Ctx} {e:Env} {H:Heap} {dst:Option Nat} {ty:TypeId} {pos:String} {aft:Array Edge} {g:Option (Nat×Bool)} {K:LV→Heap→Prop} {X:List PanicEntry→Heap→Prop} {x y:Operand}
theorem left_newObj {w:World} {L:Live} (hH:RelH C w L []) {o:Obj} (ho:noCells o=true) {v:Value} (hk:K (.atom v) [(w.heap.size,.obj o)]):Left C w L [] (World.push w o) v K:=by
 have:=fr_push hH o 0 [(w.heap.size,.obj o)] (fun p hp=>by
  simp only[List.mem_singleton] at hp
  subst hp
  exact ⟨rfl,by simp[Live.upd],heap_push_self,shape_none heap_push_self ho⟩) (by simp)
 exact ⟨_,_,_,this.1,this.2,rep_atom,hk⟩
theorem left_obj {w w':World} {L:Live} {b:Nat} {o o':Obj} (hH:RelH C w L [(b,.obj o)]) (ho':noCells o'=true) (h1:w'.os=w.os) (h2:w'.tape=w.tape) (h3:w'.output=w.output)
  (h4:w'.heap.size=w.heap.size) (h5:∀ c,c≠b→w'.heap[c]? = w.heap[c]?) (h6:w'.heap[b]? = some o') {v:Value} {lv:LV} (hv:∀ L,Rep w' L lv v) (hk:K lv [(b,.obj o')]):Left C w L [(b,.obj o)] w' v K:=by
 obtain ⟨hb0,hbs,hl,hx1,hx2⟩:=hH.objs _ (List.mem_singleton.2 rfl)
 simp only at hb0 hbs hl hx1 hx2
 have hx:Ext w L w' L:=by
  refine ⟨by rw[h4];exact zNr _,fun c hc=>?_,fun c i hi=>?_,fun _=>zNr _⟩
  ·by_cases he:c=b
   ·subst he
    rw[hx2]
    exact shape_none h6 ho'
   ·exact shape_of_heap (h5 c he)
  ·by_cases he:c=b
   ·subst he;rw[hl] at hi;omega
   ·exact cell_of_heap (h5 c he) i
 refine ⟨lv,[(b,.obj o')],L,⟨h1,h2,h3,hx,fun c hc hn=>h5 c (by simpa using hn),fun _ _ _=>rfl,fun p hp=>.inl (by simp only[List.mem_singleton] at hp;subst hp;simp)⟩,
  ⟨?_,hH.lbase,by rw[h4];exact hH.b0,by rw[h4];exact hH.wf,by simp,fun p hp=>?_⟩,hv L,hk⟩
 ·exact hH.base.trans ⟨h1,h2,h3,by rw[h4];exact zNr _,fun c hc=>h5 c zo⟩
 ·simp only[List.mem_singleton] at hp
  subst hp
  exact ⟨hb0,by rw[h4];exact hbs,hl,h6,shape_none h6 ho'⟩
theorem S.makeMap {t:TypeId} (hk:∀ b,K (.atom (.map (some b))) ((b,.obj (.map #[] 0))::H)):LStep C ⟨dst,.makeMap t none,ty,pos,aft,g⟩ e H K X:=by
 refine LStep.at0 fun ρ w L _ hH=>?_
 have h3:execOp ρ ⟨dst,.makeMap t none,ty,pos,aft,g⟩=(do Pure.pure (.value (←Instr.makeMap t none))):=rfl
 have h4:(Instr.makeMap t none).run C.P w=.ok (.map (some w.heap.size)) (World.push w (.map #[] 0)):=rfl
 rw[h3,Sem.run_bind,h4]
 exact left_newObj hH rfl (hk _)
def setW (w:World) (b:Nat) (o:Obj):World:={ w with heap:=w.heap.setIfInBounds b o }
theorem setW_other {w:World} {b c:Nat} {o:Obj} (h:c≠b):(setW w b o).heap[c]? = w.heap[c]? := by
 simp only[setW,Array.getElem?_setIfInBounds]
 rw[if_neg (Ne.symm h)]
theorem setW_self {w:World} {b:Nat} {o:Obj} (h:b<w.heap.size):(setW w b o).heap[b]? = some o:=by
 simp only[setW,Array.getElem?_setIfInBounds]
 simp[h]
theorem run_setObj {P:Program} {w:World} {b:Nat} {o o':Obj} (h:w.heap[b]? = some o) (ho:noCells o=true):(setObj b o').run P w=.ok () (setW w b o'):=by
 simp only[setObj,Sem.run,h]
 cases o <;> first|rfl|(simp[noCells] at ho)
theorem findNow_str (k:ByteArray):∀ (es:List MapEntry) (i:Nat),(∀ e∈es,∃ s,e.key=.string s∧¬ (k == s)=true)→Instr.findNow .string (.string k) es i=some none
 |[],_,_=>rfl
 |e::es,i,h=>by
  obtain ⟨s,hs,hne⟩:=h e List.mem_cons_self
  have hne':(k == s)=false:=by simpa using hne
  simp only[Instr.findNow,hs,Instr.sameNow,hne']
  exact findNow_str k es (i+1) (fun e he=>h e (zMo _ he))
theorem S.insert {t kt el:TypeId} (ht:C.P.underlying t=some (.map kt el)) (hkt:C.P.underlying kt=some .string) {b clock:Nat} {es:Array MapEntry} {F:Heap} {m z:Operand} {k:ByteArray} {v:Value} (hm:e.ev m=.atom (.map (some b))) (hx:e.ev x=.atom (.string k)) (hz:e.ev z=.atom v)
  (hp:Pick (b,.obj (.map es clock)) H F) (hnew:∀ e∈es.toList,∃ s,e.key=.string s∧¬ (k == s)=true) (hk:K (.atom undef) ((b,.obj (.map (es.push { key:=.string k,val:=v,born:=clock }) (clock+1)))::F)):LStep C ⟨dst,.insert t m x z,ty,pos,aft,g⟩ e H K X:=by
 refine LStep.at1 hp fun ρ w L h hH=>?_
 obtain ⟨hb0,hbs,hl,hx1,hx2⟩:=hH.objs _ (List.mem_singleton.2 rfl)
 simp only at hb0 hbs hl hx1 hx2
 have h3:execOp ρ ⟨dst,.insert t m x z,ty,pos,aft,g⟩=(do Instr.mapUpdate t (ρ m) (ρ x) (ρ z);Pure.pure .skip):=rfl
 have hf:(Instr.findKey kt (.string k) es.toList).run C.P w=.ok none w:=by
  simp only[Instr.findKey,Sem.run_bind,run_underlying' hkt,Result.andThen_ok,findNow_str k es.toList 0 hnew,Sem.run_pure]
 have hc:(Instr.checkKey false 10000 kt (.string k)).run C.P w=.ok () w:=by
  have hck:Instr.checkKey false 10000 kt (.string k)=Instr.checkKey false (9999+1) kt (.string k):=rfl
  rw[hck,Instr.checkKey]
  simp only[Sem.run_bind,run_underlying' hkt,Result.andThen_ok,Sem.run_pure]
 have hg:(getObj b).run C.P w=.ok (.map es clock) w:=by simp only[getObj,Sem.run,hx1]
 rw[h3,atom_of h hm,atom_of h hx,atom_of h hz]
 simp only[Instr.mapUpdate,Sem.run_bind,run_underlying' ht,Result.andThen_ok,hg,hc,hf]
 have hs:(setObj b (.map (es.push { key:=.string k,val:=v,born:=clock }) (clock+1))).run C.P w=.ok () (setW w b (.map (es.push { key:=.string k,val:=v,born:=clock }) (clock+1))):=run_setObj hx1 rfl
 rw[hs]
 exact left_obj (w':=setW w b (.map (es.push { key:=.string k,val:=v,born:=clock }) (clock+1))) hH rfl rfl rfl rfl (by simp[setW]) (fun c hc=>setW_other hc) (setW_self hbs) (fun _=>rep_atom) hk
theorem S.range {t kt el:TypeId} (ht:C.P.underlying t=some (.map kt el)) {b clock:Nat} {es:Array MapEntry} (hx:e.ev x=.atom (.map (some b))) (hm:(b,.obj (.map es clock))∈H)
  (hk:∀ r,K (ptr r 0) ((r,.obj (.mapIter (some b) clock #[] clock))::H)):LStep C ⟨dst,.range t x,ty,pos,aft,g⟩ e H K X:=by
 obtain ⟨F,hF⟩:∃ F,H.Perm ((b,.obj (.map es clock))::F):=by
  obtain ⟨l1,l2,rfl⟩:=List.append_of_mem hm
  exact ⟨l1++l2,List.perm_middle⟩
 have main:∀ X,LStep C ⟨dst,.range t x,ty,pos,aft,g⟩ e [(b,.obj (.map es clock))] (fun lv H'=>∃ r,lv=ptr r 0∧H'=[(r,.obj (.mapIter (some b) clock #[] clock)),(b,.obj (.map es clock))]) X:=fun X ρ w L h hH=>by
  obtain ⟨hb0,hbs,hl,hx1,hx2⟩:=hH.objs _ (List.mem_singleton.2 rfl)
  simp only at hb0 hbs hl hx1 hx2
  have h3:execOp ρ ⟨dst,.range t x,ty,pos,aft,g⟩=(do Pure.pure (.value (←Instr.range t (ρ x)))):=rfl
  have hg:(getObj b).run C.P w=.ok (.map es clock) w:=by simp only[getObj,Sem.run,hx1]
  have hn:∀ o,(newObj o).run C.P w=.ok w.heap.size (World.push w o):=fun _=>rfl
  rw[h3,atom_of h hx]
  simp only[Instr.range,Sem.run_bind,run_underlying' ht,Result.andThen_ok,hg,Sem.run_pure,hn]
  have:=Left.frame (F:=[(b,.obj (.map es clock))]) (K:=fun lv H'=>∃ r,lv=ptr r 0∧H'=[(r,.obj (.mapIter (some b) clock #[] clock)),(b,.obj (.map es clock))]) (v:=.pointer (some ⟨w.heap.size,0,none⟩)) (by simpa using hH) (left_newObj (w:=w) (L:=L) (hH.sub (List.nil_sublist _)) (o:=.mapIter (some b) clock #[] clock) rfl ⟨w.heap.size,rfl,rfl⟩)
  show Left C w L _ _ _ _
  simpa using this
 refine LStep.conseq (LStep.frame (H:=[(b,.obj (.map es clock))]) (F:=F) hF (K:=fun lv H'=>∃ r,lv=ptr r 0∧H'=[(r,.obj (.mapIter (some b) clock #[] clock)),(b,.obj (.map es clock))]++F) ?_) ?_
 ·exact LStep.conseq (main _) (fun lv H' ⟨r,h1,h2⟩=>⟨lv,H',LV.Sub.refl _,zhR _,r,h1,by rw[h2]⟩)
 ·rintro lv H' ⟨r,rfl,rfl⟩
  exact ⟨ptr r 0,_,LV.Sub.refl _,⟨[],by simpa using hF.symm⟩,hk r⟩
theorem S.next {r b since last clock:Nat} {seen:Array Nat} {es:Array MapEntry} {F:Heap} (hx:e.ev x=ptr r 0) (hp:H.Perm ((r,.obj (.mapIter (some b) since seen last))::(b,.obj (.map es clock))::F))
  (hold:∀ e∈es.toList,e.born<since∧e.born<last)
  (hover:es.filter (fun e=>!seen.contains e.born)=#[]→K (.tuple [bool false]) ((r,.obj (.mapIter (some b) since seen last))::(b,.obj (.map es clock))::F))
  (hstep:∀ e∈(es.filter (fun e=>!seen.contains e.born)).toList,K (.tuple [bool true,.atom e.key,.atom e.val]) ((r,.obj (.mapIter (some b) since (seen.push e.born) clock))::(b,.obj (.map es clock))::F)) :
  LStep C ⟨dst,.next x false,ty,pos,aft,g⟩ e H K X:=by
 refine LStep.frame (H:=[(r,.obj (.mapIter (some b) since seen last)),(b,.obj (.map es clock))]) (F:=F) hp fun ρ w L h hH=>?_
 have hr:=hH.objs (r,.obj (.mapIter (some b) since seen last)) zm0
 have hb:=hH.objs (b,.obj (.map es clock)) zm1
 obtain ⟨_,hrs,_,hr1,_⟩:=hr
 obtain ⟨_,hbs,_,hb1,_⟩:=hb
 simp only at hrs hr1 hbs hb1
 have h3:execOp ρ ⟨dst,.next x false,ty,pos,aft,g⟩=(do Pure.pure (.value (←Instr.next (ρ x) false ty))):=rfl
 have hg1:(getObj r).run C.P w=.ok (.mapIter (some b) since seen last) w:=by simp only[getObj,Sem.run,hr1]
 have hg2:(getObj b).run C.P w=.ok (.map es clock) w:=by simp only[getObj,Sem.run,hb1]
 have htest:(!seen.isEmpty && !es.isEmpty && es.all (fun e=>decide (e.born ≥ last)))=false:=by
  rw[Bool.eq_false_iff]
  intro hall
  simp only[zBa] at hall
  obtain ⟨⟨_,h1⟩,h2⟩:=hall
  have hne:0<es.size:=by
   rcases Nat.eq_zero_or_pos es.size with h0|h0
   ·have:es=#[]:=Array.eq_empty_of_size_eq_zero h0
    subst this
    simp at h1
   ·exact h0
  have h3:=(Array.all_eq_true.1 h2) 0 hne
  have h4:=(hold es[0] (by simp)).2
  simp at h3
  omega
 rw[h3,atom_of h hx]
 simp only[Instr.next,Sem.run_bind,Result.andThen_ok,hg1,hg2,htest,Bool.false_eq_true,if_false]
 generalize hL:es.filter (fun e=>!seen.contains e.born)=left at hover hstep ⊢
 have hmem:∀ x∈left.toList,x.born<since:=fun x hx=>by
  subst hL
  simp at hx
  exact (hold x (by simpa using hx.1)).1
 have e1:left.filter (fun x=>decide (x.born<since))=left:=Array.filter_eq_self.2 (fun x hx=>by simpa using hmem x (by simpa using hx))
 have e2:left.filter (fun x=>decide (x.born ≥ since))=#[]:=by
  rw[Array.filter_eq_empty_iff]
  intro x hx
  have:=hmem x (by simpa using hx)
  simp
  omega
 simp only[e1,e2,Array.append_empty]
 by_cases h0:left.size=0
 ·have:left=#[]:=Array.eq_empty_of_size_eq_zero h0
  subst this
  have hch:(choose (.mapNext 1)).run C.P w=.ok 0 w:=by simp[choose,Sem.run,Question.forced]
  simp only[Array.isEmpty_empty,if_true,Array.map_empty,Array.append_empty,List.size_toArray,List.length_singleton,hch,Sem.run_bind,Result.andThen_ok,Sem.run_pure]
  exact ⟨.tuple [bool false],_,L,Fr.refl _ _ _,hH,by simp only[Rep];exact ⟨[.bool false],rfl,by simp only[RepL,Rep];exact ⟨_,_,rfl,rfl,rfl⟩⟩,hover rfl⟩
 ·have hne:left.isEmpty=false:=by simp[Array.isEmpty,h0]
  simp only[hne,Bool.false_eq_true,if_false,Array.empty_append,Array.size_map]
  obtain ⟨j,w1,hj,hw1,hrun⟩:∃ (j:Nat) (w1:World),j<left.size∧(w1=w∨w1=w.drew)∧(choose (Question.mapNext left.size)).run C.P w=.ok j w1:=by
   by_cases hf:left.size≤1
   ·exact ⟨0,w,by omega,.inl rfl,by simp[choose,Sem.run,Question.forced,hf]⟩
   ·exact ⟨_,w.drew,Nat.mod_lt _ zo,.inr rfl,by
     simp only[choose,Sem.run,Question.forced,zDe,hf,if_false,Question.cut]
     rfl⟩
  have hr1':w1.heap[r]? = some (.mapIter (some b) since seen last):=by rcases hw1 with rfl|rfl <;> exact hr1
  have hsz:w1.heap.size=w.heap.size:=by rcases hw1 with rfl|rfl <;> rfl
  have hheap:w1.heap=w.heap:=by rcases hw1 with rfl|rfl <;> rfl
  simp only[hrun,Array.getElem?_map,Array.getElem?_eq_getElem hj,Option.map_some,Sem.run_bind,Result.andThen_ok,run_setObj hr1' rfl,Sem.run_pure]
  have hl:Left C w L [(r,.obj (.mapIter (some b) since seen last))] (setW w1 r (.mapIter (some b) since (seen.push left[j].born) clock)) (.tuple #[.bool true,left[j].key,left[j].val]) (fun lv H'=>K lv (H'++[(b,.obj (.map es clock))]++F)):=
   left_obj (lv:=.tuple [bool true,.atom left[j].key,.atom left[j].val]) (RelH.left (F:=[(b,.obj (.map es clock))]) hH) rfl (by rcases hw1 with rfl|rfl <;> rfl) (by rcases hw1 with rfl|rfl <;> rfl) (by rcases hw1 with rfl|rfl <;> rfl) (by simp[setW,hsz]) (fun c hc=>by rw[setW_other hc,hheap]) (setW_self zo)
    (fun _=>by simp only[Rep];exact ⟨[.bool true,left[j].key,left[j].val],rfl,by simp only[RepL,Rep];exact ⟨_,_,rfl,rfl,_,_,rfl,rfl,_,_,rfl,rfl,rfl⟩⟩) (hstep left[j] (by simp))
  exact Left.frame (F:=[(b,.obj (.map es clock))]) (K:=fun lv H'=>K lv (H'++F)) hH hl
theorem Pure.entry {r b since last clock stamp:Nat} {seen:Array Nat} {es:Array MapEntry} {en:MapEntry} (hx:e.ev x=ptr r 0) (hi:(r,LObj.obj (.mapIter (some b) since seen last))∈H) (hm:(b,LObj.obj (.map es clock))∈H)
  (hl:clock=last) (hb:seen.back? = some stamp) (hf:es.find? (·.born == stamp)=some en):Pure C ⟨dst,.entry x,ty,pos,aft,g⟩ e H (.tuple [.atom en.key,.atom en.val]):=fun ρ w L h hH=>by
 refine ⟨.tuple #[en.key,en.val],by simp only[Rep];exact ⟨[en.key,en.val],rfl,by simp only[RepL,Rep];exact ⟨_,_,rfl,rfl,_,_,rfl,rfl,rfl⟩⟩,fun w' ha=>?_⟩
 have h1:w'.heap[r]? = some (.mapIter (some b) since seen last):=(ha.1 _ hi).trans (hH.objs _ hi).2.2.2.1
 have h2:w'.heap[b]? = some (.map es clock):=(ha.1 _ hm).trans (hH.objs _ hm).2.2.2.1
 have h3:execOp ρ ⟨dst,.entry x,ty,pos,aft,g⟩=(do Pure.pure (.value (←Instr.entry (ρ x)))):=rfl
 have hg1:(getObj r).run C.P w'=.ok (.mapIter (some b) since seen last) w':=by simp only[getObj,Sem.run,h1]
 have hg2:(getObj b).run C.P w'=.ok (.map es clock) w':=by simp only[getObj,Sem.run,h2]
 have hne:(clock != last)=false:=by rw[hl];simp
 rw[h3,atom_of h hx]
 simp only[Instr.entry,Sem.run_bind,Result.andThen_ok,hg1,hb,hg2,hne,Bool.false_eq_true,if_false,Sem.run_pure,hf]
theorem lH {n:Nat} {ops:Array Oper} {Q:Post} {HF:Heap} {fuel:Nat} {listed:Array Bool} {i:Nat} {op:Op} {lv:LV} (hi:ops[i]? = some ⟨dst,op,ty,pos,aft,none⟩) (hd:dstOk n dst)
  (hp:Pure C ⟨dst,op,ty,pos,aft,none⟩ e H lv) (k:LLate C n ops Q HF fuel (listed.setIfInBounds i true) (e.put dst lv) H):LLateOp C n ops Q HF fuel listed e H i:=fun w0 L0 a w L hL hA hsz hE hH=>by
 obtain ⟨v,hv,hrun⟩:=hp a.eval w L hE.ev hH
 unfold wpOp
 rw[hi]
 simp only
 rw[if_pos (by simp[Region.wanted])]
 refine .inl ?_
 unfold Oper.wp
 rw[hrun w (Agree.refl _ _ _)]
 exact ⟨hA,k w0 L0 _ w L hL hA hsz (hE.put hd hv) hH⟩
end
end Go.GL
namespace Go.Proofs.YtpbbgkoalnonoaaGreatDoor
open Go.GL Go.RowKit Go.Stele
attribute [local irreducible] LOps LCode LStep LCalls Go.GL.Pure QThen QBlock RetPost LQ LAny LLate LLateOp
def e45:MapEntry:={ key:=.string ⟨#[45]⟩,val:=.string ⟨#[110,101,103]⟩,born:=0 }
def e33:MapEntry:={ key:=.string ⟨#[33]⟩,val:=.string ⟨#[110,111,116]⟩,born:=1 }
section
variable {B0:Nat} {w0:World}
def UnaryC (B0:Nat) (w0:World) (sb:Nat) (T:List Tok) (f:Nat):Prop:=
 ∀ i op r,i≤T.length→op≤100→eUnary T f i op=some r→LCalls (KC B0 w0) 290 [ptr sb 0] [srcH sb T i op] (PostP sb T encE r)
def SeenOk (T:List Tok) (i:Nat) (seen:Array Nat):Prop:=
 seen=#[]∨(seen=#[0]∧isTok T i [[45]]=false)∨(seen=#[1]∧isTok T i [[33]]=false)∨((seen=#[0,1]∨seen=#[1,0])∧isTok T i [[45]]=false∧isTok T i [[33]]=false)
theorem over_seen {T:List Tok} {i:Nat} {seen:Array Nat} (h:SeenOk T i seen) (ho:#[e45,e33].filter (fun e=>!seen.contains e.born)=#[]):isTok T i [[45]]=false∧isTok T i [[33]]=false:=by
 have h1:=Array.filter_eq_empty_iff.1 ho e45 (by simp)
 have h2:=Array.filter_eq_empty_iff.1 ho e33 (by simp)
 rcases h with rfl|⟨rfl,_⟩|⟨rfl,_⟩|⟨_,h3,h4⟩
 ·simp[e45] at h1
 ·simp[e33] at h2
 ·simp[e45] at h1
 ·exact ⟨h3,h4⟩
theorem step_seen {T:List Tok} {i:Nat} {seen:Array Nat} {e:MapEntry} (h:SeenOk T i seen) (he:e∈(#[e45,e33].filter (fun e=>!seen.contains e.born)).toList) :
  seen.size<2∧((e=e45∧(isTok T i [[45]]=false→SeenOk T i (seen.push 0)))∨(e=e33∧(isTok T i [[33]]=false→SeenOk T i (seen.push 1)))):=by
 have he':=Array.mem_filter.1 (Array.mem_toList_iff.1 he)
 have hor:e=e45∨e=e33:=by simpa using he'.1
 have hno:=he'.2
 rcases h with rfl|⟨rfl,h1⟩|⟨rfl,h1⟩|⟨rfl|rfl,_,_⟩
 ·rcases hor with rfl|rfl
  ·exact ⟨by decide,.inl ⟨rfl,fun h=>.inr (.inl ⟨rfl,h⟩)⟩⟩
  ·exact ⟨by decide,.inr ⟨rfl,fun h=>.inr (.inr (.inl ⟨rfl,h⟩))⟩⟩
 ·rcases hor with rfl|rfl
  ·simp[e45] at hno
  ·exact ⟨by decide,.inr ⟨rfl,fun h=>.inr (.inr (.inr ⟨.inl rfl,h1,h⟩))⟩⟩
 ·rcases hor with rfl|rfl
  ·exact ⟨by decide,.inl ⟨rfl,fun h=>.inr (.inr (.inr ⟨.inr rfl,h,h1⟩))⟩⟩
  ·simp[e33] at hno
 ·rcases hor with rfl|rfl
  ·simp[e45] at hno
  ·simp[e33] at hno
 ·rcases hor with rfl|rfl
  ·simp[e45] at hno
  ·simp[e33] at hno
theorem isTok_excl {T:List Tok} {i:Nat} (h:isTok T i [[33]]=true):isTok T i [[45]]=false:=by
 unfold isTok at h ⊢
 split at h
 ·rename_i t ht
  simp only[zBa] at h
  have h2:t.text=[33]:=by simpa using h.2
  rw[h2]
  simp
 ·cases h
theorem unary_spec (hG:GW B0 w0) (sb:Nat) (T:List Tok) (hT:TOK T):∀ f:Nat,(∀ g,g<f→ExprC B0 w0 sb T g)→UnaryC B0 w0 sb T f:=by
 intro f
 induction f with
 |zero=>intro _ i op r _ _ hr;rw[eUnary] at hr;cases hr
 |succ f ih=>
  intro hE i op r hi ho hr
  have hl:=hT.len
  rw[eUnary] at hr
  refine cI Tryz.func290 rfl (n:=36) rfl rfl rfl ?_
  refine gag ?_
  refine oS (sA fun b=>?_) rfl
  refine gal ?_
  refine oS (S.makeMap fun mb=>?_) rfl
  refine oS (S.insert (k:=⟨#[45]⟩) (v:=.string ⟨#[110,101,103]⟩) (kt:=9) (el:=9) zk zk rfl rfl rfl pH (by simp) ?_) rfl
  refine oS (S.insert (k:=⟨#[33]⟩) (v:=.string ⟨#[110,111,116]⟩) (kt:=9) (el:=9) zk zk rfl rfl rfl pH (fun e he=>⟨⟨#[45]⟩,by simp at he;rw[he],by decide⟩) ?_) rfl
  refine oP (pM (lv:=.atom _) rfl) rfl ?_
  refine oS (S.range (kt:=9) (el:=9) zk rfl zm0 fun rb=>?_) rfl
  refine gaa ?_
  refine oL (fun k ls H=>∃ seen:Array Nat,k=2-seen.size∧ls=[(0,ptr sb 0),(2,ptr b 0),(8,ptr rb 0)]∧H=[(rb,.obj (.mapIter (some mb) 2 seen 2)),(mb,.obj (.map #[e45,e33] 2)),(b,.cells 104 [str [],int .u32 0,str [],nilSlice]),srcH sb T i op]∧SeenOk T i seen)
   ⟨_,_,_,⟨#[],rfl,rfl,rfl,.inl rfl⟩,⟨rfl,rfl,rfl,trivial⟩,zhR _⟩ ?_
  rintro k ls H ⟨seen,rfl,rfl,rfl,hS⟩ j hj
  refine gag ?_
  refine oS (S.next (F:=[(b,.cells 104 [str [],int .u32 0,str [],nilSlice]),srcH sb T i op]) rfl zpr zDd (fun hov=>?_) (fun en hen=>?_)) rfl
  ·obtain ⟨hn1,hn2⟩:=over_seen hS hov
   rw[if_neg (by rw[hn1];decide),if_neg (by rw[hn2];decide)] at hr
   refine gaa ?_
   refine oC rfl (fun hcc=>?_) (fun hcc=>?_)
   ·cases hcc
   ·refine gab ?_
    refine oS (S.callP [_] rfl zp3 (prim_spec hG sb T hT f (fun g hg=>hE g zo) i op r hi ho hr) (fun v i1 op1 h1=>?_) (fun l er i1 op1 h1 e' he'=>?_)) rfl
    ·refine gad ?_
     exact retP (v:=v) hj (rC (rA rfl zm0 rfl zsr) rN) h1 rfl (zhP zp1 zhn)
    ·refine gah ?_
     exact panP (he'.trans hj) h1 zhp
  ·obtain ⟨hsz,⟨rfl,hnext⟩|⟨rfl,hnext⟩⟩:=step_seen hS hen
   ·refine gaa ?_
    refine oC rfl (fun hcc=>?_) (fun hcc=>?_)
    ·refine gam ?_
     refine oP (Pure.entry (en:=e45) (stamp:=0) rfl zm0 zm1 rfl (by show (seen.push 0).back? = _;simp) rfl) rfl ?_
     refine gab ?_
     refine oS (sL [_] rfl (eC rfl rfl eN) rfl rfl rfl ?_) rfl
     refine oS (S.fnH [_,_] rfl zp3 (is_spec sb T i op [[45]] hl zo (by simp)) ?_) rfl
     refine gap ?_
     refine oC rfl (fun hc=>?_) (fun hc=>?_)
     ·rw[if_pos hc] at hr
      refine gaf ?_
      refine oS (S.callP [_,_] rfl pH (begin_spec sb T i op [45] hl zo zo) (fun v i1 op1 h1=>?_) (fun l er i1 op1 h1 e' he'=>?_)) rfl
      ·rw[h1,obind_ok] at hr
       obtain ⟨rfl,rfl,ho1,hi1⟩:=sBegin_ok h1
       refine gan ?_
       obtain ⟨r1,hr1⟩:=obind_is hr
       refine oS (S.callP [_] rfl pH (ih (fun g hg=>hE g zo) _ _ r1 zo zo hr1) (fun e2 i2 op2 h2=>?_) (fun l er i2 op2 h2 e' he'=>?_)) rfl
       ·rw[hr1,h2,obind_ok] at hr
        obtain ⟨g1,_,g3,rfl⟩:=(ex_good T f).2.2.1 _ _ _ (hr1.trans (congrArg some h2))
        have g4:=g3 zo
        refine oS (sL [_] rfl (eC rfl rfl eN) rfl rfl rfl ?_) rfl
        refine gad ?_
        refine oS (sA fun b2=>?_) rfl
        refine gac ?_
        exact retP (v:=.mk nNeg 0 [] [e2]) hj (rC (rA rfl zm0 rfl zsr) rN) (by cases hr;rfl) (by rw[encE_mk];rfl) (by
         rw[show (((op+1:Nat):Int)-1)=((op+1-1:Nat):Int) by omega]
         exact zhP zp1 zhn)
       ·rw[hr1,h2,obind_err] at hr
        refine gae ?_
        exact panP (he'.trans hj) (by cases hr;rfl) zhp
      ·rw[h1,obind_err] at hr
       refine gae ?_
       exact panP (he'.trans hj) (by cases hr;rfl) zhp
     ·refine gaa ?_
      exact ⟨_,_,_,by have:=hsz;simp;omega,⟨seen.push 0,rfl,rfl,rfl,hnext hc⟩,⟨rfl,rfl,rfl,trivial⟩,zhP zp1 (zhP zp1 (zhP zp1 zhp)),hj⟩
    ·cases hcc
   ·refine gaa ?_
    refine oC rfl (fun hcc=>?_) (fun hcc=>?_)
    ·refine gam ?_
     refine oP (Pure.entry (en:=e33) (stamp:=1) rfl zm0 zm1 rfl (by show (seen.push 1).back? = _;simp) rfl) rfl ?_
     refine gab ?_
     refine oS (sL [_] rfl (eC rfl rfl eN) rfl rfl rfl ?_) rfl
     refine oS (S.fnH [_,_] rfl zp3 (is_spec sb T i op [[33]] hl zo (by simp)) ?_) rfl
     refine gap ?_
     refine oC rfl (fun hc=>?_) (fun hc=>?_)
     ·rw[if_neg (by rw[isTok_excl hc];decide),if_pos hc] at hr
      refine gaf ?_
      refine oS (S.callP [_,_] rfl pH (begin_spec sb T i op [33] hl zo zo) (fun v i1 op1 h1=>?_) (fun l er i1 op1 h1 e' he'=>?_)) rfl
      ·rw[h1,obind_ok] at hr
       obtain ⟨rfl,rfl,ho1,hi1⟩:=sBegin_ok h1
       refine gan ?_
       obtain ⟨r1,hr1⟩:=obind_is hr
       refine oS (S.callP [_] rfl pH (ih (fun g hg=>hE g zo) _ _ r1 zo zo hr1) (fun e2 i2 op2 h2=>?_) (fun l er i2 op2 h2 e' he'=>?_)) rfl
       ·rw[hr1,h2,obind_ok] at hr
        obtain ⟨g1,_,g3,rfl⟩:=(ex_good T f).2.2.1 _ _ _ (hr1.trans (congrArg some h2))
        have g4:=g3 zo
        refine oS (sL [_] rfl (eC rfl rfl eN) rfl rfl rfl ?_) rfl
        refine gad ?_
        refine oS (sA fun b2=>?_) rfl
        refine gac ?_
        exact retP (v:=.mk nNot 0 [] [e2]) hj (rC (rA rfl zm0 rfl zsr) rN) (by cases hr;rfl) (by rw[encE_mk];rfl) (by
         rw[show (((op+1:Nat):Int)-1)=((op+1-1:Nat):Int) by omega]
         exact zhP zp1 zhn)
       ·rw[hr1,h2,obind_err] at hr
        refine gae ?_
        exact panP (he'.trans hj) (by cases hr;rfl) zhp
      ·rw[h1,obind_err] at hr
       refine gae ?_
       exact panP (he'.trans hj) (by cases hr;rfl) zhp
     ·refine gaa ?_
      exact ⟨_,_,_,by have:=hsz;simp;omega,⟨seen.push 1,rfl,rfl,rfl,hnext hc⟩,⟨rfl,rfl,rfl,trivial⟩,zhP zp1 (zhP zp1 (zhP zp1 zhp)),hj⟩
    ·cases hcc
end
end Go.Proofs.YtpbbgkoalnonoaaGreatDoor
namespace Go.Proofs.YtpbbgkoalnonoaaGreatDoor
open Go.GL Go.RowKit Go.Stele
inductive Clo (sb:Nat):Nat→FuncId→Array Value→Array Value→Heap→Prop
 |un:Clo sb 6 290 #[.pointer (some ⟨sb,0,none⟩)] #[] []
 |bin {k bo bs bp bn:Nat} {f:FuncId} {first caps:Array Value} {H:Heap} (h:Clo sb (k+1) f first caps H):Clo sb k 306 #[] #[.pointer (some ⟨bo,0,none⟩),.pointer (some ⟨bs,0,none⟩),.pointer (some ⟨bp,0,none⟩),.pointer (some ⟨bn,0,none⟩)]
   ((bo,.cells 287 [.atom (.func (.func f) first caps)])::(bs,.cells 157 [ptr sb 0])::(bp,.cells 22 [.list ((lvOps k).map str)])::(bn,.cells 4 [bool (decide ((k:Int)=2))])::H)
def PostH {A:Type} (sb:Nat) (T:List Tok) (enc:A→LV) (Hc:Heap) (res:Res A) (r:LRes) (H:Heap):Prop:=match res with
 |.ok v i op=>r=.ret (enc v)∧H=srcH sb T i op::Hc
 |.err l e=>r=.panic (pan l e)∧∃ i op:Nat,H=srcH sb T i op::Hc
def CloC (B0:Nat) (w0:World) (sb:Nat) (T:List Tok) (f:Nat):Prop:=
 ∀ k fn first caps Hc i op r,Clo sb k fn first caps Hc→i≤T.length→op≤100→eLev T f k i op=some r →
  LCalls (KC B0 w0) fn (first.toList.map .atom++caps.toList.map .atom) (srcH sb T i op::Hc) (PostH sb T encE Hc r)
section steps
variable {C:Ctx} {e:Env} {H:Heap} {dst:Option Nat} {ty:TypeId} {pos:String} {aft:Array Edge} {g:Option (Nat×Bool)} {K:LV→Heap→Prop} {X:List PanicEntry→Heap→Prop}
theorem av_nil (a b:List LV) {e:Env}:a++([]:List Operand).map e.ev++b=a++b:=by simp
theorem S.callClo {A:Type} {enc:A→LV} {res:Res A} {sb i op:Nat} {T:List Tok} {fo:Operand} {f:FuncId} [TEnter C.P f] {first caps:Array Value} {ats:Array TypeId} {Hc F:Heap} (hf:e.ev fo=.atom (.func (.func f) first caps)) (hp:Pick (srcH sb T i op) H (F++Hc))
  (hc:LCalls C f (first.toList.map .atom++caps.toList.map .atom) (srcH sb T i op::Hc) (PostH sb T enc Hc res)) (hk:∀ v i' op',res=.ok v i' op'→K (enc v) (srcH sb T i' op'::(F++Hc))) (hx:∀ l er i' op',res=.err l er→X (pan l er) (srcH sb T i' op'::Hc++F)) :
  LStep C ⟨dst,.call { callee:=.value fo,args:=#[],argTypes:=ats },ty,pos,aft,g⟩ e H K X:=by
 have hp':H.Perm ((srcH sb T i op::Hc)++F):=hp.trans (List.Perm.cons _ zPc)
 refine LStep.conseq (K:=fun v H'=>∃ u i' op',res=.ok u i' op'∧v=enc u∧H'=srcH sb T i' op'::Hc++F) (S.callV (H1:=srcH sb T i op::Hc) (F:=F) [] hf (av_nil _ _) hp' hc ?_ ?_) ?_
 ·intro v H' h
  cases hr:res with
  |ok u i' op'=>rw[hr] at h;obtain ⟨h1,rfl⟩:=h;cases h1;exact ⟨u,i',op',rfl,rfl,rfl⟩
  |err l er=>rw[hr] at h;obtain ⟨h1,_⟩:=h;cases h1
 ·intro ch H' h
  cases hr:res with
  |ok u i' op'=>rw[hr] at h;obtain ⟨h1,_⟩:=h;cases h1
  |err l er=>rw[hr] at h;obtain ⟨h1,i',op',rfl⟩:=h;cases h1;exact hx _ _ _ _ hr
 ·rintro v H' ⟨u,i',op',h1,rfl,rfl⟩
  exact ⟨_,_,LV.Sub.refl _,⟨[],by simpa using zPc⟩,hk u i' op' h1⟩
end steps
theorem Clo.enter {sb k:Nat} {f:FuncId} {first caps:Array Value} {H:Heap} (h:Clo sb k f first caps H):TEnter Tryz.prog f:=by
 cases h <;> infer_instance
theorem Clo.le {sb k:Nat} {f:FuncId} {first caps:Array Value} {H:Heap} (h:Clo sb k f first caps H):k≤6:=by
 induction h with
 |un=>exact zNr _
 |bin _ ih=>omega
attribute [local irreducible] LOps LCode LStep LCalls Go.GL.Pure QThen QBlock RetPost LQ LAny LLate LLateOp
theorem hsub_clo {s:Nat×LObj} {A B Hc:Heap}:HSub (s::(B++Hc)) ((s::Hc++[])++(A++B)):=by
 refine ⟨A,?_⟩
 have h1:(Hc++(A++B)).Perm ((B++Hc)++A):=zPc.trans (by rw[zAs];exact zPc)
 simpa using List.Perm.cons s h1
theorem hsub_clo2 {s u:Nat×LObj} {A Hc:Heap}:HSub (u::s::(A++Hc)) (u::((s::([]++Hc))++A)):=by
 refine ⟨[],?_⟩
 have h1:(Hc++A).Perm (A++Hc):=zPc
 simpa using List.Perm.cons u (List.Perm.cons s h1)
theorem HSub.appR {H' l1 l2:Heap} (h:HSub H' l2):HSub H' (l1++l2):=by
 obtain ⟨G,hG⟩:=h
 refine ⟨G++l1,?_⟩
 have h1:(l1++l2).Perm (l2++l1):=zPc
 have h2:(l2++l1).Perm ((H'++G)++l1):=hG.append_right l1
 simpa using h1.trans h2
theorem perm_mid {a:Nat×LObj} {l1 l2:Heap}:([]++(l1++a::l2)).Perm ([a]++(l1++l2)):=by
 exact (List.nil_append _).symm▸List.perm_middle
theorem lvOps_le (k:Nat):(lvOps k).length≤1000:=by
 unfold lvOps
 split <;> simp
theorem textAt_eq {T:List Tok} {i:Nat} (h:i<T.length):textAt T i=T[i].text:=by rw[textAt,List.getElem?_eq_getElem h]
section
variable {B0:Nat} {w0:World}
theorem bin_spec (hG:GW B0 w0) (sb:Nat) (T:List Tok) (hT:TOK T) (f:Nat) (hC:∀ g,g<f→CloC B0 w0 sb T g) (k bo bs bp bn:Nat) (fn:FuncId) (first caps:Array Value) (Hc:Heap) (hclo:Clo sb (k+1) fn first caps Hc) (i op:Nat) (r:Res Ex)
  (hi:i≤T.length) (ho:op≤100) (hr:eLev T f k i op=some r) :
  LCalls (KC B0 w0) 306 [ptr bo 0,ptr bs 0,ptr bp 0,ptr bn 0] (srcH sb T i op::(bo,.cells 287 [.atom (.func (.func fn) first caps)])::(bs,.cells 157 [ptr sb 0])::(bp,.cells 22 [.list ((lvOps k).map str)])::(bn,.cells 4 [bool (decide ((k:Int)=2))])::Hc)
   (PostH sb T encE ((bo,.cells 287 [.atom (.func (.func fn) first caps)])::(bs,.cells 157 [ptr sb 0])::(bp,.cells 22 [.list ((lvOps k).map str)])::(bn,.cells 4 [bool (decide ((k:Int)=2))])::Hc) r):=by
 have hl:=hT.len
 have hk6:=hclo.le
 have hen:=hclo.enter
 obtain ⟨f,rfl⟩:∃ g,f=g+1:=by
  cases f with
  |zero=>rw[eLev] at hr;cases hr
  |succ g=>exact ⟨g,rfl⟩
 rw[eLev,if_neg zo] at hr
 obtain ⟨r1,hr1⟩:=obind_is hr
 refine cI Tryz.func306 rfl (n:=38) rfl rfl rfl ?_
 refine gag ?_
 refine oS (sA fun b=>?_) rfl
 refine gaj ?_
 refine oS (S.callClo (F:=[(b,_),(bo,_),(bs,_),(bp,_),(bn,_)]) (Hc:=Hc) rfl zp1 (hC f zo _ _ _ _ _ _ _ r1 hclo hi ho hr1) (fun v i1 op1 h1=>?_) (fun l er i1 op1 h1 e' he'=>?_)) rfl
 ·rw[hr1,h1,obind_ok] at hr
  obtain ⟨g1,_,g3,rfl⟩:=(ex_good T f).1 _ _ _ _ (hr1.trans (congrArg some h1))
  have g4:=g3 hi
  refine oS (sA fun b5=>?_) rfl
  refine gad ?_
  refine oL (fun q ls H=>∃ (ex:Ex) (i2:Nat),q≤f∧ls=[(0,ptr bo 0),(1,ptr bs 0),(2,ptr bp 0),(3,ptr bn 0),(4,ptr b 0),(5,ptr b5 0)] ∧
    H=(b5,.cells 104 [str (exOp ex),int .u32 (exNum ex),str (exName ex),.list (encArgs ex)])::srcH sb T i2 op1::(b,.cells 104 [str [],int .u32 0,str [],nilSlice])::([(bo,.cells 287 [.atom (.func (.func fn) first caps)]),(bs,.cells 157 [ptr sb 0]),(bp,.cells 22 [.list ((lvOps k).map str)]),(bn,.cells 4 [bool (decide ((k:Int)=2))])]++Hc)∧i2≤T.length∧eLoop T q k ex i2 op1=some r)
   ⟨f,_,_,⟨v,i1,zNr _,rfl,rfl,g4,hr⟩,⟨rfl,rfl,rfl,rfl,rfl,rfl,trivial⟩,zhR _⟩ ?_
  rintro q ls H ⟨ex,i2,hqf,rfl,rfl,hi2,hI⟩ j hj
  obtain ⟨q,rfl⟩:∃ q',q=q'+1:=by
   cases q with
   |zero=>rw[eLoop] at hI;cases hI
   |succ q=>exact ⟨q,rfl⟩
  rw[eLoop] at hI
  refine gac ?_
  refine oS (S.fnH [_,_] rfl zp1 (is_spec sb T i2 op1 (lvOps k) hl zo (lvOps_le k)) ?_) rfl
  refine gap ?_
  refine oC rfl (fun hc=>?_) (fun hc=>?_)
  ·have hlt:=isTok_lt hc
   rw[if_pos hc] at hI
   refine gaa ?_
   refine LCode.cut [(0,ptr bo 0),(1,ptr bs 0),(2,ptr bp 0),(3,ptr bn 0),(4,ptr b 0),(5,ptr b5 0),(6,str (textAt T i2))] ?_ (fun j2 hj2=>?_)
   ·refine LCode.quiet zk ?_
    refine gad ?_
    refine LQ.pure (xR (el':=encTok T[i2]) (cs:=[_,_,_]) rfl rfl zo (map_get _ _ _ hlt) rfl rfl) rfl ?_
    refine gad ?_
    exact ⟨⟨rfl,rfl,rfl,rfl,rfl,rfl,str_eq (textAt_eq hlt).symm,trivial⟩,rfl,rfl⟩
   ·obtain ⟨r2,hr2⟩:=obind_is hI
    refine gac ?_
    refine LCode.draw (m:=7) rfl [(bo,.cells 287 [.atom (.func (.func fn) first caps)])] ?_
    have hHF:HSub [(bo,.cells 287 [.atom (.func (.func fn) first caps)])] (srcH sb T (i2+1) op1::(b5,.cells 104 [str (exOp ex),int .u32 (exNum ex),str (exName ex),.list (encArgs ex)])::(b,.cells 104 [str [],int .u32 0,str [],nilSlice])::(bo,.cells 287 [.atom (.func (.func fn) first caps)])::[(bs,.cells 157 [ptr sb 0]),(bp,.cells 22 [.list ((lvOps k).map str)]),(bn,.cells 4 [bool (decide ((k:Int)=2))])]++Hc):=zhP zp3 zhn
    refine LAny.take (i:=0) hHF rfl zk zk zk rfl (pM (lv:=.atom _) rfl) ?_
    refine LAny.take (i:=2) hHF rfl zk zk zk rfl (pL (c:=.atom _) rfl zm0 rfl) ?_
    refine LAny.late ?_ hHF
    refine LLate.two (i:=1) (j:=3) zk ?_ ?_
    ·have hperm:(srcH sb T (i2+1) op1::(b5,LObj.cells 104 [str (exOp ex),int .u32 (exNum ex),str (exName ex),.list (encArgs ex)])::(b,LObj.cells 104 [str [],int .u32 0,str [],nilSlice])::([(bo,LObj.cells 287 [.atom (.func (.func fn) first caps)]),(bs,LObj.cells 157 [ptr sb 0]),(bp,LObj.cells 22 [.list ((lvOps k).map str)]),(bn,LObj.cells 4 [bool (decide ((k:Int)=2))])]++Hc)).Perm ((srcH sb T (i2+1) op1::Hc)++[(b5,LObj.cells 104 [str (exOp ex),int .u32 (exNum ex),str (exName ex),.list (encArgs ex)]),(b,LObj.cells 104 [str [],int .u32 0,str [],nilSlice]),(bo,LObj.cells 287 [.atom (.func (.func fn) first caps)]),(bs,LObj.cells 157 [ptr sb 0]),(bp,LObj.cells 22 [.list ((lvOps k).map str)]),(bn,LObj.cells 4 [bool (decide ((k:Int)=2))])]):=List.Perm.cons _ (show ([(b5,LObj.cells 104 [str (exOp ex),int .u32 (exNum ex),str (exName ex),.list (encArgs ex)]),(b,LObj.cells 104 [str [],int .u32 0,str [],nilSlice]),(bo,LObj.cells 287 [.atom (.func (.func fn) first caps)]),(bs,LObj.cells 157 [ptr sb 0]),(bp,LObj.cells 22 [.list ((lvOps k).map str)]),(bn,LObj.cells 4 [bool (decide ((k:Int)=2))])]++Hc).Perm (Hc++[(b5,LObj.cells 104 [str (exOp ex),int .u32 (exNum ex),str (exName ex),.list (encArgs ex)]),(b,LObj.cells 104 [str [],int .u32 0,str [],nilSlice]),(bo,LObj.cells 287 [.atom (.func (.func fn) first caps)]),(bs,LObj.cells 157 [ptr sb 0]),(bp,LObj.cells 22 [.list ((lvOps k).map str)]),(bn,LObj.cells 4 [bool (decide ((k:Int)=2))])]) from zPc)
     refine lH rfl rfl (Pure.ldHAgg (cs':=[_,_,_,_]) rfl zm1 rfl rfl) ?_
     refine lO 3 (lS (H1:=srcH sb T (i2+1) op1::Hc) (F:=[(b5,LObj.cells 104 [str (exOp ex),int .u32 (exNum ex),str (exName ex),.list (encArgs ex)]),(b,LObj.cells 104 [str [],int .u32 0,str [],nilSlice]),(bo,LObj.cells 287 [.atom (.func (.func fn) first caps)]),(bs,LObj.cells 157 [ptr sb 0]),(bp,LObj.cells 22 [.list ((lvOps k).map str)]),(bn,LObj.cells 4 [bool (decide ((k:Int)=2))])]) rfl (.inl rfl) rfl (hperm) (zhP zp2 zhn) (S.callClo (F:=[]) (Hc:=Hc) rfl pH (hC q zo _ _ _ _ _ _ _ r2 hclo zo ho hr2) (fun e2 i3 op3 h3=>?_) (fun l er i3 op3 h3 e' he'=>?_)))
     ·rw[hr2,h3,obind_ok] at hI
      obtain ⟨q1,q2,q3,rfl⟩:=(ex_good T q).1 _ _ _ _ (hr2.trans (congrArg some h3))
      have q4:=q3 zo
      refine lO 4 (lS (H1:=[]) (F:=(srcH sb T i3 op3::([]++Hc))++[(b5,LObj.cells 104 [str (exOp ex),int .u32 (exNum ex),str (exName ex),.list (encArgs ex)]),(b,LObj.cells 104 [str [],int .u32 0,str [],nilSlice]),(bo,LObj.cells 287 [.atom (.func (.func fn) first caps)]),(bs,LObj.cells 157 [ptr sb 0]),(bp,LObj.cells 22 [.list ((lvOps k).map str)]),(bn,LObj.cells 4 [bool (decide ((k:Int)=2))])]) rfl (.inl rfl) rfl zpr (HSub.appR (zhP zp2 zhn)) (sL (es:=[encE ex,encE e2]) [_,_] rfl (eC rfl rfl (eC rfl rfl eN)) rfl rfl rfl ?_))
      refine lO 5 (lH rfl rfl (Pure.bld _ (cs:=[_,_,_,_]) rfl) ?_)
      refine lO 6 (lS (H1:=[(b5,LObj.cells 104 [str (exOp ex),int .u32 (exNum ex),str (exName ex),.list (encArgs ex)])]) (F:=(srcH sb T i3 op3::([]++Hc))++[(b,LObj.cells 104 [str [],int .u32 0,str [],nilSlice]),(bo,LObj.cells 287 [.atom (.func (.func fn) first caps)]),(bs,LObj.cells 157 [ptr sb 0]),(bp,LObj.cells 22 [.list ((lvOps k).map str)]),(bn,LObj.cells 4 [bool (decide ((k:Int)=2))])]) rfl (.inl rfl) rfl perm_mid (HSub.appR (zhP zp1 zhn)) (sS (cs':=[_,_,_,_]) rfl pH rfl rfl rfl rfl rfl ?_))
      refine lD zk ?_
      refine qN ?_
      refine LCode.weak (H':=(b5,LObj.cells 104 [str (textAt T i2),int .u32 0,str [],.list [encE ex,encE e2]])::srcH sb T i3 op3::(b,LObj.cells 104 [str [],int .u32 0,str [],nilSlice])::([(bo,LObj.cells 287 [.atom (.func (.func fn) first caps)]),(bs,LObj.cells 157 [ptr sb 0]),(bp,LObj.cells 22 [.list ((lvOps k).map str)]),(bn,LObj.cells 4 [bool (decide ((k:Int)=2))])]++Hc)) (hsub_clo2 (A:=[(b,LObj.cells 104 [str [],int .u32 0,str [],nilSlice]),(bo,LObj.cells 287 [.atom (.func (.func fn) first caps)]),(bs,LObj.cells 157 [ptr sb 0]),(bp,LObj.cells 22 [.list ((lvOps k).map str)]),(bn,LObj.cells 4 [bool (decide ((k:Int)=2))])])) ?_
      refine gac ?_
      refine oC rfl (fun hk2=>?_) (fun hk2=>?_)
      ·have hk:k=2:=by have:=zt hk2;omega
       rw[if_pos hk] at hI
       refine gac ?_
       exact rR (hj2.trans hj) (rC (rA rfl zm0 rfl zsr) rN) (zhD (zhD zhr)) (by cases hI;exact ⟨by rw[encE_mk];rfl,rfl⟩)
      ·have hk:¬ k=2:=by have:=zf hk2;omega
       rw[if_neg hk] at hI
       refine gaa ?_
       exact ⟨q,_,_,by omega,⟨.mk (textAt T i2) 0 [] [ex,e2],i3,by omega,rfl,rfl,q4,hI⟩,⟨rfl,rfl,rfl,rfl,rfl,rfl,trivial⟩,(by rw[encArgs_map];exact zhR _),hj2.trans hj⟩
     ·rw[hr2,h3,obind_err] at hI
      refine gae ?_
      exact RetPost.panic (he'.trans (hj2.trans hj)) (hsub_clo (A:=[(b5,LObj.cells 104 [str (exOp ex),int .u32 (exNum ex),str (exName ex),.list (encArgs ex)]),(b,LObj.cells 104 [str [],int .u32 0,str [],nilSlice])]) (B:=[(bo,LObj.cells 287 [.atom (.func (.func fn) first caps)]),(bs,LObj.cells 157 [ptr sb 0]),(bp,LObj.cells 22 [.list ((lvOps k).map str)]),(bn,LObj.cells 4 [bool (decide ((k:Int)=2))])])) (by cases hI;exact ⟨rfl,i3,op3,rfl⟩)
    ·have hperm:(srcH sb T (i2+1) op1::(b5,LObj.cells 104 [str (exOp ex),int .u32 (exNum ex),str (exName ex),.list (encArgs ex)])::(b,LObj.cells 104 [str [],int .u32 0,str [],nilSlice])::([(bo,LObj.cells 287 [.atom (.func (.func fn) first caps)]),(bs,LObj.cells 157 [ptr sb 0]),(bp,LObj.cells 22 [.list ((lvOps k).map str)]),(bn,LObj.cells 4 [bool (decide ((k:Int)=2))])]++Hc)).Perm ((srcH sb T (i2+1) op1::Hc)++[(b5,LObj.cells 104 [str (exOp ex),int .u32 (exNum ex),str (exName ex),.list (encArgs ex)]),(b,LObj.cells 104 [str [],int .u32 0,str [],nilSlice]),(bo,LObj.cells 287 [.atom (.func (.func fn) first caps)]),(bs,LObj.cells 157 [ptr sb 0]),(bp,LObj.cells 22 [.list ((lvOps k).map str)]),(bn,LObj.cells 4 [bool (decide ((k:Int)=2))])]):=List.Perm.cons _ (show ([(b5,LObj.cells 104 [str (exOp ex),int .u32 (exNum ex),str (exName ex),.list (encArgs ex)]),(b,LObj.cells 104 [str [],int .u32 0,str [],nilSlice]),(bo,LObj.cells 287 [.atom (.func (.func fn) first caps)]),(bs,LObj.cells 157 [ptr sb 0]),(bp,LObj.cells 22 [.list ((lvOps k).map str)]),(bn,LObj.cells 4 [bool (decide ((k:Int)=2))])]++Hc).Perm (Hc++[(b5,LObj.cells 104 [str (exOp ex),int .u32 (exNum ex),str (exName ex),.list (encArgs ex)]),(b,LObj.cells 104 [str [],int .u32 0,str [],nilSlice]),(bo,LObj.cells 287 [.atom (.func (.func fn) first caps)]),(bs,LObj.cells 157 [ptr sb 0]),(bp,LObj.cells 22 [.list ((lvOps k).map str)]),(bn,LObj.cells 4 [bool (decide ((k:Int)=2))])]) from zPc)
     refine (lS (H1:=srcH sb T (i2+1) op1::Hc) (F:=[(b5,LObj.cells 104 [str (exOp ex),int .u32 (exNum ex),str (exName ex),.list (encArgs ex)]),(b,LObj.cells 104 [str [],int .u32 0,str [],nilSlice]),(bo,LObj.cells 287 [.atom (.func (.func fn) first caps)]),(bs,LObj.cells 157 [ptr sb 0]),(bp,LObj.cells 22 [.list ((lvOps k).map str)]),(bn,LObj.cells 4 [bool (decide ((k:Int)=2))])]) rfl (.inl rfl) rfl (hperm) (zhP zp2 zhn) (S.callClo (F:=[]) (Hc:=Hc) rfl pH (hC q zo _ _ _ _ _ _ _ r2 hclo zo ho hr2) (fun e2 i3 op3 h3=>?_) (fun l er i3 op3 h3 e' he'=>?_)))
     ·rw[hr2,h3,obind_ok] at hI
      obtain ⟨q1,q2,q3,rfl⟩:=(ex_good T q).1 _ _ _ _ (hr2.trans (congrArg some h3))
      have q4:=q3 zo
      refine lO 1 (lH rfl rfl (Pure.ldHAgg (cs':=[_,_,_,_]) rfl (List.mem_append_right _ zm0) rfl rfl) ?_)
      refine lO 4 (lS (H1:=[]) (F:=(srcH sb T i3 op3::([]++Hc))++[(b5,LObj.cells 104 [str (exOp ex),int .u32 (exNum ex),str (exName ex),.list (encArgs ex)]),(b,LObj.cells 104 [str [],int .u32 0,str [],nilSlice]),(bo,LObj.cells 287 [.atom (.func (.func fn) first caps)]),(bs,LObj.cells 157 [ptr sb 0]),(bp,LObj.cells 22 [.list ((lvOps k).map str)]),(bn,LObj.cells 4 [bool (decide ((k:Int)=2))])]) rfl (.inl rfl) rfl zpr (HSub.appR (zhP zp2 zhn)) (sL (es:=[encE ex,encE e2]) [_,_] rfl (eC rfl rfl (eC rfl rfl eN)) rfl rfl rfl ?_))
      refine lO 5 (lH rfl rfl (Pure.bld _ (cs:=[_,_,_,_]) rfl) ?_)
      refine lO 6 (lS (H1:=[(b5,LObj.cells 104 [str (exOp ex),int .u32 (exNum ex),str (exName ex),.list (encArgs ex)])]) (F:=(srcH sb T i3 op3::([]++Hc))++[(b,LObj.cells 104 [str [],int .u32 0,str [],nilSlice]),(bo,LObj.cells 287 [.atom (.func (.func fn) first caps)]),(bs,LObj.cells 157 [ptr sb 0]),(bp,LObj.cells 22 [.list ((lvOps k).map str)]),(bn,LObj.cells 4 [bool (decide ((k:Int)=2))])]) rfl (.inl rfl) rfl perm_mid (HSub.appR (zhP zp1 zhn)) (sS (cs':=[_,_,_,_]) rfl pH rfl rfl rfl rfl rfl ?_))
      refine lD zk ?_
      refine qN ?_
      refine LCode.weak (H':=(b5,LObj.cells 104 [str (textAt T i2),int .u32 0,str [],.list [encE ex,encE e2]])::srcH sb T i3 op3::(b,LObj.cells 104 [str [],int .u32 0,str [],nilSlice])::([(bo,LObj.cells 287 [.atom (.func (.func fn) first caps)]),(bs,LObj.cells 157 [ptr sb 0]),(bp,LObj.cells 22 [.list ((lvOps k).map str)]),(bn,LObj.cells 4 [bool (decide ((k:Int)=2))])]++Hc)) (hsub_clo2 (A:=[(b,LObj.cells 104 [str [],int .u32 0,str [],nilSlice]),(bo,LObj.cells 287 [.atom (.func (.func fn) first caps)]),(bs,LObj.cells 157 [ptr sb 0]),(bp,LObj.cells 22 [.list ((lvOps k).map str)]),(bn,LObj.cells 4 [bool (decide ((k:Int)=2))])])) ?_
      refine gac ?_
      refine oC rfl (fun hk2=>?_) (fun hk2=>?_)
      ·have hk:k=2:=by have:=zt hk2;omega
       rw[if_pos hk] at hI
       refine gac ?_
       exact rR (hj2.trans hj) (rC (rA rfl zm0 rfl zsr) rN) (zhD (zhD zhr)) (by cases hI;exact ⟨by rw[encE_mk];rfl,rfl⟩)
      ·have hk:¬ k=2:=by have:=zf hk2;omega
       rw[if_neg hk] at hI
       refine gaa ?_
       exact ⟨q,_,_,by omega,⟨.mk (textAt T i2) 0 [] [ex,e2],i3,by omega,rfl,rfl,q4,hI⟩,⟨rfl,rfl,rfl,rfl,rfl,rfl,trivial⟩,(by rw[encArgs_map];exact zhR _),hj2.trans hj⟩
     ·rw[hr2,h3,obind_err] at hI
      refine gae ?_
      exact RetPost.panic (he'.trans (hj2.trans hj)) (hsub_clo (A:=[(b5,LObj.cells 104 [str (exOp ex),int .u32 (exNum ex),str (exName ex),.list (encArgs ex)]),(b,LObj.cells 104 [str [],int .u32 0,str [],nilSlice])]) (B:=[(bo,LObj.cells 287 [.atom (.func (.func fn) first caps)]),(bs,LObj.cells 157 [ptr sb 0]),(bp,LObj.cells 22 [.list ((lvOps k).map str)]),(bn,LObj.cells 4 [bool (decide ((k:Int)=2))])])) (by cases hI;exact ⟨rfl,i3,op3,rfl⟩)
  ·have hc':isTok T i2 (lvOps k)=false:=hc
   rw[if_neg (by rw[hc'];decide)] at hI
   refine gac ?_
   exact rR hj (rC (rA rfl zm0 rfl zsr) rN) (zhD (zhP pH (zhD zhr))) (by cases hI;exact ⟨rfl,rfl⟩)
 ·rw[hr1,h1,obind_err] at hr
  refine gah ?_
  refine RetPost.panic (he'.trans rfl) (H':=srcH sb T i1 op1::(bo,.cells 287 [.atom (.func (.func fn) first caps)])::(bs,.cells 157 [ptr sb 0])::(bp,.cells 22 [.list ((lvOps k).map str)])::(bn,.cells 4 [bool (decide ((k:Int)=2))])::Hc) ?_ (by cases hr;exact ⟨rfl,i1,op1,rfl⟩)
  exact zhP pH ⟨[(b,_)],zPc.trans (by exact List.Perm.refl _ |>.trans (List.perm_append_singleton _ _).symm)⟩
end
end Go.Proofs.YtpbbgkoalnonoaaGreatDoor
namespace Go.GL
open Go.RowKit
def noDefer:Op→Bool
 |.defer _=>false
 |_=>true
theorem callsIn_round {l n:Nat} {P:Program} {f:FuncId} {args:Array Value} {w:World} {R:Ending→World→Prop} (h:Calls P f args w R):CallsIn (Fence.wide.inRound l) n P f args w R:=(callsIn_wide (n:=n)).2 h
theorem rowsIn_round {l n:Nat} {P:Program} {row:String} {args:Array Value} {w:World} {R:Value→World→Prop} (h:Rows P row args w R):RowsIn (Fence.wide.inRound l) n P row args w R:=fun c cs _=>
 let ⟨v,w',r,s⟩:=h c cs
 ⟨v,w',r,stepsIn_wide.2 s⟩
theorem operIn_round {l n:Nat} {P:Program} {o:Oper} {a:Act} {w:World} {next next':Act→World→Prop} {Q:Exit→Act→World→Prop} (ho:noDefer o.op=true)
  (hn:∀ a w,next a w→next' a w) (h:o.wp P a w next Q):o.wpIn (Fence.wide.inRound l) n P a w next' Q:=by
 refine ⟨fun _ _=>trivial,?_⟩
 have hs:o.semAt (Fence.wide.inRound l).round a.eval=execOp a.eval o:=Oper.semAt_eq _ _ _ fun c hc=>by rw[hc] at ho;cases ho
 rw[hs]
 unfold Oper.wp at h
 revert h
 generalize (execOp a.eval o).run P w=r
 intro h
 cases r with
 |ok x w'=>
  cases x with
  |value v=>exact hn _ _ h
  |skip=>exact hn _ _ h
  |defer d=>exact hn _ _ h
  |enter f args=>
   refine ⟨fun hd=>(by cases hd),callsIn_round (Calls.mono h ?_)⟩
   intro e w'' he
   cases e with
   |returned v=>exact hn _ _ he
   |panicked ch=>exact he
   |outgrown=>exact he
  |row row args=>
   refine ⟨fun hd=>(by cases hd),rowsIn_round (Rows.mono h ?_)⟩
   intro v w'' he
   exact hn _ _ he
  |_=>exact h.elim
 |halt x w'=>
  cases x <;> first|exact h|exact h.elim
theorem listIn_round {l n:Nat} {P:Program} {ops:Array Oper} {Q:Exit→Act→World→Prop} (hQ:¬ LetsOut Q):∀ (rest:List Oper) (a:Act) (w:World),(∀ o∈rest,noDefer o.op=true)→wpList P ops Q rest a w→wpListIn (Fence.wide.inRound l) n P ops Q rest a w
 |[],_,_,_,h=>h
 |o::rest,a,w,ho,h=>by
  unfold wpList at h
  unfold wpListIn
  split at h
  ·rename_i hw
   rw[if_pos hw]
   rcases h with h|⟨_,h⟩
   ·exact operIn_round (ho o List.mem_cons_self) (fun a w h=>listIn_round hQ rest a w (fun o h=>ho o (zMo _ h)) h) h
   ·exact absurd h hQ
  ·rename_i hw
   rw[if_neg hw]
   exact ⟨fun _ _=>trivial,listIn_round hQ rest _ _ (fun o h=>ho o (zMo _ h)) h⟩
theorem regionIn_round {l n id:Nat} {P:Program} {ops:List Oper} {Q:Exit→Act→World→Prop} {a:Act} {w:World} (hQ:¬ LetsOut Q) (ho:ops.all (fun o=>noDefer o.op)=true) (h:wpList P ops.toArray Q ops a w) :
  (Code.region id ops.toArray false).wpIn (Fence.wide.inRound l) n P Q a w:=wpIn_region_lit (listIn_round hQ ops a w (by simpa using ho) h)
end Go.GL
/- A small logic over the walk's 'Code.wp': a range over a function whose rounds all go on. -/
namespace Go.GL
open Go.RowKit
theorem turn_obj {C:Ctx} {w:World} {L:Live} {b:Nat} {o o':Obj} {F:Heap} (hH:RelH C w L ((b,.obj o)::F)) (ho':noCells o'=true) :
  Fr (keys ((b,LObj.obj o)::F)) w L (w.putObj b o') L ((b,.obj o')::F)∧RelH C (w.putObj b o') L ((b,.obj o')::F):=by
 have h1:RelH C w L ([(b,.obj o)]++F):=hH
 have hlt:b<w.heap.size:=(hH.objs _ List.mem_cons_self).2.1
 have h2:Left C w L [(b,.obj o)] (w.putObj b o') undef (fun _ H'=>H'=[(b,.obj o')]):=
  left_obj (w':=w.putObj b o') h1.left ho' rfl rfl rfl (by simp[World.putObj]) (fun c hc=>World.putObj_heap_other hc) (World.putObj_heap_same hlt) (v:=undef) (lv:=.atom undef) (fun _=>rep_atom) rfl
 obtain ⟨lv,H',L',g1,g2,g3,rfl⟩:=h2
 have hL:L'=L:=by
  funext c
  obtain ⟨_,_,hl,_⟩:=h1.left.objs _ List.mem_cons_self
  obtain ⟨_,_,hl',_⟩:=g2.objs _ List.mem_cons_self
  by_cases he:c=b
  ·subst he;rw[hl,hl']
  ·rcases Nat.lt_or_ge c w.heap.size with hc|hc
   ·exact g1.lsame c hc (by simpa using he)
   ·rw[h1.wf c hc,g2.wf c (by simpa [World.putObj] using hc)]
 subst hL
 have:=h1.frame g1 g2
 exact ⟨this.2,this.1⟩
theorem alloc_obj {C:Ctx} {w:World} {L:Live} {o:Obj} {F:Heap} (hH:RelH C w L F) (ho:noCells o=true) :
  ∃ L',Fr (keys F) w L (w.alloc o) L' ((w.heap.size,.obj o)::F)∧RelH C (w.alloc o) L' ((w.heap.size,.obj o)::F):=by
 have h1:RelH C w L ([]++F):=hH
 have:=fr_push h1.left o 0 [(w.heap.size,.obj o)] (fun p hp=>by
  simp only[List.mem_singleton] at hp
  subst hp
  exact ⟨rfl,by simp[Live.upd],heap_push_self,shape_none heap_push_self ho⟩) (by simp)
 have:=h1.frame this.1 this.2
 exact ⟨_,this.2,this.1⟩
def LCodeR (C:Ctx) (l n:Nat) (c:Code) (Q:Post) (e:Env) (H:Heap):Prop:=
 ∀ a w L,RelE n a e w L→RelH C w L H→∀ m,c.wpIn (Fence.wide.inRound l) m C.P (lift C n w L (keys H) Q) a w
def QOn (k:Env→Heap→Prop):Post
 |.normal,e,H=>k e H
 |_,_,_=>False
section round
variable {C:Ctx} {l n:Nat} {e:Env} {H:Heap} {k:Env→Heap→Prop}
theorem LCodeR.region {id:Nat} {ops:List Oper} (ho:ops.all (fun o=>noDefer o.op)=true) (h:LOps C n ops.toArray (QThen k (QOn k)) ops e H):LCodeR C l n (.region id ops.toArray false) (QOn k) e H:=fun a w L hE hH m=>by
 refine regionIn_round ?_ ho (wpList_mono ?_ _ _ _ (h a w L hE hH))
 ·rintro ⟨a',w',e',H',L',_,_,_,hq⟩
  exact hq
 ·rintro ex a' w' hq
  refine lift_mono ?_ hq
  intro x e H h
  cases x <;> exact h
theorem LCodeR.seq {x y:Code} (h:LCodeR C l n x (QOn fun e H=>LCodeR C l n y (QOn k) e H) e H):LCodeR C l n (.seq x y) (QOn k) e H:=fun a w L hE hH m=>by
 refine wpIn_seq (wpIn_mono (h a w L hE hH m) fun ex a' w' hq=>?_)
 obtain ⟨e',H',L',h1,h2,h3,h4⟩:=hq
 cases ex with
 |normal=>exact wpIn_mono (h4 a' w' L' h3 h2 m) fun _ _ _=>lift_trans h1
 |exit id=>exact h4.elim
 |goto id=>exact h4.elim
 |ret=>exact h4.elim
 |panic ch=>exact h4.elim
 |outgrown=>exact h4.elim
theorem LCodeR.block {id:Nat} {c:Code} (h:LCodeR C l n c (QOn k) e H):LCodeR C l n (.block id c) (QOn k) e H:=fun a w L hE hH m=>by
 refine wpIn_block (wpIn_mono (h a w L hE hH m) fun ex a' w' hq=>?_)
 obtain ⟨e',H',L',h1,h2,h3,h4⟩:=hq
 cases ex with
 |normal=>exact ⟨e',H',L',h1,h2,h3,h4⟩
 |exit id=>exact h4.elim
 |goto id=>exact h4.elim
 |ret=>exact h4.elim
 |panic ch=>exact h4.elim
 |outgrown=>exact h4.elim
end round
theorem yieldAt_mono {F:Fence} {m:Nat} {P:Program} {l:Nat} {args:Array Value} {W:World} {R R':Ending→World→Prop} (h:YieldAt F m P l args W R) (hr:∀ e w,R e w→R' e w):YieldAt F m P l args W R':=by
 obtain ⟨fn,tmps,assign,body,hy,hR⟩:=h
 exact ⟨fn,tmps,assign,body,hy,hR.mono hr⟩
def LYield (C:Ctx) (l:Nat) (args:List LV) (H:Heap) (K:Heap→Prop):Prop:=
 ∀ (vs:List Value) w L,RepL w L args vs→RelH C w L H→∀ m,YieldAt Fence.wide m C.P l vs.toArray w fun e w'=>e=.returned (.bool true)∧LeftX C w L H w' K
theorem LYield.frame {C:Ctx} {l:Nat} {args:List LV} {G H F:Heap} {K:Heap→Prop} (p:G.Perm (H++F)) (h:LYield C l args H fun H'=>K (H'++F)):LYield C l args G K:=fun vs w L h1 h2 m=>by
 have h3:=h2.perm p
 refine yieldAt_mono (h vs w L h1 h3.left m) ?_
 rintro e w' ⟨he,hx⟩
 obtain ⟨H',L',g1,g2,g3⟩:=LeftX.frame h3 hx
 exact ⟨he,H',L',g1.perm p.symm,g2,g3⟩
theorem LYield.mono {C:Ctx} {l:Nat} {args:List LV} {H:Heap} {K K':Heap→Prop} (h:LYield C l args H K) (hk:∀ H,K H→K' H):LYield C l args H K':=fun vs w L h1 h2 m=>yieldAt_mono (h vs w L h1 h2 m) fun _ _ hx=>⟨hx.1,hx.2.mono hk⟩
def LIter (C:Ctx) (gf:FuncId) (caps:List LV) (Hc:Heap) (N:Nat) (xs:Nat→List LV):Prop:=
 ∀ (l:Nat) (J:Nat→Heap→Prop),(∀ k H,k<N→J k H→LYield C l (xs k) H (J (k+1)))→∀ H0,J 0 H0 →
  LCalls C gf (.atom (.func (.yield l) #[] #[])::caps) (H0++Hc) (fun r H'=>(∃ v,r=.ret v)∧∃ H1,H'=H1++Hc∧J N H1)
def Env.round (j:Env):List (Nat×LV)→Env
 |[]=>j
 |(d,v)::r=>Env.round (j.upd d v) r
theorem RelE.rounds {n:Nat} {w:World} {L:Live}:∀ (ps:List Nat) (lvs:List LV) (vs:List Value) (tmps:Array Value) (j:Env),RelE n { tmps,defers:=[] } j w L→RepL w L lvs vs→ps.length=lvs.length→ps.all (fun p=>Nat.blt p n)=true →
  RelE n { tmps:=(ps.zip vs).foldl (fun t p=>t.setIfInBounds p.1 p.2) tmps,defers:=[] } (Env.round j (ps.zip lvs)) w L
 |[],lvs,vs,tmps,j,h,_,_,_=>by simpa [Env.round] using h
 |p::ps,[],vs,tmps,j,h,_,hl,_=>by simp at hl
 |p::ps,lv::lvs,vs,tmps,j,h,hr,hl,hp=>by
  simp only[RepL] at hr
  obtain ⟨y,ys,rfl,hy,hr⟩:=hr
  simp only[List.all_cons,zBa] at hp
  have:=RelE.put (dst:=some p) h (by simp only[dstOk,dstB];exact hp.1) hy
  simp only[List.zip_cons_cons,List.foldl_cons,Env.round]
  exact RelE.rounds ps lvs ys _ _ this hr (by simpa using hl) hp.2
def Act.flat (a:Act):Env:=⟨fun i=>.atom (a.tmps.getD i undef),[]⟩
theorem Act.flat_rel {n:Nat} {a:Act} {w:World} {L:Live} (hn:a.tmps.size=n):RelE n { tmps:=a.tmps,defers:=[] } (Act.flat a) w L:=⟨hn,rfl,fun _=>rep_atom⟩
section range
variable {C:Ctx} {n:Nat} {e:Env} {H:Heap} {Q:Post}
theorem LCode.rangeFunc {g:Operand} {ps:List Nat} {assign body:Code} {gf:FuncId} [TEnter C.P gf] {caps:Array Value} (hg:e.ev g=.atom (.func (.func gf) #[] caps)) (N:Nat) (xs:Nat→List LV) (H0 Hc:Heap) (hp:H.Perm (H0++Hc))
  (hiter:LIter C gf (caps.toList.map .atom) Hc N xs) (hps:∀ k,k<N→ps.length=(xs k).length) (hpn:ps.all (fun p=>Nat.blt p n)=true)
  (J:Nat→Heap→Prop) (h0:J 0 H0)
  (round:∀ k H,k<N→J k H→∀ j:Env,j.ds=[]→(∀ i v,e.s i=.atom v→j.s i=.atom v)→∀ (l D:Nat) (o oD:LObj),LCodeR C l n assign (QOn fun e1 H1=>e1.ds=[]∧∃ H1',H1=(l,o)::(D,oD)::H1'∧(∀ o':LObj,LCodeR C l n body (QOn fun _ H2=>∃ H2',HSub ((l,o')::(D,oD)::H2') H2∧J (k+1) H2') e1 ((l,o')::(D,oD)::H1'))) (Env.round j (ps.zip (xs k))) ((l,o)::(D,oD)::H))
  (done:∀ D H',J N H'→Q .normal ⟨e.s,{ target:=.collected D,args:=#[] }::e.ds⟩ ((D,.obj (.deferred (some [])))::(H'++Hc))) :
  LCode C n (.rangeFunc g ps.toArray assign body) Q e H:=fun a w L hE hH=>by
 refine wpIn_wide (n:=1) |>.1 (wpIn_rangeFunc fun fn _=>?_)
 have hgv:a.eval g=.func (.func gf) #[] caps:=by
  have:=hE.ev g
  rw[hg] at this
  simpa only[Rep] using this
 obtain ⟨rec,hrec⟩:∃ rec:LoopState→Option Code→Loop,rec=fun st pe=>{ state:=st,pending:=pe,fn,tmps:=a.tmps,params:=ps.toArray,assign,body,defers:=w.heap.size }:=⟨_,rfl⟩
 obtain ⟨L1,f1,r1⟩:=alloc_obj (o:=.deferred (some [])) (hH.perm hp) rfl
 obtain ⟨L2,f2,r2⟩:=alloc_obj (o:=.loop (rec .ready none)) r1 rfl
 have hsz:(w.alloc (.deferred (some []))).heap.size=w.heap.size+1:=World.size_alloc ..
 rw[hsz] at f2 r2
 have hrec0:rec .ready none={ state:=.ready,pending:=none,fn,tmps:=a.tmps,params:=ps.toArray,assign,body,defers:=w.heap.size }:=by rw[hrec]
 refine ⟨w.heap.size+1,[{ target:=.collected w.heap.size,args:=#[] }],(w.alloc (.deferred (some []))).alloc (.loop (rec .ready none)),{ target:=.fn (.func gf) caps,args:=#[.func (.yield (w.heap.size+1)) #[] #[]] },(w.alloc (.deferred (some []))).alloc (.loop (rec .ready none)),gf,
  #[.func (.yield (w.heap.size+1)) #[] #[]]++caps,(w.alloc (.deferred (some []))).alloc (.loop (rec .ready none)),?_,?_,fun _ _=>trivial,?_,fun _=>zNr _,callsIn_wide.2 ?_⟩
 ·rw[hrec0];exact run_enterLoop_outer _ _ _ _ _
 ·simp only[resolve,hgv]
  simp[go_sem]
 ·simp only[invoke]
  exact run_callFunc _ _
 ·obtain ⟨l,hl⟩:∃ l,l=w.heap.size+1:=⟨_,rfl⟩
  obtain ⟨D,hD⟩:∃ D,D=w.heap.size:=⟨_,rfl⟩
  rw[←hl,←hD] at f2 r2 ⊢
  rw[←hD] at r1 f1
  have hc:=hiter l (fun k H=>∃ H1,H=(l,.obj (.loop (rec .ready none)))::(D,.obj (.deferred (some [])))::H1∧J k H1) ?_ ((l,.obj (.loop (rec .ready none)))::(D,.obj (.deferred (some [])))::H0) ⟨H0,rfl,h0⟩
  ·have h1:=hc (.func (.yield l) #[] #[]::caps.toList) _ L2 (by simp only[RepL,Rep];exact ⟨_,_,rfl,rfl,repL_atoms _⟩) r2
   have e1:(Value.func (.yield l) #[] #[]::caps.toList).toArray=#[.func (.yield l) #[] #[]]++caps:=by
    apply Array.ext'
    simp
   rw[e1] at h1
   refine Calls.mono h1 ?_
   rintro ex w' hx
   cases ex with
   |returned v=>
    obtain ⟨lv,H',L',g1,g2,g3,_,H1,rfl,H1',rfl,hJ⟩:=hx
    have g2':RelH C w' L' ((l,.obj (.loop (rec .ready none)))::((D,.obj (.deferred (some [])))::(H1'++Hc))):=g2
    obtain ⟨_,_,_,hlo,_⟩:=g2'.objs _ List.mem_cons_self
    have hlo':w'.heap[l]? = some (.loop (rec .ready none)):=hlo
    have hpe:(rec .ready none).pending=none:=by rw[hrec]
    have hend:=(run_endLoop (P:=C.P) hlo' (by rw[hrec];simp)).trans (congrArg (fun p=>Result.ok p _) hpe)
    have ht:=turn_obj (o':=.loop { rec .ready none with state:=.exhausted }) g2' rfl
    refine ⟨none,_,hend,?_⟩
    have hs:HSub ((D,LObj.obj (.deferred (some [])))::(H1'++Hc)) ((l,.obj (.loop { rec .ready none with state:=.exhausted }))::((D,.obj (.deferred (some [])))::(H1'++Hc))):=zhD zhr
    refine ⟨⟨e.s,{ target:=.collected D,args:=#[] }::e.ds⟩,(D,.obj (.deferred (some [])))::(H1'++Hc),L',?_,ht.2.weak hs,⟨?_,?_,?_⟩,done D H1' hJ⟩
    ·exact Fr.perm hp.symm ((f1.trans (f2.trans (g1.trans ht.1))).weak hs)
    ·exact hE.size
    ·show _::a.defers=_
     rw[hE.ds]
    ·exact fun i=>(hE.vals i).mono (f1.ext.trans (f2.ext.trans (g1.ext.trans ht.1.ext))) _ _
   |panicked ch=>
    obtain ⟨H',L',g1,g2,⟨v,hv⟩,_⟩:=hx
    cases hv
   |outgrown=>exact hx.elim
  ·rintro k H hk ⟨H1,rfl,hJ⟩ vs w1 Lw hvs hr m
   obtain ⟨_,_,_,hlo,_⟩:=hr.objs _ List.mem_cons_self
   have hlo':w1.heap[l]? = some (.loop (rec .ready none)):=hlo
   have hlen:=hvs.length
   have hpk:=hps k hk
   have hy:=run_yield (P:=C.P) (args:=vs.toArray) hlo' (by rw[hrec];simp;omega)
   rw[hrec] at hy
   refine ⟨fn,_,assign,body,hy,roundIn_of_wpIn trivial ?_⟩
   have htm:RelE n { tmps:=a.tmps,defers:=[] } (Act.flat a) w1 Lw:=Act.flat_rel hE.size
   have htm2:=RelE.rounds ps (xs k) vs a.tmps (Act.flat a) htm hvs hpk hpn
   have e2:(ps.toArray.zip vs.toArray).foldl (fun tmps (t,a)=>tmps.setIfInBounds t a) a.tmps=(ps.zip vs).foldl (fun t p=>t.setIfInBounds p.1 p.2) a.tmps:=by
    simp
   simp only[e2]
   refine wpIn_mono (round k H1 hk hJ (Act.flat a) rfl ?_ l D _ _ _ w1 Lw htm2 hr m) ?_
   ·intro i v hv
    have:=hE.vals i
    rw[hv] at this
    simp only[Rep] at this
    simp only[Act.flat,this]
   ·rintro ex a1 w2 ⟨e1,H2,L2',q1,q2,q3,q4⟩
    cases ex with
    |normal=>
     obtain ⟨hds,H2',rfl,hb⟩:=q4
     obtain ⟨_,_,_,hlo2,_⟩:=q2.objs _ List.mem_cons_self
     have hlo2':w2.heap[l]? = some (.loop (rec .ready none)):=hlo2
     have ht:=turn_obj (o':=.loop { rec .ready none with state:=.busy }) q2 rfl
     refine ⟨_,run_beginRound hlo2' (by rw[hrec]),?_⟩
     refine wpIn_mono (hb (.obj (.loop { rec .ready none with state:=.busy })) a1 _ L2' (q3.mono ht.1.ext) ht.2 m) ?_
     rintro ex a3 w3 ⟨e3,H3,L3,p1,p2,p3,p4⟩
     cases ex with
     |normal=>
      obtain ⟨H3',hs3,hJ3⟩:=p4
      have p2':=p2.weak hs3
      obtain ⟨_,_,_,hlo3,_⟩:=p2'.objs _ List.mem_cons_self
      have hlo3':w3.heap[l]? = some (.loop { rec .ready none with state:=.busy }):=hlo3
      have ht3:=turn_obj (o':=.loop (rec .ready none)) p2' rfl
      have hend:=run_endRound (P:=C.P) none hlo3'
      have e3:({ { rec .ready none with state:=.busy } with state:=if (none:Option Code).isNone then .ready else .done,pending:=none }:Loop)=rec .ready none:=by rw[hrec];rfl
      rw[e3] at hend
      refine ⟨.bool true,_,hend,rfl,?_⟩
      exact ⟨_,L3,q1.trans (ht.1.trans ((p1.weak hs3).trans ht3.1)),ht3.2,H3',rfl,hJ3⟩
     |exit id=>exact p4.elim
     |goto id=>exact p4.elim
     |ret=>exact p4.elim
     |panic ch=>exact p4.elim
     |outgrown=>exact p4.elim
    |exit id=>exact q4.elim
    |goto id=>exact q4.elim
    |ret=>exact q4.elim
    |panic ch=>exact q4.elim
    |outgrown=>exact q4.elim
end range
/-! ### The iterator's own call of yield -/
def LOpsW (C:Ctx) (n:Nat) (ops:Array Oper) (Q:Post) (rest:List Oper) (e:Env) (H:Heap):Prop:=
 ∀ a w L,RelE n a e w L→RelH C w L H→wpListIn Fence.wide 1 C.P ops (lift C n w L (keys H) Q) rest a w
section W
variable {C:Ctx} {n:Nat} {ops:Array Oper} {Q:Post} {e:Env} {H:Heap}
theorem LOpsW.nil (h:Q .normal e H):LOpsW C n ops Q [] e H:=fun _ _ L hE hH=>⟨e,H,L,Fr.refl _ _ _,hH,hE,h⟩
theorem wpListIn_mono {F:Fence} {m:Nat} {P:Program} {Q Q':Exit→Act→World→Prop} (h:∀ e a w,Q e a w→Q' e a w) (ho:LetsOut Q→LetsOut Q'):∀ (l:List Oper) (a:Act) (w:World),wpListIn F m P ops Q l a w→wpListIn F m P ops Q' l a w
 |[],_,_,k=>h _ _ _ k
 |o::l,a,w,k=>by
  unfold wpListIn at k ⊢
  split at k
  ·rename_i hw
   rw[if_pos hw]
   refine ⟨k.1,?_⟩
   have k2:=k.2
   generalize (o.semAt F.round a.eval).run P w=r at k2 ⊢
   cases r with
   |ok x w'=>
    cases x with
    |value v=>exact wpListIn_mono h ho l _ _ k2
    |skip=>exact wpListIn_mono h ho l _ _ k2
    |defer d=>exact wpListIn_mono h ho l _ _ k2
    |enter f args=>
     refine ⟨k2.1,k2.2.mono fun e w'' he=>?_⟩
     cases e with
     |returned v=>exact wpListIn_mono h ho l _ _ he
     |panicked ch=>exact h _ _ _ he
     |outgrown=>exact ho he
    |row row args=>
     refine ⟨k2.1,fun c cs hr=>?_⟩
     obtain ⟨v,w2,r2,s2⟩:=k2.2 c cs hr
     exact ⟨v,w2,wpListIn_mono h ho l _ _ r2,s2⟩
    |round l' f tmps avs bd=>
     refine ⟨k2.1,k2.2.mono fun e w'' he=>?_⟩
     cases e with
     |returned v=>exact wpListIn_mono h ho l _ _ he
     |panicked ch=>exact h _ _ _ he
     |outgrown=>exact ho he
    |_=>exact k2.elim
   |halt x w'=>cases x <;> first|exact h _ _ _ k2|exact k2.elim
  ·rename_i hw
   rw[if_neg hw]
   exact ⟨k.1,wpListIn_mono h ho l _ _ k.2⟩
theorem lift_out {w w1:World} {L L1:Live} {K:List Nat} {H1:Heap} (f:Fr K w L w1 L1 H1):LetsOut (lift C n w1 L1 (keys H1) Q)→LetsOut (lift C n w L K Q):=fun ⟨a,w',h⟩=>⟨a,w',lift_trans f h⟩
theorem LOpsW.pure {dst:Option Nat} {op:Op} {ty:TypeId} {pos:String} {aft:Array Edge} {rest:List Oper} {lv:LV}
  (h:Pure C ⟨dst,op,ty,pos,aft,none⟩ e H lv) (hd:dstOk n dst) (k:LOpsW C n ops Q rest (e.put dst lv) H):LOpsW C n ops Q (⟨dst,op,ty,pos,aft,none⟩::rest) e H:=fun a w L hE hH=>by
 obtain ⟨v,hv,hr⟩:=h a.eval w L hE.ev hH
 unfold wpListIn
 rw[if_pos (by simp[Region.wanted])]
 refine ⟨fun _ _=>trivial,?_⟩
 have hs:Oper.semAt (Fence.wide).round a.eval ⟨dst,op,ty,pos,aft,none⟩=execOp a.eval ⟨dst,op,ty,pos,aft,none⟩:=rfl
 rw[hs,hr w ⟨fun _ _=>rfl,fun _ _ _=>rfl⟩]
 exact k _ w L (hE.put hd hv) hH
theorem LOpsW.yield {dst:Option Nat} {fo:Operand} {l:Nat} {args:List Operand} {ats:Array TypeId} {avs:List LV} {ty:TypeId} {pos:String} {aft:Array Edge} {rest:List Oper} {K:Heap→Prop} (hf:e.ev fo=.atom (.func (.yield l) #[] #[]))
  (has:args.map e.ev=avs) (hy:LYield C l avs H K) (hd:dstOk n dst) (k:∀ H',K H'→LOpsW C n ops Q rest (e.put dst (bool true)) H'):LOpsW C n ops Q (⟨dst,.call { callee:=.value fo,args:=args.toArray,argTypes:=ats },ty,pos,aft,none⟩::rest) e H:=fun a w L hE hH=>by
 subst has
 have hv:=hE.ev fo
 rw[hf] at hv
 simp only[Rep] at hv
 obtain ⟨fn,tmps,assign,body,h1,h2⟩:=hy (args.map a.eval) w L (repL_ev hE.ev _) hH 0
 unfold wpListIn
 rw[if_pos (by simp[Region.wanted])]
 refine ⟨fun _ _=>trivial,?_⟩
 have h3:Oper.semAt (Fence.wide).round a.eval ⟨dst,.call { callee:=.value fo,args:=args.toArray,argTypes:=ats },ty,pos,aft,none⟩=(do let d ←Deferred.ofValue (a.eval fo) (args.toArray.map a.eval);invoke d.target d.args):=rfl
 have h4:(do let d ←Deferred.ofValue (.func (.yield l) #[] #[]) (args.toArray.map a.eval);invoke d.target d.args:Sem Next).run C.P w=.ok (.round l fn tmps assign body) w:=by
  simp only[Deferred.ofValue,Sem.run_bind,Sem.run_pure,Result.andThen_ok,invoke]
  rw[←h1]
  simp
 rw[h3,hv,h4]
 refine ⟨fun _=>zNr _,h2.mono ?_⟩
 rintro ex w' ⟨rfl,H',L',g1,g2,g3⟩
 exact wpListIn_mono (fun _ _ _=>lift_trans g1) (lift_out g1) _ _ _ (k H' g3 _ w' L' ((hE.mono g1.ext).put hd rep_atom) g2)
theorem LCode.regionW {id:Nat} {l:List Oper} (h:LOpsW C n l.toArray Q l e H):LCode C n (.region id l.toArray false) Q e H:=fun a w L hE hH=>wpIn_wide (n:=1) |>.1 (wpIn_region_lit (h a w L hE hH))
end W
def RetPostM (C:Ctx) (n:Nat) (rs:List ResultVar) (R:LRes→Heap→Prop):Post
 |.normal,e,H|.ret,e,H=>∃ D F,e.ds=[{ target:=.collected D,args:=#[] }]∧H.Perm ((D,.obj (.deferred (some [])))::F)∧∃ vs H',AllRes C n e F rs vs∧HSub H' F∧R (.ret (resLV vs)) H'
 |.panic ch,e,H=>(e.ds=[]∧∃ H',HSub H' H∧R (.panic ch) H')∨∃ D F,e.ds=[{ target:=.collected D,args:=#[] }]∧H.Perm ((D,.obj (.deferred (some [])))::F)∧∃ H',HSub H' F∧R (.panic ch) H'
 |_,_,_=>False
theorem LCalls.introM {C:Ctx} {f:FuncId} {fn:Func} {c:Code} {n:Nat} {args:List LV} {H:Heap} {R:LRes→Heap→Prop} (hf:C.P.funcs[f]? = some fn) (hb:fn.body=some c) (hn:fn.ntmps=n) (h3:Nat.ble fn.results.size 3=true)
  (hl:Nat.ble args.length n=true) (h:LCode C n c (RetPostM C n fn.results.toList R) (argsEnv args) H):LCalls C f args H R:=fun vs w L hv hH=>by
 subst hn
 have hl':args.length≤fn.ntmps:=by simpa using hl
 have h3':fn.results.size≤3:=by simpa using h3
 have hlen:=hv.length
 refine callsIn_wide.1 (callsIn_of_wp_marks (F:=Fence.wide) (n:=1) hf hb trivial (wpIn_wide.2 (Go.wp_mono (h _ w L ⟨?_,rfl,fun i=>?_⟩ hH) fun ex a' w' hq=>?_)))
 ·simp;omega
 ·exact zT3
 ·obtain ⟨e',H',L',g1,g2,g3,g4⟩:=hq
  have turn:∀ {D F},H'.Perm ((D,LObj.obj (.deferred (some [])))::F)→(Instr.takeDeferred D).run C.P w'=.ok [] (w'.putObj D (.deferred none))∧Fr (keys H) w L (w'.putObj D (.deferred none)) L' F∧RelH C (w'.putObj D (.deferred none)) L' F∧Ext w' L' (w'.putObj D (.deferred none)) L':=fun {D F} hp=>by
   have g2':=g2.perm hp
   obtain ⟨_,_,_,hlo,_⟩:=g2'.objs _ List.mem_cons_self
   have hlo':w'.heap[D]? = some (.deferred (some [])):=hlo
   have ht:=turn_obj (o':=.deferred none) g2' rfl
   have hs:HSub F ((D,LObj.obj (.deferred none))::F):=zhD zhr
   have hkp:Fr (keys H) w L w' L' ((D,LObj.obj (.deferred (some [])))::F):=g1.weak ⟨[],by simpa using hp⟩
   exact ⟨run_takeDeferred hlo',(hkp.trans ht.1).weak hs,ht.2.weak hs,ht.1.ext⟩
  have ret:RelE fn.ntmps a' e' w' L'→(∃ D F,e'.ds=[{ target:=.collected D,args:=#[] }]∧H'.Perm ((D,.obj (.deferred (some [])))::F)∧∃ vs H'',AllRes C fn.ntmps e' F fn.results.toList vs∧HSub H'' F∧R (.ret (resLV vs)) H'') →
    LeavesInM Fence.wide 1 C.P fn a'.tmps (CallPost C w L H (fun v=>R (.ret v)) (fun ch=>R (.panic ch))) a'.defers .returning w':=fun hE hr=>by
   obtain ⟨D,F,h1,hp,vs',H'',h2,h4,h5⟩:=hr
   rw[hE.ds,h1]
   obtain ⟨t1,t2,t3,t4⟩:=turn hp
   refine ⟨by simp,.inl ⟨D,_,rfl,t1,?_⟩⟩
   obtain ⟨v,r1,r2⟩:=results_of (hE.mono t4) t3 h2 h3'
   exact ⟨v,r1,resLV vs',H'',L',t2.weak h4,t3.weak h4,r2,h5⟩
  cases ex with
  |normal=>exact ret g3 g4
  |ret=>exact ret g3 g4
  |panic ch=>
   rcases g4 with ⟨h1,H'',h4,h5⟩|⟨D,F,h1,hp,H'',h4,h5⟩
   ·show LeavesInM _ _ _ _ _ _ a'.defers _ _
    rw[show a'.defers=[] from (show a'.defers=e'.ds from g3).trans h1]
    exact ⟨H'',L',g1.weak h4,g2.weak h4,h5⟩
   ·show LeavesInM _ _ _ _ _ _ a'.defers _ _
    rw[show a'.defers=[{ target:=.collected D,args:=#[] }] from (show a'.defers=e'.ds from g3).trans h1]
    obtain ⟨t1,t2,t3,t4⟩:=turn hp
    exact ⟨by simp,.inl ⟨D,_,rfl,t1,⟨H'',L',t2.weak h4,t3.weak h4,h5⟩⟩⟩
  |exit id=>exact g4.elim
  |goto id=>exact g4.elim
  |outgrown=>exact g4.elim
end Go.GL
namespace Go.Proofs.YtpbbgkoalnonoaaGreatDoor
open Go.GL Go.RowKit Go.Stele
attribute [local irreducible] LOps LCode LStep LCalls Go.GL.Pure QThen QBlock RetPost LQ LAny LLate LLateOp
def lvLV (k:Nat):LV:=.list ((lvOps k).map str)
def levelsLV:List LV:=[lvLV 0,lvLV 1,lvLV 2,lvLV 3,lvLV 4,lvLV 5]
section
variable {B0:Nat} {w0:World}
theorem levels_spec:LCalls (KC B0 w0) 292 [] [] (Ret (.list levelsLV)):=by
 refine cI Tryz.func292 rfl (n:=8) rfl rfl rfl ?_
 refine gai ?_
 refine oS (sL (es:=[str [124,124]]) [_] rfl (eC rfl rfl eN) rfl rfl rfl ?_) rfl
 refine oS (sL (es:=[str [38,38]]) [_] rfl (eC rfl rfl eN) rfl rfl rfl ?_) rfl
 refine oS (sL (es:=[str [61,61],str [33,61],str [60],str [62],str [60,61],str [62,61]]) [_,_,_,_,_,_] rfl (eC rfl rfl (eC rfl rfl (eC rfl rfl (eC rfl rfl (eC rfl rfl (eC rfl rfl eN)))))) rfl rfl rfl ?_) rfl
 refine oS (sL (es:=[str [94]]) [_] rfl (eC rfl rfl eN) rfl rfl rfl ?_) rfl
 refine oS (sL (es:=[str [43],str [45]]) [_,_] rfl (eC rfl rfl (eC rfl rfl eN)) rfl rfl rfl ?_) rfl
 refine oS (sL (es:=[str [42],str [47],str [37]]) [_,_,_] rfl (eC rfl rfl (eC rfl rfl (eC rfl rfl eN))) rfl rfl rfl ?_) rfl
 refine oS (sL (es:=levelsLV) [_,_,_,_,_,_] rfl (eC rfl rfl (eC rfl rfl (eC rfl rfl (eC rfl rfl (eC rfl rfl (eC rfl rfl eN)))))) rfl rfl rfl ?_) rfl
 refine gad ?_
 exact retRet rfl (rC (rT (v:=.list _) rfl zsr) rN) rfl
theorem binary_spec (sb:Nat) (ops:List LV) (once:Bool) (fn:FuncId) (first caps:Array Value):LCalls (KC B0 w0) 293 [ptr sb 0,.list ops,bool once,.atom (.func (.func fn) first caps)] []
  (fun r H=>∃ bo bs bp bn:Nat,r=.ret (.atom (.func (.func 306) #[] #[.pointer (some ⟨bo,0,none⟩),.pointer (some ⟨bs,0,none⟩),.pointer (some ⟨bp,0,none⟩),.pointer (some ⟨bn,0,none⟩)])) ∧
   H=[(bo,.cells 287 [.atom (.func (.func fn) first caps)]),(bs,.cells 157 [ptr sb 0]),(bp,.cells 22 [.list ops]),(bn,.cells 4 [bool once])]):=by
 refine cI Tryz.func293 rfl (n:=10) rfl rfl rfl ?_
 refine gag ?_
 refine oS (S.box rfl fun bs=>?_) rfl
 refine oS (S.box rfl fun bp=>?_) rfl
 refine oS (S.box rfl fun bn=>?_) rfl
 refine oS (S.box rfl fun bo=>?_) rfl
 refine gac ?_
 exact rR rfl (zra rfl) (zhP pH (zhP zp2 (zhP zp1 zhp))) ⟨bo,bs,bp,bn,rfl,rfl⟩
theorem backward_spec (es:List LV):LCalls (KC B0 w0) 291 [.list es] [] (fun r H=>∃ b:Nat,r=.ret (.atom (.func (.func 305) #[] #[.pointer (some ⟨b,0,none⟩)]))∧H=[(b,.cells 198 [.list es])]):=by
 refine cI Tryz.func291 rfl (n:=4) rfl rfl rfl ?_
 refine gag ?_
 refine oS (S.box rfl fun b=>?_) rfl
 refine gac ?_
 exact rR rfl (zra rfl) zhr ⟨b,rfl,rfl⟩
def backArgs (ls:List (List (List UInt8))) (q:Nat):List LV:=[int .i64 ((ls.length:Int)-1-q),.list (((ls[ls.length-1-q]?).getD []).map str)]
theorem iter_spec (b:Nat) (ls:List (List (List UInt8))) (hl:ls.length≤100000):LIter (KC B0 w0) 305 [ptr b 0] [(b,.cells 198 [.list (ls.map fun l=>.list (l.map str))])] ls.length (backArgs ls):=by
 intro l J hY H0 h0
 have hml:(ls.map fun l=>LV.list (l.map str)).length=ls.length:=zLm _
 refine cI Tryz.func305 rfl (n:=19) rfl rfl rfl ?_
 refine LCode.perm (H':=(b,.cells 198 [.list (ls.map fun l=>.list (l.map str))])::H0) (List.perm_append_singleton _ _) ?_
 refine gac ?_
 refine oL (fun k lsl H=>∃ (q:Nat) (Hq:Heap),q≤ls.length∧k=ls.length-q∧lsl=[(0,.atom (.func (.yield l) #[] #[])),(1,ptr b 0),(3,int .i64 ((ls.length:Int)-1-q))]∧H=(b,.cells 198 [.list (ls.map fun l=>.list (l.map str))])::Hq∧J q Hq)
  ⟨_,_,_,⟨0,H0,Nat.zero_le _,rfl,rfl,rfl,h0⟩,⟨rfl,rfl,int_eq (by simp),trivial⟩,zhR _⟩ ?_
 rintro k lsl H ⟨q,Hq,hq,rfl,rfl,rfl,hJ⟩ j hj
 refine gac ?_
 refine oC rfl (fun hc=>?_) (fun hc=>?_)
 ·have hlt:q<ls.length:=by have:=zt hc;omega
  have hix:((ls.length:Int)-1-q).toNat=ls.length-1-q:=by omega
  have hlt2:ls.length-1-q<ls.length:=by omega
  have hel:(ls.map fun l=>LV.list (l.map str))[((ls.length:Int)-1-q).toNat]? = some (.list (((ls[ls.length-1-q]?).getD []).map str)):=by
   rw[hix,List.getElem?_map,List.getElem?_eq_getElem hlt2]
   rfl
  refine gaa ?_
  refine LCode.regionW ?_
  refine gad ?_
  refine LOpsW.pure (xR (cs:=[_]) rfl rfl zo hel rfl rfl) rfl ?_
  refine gad ?_
  refine LOpsW.yield (H:=(b,.cells 198 [.list (ls.map fun l=>.list (l.map str))])::Hq) (args:=[_,_]) rfl rfl (LYield.frame (H:=Hq) (F:=[(b,.cells 198 [.list (ls.map fun l=>.list (l.map str))])]) (List.perm_append_singleton _ _).symm (K:=fun H'=>∃ H1,H'=H1++[(b,.cells 198 [.list (ls.map fun l=>.list (l.map str))])]∧J (q+1) H1) (LYield.mono (hY q Hq hlt hJ) fun H' h=>⟨H',rfl,h⟩)) rfl ?_
  rintro H' ⟨H1,rfl,hJ1⟩
  refine gad ?_
  refine LOpsW.nil ?_
  refine qN ?_
  refine LCode.weak (H':=(b,.cells 198 [.list (ls.map fun l=>.list (l.map str))])::H1) ⟨[],by rw[zLz];exact List.perm_append_singleton _ _⟩ ?_
  refine oC rfl (fun hcc=>?_) (fun hcc=>?_)
  ·cases hcc
  ·refine gac ?_
   exact ⟨_,_,_,by omega,⟨q+1,H1,hlt,rfl,rfl,rfl,hJ1⟩,⟨rfl,rfl,int_eq zo,trivial⟩,zhR _,hj⟩
 ·have hge:q=ls.length:=by have:=zf hc;omega
  subst hge
  refine gaa ?_
  exact rO hj rN ⟨[],by rw[zLz];exact (List.perm_append_singleton _ _).symm⟩ ⟨⟨_,rfl⟩,Hq,rfl,hJ⟩
end
end Go.Proofs.YtpbbgkoalnonoaaGreatDoor
namespace Go.GL
open Go.RowKit
section
variable {C:Ctx} {n:Nat} {Q:Post} {e:Env} {H:Heap} {k:Env→Heap→Prop}
theorem LCode.mid {A:Type} {c:Code} (l:A→List (Nat×LV)) (H1:A→Heap) (F:A→Prop) (hx:LCode C n c (QThen (fun e' H'=>∃ a,F a∧At (l a) (H1 a) e.ds e' H') Q) e H) (hy:∀ a,F a→∀ j:Env,j.ds=e.ds→k (Env.slots j (l a)) (H1 a)):LCode C n c (QThen k Q) e H:=by
 refine LCode.conseq hx ?_
 rintro ex e' H' hq
 cases ex with
 |normal=>
  obtain ⟨a,hF,h1,rfl,h3⟩:=hq
  have:=hy a hF e' h3
  rw[Env.slots_self h1.mem] at this
  exact this
 |exit id=>exact hq
 |goto id=>exact hq
 |ret=>exact hq
 |panic ch=>exact hq
 |outgrown=>exact hq
theorem LCode.midC {A:Type} {c c2:Code} {Q2:Post} (l:A→List (Nat×LV)) (H1:A→Heap) (F:A→Prop) (hx:LCode C n c (QThen (fun e' H'=>∃ a,F a∧AllSlots e' (l a)∧HSub (H1 a) H'∧e'.ds=e.ds) Q) e H) (hy:∀ a,F a→∀ j:Env,j.ds=e.ds→LCode C n c2 Q2 (Env.slots j (l a)) (H1 a)):LCode C n c (QThen (fun e H=>LCode C n c2 Q2 e H) Q) e H:=by
 refine LCode.conseq hx ?_
 rintro ex e' H' hq
 cases ex with
 |normal=>
  obtain ⟨a,hF,h1,h2,h3⟩:=hq
  have:=hy a hF e' h3
  rw[Env.slots_self h1.mem] at this
  exact LCode.weak h2 this
 |exit id=>exact hq
 |goto id=>exact hq
 |ret=>exact hq
 |panic ch=>exact hq
 |outgrown=>exact hq
theorem cells_sub {w:World} {L:Live} {b ty:Nat} {cs cs':List LV} {F:Heap} (hp:Pick (b,.cells ty cs) H F) (hs:SubL cs cs') (hH:RelH C w L H):RelH C w L ((b,.cells ty cs')::F):=by
 have h1:=hH.perm hp
 refine ⟨h1.base,h1.lbase,h1.b0,h1.wf,h1.nodup,fun p hp=>?_⟩
 rcases zMi.1 hp with rfl|hp
 ·obtain ⟨r1,r2,r3,xs,r4,r5⟩:=h1.objs _ List.mem_cons_self
  exact ⟨r1,r2,r3,xs,r4,hs.repL r5⟩
 ·exact h1.objs p (zMo _ hp)
theorem pick_keys {b ty:Nat} {cs cs':List LV} {F:Heap} (hp:Pick (b,.cells ty cs) H F):∀ x,x∈keys ((b,LObj.cells ty cs')::F)→x∈keys H:=fun x hx=>by
 have:keys ((b,LObj.cells ty cs')::F)=keys ((b,LObj.cells ty cs)::F):=rfl
 rw[this] at hx
 exact ((hp.map (·.1)).mem_iff).2 hx
theorem LCode.cellSub {c:Code} {b ty:Nat} {cs cs':List LV} {F:Heap} (hp:Pick (b,.cells ty cs) H F) (hs:SubL cs cs') (h:LCode C n c Q e ((b,.cells ty cs')::F)):LCode C n c Q e H:=fun a w L hE hH=>
 Go.wp_mono (h a w L hE (cells_sub hp hs hH)) fun _ _ _=>lift_weak (pick_keys hp)
theorem LOps.perm {ops:Array Oper} {rest:List Oper} {H':Heap} (s:H.Perm H') (h:LOps C n ops Q rest e H'):LOps C n ops Q rest e H:=LOps.weak ⟨[],by simpa using s⟩ h
end
section
variable {C:Ctx} {e:Env} {H:Heap} {dst:Option Nat} {ty:TypeId} {pos:String} {aft:Array Edge} {g:Option (Nat×Bool)} {x:Operand}
theorem Pure.assertOk {t xT:TypeId} [ht:TConcrete C.P t] {vs:List Value} (hx:e.ev x=.atom (.iface t (.agg vs.toArray))):Pure C ⟨dst,.typeAssert x xT t true,ty,pos,aft,g⟩ e H (.tuple [.agg (vs.map .atom),bool true]):=
 .of_any fun ρ w L h=>⟨.tuple #[.agg vs.toArray,.bool true],by
  simp only[Rep]
  exact ⟨[.agg vs.toArray,.bool true],rfl,by simp only[RepL,Rep];exact ⟨_,_,rfl,⟨vs,rfl,repL_atoms vs⟩,_,_,rfl,rfl,rfl⟩⟩,fun w'=>by
  obtain ⟨d,hd,hm⟩:=ht.out
  have h3:execOp ρ ⟨dst,.typeAssert x xT t true,ty,pos,aft,g⟩=(do Pure.pure (.value (←Instr.typeAssert (ρ x) xT t true))):=rfl
  rw[h3,atom_of h hx]
  simp only[Instr.typeAssert,Sem.run_bind,run_underlying' hd,Result.andThen_ok]
  cases d <;> simp_all⟩
end
theorem LLate.three {C:Ctx} {n:Nat} {ops:Array Oper} {Q:Post} {HF:Heap} {fuel:Nat} {listed:Array Bool} {e:Env} {H:Heap} {i j k:Nat} (hr:Region.ready .any ops listed=[i,j,k]) (h1:LLateOp C n ops Q HF fuel listed e H i) (h2:LLateOp C n ops Q HF fuel listed e H j) (h3:LLateOp C n ops Q HF fuel listed e H k):LLate C n ops Q HF (fuel+1) listed e H:=
 LLate.all hr (by simp) fun q hq=>by
  simp only[zMi,List.not_mem_nil,or_false] at hq
  rcases hq with rfl|rfl|rfl
  ·exact h1
  ·exact h2
  ·exact h3
theorem LLate.four {C:Ctx} {n:Nat} {ops:Array Oper} {Q:Post} {HF:Heap} {fuel:Nat} {listed:Array Bool} {e:Env} {H:Heap} {i j k l:Nat} (hr:Region.ready .any ops listed=[i,j,k,l]) (h1:LLateOp C n ops Q HF fuel listed e H i) (h2:LLateOp C n ops Q HF fuel listed e H j) (h3:LLateOp C n ops Q HF fuel listed e H k) (h4:LLateOp C n ops Q HF fuel listed e H l):LLate C n ops Q HF (fuel+1) listed e H:=
 LLate.all hr (by simp) fun q hq=>by
  simp only[zMi,List.not_mem_nil,or_false] at hq
  rcases hq with rfl|rfl|rfl|rfl
  ·exact h1
  ·exact h2
  ·exact h3
  ·exact h4
theorem strs_len (l:List (List UInt8)):∀ v∈l.map str,v.cells.length=1:=fun v hv=>by
 obtain ⟨x,_,rfl⟩:=List.mem_map.1 hv
 rfl
theorem strs_ok:∀ l:List (List UInt8),((l.map str).flatMap LV.cells).all cellOk=true
 |[]=>rfl
 |x::l=>by
  rw[zMc,List.flatMap_cons,List.all_append,strs_ok l]
  rfl
end Go.GL
/- A small logic over the walk's 'Code.wp': structs of a string and an int, compared. -/
namespace Go.GL
open Go.RowKit
section
variable {C:Ctx} {e:Env} {H:Heap} {dst:Option Nat} {ty:TypeId} {pos:String} {aft:Array Edge} {g:Option (Nat×Bool)} {xT yT:TypeId} {x y:Operand}
end
end Go.GL
namespace Go.Stele
open Go.Lib
theorem pu_append (M:Nat):∀ (l r:List UInt8) (acc u:Nat),parseUintM M acc l=.ok u→parseUintM M acc (l++r)=parseUintM M u r
 |[],r,acc,u,h=>by
  rw[parseUintM] at h
  cases h
  rfl
 |c::l,r,acc,u,h=>by
  rw[parseUintM] at h
  rw[List.cons_append,parseUintM]
  split at h
  ·rename_i hc
   rw[if_pos hc]
   split at h
   ·cases h
   ·rename_i h1
    rw[if_neg h1]
    split at h
    ·cases h
    ·rename_i h2
     rw[if_neg h2]
     exact pu_append M l r _ u h
  ·cases h
theorem digit_toNat {d:Nat} (h:d<10):(UInt8.ofNat (48+d)).toNat=48+d:=by
 rw[UInt8.toNat_ofNat']
 omega
theorem pu_dec (M:Nat) (hM:M≤4294967295) (u:Nat) (hu:u≤M):parseUintM M 0 (decDigits u)=.ok u:=by
 induction u using Nat.strongRecOn with
 |_ u ih=>
  have one:∀ a d,d<10→a * 10+d≤M→parseUintM M a [UInt8.ofNat (48+d)]=.ok (a * 10+d):=fun a d hd ha=>by
   rw[parseUintM,digit_toNat hd,if_pos (by omega),if_neg (by omega),if_neg (by omega),parseUintM]
   congr 1
   omega
  rw[decDigits]
  split
  ·have:=one 0 u (by assumption) (by omega)
   simpa using this
  ·rw[pu_append M _ _ 0 (u / 10) (ih (u / 10) (by omega) (by omega)),one _ _ (by omega) (by omega)]
   congr 1
   omega
theorem decDigits_ne (u:Nat):decDigits u≠[]:=by
 rw[decDigits]
 split <;> simp
theorem pu32_dec (u:Nat) (hu:u<4294967296):parseUintB 32 (decDigits u)=.ok u:=by
 rw[parseUintB,if_neg (decDigits_ne u)]
 exact pu_dec _ zDd u (by omega)
theorem nDigits_le:∀ (k u:Nat),u<10 ^ (k+1)→nDigits u≤k+1
 |0,u,h=>by rw[nDigits_small (by simpa using h)];omega
 |k+1,u,h=>by
  by_cases hu:u<10
  ·rw[nDigits_small hu];omega
  ·rw[nDigits_big hu]
   have:=nDigits_le k (u / 10) (by rw[Nat.pow_succ] at h;omega)
   omega
theorem dec_len {u:Nat} (hu:u<4294967296):(decDigits u).length≤10:=by
 rw[decDigits_length]
 exact nDigits_le 9 u (by omega)
theorem pu32_lt {l:List UInt8} {u:Nat} (h:parseUintB 32 l=.ok u):u<4294967296:=by
 have key:∀ (l:List UInt8) (acc u:Nat),acc≤4294967295→parseUintM 4294967295 acc l=.ok u→u≤4294967295:=by
  intro l
  induction l with
  |nil=>intro acc u ha h;rw[parseUintM] at h;cases h;exact ha
  |cons c l ih=>
   intro acc u ha h
   rw[parseUintM] at h
   split at h
   ·split at h
    ·cases h
    ·split at h
     ·cases h
     ·exact ih _ _ (by omega) h
   ·cases h
 rw[parseUintB] at h
 split at h
 ·cases h
 ·have:=key _ _ _ (by omega) h
  omega
def TokOk (t:Tok):Prop:=t.text.length≤100∧(t.kind=1→∃ u,u<4294967296∧parseUintB 32 t.text=.ok u∧t.text=decDigits u)
theorem lexToken_ok (s:List UInt8) (h:(lexToken s).2.2=0):TokOk (lexToken s).1:=by
 match s with
 |[]=>simp[lexToken,tokErr] at h
 |c::r=>
  simp only[lexToken] at h ⊢
  split at h <;> rename_i hc
  ·rw[if_pos hc]
   unfold lexNumber at h ⊢
   split at h
   ·simp[tokErr] at h
   ·rename_i hw
    rw[if_neg hw]
    split at h
    ·rename_i u hu
     have hlt:=pu32_lt hu
     exact ⟨by have:=dec_len hlt;simp only;omega,fun _=>⟨u,hlt,pu32_dec u hlt,rfl⟩⟩
    ·simp[tokErr] at h
  ·rw[if_neg hc]
   split at h <;> rename_i hl
   ·rw[if_pos hl]
    unfold lexName at h ⊢
    split at h
    ·simp[tokErr] at h
    ·rename_i hw
     rw[if_neg hw]
     refine ⟨by simp only;omega,fun hk=>?_⟩
     simp only at hk
     split at hk <;> cases hk
   ·rw[if_neg hl]
    split at h <;> rename_i hq
    ·rw[if_pos hq]
     unfold lexLiteral at h ⊢
     split at h
     ·split at h
      ·simp[tokErr] at h
      ·rename_i hx
       rename_i heq
       rename_i b _ _
       rw[if_neg hx]
       have hb:b.toNat<4294967296:=Nat.lt_trans (UInt8.toNat_lt b) zDd
       exact ⟨by have:=dec_len hb;simp only;omega,fun _=>⟨b.toNat,hb,pu32_dec _ hb,rfl⟩⟩
     ·simp[tokErr] at h
    ·rw[if_neg hq]
     unfold lexSign at h ⊢
     split at h
     ·rename_i x hx
      have h2:=List.mem_of_find?_eq_some hx
      have:∀ x∈signs,x.length≤100:=by decide
      exact ⟨this x h2,fun hk=>by cases hk⟩
     ·simp[tokErr] at h
theorem map_ok {A B:Type} {f:A→B} {r:Except (Int×Int) A} {b:B} (h:r.map f=.ok b):∃ a,r=.ok a∧f a=b:=by
 cases r with
 |ok a=>exact ⟨a,rfl,by injection h⟩
 |error e=>cases h
theorem lexP_ok:∀ (f:Nat) (s:List UInt8) (line:Int) (T:List Tok),lexP f s line=.ok T→T.length≤f∧∀ t∈T,TokOk t
 |0,s,line,T,h=>by
  rw[lexP] at h
  cases h
  exact ⟨zNr _,by simp⟩
 |f+1,s,line,T,h=>by
  rw[lexP] at h
  split at h
  ·cases h
   exact ⟨Nat.zero_le _,by simp⟩
  ·split at h
   ·split at h
    ·cases h
    ·rename_i he
     obtain ⟨T',h1,rfl⟩:=map_ok h
     obtain ⟨k1,k2⟩:=lexP_ok f _ _ _ h1
     refine ⟨by rw[zLc];omega,fun t ht=>?_⟩
     rcases zMi.1 ht with rfl|ht
     ·exact lexToken_ok s (by omega)
     ·exact k2 t ht
   ·obtain ⟨k1,k2⟩:=lexP_ok f _ _ _ h
    exact ⟨by omega,k2⟩
end Go.Stele
namespace Go.Stele
theorem nd_word {T:List Tok} {k:Int} {i op:Nat} {s:List UInt8} {i' op':Nat} (h:some (sWord T k i op)=some (.ok s i' op')):i'=i+1∧op'=op:=by
 injection h with h
 unfold sWord at h
 split at h
 ·split at h
  ·cases h;exact ⟨rfl,rfl⟩
  ·cases h
 ·cases h
theorem nd_need {T:List Tok} {x:List UInt8} {i op:Nat} {u:Unit} {i' op':Nat} (h:some (sNeed T x i op)=some (.ok u i' op')):i'=i+1∧op'=op:=by
 injection h with h
 unfold sNeed at h
 split at h
 ·cases h;exact ⟨rfl,rfl⟩
 ·cases h
end Go.Stele
namespace Go.Stele
def leftLv (k:Nat):Nat:=if k=2 then k+1 else k
end Go.Stele
namespace Go.GL
open Go.RowKit
section
variable {C:Ctx} {e:Env} {H:Heap} {x y:Operand} {dst:Option Nat} {ty:TypeId} {pos:String} {aft:Array Edge} {g:Option (Nat×Bool)} {K:LV→Heap→Prop} {X:List PanicEntry→Heap→Prop}
def byts (l:List UInt8):List LV:=l.map fun b=>int .u8 b.toNat
theorem byts_len (l:List UInt8):(byts l).length=l.length:=zLm _
theorem byts_app (l m:List UInt8):byts (l++m)=byts l++byts m:=zMa
theorem byts_size (l:List UInt8):∀ v∈byts l,v.cells.length=1:=by
 intro v hv
 obtain ⟨b,_,rfl⟩:=List.mem_map.1 hv
 rfl
theorem byts_flat (l:List UInt8):(byts l).flatMap LV.cells=byts l:=by
 induction l with
 |nil=>rfl
 |cons b l ih=>
  have h:byts (b::l)=int .u8 b.toNat::byts l:=rfl
  rw[h,List.flatMap_cons,ih]
  rfl
def bytV (l:List UInt8):List Value:=l.map fun b=>.int .u8 b.toNat
theorem bytV_flat (l:List UInt8):∀ v∈bytV l,(∀ cs,v≠Value.agg cs)∧(∀ cs,v≠Value.tuple cs):=by
 intro v hv
 obtain ⟨b,_,rfl⟩:=List.mem_map.1 hv
 exact And.intro (fun _ h=>by cases h) (fun _ h=>by cases h)
theorem first_str {P:Program} (l:List UInt8) (w':World):(Builtin.firstCells 1 l.length (.string ⟨l.toArray⟩)).run P w'=.ok (bytV l).toArray w':=by
 have:=Go.Lib.run_firstCells_string (P:=P) w' 1 ⟨l.toArray⟩
 rw[size_mk] at this
 rw[this]
 rfl
/-! ### A buffer whose cells are all known: it can be frozen -/
theorem repL_atoms_eq {w:World} {L:Live}:∀ {zs xs:List Value},RepL w L (zs.map .atom) xs→xs=zs
 |[],_,h=>by simpa only[List.map_nil,RepL] using h
 |z::zs,xs,h=>by
  simp only[zMc,RepL] at h
  obtain ⟨y,ys,rfl,h1,h2⟩:=h
  simp only[Rep] at h1
  rw[h1,repL_atoms_eq h2]
inductive BRow (el:TypeId):Value→List UInt8→Heap→Prop
 |nil:BRow el (.slice none 0 0) [] []
 |row {b:Nat} {l:List UInt8} {xs:List Value} (h0:l≠[]) (h1:l.length≤xs.length) (h2:xs.take l.length=bytV l):BRow el (.slice (some ⟨b,0,none⟩) l.length xs.length) l [(b,.cells el (xs.map .atom))]
theorem bytV_len (l:List UInt8):(bytV l).length=l.length:=zLm _
theorem bytV_app (l m:List UInt8):bytV (l++m)=bytV l++bytV m:=zMa
theorem left_newB {w:World} {L:Live} (hH:RelH C w L []) {el:TypeId} {l:List UInt8} {xs:List Value} (h0:l≠[]) (h1:l.length≤xs.length) (h2:xs.take l.length=bytV l) (hk:∀ v' H',BRow el v' l H'→K (.atom v') H') :
  Left C w L [] (World.push w (.cells xs.toArray el)) (.slice (some ⟨w.heap.size,0,none⟩) l.length xs.length) K:=by
 have hx:=ext_push hH.wf (.cells xs.toArray el) 0
 have:=fr_push hH (.cells xs.toArray el) 0 [(w.heap.size,.cells el (xs.map .atom))] (fun p hp=>by
  simp only[List.mem_singleton] at hp
  subst hp
  exact ⟨rfl,by simp[Live.upd],xs,heap_push_self,repL_atoms xs⟩) (by simp)
 exact ⟨.atom _,_,_,this.1,this.2,rep_atom,hk _ _ (BRow.row h0 h1 h2)⟩
theorem LStep.appB {sT xT el bytes:Nat} [ht:TSlice C.P sT el 1] [hr:TRow C.P el 1 bytes] [hx2:TStr C.P xT] {v:Value} {l m:List UInt8}
  (hx:e.ev x=.atom v) (ha:BRow el v l H) (hy:e.ev y=str m) (hroom:(l.length+m.length) * bytes≤140737488355328)
  (hk:∀ v' H',BRow el v' (l++m) H'→K (.atom v') H'):LStep C ⟨dst,.call { callee:=.builtin .append,args:=#[x,y],argTypes:=#[sT,xT] },ty,pos,aft,g⟩ e H K X:=by
 have h0:∀ (cs:Array Bool) (args:Array Value),builtin .append #[sT,xT] ty cs args=(do Pure.pure (.value (←Builtin.append_ #[sT,xT] ty args))):=fun _ _=>rfl
 have hlen:∀ w':World,(Builtin.lenOf (.string ⟨m.toArray⟩)).run C.P w'=.ok m.length w':=fun w'=>by simp[Builtin.lenOf,size_mk]
 cases ha with
 |nil=>
  by_cases hne:m=[]
  ·subst hne
   intro ρ w L h hH
   have hr:(Builtin.append_ #[sT,xT] ty #[.slice none 0 0,.string ⟨#[]⟩]).run C.P w=.ok (.slice none 0 0) w:=by
    obtain ⟨i,hi,his⟩:=ht.size
    simp[Builtin.append_,run_underlying' ht.und,run_underlying' hx2.und,sizeOf,typeInfo,hi,Builtin.lenOf,Builtin.firstCells,show (ByteArray.mk #[]).size=0 from rfl,show ((ByteArray.mk #[]).extract 0 0).data=#[] from rfl]
   rw[execOp_builtin',h0]
   simp only[List.map_toArray,zMc,List.map_nil,Sem.run_bind,atom_of h hx,atom_of h hy,hr,Result.andThen_ok,Sem.run_pure]
   exact ⟨_,[],L,Fr.refl _ _ _,hH,rep_atom,hk _ _ BRow.nil⟩
  ·intro ρ w L h hH
   have hpos:0<m.length:=List.length_pos_iff.2 hne
   obtain ⟨cap',rest,r1,r2,r3⟩:=run_append_new (ty:=ty) (P:=C.P) (w:=w) (sT:=sT) (xT:=xT) (a:=none) (len:=0) (cap:=0) (n:=m.length) (xv:=.string ⟨m.toArray⟩) (old:=[]) (new:=bytV m) (.inl hx2.und) hlen (fun w' _=>first_str m w')
    (fun w' _=>by simp[Builtin.firstCells]) (by simpa using hroom) zo
   rw[execOp_builtin',h0]
   simp only[List.map_toArray,zMc,List.map_nil,Sem.run_bind,atom_of h hx,atom_of h hy,r3,Result.andThen_ok,Sem.run_pure,List.nil_append,Nat.zero_add]
   have hcl:(bytV m++rest).length=cap':=by rw[zLa,r2,bytV_len];omega
   obtain ⟨lv,H',L',g1,g2,g3,g4⟩:=left_newB (K:=K) (el:=el) (l:=m) (xs:=bytV m++rest) hH.drew hne (by rw[hcl];omega) (by rw[List.take_left' (bytV_len m)]) (fun v' H' h'=>hk v' H' h')
   rw[hcl] at g3
   exact ⟨lv,H',L',g1.of_drew,g2,g3,g4⟩
 |row hne h1 h2=>
  rename_i b xs
  intro ρ w L h hH
  obtain ⟨hb0,hbs,hl,zs,hz1,hz2⟩:=hH.objs _ (List.mem_singleton.2 rfl)
  have hz:=repL_atoms_eq hz2
  subst hz
  simp only at hb0 hbs hl hz1
  rw[execOp_builtin',h0]
  simp only[List.map_toArray,zMc,List.map_nil,Sem.run_bind,atom_of h hx,atom_of h hy]
  by_cases hc:l.length+m.length≤zs.length
  ·have hrun:=run_append_in (ty:=ty) (P:=C.P) (w:=w) (sT:=sT) (xT:=xT) (s:=1) (a:=some ⟨b,0,none⟩) (len:=l.length) (cap:=zs.length) (n:=m.length) (xv:=.string ⟨m.toArray⟩) (new:=bytV m) (.inl hx2.und) hlen (fun w' _=>first_str m w') hc
   obtain ⟨w',r1,r2,r3,r4,r5,r6,r7⟩:=storeCells_run (P:=C.P) (b:=b) (off:=0+l.length * 1) (t:=el) (fr:=(0,0)) (bytV m) 0 w zs hz1 (by rw[bytV_len];omega) (fun j _ _=>by simp) (bytV_flat m)
   rw[hrun]
   simp only[add_mk,r1,Result.andThen_ok,Sem.run_pure]
   have hx':(zs.take (0+l.length * 1+0)++bytV m++zs.drop (0+l.length * 1+0+(bytV m).length)).length=zs.length:=by
    simp only[zLa,List.length_take,List.length_drop,bytV_len]
    omega
   have hfin:=left_write (v:=.slice (some ⟨b,0,none⟩) (l.length+m.length) zs.length) (lv:=.atom (.slice (some ⟨b,0,none⟩) (l.length+m.length) zs.length)) (K:=K) (cs':=(zs.take (0+l.length * 1+0)++bytV m++zs.drop (0+l.length * 1+0+(bytV m).length)).map .atom) hH r2 r3 r4 r5 r6 r7 (by rw[hx',zLm]) (repL_atoms _) rep_atom (by
    have hb:BRow el (.slice (some ⟨b,0,none⟩) (l++m).length (zs.take (0+l.length * 1+0)++bytV m++zs.drop (0+l.length * 1+0+(bytV m).length)).length) (l++m) _:=BRow.row (b:=b) (el:=el) (by simp[hne]) (by rw[hx',zLa];exact hc) (by
     have he:0+l.length * 1+0=l.length:=by omega
     rw[he,h2,←bytV_app,List.take_left' (bytV_len _)])
    rw[hx',zLa] at hb
    exact hk _ _ hb)
   exact hfin
  ·have hold:∀ w':World,w'.heap=w.heap→(Builtin.firstCells 1 l.length (.slice (some ⟨b,0,none⟩) l.length zs.length)).run C.P w'=.ok (bytV l).toArray w':=fun w' hw=>by
    have:=loadCellsFrom_run (P:=C.P) (w:=w') (b:=b) (off:=0) l.length 0 #[] (bytV l) (bytV_len l) (fun j x' hj=>by
     have hj':zs[j]? = some x':=by
      rw[←h2,List.getElem?_take] at hj
      split at hj
      ·exact hj
      ·cases hj
     simp[World.cell?,hw,hz1,hj'])
    simp only[Builtin.firstCells,loadCells,Nat.mul_one,this]
    simp
   obtain ⟨cap',rest,r1,r2,r3⟩:=run_append_new (ty:=ty) (P:=C.P) (w:=w) (sT:=sT) (xT:=xT) (a:=some ⟨b,0,none⟩) (len:=l.length) (cap:=zs.length) (n:=m.length) (xv:=.string ⟨m.toArray⟩) (old:=bytV l) (new:=bytV m) (.inl hx2.und) hlen (fun w' _=>first_str m w') hold hroom zo
   rw[r3]
   simp only[Result.andThen_ok,Sem.run_pure]
   have hcl:(bytV l++bytV m++rest).length=cap':=by rw[zLa,zLa,r2,bytV_len,bytV_len];omega
   have hH0:RelH C w L []:=hH.sub (List.nil_sublist _)
   obtain ⟨lv,H',L',g1,g2,g3,g4⟩:=left_newB (K:=K) (el:=el) (l:=l++m) (xs:=bytV l++bytV m++rest) hH0.drew (by simp[hne]) (by rw[hcl,zLa];omega) (by rw[←bytV_app,List.take_left' (bytV_len _)]) (fun v' H' h'=>hk v' H' h')
   rw[hcl,zLa] at g3
   exact ⟨lv,H',L',g1.of_drew.wide (by simp),g2,g3,g4⟩
theorem S.appB1 {sT xT el bytes:Nat} [ht:TSlice C.P sT el 1] [hr:TRow C.P el 1 bytes] [hx2:TStr C.P xT] {v:Value} {l m:List UInt8} {H1:Heap} {q:Nat×LObj}
  (hx:e.ev x=.atom v) (ha:BRow el v l H1) (hy:e.ev y=str m) (hroom:(l.length+m.length) * bytes≤140737488355328)
  (hk:∀ v' H',BRow el v' (l++m) H'→K (.atom v') (q::H')):LStep C ⟨dst,.call { callee:=.builtin .append,args:=#[x,y],argTypes:=#[sT,xT] },ty,pos,aft,g⟩ e (q::H1) K X:=by
 refine LStep.conseq (K:=fun lv H'=>∃ v' H2,lv=.atom v'∧H'=H2++[q]∧BRow el v' (l++m) H2) (LStep.frame (List.perm_append_singleton _ _).symm (LStep.appB hx ha hy hroom fun v' H' h=>⟨v',H',rfl,rfl,h⟩)) ?_
 rintro lv H' ⟨v',H2,rfl,rfl,h⟩
 exact ⟨_,[q]++H2,LV.Sub.refl _,⟨[],by simp⟩,hk _ _ h⟩
end
end Go.GL
namespace Go.Proofs.YtpbbgkoalnonoaaGreatDoor
open Go.GL Go.RowKit Go.Stele
def BH (b:Nat) (l:List UInt8) (H:Heap):Prop:=∃ p v Hv,(p=LV.atom (.pointer none)∨p=ptr b 0)∧BRow 5 v l Hv∧H=(b,.cells 126 [p,.atom v])::Hv
theorem lays240:Lays.n240 Tryz.prog Tryz.lays156_ren:={ Tryz.lays156 with }
section
variable {B0:Nat} {w0:World}
theorem copyCheck_spec (b:Nat) (p v:LV) (hp:p=LV.atom (.pointer none)∨p=ptr b 0):LCalls (KC B0 w0) 110 [ptr b 0] [(b,.cells 126 [p,v])]
  (fun r H'=>(∃ x,r=.ret (.atom x))∧H'=[(b,.cells 126 [ptr b 0,v])]):=fun xs w L hv hH=>by
 simp only[RepL] at hv
 obtain ⟨y,ys,rfl,hy,rfl⟩:=hv
 simp only[Rep] at hy
 subst hy
 obtain ⟨hb0,hbs,hl,zs,hx1,hx2⟩:=hH.objs _ (List.mem_singleton.2 rfl)
 simp only at hb0 hbs hl hx1 hx2
 have hz:=hx2
 simp only[RepL] at hz
 obtain ⟨a,as1,rfl,ha,c,as2,rfl,hc,rfl⟩:=hz
 rcases hp with rfl|rfl
 ·simp only[Rep] at ha
  subst ha
  have h0:w.cell? ⟨b,0,none⟩=some (.pointer none):=by simp[World.cell?,hx1]
  have hsh:w.shape? b=some (126,2):=by simp[World.shape?,hx1]
  have hfz:w.frozen? ⟨b,0,none⟩=false:=Go.Lib.frozen_of_heap hx1 0
  refine (Any.Builder_copyCheck_fresh (P:=Tryz.prog) lays240 Tryz.Builder_Extra_156.toX72 b w h0 hsh hfz).mono fun e w' he=>?_
  obtain ⟨rfl,rfl⟩:=he
  refine left_write (w:=w) (w':=w.setCell ⟨b,0,none⟩ (.pointer (some ⟨b,0,none⟩))) (xs':=[.pointer (some ⟨b,0,none⟩),c]) (cs':=[ptr b 0,v]) (lv:=.atom (.tuple #[])) hH rfl rfl rfl (by simp[World.setCell]) (fun d hd=>by simp[World.setCell,Array.getElem?_modify,Ne.symm hd]) (by rw[setCell_heap (xs:=[.pointer none,c]) hx1];rfl) rfl ?_ rep_atom ⟨⟨_,rfl⟩,rfl⟩
  simp only[RepL] at hx2 ⊢
  exact ⟨_,_,rfl,rep_atom,c,[],rfl,hc,rfl⟩
 ·simp only[Rep] at ha
  subst ha
  have h0:w.cell? ⟨b,0,none⟩=some (.pointer (some ⟨b,0,none⟩)):=by simp[World.cell?,hx1]
  refine (Any.Builder_copyCheck_used (P:=Tryz.prog) lays240 Tryz.Builder_Extra_156.toX72 b w h0).mono fun e w' he=>?_
  obtain ⟨rfl,rfl⟩:=he
  exact ⟨.atom (.tuple #[]),_,L,Fr.refl _ _ _,hH,rep_atom,⟨_,rfl⟩,rfl⟩
attribute [local irreducible] LOps LCode LStep LCalls Go.GL.Pure QThen QBlock RetPost LQ LAny LLate LLateOp
theorem writeString_spec (b:Nat) (l m:List UInt8) (H:Heap) (hB:BH b l H) (hlen:l.length+m.length≤10000000000):LCalls (KC B0 w0) 55 [ptr b 0,str m] H (fun r H'=>(∃ x,r=.ret x)∧BH b (l++m) H'):=by
 obtain ⟨p,v,Hv,hp,hacc,rfl⟩:=hB
 refine cI Tryz.func55 rfl (n:=19) rfl rfl rfl ?_
 refine gao ?_
 refine oS (S.callH (H1:=[(b,_)]) (F:=Hv) [_] rfl zpr (copyCheck_spec b p (.atom v) hp) (fun x H' h=>?_) (fun ch H' h=>?_)) rfl
 ·obtain ⟨⟨x',hx'⟩,rfl⟩:=h
  cases hx'
  refine gab ?_
  refine oS (S.appB1 (q:=(b,.cells 126 [ptr b 0,.atom v])) (l:=l) (m:=m) rfl hacc rfl zo fun v' H' hacc'=>?_) rfl
  refine gaa ?_
  have hacc2:=hacc'
  generalize l++m=lm at hacc' hacc2 ⊢
  cases hacc' with
  |nil=>
   refine gac ?_
   exact rR rfl (rC (zrt rfl) (zra rfl)) zhr ⟨⟨_,rfl⟩,ptr b 0,_,_,.inr rfl,hacc2,rfl⟩
  |row h0 h1 h2=>
   refine gac ?_
   exact rR rfl (rC (zrt rfl) (zra rfl)) zhr ⟨⟨_,rfl⟩,ptr b 0,_,_,.inr rfl,hacc2,rfl⟩
 ·obtain ⟨⟨x',hx'⟩,_⟩:=h
  cases hx'
end
end Go.Proofs.YtpbbgkoalnonoaaGreatDoor
