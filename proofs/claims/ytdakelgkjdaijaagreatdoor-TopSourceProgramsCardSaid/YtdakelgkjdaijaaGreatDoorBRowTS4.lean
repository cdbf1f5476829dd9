/- Texts joined: GlMap, ParP5, ParP6, GlRange, ParP7, GlPair, ParTok, ParNodes, REq0, FmtSpec, Fmt10. -/
import Derived.RangeFuncFrom
import Derived.RangeFuncLeaves
import Derived.TacticsIn
import Derived.DeepKeys
import Derived.Lib.Join
import Derived.Test.YtdakelgkjdaijaaGreatDoorBRowTS2
import Derived.Test.YtdakelgkjdaijaaGreatDoorBRowTS3
set_option linter.unusedVariables false
set_option linter.unusedSimpArgs false
set_option maxRecDepth 100000
set_option maxHeartbeats 4000000
namespace Go.GL
open Go.RowKit
def qfz:Obj->Bool
 |.cells _ _ _=>false
 |_=>true
theorem qdP {w:World} {b:Nat} {o:Obj} (h:w.heap[b]? = some o) (ho:qfz o=true):w.shape? b=none:=by
 simp only[World.shape?,h];cases o <;> simp_all [qfz]
section
variable {C:Ctx} {e:Env} {H:Heap} {dst:Option Nat} {ty:TypeId} {pos:String} {aft:Array Edge} {g:Option (Nat×Bool)} {K:LV->Heap->Prop} {X:List PanicEntry->Heap->Prop} {x y:Operand}
theorem qiR {w:World} {L:Live} (hH:RelH C w L []) {o:Obj} (ho:qfz o=true) {v:Value} (hk:K (.atom v) [(w.heap.size,.obj o)]):Left C w L [] (World.push w o) v K:=by
 have:=qem hH o 0 [(w.heap.size,.obj o)] (fun p hp=>by
  simp only[List.mem_singleton] at hp;subst hp
  exact ⟨rfl,by simp[Live.upd],qaI,qdP qaI ho⟩) (by simp)
 exact ⟨_,_,_,this.1,this.2,qah,hk⟩
theorem qgI {w w':World} {L:Live} {b:Nat} {o o':Obj} (hH:RelH C w L [(b,.obj o)]) (ho':qfz o'=true) (h1:w'.os=w.os) (h2:w'.tape=w.tape) (h3:w'.output=w.output)
  (h4:w'.heap.size=w.heap.size) (h5:∀ c,c≠b->w'.heap[c]? = w.heap[c]?) (h6:w'.heap[b]? = some o') {v:Value} {lv:LV} (hv:∀ L,Rep w' L lv v) (hk:K lv [(b,.obj o')]):Left C w L [(b,.obj o)] w' v K:=by
 obtain ⟨hb0,hbs,hl,hx1,hx2⟩:=hH.objs _ (List.mem_singleton.2 rfl);simp only at hb0 hbs hl hx1 hx2
 have hx:Ext w L w' L:=by
  refine ⟨by rw[h4];exact zNr _,fun c hc=>?_,fun c i hi=>?_,fun _=>zNr _⟩
  ·by_cases he:c=b
   ·subst he;rw[hx2];exact qdP h6 ho'
   ·exact qbF (h5 c he)
  ·by_cases he:c=b
   ·subst he;rw[hl] at hi;omega
   ·exact cell_of_heap (h5 c he) i
 refine ⟨lv,[(b,.obj o')],L,⟨h1,h2,h3,hx,fun c hc hn=>h5 c (by simpa using hn),fun _ _ _=>rfl,fun p hp=>.inl (by simp only[List.mem_singleton] at hp;subst hp;simp)⟩,
  ⟨?_,hH.lbase,by rw[h4];exact hH.b0,by rw[h4];exact hH.wf,by simp,fun p hp=>?_⟩,hv L,hk⟩
 ·exact hH.base.trans ⟨h1,h2,h3,by rw[h4];exact zNr _,fun c hc=>h5 c zo⟩
 ·simp only[List.mem_singleton] at hp;subst hp;exact ⟨hb0,by rw[h4];exact hbs,hl,h6,qdP h6 ho'⟩
theorem S.makeMap {t:TypeId} (hk:∀ b,K (.atom (.map (some b))) ((b,.obj (.map #[] 0))::H)):qad C ⟨dst,.makeMap t none,ty,pos,aft,g⟩ e H K X:=by
 refine qad.at0 fun ρ w L _ hH=>?_;have h3:execOp ρ ⟨dst,.makeMap t none,ty,pos,aft,g⟩=(do Pure.pure (.value (<-Instr.makeMap t none))):=rfl;have h4:(Instr.makeMap t none).run C.P w=.ok (.map (some w.heap.size)) (World.push w (.map #[] 0)):=rfl;rw[h3,Sem.run_bind,h4];exact qiR hH rfl (hk _)
def setW (w:World) (b:Nat) (o:Obj):World:={ w with heap:=w.heap.setIfInBounds b o }
theorem qdR {w:World} {b c:Nat} {o:Obj} (h:c≠b):(setW w b o).heap[c]? = w.heap[c]? := by
 simp only[setW,Array.getElem?_setIfInBounds];rw[if_neg (Ne.symm h)]
theorem qeu {w:World} {b:Nat} {o:Obj} (h:b<w.heap.size):(setW w b o).heap[b]? = some o:=by
 simp only[setW,Array.getElem?_setIfInBounds];simp[h]
theorem qez {P:Program} {w:World} {b:Nat} {o o':Obj} (h:w.heap[b]? = some o) (ho:qfz o=true):(setObj b o').run P w=.ok () (setW w b o'):=by
 simp only[setObj,Sem.run,h];cases o <;> first|rfl|(simp[qfz] at ho)
theorem qgi (k:ByteArray):∀ (es:List MapEntry) (i:Nat),(∀ e∈es,∃ s,e.key=.string s/\¬ (k == s)=true)->Instr.findNow .string (.string k) es i=some none
 |[],_,_=>rfl
 |e::es,i,h=>by
  obtain ⟨s,hs,hne⟩:=h e List.mem_cons_self;have hne':(k == s)=false:=by simpa using hne
  simp only[Instr.findNow,hs,Instr.sameNow,hne'];exact qgi k es (i+1) (fun e he=>h e (zMo _ he))
theorem S.insert {t kt el:TypeId} (ht:C.P.underlying t=some (.map kt el)) (hkt:C.P.underlying kt=some .string) {b clock:Nat} {es:Array MapEntry} {F:Heap} {m z:Operand} {k:ByteArray} {v:Value} (hm:e.ev m=.atom (.map (some b))) (hx:e.ev x=.atom (.string k)) (hz:e.ev z=.atom v)
  (hp:Pick (b,.obj (.map es clock)) H F) (hnew:∀ e∈es.toList,∃ s,e.key=.string s/\¬ (k == s)=true) (hk:K (.atom undef) ((b,.obj (.map (es.push { key:=.string k,val:=v,born:=clock }) (clock+1)))::F)):qad C ⟨dst,.insert t m x z,ty,pos,aft,g⟩ e H K X:=by
 refine qad.at1 hp fun ρ w L h hH=>?_;obtain ⟨hb0,hbs,hl,hx1,hx2⟩:=hH.objs _ (List.mem_singleton.2 rfl);simp only at hb0 hbs hl hx1 hx2;have h3:execOp ρ ⟨dst,.insert t m x z,ty,pos,aft,g⟩=(do Instr.mapUpdate t (ρ m) (ρ x) (ρ z);Pure.pure .skip):=rfl
 have hf:(Instr.findKey kt (.string k) es.toList).run C.P w=.ok none w:=by
  simp only[Instr.findKey,Sem.run_bind,qaa hkt,Result.andThen_ok,qgi k es.toList 0 hnew,Sem.run_pure]
 have hc:(Instr.checkKey false 10000 kt (.string k)).run C.P w=.ok () w:=by
  have hck:Instr.checkKey false 10000 kt (.string k)=Instr.checkKey false (9999+1) kt (.string k):=rfl;rw[hck,Instr.checkKey];simp only[Sem.run_bind,qaa hkt,Result.andThen_ok,Sem.run_pure]
 have hg:(getObj b).run C.P w=.ok (.map es clock) w:=by simp only[getObj,Sem.run,hx1]
 rw[h3,qag h hm,qag h hx,qag h hz];simp only[Instr.mapUpdate,Sem.run_bind,qaa ht,Result.andThen_ok,hg,hc,hf];have hs:(setObj b (.map (es.push { key:=.string k,val:=v,born:=clock }) (clock+1))).run C.P w=.ok () (setW w b (.map (es.push { key:=.string k,val:=v,born:=clock }) (clock+1))):=qez hx1 rfl;rw[hs];exact qgI (w':=setW w b (.map (es.push { key:=.string k,val:=v,born:=clock }) (clock+1))) hH rfl rfl rfl rfl (by simp[setW]) (fun c hc=>qdR hc) (qeu hbs) (fun _=>qah) hk
theorem S.range {t kt el:TypeId} (ht:C.P.underlying t=some (.map kt el)) {b clock:Nat} {es:Array MapEntry} (hx:e.ev x=.atom (.map (some b))) (hm:(b,.obj (.map es clock))∈H)
  (hk:∀ r,K (ptr r 0) ((r,.obj (.mapIter (some b) clock #[] clock))::H)):qad C ⟨dst,.range t x,ty,pos,aft,g⟩ e H K X:=by
 obtain ⟨F,hF⟩:∃ F,H.Perm ((b,.obj (.map es clock))::F):=by
  obtain ⟨l1,l2,rfl⟩:=List.append_of_mem hm;exact ⟨l1++l2,List.perm_middle⟩
 have main:∀ X,qad C ⟨dst,.range t x,ty,pos,aft,g⟩ e [(b,.obj (.map es clock))] (fun lv H'=>∃ r,lv=ptr r 0/\H'=[(r,.obj (.mapIter (some b) clock #[] clock)),(b,.obj (.map es clock))]) X:=fun X ρ w L h hH=>by
  obtain ⟨hb0,hbs,hl,hx1,hx2⟩:=hH.objs _ (List.mem_singleton.2 rfl);simp only at hb0 hbs hl hx1 hx2;have h3:execOp ρ ⟨dst,.range t x,ty,pos,aft,g⟩=(do Pure.pure (.value (<-Instr.range t (ρ x)))):=rfl;have hg:(getObj b).run C.P w=.ok (.map es clock) w:=by simp only[getObj,Sem.run,hx1]
  have hn:∀ o,(newObj o).run C.P w=.ok w.heap.size (World.push w o):=fun _=>rfl;rw[h3,qag h hx];simp only[Instr.range,Sem.run_bind,qaa ht,Result.andThen_ok,hg,Sem.run_pure,hn];have:=Left.frame (F:=[(b,.obj (.map es clock))]) (K:=fun lv H'=>∃ r,lv=ptr r 0/\H'=[(r,.obj (.mapIter (some b) clock #[] clock)),(b,.obj (.map es clock))]) (v:=.pointer (some ⟨w.heap.size,0,none⟩)) (by simpa using hH) (qiR (w:=w) (L:=L) (hH.sub (List.nil_sublist _)) (o:=.mapIter (some b) clock #[] clock) rfl ⟨w.heap.size,rfl,rfl⟩);show Left C w L _ _ _ _;simpa using this
 refine qad.conseq (qad.frame (H:=[(b,.obj (.map es clock))]) (F:=F) hF (K:=fun lv H'=>∃ r,lv=ptr r 0/\H'=[(r,.obj (.mapIter (some b) clock #[] clock)),(b,.obj (.map es clock))]++F) ?_) ?_
 ·exact qad.conseq (main _) (fun lv H' ⟨r,h1,h2⟩=>⟨lv,H',vR _,zhR _,r,h1,by rw[h2]⟩)
 ·rintro lv H' ⟨r,rfl,rfl⟩;exact ⟨ptr r 0,_,vR _,⟨[],by simpa using hF.symm⟩,hk r⟩
theorem S.next {r b since last clock:Nat} {seen:Array Nat} {es:Array MapEntry} {F:Heap} (hx:e.ev x=ptr r 0) (hp:H.Perm ((r,.obj (.mapIter (some b) since seen last))::(b,.obj (.map es clock))::F))
  (hold:∀ e∈es.toList,e.born<since/\e.born<last)
  (hover:es.filter (fun e=>!seen.contains e.born)=#[]->K (.tuple [bool false]) ((r,.obj (.mapIter (some b) since seen last))::(b,.obj (.map es clock))::F))
  (hstep:∀ e∈(es.filter (fun e=>!seen.contains e.born)).toList,K (.tuple [bool true,.atom e.key,.atom e.val]) ((r,.obj (.mapIter (some b) since (seen.push e.born) clock))::(b,.obj (.map es clock))::F)) :
  qad C ⟨dst,.next x false,ty,pos,aft,g⟩ e H K X:=by
 refine qad.frame (H:=[(r,.obj (.mapIter (some b) since seen last)),(b,.obj (.map es clock))]) (F:=F) hp fun ρ w L h hH=>?_;have hr:=hH.objs (r,.obj (.mapIter (some b) since seen last)) zm0;have hb:=hH.objs (b,.obj (.map es clock)) zm1;obtain ⟨_,hrs,_,hr1,_⟩:=hr;obtain ⟨_,hbs,_,hb1,_⟩:=hb;simp only at hrs hr1 hbs hb1;have h3:execOp ρ ⟨dst,.next x false,ty,pos,aft,g⟩=(do Pure.pure (.value (<-Instr.next (ρ x) false ty))):=rfl;have hg1:(getObj r).run C.P w=.ok (.mapIter (some b) since seen last) w:=by simp only[getObj,Sem.run,hr1]
 have hg2:(getObj b).run C.P w=.ok (.map es clock) w:=by simp only[getObj,Sem.run,hb1]
 have htest:(!seen.isEmpty && !es.isEmpty && es.all (fun e=>decide (e.born ≥ last)))=false:=by
  rw[Bool.eq_false_iff];intro hall;simp only[zBa] at hall;obtain ⟨⟨_,h1⟩,h2⟩:=hall
  have hne:0<es.size:=by
   rcases Nat.eq_zero_or_pos es.size with h0|h0
   ·have:es=#[]:=Array.eq_empty_of_size_eq_zero h0;subst this;simp at h1
   ·exact h0
  have h3:=(Array.all_eq_true.1 h2) 0 hne;have h4:=(hold es[0] (by simp)).2;simp at h3;omega
 rw[h3,qag h hx];simp only[Instr.next,Sem.run_bind,Result.andThen_ok,hg1,hg2,htest,Bool.false_eq_true,if_false];generalize hL:es.filter (fun e=>!seen.contains e.born)=left at hover hstep ⊢
 have hmem:∀ x∈left.toList,x.born<since:=fun x hx=>by
  subst hL;simp at hx;exact (hold x (by simpa using hx.1)).1
 have e1:left.filter (fun x=>decide (x.born<since))=left:=Array.filter_eq_self.2 (fun x hx=>by simpa using hmem x (by simpa using hx))
 have e2:left.filter (fun x=>decide (x.born ≥ since))=#[]:=by
  rw[Array.filter_eq_empty_iff];intro x hx;have:=hmem x (by simpa using hx)
  simp
  omega
 simp only[e1,e2,Array.append_empty]
 by_cases h0:left.size=0
 ·have:left=#[]:=Array.eq_empty_of_size_eq_zero h0;subst this;have hch:(choose (.mapNext 1)).run C.P w=.ok 0 w:=by simp[choose,Sem.run,Question.forced]
  simp only[Array.isEmpty_empty,if_true,Array.map_empty,Array.append_empty,List.size_toArray,List.length_singleton,hch,Sem.run_bind,Result.andThen_ok,Sem.run_pure];exact ⟨.tuple [bool false],_,L,Fr.refl _ _ _,hH,by simp only[Rep];exact ⟨[.bool false],rfl,by simp only[RepL,Rep];exact ⟨_,_,rfl,rfl,rfl⟩⟩,hover rfl⟩
 ·have hne:left.isEmpty=false:=by simp[Array.isEmpty,h0]
  simp only[hne,Bool.false_eq_true,if_false,Array.empty_append,Array.size_map]
  obtain ⟨j,w1,hj,hw1,hrun⟩:∃ (j:Nat) (w1:World),j<left.size/\(w1=w∨w1=w.drew)/\(choose (Question.mapNext left.size)).run C.P w=.ok j w1:=by
   by_cases hf:left.size<=1
   ·exact ⟨0,w,by omega,.inl rfl,by simp[choose,Sem.run,Question.forced,hf]⟩
   ·exact ⟨_,w.drew,Nat.mod_lt _ zo,.inr rfl,by
     simp only[choose,Sem.run,Question.forced,zDe,hf,if_false,Question.cut]
     rfl⟩
  have hr1':w1.heap[r]? = some (.mapIter (some b) since seen last):=by rcases hw1 with rfl|rfl <;> exact hr1
  have hsz:w1.heap.size=w.heap.size:=by rcases hw1 with rfl|rfl <;> rfl
  have hheap:w1.heap=w.heap:=by rcases hw1 with rfl|rfl <;> rfl
  simp only[hrun,Array.getElem?_map,Array.getElem?_eq_getElem hj,Option.map_some,Sem.run_bind,Result.andThen_ok,qez hr1' rfl,Sem.run_pure]
  have hl:Left C w L [(r,.obj (.mapIter (some b) since seen last))] (setW w1 r (.mapIter (some b) since (seen.push left[j].born) clock)) (.tuple #[.bool true,left[j].key,left[j].val]) (fun lv H'=>K lv (H'++[(b,.obj (.map es clock))]++F)):=
   qgI (lv:=.tuple [bool true,.atom left[j].key,.atom left[j].val]) (RelH.left (F:=[(b,.obj (.map es clock))]) hH) rfl (by rcases hw1 with rfl|rfl <;> rfl) (by rcases hw1 with rfl|rfl <;> rfl) (by rcases hw1 with rfl|rfl <;> rfl) (by simp[setW,hsz]) (fun c hc=>by rw[qdR hc,hheap]) (qeu zo)
    (fun _=>by simp only[Rep];exact ⟨[.bool true,left[j].key,left[j].val],rfl,by simp only[RepL,Rep];exact ⟨_,_,rfl,rfl,_,_,rfl,rfl,_,_,rfl,rfl,rfl⟩⟩) (hstep left[j] (by simp))
  exact Left.frame (F:=[(b,.obj (.map es clock))]) (K:=fun lv H'=>K lv (H'++F)) hH hl
theorem Pure.entry {r b since last clock stamp:Nat} {seen:Array Nat} {es:Array MapEntry} {en:MapEntry} (hx:e.ev x=ptr r 0) (hi:(r,LObj.obj (.mapIter (some b) since seen last))∈H) (hm:(b,LObj.obj (.map es clock))∈H)
  (hl:clock=last) (hb:seen.back? = some stamp) (hf:es.find? (·.born == stamp)=some en):Pure C ⟨dst,.entry x,ty,pos,aft,g⟩ e H (.tuple [.atom en.key,.atom en.val]):=fun ρ w L h hH=>by
 refine ⟨.tuple #[en.key,en.val],by simp only[Rep];exact ⟨[en.key,en.val],rfl,by simp only[RepL,Rep];exact ⟨_,_,rfl,rfl,_,_,rfl,rfl,rfl⟩⟩,fun w' ha=>?_⟩;have h1:w'.heap[r]? = some (.mapIter (some b) since seen last):=(ha.1 _ hi).trans (hH.objs _ hi).2.2.2.1;have h2:w'.heap[b]? = some (.map es clock):=(ha.1 _ hm).trans (hH.objs _ hm).2.2.2.1;have h3:execOp ρ ⟨dst,.entry x,ty,pos,aft,g⟩=(do Pure.pure (.value (<-Instr.entry (ρ x)))):=rfl;have hg1:(getObj r).run C.P w'=.ok (.mapIter (some b) since seen last) w':=by simp only[getObj,Sem.run,h1]
 have hg2:(getObj b).run C.P w'=.ok (.map es clock) w':=by simp only[getObj,Sem.run,h2]
 have hne:(clock != last)=false:=by rw[hl];simp
 rw[h3,qag h hx];simp only[Instr.entry,Sem.run_bind,Result.andThen_ok,hg1,hb,hg2,hne,Bool.false_eq_true,if_false,Sem.run_pure,hf]
theorem lH {n:Nat} {ops:Array Oper} {Q:Post} {HF:Heap} {fuel:Nat} {listed:Array Bool} {i:Nat} {op:Op} {lv:LV} (hi:ops[i]? = some ⟨dst,op,ty,pos,aft,none⟩) (hd:qcK n dst)
  (hp:Pure C ⟨dst,op,ty,pos,aft,none⟩ e H lv) (k:qaE C n ops Q HF fuel (listed.setIfInBounds i true) (e.put dst lv) H):qal C n ops Q HF fuel listed e H i:=fun w0 L0 a w L hL hA hsz hE hH=>by
 obtain ⟨v,hv,hrun⟩:=hp a.eval w L hE.ev hH;unfold wpOp;rw[hi];simp only;rw[if_pos (by simp[Region.wanted])];refine .inl ?_;unfold Oper.wp;rw[hrun w (qeN.refl _ _ _)];exact ⟨hA,k w0 L0 _ w L hL hA hsz (hE.put hd hv) hH⟩
end
end Go.GL
namespace Go.Proofs.YtdakelgkjdaijaaGreatDoor
open Go.GL Go.RowKit Go.Stele
attribute [local irreducible] LOps qae qad LCalls Go.GL.Pure qax qaj qac LQ LAny qaE qal
def e45:MapEntry:={ key:=.string ⟨#[45]⟩,val:=.string ⟨#[110,101,103]⟩,born:=0 }
def e33:MapEntry:={ key:=.string ⟨#[33]⟩,val:=.string ⟨#[110,111,116]⟩,born:=1 }
section
variable {B0:Nat} {w0:World}
def qwa (B0:Nat) (w0:World) (sb:Nat) (T:List Tok) (f:Nat):Prop:=
 ∀ i op r,i<=T.length->op<=100->qa0 T f i op=some r->LCalls (KC B0 w0) 232 [ptr sb 0] [srcH sb T i op] (qdp sb T encE r)
def qmr (T:List Tok) (i:Nat) (seen:Array Nat):Prop:=
 seen=#[]∨(seen=#[0]/\qaK T i [[45]]=false)∨(seen=#[1]/\qaK T i [[33]]=false)∨((seen=#[0,1]∨seen=#[1,0])/\qaK T i [[45]]=false/\qaK T i [[33]]=false)
theorem qsC {T:List Tok} {i:Nat} {seen:Array Nat} (h:qmr T i seen) (ho:#[e45,e33].filter (fun e=>!seen.contains e.born)=#[]):qaK T i [[45]]=false/\qaK T i [[33]]=false:=by
 have h1:=Array.filter_eq_empty_iff.1 ho e45 (by simp);have h2:=Array.filter_eq_empty_iff.1 ho e33 (by simp);rcases h with rfl|⟨rfl,_⟩|⟨rfl,_⟩|⟨_,h3,h4⟩
 ·simp[e45] at h1
 ·simp[e33] at h2
 ·simp[e45] at h1
 ·exact ⟨h3,h4⟩
theorem qro {T:List Tok} {i:Nat} {seen:Array Nat} {e:MapEntry} (h:qmr T i seen) (he:e∈(#[e45,e33].filter (fun e=>!seen.contains e.born)).toList) :
  seen.size<2/\((e=e45/\(qaK T i [[45]]=false->qmr T i (seen.push 0)))∨(e=e33/\(qaK T i [[33]]=false->qmr T i (seen.push 1)))):=by
 have he':=Array.mem_filter.1 (Array.mem_toList_iff.1 he);have hor:e=e45∨e=e33:=by simpa using he'.1
 have hno:=he'.2;rcases h with rfl|⟨rfl,h1⟩|⟨rfl,h1⟩|⟨rfl|rfl,_,_⟩
 ·rcases hor with rfl|rfl
  ·exact ⟨by decide,.inl ⟨rfl,fun h=>.inr (.inl ⟨rfl,h⟩)⟩⟩
  ·exact ⟨by decide,.inr ⟨rfl,fun h=>.inr (.inr (.inl ⟨rfl,h⟩))⟩⟩
 ·rcases hor with rfl|rfl
  ·simp[e45] at hno
  ·exact ⟨by decide,.inr ⟨rfl,fun h=>.inr (.inr (.inr ⟨.inl rfl,h1,h⟩))⟩⟩
 ·rcases hor with rfl|rfl
  ·exact ⟨by decide,.inl ⟨rfl,fun h=>.inr (.inr (.inr ⟨.inr rfl,h,h1⟩))⟩⟩
  ·simp[e33] at hno
 ·rcases hor with rfl|rfl
  ·simp[e45] at hno
  ·simp[e33] at hno
 ·rcases hor with rfl|rfl
  ·simp[e45] at hno
  ·simp[e33] at hno
theorem qp0 {T:List Tok} {i:Nat} (h:qaK T i [[33]]=true):qaK T i [[45]]=false:=by
 unfold qaK at h ⊢;split at h
 ·rename_i t ht
  simp only[zBa] at h;have h2:t.text=[33]:=by simpa using h.2
  rw[h2]
  simp
 ·cases h
theorem qp2 (hG:GW B0 w0) (sb:Nat) (T:List Tok) (hT:TOK T):∀ f:Nat,(∀ g,g<f->qkF B0 w0 sb T g)->qwa B0 w0 sb T f:=by
 intro f
 induction f with
 |zero=>intro _ i op r _ _ hr;rw[qa0] at hr;cases hr
 |succ f ih=>
  intro hE i op r hi ho hr;have hl:=hT.len;rw[qa0] at hr;refine cI Tryz.func232 rfl (n:=36) rfl rfl rfl ?_;refine gah ?_;refine oS (sA fun b=>?_) rfl;refine gaj ?_;refine oS (S.makeMap fun mb=>?_) rfl;refine oS (S.insert (k:=⟨#[45]⟩) (v:=.string ⟨#[110,101,103]⟩) (kt:=9) (el:=9) zk zk rfl rfl rfl pH (by simp) ?_) rfl;refine oS (S.insert (k:=⟨#[33]⟩) (v:=.string ⟨#[110,111,116]⟩) (kt:=9) (el:=9) zk zk rfl rfl rfl pH (fun e he=>⟨⟨#[45]⟩,by simp at he;rw[he],by decide⟩) ?_) rfl;refine oP (pM (lv:=.atom _) rfl) rfl ?_;refine oS (S.range (kt:=9) (el:=9) zk rfl zm0 fun rb=>?_) rfl;refine gab ?_
  refine oL (fun k ls H=>∃ seen:Array Nat,k=2-seen.size/\ls=[(0,ptr sb 0),(2,ptr b 0),(8,ptr rb 0)]/\H=[(rb,.obj (.mapIter (some mb) 2 seen 2)),(mb,.obj (.map #[e45,e33] 2)),(b,.cells 193 [str [],int .u32 0,str [],qab]),srcH sb T i op]/\qmr T i seen)
   ⟨_,_,_,⟨#[],rfl,rfl,rfl,.inl rfl⟩,⟨rfl,rfl,rfl,trivial⟩,zhR _⟩ ?_
  rintro k ls H ⟨seen,rfl,rfl,rfl,hS⟩ j hj;refine gah ?_;refine oS (S.next (F:=[(b,.cells 193 [str [],int .u32 0,str [],qab]),srcH sb T i op]) rfl zpr zDd (fun hov=>?_) (fun en hen=>?_)) rfl
  ·obtain ⟨hn1,hn2⟩:=qsC hS hov;rw[if_neg (by rw[hn1];decide),if_neg (by rw[hn2];decide)] at hr;refine gab ?_;refine oC rfl (fun hcc=>?_) (fun hcc=>?_)
   ·cases hcc
   ·refine gaa ?_;refine oS (sP [_] rfl zp3 (qqI hG sb T hT f (fun g hg=>hE g zo) i op r hi ho hr) (fun v i1 op1 h1=>?_) (fun l er i1 op1 h1 e' he'=>?_)) rfl
    ·refine gad ?_;exact retP (v:=v) hj (rC (rA rfl zm0 rfl zsr) rN) h1 rfl (zhP zp1 zhn)
    ·refine gak ?_;exact panP (he'.trans hj) h1 zhp
  ·obtain ⟨hsz,⟨rfl,hnext⟩|⟨rfl,hnext⟩⟩:=qro hS hen
   ·refine gab ?_;refine oC rfl (fun hcc=>?_) (fun hcc=>?_)
    ·refine gam ?_;refine oP (Pure.entry (en:=e45) (stamp:=0) rfl zm0 zm1 rfl (by show (seen.push 0).back? = _;simp) rfl) rfl ?_;refine gau ?_;refine zQ2 ?_;refine oS (sH [_,_] rfl zp3 (qce sb T i op [[45]] hl zo (by simp)) ?_) rfl;refine gaf ?_;refine oC rfl (fun hc=>?_) (fun hc=>?_)
     ·rw[if_pos hc] at hr;refine gag ?_;refine oS (sP [_,_] rfl pH (qck sb T i op [45] hl zo zo) (fun v i1 op1 h1=>?_) (fun l er i1 op1 h1 e' he'=>?_)) rfl
      ·rw[h1,qao] at hr;obtain ⟨rfl,rfl,ho1,hi1⟩:=qbb h1;refine gap ?_;obtain ⟨r1,hr1⟩:=qaR hr;refine oS (sP [_] rfl pH (ih (fun g hg=>hE g zo) _ _ r1 zo zo hr1) (fun e2 i2 op2 h2=>?_) (fun l er i2 op2 h2 e' he'=>?_)) rfl
       ·rw[hr1,h2,qao] at hr;obtain ⟨g1,_,g3,rfl⟩:=(qcM T f).2.2.1 _ _ _ (hr1.trans (congrArg some h2));have g4:=g3 zo;refine zQ2 ?_;refine gad ?_;refine oS (sA fun b2=>?_) rfl;refine gac ?_
        exact retP (v:=.mk nNeg 0 [] [e2]) hj (rC (rA rfl zm0 rfl zsr) rN) (by cases hr;rfl) (by rw[qcx];rfl) (by
         rw[show (((op+1:Nat):Int)-1)=((op+1-1:Nat):Int) by omega]
         exact zhP zp1 zhn)
       ·exact zT26
      ·rw[h1,qat] at hr;refine gae ?_;exact panP (he'.trans hj) (by cases hr;rfl) zhp
     ·refine gab ?_;exact ⟨_,_,_,by have:=hsz;simp;omega,⟨seen.push 0,rfl,rfl,rfl,hnext hc⟩,⟨rfl,rfl,rfl,trivial⟩,zhP zp1 (zhP zp1 (zhP zp1 zhp)),hj⟩
    ·cases hcc
   ·refine gab ?_;refine oC rfl (fun hcc=>?_) (fun hcc=>?_)
    ·refine gam ?_;refine oP (Pure.entry (en:=e33) (stamp:=1) rfl zm0 zm1 rfl (by show (seen.push 1).back? = _;simp) rfl) rfl ?_;refine gau ?_;refine zQ2 ?_;refine oS (sH [_,_] rfl zp3 (qce sb T i op [[33]] hl zo (by simp)) ?_) rfl;refine gaf ?_;refine oC rfl (fun hc=>?_) (fun hc=>?_)
     ·rw[if_neg (by rw[qp0 hc];decide),if_pos hc] at hr;refine gag ?_;refine oS (sP [_,_] rfl pH (qck sb T i op [33] hl zo zo) (fun v i1 op1 h1=>?_) (fun l er i1 op1 h1 e' he'=>?_)) rfl
      ·rw[h1,qao] at hr;obtain ⟨rfl,rfl,ho1,hi1⟩:=qbb h1;refine gap ?_;obtain ⟨r1,hr1⟩:=qaR hr;refine oS (sP [_] rfl pH (ih (fun g hg=>hE g zo) _ _ r1 zo zo hr1) (fun e2 i2 op2 h2=>?_) (fun l er i2 op2 h2 e' he'=>?_)) rfl
       ·rw[hr1,h2,qao] at hr;obtain ⟨g1,_,g3,rfl⟩:=(qcM T f).2.2.1 _ _ _ (hr1.trans (congrArg some h2));have g4:=g3 zo;refine zQ2 ?_;refine gad ?_;refine oS (sA fun b2=>?_) rfl;refine gac ?_
        exact retP (v:=.mk nNot 0 [] [e2]) hj (rC (rA rfl zm0 rfl zsr) rN) (by cases hr;rfl) (by rw[qcx];rfl) (by
         rw[show (((op+1:Nat):Int)-1)=((op+1-1:Nat):Int) by omega]
         exact zhP zp1 zhn)
       ·exact zT26
      ·rw[h1,qat] at hr;refine gae ?_;exact panP (he'.trans hj) (by cases hr;rfl) zhp
     ·refine gab ?_;exact ⟨_,_,_,by have:=hsz;simp;omega,⟨seen.push 1,rfl,rfl,rfl,hnext hc⟩,⟨rfl,rfl,rfl,trivial⟩,zhP zp1 (zhP zp1 (zhP zp1 zhp)),hj⟩
    ·cases hcc
end
end Go.Proofs.YtdakelgkjdaijaaGreatDoor
namespace Go.Proofs.YtdakelgkjdaijaaGreatDoor
open Go.GL Go.RowKit Go.Stele
inductive Clo (sb:Nat):Nat->FuncId->Array Value->Array Value->Heap->Prop
 |un:Clo sb 6 232 #[.pointer (some ⟨sb,0,none⟩)] #[] []
 |bin {k bo bs bp bn:Nat} {f:FuncId} {first caps:Array Value} {H:Heap} (h:Clo sb (k+1) f first caps H):Clo sb k 249 #[] #[.pointer (some ⟨bo,0,none⟩),.pointer (some ⟨bs,0,none⟩),.pointer (some ⟨bp,0,none⟩),.pointer (some ⟨bn,0,none⟩)]
   ((bo,.cells 250 [.atom (.func (.func f) first caps)])::(bs,.cells 63 [ptr sb 0])::(bp,.cells 24 [.list ((qaZ k).map str)])::(bn,.cells 4 [bool (decide ((k:Int)=2))])::H)
def qvi {A:Type} (sb:Nat) (T:List Tok) (enc:A->LV) (Hc:Heap) (res:Res A) (r:LRes) (H:Heap):Prop:=match res with
 |.ok v i op=>r=.ret (enc v)/\H=srcH sb T i op::Hc
 |.err l e=>r=.panic (pan l e)/\∃ i op:Nat,H=srcH sb T i op::Hc
def CloC (B0:Nat) (w0:World) (sb:Nat) (T:List Tok) (f:Nat):Prop:=
 ∀ k fn first caps Hc i op r,Clo sb k fn first caps Hc->i<=T.length->op<=100->eLev T f k i op=some r ->
  LCalls (KC B0 w0) fn (first.toList.map .atom++caps.toList.map .atom) (srcH sb T i op::Hc) (qvi sb T encE Hc r)
section steps
variable {C:Ctx} {e:Env} {H:Heap} {dst:Option Nat} {ty:TypeId} {pos:String} {aft:Array Edge} {g:Option (Nat×Bool)} {K:LV->Heap->Prop} {X:List PanicEntry->Heap->Prop}
theorem qwu (a b:List LV) {e:Env}:a++([]:List Operand).map e.ev++b=a++b:=by simp
theorem S.callClo {A:Type} {enc:A->LV} {res:Res A} {sb i op:Nat} {T:List Tok} {fo:Operand} {f:FuncId} [TEnter C.P f] {first caps:Array Value} {ats:Array TypeId} {Hc F:Heap} (hf:e.ev fo=.atom (.func (.func f) first caps)) (hp:Pick (srcH sb T i op) H (F++Hc))
  (hc:LCalls C f (first.toList.map .atom++caps.toList.map .atom) (srcH sb T i op::Hc) (qvi sb T enc Hc res)) (hk:∀ v i' op',res=.ok v i' op'->K (enc v) (srcH sb T i' op'::(F++Hc))) (hx:∀ l er i' op',res=.err l er->X (pan l er) (srcH sb T i' op'::Hc++F)) :
  qad C ⟨dst,.call { callee:=.value fo,args:=#[],argTypes:=ats },ty,pos,aft,g⟩ e H K X:=by
 have hp':H.Perm ((srcH sb T i op::Hc)++F):=hp.trans (List.Perm.cons _ zPc);refine qad.conseq (K:=fun v H'=>∃ u i' op',res=.ok u i' op'/\v=enc u/\H'=srcH sb T i' op'::Hc++F) (S.callV (H1:=srcH sb T i op::Hc) (F:=F) [] hf (qwu _ _) hp' hc ?_ ?_) ?_
 ·intro v H' h
  cases hr:res with
  |ok u i' op'=>rw[hr] at h;obtain ⟨h1,rfl⟩:=h;cases h1;exact ⟨u,i',op',rfl,rfl,rfl⟩
  |err l er=>rw[hr] at h;obtain ⟨h1,_⟩:=h;cases h1
 ·intro ch H' h
  cases hr:res with
  |ok u i' op'=>rw[hr] at h;obtain ⟨h1,_⟩:=h;cases h1
  |err l er=>rw[hr] at h;obtain ⟨h1,i',op',rfl⟩:=h;cases h1;exact hx _ _ _ _ hr
 ·rintro v H' ⟨u,i',op',h1,rfl,rfl⟩;exact ⟨_,_,vR _,⟨[],by simpa using zPc⟩,hk u i' op' h1⟩
end steps
theorem Clo.enter {sb k:Nat} {f:FuncId} {first caps:Array Value} {H:Heap} (h:Clo sb k f first caps H):TEnter Tryz.prog f:=by
 cases h <;> infer_instance
theorem Clo.le {sb k:Nat} {f:FuncId} {first caps:Array Value} {H:Heap} (h:Clo sb k f first caps H):k<=6:=by
 induction h with
 |un=>exact zNr _
 |bin _ ih=>omega
attribute [local irreducible] LOps qae qad LCalls Go.GL.Pure qax qaj qac LQ LAny qaE qal
theorem qtB {s:Nat×LObj} {A B Hc:Heap}:HSub (s::(B++Hc)) ((s::Hc++[])++(A++B)):=by
 refine ⟨A,?_⟩;have h1:(Hc++(A++B)).Perm ((B++Hc)++A):=zPc.trans (by rw[zAs];exact zPc);simpa using List.Perm.cons s h1
theorem qmc {s u:Nat×LObj} {A Hc:Heap}:HSub (u::s::(A++Hc)) (u::((s::([]++Hc))++A)):=by
 refine ⟨[],?_⟩;have h1:(Hc++A).Perm (A++Hc):=zPc;simpa using List.Perm.cons u (List.Perm.cons s h1)
theorem HSub.appR {H' l1 l2:Heap} (h:HSub H' l2):HSub H' (l1++l2):=by
 obtain ⟨G,hG⟩:=h;refine ⟨G++l1,?_⟩;have h1:(l1++l2).Perm (l2++l1):=zPc;have h2:(l2++l1).Perm ((H'++G)++l1):=hG.append_right l1;simpa using h1.trans h2
theorem qoC {a:Nat×LObj} {l1 l2:Heap}:([]++(l1++a::l2)).Perm ([a]++(l1++l2)):=by
 exact (List.nil_append _).symm▸List.perm_middle
theorem qtl (k:Nat):(qaZ k).length<=1000:=by
 unfold qaZ;split <;> simp
theorem qrw {T:List Tok} {i:Nat} (h:i<T.length):qdj T i=T[i].text:=by rw[qdj,List.getElem?_eq_getElem h]
section
variable {B0:Nat} {w0:World}
theorem qth (hG:GW B0 w0) (sb:Nat) (T:List Tok) (hT:TOK T) (f:Nat) (hC:∀ g,g<f->CloC B0 w0 sb T g) (k bo bs bp bn:Nat) (fn:FuncId) (first caps:Array Value) (Hc:Heap) (hclo:Clo sb (k+1) fn first caps Hc) (i op:Nat) (r:Res Ex)
  (hi:i<=T.length) (ho:op<=100) (hr:eLev T f k i op=some r) :
  LCalls (KC B0 w0) 249 [ptr bo 0,ptr bs 0,ptr bp 0,ptr bn 0] (srcH sb T i op::(bo,.cells 250 [.atom (.func (.func fn) first caps)])::(bs,.cells 63 [ptr sb 0])::(bp,.cells 24 [.list ((qaZ k).map str)])::(bn,.cells 4 [bool (decide ((k:Int)=2))])::Hc)
   (qvi sb T encE ((bo,.cells 250 [.atom (.func (.func fn) first caps)])::(bs,.cells 63 [ptr sb 0])::(bp,.cells 24 [.list ((qaZ k).map str)])::(bn,.cells 4 [bool (decide ((k:Int)=2))])::Hc) r):=by
 have hl:=hT.len;have hk6:=hclo.le;have hen:=hclo.enter
 obtain ⟨f,rfl⟩:∃ g,f=g+1:=by
  cases f with
  |zero=>rw[eLev] at hr;cases hr
  |succ g=>exact ⟨g,rfl⟩
 rw[eLev,if_neg zo] at hr;obtain ⟨r1,hr1⟩:=qaR hr;refine cI Tryz.func249 rfl (n:=38) rfl rfl rfl ?_;refine gah ?_;refine oS (sA fun b=>?_) rfl;refine gat ?_;refine oS (S.callClo (F:=[(b,_),(bo,_),(bs,_),(bp,_),(bn,_)]) (Hc:=Hc) rfl zp1 (hC f zo _ _ _ _ _ _ _ r1 hclo hi ho hr1) (fun v i1 op1 h1=>?_) (fun l er i1 op1 h1 e' he'=>?_)) rfl
 ·rw[hr1,h1,qao] at hr;obtain ⟨g1,_,g3,rfl⟩:=(qcM T f).1 _ _ _ _ (hr1.trans (congrArg some h1));have g4:=g3 hi;refine oS (sA fun b5=>?_) rfl;refine gad ?_
  refine oL (fun q ls H=>∃ (ex:Ex) (i2:Nat),q<=f/\ls=[(0,ptr bo 0),(1,ptr bs 0),(2,ptr bp 0),(3,ptr bn 0),(4,ptr b 0),(5,ptr b5 0)] /\
    H=(b5,.cells 193 [str (exOp ex),int .u32 (qeA ex),str (qcT ex),.list (qbJ ex)])::srcH sb T i2 op1::(b,.cells 193 [str [],int .u32 0,str [],qab])::([(bo,.cells 250 [.atom (.func (.func fn) first caps)]),(bs,.cells 63 [ptr sb 0]),(bp,.cells 24 [.list ((qaZ k).map str)]),(bn,.cells 4 [bool (decide ((k:Int)=2))])]++Hc)/\i2<=T.length/\qb8 T q k ex i2 op1=some r)
   ⟨f,_,_,⟨v,i1,zNr _,rfl,rfl,g4,hr⟩,⟨rfl,rfl,rfl,rfl,rfl,rfl,trivial⟩,zhR _⟩ ?_
  rintro q ls H ⟨ex,i2,hqf,rfl,rfl,hi2,hI⟩ j hj
  obtain ⟨q,rfl⟩:∃ q',q=q'+1:=by
   cases q with
   |zero=>rw[qb8] at hI;cases hI
   |succ q=>exact ⟨q,rfl⟩
  rw[qb8] at hI;refine gac ?_;refine oS (sH [_,_] rfl zp1 (qce sb T i2 op1 (qaZ k) hl zo (qtl k)) ?_) rfl;refine gaf ?_;refine oC rfl (fun hc=>?_) (fun hc=>?_)
  ·have hlt:=qaL hc;rw[if_pos hc] at hI;refine gab ?_;refine cC [(0,ptr bo 0),(1,ptr bs 0),(2,ptr bp 0),(3,ptr bn 0),(4,ptr b 0),(5,ptr b5 0),(6,str (qdj T i2))] ?_ (fun j2 hj2=>?_)
   ·refine zQ32 ?_;refine qP (xR (el':=qdg T[i2]) (cs:=[_,_,_]) rfl rfl zo (qbd _ _ _ hlt) rfl rfl) rfl ?_;refine gad ?_;exact ⟨⟨rfl,rfl,rfl,rfl,rfl,rfl,qdl (qrw hlt).symm,trivial⟩,rfl,rfl⟩
   ·obtain ⟨r2,hr2⟩:=qaR hI;refine gac ?_;refine cD (m:=7) rfl [(bo,.cells 250 [.atom (.func (.func fn) first caps)])] ?_;have hHF:HSub [(bo,.cells 250 [.atom (.func (.func fn) first caps)])] (srcH sb T (i2+1) op1::(b5,.cells 193 [str (exOp ex),int .u32 (qeA ex),str (qcT ex),.list (qbJ ex)])::(b,.cells 193 [str [],int .u32 0,str [],qab])::(bo,.cells 250 [.atom (.func (.func fn) first caps)])::[(bs,.cells 63 [ptr sb 0]),(bp,.cells 24 [.list ((qaZ k).map str)]),(bn,.cells 4 [bool (decide ((k:Int)=2))])]++Hc):=zhP zp3 zhn;refine LAny.take (i:=0) hHF rfl zk zk zk rfl (pM (lv:=.atom _) rfl) ?_;refine LAny.take (i:=2) hHF rfl zk zk zk rfl (pL (c:=.atom _) rfl zm0 rfl) ?_;refine aL ?_ hHF;refine zl2 (i:=1) (j:=3) zk ?_ ?_
    ·have hperm:(srcH sb T (i2+1) op1::(b5,LObj.cells 193 [str (exOp ex),int .u32 (qeA ex),str (qcT ex),.list (qbJ ex)])::(b,LObj.cells 193 [str [],int .u32 0,str [],qab])::([(bo,LObj.cells 250 [.atom (.func (.func fn) first caps)]),(bs,LObj.cells 63 [ptr sb 0]),(bp,LObj.cells 24 [.list ((qaZ k).map str)]),(bn,LObj.cells 4 [bool (decide ((k:Int)=2))])]++Hc)).Perm ((srcH sb T (i2+1) op1::Hc)++[(b5,LObj.cells 193 [str (exOp ex),int .u32 (qeA ex),str (qcT ex),.list (qbJ ex)]),(b,LObj.cells 193 [str [],int .u32 0,str [],qab]),(bo,LObj.cells 250 [.atom (.func (.func fn) first caps)]),(bs,LObj.cells 63 [ptr sb 0]),(bp,LObj.cells 24 [.list ((qaZ k).map str)]),(bn,LObj.cells 4 [bool (decide ((k:Int)=2))])]):=List.Perm.cons _ (show ([(b5,LObj.cells 193 [str (exOp ex),int .u32 (qeA ex),str (qcT ex),.list (qbJ ex)]),(b,LObj.cells 193 [str [],int .u32 0,str [],qab]),(bo,LObj.cells 250 [.atom (.func (.func fn) first caps)]),(bs,LObj.cells 63 [ptr sb 0]),(bp,LObj.cells 24 [.list ((qaZ k).map str)]),(bn,LObj.cells 4 [bool (decide ((k:Int)=2))])]++Hc).Perm (Hc++[(b5,LObj.cells 193 [str (exOp ex),int .u32 (qeA ex),str (qcT ex),.list (qbJ ex)]),(b,LObj.cells 193 [str [],int .u32 0,str [],qab]),(bo,LObj.cells 250 [.atom (.func (.func fn) first caps)]),(bs,LObj.cells 63 [ptr sb 0]),(bp,LObj.cells 24 [.list ((qaZ k).map str)]),(bn,LObj.cells 4 [bool (decide ((k:Int)=2))])]) from zPc);refine lH rfl rfl (pG (cs':=[_,_,_,_]) rfl zm1 rfl rfl) ?_;refine lO 3 (lS (H1:=srcH sb T (i2+1) op1::Hc) (F:=[(b5,LObj.cells 193 [str (exOp ex),int .u32 (qeA ex),str (qcT ex),.list (qbJ ex)]),(b,LObj.cells 193 [str [],int .u32 0,str [],qab]),(bo,LObj.cells 250 [.atom (.func (.func fn) first caps)]),(bs,LObj.cells 63 [ptr sb 0]),(bp,LObj.cells 24 [.list ((qaZ k).map str)]),(bn,LObj.cells 4 [bool (decide ((k:Int)=2))])]) rfl (.inl rfl) rfl (hperm) (zhP zp2 zhn) (S.callClo (F:=[]) (Hc:=Hc) rfl pH (hC q zo _ _ _ _ _ _ _ r2 hclo zo ho hr2) (fun e2 i3 op3 h3=>?_) (fun l er i3 op3 h3 e' he'=>?_)))
     ·rw[hr2,h3,qao] at hI;obtain ⟨q1,q2,q3,rfl⟩:=(qcM T q).1 _ _ _ _ (hr2.trans (congrArg some h3));have q4:=q3 zo;refine lO 4 (lS (H1:=[]) (F:=(srcH sb T i3 op3::([]++Hc))++[(b5,LObj.cells 193 [str (exOp ex),int .u32 (qeA ex),str (qcT ex),.list (qbJ ex)]),(b,LObj.cells 193 [str [],int .u32 0,str [],qab]),(bo,LObj.cells 250 [.atom (.func (.func fn) first caps)]),(bs,LObj.cells 63 [ptr sb 0]),(bp,LObj.cells 24 [.list ((qaZ k).map str)]),(bn,LObj.cells 4 [bool (decide ((k:Int)=2))])]) rfl (.inl rfl) rfl zpr (HSub.appR (zhP zp2 zhn)) (sL (es:=[encE ex,encE e2]) [_,_] rfl (eC rfl rfl (eC rfl rfl eN)) rfl rfl rfl ?_));refine lO 5 (lH rfl rfl (pB _ (cs:=[_,_,_,_]) rfl) ?_);refine lO 6 (lS (H1:=[(b5,LObj.cells 193 [str (exOp ex),int .u32 (qeA ex),str (qcT ex),.list (qbJ ex)])]) (F:=(srcH sb T i3 op3::([]++Hc))++[(b,LObj.cells 193 [str [],int .u32 0,str [],qab]),(bo,LObj.cells 250 [.atom (.func (.func fn) first caps)]),(bs,LObj.cells 63 [ptr sb 0]),(bp,LObj.cells 24 [.list ((qaZ k).map str)]),(bn,LObj.cells 4 [bool (decide ((k:Int)=2))])]) rfl (.inl rfl) rfl qoC (HSub.appR (zhP zp1 zhn)) (sS (cs':=[_,_,_,_]) rfl pH rfl rfl rfl rfl rfl ?_));refine lD zk ?_;refine qN ?_;refine cW (H':=(b5,LObj.cells 193 [str (qdj T i2),int .u32 0,str [],.list [encE ex,encE e2]])::srcH sb T i3 op3::(b,LObj.cells 193 [str [],int .u32 0,str [],qab])::([(bo,LObj.cells 250 [.atom (.func (.func fn) first caps)]),(bs,LObj.cells 63 [ptr sb 0]),(bp,LObj.cells 24 [.list ((qaZ k).map str)]),(bn,LObj.cells 4 [bool (decide ((k:Int)=2))])]++Hc)) (qmc (A:=[(b,LObj.cells 193 [str [],int .u32 0,str [],qab]),(bo,LObj.cells 250 [.atom (.func (.func fn) first caps)]),(bs,LObj.cells 63 [ptr sb 0]),(bp,LObj.cells 24 [.list ((qaZ k).map str)]),(bn,LObj.cells 4 [bool (decide ((k:Int)=2))])])) ?_;refine gac ?_;refine oC rfl (fun hk2=>?_) (fun hk2=>?_)
      ·exact zT34
      ·exact zT28
     ·exact zT8
    ·have hperm:(srcH sb T (i2+1) op1::(b5,LObj.cells 193 [str (exOp ex),int .u32 (qeA ex),str (qcT ex),.list (qbJ ex)])::(b,LObj.cells 193 [str [],int .u32 0,str [],qab])::([(bo,LObj.cells 250 [.atom (.func (.func fn) first caps)]),(bs,LObj.cells 63 [ptr sb 0]),(bp,LObj.cells 24 [.list ((qaZ k).map str)]),(bn,LObj.cells 4 [bool (decide ((k:Int)=2))])]++Hc)).Perm ((srcH sb T (i2+1) op1::Hc)++[(b5,LObj.cells 193 [str (exOp ex),int .u32 (qeA ex),str (qcT ex),.list (qbJ ex)]),(b,LObj.cells 193 [str [],int .u32 0,str [],qab]),(bo,LObj.cells 250 [.atom (.func (.func fn) first caps)]),(bs,LObj.cells 63 [ptr sb 0]),(bp,LObj.cells 24 [.list ((qaZ k).map str)]),(bn,LObj.cells 4 [bool (decide ((k:Int)=2))])]):=List.Perm.cons _ (show ([(b5,LObj.cells 193 [str (exOp ex),int .u32 (qeA ex),str (qcT ex),.list (qbJ ex)]),(b,LObj.cells 193 [str [],int .u32 0,str [],qab]),(bo,LObj.cells 250 [.atom (.func (.func fn) first caps)]),(bs,LObj.cells 63 [ptr sb 0]),(bp,LObj.cells 24 [.list ((qaZ k).map str)]),(bn,LObj.cells 4 [bool (decide ((k:Int)=2))])]++Hc).Perm (Hc++[(b5,LObj.cells 193 [str (exOp ex),int .u32 (qeA ex),str (qcT ex),.list (qbJ ex)]),(b,LObj.cells 193 [str [],int .u32 0,str [],qab]),(bo,LObj.cells 250 [.atom (.func (.func fn) first caps)]),(bs,LObj.cells 63 [ptr sb 0]),(bp,LObj.cells 24 [.list ((qaZ k).map str)]),(bn,LObj.cells 4 [bool (decide ((k:Int)=2))])]) from zPc);refine (lS (H1:=srcH sb T (i2+1) op1::Hc) (F:=[(b5,LObj.cells 193 [str (exOp ex),int .u32 (qeA ex),str (qcT ex),.list (qbJ ex)]),(b,LObj.cells 193 [str [],int .u32 0,str [],qab]),(bo,LObj.cells 250 [.atom (.func (.func fn) first caps)]),(bs,LObj.cells 63 [ptr sb 0]),(bp,LObj.cells 24 [.list ((qaZ k).map str)]),(bn,LObj.cells 4 [bool (decide ((k:Int)=2))])]) rfl (.inl rfl) rfl (hperm) (zhP zp2 zhn) (S.callClo (F:=[]) (Hc:=Hc) rfl pH (hC q zo _ _ _ _ _ _ _ r2 hclo zo ho hr2) (fun e2 i3 op3 h3=>?_) (fun l er i3 op3 h3 e' he'=>?_)))
     ·rw[hr2,h3,qao] at hI;obtain ⟨q1,q2,q3,rfl⟩:=(qcM T q).1 _ _ _ _ (hr2.trans (congrArg some h3));have q4:=q3 zo;refine lO 1 (lH rfl rfl (pG (cs':=[_,_,_,_]) rfl (List.mem_append_right _ zm0) rfl rfl) ?_);refine lO 4 (lS (H1:=[]) (F:=(srcH sb T i3 op3::([]++Hc))++[(b5,LObj.cells 193 [str (exOp ex),int .u32 (qeA ex),str (qcT ex),.list (qbJ ex)]),(b,LObj.cells 193 [str [],int .u32 0,str [],qab]),(bo,LObj.cells 250 [.atom (.func (.func fn) first caps)]),(bs,LObj.cells 63 [ptr sb 0]),(bp,LObj.cells 24 [.list ((qaZ k).map str)]),(bn,LObj.cells 4 [bool (decide ((k:Int)=2))])]) rfl (.inl rfl) rfl zpr (HSub.appR (zhP zp2 zhn)) (sL (es:=[encE ex,encE e2]) [_,_] rfl (eC rfl rfl (eC rfl rfl eN)) rfl rfl rfl ?_));refine lO 5 (lH rfl rfl (pB _ (cs:=[_,_,_,_]) rfl) ?_);refine lO 6 (lS (H1:=[(b5,LObj.cells 193 [str (exOp ex),int .u32 (qeA ex),str (qcT ex),.list (qbJ ex)])]) (F:=(srcH sb T i3 op3::([]++Hc))++[(b,LObj.cells 193 [str [],int .u32 0,str [],qab]),(bo,LObj.cells 250 [.atom (.func (.func fn) first caps)]),(bs,LObj.cells 63 [ptr sb 0]),(bp,LObj.cells 24 [.list ((qaZ k).map str)]),(bn,LObj.cells 4 [bool (decide ((k:Int)=2))])]) rfl (.inl rfl) rfl qoC (HSub.appR (zhP zp1 zhn)) (sS (cs':=[_,_,_,_]) rfl pH rfl rfl rfl rfl rfl ?_));refine lD zk ?_;refine qN ?_;refine cW (H':=(b5,LObj.cells 193 [str (qdj T i2),int .u32 0,str [],.list [encE ex,encE e2]])::srcH sb T i3 op3::(b,LObj.cells 193 [str [],int .u32 0,str [],qab])::([(bo,LObj.cells 250 [.atom (.func (.func fn) first caps)]),(bs,LObj.cells 63 [ptr sb 0]),(bp,LObj.cells 24 [.list ((qaZ k).map str)]),(bn,LObj.cells 4 [bool (decide ((k:Int)=2))])]++Hc)) (qmc (A:=[(b,LObj.cells 193 [str [],int .u32 0,str [],qab]),(bo,LObj.cells 250 [.atom (.func (.func fn) first caps)]),(bs,LObj.cells 63 [ptr sb 0]),(bp,LObj.cells 24 [.list ((qaZ k).map str)]),(bn,LObj.cells 4 [bool (decide ((k:Int)=2))])])) ?_;refine gac ?_;refine oC rfl (fun hk2=>?_) (fun hk2=>?_)
      ·exact zT34
      ·exact zT28
     ·exact zT8
  ·have hc':qaK T i2 (qaZ k)=false:=hc;rw[if_neg (by rw[hc'];decide)] at hI;refine gac ?_;exact rR hj (rC (rA rfl zm0 rfl zsr) rN) (zhD (zhP pH (zhD zhr))) (by cases hI;exact ⟨rfl,rfl⟩)
 ·rw[hr1,h1,qat] at hr;refine gak ?_;refine qac.panic (he'.trans rfl) (H':=srcH sb T i1 op1::(bo,.cells 250 [.atom (.func (.func fn) first caps)])::(bs,.cells 63 [ptr sb 0])::(bp,.cells 24 [.list ((qaZ k).map str)])::(bn,.cells 4 [bool (decide ((k:Int)=2))])::Hc) ?_ (by cases hr;exact ⟨rfl,i1,op1,rfl⟩);exact zhP pH ⟨[(b,_)],zPc.trans (by exact List.Perm.refl _ |>.trans (List.perm_append_singleton _ _).symm)⟩
end
end Go.Proofs.YtdakelgkjdaijaaGreatDoor
namespace Go.GL
open Go.RowKit
def qlv:Op->Bool
 |.defer _=>false
 |_=>true
theorem qkG {l n:Nat} {P:Program} {f:FuncId} {args:Array Value} {w:World} {R:Ending->World->Prop} (h:Calls P f args w R):CallsIn (Fence.wide.inRound l) n P f args w R:=(callsIn_wide (n:=n)).2 h
theorem qmq {l n:Nat} {P:Program} {row:String} {args:Array Value} {w:World} {R:Value->World->Prop} (h:Rows P row args w R):RowsIn (Fence.wide.inRound l) n P row args w R:=fun c cs _=>
 let ⟨v,w',r,s⟩:=h c cs
 ⟨v,w',r,stepsIn_wide.2 s⟩
theorem qmx {l n:Nat} {P:Program} {o:Oper} {a:Act} {w:World} {next next':Act->World->Prop} {Q:Exit->Act->World->Prop} (ho:qlv o.op=true)
  (hn:∀ a w,next a w->next' a w) (h:o.wp P a w next Q):o.wpIn (Fence.wide.inRound l) n P a w next' Q:=by
 refine ⟨fun _ _=>trivial,?_⟩;have hs:o.semAt (Fence.wide.inRound l).round a.eval=execOp a.eval o:=Oper.semAt_eq _ _ _ fun c hc=>by rw[hc] at ho;cases ho
 rw[hs];unfold Oper.wp at h;revert h;generalize (execOp a.eval o).run P w=r;intro h
 cases r with
 |ok x w'=>
  cases x with
  |value v=>exact hn _ _ h
  |skip=>exact hn _ _ h
  |defer d=>exact hn _ _ h
  |enter f args=>
   refine ⟨fun hd=>(by cases hd),qkG (Calls.mono h ?_)⟩;intro e w'' he
   cases e with
   |returned v=>exact hn _ _ he
   |panicked ch=>exact he
   |outgrown=>exact he
  |row row args=>
   refine ⟨fun hd=>(by cases hd),qmq (Rows.mono h ?_)⟩;intro v w'' he
   exact hn _ _ he
  |_=>exact h.elim
 |halt x w'=>
  cases x <;> first|exact h|exact h.elim
theorem qfy {l n:Nat} {P:Program} {ops:Array Oper} {Q:Exit->Act->World->Prop} (hQ:¬ LetsOut Q):∀ (rest:List Oper) (a:Act) (w:World),(∀ o∈rest,qlv o.op=true)->wpList P ops Q rest a w->wpListIn (Fence.wide.inRound l) n P ops Q rest a w
 |[],_,_,_,h=>h
 |o::rest,a,w,ho,h=>by
  unfold wpList at h;unfold wpListIn;split at h
  ·rename_i hw
   rw[if_pos hw];rcases h with h|⟨_,h⟩
   ·exact qmx (ho o List.mem_cons_self) (fun a w h=>qfy hQ rest a w (fun o h=>ho o (zMo _ h)) h) h
   ·exact absurd h hQ
  ·rename_i hw
   rw[if_neg hw];exact ⟨fun _ _=>trivial,qfy hQ rest _ _ (fun o h=>ho o (zMo _ h)) h⟩
theorem qjW {l n id:Nat} {P:Program} {ops:List Oper} {Q:Exit->Act->World->Prop} {a:Act} {w:World} (hQ:¬ LetsOut Q) (ho:ops.all (fun o=>qlv o.op)=true) (h:wpList P ops.toArray Q ops a w) :
  (Code.region id ops.toArray false).wpIn (Fence.wide.inRound l) n P Q a w:=wpIn_region_lit (qfy hQ ops a w (by simpa using ho) h)
end Go.GL
/- A small logic over the walk's 'Code.wp': a range over a function whose rounds all go on. -/
namespace Go.GL
open Go.RowKit
theorem qiq {C:Ctx} {w:World} {L:Live} {b:Nat} {o o':Obj} {F:Heap} (hH:RelH C w L ((b,.obj o)::F)) (ho':qfz o'=true) :
  Fr (keys ((b,LObj.obj o)::F)) w L (w.putObj b o') L ((b,.obj o')::F)/\RelH C (w.putObj b o') L ((b,.obj o')::F):=by
 have h1:RelH C w L ([(b,.obj o)]++F):=hH;have hlt:b<w.heap.size:=(hH.objs _ List.mem_cons_self).2.1
 have h2:Left C w L [(b,.obj o)] (w.putObj b o') undef (fun _ H'=>H'=[(b,.obj o')]):=
  qgI (w':=w.putObj b o') h1.left ho' rfl rfl rfl (by simp[World.putObj]) (fun c hc=>World.putObj_heap_other hc) (World.putObj_heap_same hlt) (v:=undef) (lv:=.atom undef) (fun _=>qah) rfl
 obtain ⟨lv,H',L',g1,g2,g3,rfl⟩:=h2
 have hL:L'=L:=by
  funext c;obtain ⟨_,_,hl,_⟩:=h1.left.objs _ List.mem_cons_self;obtain ⟨_,_,hl',_⟩:=g2.objs _ List.mem_cons_self
  by_cases he:c=b
  ·subst he;rw[hl,hl']
  ·rcases Nat.lt_or_ge c w.heap.size with hc|hc
   ·exact g1.lsame c hc (by simpa using he)
   ·rw[h1.wf c hc,g2.wf c (by simpa [World.putObj] using hc)]
 subst hL;have:=h1.frame g1 g2;exact ⟨this.2,this.1⟩
theorem qmk {C:Ctx} {w:World} {L:Live} {o:Obj} {F:Heap} (hH:RelH C w L F) (ho:qfz o=true) :
  ∃ L',Fr (keys F) w L (w.alloc o) L' ((w.heap.size,.obj o)::F)/\RelH C (w.alloc o) L' ((w.heap.size,.obj o)::F):=by
 have h1:RelH C w L ([]++F):=hH
 have:=qem h1.left o 0 [(w.heap.size,.obj o)] (fun p hp=>by
  simp only[List.mem_singleton] at hp;subst hp
  exact ⟨rfl,by simp[Live.upd],qaI,qdP qaI ho⟩) (by simp)
 have:=h1.frame this.1 this.2;exact ⟨_,this.2,this.1⟩
def qdn (C:Ctx) (l n:Nat) (c:Code) (Q:Post) (e:Env) (H:Heap):Prop:=
 ∀ a w L,RelE n a e w L->RelH C w L H->∀ m,c.wpIn (Fence.wide.inRound l) m C.P (lift C n w L (keys H) Q) a w
def QOn (k:Env->Heap->Prop):Post
 |.normal,e,H=>k e H
 |_,_,_=>False
section round
variable {C:Ctx} {l n:Nat} {e:Env} {H:Heap} {k:Env->Heap->Prop}
theorem qdn.region {id:Nat} {ops:List Oper} (ho:ops.all (fun o=>qlv o.op)=true) (h:LOps C n ops.toArray (qax k (QOn k)) ops e H):qdn C l n (.region id ops.toArray false) (QOn k) e H:=fun a w L hE hH m=>by
 refine qjW ?_ ho (qbr ?_ _ _ _ (h a w L hE hH))
 ·rintro ⟨a',w',e',H',L',_,_,_,hq⟩;exact hq
 ·rintro ex a' w' hq;refine qjt ?_ hq;intro x e H h;cases x <;> exact h
theorem qdn.seq {x y:Code} (h:qdn C l n x (QOn fun e H=>qdn C l n y (QOn k) e H) e H):qdn C l n (.seq x y) (QOn k) e H:=fun a w L hE hH m=>by
 refine wpIn_seq (wpIn_mono (h a w L hE hH m) fun ex a' w' hq=>?_);obtain ⟨e',H',L',h1,h2,h3,h4⟩:=hq
 cases ex with
 |normal=>exact wpIn_mono (h4 a' w' L' h3 h2 m) fun _ _ _=>qdS h1
 |exit id=>exact h4.elim
 |goto id=>exact h4.elim
 |ret=>exact h4.elim
 |panic ch=>exact h4.elim
 |outgrown=>exact h4.elim
theorem qdn.block {id:Nat} {c:Code} (h:qdn C l n c (QOn k) e H):qdn C l n (.block id c) (QOn k) e H:=fun a w L hE hH m=>by
 refine wpIn_block (wpIn_mono (h a w L hE hH m) fun ex a' w' hq=>?_);obtain ⟨e',H',L',h1,h2,h3,h4⟩:=hq
 cases ex with
 |normal=>exact ⟨e',H',L',h1,h2,h3,h4⟩
 |exit id=>exact h4.elim
 |goto id=>exact h4.elim
 |ret=>exact h4.elim
 |panic ch=>exact h4.elim
 |outgrown=>exact h4.elim
end round
theorem qhL {F:Fence} {m:Nat} {P:Program} {l:Nat} {args:Array Value} {W:World} {R R':Ending->World->Prop} (h:YieldAt F m P l args W R) (hr:∀ e w,R e w->R' e w):YieldAt F m P l args W R':=by
 obtain ⟨fn,tmps,assign,body,hy,hR⟩:=h;exact ⟨fn,tmps,assign,body,hy,hR.mono hr⟩
def qff (C:Ctx) (l:Nat) (args:List LV) (H:Heap) (K:Heap->Prop):Prop:=
 ∀ (vs:List Value) w L,RepL w L args vs->RelH C w L H->∀ m,YieldAt Fence.wide m C.P l vs.toArray w fun e w'=>e=.returned (.bool true)/\qeJ C w L H w' K
theorem qff.frame {C:Ctx} {l:Nat} {args:List LV} {G H F:Heap} {K:Heap->Prop} (p:G.Perm (H++F)) (h:qff C l args H fun H'=>K (H'++F)):qff C l args G K:=fun vs w L h1 h2 m=>by
 have h3:=h2.perm p;refine qhL (h vs w L h1 h3.left m) ?_;rintro e w' ⟨he,hx⟩;obtain ⟨H',L',g1,g2,g3⟩:=qeJ.frame h3 hx;exact ⟨he,H',L',g1.perm p.symm,g2,g3⟩
theorem qff.mono {C:Ctx} {l:Nat} {args:List LV} {H:Heap} {K K':Heap->Prop} (h:qff C l args H K) (hk:∀ H,K H->K' H):qff C l args H K':=fun vs w L h1 h2 m=>qhL (h vs w L h1 h2 m) fun _ _ hx=>⟨hx.1,hx.2.mono hk⟩
def qvw (C:Ctx) (gf:FuncId) (caps:List LV) (Hc:Heap) (N:Nat) (xs:Nat->List LV):Prop:=
 ∀ (l:Nat) (J:Nat->Heap->Prop),(∀ k H,k<N->J k H->qff C l (xs k) H (J (k+1)))->∀ H0,J 0 H0 ->
  LCalls C gf (.atom (.func (.yield l) #[] #[])::caps) (H0++Hc) (fun r H'=>(∃ v,r=.ret v)/\∃ H1,H'=H1++Hc/\J N H1)
def Env.round (j:Env):List (Nat×LV)->Env
 |[]=>j
 |(d,v)::r=>Env.round (j.upd d v) r
theorem RelE.rounds {n:Nat} {w:World} {L:Live}:∀ (ps:List Nat) (lvs:List LV) (vs:List Value) (tmps:Array Value) (j:Env),RelE n { tmps,defers:=[] } j w L->RepL w L lvs vs->ps.length=lvs.length->ps.all (fun p=>Nat.blt p n)=true ->
  RelE n { tmps:=(ps.zip vs).foldl (fun t p=>t.setIfInBounds p.1 p.2) tmps,defers:=[] } (Env.round j (ps.zip lvs)) w L
 |[],lvs,vs,tmps,j,h,_,_,_=>by simpa [Env.round] using h
 |p::ps,[],vs,tmps,j,h,_,hl,_=>by simp at hl
 |p::ps,lv::lvs,vs,tmps,j,h,hr,hl,hp=>by
  simp only[RepL] at hr;obtain ⟨y,ys,rfl,hy,hr⟩:=hr;simp only[List.all_cons,zBa] at hp;have:=RelE.put (dst:=some p) h (by simp only[qcK,dstB];exact hp.1) hy;simp only[List.zip_cons_cons,List.foldl_cons,Env.round];exact RelE.rounds ps lvs ys _ _ this hr (by simpa using hl) hp.2
def Act.flat (a:Act):Env:=⟨fun i=>.atom (a.tmps.getD i undef),[]⟩
theorem Act.flat_rel {n:Nat} {a:Act} {w:World} {L:Live} (hn:a.tmps.size=n):RelE n { tmps:=a.tmps,defers:=[] } (Act.flat a) w L:=⟨hn,rfl,fun _=>qah⟩
section range
variable {C:Ctx} {n:Nat} {e:Env} {H:Heap} {Q:Post}
theorem qae.rangeFunc {g:Operand} {ps:List Nat} {assign body:Code} {gf:FuncId} [TEnter C.P gf] {caps:Array Value} (hg:e.ev g=.atom (.func (.func gf) #[] caps)) (N:Nat) (xs:Nat->List LV) (H0 Hc:Heap) (hp:H.Perm (H0++Hc))
  (hiter:qvw C gf (caps.toList.map .atom) Hc N xs) (hps:∀ k,k<N->ps.length=(xs k).length) (hpn:ps.all (fun p=>Nat.blt p n)=true)
  (J:Nat->Heap->Prop) (h0:J 0 H0)
  (round:∀ k H,k<N->J k H->∀ j:Env,j.ds=[]->(∀ i v,e.s i=.atom v->j.s i=.atom v)->∀ (l D:Nat) (o oD:LObj),qdn C l n assign (QOn fun e1 H1=>e1.ds=[]/\∃ H1',H1=(l,o)::(D,oD)::H1'/\(∀ o':LObj,qdn C l n body (QOn fun _ H2=>∃ H2',HSub ((l,o')::(D,oD)::H2') H2/\J (k+1) H2') e1 ((l,o')::(D,oD)::H1'))) (Env.round j (ps.zip (xs k))) ((l,o)::(D,oD)::H))
  (done:∀ D H',J N H'->Q .normal ⟨e.s,{ target:=.collected D,args:=#[] }::e.ds⟩ ((D,.obj (.deferred (some [])))::(H'++Hc))) :
  qae C n (.rangeFunc g ps.toArray assign body) Q e H:=fun a w L hE hH=>by
 refine wpIn_wide (n:=1) |>.1 (wpIn_rangeFunc fun fn _=>?_)
 have hgv:a.eval g=.func (.func gf) #[] caps:=by
  have:=hE.ev g;rw[hg] at this;simpa only[Rep] using this
 obtain ⟨rec,hrec⟩:∃ rec:LoopState->Option Code->Loop,rec=fun st pe=>{ state:=st,pending:=pe,fn,tmps:=a.tmps,params:=ps.toArray,assign,body,defers:=w.heap.size }:=⟨_,rfl⟩;obtain ⟨L1,f1,r1⟩:=qmk (o:=.deferred (some [])) (hH.perm hp) rfl;obtain ⟨L2,f2,r2⟩:=qmk (o:=.loop (rec .ready none)) r1 rfl;have hsz:(w.alloc (.deferred (some []))).heap.size=w.heap.size+1:=World.size_alloc ..;rw[hsz] at f2 r2;have hrec0:rec .ready none={ state:=.ready,pending:=none,fn,tmps:=a.tmps,params:=ps.toArray,assign,body,defers:=w.heap.size }:=by rw[hrec]
 refine ⟨w.heap.size+1,[{ target:=.collected w.heap.size,args:=#[] }],(w.alloc (.deferred (some []))).alloc (.loop (rec .ready none)),{ target:=.fn (.func gf) caps,args:=#[.func (.yield (w.heap.size+1)) #[] #[]] },(w.alloc (.deferred (some []))).alloc (.loop (rec .ready none)),gf,
  #[.func (.yield (w.heap.size+1)) #[] #[]]++caps,(w.alloc (.deferred (some []))).alloc (.loop (rec .ready none)),?_,?_,fun _ _=>trivial,?_,fun _=>zNr _,callsIn_wide.2 ?_⟩
 ·rw[hrec0];exact run_enterLoop_outer _ _ _ _ _
 ·simp only[resolve,hgv];simp[go_sem]
 ·simp only[invoke];exact qea _ _
 ·obtain ⟨l,hl⟩:∃ l,l=w.heap.size+1:=⟨_,rfl⟩;obtain ⟨D,hD⟩:∃ D,D=w.heap.size:=⟨_,rfl⟩;rw[<-hl,<-hD] at f2 r2 ⊢;rw[<-hD] at r1 f1;have hc:=hiter l (fun k H=>∃ H1,H=(l,.obj (.loop (rec .ready none)))::(D,.obj (.deferred (some [])))::H1/\J k H1) ?_ ((l,.obj (.loop (rec .ready none)))::(D,.obj (.deferred (some [])))::H0) ⟨H0,rfl,h0⟩
  ·have h1:=hc (.func (.yield l) #[] #[]::caps.toList) _ L2 (by simp only[RepL,Rep];exact ⟨_,_,rfl,rfl,qaT _⟩) r2
   have e1:(Value.func (.yield l) #[] #[]::caps.toList).toArray=#[.func (.yield l) #[] #[]]++caps:=by
    apply Array.ext'
    simp
   rw[e1] at h1;refine Calls.mono h1 ?_;rintro ex w' hx
   cases ex with
   |returned v=>
    obtain ⟨lv,H',L',g1,g2,g3,_,H1,rfl,H1',rfl,hJ⟩:=hx;have g2':RelH C w' L' ((l,.obj (.loop (rec .ready none)))::((D,.obj (.deferred (some [])))::(H1'++Hc))):=g2;obtain ⟨_,_,_,hlo,_⟩:=g2'.objs _ List.mem_cons_self;have hlo':w'.heap[l]? = some (.loop (rec .ready none)):=hlo;have hpe:(rec .ready none).pending=none:=by rw[hrec]
    have hend:=(run_endLoop (P:=C.P) hlo' (by rw[hrec];simp)).trans (congrArg (fun p=>Result.ok p _) hpe);have ht:=qiq (o':=.loop { rec .ready none with state:=.exhausted }) g2' rfl;refine ⟨none,_,hend,?_⟩;have hs:HSub ((D,LObj.obj (.deferred (some [])))::(H1'++Hc)) ((l,.obj (.loop { rec .ready none with state:=.exhausted }))::((D,.obj (.deferred (some [])))::(H1'++Hc))):=zhD zhr;refine ⟨⟨e.s,{ target:=.collected D,args:=#[] }::e.ds⟩,(D,.obj (.deferred (some [])))::(H1'++Hc),L',?_,ht.2.weak hs,⟨?_,?_,?_⟩,done D H1' hJ⟩
    ·exact Fr.perm hp.symm ((f1.trans (f2.trans (g1.trans ht.1))).weak hs)
    ·exact hE.size
    ·show _::a.defers=_;rw[hE.ds]
    ·exact fun i=>(hE.vals i).mono (f1.ext.trans (f2.ext.trans (g1.ext.trans ht.1.ext))) _ _
   |panicked ch=>
    obtain ⟨H',L',g1,g2,⟨v,hv⟩,_⟩:=hx
    cases hv
   |outgrown=>exact hx.elim
  ·rintro k H hk ⟨H1,rfl,hJ⟩ vs w1 Lw hvs hr m;obtain ⟨_,_,_,hlo,_⟩:=hr.objs _ List.mem_cons_self;have hlo':w1.heap[l]? = some (.loop (rec .ready none)):=hlo;have hlen:=hvs.length;have hpk:=hps k hk;have hy:=run_yield (P:=C.P) (args:=vs.toArray) hlo' (by rw[hrec];simp;omega);rw[hrec] at hy;refine ⟨fn,_,assign,body,hy,roundIn_of_wpIn trivial ?_⟩;have htm:RelE n { tmps:=a.tmps,defers:=[] } (Act.flat a) w1 Lw:=Act.flat_rel hE.size;have htm2:=RelE.rounds ps (xs k) vs a.tmps (Act.flat a) htm hvs hpk hpn
   have e2:(ps.toArray.zip vs.toArray).foldl (fun tmps (t,a)=>tmps.setIfInBounds t a) a.tmps=(ps.zip vs).foldl (fun t p=>t.setIfInBounds p.1 p.2) a.tmps:=by
    simp
   simp only[e2];refine wpIn_mono (round k H1 hk hJ (Act.flat a) rfl ?_ l D _ _ _ w1 Lw htm2 hr m) ?_
   ·intro i v hv;have:=hE.vals i;rw[hv] at this;simp only[Rep] at this;simp only[Act.flat,this]
   ·rintro ex a1 w2 ⟨e1,H2,L2',q1,q2,q3,q4⟩
    cases ex with
    |normal=>
     obtain ⟨hds,H2',rfl,hb⟩:=q4;obtain ⟨_,_,_,hlo2,_⟩:=q2.objs _ List.mem_cons_self;have hlo2':w2.heap[l]? = some (.loop (rec .ready none)):=hlo2;have ht:=qiq (o':=.loop { rec .ready none with state:=.busy }) q2 rfl;refine ⟨_,run_beginRound hlo2' (by rw[hrec]),?_⟩;refine wpIn_mono (hb (.obj (.loop { rec .ready none with state:=.busy })) a1 _ L2' (q3.mono ht.1.ext) ht.2 m) ?_;rintro ex a3 w3 ⟨e3,H3,L3,p1,p2,p3,p4⟩
     cases ex with
     |normal=>
      obtain ⟨H3',hs3,hJ3⟩:=p4;have p2':=p2.weak hs3;obtain ⟨_,_,_,hlo3,_⟩:=p2'.objs _ List.mem_cons_self;have hlo3':w3.heap[l]? = some (.loop { rec .ready none with state:=.busy }):=hlo3;have ht3:=qiq (o':=.loop (rec .ready none)) p2' rfl;have hend:=run_endRound (P:=C.P) none hlo3';have e3:({ { rec .ready none with state:=.busy } with state:=if (none:Option Code).isNone then .ready else .done,pending:=none }:Loop)=rec .ready none:=by rw[hrec];try rfl
      rw[e3] at hend;refine ⟨.bool true,_,hend,rfl,?_⟩
      exact ⟨_,L3,q1.trans (ht.1.trans ((p1.weak hs3).trans ht3.1)),ht3.2,H3',rfl,hJ3⟩
     |exit id=>exact p4.elim
     |goto id=>exact p4.elim
     |ret=>exact p4.elim
     |panic ch=>exact p4.elim
     |outgrown=>exact p4.elim
    |exit id=>exact q4.elim
    |goto id=>exact q4.elim
    |ret=>exact q4.elim
    |panic ch=>exact q4.elim
    |outgrown=>exact q4.elim
end range
/-! ### The iterator's own call of yield -/
def qfv (C:Ctx) (n:Nat) (ops:Array Oper) (Q:Post) (rest:List Oper) (e:Env) (H:Heap):Prop:=
 ∀ a w L,RelE n a e w L->RelH C w L H->wpListIn Fence.wide 1 C.P ops (lift C n w L (keys H) Q) rest a w
section W
variable {C:Ctx} {n:Nat} {ops:Array Oper} {Q:Post} {e:Env} {H:Heap}
theorem qfv.nil (h:Q .normal e H):qfv C n ops Q [] e H:=fun _ _ L hE hH=>⟨e,H,L,Fr.refl _ _ _,hH,hE,h⟩
theorem qbz {F:Fence} {m:Nat} {P:Program} {Q Q':Exit->Act->World->Prop} (h:∀ e a w,Q e a w->Q' e a w) (ho:LetsOut Q->LetsOut Q'):∀ (l:List Oper) (a:Act) (w:World),wpListIn F m P ops Q l a w->wpListIn F m P ops Q' l a w
 |[],_,_,k=>h _ _ _ k
 |o::l,a,w,k=>by
  unfold wpListIn at k ⊢;split at k
  ·rename_i hw
   rw[if_pos hw];refine ⟨k.1,?_⟩;have k2:=k.2;generalize (o.semAt F.round a.eval).run P w=r at k2 ⊢
   cases r with
   |ok x w'=>
    cases x with
    |value v=>exact qbz h ho l _ _ k2
    |skip=>exact qbz h ho l _ _ k2
    |defer d=>exact qbz h ho l _ _ k2
    |enter f args=>
     refine ⟨k2.1,k2.2.mono fun e w'' he=>?_⟩
     cases e with
     |returned v=>exact qbz h ho l _ _ he
     |panicked ch=>exact h _ _ _ he
     |outgrown=>exact ho he
    |row row args=>
     refine ⟨k2.1,fun c cs hr=>?_⟩;obtain ⟨v,w2,r2,s2⟩:=k2.2 c cs hr
     exact ⟨v,w2,qbz h ho l _ _ r2,s2⟩
    |round l' f tmps avs bd=>
     refine ⟨k2.1,k2.2.mono fun e w'' he=>?_⟩
     cases e with
     |returned v=>exact qbz h ho l _ _ he
     |panicked ch=>exact h _ _ _ he
     |outgrown=>exact ho he
    |_=>exact k2.elim
   |halt x w'=>cases x <;> first|exact h _ _ _ k2|exact k2.elim
  ·rename_i hw
   rw[if_neg hw];exact ⟨k.1,qbz h ho l _ _ k.2⟩
theorem qtb {w w1:World} {L L1:Live} {K:List Nat} {H1:Heap} (f:Fr K w L w1 L1 H1):LetsOut (lift C n w1 L1 (keys H1) Q)->LetsOut (lift C n w L K Q):=fun ⟨a,w',h⟩=>⟨a,w',qdS f h⟩
theorem qfv.pure {dst:Option Nat} {op:Op} {ty:TypeId} {pos:String} {aft:Array Edge} {rest:List Oper} {lv:LV}
  (h:Pure C ⟨dst,op,ty,pos,aft,none⟩ e H lv) (hd:qcK n dst) (k:qfv C n ops Q rest (e.put dst lv) H):qfv C n ops Q (⟨dst,op,ty,pos,aft,none⟩::rest) e H:=fun a w L hE hH=>by
 obtain ⟨v,hv,hr⟩:=h a.eval w L hE.ev hH;unfold wpListIn;rw[if_pos (by simp[Region.wanted])];refine ⟨fun _ _=>trivial,?_⟩;have hs:Oper.semAt (Fence.wide).round a.eval ⟨dst,op,ty,pos,aft,none⟩=execOp a.eval ⟨dst,op,ty,pos,aft,none⟩:=rfl;rw[hs,hr w ⟨fun _ _=>rfl,fun _ _ _=>rfl⟩];exact k _ w L (hE.put hd hv) hH
theorem qfv.yield {dst:Option Nat} {fo:Operand} {l:Nat} {args:List Operand} {ats:Array TypeId} {avs:List LV} {ty:TypeId} {pos:String} {aft:Array Edge} {rest:List Oper} {K:Heap->Prop} (hf:e.ev fo=.atom (.func (.yield l) #[] #[]))
  (has:args.map e.ev=avs) (hy:qff C l avs H K) (hd:qcK n dst) (k:∀ H',K H'->qfv C n ops Q rest (e.put dst (bool true)) H'):qfv C n ops Q (⟨dst,.call { callee:=.value fo,args:=args.toArray,argTypes:=ats },ty,pos,aft,none⟩::rest) e H:=fun a w L hE hH=>by
 subst has;have hv:=hE.ev fo;rw[hf] at hv;simp only[Rep] at hv;obtain ⟨fn,tmps,assign,body,h1,h2⟩:=hy (args.map a.eval) w L (qhw hE.ev _) hH 0;unfold wpListIn;rw[if_pos (by simp[Region.wanted])];refine ⟨fun _ _=>trivial,?_⟩;have h3:Oper.semAt (Fence.wide).round a.eval ⟨dst,.call { callee:=.value fo,args:=args.toArray,argTypes:=ats },ty,pos,aft,none⟩=(do let d <-Deferred.ofValue (a.eval fo) (args.toArray.map a.eval);invoke d.target d.args):=rfl
 have h4:(do let d <-Deferred.ofValue (.func (.yield l) #[] #[]) (args.toArray.map a.eval);invoke d.target d.args:Sem Next).run C.P w=.ok (.round l fn tmps assign body) w:=by
  simp only[Deferred.ofValue,Sem.run_bind,Sem.run_pure,Result.andThen_ok,invoke];rw[<-h1]
  simp
 rw[h3,hv,h4];refine ⟨fun _=>zNr _,h2.mono ?_⟩;rintro ex w' ⟨rfl,H',L',g1,g2,g3⟩;exact qbz (fun _ _ _=>qdS g1) (qtb g1) _ _ _ (k H' g3 _ w' L' ((hE.mono g1.ext).put hd qah) g2)
theorem qae.regionW {id:Nat} {l:List Oper} (h:qfv C n l.toArray Q l e H):qae C n (.region id l.toArray false) Q e H:=fun a w L hE hH=>wpIn_wide (n:=1) |>.1 (wpIn_region_lit (h a w L hE hH))
end W
def qda (C:Ctx) (n:Nat) (rs:List ResultVar) (R:LRes->Heap->Prop):Post
 |.normal,e,H|.ret,e,H=>∃ D F,e.ds=[{ target:=.collected D,args:=#[] }]/\H.Perm ((D,.obj (.deferred (some [])))::F)/\∃ vs H',qbA C n e F rs vs/\HSub H' F/\R (.ret (qbq vs)) H'
 |.panic ch,e,H=>(e.ds=[]/\∃ H',HSub H' H/\R (.panic ch) H')∨∃ D F,e.ds=[{ target:=.collected D,args:=#[] }]/\H.Perm ((D,.obj (.deferred (some [])))::F)/\∃ H',HSub H' F/\R (.panic ch) H'
 |_,_,_=>False
theorem LCalls.introM {C:Ctx} {f:FuncId} {fn:Func} {c:Code} {n:Nat} {args:List LV} {H:Heap} {R:LRes->Heap->Prop} (hf:C.P.funcs[f]? = some fn) (hb:fn.body=some c) (hn:fn.ntmps=n) (h3:Nat.ble fn.results.size 3=true)
  (hl:Nat.ble args.length n=true) (h:qae C n c (qda C n fn.results.toList R) (qgm args) H):LCalls C f args H R:=fun vs w L hv hH=>by
 subst hn;have hl':args.length<=fn.ntmps:=by simpa using hl
 have h3':fn.results.size<=3:=by simpa using h3
 have hlen:=hv.length;refine callsIn_wide.1 (callsIn_of_wp_marks (F:=Fence.wide) (n:=1) hf hb trivial (wpIn_wide.2 (Go.wp_mono (h _ w L ⟨?_,rfl,fun i=>?_⟩ hH) fun ex a' w' hq=>?_)))
 ·simp;omega
 ·exact zT0
 ·obtain ⟨e',H',L',g1,g2,g3,g4⟩:=hq
  have turn:∀ {D F},H'.Perm ((D,LObj.obj (.deferred (some [])))::F)->(Instr.takeDeferred D).run C.P w'=.ok [] (w'.putObj D (.deferred none))/\Fr (keys H) w L (w'.putObj D (.deferred none)) L' F/\RelH C (w'.putObj D (.deferred none)) L' F/\Ext w' L' (w'.putObj D (.deferred none)) L':=fun {D F} hp=>by
   have g2':=g2.perm hp;obtain ⟨_,_,_,hlo,_⟩:=g2'.objs _ List.mem_cons_self;have hlo':w'.heap[D]? = some (.deferred (some [])):=hlo;have ht:=qiq (o':=.deferred none) g2' rfl;have hs:HSub F ((D,LObj.obj (.deferred none))::F):=zhD zhr;have hkp:Fr (keys H) w L w' L' ((D,LObj.obj (.deferred (some [])))::F):=g1.weak ⟨[],by simpa using hp⟩;exact ⟨run_takeDeferred hlo',(hkp.trans ht.1).weak hs,ht.2.weak hs,ht.1.ext⟩
  have ret:RelE fn.ntmps a' e' w' L'->(∃ D F,e'.ds=[{ target:=.collected D,args:=#[] }]/\H'.Perm ((D,.obj (.deferred (some [])))::F)/\∃ vs H'',qbA C fn.ntmps e' F fn.results.toList vs/\HSub H'' F/\R (.ret (qbq vs)) H'') ->
    LeavesInM Fence.wide 1 C.P fn a'.tmps (qcu C w L H (fun v=>R (.ret v)) (fun ch=>R (.panic ch))) a'.defers .returning w':=fun hE hr=>by
   obtain ⟨D,F,h1,hp,vs',H'',h2,h4,h5⟩:=hr;rw[hE.ds,h1];obtain ⟨t1,t2,t3,t4⟩:=turn hp;refine ⟨by simp,.inl ⟨D,_,rfl,t1,?_⟩⟩;obtain ⟨v,r1,r2⟩:=qho (hE.mono t4) t3 h2 h3';exact ⟨v,r1,qbq vs',H'',L',t2.weak h4,t3.weak h4,r2,h5⟩
  cases ex with
  |normal=>exact ret g3 g4
  |ret=>exact ret g3 g4
  |panic ch=>
   rcases g4 with ⟨h1,H'',h4,h5⟩|⟨D,F,h1,hp,H'',h4,h5⟩
   ·show LeavesInM _ _ _ _ _ _ a'.defers _ _;rw[show a'.defers=[] from (show a'.defers=e'.ds from g3).trans h1];exact ⟨H'',L',g1.weak h4,g2.weak h4,h5⟩
   ·show LeavesInM _ _ _ _ _ _ a'.defers _ _;rw[show a'.defers=[{ target:=.collected D,args:=#[] }] from (show a'.defers=e'.ds from g3).trans h1];obtain ⟨t1,t2,t3,t4⟩:=turn hp
    exact ⟨by simp,.inl ⟨D,_,rfl,t1,⟨H'',L',t2.weak h4,t3.weak h4,h5⟩⟩⟩
  |exit id=>exact g4.elim
  |goto id=>exact g4.elim
  |outgrown=>exact g4.elim
end Go.GL
namespace Go.Proofs.YtdakelgkjdaijaaGreatDoor
open Go.GL Go.RowKit Go.Stele
attribute [local irreducible] LOps qae qad LCalls Go.GL.Pure qax qaj qac LQ LAny qaE qal
def lvLV (k:Nat):LV:=.list ((qaZ k).map str)
def qdH:List LV:=[lvLV 0,lvLV 1,lvLV 2,lvLV 3,lvLV 4,lvLV 5]
section
variable {B0:Nat} {w0:World}
theorem qjr:LCalls (KC B0 w0) 209 [] [] (Ret (.list qdH)):=by
 refine cI Tryz.func209 rfl (n:=8) rfl rfl rfl ?_;refine gai ?_;refine oS (sL (es:=[str [124,124]]) [_] rfl (eC rfl rfl eN) rfl rfl rfl ?_) rfl;refine oS (sL (es:=[str [38,38]]) [_] rfl (eC rfl rfl eN) rfl rfl rfl ?_) rfl;refine oS (sL (es:=[str [61,61],str [33,61],str [60],str [62],str [60,61],str [62,61]]) [_,_,_,_,_,_] rfl (eC rfl rfl (eC rfl rfl (eC rfl rfl (eC rfl rfl (eC rfl rfl (eC rfl rfl eN)))))) rfl rfl rfl ?_) rfl;refine oS (sL (es:=[str [94]]) [_] rfl (eC rfl rfl eN) rfl rfl rfl ?_) rfl;refine oS (sL (es:=[str [43],str [45]]) [_,_] rfl (eC rfl rfl (eC rfl rfl eN)) rfl rfl rfl ?_) rfl;refine oS (sL (es:=[str [42],str [47],str [37]]) [_,_,_] rfl (eC rfl rfl (eC rfl rfl (eC rfl rfl eN))) rfl rfl rfl ?_) rfl;refine oS (sL (es:=qdH) [_,_,_,_,_,_] rfl (eC rfl rfl (eC rfl rfl (eC rfl rfl (eC rfl rfl (eC rfl rfl (eC rfl rfl eN)))))) rfl rfl rfl ?_) rfl;refine gad ?_;exact qaf rfl (rC (rT (v:=.list _) rfl zsr) rN) rfl
theorem qgk (sb:Nat) (ops:List LV) (once:Bool) (fn:FuncId) (first caps:Array Value):LCalls (KC B0 w0) 234 [ptr sb 0,.list ops,bool once,.atom (.func (.func fn) first caps)] []
  (fun r H=>∃ bo bs bp bn:Nat,r=.ret (.atom (.func (.func 249) #[] #[.pointer (some ⟨bo,0,none⟩),.pointer (some ⟨bs,0,none⟩),.pointer (some ⟨bp,0,none⟩),.pointer (some ⟨bn,0,none⟩)])) /\
   H=[(bo,.cells 250 [.atom (.func (.func fn) first caps)]),(bs,.cells 63 [ptr sb 0]),(bp,.cells 24 [.list ops]),(bn,.cells 4 [bool once])]):=by
 refine cI Tryz.func234 rfl (n:=10) rfl rfl rfl ?_;refine gah ?_;refine oS (sB rfl fun bs=>?_) rfl;refine oS (sB rfl fun bp=>?_) rfl;refine oS (sB rfl fun bn=>?_) rfl;refine oS (sB rfl fun bo=>?_) rfl;refine gac ?_;exact rR rfl (zra rfl) (zhP pH (zhP zp2 (zhP zp1 zhp))) ⟨bo,bs,bp,bn,rfl,rfl⟩
theorem qk5 (es:List LV):LCalls (KC B0 w0) 233 [.list es] [] (fun r H=>∃ b:Nat,r=.ret (.atom (.func (.func 248) #[] #[.pointer (some ⟨b,0,none⟩)]))/\H=[(b,.cells 221 [.list es])]):=by
 refine cI Tryz.func233 rfl (n:=4) rfl rfl rfl ?_;refine gah ?_;refine oS (sB rfl fun b=>?_) rfl;refine gac ?_;exact rR rfl (zra rfl) zhr ⟨b,rfl,rfl⟩
def qlq (ls:List (List (List UInt8))) (q:Nat):List LV:=[int .i64 ((ls.length:Int)-1-q),.list (((ls[ls.length-1-q]?).getD []).map str)]
theorem qrH (b:Nat) (ls:List (List (List UInt8))) (hl:ls.length<=100000):qvw (KC B0 w0) 248 [ptr b 0] [(b,.cells 221 [.list (ls.map fun l=>.list (l.map str))])] ls.length (qlq ls):=by
 intro l J hY H0 h0;have hml:(ls.map fun l=>LV.list (l.map str)).length=ls.length:=zLm _;refine cI Tryz.func248 rfl (n:=19) rfl rfl rfl ?_;refine qae.perm (H':=(b,.cells 221 [.list (ls.map fun l=>.list (l.map str))])::H0) (List.perm_append_singleton _ _) ?_;refine gac ?_
 refine oL (fun k lsl H=>∃ (q:Nat) (Hq:Heap),q<=ls.length/\k=ls.length-q/\lsl=[(0,.atom (.func (.yield l) #[] #[])),(1,ptr b 0),(3,int .i64 ((ls.length:Int)-1-q))]/\H=(b,.cells 221 [.list (ls.map fun l=>.list (l.map str))])::Hq/\J q Hq)
  ⟨_,_,_,⟨0,H0,Nat.zero_le _,rfl,rfl,rfl,h0⟩,⟨rfl,rfl,qak (by simp),trivial⟩,zhR _⟩ ?_
 rintro k lsl H ⟨q,Hq,hq,rfl,rfl,rfl,hJ⟩ j hj;refine gac ?_;refine oC rfl (fun hc=>?_) (fun hc=>?_)
 ·have hlt:q<ls.length:=by have:=zt hc;omega
  have hix:((ls.length:Int)-1-q).toNat=ls.length-1-q:=by omega
  have hlt2:ls.length-1-q<ls.length:=by omega
  have hel:(ls.map fun l=>LV.list (l.map str))[((ls.length:Int)-1-q).toNat]? = some (.list (((ls[ls.length-1-q]?).getD []).map str)):=by
   rw[hix,List.getElem?_map,List.getElem?_eq_getElem hlt2];rfl
  refine gab ?_;refine qae.regionW ?_;refine gad ?_;refine qfv.pure (xR (cs:=[_]) rfl rfl zo hel rfl rfl) rfl ?_;refine gad ?_;refine qfv.yield (H:=(b,.cells 221 [.list (ls.map fun l=>.list (l.map str))])::Hq) (args:=[_,_]) rfl rfl (qff.frame (H:=Hq) (F:=[(b,.cells 221 [.list (ls.map fun l=>.list (l.map str))])]) (List.perm_append_singleton _ _).symm (K:=fun H'=>∃ H1,H'=H1++[(b,.cells 221 [.list (ls.map fun l=>.list (l.map str))])]/\J (q+1) H1) (qff.mono (hY q Hq hlt hJ) fun H' h=>⟨H',rfl,h⟩)) rfl ?_;rintro H' ⟨H1,rfl,hJ1⟩;refine gad ?_;refine qfv.nil ?_;refine qN ?_;refine cW (H':=(b,.cells 221 [.list (ls.map fun l=>.list (l.map str))])::H1) ⟨[],by rw[zLz];exact List.perm_append_singleton _ _⟩ ?_;refine oC rfl (fun hcc=>?_) (fun hcc=>?_)
  ·cases hcc
  ·refine gac ?_;exact ⟨_,_,_,by omega,⟨q+1,H1,hlt,rfl,rfl,rfl,hJ1⟩,⟨rfl,rfl,qak zo,trivial⟩,zhR _,hj⟩
 ·have hge:q=ls.length:=by have:=zf hc;omega
  subst hge;refine gab ?_;exact rO hj rN ⟨[],by rw[zLz];exact (List.perm_append_singleton _ _).symm⟩ ⟨⟨_,rfl⟩,Hq,rfl,hJ⟩
end
end Go.Proofs.YtdakelgkjdaijaaGreatDoor
namespace Go.GL
open Go.RowKit
section
variable {C:Ctx} {n:Nat} {Q:Post} {e:Env} {H:Heap} {k:Env->Heap->Prop}
theorem qae.mid {A:Type} {c:Code} (l:A->List (Nat×LV)) (H1:A->Heap) (F:A->Prop) (hx:qae C n c (qax (fun e' H'=>∃ a,F a/\At (l a) (H1 a) e.ds e' H') Q) e H) (hy:∀ a,F a->∀ j:Env,j.ds=e.ds->k (Env.slots j (l a)) (H1 a)):qae C n c (qax k Q) e H:=by
 refine qae.conseq hx ?_;rintro ex e' H' hq
 cases ex with
 |normal=>
  obtain ⟨a,hF,h1,rfl,h3⟩:=hq;have:=hy a hF e' h3;rw[Env.slots_self h1.mem] at this
  exact this
 |exit id=>exact hq
 |goto id=>exact hq
 |ret=>exact hq
 |panic ch=>exact hq
 |outgrown=>exact hq
theorem cM {A:Type} {c c2:Code} {Q2:Post} (l:A->List (Nat×LV)) (H1:A->Heap) (F:A->Prop) (hx:qae C n c (qax (fun e' H'=>∃ a,F a/\qcv e' (l a)/\HSub (H1 a) H'/\e'.ds=e.ds) Q) e H) (hy:∀ a,F a->∀ j:Env,j.ds=e.ds->qae C n c2 Q2 (Env.slots j (l a)) (H1 a)):qae C n c (qax (fun e H=>qae C n c2 Q2 e H) Q) e H:=by
 refine qae.conseq hx ?_;rintro ex e' H' hq
 cases ex with
 |normal=>
  obtain ⟨a,hF,h1,h2,h3⟩:=hq;have:=hy a hF e' h3;rw[Env.slots_self h1.mem] at this
  exact cW h2 this
 |exit id=>exact hq
 |goto id=>exact hq
 |ret=>exact hq
 |panic ch=>exact hq
 |outgrown=>exact hq
theorem qp9 {w:World} {L:Live} {b ty:Nat} {cs cs':List LV} {F:Heap} (hp:Pick (b,.cells ty cs) H F) (hs:SubL cs cs') (hH:RelH C w L H):RelH C w L ((b,.cells ty cs')::F):=by
 have h1:=hH.perm hp;refine ⟨h1.base,h1.lbase,h1.b0,h1.wf,h1.nodup,fun p hp=>?_⟩;rcases zMi.1 hp with rfl|hp
 ·obtain ⟨r1,r2,r3,xs,r4,r5⟩:=h1.objs _ List.mem_cons_self;exact ⟨r1,r2,r3,xs,r4,hs.repL r5⟩
 ·exact h1.objs p (zMo _ hp)
theorem qqs {b ty:Nat} {cs cs':List LV} {F:Heap} (hp:Pick (b,.cells ty cs) H F):∀ x,x∈keys ((b,LObj.cells ty cs')::F)->x∈keys H:=fun x hx=>by
 have:keys ((b,LObj.cells ty cs')::F)=keys ((b,LObj.cells ty cs)::F):=rfl;rw[this] at hx;exact ((hp.map (·.1)).mem_iff).2 hx
theorem qae.cellSub {c:Code} {b ty:Nat} {cs cs':List LV} {F:Heap} (hp:Pick (b,.cells ty cs) H F) (hs:SubL cs cs') (h:qae C n c Q e ((b,.cells ty cs')::F)):qae C n c Q e H:=fun a w L hE hH=>
 Go.wp_mono (h a w L hE (qp9 hp hs hH)) fun _ _ _=>qfx (qqs hp)
theorem LOps.perm {ops:Array Oper} {rest:List Oper} {H':Heap} (s:H.Perm H') (h:LOps C n ops Q rest e H'):LOps C n ops Q rest e H:=LOps.weak ⟨[],by simpa using s⟩ h
end
section
variable {C:Ctx} {e:Env} {H:Heap} {dst:Option Nat} {ty:TypeId} {pos:String} {aft:Array Edge} {g:Option (Nat×Bool)} {x:Operand}
theorem Pure.assertOk {t xT:TypeId} [ht:TConcrete C.P t] {vs:List Value} (hx:e.ev x=.atom (.iface t (.agg vs.toArray))):Pure C ⟨dst,.typeAssert x xT t true,ty,pos,aft,g⟩ e H (.tuple [.agg (vs.map .atom),bool true]):=
 .of_any fun ρ w L h=>⟨.tuple #[.agg vs.toArray,.bool true],by
  simp only[Rep];exact ⟨[.agg vs.toArray,.bool true],rfl,by simp only[RepL,Rep];exact ⟨_,_,rfl,⟨vs,rfl,qaT vs⟩,_,_,rfl,rfl,rfl⟩⟩,fun w'=>by
  obtain ⟨d,hd,hm⟩:=ht.out;have h3:execOp ρ ⟨dst,.typeAssert x xT t true,ty,pos,aft,g⟩=(do Pure.pure (.value (<-Instr.typeAssert (ρ x) xT t true))):=rfl;rw[h3,qag h hx];simp only[Instr.typeAssert,Sem.run_bind,qaa hd,Result.andThen_ok]
  cases d <;> simp_all⟩
end
theorem qaE.three {C:Ctx} {n:Nat} {ops:Array Oper} {Q:Post} {HF:Heap} {fuel:Nat} {listed:Array Bool} {e:Env} {H:Heap} {i j k:Nat} (hr:Region.ready .any ops listed=[i,j,k]) (h1:qal C n ops Q HF fuel listed e H i) (h2:qal C n ops Q HF fuel listed e H j) (h3:qal C n ops Q HF fuel listed e H k):qaE C n ops Q HF (fuel+1) listed e H:=
 qaE.all hr (by simp) fun q hq=>by
  simp only[zMi,List.not_mem_nil,or_false] at hq;rcases hq with rfl|rfl|rfl
  ·exact h1
  ·exact h2
  ·exact h3
theorem qaE.four {C:Ctx} {n:Nat} {ops:Array Oper} {Q:Post} {HF:Heap} {fuel:Nat} {listed:Array Bool} {e:Env} {H:Heap} {i j k l:Nat} (hr:Region.ready .any ops listed=[i,j,k,l]) (h1:qal C n ops Q HF fuel listed e H i) (h2:qal C n ops Q HF fuel listed e H j) (h3:qal C n ops Q HF fuel listed e H k) (h4:qal C n ops Q HF fuel listed e H l):qaE C n ops Q HF (fuel+1) listed e H:=
 qaE.all hr (by simp) fun q hq=>by
  simp only[zMi,List.not_mem_nil,or_false] at hq;rcases hq with rfl|rfl|rfl|rfl
  ·exact h1
  ·exact h2
  ·exact h3
  ·exact h4
theorem qef (l:List (List UInt8)):∀ v∈l.map str,v.cells.length=1:=fun v hv=>by
 obtain ⟨x,_,rfl⟩:=List.mem_map.1 hv;rfl
theorem qgf:∀ l:List (List UInt8),((l.map str).flatMap LV.cells).all qc0=true
 |[]=>rfl
 |x::l=>by
  rw[zMc,List.flatMap_cons,List.all_append,qgf l]
  try rfl
end Go.GL
/- A small logic over the walk's 'Code.wp': structs of a string and an int, compared. -/
namespace Go.GL
open Go.RowKit
section
variable {C:Ctx} {e:Env} {H:Heap} {dst:Option Nat} {ty:TypeId} {pos:String} {aft:Array Edge} {g:Option (Nat×Bool)} {xT yT:TypeId} {x y:Operand}
end
end Go.GL
namespace Go.Stele
open Go.Lib
theorem qmM (M:Nat):∀ (l r:List UInt8) (acc u:Nat),parseUintM M acc l=.ok u->parseUintM M acc (l++r)=parseUintM M u r
 |[],r,acc,u,h=>by
  rw[parseUintM] at h;cases h
  rfl
 |c::l,r,acc,u,h=>by
  rw[parseUintM] at h;rw[List.cons_append,parseUintM];split at h
  ·rename_i hc
   rw[if_pos hc];split at h
   ·cases h
   ·rename_i h1
    rw[if_neg h1];split at h
    ·cases h
    ·rename_i h2
     rw[if_neg h2];exact qmM M l r _ u h
  ·cases h
theorem qi9 {d:Nat} (h:d<10):(UInt8.ofNat (48+d)).toNat=48+d:=by
 rw[UInt8.toNat_ofNat'];omega
theorem qwk (M:Nat) (hM:M<=4294967295) (u:Nat) (hu:u<=M):parseUintM M 0 (decDigits u)=.ok u:=by
 induction u using Nat.strongRecOn with
 |_ u ih=>
  have one:∀ a d,d<10->a * 10+d<=M->parseUintM M a [UInt8.ofNat (48+d)]=.ok (a * 10+d):=fun a d hd ha=>by
   rw[parseUintM,qi9 hd,if_pos (by omega),if_neg (by omega),if_neg (by omega),parseUintM];congr 1;omega
  rw[decDigits];split
  ·have:=one 0 u (by assumption) (by omega);simpa using this
  ·rw[qmM M _ _ 0 (u / 10) (ih (u / 10) (by omega) (by omega)),one _ _ (by omega) (by omega)];congr 1;omega
theorem qcF (u:Nat):decDigits u≠[]:=by
 rw[decDigits];split <;> simp
theorem qgV (u:Nat) (hu:u<4294967296):parseUintB 32 (decDigits u)=.ok u:=by
 rw[parseUintB,if_neg (qcF u)];exact qwk _ zDd u (by omega)
theorem qfN:∀ (k u:Nat),u<10 ^ (k+1)->nDigits u<=k+1
 |0,u,h=>by rw[nDigits_small (by simpa using h)];omega
 |k+1,u,h=>by
  by_cases hu:u<10
  ·rw[nDigits_small hu];omega
  ·rw[nDigits_big hu];have:=qfN k (u / 10) (by rw[Nat.pow_succ] at h;omega);omega
theorem qel {u:Nat} (hu:u<4294967296):(decDigits u).length<=10:=by
 rw[decDigits_length];exact qfN 9 u (by omega)
theorem qiL {l:List UInt8} {u:Nat} (h:parseUintB 32 l=.ok u):u<4294967296:=by
 have key:∀ (l:List UInt8) (acc u:Nat),acc<=4294967295->parseUintM 4294967295 acc l=.ok u->u<=4294967295:=by
  intro l
  induction l with
  |nil=>intro acc u ha h;rw[parseUintM] at h;cases h;exact ha
  |cons c l ih=>
   intro acc u ha h;rw[parseUintM] at h;split at h
   ·split at h
    ·cases h
    ·split at h
     ·cases h
     ·exact ih _ _ (by omega) h
   ·cases h
 rw[parseUintB] at h;split at h
 ·cases h
 ·have:=key _ _ _ (by omega) h;omega
def qqG (t:Tok):Prop:=t.text.length<=100/\(t.kind=1->∃ u,u<4294967296/\parseUintB 32 t.text=.ok u/\t.text=decDigits u)
theorem qny (s:List UInt8) (h:(qay s).2.2=0):qqG (qay s).1:=by
 match s with
 |[]=>simp[qay,qbm] at h
 |c::r=>
  simp only[qay] at h ⊢;split at h <;> rename_i hc
  ·rw[if_pos hc];unfold qb9 at h ⊢;split at h
   ·simp[qbm] at h
   ·rename_i hw
    rw[if_neg hw];split at h
    ·rename_i u hu
     have hlt:=qiL hu;exact ⟨by have:=qel hlt;simp only;omega,fun _=>⟨u,hlt,qgV u hlt,rfl⟩⟩
    ·simp[qbm] at h
  ·rw[if_neg hc];split at h <;> rename_i hl
   ·rw[if_pos hl];unfold qdZ at h ⊢;split at h
    ·simp[qbm] at h
    ·rename_i hw
     rw[if_neg hw];refine ⟨by simp only;omega,fun hk=>?_⟩;simp only at hk;split at hk <;> cases hk
   ·rw[if_neg hl];split at h <;> rename_i hq
    ·rw[if_pos hq];unfold qbO at h ⊢;split at h
     ·split at h
      ·simp[qbm] at h
      ·rename_i hx
       rename_i heq
       rename_i b _ _
       rw[if_neg hx];have hb:b.toNat<4294967296:=Nat.lt_trans (UInt8.toNat_lt b) zDd;exact ⟨by have:=qel hb;simp only;omega,fun _=>⟨b.toNat,hb,qgV _ hb,rfl⟩⟩
     ·simp[qbm] at h
    ·rw[if_neg hq];unfold qdo at h ⊢;split at h
     ·rename_i x hx
      have h2:=List.mem_of_find?_eq_some hx;have:∀ x∈signs,x.length<=100:=by decide
      exact ⟨this x h2,fun hk=>by cases hk⟩
     ·simp[qbm] at h
theorem quu {A B:Type} {f:A->B} {r:Except (Int×Int) A} {b:B} (h:r.map f=.ok b):∃ a,r=.ok a/\f a=b:=by
 cases r with
 |ok a=>exact ⟨a,rfl,by injection h⟩
 |error e=>cases h
theorem qhJ:∀ (f:Nat) (s:List UInt8) (line:Int) (T:List Tok),lexP f s line=.ok T->T.length<=f/\∀ t∈T,qqG t
 |0,s,line,T,h=>by
  rw[lexP] at h;cases h
  exact ⟨zNr _,by simp⟩
 |f+1,s,line,T,h=>by
  rw[lexP] at h;split at h
  ·cases h;exact ⟨Nat.zero_le _,by simp⟩
  ·split at h
   ·split at h
    ·cases h
    ·rename_i he
     obtain ⟨T',h1,rfl⟩:=quu h;obtain ⟨k1,k2⟩:=qhJ f _ _ _ h1;refine ⟨by rw[zLc];omega,fun t ht=>?_⟩;rcases zMi.1 ht with rfl|ht
     ·exact qny s (by omega)
     ·exact k2 t ht
   ·obtain ⟨k1,k2⟩:=qhJ f _ _ _ h;exact ⟨by omega,k2⟩
end Go.Stele
namespace Go.Stele
def Nd {A:Type} (f:A->Nat) (m i:Nat) (r:OR A):Prop:=∀ v i' op',r=some (.ok v i' op')->f v+i<=m+i'
theorem qba {A B:Type} {f:A->Nat} {g:B->Nat} {m m' i j:Nat} {r:OR A} {k:A->Nat->Nat->OR B} (hr:Nd f m j r) (hk:∀ v i' op',r=some (.ok v i' op')->f v+j<=m+i'->Nd g m' i (k v i' op')):Nd g m' i (qaw r k):=fun v i' op' h=>by
 rcases qau h with ⟨u,i1,op1,h1,h2⟩|⟨l,e,_,h⟩
 ·exact hk u i1 op1 h1 (hr u i1 op1 h1) v i' op' h2
 ·cases h
theorem qdi {A:Type} {f:A->Nat} {m i:Nat} {v:A} {i' op':Nat} (h:f v+i<=m+i'):Nd f m i (some (.ok v i' op')):=fun u j o hu=>by cases hu;exact h
theorem qc7 {A:Type} {f:A->Nat} {m i:Nat}:Nd f m i none:=fun _ _ _ h=>by cases h
theorem qeC {T:List Tok} {k:Int} {i op:Nat} {s:List UInt8} {i' op':Nat} (h:some (qcw T k i op)=some (.ok s i' op')):i'=i+1/\op'=op:=by
 injection h with h;unfold qcw at h;split at h
 ·split at h
  ·cases h;exact ⟨rfl,rfl⟩
  ·cases h
 ·cases h
theorem qfp {T:List Tok} {x:List UInt8} {i op:Nat} {u:Unit} {i' op':Nat} (h:some (qcX T x i op)=some (.ok u i' op')):i'=i+1/\op'=op:=by
 injection h with h;unfold qcX at h;split at h
 ·cases h;exact ⟨rfl,rfl⟩
 ·cases h
theorem qeb {T:List Tok} {x:List UInt8} {i op:Nat} {u:Unit} {i' op':Nat} (h:some (qbC T x i op)=some (.ok u i' op')):i'=i+1:=by
 injection h with h;exact (qbb h).1
theorem qjT {T:List Tok} {x:List UInt8} {i op:Nat} {u:Unit} {i' op':Nat} (h:some (sEnd T x i op)=some (.ok u i' op')):i'=i+1:=by
 injection h with h;exact (qeT h).1
theorem qb3 {A B:Type} {g:B->Nat} {m i:Nat} {r:OR A} {k:A->Nat->Nat->OR B} (hk:∀ v i' op',r=some (.ok v i' op')->Nd g m i (k v i' op')):Nd g m i (qaw r k):=fun v i' op' h=>by
 rcases qau h with ⟨u,i1,op1,h1,h2⟩|⟨l,e,_,h⟩
 ·exact hk u i1 op1 h1 v i' op' h2
 ·cases h
theorem qtI (a b:List Ex):nExs (a++b)=nExs a+nExs b:=by
 induction a with
 |nil=>simp[nExs]
 |cons x a ih=>rw[List.cons_append,nExs,nExs,ih];omega
theorem quc (a b:List Sm):nSms (a++b)=nSms a+nSms b:=by
 induction a with
 |nil=>simp[nSms]
 |cons x a ih=>rw[List.cons_append,nSms,nSms,ih];omega
theorem qsY (a b:List FnD):nFns (a++b)=nFns a+nFns b:=by
 induction a with
 |nil=>simp[nFns]
 |cons x a ih=>rw[List.cons_append,nFns,nFns,ih];omega
theorem qv9 (T:List Tok):∀ f:Nat,(∀ k i op,Nd nEx 0 i (eLev T f k i op))/\(∀ k e i op,Nd nEx (nEx e) i (qb8 T f k e i op))/\(∀ i op,Nd nEx 0 i (qa0 T f i op))/\(∀ i op,Nd nEx 0 i (qcs T f i op))/\(∀ i op,Nd nEx 0 i (qbw T f i op)) /\
  (∀ i op,Nd (fun v=>nExs v+2) 0 i (qcR T f i op))/\(∀ acc i op,Nd nExs (nExs acc) i (qav T f acc i op))
 |0=>⟨fun _ _ _=>by rw[eLev];exact qc7,fun _ _ _ _=>by rw[qb8];exact qc7,fun _ _=>by rw[qa0];exact qc7,fun _ _=>by rw[qcs];exact qc7,fun _ _=>by rw[qbw];exact qc7,fun _ _=>by rw[qcR];exact qc7,fun _ _ _=>by rw[qav];exact qc7⟩
 |f+1=>by
  obtain ⟨hL,hO,hU,hP,hI,hA,hB⟩:=qv9 T f
  have neg:∀ (x nm:List UInt8) (i op:Nat),Nd nEx 0 i (qaw (some (qbC T x i op)) fun _ i' op'=>qaw (qa0 T f i' op') fun e i' op'=>some (.ok (Ex.mk nm 0 [] [e]) i' (op'-1))):=fun x nm i op=>
   qb3 fun _ i1 op1 h1=>qba (hU i1 op1) fun v i2 op2 _ h2=>qdi (by
    have:=qeb h1;simp only[nEx,nExs]
    omega)
  refine ⟨fun k i op=>?_,fun k e i op=>?_,fun i op=>?_,fun i op=>?_,fun i op=>?_,fun i op=>?_,fun acc i op=>?_⟩
  ·rw[eLev];split
   ·exact hU i op
   ·exact qba (hL (k+1) i op) fun v i' op' _ h1 w j o hw=>by
     have:=hO k v i' op' w j o hw;omega
  ·rw[qb8];split
   ·refine qba (hL (k+1) (i+1) op) fun v i' op' _ h1=>?_;split
    ·exact qdi (by simp only[nEx,nExs];omega)
    ·intro w j o hw;have:=hO k _ i' op' w j o hw;simp only[nEx,nExs] at this;omega
   ·exact qdi (zNr _)
  ·rw[qa0];split
   ·exact neg _ _ _ _
   ·split
    ·exact neg _ _ _ _
    ·exact hP i op
  ·rw[qcs];split
   ·exact qb3 fun _ i1 op1 h1=>qba (hL 0 i1 op1) fun v i2 op2 _ h2=>qb3 fun _ i3 op3 h3=>qdi (by
     have:=qeb h1;have:=qjT h3
     omega)
   ·split
    ·exact qb3 fun n i1 op1 h1=>qdi (by
      have:i1=i+1:=by
       injection h1 with h1;unfold qcf Res.bind at h1;split at h1
       ·rename_i h
        cases h1;exact (qeC (congrArg some h)).1
       ·cases h1
      simp only[nEx,nExs]
      omega)
    ·refine qb3 fun s i1 op1 h1=>?_;have h1':=(qeC h1).1;split
     ·exact qba (hI i1 op1) fun v i2 op2 _ h2=>qdi (by simp only[nEx,nExs];omega)
     ·split
      ·exact qba (hA i1 op1) fun v i2 op2 _ h2=>qdi (by simp only[nEx];omega)
      ·exact qdi (by simp only[nEx,nExs];omega)
  ·rw[qbw]
   exact qb3 fun _ i1 op1 h1=>qba (hL 0 i1 op1) fun v i2 op2 _ h2=>qb3 fun _ i3 op3 h3=>qdi (by
    have:=qeb h1;have:=qjT h3
    omega)
  ·rw[qcR]
   exact qb3 fun _ i1 op1 h1=>qba (hB [] i1 op1) fun v i2 op2 _ h2=>qb3 fun _ i3 op3 h3=>qdi (by
    have:=qeb h1;have:=qjT h3;simp only[nExs] at h2
    omega)
  ·rw[qav];split
   ·exact qdi (zNr _)
   ·refine qb3 fun _ i1 op1 h1=>qba (hL 0 i1 op1) fun v i2 op2 _ h2 w j o hw=>?_
    have:i<=i1:=by
     injection h1 with h1;split at h1
     ·cases h1;exact zNr _
     ·have:=(qfp (congrArg some h1)).1;omega
    have:=hB _ i2 op2 w j o hw;rw[qtI] at this;simp only[nExs] at this;omega
theorem qwN (T:List Tok):∀ f:Nat,(∀ i op,Nd nSms 0 i (qbj T f i op))/\(∀ acc i op,Nd nSms (nSms acc) i (qbc T f acc i op))/\(∀ i op,Nd nSm 0 i (qco T f i op))/\(∀ i op,Nd nSm 0 i (qaX T f i op))
 |0=>⟨fun _ _=>by rw[qbj];exact qc7,fun _ _ _=>by rw[qbc];exact qc7,fun _ _=>by rw[qco];exact qc7,fun _ _=>by rw[qaX];exact qc7⟩
 |f+1=>by
  obtain ⟨hB,hL,hS,hM⟩:=qwN T f;obtain ⟨eL,_,_,_,eI,eA,_⟩:=qv9 T f;refine ⟨fun i op=>?_,fun acc i op=>?_,fun i op=>?_,fun i op=>?_⟩
  ·rw[qbj]
   exact qb3 fun _ i1 op1 h1=>qba (hL [] i1 op1) fun v i2 op2 _ h2=>qb3 fun _ i3 op3 h3=>qdi (by
    have:=qeb h1;have:=qjT h3;simp only[nSms] at h2
    omega)
  ·rw[qbc];split
   ·exact qdi (zNr _)
   ·refine qba (hS i op) fun v i1 op1 _ h1 w j o hw=>?_;have:=hL _ i1 op1 w j o hw;rw[quc] at this;simp only[nSms] at this;omega
  ·rw[qco];split
   ·refine qba (eL 0 (i+1) op) fun v i1 op1 _ h1=>qba (hB i1 op1) fun th i2 op2 _ h2=>?_;split
    ·exact qba (hB (i2+1) op2) fun el i3 op3 _ h3=>qdi (by simp only[nSm,nExs];omega)
    ·exact qdi (by simp only[nSm,nExs,nSms];omega)
   ·split
    ·exact qba (eL 0 (i+1) op) fun v i1 op1 _ h1=>qba (hB i1 op1) fun th i2 op2 _ h2=>qdi (by simp only[nSm,nExs,nSms];omega)
    ·exact qba (hM i op) fun v i1 op1 _ h1=>qb3 fun _ i2 op2 h2=>qdi (by have:=(qfp h2).1;omega)
  ·rw[qaX];split
   ·exact qba (eL 0 (i+1) op) fun v i1 op1 _ h1=>qdi (by simp only[nSm,nExs,nSms];omega)
   ·split
    ·exact qdi (by simp only[nSm,nExs,nSms];omega)
    ·refine qb3 fun s i1 op1 h1=>?_;have h1':=(qeC h1).1;split
     ·exact qba (eA i1 op1) fun l i2 op2 _ h2=>qdi (by simp only[nSm,nExs,nSms,nEx];omega)
     ·split
      ·exact qba (eI i1 op1) fun x i2 op2 _ h2=>qb3 fun _ i3 op3 h3=>qba (eL 0 i3 op3) fun v i4 op4 _ h4=>qdi (by have:=(qfp h3).1;simp only[nSm,nExs,nSms];omega)
      ·exact qb3 fun _ i3 op3 h3=>qba (eL 0 i3 op3) fun v i4 op4 _ h4=>qdi (by have:=(qfp h3).1;simp only[nSm,nExs,nSms];omega)
theorem qhT (T:List Tok):∀ (f:Nat) (acc:List (List UInt8)) (i op:Nat),Nd List.length acc.length i (qaA T f acc i op)
 |0,_,_,_=>by rw[qaA];exact qc7
 |f+1,acc,i,op=>by
  rw[qaA];split
  ·refine qb3 fun s i1 op1 h1 w j o hw=>?_;have:=(qeC h1).1;have:=qhT T f _ i1 op1 w j o hw;rw[zLa,List.length_singleton] at this;omega
  ·exact qdi (zNr _)
theorem qoQ (T:List Tok) (f i op:Nat):Nd List.length 0 i (qcE T f i op):=qb3 fun s i1 op1 h1 w j o hw=>by
 have:=(qeC h1).1;have:=qhT T f _ i1 op1 w j o hw;rw[List.length_singleton] at this;omega
theorem qnd (T:List Tok):∀ (f:Nat) (acc:List (List UInt8)) (i op:Nat),Nd List.length acc.length i (qcc T f acc i op)
 |0,_,_,_=>by rw[qcc];exact qc7
 |f+1,acc,i,op=>by
  rw[qcc];split
  ·refine qba (qoQ T f (i+1) op) fun l i1 op1 _ h1=>qb3 fun _ i2 op2 h2 w j o hw=>?_;have:=(qfp h2).1;have:=qnd T f _ i2 op2 w j o hw;rw[zLa] at this;omega
  ·exact qdi (zNr _)
theorem qvf (T:List Tok) (f i op:Nat):Nd nFn 0 i (qeI T f i op):=by
 unfold qeI;refine qb3 fun s i1 op1 h1=>qb3 fun _ i2 op2 h2=>qba (f:=List.length) (m:=0) (j:=i2) ?_ fun ps i3 op3 _ h3=>qb3 fun _ i4 op4 h4=>qb3 fun _ i5 op5 h5=>qba (qnd T f [] i5 op5) fun ls i6 op6 _ h6=>qba ((qwN T f).2.1 [] i6 op6) fun b i7 op7 _ h7=>qb3 fun _ i8 op8 h8=>qdi ?_
 ·split
  ·exact qdi (by simp)
  ·exact qoQ T f i2 op2
 ·have:=(qeC h1).1;have:=qeb h2;have:=qjT h4;have:=qeb h5;have:=qjT h8;simp only[nSms,zLn] at h6 h7;simp only[nFn];omega
def ArOk (a:Ar):Prop:=a.name.length<=1000000000/\a.size<=4294967296
theorem qt4 {T:List Tok} (hT:∀ t∈T,qqG t) {i op:Nat} {a:Ar} {i' op':Nat} (h:qd6 T i op=some (.ok a i' op')):i<i'/\ArOk a:=by
 unfold qd6 at h;rcases qau h with ⟨s,i1,op1,h1,h⟩|⟨l,e,_,h⟩
 ·rcases qau h with ⟨_,i2,op2,h2,h⟩|⟨l,e,_,h⟩
  ·rcases qau h with ⟨n,i3,op3,h3,h⟩|⟨l,e,_,h⟩
   ·rcases qau h with ⟨_,i4,op4,h4,h⟩|⟨l,e,_,h⟩
    ·rcases qau h with ⟨_,i5,op5,h5,h⟩|⟨l,e,_,h⟩
     ·cases h;have e1:=(qeC h1).1;have e2:=qeb h2;have e4:=qjT h4;have e5:=(qfp h5).1;injection h3 with h3;unfold qcf Res.bind at h3;split at h3
      ·rename_i t i6 op6 h6
       cases h3;have e6:=(qeC (congrArg some h6)).1;refine ⟨by omega,?_,?_⟩
       ·injection h1 with h1;unfold qcw at h1;split at h1
        ·rename_i t1 ht1
         split at h1
         ·cases h1;have:=(hT t1 (List.mem_of_getElem? ht1)).1;show t1.text.length<=_;omega
         ·cases h1
        ·cases h1
       ·unfold qcw at h6;split at h6
        ·rename_i t1 ht1
         split at h6
         ·rename_i hk
          cases h6;obtain ⟨u,hu,hp,_⟩:=(hT t1 (List.mem_of_getElem? ht1)).2 hk;show qh6 t1.text<=_;rw[qh6,hp];simp only;omega
         ·cases h6
        ·cases h6
      ·cases h3
     ·cases h
    ·cases h
   ·cases h
  ·cases h
 ·cases h
theorem qkH {T:List Tok} (hT:∀ t∈T,qqG t):∀ (f:Nat) (p:Pr) (i op:Nat) (q:Pr) (i' op':Nat),(∀ a∈p.arrays,ArOk a)->qbH T f p i op=some (.ok q i' op')->nPr q+i<=nPr p+i'/\∀ a∈q.arrays,ArOk a
 |0,_,_,_,_,_,_,_,h=>by rw[qbH] at h;cases h
 |f+1,p,i,op,q,i',op',ha,h=>by
  rw[qbH] at h;split at h
  ·cases h;exact ⟨zNr _,ha⟩
  ·split at h
   ·rcases qau h with ⟨l,i1,op1,h1,h⟩|⟨l,e,_,h⟩
    ·have e1:=qnd T f [] i op _ _ _ h1;obtain ⟨e2,e3⟩:=qkH hT f _ i1 op1 q i' op' (by exact ha) h;refine ⟨?_,e3⟩;simp only[nPr,zLa,zLn] at e1 e2 ⊢;omega
    ·cases h
   ·split at h
    ·rcases qau h with ⟨a,i1,op1,h1,h⟩|⟨l,e,_,h⟩
     ·obtain ⟨e1,e0⟩:=qt4 hT h1
      obtain ⟨e2,e3⟩:=qkH hT f _ i1 op1 q i' op' (by
       intro b hb;rcases List.mem_append.1 hb with hb|hb
       ·exact ha b hb
       ·rw[List.mem_singleton.1 hb];exact e0) h
      refine ⟨?_,e3⟩;simp only[nPr,zLa,List.length_singleton] at e2 ⊢;omega
     ·cases h
    ·split at h
     ·rcases qau h with ⟨a,i1,op1,h1,h⟩|⟨l,e,_,h⟩
      ·have e1:=qvf T f _ _ _ _ _ h1;obtain ⟨e2,e3⟩:=qkH hT f _ i1 op1 q i' op' (by exact ha) h;refine ⟨?_,e3⟩;simp only[nPr,qsY,nFns] at e2 ⊢;omega
      ·cases h
     ·cases h
end Go.Stele
namespace Go.Proofs.YtdakelgkjdaijaaGreatDoor
open Go.GL Go.RowKit Go.Stele
theorem qpc (s:Sm):qdT s=(qwf s).map encS:=by
 obtain ⟨k,n,i,v,t,e⟩:=s;rw[qdT,qfh];rfl
theorem qkm (s:Sm):qdu s=(qwn s).map encS:=by
 obtain ⟨k,n,i,v,t,e⟩:=s;rw[qdu,qfh];rfl
theorem qiZ {C:Ctx} {f:FuncId} {args:List LV} {v:Value} (h:LCalls C f args [] (Ret (.atom v))):LCalls C f args [] (fun r _=>r=.ret (.atom v)):=LCalls.mono h fun _ _ h=>h.1
structure PrOk (p:Pr):Prop where
 size:nPr p<=1000000000
 ars:∀ a∈p.arrays,a.name.length<=1000000000/\a.size<=4294967296
end Go.Proofs.YtdakelgkjdaijaaGreatDoor
namespace Go.Stele
def qam (op:List UInt8):Nat:=
 if (qaZ 0).contains op then 0 else if (qaZ 1).contains op then 1 else if (qaZ 2).contains op then 2 else if (qaZ 3).contains op then 3 else if (qaZ 4).contains op then 4 else if (qaZ 5).contains op then 5 else
  if op=nNeg∨op=nNot then 6 else 7
abbrev OpT:=List UInt8×List UInt8
def opnd (x:OpT) (least:Nat):List UInt8:=if qam x.1<least then [40]++x.2++[41] else x.2
def qcI:List UInt8:=[44,32]
def qbS (k:Nat):Nat:=if k=2 then k+1 else k
def qj3 (op:List UInt8) (num:Nat) (name:List UInt8) (xs:List OpT):List UInt8:=
 if op=nNum then Go.Lib.decDigits num
 else if op=nVar then name
 else if op=qcY/\xs.length=1 then name++[91]++(xs.headD ([],[])).2++[93]
 else if op=qbG then name++[40]++Go.Lib.join (xs.map (·.2)) qcI++[41]
 else if op=nNeg/\xs.length=1 then [45]++opnd (xs.headD ([],[])) (qam op)
 else if op=nNot/\xs.length=1 then [33]++opnd (xs.headD ([],[])) (qam op)
 else if xs.length=2 then opnd (xs.headD ([],[])) (qbS (qam op))++[32]++op++[32]++opnd (xs.tail.headD ([],[])) (qam op+1)
 else []
mutual
def fE:Ex->List UInt8
 |.mk op num name args=>qj3 op num name (fEs args)
def fEs:List Ex->List OpT
 |[]=>[]
 |e::r=>(exOp e,fE e)::fEs r
end
theorem qrq:∀ l:List Ex,fEs l=l.map fun e=>(exOp e,fE e)
 |[]=>by simp[fEs]
 |e::r=>by rw[fEs,qrq r];try rfl
theorem qmH (op:List UInt8) (num:Nat) (name:List UInt8) (args:List Ex):fE (.mk op num name args)=qj3 op num name (args.map fun e=>(exOp e,fE e)):=by rw[fE,qrq]
theorem qmz (op:List UInt8):qam op<=7:=by
 unfold qam
 repeat (first|omega|split)
def fOne (l:List Ex):List UInt8:=Go.Lib.join (l.map fE) qcI
def ind2 (ind:List UInt8):List UInt8:=ind++[32,32]
def qdv (ind:List UInt8) (kind:Int) (name:List UInt8) (index value:List Ex) (t e:List UInt8) (noElse:Bool):List UInt8:=
 if kind=1 then name++[32,61,32]++fOne value++[59,10]
 else if kind=2 then name++[91]++fOne index++[93,32,61,32]++fOne value++[59,10]
 else if kind=6 then fOne value++[59,10]
 else if kind=5 then [114,101,116,117,114,110,32]++fOne value++[59,10]
 else if kind=7 then [104,97,108,116,59,10]
 else if kind=3∨kind=4 then
  (if kind=4 then [119,104,105,108,101,32] else [105,102,32])++fOne value++[32,123,10]++t++(if noElse then [] else ind++[125,32,101,108,115,101,32,123,10]++e)++(ind++[125,10])
 else []
mutual
def fS (ind:List UInt8):Sm->List UInt8
 |.mk kind name index value thn els=>ind++qdv ind kind name index value (fSs (ind2 ind) thn) (fSs (ind2 ind) els) els.isEmpty
def fSs (ind:List UInt8):List Sm->List UInt8
 |[]=>[]
 |s::r=>fS ind s++fSs ind r
end
theorem qfB (ind:List UInt8) (kind:Int) (name:List UInt8) (index value:List Ex) (thn els:List Sm):fS ind (.mk kind name index value thn els)=ind++qdv ind kind name index value (fSs (ind2 ind) thn) (fSs (ind2 ind) els) els.isEmpty:=by rw[fS]
theorem qhm (ind:List UInt8):∀ a b:List Sm,fSs ind (a++b)=fSs ind a++fSs ind b
 |[],b=>by simp[fSs]
 |s::a,b=>by
  rw[List.cons_append,fSs,fSs,qhm ind a b,zAs]
theorem qoG (ind:List UInt8) {l:List Sm} {i:Nat} (h:i<l.length):fSs ind (l.take (i+1))=fSs ind (l.take i)++fS ind l[i]:=by
 rw[List.take_succ_eq_append_getElem h,qhm,fSs,fSs,zLz]
def qia (l:List (List UInt8)):List UInt8:=[118,97,114,32]++Go.Lib.join l qcI++[59,10]
def fAr (a:Ar):List UInt8:=[97,114,114,97,121,32]++a.name++[91]++Go.Lib.decDigits a.size++[93,59,10]
def fFn (f:FnD):List UInt8:=
 [102,117,110,99,32]++f.name++[40]++Go.Lib.join f.params qcI++[41,32,123,10]++(if f.locals=[] then [] else [32,32]++qia f.locals)++fSs [32,32] f.body++[125,10]
def qbx (p:Pr):List UInt8:=
 (if p.vars=[] then [] else qia p.vars)++(p.arrays.map fAr).flatten++(p.funcs.map fFn).flatten
end Go.Stele
namespace Go.Proofs.YtdakelgkjdaijaaGreatDoor
open Go.GL Go.RowKit Go.Stele
theorem qfV {w:World} {L:Live} {b:Nat}:∀ (k off:Nat) (ws:List (List UInt8)),qai w L b k off (ws.map str)->∀ (j:Nat) x,(ws.map fun l=>(⟨l.toArray⟩:ByteArray))[j]? = some x->k=1/\w.cell? ⟨b,off+j,none⟩=some (.string x)
 |k,off,[],_,j,x,h=>by simp at h
 |k,off,s::ws,h,0,x,hx=>by
  simp only[zMc,qai] at h;obtain ⟨⟨hk,_,y,hy,hr⟩,_⟩:=h;simp only[Rep] at hr;simp at hx;rw[<-hx,Nat.add_zero,hy,hr]
  exact ⟨hk.symm,rfl⟩
 |k,off,s::ws,h,j+1,x,hx=>by
  simp only[zMc,qai] at h;obtain ⟨⟨hk,_⟩,h2⟩:=h;have:=qfV k (off+k) ws h2 j x (by simpa using hx);refine ⟨hk.symm,?_⟩;rw[<-this.2,<-hk,Nat.add_assoc,Nat.add_comm 1 j]
section
variable {B0:Nat} {w0:World}
theorem joinS_spec (sep:List UInt8) (ws:List (List UInt8)) (hn:ws.length<=1000000000) (hl:(Go.Lib.join ws sep).length<=1000000000):LCalls (KC B0 w0) 16 [.list (ws.map str),str sep] [] (Ret (str (Go.Lib.join ws sep))):=fun xs w L hv hH=>by
 simp only[RepL] at hv;obtain ⟨y,ys,rfl,hy,z,zs,rfl,hz,rfl⟩:=hv;simp only[Rep] at hy hz;obtain ⟨a,cap,rfl,hcap,hrows⟩:=hy;subst hz;rw[zLm] at hcap
 have hmap:(ws.map fun l=>(⟨l.toArray⟩:ByteArray)).map (·.data.toList)=ws:=by
  rw[List.map_map]
  conv=>rhs;rw[<-List.map_id ws]
  rfl
 have hc:Calls Tryz.prog 16 #[.slice a ws.length cap,.string ⟨sep.toArray⟩] w fun e w'=>e=.returned (.string ⟨(Go.Lib.join ws sep).toArray⟩)/\Below w.heap.size w w':=by
  by_cases hne:ws=[]
  ·subst hne;exact (Tryz.strings_Join_none a cap ⟨sep.toArray⟩ w).mono fun e w' he=>⟨by rw[he.1];rfl,by rw[he.2];exact Below.refl _ _⟩
  ·exact zT7
 rw[zLm];refine hc.mono fun e w' he=>?_;obtain ⟨rfl,hb⟩:=he;obtain ⟨h1,h2⟩:=qgX hH hb;exact ⟨str (Go.Lib.join ws sep),[],L,h1,h2,qah,rfl,rfl⟩
end
attribute [local irreducible] LOps qae qad LCalls Go.GL.Pure qax qaj qac LQ LAny qaE qal
section
variable {B0:Nat} {w0:World}
end
end Go.Proofs.YtdakelgkjdaijaaGreatDoor
